/- Join, Lift, Leq and the references: contracts. -/
import Derived.Test.YtenigglapeajdaaLat
namespace Go.TF
open Go Go.RowKit Go.Proofs
set_option maxRecDepth 10000
