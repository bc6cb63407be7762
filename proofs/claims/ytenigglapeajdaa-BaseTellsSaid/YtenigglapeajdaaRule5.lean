/- The contracts on grounding. -/
import Derived.Test.YtenigglapeajdaaRule2
import Derived.Test.YtenigglapeajdaaSpFact
namespace Go.TF
open Go Go.RowKit Go.Proofs
set_option maxRecDepth 10000

