/- The contracts on grounding, on. -/
import Derived.Test.YtenigglapeajdaaRule5
namespace Go.TF
open Go Go.RowKit Go.Proofs
set_option maxRecDepth 10000

theorem not_within {a lo hi : Int} : (!decide (within a lo hi)) = true ↔ a < lo ∨ hi < a := by
  simp only [Bool.not_eq_true', decide_eq_false_iff_not]; unfold within; omega
theorem grBad_iff {a : Atm} {x : Vrs} : grBad a x = true ↔ ∃ v, cntA [a] v ≠ 0 ∧ (x.at v < 0 ∨ 4 < x.at v) := by
  simp only [cntA_pos, List.mem_singleton, exists_eq_left, grBad, standsIn, List.any_eq_true, Bool.and_eq_true, not_within, decide_eq_true_eq]
  constructor
  · rintro ⟨t, ht, hv, hb⟩; exact ⟨t.n, ⟨t, ht, hv, rfl⟩, hb⟩
  · rintro ⟨v, ⟨t, ht, hv, rfl⟩, hb⟩; exact ⟨t, ht, hv, hb⟩
