/- What is checked of programs, wherever they lie; what the roads' strata and needs are: plain. -/
import Derived.Test.YthgjilgghgkodaaSpStrata
import Derived.KernelRfl
namespace Go.TF
open Go

theorem ne_true {b : Bool} (h : b = false) : ¬ b = true := by rw [h]; decide
def cEr (c : Int × Ltl) : Int × Ltl := (c.1, c.2.er)
theorem usesL_er (rs : List Rul) : usesL (rs.map Rul.er) = (usesL rs).map cEr := by
  induction rs with
  | nil => rfl
  | cons r rs ih =>
    unfold usesL at ih ⊢
    simp only [List.map_cons, List.flatMap_cons, List.map_append, ih]
    congr 1
    simp [Rul.er, cEr, Function.comp_def, Atm.er]
theorem satC_er (L : List Int) (c : Int × Ltl) : SatC L (cEr c) ↔ SatC L c := Iff.rfl
theorem sol_er {cs : List (Int × Ltl)} {n : Nat} {L : List Int} : Sol (cs.map cEr) n L ↔ Sol cs n L :=
  ⟨fun h => ⟨h.len, h.pos, fun c hc => h.sat (cEr c) (List.mem_map_of_mem hc)⟩, fun h => ⟨h.len, h.pos, fun c hc => by obtain ⟨d, hd, rfl⟩ := List.mem_map.1 hc; exact h.sat d hd⟩⟩
theorem least_er {cs : List (Int × Ltl)} {n : Nat} {L : List Int} (h : Least (cs.map cEr) n L) : Least cs n L := ⟨sol_er.1 h.sol, fun M hM => h.least M (sol_er.2 hM)⟩
theorem reach_er {cs : List (Int × Ltl)} {a b : Int} (h : Reach (cs.map cEr) a b) : Reach cs a b := by
  induction h with
  | refl => exact .refl
  | step _ hu ih =>
    obtain ⟨c, hc, rfl, rfl⟩ := hu
    obtain ⟨d, hd, rfl⟩ := List.mem_map.1 hc
    exact .step ih ⟨d, hd, rfl, rfl⟩
theorem rulesErr_er (l : List Prd) (rs : List Rul) : rulesErr l (rs.map Rul.er) = rulesErr l rs := by
  induction rs with
  | nil => rfl
  | cons r rs ih => simp only [List.map_cons, rulesErr, checkRule_er, ih]
theorem checkProg_er (p : Prg) : checkProg p.er = checkProg p := by
  have h1 : p.er.preds.xs = p.preds.xs := rfl
  have h2 : p.er.rules.xs = p.rules.xs.map Rul.er := rfl
  unfold checkProg
  rw [h1, h2, List.length_map, rulesErr_er, usesL_er]
  rw [show (∃ M, Sol ((usesL p.rules.xs).map cEr) p.preds.xs.length M) = (∃ M, Sol (usesL p.rules.xs) p.preds.xs.length M) from propext ⟨fun ⟨M, h⟩ => ⟨M, sol_er.1 h⟩, fun ⟨M, h⟩ => ⟨M, sol_er.2 h⟩⟩]

/-! ### The roads -/
theorem lv3 {a b c : Int} (ha : 0 ≤ a) (hb : 0 ≤ b) (hc : 0 ≤ c) (i : Int) : 0 ≤ lv [a, b, c] i := by
  unfold lv
  rw [List.getD_eq_getElem?_getD]
  match i.toNat with
  | 0 => exact ha
  | 1 => exact hb
  | 2 => exact hc
  | _ + 3 => exact Int.le_refl 0
theorem roads_least : Least (usesL roadsC.rules.xs) 3 [0, 0, 1] := by
  refine ⟨⟨rfl, lv3 (by decide) (by decide) (by decide), ?_⟩, fun M hM i => ?_⟩
  · have : ∀ c ∈ usesL roadsC.rules.xs, lst [0, 0, 1] c ≤ lv [0, 0, 1] c.1 := by decide
    exact this
  · have h2 := hM.sat (2, ⟨true, aT 1 [tV 0, tV 0]⟩) (List.mem_of_getElem? (i := 4) rfl)
    have h1 := hM.pos 1
    have e : lst M (2, ⟨true, aT 1 [tV 0, tV 0]⟩) = lv M 1 + 1 := rfl
    unfold SatC at h2
    rw [e] at h2
    dsimp only at h2
    have hi := hM.pos i
    have key : lv [0, 0, 1] i = if i = 2 then 1 else 0 := by
      unfold lv
      rw [List.getD_eq_getElem?_getD]
      by_cases e : i = 2
      · subst e; rfl
      · rw [if_neg e]
        have : i.toNat ≠ 2 := by omega
        match h : i.toNat with
        | 0 => rfl
        | 1 => rfl
        | 2 => exact absurd h this
        | _ + 3 => rfl
    rw [key]
    split
    · rename_i e; subst e; omega
    · exact hi
theorem roads_check : checkProg roadsC = 0 := by
  unfold checkProg
  rw [if_neg (by decide), if_neg (ne_true (show (roadsC.preds.xs.any fun x => !isName x.name) = false by kernel_rfl)), if_neg (ne_true (show twice roadsC.preds.xs = false by kernel_rfl)), if_neg (ne_true (show roadsC.preds.xs.any badArity = false by kernel_rfl)), if_neg (ne_true (show roadsC.preds.xs.any badKind = false by kernel_rfl)), if_neg (by rw [show rulesErr roadsC.preds.xs roadsC.rules.xs = 0 by kernel_rfl]; decide)]
  exact if_pos ⟨_, roads_least.sol⟩
theorem roads_needs : NeedsR (usesL roadsC.rules.xs) 3 1 [true, true, false] := by
  refine NeedsR.of rfl (fun i h0 h1 h => ?_) rfl ?_
  · have : i = 0 ∨ i = 1 ∨ i = 2 := by omega
    rcases this with rfl | rfl | rfl
    · exact .step .refl ⟨(1, ⟨false, aT 0 [tV 0, tV 1]⟩), List.mem_of_getElem? (i := 0) rfl, rfl, rfl⟩
    · exact .refl
    · cases h
  · have : ∀ c ∈ usesL roadsC.rules.xs, bv [true, true, false] c.1 = true → bv [true, true, false] c.2.atom.pred = true := by decide
    exact this
theorem needs_er {cs : List (Int × Ltl)} {n : Nat} {p : Int} {N : List Bool} (h : NeedsR (cs.map cEr) n p N) : NeedsR cs n p N := by
  refine ⟨h.len, fun i h0 h1 => (h.iff i h0 h1).trans ⟨reach_er, fun hr => ?_⟩⟩
  clear h0 h1
  induction hr with
  | refl => exact .refl
  | step _ hu ih => obtain ⟨c, hc, rfl, rfl⟩ := hu; exact .step ih ⟨cEr c, List.mem_map_of_mem hc, rfl, rfl⟩
/-- The roads, two of whose rules go round with not. -/
def roundC : Prg := ⟨⟨none, 0, roadsC.preds.xs⟩, ⟨none, 0, roadsC.rules.xs.set 4 (rT (aT 1 [tV 0, tV 1]) (-1) 1 [⟨true, aT 2 [tV 0]⟩, ⟨false, aT 0 [tV 0, tV 1]⟩])⟩⟩
theorem round_check : checkProg roundC = 8 := by
  unfold checkProg
  rw [if_neg (by decide), if_neg (ne_true (show (roundC.preds.xs.any fun x => !isName x.name) = false by kernel_rfl)), if_neg (ne_true (show twice roundC.preds.xs = false by kernel_rfl)), if_neg (ne_true (show roundC.preds.xs.any badArity = false by kernel_rfl)), if_neg (ne_true (show roundC.preds.xs.any badKind = false by kernel_rfl)), if_neg (by rw [show rulesErr roundC.preds.xs roundC.rules.xs = 0 by kernel_rfl]; decide)]
  refine if_neg fun ⟨M, hM⟩ => ?_
  have h1 := hM.sat (2, ⟨true, aT 1 [tV 0, tV 0]⟩) (List.mem_of_getElem? (i := 5) rfl)
  have h2 := hM.sat (1, ⟨true, aT 2 [tV 0]⟩) (List.mem_of_getElem? (i := 0) rfl)
  have e1 : lst M (2, ⟨true, aT 1 [tV 0, tV 0]⟩) = lv M 1 + 1 := rfl
  have e2 : lst M (1, ⟨true, aT 2 [tV 0]⟩) = lv M 2 + 1 := rfl
  unfold SatC at h1 h2
  rw [e1] at h1
  rw [e2] at h2
  dsimp only at h1 h2
  omega
/-- The roads, a name of which stands twice. -/
def againC : Prg := ⟨⟨none, 0, [⟨bEdge, 2, 0⟩, ⟨bEdge, 2, 2⟩, ⟨bLone, 1, 0⟩]⟩, roadsC.rules⟩
theorem again_check : checkProg againC = 6 := by
  unfold checkProg
  rw [if_neg (by decide), if_neg (ne_true (show (againC.preds.xs.any fun x => !isName x.name) = false by kernel_rfl)), if_pos (show twice againC.preds.xs = true by kernel_rfl)]
end Go.TF
