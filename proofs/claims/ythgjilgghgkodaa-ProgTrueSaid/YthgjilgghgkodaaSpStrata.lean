/- Strata and needs: plain. -/
import Derived.Test.YthgjilgghgkodaaSpProg
namespace Go.TF
open Go

/-- What a program's rules use: which predicate's rule uses which literal. -/
def usesL (rs : List Rul) : List (Int × Ltl) := rs.flatMap fun r => r.body.xs.map fun x => (r.head.pred, x)
def lv (L : List Int) (i : Int) : Int := L.getD i.toNat 0
def ng (x : Ltl) : Int := if x.neg then 1 else 0
def lst (L : List Int) (c : Int × Ltl) : Int := lv L c.2.atom.pred + ng c.2
def SatC (L : List Int) (c : Int × Ltl) : Prop := lst L c ≤ lv L c.1
structure InR (cs : List (Int × Ltl)) (n : Nat) : Prop where
  h : ∀ c ∈ cs, 0 ≤ c.1 ∧ c.1 < n
  b : ∀ c ∈ cs, 0 ≤ c.2.atom.pred ∧ c.2.atom.pred < n
structure Sol (cs : List (Int × Ltl)) (n : Nat) (L : List Int) : Prop where
  len : L.length = n
  pos : ∀ i, 0 ≤ lv L i
  sat : ∀ c ∈ cs, SatC L c
structure Least (cs : List (Int × Ltl)) (n : Nat) (L : List Int) : Prop where
  sol : Sol cs n L
  least : ∀ M, Sol cs n M → ∀ i, lv L i ≤ lv M i
def StrataR (cs : List (Int × Ltl)) (n : Nat) : Option (List Int) → Prop
  | some L => Least cs n L
  | none => ∀ M, ¬ Sol cs n M
theorem lv_get {L : List Int} {i : Nat} (h : i < L.length) : lv L i = L[i] := by simp [lv, List.getD_eq_getElem?_getD, h]
theorem lv_ext {L M : List Int} (hl : L.length = M.length) (h : ∀ i, lv L i = lv M i) : L = M := by
  apply List.ext_getElem hl
  intro i h1 h2
  have := h i
  rwa [lv_get h1, lv_get h2] at this
theorem StrataR.uniq {cs : List (Int × Ltl)} {n : Nat} : ∀ {r r' : Option (List Int)}, StrataR cs n r → StrataR cs n r' → r = r'
  | none, none, _, _ => rfl
  | none, some L, h, h' => (h L h'.sol).elim
  | some L, none, h, h' => (h' L h.sol).elim
  | some L, some M, h, h' => by
    congr 1
    exact lv_ext (h.sol.len.trans h'.sol.len.symm) fun i => Int.le_antisymm (h.least M h'.sol i) (h'.least L h.sol i)
theorem ng_le (x : Ltl) : 0 ≤ ng x ∧ ng x ≤ 1 := by unfold ng; split <;> omega
theorem lv_set {L : List Int} {i : Int} (h0 : 0 ≤ i) (h1 : i < L.length) (v j : Int) (hj : 0 ≤ j) : lv (L.set i.toNat v) j = if j = i then v else lv L j := by
  simp only [lv, List.getD_eq_getElem?_getD, List.getElem?_set]
  by_cases e : j = i
  · subst e; simp [show j.toNat < L.length by omega]
  · rw [if_neg e, if_neg (by omega)]
theorem lv_neg (L : List Int) {j : Int} (hj : j < 0) : lv L j = lv L 0 := by simp [lv, show j.toNat = 0 by omega]
theorem lv_zero (n : Nat) (i : Int) : lv (List.replicate n 0) i = 0 := by
  simp only [lv, List.getD_eq_getElem?_getD, List.getElem?_replicate]; split <;> rfl

/-- How many are less. -/
def rank (M : List Int) (v : Int) : Int := (M.countP fun u => decide (u < v) : Nat)
theorem countP_lt {M : List Int} {u v : Int} (huv : u < v) {i : Nat} (hi : i < M.length) (he : M[i] = u) : (M.countP fun x => decide (x < u)) < M.countP fun x => decide (x < v) := by
  induction M generalizing i with
  | nil => simp at hi
  | cons a M ih =>
    have mono : ∀ l : List Int, (l.countP fun x => decide (x < u)) ≤ l.countP fun x => decide (x < v) := fun l => List.countP_mono_left (fun x _ hx => by simp at hx ⊢; omega)
    cases i with
    | zero =>
      simp at he; subst he
      have := mono M
      simp [huv]; omega
    | succ i =>
      have := ih (by simpa using hi) (by simpa using he)
      simp only [List.countP_cons]
      have h2 : (if decide (a < u) = true then 1 else 0) ≤ (if decide (a < v) = true then 1 else 0) := by
        by_cases h : a < u
        · simp [h, show a < v by omega]
        · simp [h]
      omega
theorem countP_self_lt {M : List Int} {u : Int} {i : Nat} (hi : i < M.length) (he : M[i] = u) : (M.countP fun x => decide (x < u)) < M.length := by
  have h1 : (M.countP fun x => decide (x < u)) ≤ M.length := List.countP_le_length
  rcases Nat.lt_or_ge (M.countP fun x => decide (x < u)) M.length with h | h
  · exact h
  · have h2 : (M.countP fun x => decide (x < u)) = M.length := by omega
    rw [List.countP_eq_length] at h2
    have := h2 M[i] (List.getElem_mem hi)
    simp [he] at this
/-- If there are strata at all, there are such that are less than the number of predicates. -/
theorem Sol.small {cs : List (Int × Ltl)} {n : Nat} {M : List Int} (hr : InR cs n) (h : Sol cs n M) : ∃ M', Sol cs n M' ∧ ∀ i : Int, 0 ≤ i → i < n → lv M' i < n := by
  have hlv : ∀ i : Int, 0 ≤ i → i < n → lv (M.map (rank M)) i = rank M (lv M i) := fun i h0 h1 => by
    have : i.toNat < M.length := by rw [h.len]; omega
    simp [lv, List.getD_eq_getElem?_getD, this]
  refine ⟨M.map (rank M), ⟨by simp [h.len], fun i => ?_, fun c hc => ?_⟩, fun i h0 h1 => ?_⟩
  · simp only [lv, List.getD_eq_getElem?_getD, List.getElem?_map]
    cases M[i.toNat]? with
    | none => simp
    | some v => simp [rank]
  · have hh := hr.h c hc
    have hb := hr.b c hc
    have hs := h.sat c hc
    unfold SatC lst at hs ⊢
    rw [hlv _ hh.1 hh.2, hlv _ hb.1 hb.2]
    have hbl : c.2.atom.pred.toNat < M.length := by rw [h.len]; omega
    have hbe : M[c.2.atom.pred.toNat] = lv M c.2.atom.pred := by simp [lv, List.getD_eq_getElem?_getD, hbl]
    by_cases hlt : lv M c.2.atom.pred < lv M c.1
    · have := countP_lt hlt hbl hbe
      have := ng_le c.2
      simp only [rank]; omega
    · have hz : ng c.2 = 0 := by have := ng_le c.2; omega
      have he : lv M c.2.atom.pred = lv M c.1 := by omega
      rw [he, hz]; omega
  · rw [hlv i h0 h1]
    have hil : i.toNat < M.length := by rw [h.len]; omega
    have hie : M[i.toNat] = lv M i := by simp [lv, List.getD_eq_getElem?_getD, hil]
    have := countP_self_lt hil hie
    rw [h.len] at this
    simp only [rank]; omega

/-- On the way: not above any strata that there are. -/
structure Good (cs : List (Int × Ltl)) (n : Nat) (L : List Int) : Prop where
  len : L.length = n
  pos : ∀ i, 0 ≤ lv L i
  le : ∀ M, Sol cs n M → ∀ i, lv L i ≤ lv M i
theorem Good.zero (cs : List (Int × Ltl)) (n : Nat) : Good cs n (List.replicate n 0) :=
  ⟨by simp, fun i => by rw [lv_zero]; omega, fun M hM i => by rw [lv_zero]; exact hM.pos i⟩
theorem Good.raise {cs : List (Int × Ltl)} {n : Nat} {L : List Int} (hr : InR cs n) (g : Good cs n L) {c : Int × Ltl} (hc : c ∈ cs) : Good cs n (L.set c.1.toNat (lst L c)) := by
  have hh := hr.h c hc
  have hb := hr.b c hc
  have hl : c.1 < L.length := by rw [g.len]; exact hh.2
  refine ⟨by simp [g.len], fun i => ?_, fun M hM i => ?_⟩
  · by_cases hi : 0 ≤ i
    · rw [lv_set hh.1 hl _ _ hi]; split
      · have := g.pos c.2.atom.pred; have := ng_le c.2; unfold lst; omega
      · exact g.pos i
    · rw [lv_neg _ (by omega), lv_set hh.1 hl _ _ (Int.le_refl 0)]; split
      · have := g.pos c.2.atom.pred; have := ng_le c.2; unfold lst; omega
      · exact g.pos 0
  · have key : ∀ i, 0 ≤ i → lv (L.set c.1.toNat (lst L c)) i ≤ lv M i := fun i hi => by
      rw [lv_set hh.1 hl _ _ hi]; split
      · rename_i e; subst e
        have h1 := hM.sat c hc
        have h2 := g.le M hM c.2.atom.pred
        unfold SatC at h1; unfold lst at h1 ⊢; omega
      · exact g.le M hM i
    by_cases hi : 0 ≤ i
    · exact key i hi
    · rw [lv_neg _ (by omega), lv_neg M (by omega)]; exact key 0 (Int.le_refl 0)
theorem Good.done {cs : List (Int × Ltl)} {n : Nat} {L : List Int} (g : Good cs n L) (h : ∀ c ∈ cs, SatC L c) : StrataR cs n (some L) := ⟨⟨g.len, g.pos, h⟩, g.le⟩
theorem Good.fail {cs : List (Int × Ltl)} {n : Nat} {L : List Int} (hr : InR cs n) (g : Good cs n L) {c : Int × Ltl} (hc : c ∈ cs) (hn : n ≤ lst L c) : StrataR cs n none := fun M hM => by
  obtain ⟨M', hM', hlt⟩ := hM.small hr
  have hh := hr.h c hc
  have h1 := hM'.sat c hc
  have h2 := g.le M' hM' c.2.atom.pred
  have h3 := hlt c.1 hh.1 hh.2
  unfold SatC at h1; unfold lst at h1 hn; omega
theorem Good.lt {cs : List (Int × Ltl)} {n : Nat} {L : List Int} (hr : InR cs n) (g : Good cs n L) (hs : ∃ M, Sol cs n M) {i : Int} (h0 : 0 ≤ i) (h1 : i < n) : lv L i < n := by
  obtain ⟨M, hM⟩ := hs
  obtain ⟨M', hM', hlt⟩ := hM.small hr
  exact Int.lt_of_le_of_lt (g.le M' hM' i) (hlt i h0 h1)
/-- How much can be raised still. -/
def pot (n : Nat) (L : List Int) : Nat := (L.map fun v => ((n : Int) - v).toNat).sum
theorem sum_set_lt : ∀ (l : List Nat) (i : Nat) (y : Nat) (h : i < l.length), y < l[i] → (l.set i y).sum < l.sum
  | a :: l, 0, y, _, hy => by simp at hy ⊢; omega
  | a :: l, i + 1, y, h, hy => by
    have := sum_set_lt l i y (by simpa using h) (by simpa using hy)
    simp only [List.set_cons_succ, List.sum_cons]; omega
theorem sum_set_le : ∀ (l : List Nat) (i : Nat) (y : Nat) (h : i < l.length), y ≤ l[i] → (l.set i y).sum ≤ l.sum
  | a :: l, 0, y, _, hy => by simp at hy ⊢; omega
  | a :: l, i + 1, y, h, hy => by
    have := sum_set_le l i y (by simpa using h) (by simpa using hy)
    simp only [List.set_cons_succ, List.sum_cons]; omega
theorem pot_set_lt {n : Nat} {L : List Int} {i : Int} {v : Int} (h0 : 0 ≤ i) (h1 : i < L.length) (hv : lv L i < v) (hn : lv L i < n) : pot n (L.set i.toNat v) < pot n L := by
  have hi : i.toNat < L.length := by omega
  have he : L[i.toNat] = lv L i := by simp [lv, List.getD_eq_getElem?_getD, hi]
  unfold pot
  rw [List.map_set]
  refine sum_set_lt _ _ _ (by simpa using hi) ?_
  rw [List.getElem_map, he]; omega
theorem pot_set_le {n : Nat} {L : List Int} {i : Int} {v : Int} (h0 : 0 ≤ i) (h1 : i < L.length) (hv : lv L i < v) : pot n (L.set i.toNat v) ≤ pot n L := by
  have hi : i.toNat < L.length := by omega
  have he : L[i.toNat] = lv L i := by simp [lv, List.getD_eq_getElem?_getD, hi]
  unfold pot
  rw [List.map_set]
  refine sum_set_le _ _ _ (by simpa using hi) ?_
  rw [List.getElem_map, he]; omega
theorem pot_zero (n : Nat) : pot n (List.replicate n 0) = n * n := by
  unfold pot
  rw [List.map_replicate]
  simp

/-- Within one pass over all uses. -/
structure Pass (cs : List (Int × Ltl)) (n : Nat) (L : List Int) (same : Bool) (L' : List Int) (done : List (Int × Ltl)) : Prop where
  good : Good cs n L'
  t : same = true → L' = L ∧ ∀ c ∈ done, SatC L c
  f : same = false → (∃ M, Sol cs n M) → pot n L' + 1 ≤ pot n L
theorem Pass.start {cs : List (Int × Ltl)} {n : Nat} {L : List Int} (g : Good cs n L) : Pass cs n L true L [] := ⟨g, fun _ => ⟨rfl, by simp⟩, fun h => by cases h⟩
theorem Pass.keep {cs : List (Int × Ltl)} {n : Nat} {L L' : List Int} {same : Bool} {done : List (Int × Ltl)} (x : Pass cs n L same L' done) {c : Int × Ltl} (h : ¬ lv L' c.1 < lst L' c) : Pass cs n L same L' (done ++ [c]) :=
  ⟨x.good, fun hs => ⟨(x.t hs).1, fun d hd => by
    rcases List.mem_append.1 hd with h1 | h1
    · exact (x.t hs).2 d h1
    · rw [List.mem_singleton.1 h1]
      have := (x.t hs).1
      subst this
      unfold SatC; omega⟩, x.f⟩
theorem Pass.raise {cs : List (Int × Ltl)} {n : Nat} {L L' : List Int} {same : Bool} {done : List (Int × Ltl)} (hr : InR cs n) (x : Pass cs n L same L' done) {c : Int × Ltl} (hc : c ∈ cs) (h : lv L' c.1 < lst L' c) : Pass cs n L false (L'.set c.1.toNat (lst L' c)) (done ++ [c]) := by
  have hh := hr.h c hc
  refine ⟨x.good.raise hr hc, (fun h => by cases h), fun _ hs => ?_⟩
  have h1 := pot_set_lt (n := n) hh.1 (by rw [x.good.len]; exact hh.2) h (x.good.lt hr hs hh.1 hh.2)
  cases hsm : same
  · have := x.f hsm hs; omega
  · have := (x.t hsm).1; subst this; omega
theorem bound_raise {cs : List (Int × Ltl)} {n : Nat} {L : List Int} {t : Int} (hr : InR cs n) (hl : L.length = n) (hb : ∀ i, lv L i ≤ t) {c : Int × Ltl} (hc : c ∈ cs) : ∀ i, lv (L.set c.1.toNat (lst L c)) i ≤ t + 1 := fun i => by
  have hh := hr.h c hc
  have h1 := hb c.2.atom.pred
  have h2 := ng_le c.2
  have key : ∀ i, 0 ≤ i → lv (L.set c.1.toNat (lst L c)) i ≤ t + 1 := fun i h0 => by
    rw [lv_set hh.1 (by rw [hl]; exact hh.2) _ _ h0]; split
    · unfold lst; omega
    · have := hb i; omega
  by_cases h0 : 0 ≤ i
  · exact key i h0
  · rw [lv_neg _ (by omega)]; exact key 0 (Int.le_refl 0)
/-! ### Needs -/
def Uses (cs : List (Int × Ltl)) (a b : Int) : Prop := ∃ c ∈ cs, c.1 = a ∧ c.2.atom.pred = b
inductive Reach (cs : List (Int × Ltl)) (a : Int) : Int → Prop
  | refl : Reach cs a a
  | step {b c : Int} : Reach cs a b → Uses cs b c → Reach cs a c
def bv (N : List Bool) (i : Int) : Bool := N.getD i.toNat false
structure NeedsR (cs : List (Int × Ltl)) (n : Nat) (p : Int) (N : List Bool) : Prop where
  len : N.length = n
  iff : ∀ i : Int, 0 ≤ i → i < n → (bv N i = true ↔ Reach cs p i)
theorem NeedsR.uniq {cs : List (Int × Ltl)} {n : Nat} {p : Int} {N N' : List Bool} (h : NeedsR cs n p N) (h' : NeedsR cs n p N') : N = N' := by
  apply List.ext_getElem (h.len.trans h'.len.symm)
  intro i h1 h2
  have a := h.iff i (by omega) (by have := h.len; omega)
  have b := h'.iff i (by omega) (by have := h.len; omega)
  have e1 : bv N i = N[i] := by simp [bv, List.getD_eq_getElem?_getD, h1]
  have e2 : bv N' i = N'[i] := by simp [bv, List.getD_eq_getElem?_getD, h2]
  rw [e1] at a; rw [e2] at b
  cases hx : N[i] <;> cases hy : N'[i] <;> simp_all
theorem bv_set {N : List Bool} {i : Int} (h0 : 0 ≤ i) (h1 : i < N.length) (v : Bool) (j : Int) (hj : 0 ≤ j) : bv (N.set i.toNat v) j = if j = i then v else bv N j := by
  simp only [bv, List.getD_eq_getElem?_getD, List.getElem?_set]
  by_cases e : j = i
  · subst e; simp [show j.toNat < N.length by omega]
  · rw [if_neg e, if_neg (by omega)]
theorem bv_none (n : Nat) (i : Int) : bv (List.replicate n false) i = false := by
  simp only [bv, List.getD_eq_getElem?_getD, List.getElem?_replicate]; split <;> rfl
def ClosedN (cs : List (Int × Ltl)) (N : List Bool) : Prop := ∀ c ∈ cs, bv N c.1 = true → bv N c.2.atom.pred = true
theorem NeedsR.of {cs : List (Int × Ltl)} {n : Nat} {p : Int} {N : List Bool} (hl : N.length = n) (hs : ∀ i : Int, 0 ≤ i → i < n → bv N i = true → Reach cs p i) (hp : bv N p = true) (hc : ClosedN cs N) : NeedsR cs n p N := by
  refine ⟨hl, fun i h0 h1 => ⟨hs i h0 h1, fun h => ?_⟩⟩
  clear h0 h1
  induction h with
  | refl => exact hp
  | step _ hu ih => obtain ⟨c, hc1, rfl, rfl⟩ := hu; exact hc c hc1 ih
def trues (N : List Bool) : Nat := N.countP id
theorem trues_set : ∀ (N : List Bool) (i : Nat) (h : i < N.length), N[i] = false → trues (N.set i true) = trues N + 1
  | a :: N, 0, _, hf => by simp at hf; subst hf; simp [trues]
  | a :: N, i + 1, h, hf => by
    have := trues_set N i (by simpa using h) (by simpa using hf)
    unfold trues at this ⊢
    simp only [List.set_cons_succ, List.countP_cons, this]; omega
theorem set_same : ∀ (N : List Bool) (i : Nat) (h : i < N.length), N[i] = true → N.set i true = N
  | a :: N, 0, _, hf => by simp at hf; subst hf; rfl
  | a :: N, i + 1, h, hf => by simp [set_same N i (by simpa using h) (by simpa using hf)]
theorem trues_le (N : List Bool) : trues N ≤ N.length := List.countP_le_length

/-- Within one pass over all uses. -/
structure PassN (cs : List (Int × Ltl)) (n : Nat) (p : Int) (N N1 : List Bool) (done : List (Int × Ltl)) : Prop where
  len : N1.length = n
  snd : ∀ i : Int, 0 ≤ i → i < n → bv N1 i = true → Reach cs p i
  has : bv N1 p = true
  or : (N1 = N ∧ ∀ c ∈ done, bv N c.1 = true → bv N c.2.atom.pred = true) ∨ trues N < trues N1
  closed : ClosedN cs N → N1 = N
theorem PassN.skip {cs : List (Int × Ltl)} {n : Nat} {p : Int} {N N1 : List Bool} {done more : List (Int × Ltl)} (x : PassN cs n p N N1 done) (h : ∀ c ∈ more, bv N1 c.1 = false) : PassN cs n p N N1 (done ++ more) :=
  ⟨x.len, x.snd, x.has, x.or.imp (fun ⟨e, hd⟩ => ⟨e, fun c hc => by
    rcases List.mem_append.1 hc with h1 | h1
    · exact hd c h1
    · intro ht; rw [← e, h c h1] at ht; cases ht⟩) id, x.closed⟩
theorem PassN.put {cs : List (Int × Ltl)} {n : Nat} {p : Int} {N N1 : List Bool} {done : List (Int × Ltl)} (hr : InR cs n) (hp : 0 ≤ p) (x : PassN cs n p N N1 done) {c : Int × Ltl} (hc : c ∈ cs) (ht : bv N1 c.1 = true) : PassN cs n p N (N1.set c.2.atom.pred.toNat true) (done ++ [c]) := by
  have hh := hr.h c hc
  have hb := hr.b c hc
  have hl : c.2.atom.pred < N1.length := by rw [x.len]; exact hb.2
  have hi : c.2.atom.pred.toNat < N1.length := by omega
  have hrc : Reach cs p c.2.atom.pred := .step (x.snd _ hh.1 hh.2 ht) ⟨c, hc, rfl, rfl⟩
  have he : N1[c.2.atom.pred.toNat] = bv N1 c.2.atom.pred := by simp [bv, List.getD_eq_getElem?_getD, hi]
  by_cases hq : bv N1 c.2.atom.pred = true
  · rw [set_same N1 _ hi (by rw [he]; exact hq)]
    exact ⟨x.len, x.snd, x.has, x.or.imp (fun ⟨e, hd⟩ => ⟨e, fun d hd' => by
      rcases List.mem_append.1 hd' with h1 | h1
      · exact hd d h1
      · rw [List.mem_singleton.1 h1]; intro _; rw [← e]; exact hq⟩) id, x.closed⟩
  · have hq' : bv N1 c.2.atom.pred = false := by simpa using hq
    have htr := trues_set N1 _ hi (by rw [he]; exact hq')
    refine ⟨by simp [x.len], fun i h0 h1 h => ?_, ?_, .inr ?_, fun hcl => ?_⟩
    · rw [bv_set hb.1 hl _ _ h0] at h
      split at h
      · rename_i e; rw [e]; exact hrc
      · exact x.snd i h0 h1 h
    · rw [bv_set hb.1 hl _ _ hp]; split
      · rfl
      · exact x.has
    · rcases x.or with ⟨e, _⟩ | h
      · subst e; omega
      · omega
    · have e := x.closed hcl
      subst e
      exact absurd (hcl c hc ht) hq
theorem trues_none (n : Nat) : trues (List.replicate n false) = 0 := by simp [trues, List.countP_replicate]
/-! ### Names -/
def lowB (b : UInt8) : Bool := decide (97 ≤ b.toNat) && decide (b.toNat ≤ 122)
def isName (s : ByteArray) : Bool := decide (1 ≤ s.size) && decide (s.size ≤ 8) && s.data.toList.all lowB
/-! ### Programs -/
def rulesErr (l : List Prd) : List Rul → Int
  | [] => 0
  | r :: rs => if checkRule l r ≠ 0 then checkRule l r else rulesErr l rs
theorem rulesErr_zero {l : List Prd} {rs : List Rul} : rulesErr l rs = 0 ↔ ∀ r ∈ rs, checkRule l r = 0 := by
  induction rs with
  | nil => simp [rulesErr]
  | cons x r ih =>
    simp only [rulesErr, List.mem_cons, forall_eq_or_imp]
    by_cases h : checkRule l x = 0
    · simp [h, ih]
    · simp [h]
theorem rulesErr_at {l : List Prd} {b : List Rul} {k : Nat} (hk : k < b.length) (h1 : ∀ j, j < k → ∀ hj' : j < b.length, checkRule l b[j] = 0) (h2 : checkRule l b[k] ≠ 0) : rulesErr l b = checkRule l b[k] := by
  induction b generalizing k with
  | nil => simp at hk
  | cons x r ih =>
    cases k with
    | zero => simp only [List.getElem_cons_zero] at h2 ⊢; simp [rulesErr, h2]
    | succ k =>
      have h0 := h1 0 (by omega) (by simp)
      simp only [List.getElem_cons_zero] at h0
      simp only [rulesErr, h0, List.getElem_cons_succ]
      simp only [List.getElem_cons_succ] at h2
      exact ih (by simpa using hk) (fun j _ hj' => by have := h1 (j + 1) (by omega) (by simpa using hj'); simpa using this) h2
/-- Does a name stand there twice? -/
def early (l : List Prd) (k : Nat) : Bool := (l.take k).any fun y => decide (y.name = (l.getD k default).name)
def twice (l : List Prd) : Bool := (List.range l.length).any (early l)
def badArity (x : Prd) : Bool := decide (x.arity < 0 ∨ 2 < x.arity)
def badKind (x : Prd) : Bool := decide (x.kind < 0 ∨ 3 < x.kind)
open Classical in
noncomputable def checkProg (p : Prg) : Int :=
  if 5 < p.preds.xs.length ∨ 8 < p.rules.xs.length then 2
  else if p.preds.xs.any (fun x => !isName x.name) then 5
  else if twice p.preds.xs then 6
  else if p.preds.xs.any badArity then 3
  else if p.preds.xs.any badKind then 4
  else if rulesErr p.preds.xs p.rules.xs ≠ 0 then rulesErr p.preds.xs p.rules.xs
  else if ∃ M, Sol (usesL p.rules.xs) p.preds.xs.length M then 0 else 8
theorem checkRule_ok {l : List Prd} {r : Rul} (h : checkRule l r = 0) : checkAtom l r.head = 0 ∧ r.body.xs.length ≤ 3 ∧ ∀ x ∈ r.body.xs, checkAtom l x.atom = 0 := by
  unfold checkRule at h
  split at h
  · rename_i h1; exact absurd h h1
  split at h
  · cases h
  split at h
  · rename_i h1; exact absurd h h1
  rename_i h1 h2 h3
  exact ⟨Decidable.not_not.1 h1, by omega, bodyErr_ne.1 (Decidable.not_not.1 h3)⟩
theorem checkAtom_in' {l : List Prd} {a : Atm} (h : checkAtom l a = 0) : 0 ≤ a.pred ∧ a.pred < l.length := by
  unfold checkAtom at h
  split at h
  · cases h
  · omega
theorem inR_of {l : List Prd} {rs : List Rul} (h : rulesErr l rs = 0) : InR (usesL rs) l.length := by
  have key : ∀ c ∈ usesL rs, ∃ r ∈ rs, ∃ x ∈ r.body.xs, c = (r.head.pred, x) := fun c hc => by
    unfold usesL at hc
    obtain ⟨r, hr, hc⟩ := List.mem_flatMap.1 hc
    obtain ⟨x, hx, rfl⟩ := List.mem_map.1 hc
    exact ⟨r, hr, x, hx, rfl⟩
  refine ⟨fun c hc => ?_, fun c hc => ?_⟩ <;> obtain ⟨r, hr, x, hx, rfl⟩ := key c hc <;> have h1 := checkRule_ok (rulesErr_zero.1 h r hr)
  · exact checkAtom_in' h1.1
  · exact checkAtom_in' (h1.2.2 x hx)
theorem checkProg_ok {p : Prg} (h : checkProg p = 0) : p.preds.xs.length ≤ 5 ∧ p.rules.xs.length ≤ 8 ∧ rulesErr p.preds.xs p.rules.xs = 0 ∧ ∃ M, Sol (usesL p.rules.xs) p.preds.xs.length M := by
  unfold checkProg at h
  split at h
  · cases h
  split at h
  · cases h
  split at h
  · cases h
  split at h
  · cases h
  split at h
  · cases h
  split at h
  · rename_i h1; exact absurd h h1
  split at h
  · rename_i h1 _ _ _ _ h2 h3
    exact ⟨by omega, by omega, Decidable.not_not.1 h2, h3⟩
  · cases h
def Prg.Nm (p : Prg) : Prop := ∀ x ∈ p.preds.xs, x.name.size ≤ 140737488355328
end Go.TF
