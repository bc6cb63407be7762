/- Texts SpStrata SpFire Fir1 Base16 Base17 Fir2 SortLay. -/
import Derived.Test.YtgblgeddpegplaaGreatU3
import Derived.Test.YtgblgeddpegplaaGreatU4
import Derived.Test.YtgblgeddpegplaaGreatU2
import Derived.Shelf.SlSortCmp.WholeK
import Derived.Ground.SlsfProg
import Derived.Test.YtgblgeddpegplaaGreatProg
section
/- Strata and needs: plain. -/
namespace Go.TF
open Go

/-- What a program's rules use: which predicate's rule uses which literal. -/
def usesL (rs : List Rul) : List (Int × Ltl) := rs.flatMap fun r => r.body.xs.map fun x => (r.head.pred, x)
def lv (L : List Int) (i : Int) : Int := L.getD i.toNat 0
def ng (x : Ltl) : Int := if x.neg then 1 else 0
def lst (L : List Int) (c : Int × Ltl) : Int := lv L c.2.atom.pred + ng c.2
def SatC (L : List Int) (c : Int × Ltl) : Prop := lst L c ≤ lv L c.1
structure InR (cs : List (Int × Ltl)) (n : Nat) : Prop where
  h : ∀ c ∈ cs, 0 ≤ c.1 ∧ c.1 < n
  b : ∀ c ∈ cs, 0 ≤ c.2.atom.pred ∧ c.2.atom.pred < n
structure Sol (cs : List (Int × Ltl)) (n : Nat) (L : List Int) : Prop where
  len : L.length = n
  pos : ∀ i, 0 ≤ lv L i
  sat : ∀ c ∈ cs, SatC L c
structure Least (cs : List (Int × Ltl)) (n : Nat) (L : List Int) : Prop where
  sol : Sol cs n L
  least : ∀ M, Sol cs n M → ∀ i, lv L i ≤ lv M i
def StrataR (cs : List (Int × Ltl)) (n : Nat) : Option (List Int) → Prop
  | some L => Least cs n L
  | none => ∀ M, ¬ Sol cs n M
theorem lv_get {L : List Int} {i : Nat} (h : i < L.length) : lv L i = L[i] := by simp [lv, List.getD_eq_getElem?_getD, h]
theorem lv_ext {L M : List Int} (hl : L.length = M.length) (h : ∀ i, lv L i = lv M i) : L = M := by
  apply List.ext_getElem hl
  intro i h1 h2
  have := h i
  rwa [lv_get h1, lv_get h2] at this
theorem StrataR.uniq {cs : List (Int × Ltl)} {n : Nat} : ∀ {r r' : Option (List Int)}, StrataR cs n r → StrataR cs n r' → r = r'
  | none, none, _, _ => rfl
  | none, some L, h, h' => (h L h'.sol).elim
  | some L, none, h, h' => (h' L h.sol).elim
  | some L, some M, h, h' => by
    congr 1
    exact lv_ext (h.sol.len.trans h'.sol.len.symm) fun i => Int.le_antisymm (h.least M h'.sol i) (h'.least L h.sol i)
theorem ng_le (x : Ltl) : 0 ≤ ng x ∧ ng x ≤ 1 := by unfold ng; split <;> omega
theorem lv_set {L : List Int} {i : Int} (h0 : 0 ≤ i) (h1 : i < L.length) (v j : Int) (hj : 0 ≤ j) : lv (L.set i.toNat v) j = if j = i then v else lv L j := by
  simp only [lv, List.getD_eq_getElem?_getD, List.getElem?_set]
  by_cases e : j = i
  · subst e; simp [show j.toNat < L.length by omega]
  · rw [if_neg e, if_neg (by omega)]
theorem lv_neg (L : List Int) {j : Int} (hj : j < 0) : lv L j = lv L 0 := by simp [lv, show j.toNat = 0 by omega]
theorem lv_zero (n : Nat) (i : Int) : lv (List.replicate n 0) i = 0 := by
  simp only [lv, List.getD_eq_getElem?_getD, List.getElem?_replicate]; split <;> rfl

/-- How many are less. -/
def rank (M : List Int) (v : Int) : Int := (M.countP fun u => decide (u < v) : Nat)
theorem countP_lt {M : List Int} {u v : Int} (huv : u < v) {i : Nat} (hi : i < M.length) (he : M[i] = u) : (M.countP fun x => decide (x < u)) < M.countP fun x => decide (x < v) := by
  induction M generalizing i with
  | nil => simp at hi
  | cons a M ih =>
    have mono : ∀ l : List Int, (l.countP fun x => decide (x < u)) ≤ l.countP fun x => decide (x < v) := fun l => List.countP_mono_left (fun x _ hx => by simp at hx ⊢; omega)
    cases i with
    | zero =>
      simp at he; subst he
      have := mono M
      simp [huv]; omega
    | succ i =>
      have := ih (by simpa using hi) (by simpa using he)
      simp only [List.countP_cons]
      have h2 : (if decide (a < u) = true then 1 else 0) ≤ (if decide (a < v) = true then 1 else 0) := by
        by_cases h : a < u
        · simp [h, show a < v by omega]
        · simp [h]
      omega
theorem countP_self_lt {M : List Int} {u : Int} {i : Nat} (hi : i < M.length) (he : M[i] = u) : (M.countP fun x => decide (x < u)) < M.length := by
  have h1 : (M.countP fun x => decide (x < u)) ≤ M.length := List.countP_le_length
  rcases Nat.lt_or_ge (M.countP fun x => decide (x < u)) M.length with h | h
  · exact h
  · have h2 : (M.countP fun x => decide (x < u)) = M.length := by omega
    rw [List.countP_eq_length] at h2
    have := h2 M[i] (List.getElem_mem hi)
    simp [he] at this
/-- If there are strata at all, there are such that are less than the number of predicates. -/
theorem Sol.small {cs : List (Int × Ltl)} {n : Nat} {M : List Int} (hr : InR cs n) (h : Sol cs n M) : ∃ M', Sol cs n M' ∧ ∀ i : Int, 0 ≤ i → i < n → lv M' i < n := by
  have hlv : ∀ i : Int, 0 ≤ i → i < n → lv (M.map (rank M)) i = rank M (lv M i) := fun i h0 h1 => by
    have : i.toNat < M.length := by rw [h.len]; omega
    simp [lv, List.getD_eq_getElem?_getD, this]
  refine ⟨M.map (rank M), ⟨by simp [h.len], fun i => ?_, fun c hc => ?_⟩, fun i h0 h1 => ?_⟩
  · simp only [lv, List.getD_eq_getElem?_getD, List.getElem?_map]
    cases M[i.toNat]? with
    | none => simp
    | some v => simp [rank]
  · have hh := hr.h c hc
    have hb := hr.b c hc
    have hs := h.sat c hc
    unfold SatC lst at hs ⊢
    rw [hlv _ hh.1 hh.2, hlv _ hb.1 hb.2]
    have hbl : c.2.atom.pred.toNat < M.length := by rw [h.len]; omega
    have hbe : M[c.2.atom.pred.toNat] = lv M c.2.atom.pred := by simp [lv, List.getD_eq_getElem?_getD, hbl]
    by_cases hlt : lv M c.2.atom.pred < lv M c.1
    · have := countP_lt hlt hbl hbe
      have := ng_le c.2
      simp only [rank]; omega
    · have hz : ng c.2 = 0 := by have := ng_le c.2; omega
      have he : lv M c.2.atom.pred = lv M c.1 := by omega
      rw [he, hz]; omega
  · rw [hlv i h0 h1]
    have hil : i.toNat < M.length := by rw [h.len]; omega
    have hie : M[i.toNat] = lv M i := by simp [lv, List.getD_eq_getElem?_getD, hil]
    have := countP_self_lt hil hie
    rw [h.len] at this
    simp only [rank]; omega

/-- On the way: not above any strata that there are. -/
structure Good (cs : List (Int × Ltl)) (n : Nat) (L : List Int) : Prop where
  len : L.length = n
  pos : ∀ i, 0 ≤ lv L i
  le : ∀ M, Sol cs n M → ∀ i, lv L i ≤ lv M i
theorem Good.zero (cs : List (Int × Ltl)) (n : Nat) : Good cs n (List.replicate n 0) :=
  ⟨by simp, fun i => by rw [lv_zero]; omega, fun M hM i => by rw [lv_zero]; exact hM.pos i⟩
theorem Good.raise {cs : List (Int × Ltl)} {n : Nat} {L : List Int} (hr : InR cs n) (g : Good cs n L) {c : Int × Ltl} (hc : c ∈ cs) : Good cs n (L.set c.1.toNat (lst L c)) := by
  have hh := hr.h c hc
  have hb := hr.b c hc
  have hl : c.1 < L.length := by rw [g.len]; exact hh.2
  refine ⟨by simp [g.len], fun i => ?_, fun M hM i => ?_⟩
  · by_cases hi : 0 ≤ i
    · rw [lv_set hh.1 hl _ _ hi]; split
      · have := g.pos c.2.atom.pred; have := ng_le c.2; unfold lst; omega
      · exact g.pos i
    · rw [lv_neg _ (by omega), lv_set hh.1 hl _ _ (Int.le_refl 0)]; split
      · have := g.pos c.2.atom.pred; have := ng_le c.2; unfold lst; omega
      · exact g.pos 0
  · have key : ∀ i, 0 ≤ i → lv (L.set c.1.toNat (lst L c)) i ≤ lv M i := fun i hi => by
      rw [lv_set hh.1 hl _ _ hi]; split
      · rename_i e; subst e
        have h1 := hM.sat c hc
        have h2 := g.le M hM c.2.atom.pred
        unfold SatC at h1; unfold lst at h1 ⊢; omega
      · exact g.le M hM i
    by_cases hi : 0 ≤ i
    · exact key i hi
    · rw [lv_neg _ (by omega), lv_neg M (by omega)]; exact key 0 (Int.le_refl 0)
theorem Good.done {cs : List (Int × Ltl)} {n : Nat} {L : List Int} (g : Good cs n L) (h : ∀ c ∈ cs, SatC L c) : StrataR cs n (some L) := ⟨⟨g.len, g.pos, h⟩, g.le⟩
theorem Good.fail {cs : List (Int × Ltl)} {n : Nat} {L : List Int} (hr : InR cs n) (g : Good cs n L) {c : Int × Ltl} (hc : c ∈ cs) (hn : n ≤ lst L c) : StrataR cs n none := fun M hM => by
  obtain ⟨M', hM', hlt⟩ := hM.small hr
  have hh := hr.h c hc
  have h1 := hM'.sat c hc
  have h2 := g.le M' hM' c.2.atom.pred
  have h3 := hlt c.1 hh.1 hh.2
  unfold SatC at h1; unfold lst at h1 hn; omega
theorem Good.lt {cs : List (Int × Ltl)} {n : Nat} {L : List Int} (hr : InR cs n) (g : Good cs n L) (hs : ∃ M, Sol cs n M) {i : Int} (h0 : 0 ≤ i) (h1 : i < n) : lv L i < n := by
  obtain ⟨M, hM⟩ := hs
  obtain ⟨M', hM', hlt⟩ := hM.small hr
  exact Int.lt_of_le_of_lt (g.le M' hM' i) (hlt i h0 h1)
/-- How much can be raised still. -/
def pot (n : Nat) (L : List Int) : Nat := (L.map fun v => ((n : Int) - v).toNat).sum
theorem sum_set_lt : ∀ (l : List Nat) (i : Nat) (y : Nat) (h : i < l.length), y < l[i] → (l.set i y).sum < l.sum
  | a :: l, 0, y, _, hy => by simp at hy ⊢; omega
  | a :: l, i + 1, y, h, hy => by
    have := sum_set_lt l i y (by simpa using h) (by simpa using hy)
    simp only [List.set_cons_succ, List.sum_cons]; omega
theorem pot_set_lt {n : Nat} {L : List Int} {i : Int} {v : Int} (h0 : 0 ≤ i) (h1 : i < L.length) (hv : lv L i < v) (hn : lv L i < n) : pot n (L.set i.toNat v) < pot n L := by
  have hi : i.toNat < L.length := by omega
  have he : L[i.toNat] = lv L i := by simp [lv, List.getD_eq_getElem?_getD, hi]
  unfold pot
  rw [List.map_set]
  refine sum_set_lt _ _ _ (by simpa using hi) ?_
  rw [List.getElem_map, he]; omega
theorem pot_zero (n : Nat) : pot n (List.replicate n 0) = n * n := by
  unfold pot
  rw [List.map_replicate]
  simp

/-- Within one pass over all uses. -/
structure Pass (cs : List (Int × Ltl)) (n : Nat) (L : List Int) (same : Bool) (L' : List Int) (done : List (Int × Ltl)) : Prop where
  good : Good cs n L'
  t : same = true → L' = L ∧ ∀ c ∈ done, SatC L c
  f : same = false → (∃ M, Sol cs n M) → pot n L' + 1 ≤ pot n L
theorem Pass.start {cs : List (Int × Ltl)} {n : Nat} {L : List Int} (g : Good cs n L) : Pass cs n L true L [] := ⟨g, fun _ => ⟨rfl, by simp⟩, fun h => by cases h⟩
theorem Pass.keep {cs : List (Int × Ltl)} {n : Nat} {L L' : List Int} {same : Bool} {done : List (Int × Ltl)} (x : Pass cs n L same L' done) {c : Int × Ltl} (h : ¬ lv L' c.1 < lst L' c) : Pass cs n L same L' (done ++ [c]) :=
  ⟨x.good, fun hs => ⟨(x.t hs).1, fun d hd => by
    rcases List.mem_append.1 hd with h1 | h1
    · exact (x.t hs).2 d h1
    · rw [List.mem_singleton.1 h1]
      have := (x.t hs).1
      subst this
      unfold SatC; omega⟩, x.f⟩
theorem Pass.raise {cs : List (Int × Ltl)} {n : Nat} {L L' : List Int} {same : Bool} {done : List (Int × Ltl)} (hr : InR cs n) (x : Pass cs n L same L' done) {c : Int × Ltl} (hc : c ∈ cs) (h : lv L' c.1 < lst L' c) : Pass cs n L false (L'.set c.1.toNat (lst L' c)) (done ++ [c]) := by
  have hh := hr.h c hc
  refine ⟨x.good.raise hr hc, (fun h => by cases h), fun _ hs => ?_⟩
  have h1 := pot_set_lt (n := n) hh.1 (by rw [x.good.len]; exact hh.2) h (x.good.lt hr hs hh.1 hh.2)
  cases hsm : same
  · have := x.f hsm hs; omega
  · have := (x.t hsm).1; subst this; omega
theorem bound_raise {cs : List (Int × Ltl)} {n : Nat} {L : List Int} {t : Int} (hr : InR cs n) (hl : L.length = n) (hb : ∀ i, lv L i ≤ t) {c : Int × Ltl} (hc : c ∈ cs) : ∀ i, lv (L.set c.1.toNat (lst L c)) i ≤ t + 1 := fun i => by
  have hh := hr.h c hc
  have h1 := hb c.2.atom.pred
  have h2 := ng_le c.2
  have key : ∀ i, 0 ≤ i → lv (L.set c.1.toNat (lst L c)) i ≤ t + 1 := fun i h0 => by
    rw [lv_set hh.1 (by rw [hl]; exact hh.2) _ _ h0]; split
    · unfold lst; omega
    · have := hb i; omega
  by_cases h0 : 0 ≤ i
  · exact key i h0
  · rw [lv_neg _ (by omega)]; exact key 0 (Int.le_refl 0)
/-! ### Needs -/
def Uses (cs : List (Int × Ltl)) (a b : Int) : Prop := ∃ c ∈ cs, c.1 = a ∧ c.2.atom.pred = b
inductive Reach (cs : List (Int × Ltl)) (a : Int) : Int → Prop
  | refl : Reach cs a a
  | step {b c : Int} : Reach cs a b → Uses cs b c → Reach cs a c
def bv (N : List Bool) (i : Int) : Bool := N.getD i.toNat false
structure NeedsR (cs : List (Int × Ltl)) (n : Nat) (p : Int) (N : List Bool) : Prop where
  len : N.length = n
  iff : ∀ i : Int, 0 ≤ i → i < n → (bv N i = true ↔ Reach cs p i)
theorem NeedsR.uniq {cs : List (Int × Ltl)} {n : Nat} {p : Int} {N N' : List Bool} (h : NeedsR cs n p N) (h' : NeedsR cs n p N') : N = N' := by
  apply List.ext_getElem (h.len.trans h'.len.symm)
  intro i h1 h2
  have a := h.iff i (by omega) (by have := h.len; omega)
  have b := h'.iff i (by omega) (by have := h.len; omega)
  have e1 : bv N i = N[i] := by simp [bv, List.getD_eq_getElem?_getD, h1]
  have e2 : bv N' i = N'[i] := by simp [bv, List.getD_eq_getElem?_getD, h2]
  rw [e1] at a; rw [e2] at b
  cases hx : N[i] <;> cases hy : N'[i] <;> simp_all
theorem bv_set {N : List Bool} {i : Int} (h0 : 0 ≤ i) (h1 : i < N.length) (v : Bool) (j : Int) (hj : 0 ≤ j) : bv (N.set i.toNat v) j = if j = i then v else bv N j := by
  simp only [bv, List.getD_eq_getElem?_getD, List.getElem?_set]
  by_cases e : j = i
  · subst e; simp [show j.toNat < N.length by omega]
  · rw [if_neg e, if_neg (by omega)]
def ClosedN (cs : List (Int × Ltl)) (N : List Bool) : Prop := ∀ c ∈ cs, bv N c.1 = true → bv N c.2.atom.pred = true
theorem NeedsR.of {cs : List (Int × Ltl)} {n : Nat} {p : Int} {N : List Bool} (hl : N.length = n) (hs : ∀ i : Int, 0 ≤ i → i < n → bv N i = true → Reach cs p i) (hp : bv N p = true) (hc : ClosedN cs N) : NeedsR cs n p N := by
  refine ⟨hl, fun i h0 h1 => ⟨hs i h0 h1, fun h => ?_⟩⟩
  clear h0 h1
  induction h with
  | refl => exact hp
  | step _ hu ih => obtain ⟨c, hc1, rfl, rfl⟩ := hu; exact hc c hc1 ih
def trues (N : List Bool) : Nat := N.countP id
theorem trues_set : ∀ (N : List Bool) (i : Nat) (h : i < N.length), N[i] = false → trues (N.set i true) = trues N + 1
  | a :: N, 0, _, hf => by simp at hf; subst hf; simp [trues]
  | a :: N, i + 1, h, hf => by
    have := trues_set N i (by simpa using h) (by simpa using hf)
    unfold trues at this ⊢
    simp only [List.set_cons_succ, List.countP_cons, this]; omega
theorem set_same : ∀ (N : List Bool) (i : Nat) (h : i < N.length), N[i] = true → N.set i true = N
  | a :: N, 0, _, hf => by simp at hf; subst hf; rfl
  | a :: N, i + 1, h, hf => by simp [set_same N i (by simpa using h) (by simpa using hf)]
/-- Within one pass over all uses. -/
structure PassN (cs : List (Int × Ltl)) (n : Nat) (p : Int) (N N1 : List Bool) (done : List (Int × Ltl)) : Prop where
  len : N1.length = n
  snd : ∀ i : Int, 0 ≤ i → i < n → bv N1 i = true → Reach cs p i
  has : bv N1 p = true
  or : (N1 = N ∧ ∀ c ∈ done, bv N c.1 = true → bv N c.2.atom.pred = true) ∨ trues N < trues N1
  closed : ClosedN cs N → N1 = N
theorem PassN.skip {cs : List (Int × Ltl)} {n : Nat} {p : Int} {N N1 : List Bool} {done more : List (Int × Ltl)} (x : PassN cs n p N N1 done) (h : ∀ c ∈ more, bv N1 c.1 = false) : PassN cs n p N N1 (done ++ more) :=
  ⟨x.len, x.snd, x.has, x.or.imp (fun ⟨e, hd⟩ => ⟨e, fun c hc => by
    rcases List.mem_append.1 hc with h1 | h1
    · exact hd c h1
    · intro ht; rw [← e, h c h1] at ht; cases ht⟩) id, x.closed⟩
theorem PassN.put {cs : List (Int × Ltl)} {n : Nat} {p : Int} {N N1 : List Bool} {done : List (Int × Ltl)} (hr : InR cs n) (hp : 0 ≤ p) (x : PassN cs n p N N1 done) {c : Int × Ltl} (hc : c ∈ cs) (ht : bv N1 c.1 = true) : PassN cs n p N (N1.set c.2.atom.pred.toNat true) (done ++ [c]) := by
  have hh := hr.h c hc
  have hb := hr.b c hc
  have hl : c.2.atom.pred < N1.length := by rw [x.len]; exact hb.2
  have hi : c.2.atom.pred.toNat < N1.length := by omega
  have hrc : Reach cs p c.2.atom.pred := .step (x.snd _ hh.1 hh.2 ht) ⟨c, hc, rfl, rfl⟩
  have he : N1[c.2.atom.pred.toNat] = bv N1 c.2.atom.pred := by simp [bv, List.getD_eq_getElem?_getD, hi]
  by_cases hq : bv N1 c.2.atom.pred = true
  · rw [set_same N1 _ hi (by rw [he]; exact hq)]
    exact ⟨x.len, x.snd, x.has, x.or.imp (fun ⟨e, hd⟩ => ⟨e, fun d hd' => by
      rcases List.mem_append.1 hd' with h1 | h1
      · exact hd d h1
      · rw [List.mem_singleton.1 h1]; intro _; rw [← e]; exact hq⟩) id, x.closed⟩
  · have hq' : bv N1 c.2.atom.pred = false := by simpa using hq
    have htr := trues_set N1 _ hi (by rw [he]; exact hq')
    refine ⟨by simp [x.len], fun i h0 h1 h => ?_, ?_, .inr ?_, fun hcl => ?_⟩
    · rw [bv_set hb.1 hl _ _ h0] at h
      split at h
      · rename_i e; rw [e]; exact hrc
      · exact x.snd i h0 h1 h
    · rw [bv_set hb.1 hl _ _ hp]; split
      · rfl
      · exact x.has
    · rcases x.or with ⟨e, _⟩ | h
      · subst e; omega
      · omega
    · have e := x.closed hcl
      subst e
      exact absurd (hcl c hc ht) hq
/-! ### Names -/
def lowB (b : UInt8) : Bool := decide (97 ≤ b.toNat) && decide (b.toNat ≤ 122)
def isName (s : ByteArray) : Bool := decide (1 ≤ s.size) && decide (s.size ≤ 8) && s.data.toList.all lowB
/-! ### Programs -/
def rulesErr (l : List Prd) : List Rul → Int
  | [] => 0
  | r :: rs => if checkRule l r ≠ 0 then checkRule l r else rulesErr l rs
theorem rulesErr_zero {l : List Prd} {rs : List Rul} : rulesErr l rs = 0 ↔ ∀ r ∈ rs, checkRule l r = 0 := by
  induction rs with
  | nil => simp [rulesErr]
  | cons x r ih =>
    simp only [rulesErr, List.mem_cons, forall_eq_or_imp]
    by_cases h : checkRule l x = 0
    · simp [h, ih]
    · simp [h]
theorem rulesErr_at {l : List Prd} {b : List Rul} {k : Nat} (hk : k < b.length) (h1 : ∀ j, j < k → ∀ hj' : j < b.length, checkRule l b[j] = 0) (h2 : checkRule l b[k] ≠ 0) : rulesErr l b = checkRule l b[k] := by
  induction b generalizing k with
  | nil => simp at hk
  | cons x r ih =>
    cases k with
    | zero => simp only [List.getElem_cons_zero] at h2 ⊢; simp [rulesErr, h2]
    | succ k =>
      have h0 := h1 0 (by omega) (by simp)
      simp only [List.getElem_cons_zero] at h0
      simp only [rulesErr, h0, List.getElem_cons_succ]
      simp only [List.getElem_cons_succ] at h2
      exact ih (by simpa using hk) (fun j _ hj' => by have := h1 (j + 1) (by omega) (by simpa using hj'); simpa using this) h2
/-- Does a name stand there twice? -/
def early (l : List Prd) (k : Nat) : Bool := (l.take k).any fun y => decide (y.name = (l.getD k default).name)
def twice (l : List Prd) : Bool := (List.range l.length).any (early l)
def badArity (x : Prd) : Bool := decide (x.arity < 0 ∨ 2 < x.arity)
def badKind (x : Prd) : Bool := decide (x.kind < 0 ∨ 3 < x.kind)
open Classical in
noncomputable def checkProg (p : Prg) : Int :=
  if 5 < p.preds.xs.length ∨ 8 < p.rules.xs.length then 2
  else if p.preds.xs.any (fun x => !isName x.name) then 5
  else if twice p.preds.xs then 6
  else if p.preds.xs.any badArity then 3
  else if p.preds.xs.any badKind then 4
  else if rulesErr p.preds.xs p.rules.xs ≠ 0 then rulesErr p.preds.xs p.rules.xs
  else if ∃ M, Sol (usesL p.rules.xs) p.preds.xs.length M then 0 else 8
theorem checkRule_ok {l : List Prd} {r : Rul} (h : checkRule l r = 0) : checkAtom l r.head = 0 ∧ r.body.xs.length ≤ 3 ∧ ∀ x ∈ r.body.xs, checkAtom l x.atom = 0 := by
  unfold checkRule at h
  split at h
  · rename_i h1; exact absurd h h1
  split at h
  · cases h
  split at h
  · rename_i h1; exact absurd h h1
  rename_i h1 h2 h3
  exact ⟨Decidable.not_not.1 h1, by omega, bodyErr_ne.1 (Decidable.not_not.1 h3)⟩
theorem checkAtom_in' {l : List Prd} {a : Atm} (h : checkAtom l a = 0) : 0 ≤ a.pred ∧ a.pred < l.length := by
  unfold checkAtom at h
  split at h
  · cases h
  · omega
theorem inR_of {l : List Prd} {rs : List Rul} (h : rulesErr l rs = 0) : InR (usesL rs) l.length := by
  have key : ∀ c ∈ usesL rs, ∃ r ∈ rs, ∃ x ∈ r.body.xs, c = (r.head.pred, x) := fun c hc => by
    unfold usesL at hc
    obtain ⟨r, hr, hc⟩ := List.mem_flatMap.1 hc
    obtain ⟨x, hx, rfl⟩ := List.mem_map.1 hc
    exact ⟨r, hr, x, hx, rfl⟩
  refine ⟨fun c hc => ?_, fun c hc => ?_⟩ <;> obtain ⟨r, hr, x, hx, rfl⟩ := key c hc <;> have h1 := checkRule_ok (rulesErr_zero.1 h r hr)
  · exact checkAtom_in' h1.1
  · exact checkAtom_in' (h1.2.2 x hx)
theorem checkProg_ok {p : Prg} (h : checkProg p = 0) : p.preds.xs.length ≤ 5 ∧ p.rules.xs.length ≤ 8 ∧ rulesErr p.preds.xs p.rules.xs = 0 ∧ ∃ M, Sol (usesL p.rules.xs) p.preds.xs.length M := by
  unfold checkProg at h
  split at h
  · cases h
  split at h
  · cases h
  split at h
  · cases h
  split at h
  · cases h
  split at h
  · cases h
  split at h
  · rename_i h1; exact absurd h h1
  split at h
  · rename_i h1 _ _ _ _ h2 h3
    exact ⟨by omega, by omega, Decidable.not_not.1 h2, h3⟩
  · cases h
def Prg.Nm (p : Prg) : Prop := ∀ x ∈ p.preds.xs, x.name.size ≤ 140737488355328
end Go.TF
end
section
/- What a rule that is used tells; the steps that hold, and how facts are laid to literals: plain. -/
namespace Go.TF
open Go

def litOk (f : List Fct) (x : Vrs) (t : Ltl) : Bool := decide (isF f (groundF t.atom x) ≠ t.neg)
def holdsB (f : List Fct) (r : Rul) (x : Vrs) : Bool := r.body.xs.all (litOk f x)
def headV (l : List Prd) (f : List Fct) (r : Rul) (x : Vrs) : Int := if 0 ≤ r.src then liftV (predOf l r.head.pred).kind ((lkF f (placeF (groundF (litOf r r.src).atom x))).getD 0) r.n else r.n
def headF (l : List Prd) (f : List Fct) (r : Rul) (x : Vrs) : Fct := ⟨r.head.pred, argv r.head x 0, argv r.head x 1, headV l f r x⟩
def holdsF (l : List Prd) (f : List Fct) (r : Rul) (x : Vrs) : Bool × Fct := if holdsB f r x then (true, headF l f r x) else (false, default)
structure VsOk (x : Vrs) : Prop where
  h0 : 0 ≤ x.x0 ∧ x.x0 ≤ 4
  h1 : 0 ≤ x.x1 ∧ x.x1 ≤ 4
  h2 : 0 ≤ x.x2 ∧ x.x2 ≤ 4
theorem VsOk.at {x : Vrs} (h : VsOk x) (v : Int) : 0 ≤ x.at v ∧ x.at v ≤ 4 := by
  unfold Vrs.at; (repeat' split) <;> first | exact h.h0 | exact h.h1 | exact h.h2
/-- A rule of a right program. -/
structure ROk (l : List Prd) (r : Rul) : Prop where
  five : l.length ≤ 5
  preds : ∀ p ∈ l, predFine p = true
  head : checkAtom l r.head = 0
  len : r.body.xs.length ≤ 3
  body : ∀ x ∈ r.body.xs, checkAtom l x.atom = 0
  free : ∀ v, v = 0 ∨ v = 1 ∨ v = 2 → freeVar r v = false
  src : -1 ≤ r.src ∧ r.src < r.body.xs.length
  pos : 0 ≤ r.src → (litOf r r.src).neg = false ∧ (predOf l (litOf r r.src).atom.pred).kind = (predOf l r.head.pred).kind
  n : 0 ≤ r.n ∧ r.n ≤ 15
  plain : (predOf l r.head.pred).kind = 0 → r.src = -1 ∧ r.n = 0
theorem rok_of {l : List Prd} {r : Rul} (h5 : l.length ≤ 5) (hp : ∀ p ∈ l, predFine p = true) (h : checkRule l r = 0) : ROk l r := by
  unfold checkRule at h
  split at h
  · rename_i h1; exact absurd h h1
  split at h
  · cases h
  split at h
  · rename_i h1 h2 h3; exact absurd h h3
  split at h
  · cases h
  split at h
  · cases h
  split at h
  · cases h
  split at h
  · cases h
  split at h
  · cases h
  rename_i h1 h2 h3 h4 h5' h6 h7 h8
  simp only [Bool.or_eq_true, not_or, Bool.not_eq_true] at h4
  refine ⟨h5, hp, Decidable.not_not.1 h1, by omega, bodyErr_ne.1 (Decidable.not_not.1 h3), fun v hv => ?_, by omega, fun h0 => ?_, by omega, fun hk => ?_⟩
  · rcases hv with rfl | rfl | rfl
    · exact h4.1.1
    · exact h4.1.2
    · exact h4.2
  · have : ¬ ((litOf r r.src).neg = true ∨ (predOf l (litOf r r.src).atom.pred).kind ≠ (predOf l r.head.pred).kind) := fun hh => h7 ⟨h0, hh⟩
    rw [not_or, Bool.not_eq_true, Decidable.not_not] at this
    exact this
  · have : ¬ (r.src ≠ -1 ∨ r.n ≠ 0) := fun hh => h6 ⟨hk, hh⟩
    omega
structure AOk (l : List Prd) (a : Atm) : Prop where
  pred : 0 ≤ a.pred ∧ a.pred < l.length
  len : a.args.xs.length ≤ 2
  err : argsErr a.args.xs = 0
  arity : (a.args.xs.length : Int) = (predOf l a.pred).arity
theorem predOf_mem {l : List Prd} {p : Int} (h : 0 ≤ p ∧ p < l.length) : predOf l p ∈ l := List.mem_of_getElem? (predOf_get h.1 h.2)
theorem aok_of {l : List Prd} {a : Atm} (hp : ∀ p ∈ l, predFine p = true) (h : checkAtom l a = 0) : AOk l a := by
  unfold checkAtom at h
  split at h
  · cases h
  split at h
  · cases h
  rename_i h1 h2
  have hpr : 0 ≤ a.pred ∧ a.pred < l.length := by omega
  have := hp _ (predOf_mem hpr)
  simp only [predFine, decide_eq_true_eq] at this
  exact ⟨hpr, by omega, h, by omega⟩
theorem AOk.arg {l : List Prd} {a : Atm} (h : AOk l a) {x : Vrs} (hx : VsOk x) (i : Nat) : 0 ≤ argv a x i ∧ argv a x i ≤ 4 := by
  by_cases hi : i < a.args.xs.length
  · rw [argv_get hi]
    unfold tv
    split
    · exact hx.at _
    · rename_i hv
      exact argsErr_con h.err (List.getElem_mem hi) (by simpa using hv)
  · rw [argv_none (by omega)]; omega
theorem AOk.pf {l : List Prd} {a : Atm} (h5 : l.length ≤ 5) (h : AOk l a) {x : Vrs} (hx : VsOk x) (v : Int) : PF ⟨a.pred, argv a x 0, argv a x 1, v⟩ :=
  ⟨h.pred.1, by have := h.pred.2; show a.pred ≤ 4; omega, (h.arg hx 0).1, (h.arg hx 0).2, (h.arg hx 1).1, (h.arg hx 1).2⟩
theorem AOk.var {l : List Prd} {a : Atm} (h : AOk l a) {t : Trm} (ht : t ∈ a.args.xs) (hv : t.var = true) : 0 ≤ t.n ∧ t.n < 3 := argsErr_var h.err ht hv
theorem litOf_mem {r : Rul} {k : Int} (h : 0 ≤ k ∧ k < r.body.xs.length) : litOf r k ∈ r.body.xs := by
  have : k.toNat < r.body.xs.length := by omega
  unfold litOf
  rw [List.getD_eq_getElem?_getD, List.getElem?_eq_getElem this]
  exact List.getElem_mem _
/-- What a rule tells is a fact. -/
theorem headF_fine {l : List Prd} {f : List Fct} {r : Rul} (ok : ROk l r) (okf : FOk l f) {x : Vrs} (hx : VsOk x) (hh : holdsB f r x = true) : factFine l (headF l f r x) = true := by
  have ha := aok_of ok.preds ok.head
  have har := ha.arity
  have hz : ∀ i : Nat, (i : Int) + 1 ≤ (predOf l r.head.pred).arity ∨ argv r.head x i = 0 := fun i => by
    by_cases hi : i < r.head.args.xs.length
    · left; omega
    · right; exact argv_none (by omega)
  refine fine_iff.2 ⟨ha.pred, ha.arg hx 0, ha.arg hx 1, (show 1 ≤ (predOf l r.head.pred).arity ∨ argv r.head x 0 = 0 from by simpa using hz 0), (show 2 ≤ (predOf l r.head.pred).arity ∨ argv r.head x 1 = 0 from by simpa using hz 1), ?_⟩
  show VOk (predOf l r.head.pred).kind (headV l f r x)
  have hk := ok.preds _ (predOf_mem ha.pred)
  simp only [predFine, decide_eq_true_eq] at hk
  unfold headV
  split
  · rename_i h0
    have hm := litOf_mem ⟨h0, ok.src.2⟩
    obtain ⟨hn, hkd⟩ := ok.pos h0
    have hl := List.all_eq_true.1 hh _ hm
    have hb := aok_of ok.preds (ok.body _ hm)
    have pf := hb.pf ok.five hx 0
    unfold litOk at hl
    rw [hn, decide_eq_true_eq] at hl
    have hs : isF f (groundF (litOf r r.src).atom x) = true := by simpa using hl
    unfold isF at hs
    cases hlk : lkF f (placeF (groundF (litOf r r.src).atom x)) with
    | none => rw [hlk] at hs; cases hs
    | some v =>
      obtain ⟨y, hy, e, rfl⟩ := lkF_mem hlk
      have hyf := okf.fine y hy
      have hyp := ((fine_pf ok.five hyf).inj pf e).1
      have hv := fine_v hyf
      rw [show y.pred = (litOf r r.src).atom.pred from hyp, hkd] at hv
      have hrn : VOk (predOf l r.head.pred).kind r.n := by
        rw [vOk_iff]; refine ⟨hk.2.2.1, hk.2.2.2, ok.n.1, ok.n.2, fun h => (ok.plain h).2⟩
      exact liftV_ok hv hrn
  · rw [vOk_iff]; exact ⟨hk.2.2.1, hk.2.2.2, ok.n.1, ok.n.2, fun h => (ok.plain h).2⟩
/-! ### Steps -/
def standsR (r : Rul) (v : Int) : Bool := standsIn r.head v || r.body.xs.any fun x => standsIn x.atom v
def vecs : List Vrs := (List.range 5).flatMap fun (a : Nat) => (List.range 5).flatMap fun (b : Nat) => (List.range 5).map fun (c : Nat) => (⟨(a : Int), (b : Int), (c : Int)⟩ : Vrs)
def stdOk (r : Rul) (x : Vrs) : Bool := (decide (x.x0 = 0) || standsR r 0) && (decide (x.x1 = 0) || standsR r 1) && (decide (x.x2 = 0) || standsR r 2)
def stepsF (f : List Fct) (n : Int) (r : Rul) : List Stp := (vecs.filter fun x => stdOk r x && holdsB f r x).map (Stp.mk n)
def ltV (x y : Vrs) : Prop := x.x0 < y.x0 ∨ x.x0 = y.x0 ∧ (x.x1 < y.x1 ∨ x.x1 = y.x1 ∧ x.x2 < y.x2)
instance (x y : Vrs) : Decidable (ltV x y) := inferInstanceAs (Decidable (_ ∨ _))
theorem ltV_trans {x y z : Vrs} (h1 : ltV x y) (h2 : ltV y z) : ltV x z := by unfold ltV at *; omega
theorem ltV_irrefl (x : Vrs) : ¬ ltV x x := by unfold ltV; omega
theorem ltV_tri (x y : Vrs) : ltV x y ∨ x = y ∨ ltV y x := by
  obtain ⟨a, b, c⟩ := x; obtain ⟨a', b', c'⟩ := y
  unfold ltV; simp only [Vrs.mk.injEq]; omega
theorem vecs_srt : vecs.Pairwise ltV := by decide +kernel
theorem mem_vecs {x : Vrs} : x ∈ vecs ↔ VsOk x := by
  constructor
  · intro h
    simp only [vecs, List.mem_flatMap, List.mem_map, List.mem_range] at h
    obtain ⟨a, ha, b, hb, c, hc, rfl⟩ := h
    exact ⟨⟨by dsimp only; omega, by dsimp only; omega⟩, ⟨by dsimp only; omega, by dsimp only; omega⟩, ⟨by dsimp only; omega, by dsimp only; omega⟩⟩
  · rintro ⟨h0, h1, h2⟩
    simp only [vecs, List.mem_flatMap, List.mem_map, List.mem_range]
    obtain ⟨a, b, c⟩ := x
    dsimp only at h0 h1 h2
    exact ⟨a.toNat, by omega, b.toNat, by omega, c.toNat, by omega, by simp only [Vrs.mk.injEq]; omega⟩
theorem srt_uniq {α : Type} {lt : α → α → Prop} (hi : ∀ x, ¬ lt x x) (ht : ∀ x y z, lt x y → lt y z → lt x z) : ∀ {l m : List α}, l.Pairwise lt → m.Pairwise lt → (∀ x, x ∈ l ↔ x ∈ m) → l = m
  | [], [], _, _, _ => rfl
  | [], y :: m, _, _, h => by have := (h y).2 List.mem_cons_self; cases this
  | x :: l, [], _, _, h => by have := (h x).1 List.mem_cons_self; cases this
  | x :: l, y :: m, hl, hm, h => by
    obtain ⟨l1, l2⟩ := List.pairwise_cons.1 hl
    obtain ⟨m1, m2⟩ := List.pairwise_cons.1 hm
    have hxy : x = y := by
      rcases List.mem_cons.1 ((h x).1 List.mem_cons_self) with h1 | h1
      · exact h1
      · rcases List.mem_cons.1 ((h y).2 List.mem_cons_self) with h2 | h2
        · exact h2.symm
        · exact absurd (ht _ _ _ (m1 x h1) (l1 y h2)) (hi _)
    subst hxy
    congr 1
    refine srt_uniq hi ht l2 m2 fun z => ?_
    constructor
    · intro hz
      rcases List.mem_cons.1 ((h z).1 (List.mem_cons_of_mem _ hz)) with rfl | h1
      · exact absurd (l1 _ hz) (hi _)
      · exact h1
    · intro hz
      rcases List.mem_cons.1 ((h z).2 (List.mem_cons_of_mem _ hz)) with rfl | h1
      · exact absurd (m1 _ hz) (hi _)
      · exact h1
/-! ### Facts laid to literals -/
def Vrs.set (b : Vrs) (v n : Int) : Vrs := if v = 0 then ⟨n, b.x1, b.x2⟩ else if v = 1 then ⟨b.x0, n, b.x2⟩ else ⟨b.x0, b.x1, n⟩
theorem Vrs.at_set {b : Vrs} {v n u : Int} (hv : 0 ≤ v ∧ v < 3) (hu : 0 ≤ u ∧ u < 3) : (b.set v n).at u = if u = v then n else b.at u := by
  have h1 : v = 0 ∨ v = 1 ∨ v = 2 := by omega
  have h2 : u = 0 ∨ u = 1 ∨ u = 2 := by omega
  rcases h1 with rfl | rfl | rfl <;> rcases h2 with rfl | rfl | rfl <;> rfl
def cantF (b : Vrs) (t : Trm) (n : Int) : Prop := (t.var = false ∧ t.n ≠ n) ∨ (t.var = true ∧ 0 ≤ b.at t.n ∧ b.at t.n ≠ n)
instance (b : Vrs) (t : Trm) (n : Int) : Decidable (cantF b t n) := inferInstanceAs (Decidable (_ ∨ _))
def bindF (b : Vrs) (t : Trm) (n : Int) : Vrs := if t.var then b.set t.n n else b
def withL : Vrs → List (Trm × Int) → Option Vrs
  | b, [] => some b
  | b, (t, n) :: r => if cantF b t n then none else withL (bindF b t n) r
def pairF (a : Atm) (x : Fct) : List (Trm × Int) := a.args.xs.zip [x.a, x.b]
def withF (b : Vrs) (a : Atm) (x : Fct) : Option Vrs := if a.pred ≠ x.pred then none else withL b (pairF a x)
def layF (f : List Fct) : List Atm → Vrs → List Vrs
  | [], b => [b]
  | a :: l, b => f.flatMap fun x => match withF b a x with | none => [] | some c => layF f l c
def mx0 (b : Vrs) : Vrs := ⟨max 0 b.x0, max 0 b.x1, max 0 b.x2⟩
theorem mx0_at (b : Vrs) (v : Int) : (mx0 b).at v = max 0 (b.at v) := by unfold Vrs.at mx0; (repeat' split) <;> rfl
def b0 : Vrs := ⟨-1, -1, -1⟩
def outF (f : List Fct) (n : Int) (r : Rul) : List Stp := (((layF f (poss r.body.xs) b0).map mx0).filter (holdsB f r)).map (Stp.mk n)
/-- What is bound is a constant, of a variable that stands somewhere in l. -/
def BOk (l : List Atm) (b : Vrs) : Prop := ∀ v, 0 ≤ v ∧ v < 3 → b.at v = -1 ∨ (0 ≤ b.at v ∧ b.at v ≤ 4 ∧ ∃ a ∈ l, standsIn a v = true)
theorem stands_mem {a : Atm} {t : Trm} (ht : t ∈ a.args.xs) (hv : t.var = true) : standsIn a t.n = true := by
  unfold standsIn; rw [List.any_eq_true]; exact ⟨t, ht, by simp [hv]⟩
theorem withL_bok {l : List Atm} {a : Atm} (ha : a ∈ l) (hv : ∀ t ∈ a.args.xs, t.var = true → 0 ≤ t.n ∧ t.n < 3) : ∀ {ps : List (Trm × Int)} {b c : Vrs}, (∀ p ∈ ps, p.1 ∈ a.args.xs ∧ 0 ≤ p.2 ∧ p.2 ≤ 4) → BOk l b → withL b ps = some c → BOk l c
  | [], b, c, _, hb, h => by simp only [withL, Option.some.injEq] at h; subst h; exact hb
  | (t, n) :: r, b, c, hp, hb, h => by
    rw [withL] at h
    split at h
    · cases h
    refine withL_bok ha hv (fun p hpr => hp p (List.mem_cons_of_mem _ hpr)) ?_ h
    obtain ⟨p1, p2⟩ := hp (t, n) List.mem_cons_self
    dsimp only at p1 p2
    unfold bindF
    split
    · rename_i htv
      intro v hv3
      have := hv t p1 htv
      rw [Vrs.at_set this hv3]
      split
      · rename_i e; subst e; exact .inr ⟨p2.1, p2.2, a, ha, stands_mem p1 htv⟩
      · exact hb v hv3
    · exact hb
theorem pair_mem {a : Atm} {x : Fct} (hx : PF x) : ∀ p ∈ pairF a x, p.1 ∈ a.args.xs ∧ 0 ≤ p.2 ∧ p.2 ≤ 4 := fun p hp => by
  have h1 := (List.of_mem_zip hp).1
  have h2 := (List.of_mem_zip hp).2
  refine ⟨h1, ?_⟩
  simp only [List.mem_cons, List.not_mem_nil, or_false] at h2
  rcases h2 with h2 | h2 <;> rw [h2]
  · exact ⟨hx.a0, hx.a1⟩
  · exact ⟨hx.b0, hx.b1⟩
theorem lay_bok {l : List Atm} {f : List Fct} (hf : ∀ y ∈ f, PF y) : ∀ {ats : List Atm} {b c : Vrs}, (∀ a ∈ ats, a ∈ l ∧ ∀ t ∈ a.args.xs, t.var = true → 0 ≤ t.n ∧ t.n < 3) → BOk l b → c ∈ layF f ats b → BOk l c
  | [], b, c, _, hb, h => by rw [layF, List.mem_singleton] at h; subst h; exact hb
  | a :: ats, b, c, ha, hb, h => by
    rw [layF, List.mem_flatMap] at h
    obtain ⟨y, hy, h⟩ := h
    cases hw : withF b a y with
    | none => rw [hw] at h; cases h
    | some d =>
      rw [hw] at h
      obtain ⟨a1, a2⟩ := ha a List.mem_cons_self
      refine lay_bok hf (fun a' h' => ha a' (List.mem_cons_of_mem _ h')) ?_ h
      unfold withF at hw
      split at hw
      · cases hw
      · exact withL_bok a1 a2 (pair_mem (hf y hy)) hb hw
/-- Bound ats x has it. -/
def Bnd (b x : Vrs) : Prop := ∀ v, 0 ≤ v ∧ v < 3 → b.at v = -1 ∨ b.at v = x.at v
theorem withL_bnd {x : Vrs} : ∀ {ps : List (Trm × Int)} {b : Vrs}, (∀ p ∈ ps, p.2 = tv p.1 x ∧ (p.1.var = true → 0 ≤ p.1.n ∧ p.1.n < 3)) → Bnd b x →
    ∃ c, withL b ps = some c ∧ Bnd c x ∧ (∀ v, 0 ≤ v ∧ v < 3 → b.at v = x.at v → c.at v = x.at v) ∧ (∀ p ∈ ps, p.1.var = true → c.at p.1.n = x.at p.1.n)
  | [], b, _, hb => ⟨b, rfl, hb, fun _ _ h => h, fun p hp => by cases hp⟩
  | (t, n) :: r, b, hp, hb => by
    obtain ⟨p1, p2⟩ := hp (t, n) List.mem_cons_self
    dsimp only at p1 p2
    have hc : ¬ cantF b t n := by
      rintro (⟨h1, h2⟩ | ⟨h1, h2, h3⟩)
      · rw [p1] at h2; simp [tv, h1] at h2
      · have := hb t.n (p2 h1)
        rw [p1] at h3
        simp only [tv, h1, if_true] at h3
        omega
    have hb' : Bnd (bindF b t n) x ∧ (∀ v, 0 ≤ v ∧ v < 3 → b.at v = x.at v → (bindF b t n).at v = x.at v) ∧ (t.var = true → (bindF b t n).at t.n = x.at t.n) := by
      unfold bindF
      cases htv : t.var
      · exact ⟨hb, fun _ _ h => h, fun h => by cases h⟩
      · have htn := p2 htv
        have hn : n = x.at t.n := by rw [p1]; simp [tv, htv]
        rw [if_pos rfl]
        refine ⟨fun v hv => ?_, fun v hv h => ?_, fun _ => ?_⟩
        · rw [Vrs.at_set htn hv]; split
          · rename_i e; subst e; exact .inr hn
          · exact hb v hv
        · rw [Vrs.at_set htn hv]; split
          · rename_i e; subst e; exact hn
          · exact h
        · rw [Vrs.at_set htn htn, if_pos rfl]; exact hn
    obtain ⟨c, hw, c1, c2, c3⟩ := withL_bnd (fun p hpr => hp p (List.mem_cons_of_mem _ hpr)) hb'.1
    refine ⟨c, by rw [withL, if_neg hc]; exact hw, c1, fun v hv h => c2 v hv (hb'.2.1 v hv h), fun p hpm hpv => ?_⟩
    rcases List.mem_cons.1 hpm with rfl | hpm
    · exact c2 _ (p2 hpv) (hb'.2.2 hpv)
    · exact c3 p hpm hpv
theorem pair_is {a : Atm} {x : Vrs} {y : Fct} (h2 : a.args.xs.length ≤ 2) (ha : y.a = argv a x 0) (hb : y.b = argv a x 1) : ∀ p ∈ pairF a y, p.2 = tv p.1 x ∧ p.1 ∈ a.args.xs := by
  unfold pairF
  match hs : a.args.xs, h2 with
  | [], _ => simp
  | [t], _ =>
    intro p hp
    have : p = (t, y.a) := by simpa using hp
    subst this
    exact ⟨by rw [ha]; simp [argv, hs], by simp⟩
  | [t, u], _ =>
    intro p hp
    have : p = (t, y.a) ∨ p = (u, y.b) := by simpa using hp
    rcases this with rfl | rfl
    · exact ⟨by rw [ha]; simp [argv, hs], by simp⟩
    · exact ⟨by rw [hb]; simp [argv, hs], by simp⟩
  | _ :: _ :: _ :: _, h2 => simp at h2
theorem pair_all {a : Atm} {y : Fct} (h2 : a.args.xs.length ≤ 2) {t : Trm} (ht : t ∈ a.args.xs) : ∃ n, (t, n) ∈ pairF a y := by
  unfold pairF
  match hs : a.args.xs, h2 with
  | [], _ => rw [hs] at ht; cases ht
  | [u], _ =>
    rw [hs] at ht
    have : t = u := by simpa using ht
    subst this; exact ⟨y.a, by simp⟩
  | [u, w], _ =>
    rw [hs] at ht
    have : t = u ∨ t = w := by simpa using ht
    rcases this with rfl | rfl
    · exact ⟨y.a, by simp⟩
    · exact ⟨y.b, by simp⟩
  | _ :: _ :: _ :: _, h2 => simp at h2
theorem lay_has {l : List Prd} {f : List Fct} {x : Vrs} (h5 : l.length ≤ 5) (hf : ∀ y ∈ f, PF y) (hx : VsOk x) : ∀ {ats : List Atm} {b : Vrs}, (∀ a ∈ ats, AOk l a ∧ isF f (groundF a x) = true) → Bnd b x →
    ∃ c ∈ layF f ats b, Bnd c x ∧ (∀ v, 0 ≤ v ∧ v < 3 → b.at v = x.at v → c.at v = x.at v) ∧ (∀ a ∈ ats, ∀ v, standsIn a v = true → c.at v = x.at v)
  | [], b, _, hb => ⟨b, by rw [layF]; simp, hb, fun _ _ h => h, fun a ha => by cases ha⟩
  | a :: ats, b, ha, hb => by
    obtain ⟨ao, ai⟩ := ha a List.mem_cons_self
    unfold isF at ai
    cases hlk : lkF f (placeF (groundF a x)) with
    | none => rw [hlk] at ai; cases ai
    | some w =>
      obtain ⟨y, hy, e, _⟩ := lkF_mem hlk
      obtain ⟨e1, e2, e3⟩ := (hf y hy).inj (ao.pf h5 hx 0) e
      dsimp only at e1 e2 e3
      obtain ⟨c, hw, c1, c2, c3⟩ := withL_bnd (x := x) (ps := pairF a y) (b := b) (fun p hp => ⟨(pair_is ao.len e2 e3 p hp).1, fun hv => ao.var (pair_is ao.len e2 e3 p hp).2 hv⟩) hb
      obtain ⟨d, hd, d1, d2, d3⟩ := lay_has h5 hf hx (fun a' h' => ha a' (List.mem_cons_of_mem _ h')) c1
      refine ⟨d, ?_, d1, fun v hv h => d2 v hv (c2 v hv h), fun a' ha' v hs => ?_⟩
      · rw [layF, List.mem_flatMap]
        refine ⟨y, hy, ?_⟩
        have : withF b a y = some c := by unfold withF; rw [if_neg (by simp [e1]), hw]
        rw [this]; exact hd
      · rcases List.mem_cons.1 ha' with rfl | ha'
        · unfold standsIn at hs
          rw [List.any_eq_true] at hs
          obtain ⟨t, ht, hs⟩ := hs
          simp only [Bool.and_eq_true, decide_eq_true_eq] at hs
          obtain ⟨n, hn⟩ := pair_all (y := y) ao.len ht
          have := c3 _ hn hs.1
          dsimp only at this
          rw [hs.2] at this
          exact d2 v (by rw [← hs.2]; exact ao.var ht hs.1) this
        · exact d3 a' ha' v hs
theorem b0_at {v : Int} (hv : 0 ≤ v ∧ v < 3) : b0.at v = -1 := by
  have h : v = 0 ∨ v = 1 ∨ v = 2 := by omega
  rcases h with rfl | rfl | rfl <;> rfl
theorem bound_poss {r : Rul} {v : Int} : boundIn r v = true ↔ ∃ a ∈ poss r.body.xs, standsIn a v = true := by rw [boundIn_iff, cntA_pos]
theorem vrs_ext {x y : Vrs} (h : ∀ v, 0 ≤ v ∧ v < 3 → x.at v = y.at v) : x = y := by
  have h0 := h 0 (by omega); have h1 := h 1 (by omega); have h2 := h 2 (by omega)
  cases x; cases y
  simp only [Vrs.at] at h0 h1 h2
  simp only [Vrs.mk.injEq]
  exact ⟨by simpa using h0, by simpa using h1, by simpa using h2⟩
theorem mem_out {l : List Prd} {f : List Fct} {n : Int} {r : Rul} (ok : ROk l r) (okf : FOk l f) (s : Stp) : s ∈ outF f n r ↔ s ∈ stepsF f n r := by
  unfold outF stepsF
  simp only [List.mem_map, List.mem_filter, Bool.and_eq_true]
  have hpo : ∀ a ∈ poss r.body.xs, AOk l a := fun a ha => by
    obtain ⟨x, hx, _, rfl⟩ := mem_poss.1 ha
    exact aok_of ok.preds (ok.body x hx)
  constructor
  · rintro ⟨x, ⟨⟨b, hb, rfl⟩, hh⟩, rfl⟩
    have hbk := lay_bok (l := poss r.body.xs) okf.pf (fun a ha => ⟨ha, fun t ht hv => (hpo a ha).var ht hv⟩) (b := b0) (fun v hv => .inl (b0_at hv)) hb
    have hv : ∀ v, 0 ≤ v ∧ v < 3 → (0 ≤ (mx0 b).at v ∧ (mx0 b).at v ≤ 4) ∧ ((mx0 b).at v = 0 ∨ standsR r v = true) := fun v hv => by
      rw [mx0_at]
      rcases hbk v hv with h | ⟨h1, h2, a, ha, hs⟩
      · rw [h]; exact ⟨by omega, .inl (by omega)⟩
      · refine ⟨by omega, .inr ?_⟩
        obtain ⟨x, hx, _, rfl⟩ := mem_poss.1 ha
        unfold standsR
        rw [Bool.or_eq_true, List.any_eq_true]
        exact .inr ⟨x, hx, hs⟩
    have q0 := hv 0 (by omega); have q1 := hv 1 (by omega); have q2 := hv 2 (by omega)
    refine ⟨mx0 b, ⟨mem_vecs.2 ⟨q0.1, q1.1, q2.1⟩, ?_, hh⟩, rfl⟩
    simp only [stdOk, Bool.and_eq_true, Bool.or_eq_true, decide_eq_true_eq]
    exact ⟨⟨q0.2, q1.2⟩, q2.2⟩
  · rintro ⟨x, ⟨hx, hst, hh⟩, rfl⟩
    have hxo := mem_vecs.1 hx
    have hbn : Bnd b0 x := fun v hv => .inl (b0_at hv)
    obtain ⟨c, hc, c1, _, c3⟩ := lay_has (l := l) ok.five okf.pf hxo (ats := poss r.body.xs) (b := b0) (fun a ha => ⟨hpo a ha, by
      obtain ⟨y, hy, hn, rfl⟩ := mem_poss.1 ha
      have := List.all_eq_true.1 hh y hy
      unfold litOk at this
      rw [hn, decide_eq_true_eq] at this
      simpa using this⟩) hbn
    have hmx : mx0 c = x := vrs_ext fun v hv => by
      rw [mx0_at]
      have h4 := hxo.at v
      rcases c1 v hv with h | h
      · rw [h]
        by_cases hb : boundIn r v = true
        · obtain ⟨a, ha, hs⟩ := bound_poss.1 hb
          have := c3 a ha v hs
          omega
        · have hv3 : v = 0 ∨ v = 1 ∨ v = 2 := by omega
          have hfr := ok.free v hv3
          have hsr : standsR r v = false := by
            unfold freeVar at hfr
            unfold standsR
            have : boundIn r v = false := by simpa using hb
            rw [this] at hfr
            simpa using hfr
          simp only [stdOk, Bool.and_eq_true, Bool.or_eq_true, decide_eq_true_eq] at hst
          have hz : x.at v = 0 := by
            rcases hv3 with rfl | rfl | rfl
            · rcases hst.1.1 with h | h
              · exact h
              · rw [hsr] at h; cases h
            · rcases hst.1.2 with h | h
              · exact h
              · rw [hsr] at h; cases h
            · rcases hst.2 with h | h
              · exact h
              · rw [hsr] at h; cases h
          omega
      · omega
    exact ⟨x, ⟨⟨c, hc, hmx⟩, hh⟩, rfl⟩
def ltS (x y : Stp) : Prop := ltV x.vars y.vars
theorem stepsF_srt (f : List Fct) (n : Int) (r : Rul) : (stepsF f n r).Pairwise ltS := by
  unfold stepsF
  rw [List.pairwise_map]
  exact (vecs_srt.filter _).imp fun h => h
/-- What is laid, sorted, each once, is the steps. -/
theorem steps_eq {l : List Prd} {f : List Fct} {n : Int} {r : Rul} (ok : ROk l r) (okf : FOk l f) {s : List Stp} (hs : s.Pairwise ltS) (hm : ∀ x, x ∈ s ↔ x ∈ outF f n r) : s = stepsF f n r :=
  srt_uniq (lt := ltS) (fun x => ltV_irrefl x.vars) (fun x y z h1 h2 => ltV_trans (x := x.vars) (y := y.vars) (z := z.vars) h1 h2) hs (stepsF_srt f n r) fun x => (hm x).trans (mem_out ok okf x)
end Go.TF
end
section
/- A rule is used; an atom is bound with a fact. -/
namespace Go.TF
open Go Go.RowKit Go.Proofs
set_option maxRecDepth 20000

def hvAt (l : List Prd) (f : List Fct) (r : Rul) (x : Vrs) (k : Nat) : Int := if 0 ≤ r.src ∧ r.src < k then headV l f r x else r.n
theorem hvAt_end {l : List Prd} {f : List Fct} {r : Rul} {x : Vrs} (ok : ROk l r) : hvAt l f r x r.body.xs.length = headV l f r x := by
  unfold hvAt
  split
  · rfl
  · rename_i h
    have := ok.src
    unfold headV
    rw [if_neg (by omega)]
theorem litOk_iff {f : List Fct} {x : Vrs} {t : Ltl} : litOk f x t = true ↔ isF f (groundF t.atom x) ≠ t.neg := by unfold litOk; rw [decide_eq_true_eq]
theorem litOf_at {r : Rul} {k : Nat} (hk : k < r.body.xs.length) : litOf r k = r.body.xs[k] := by simp [litOf, List.getD_eq_getElem?_getD, hk]
def tHold (x : Bool × Fct) : Value := .tuple #[.bool x.1, x.2.val]
set_option maxHeartbeats 4000000 in
theorem FOf_ok (B : Base) (hB : B.ok) (p : Prg) (hp : p.In B.h) (f : Sl Fct) (hf : Fcts f B.h) (n : Int) (r : Rul) (h0 : 0 ≤ n) (hr : p.rules.xs[n.toNat]? = some r) (ok : ROk p.preds.xs r) (okf : FOk p.preds.xs f.xs) (x : Vrs) (hx : VsOk x) :
    Fn Tryz.prog 84 [p.val, f.val, .int .i64 n, x.val] B (fun v _ => v = tHold (holdsF p.preds.xs f.xs r x)) := by
  have Er := hp.rules.is.el.el hr
  have ir := hp.rules.each _ (List.mem_of_getElem? hr)
  have ah := aok_of ok.preds ok.head
  have hlen := ok.len
  have hkp : r.head.pred.toNat < p.preds.xs.length := by have := ah.pred; omega
  have Eh := hp.preds.at hkp
  have hpo : p.preds.xs[r.head.pred.toNat] = predOf p.preds.xs r.head.pred := (predOf_getE ah.pred.1 ah.pred.2).symm
  have hkd := ok.preds _ (predOf_mem ah.pred)
  simp only [predFine, decide_eq_true_eq] at hkd
  refine Fn.of Tryz.func84 rfl Tryz.ntmps84 (by kernel_rfl) (by simp) ?_
  intro e
  have I := Inv.start hB
  refine WP.seq ?_
  refine WP.region ?_
  refine Ops.go (O.box (v := .agg #[_, _]) I rfl rfl ?_)
  intro b4 w I
  refine Ops.go (O.box (v := .agg #[_, _, _]) I rfl rfl ?_)
  intro b7 w I
  refine Ops.y (v := .bool _) (Y.assign rfl) ?_
  refine Ops.go (O.alloc I Tryz.zeroValue52 rfl ?_)
  intro b9 w I
  refine Ops.nil ?_
  refine WP.seq ?_
  refine WP.region ?_
  refine Ops.y (v := .pointer (some ⟨_, _, none⟩)) (Y.fa fa_25_1 rfl) ?_
  refine Ops.y (v := .slice _ _ _) (Y.loadv ty_23 rfl (I.rdbox 2 rfl 1 1) rfl rfl) ?_
  refine Ops.y (v := .int .i64 _) (Y.move rfl) ?_
  refine Ops.y (v := .pointer (some ⟨_, _, none⟩)) (Y.idxEl Er Tryz.underlying23 Tryz.sizeOf68 rfl rfl h0 rfl) ?_
  refine Ops.y (v := .agg #[_, _, _, _, _]) (Y.loadv ty_68 rfl (I.rd (Er.rd.part 0 5)) rfl rfl) ?_
  refine Ops.go (O.alloc I Tryz.zeroValue68 rfl ?_)
  intro b10 w I
  refine Ops.go (O.store (v := .agg #[_, _, _, _, _]) I ty_68 0 rfl rfl rfl rfl rfl rfl (Nat.le_of_ble_eq_true rfl) rfl ?_)
  intro w I
  refine Ops.nil ?_
  refine WP.seq ?_
  refine WP.region ?_
  refine Ops.y (v := .pointer (some ⟨_, _, none⟩)) (Y.fa0 fa_68_0 rfl) ?_
  refine Ops.y (v := .agg #[_, _]) (Y.loadv ty_65 rfl (I.rdbox 0 rfl 0 2) rfl rfl) ?_
  refine Ops.y (v := .agg #[_, _, _]) (Y.loadv ty_80 rfl (I.rdbox 2 rfl 0 3) rfl rfl) ?_
  refine Ops.go (O.callv I Tryz.call135 (Of_ok _ I.base_ok r.head ir.head x ah.len ah.err) rfl ?_)
  intro w I
  refine Ops.go (O.alloc I Tryz.zeroValue52 rfl ?_)
  intro b11 w I
  refine Ops.go (O.store (v := .agg #[_, _, _, _]) I ty_52 0 rfl rfl rfl rfl rfl rfl (Nat.le_of_ble_eq_true rfl) rfl ?_)
  intro w I
  refine Ops.nil ?_
  refine WP.seq ?_
  refine WP.region ?_
  refine Ops.y (v := .pointer (some ⟨_, _, none⟩)) (Y.fa fa_68_2 rfl) ?_
  refine Ops.y (v := .int .i64 _) (Y.loadv ty_3 rfl (I.rdbox 1 rfl 3 1) rfl rfl) ?_
  refine Ops.y (v := .pointer (some ⟨_, _, none⟩)) (Y.fa fa_52_3 rfl) ?_
  refine Ops.go (O.store (v := .int .i64 _) I ty_3 0 rfl rfl rfl rfl rfl rfl (Nat.le_of_ble_eq_true rfl) rfl ?_)
  intro w I
  refine Ops.nil ?_
  refine WP.seq ?_
  refine WP.seq ?_
  refine WP.region ?_
  refine Ops.y (v := .pointer (some ⟨_, _, none⟩)) (Y.fa fa_68_3 rfl) ?_
  refine Ops.y (v := .slice _ _ _) (Y.loadv ty_66 rfl (I.rdbox 1 rfl 4 1) rfl rfl) ?_
  refine Ops.y (v := .int .i64 _) (Y.lens Tryz.underlying66 rfl) ?_
  refine Ops.y (v := .int .i64 _) (Y.move rfl) ?_
  refine Ops.nil ?_
  refine WP.block ?_
  refine WP.loopE (σ := Nat) (fun k => [(1, f.val), (4, .pointer (some ⟨b4, 0, none⟩)), (7, .pointer (some ⟨b7, 0, none⟩)), (9, .pointer (some ⟨b9, 0, none⟩)), (10, .pointer (some ⟨b10, 0, none⟩)), (11, .pointer (some ⟨b11, 0, none⟩)), (29, r.body.val), (30, .int .i64 r.body.xs.length), (31, .int .i64 k)])
    (fun k w => (∃ h1, B.h.le h1 ∧ Inv B h1 [box b11 [.int .i64 r.head.pred, .int .i64 (argv r.head x 0), .int .i64 (argv r.head x 1), .int .i64 (hvAt p.preds.xs f.xs r x k)] 52, box b10 r.enc 68, box b9 [.int .i64 0, .int .i64 0, .int .i64 0, .int .i64 0] 52, box b7 x.enc 80, box b4 p.enc 25] w) ∧ k ≤ r.body.xs.length ∧ ∀ j, j < k → ∀ hj : j < r.body.xs.length, litOk f.xs x r.body.xs[j] = true) (fun k => r.body.xs.length - k)
    ⟨0, ⟨rfl, rfl, rfl, rfl, rfl, rfl, rfl, rfl, rfl, trivial⟩, ?_, Nat.zero_le _, fun j hj => by omega⟩ ?_
  · have : hvAt p.preds.xs f.xs r x 0 = r.n := by unfold hvAt; rw [if_neg (by omega)]
    rw [this]; exact ⟨_, Heap.le.refl _, I⟩
  rintro k e w ⟨⟨h1, gl, I⟩, hk, hn⟩
  have ir := ir.le gl
  have hf := hf.le gl
  have Eh := Eh.le gl
  refine WP.seq ?_
  refine WP.region ?_
  refine Ops.y (v := .bool (decide _)) (Y.lti rfl rfl) ?_
  refine Ops.nil ?_
  refine WP.seq ?_
  refine WP.cond_dec rfl (fun h => ?_) (fun h => ?_)
  · have hk' : k < r.body.xs.length := by omega
    have E1 := ir.body.is.at hk'
    have ab := aok_of ok.preds (ok.body _ (List.getElem_mem hk'))
    have pb := ab.pf ok.five hx 0
    have hiff := isF_iff (x := groundF r.body.xs[k].atom x) okf.srt
    refine WP.skip ?_
    refine WP.seq ?_
    refine WP.block ?_
    refine WP.seq ?_
    refine WP.region ?_
    refine Ops.y (v := .int .i64 _) (Y.move rfl) ?_
    refine Ops.y (v := .pointer (some ⟨_, _, none⟩)) (Y.idxEl E1 Tryz.underlying66 Tryz.sizeOf131 rfl rfl (Int.natCast_nonneg _) rfl) ?_
    refine Ops.y (v := .agg #[_, _, _]) (Y.loadv ty_131 rfl (I.rd (E1.rd.part 0 3)) rfl rfl) ?_
    refine Ops.go (O.alloc I Tryz.zeroValue131 rfl ?_)
    intro b13 w I
    refine Ops.y (v := .int .i64 _) (Y.assign rfl) ?_
    refine Ops.go (O.store (v := .agg #[_, _, _]) I ty_131 0 rfl rfl rfl rfl rfl rfl (Nat.le_of_ble_eq_true rfl) rfl ?_)
    intro w I
    refine Ops.nil ?_
    refine WP.seq ?_
    refine WP.region ?_
    refine Ops.y (v := .slice _ _ _) (Y.move rfl) ?_
    refine Ops.y (v := .pointer (some ⟨_, _, none⟩)) (Y.fa fa_131_1 rfl) ?_
    refine Ops.y (v := .agg #[_, _]) (Y.loadv ty_65 rfl (I.rdbox 0 rfl 1 2) rfl rfl) ?_
    refine Ops.y (v := .agg #[_, _, _]) (Y.loadv ty_80 rfl (I.rdbox 4 rfl 0 3) rfl rfl) ?_
    refine Ops.go (O.callv I Tryz.call135 (Of_ok _ I.base_ok r.body.xs[k].atom (ir.body.each _ (List.getElem_mem hk')) x ab.len ab.err) rfl ?_)
    intro w I
    refine Ops.go (O.callv I Tryz.call70 (Seek_ok _ I.base_ok f hf okf.pf okf.srt _ pb) rfl ?_)
    intro w I
    refine Ops.y (v := .tuple #[_, _]) (Y.move rfl) ?_
    refine Ops.y (v := .int .i64 _) (Y.extract rfl rfl) ?_
    refine Ops.y (v := .bool _) (Y.extract rfl rfl) ?_
    refine Ops.y (v := .int .i64 _) (Y.assign rfl) ?_
    refine Ops.y (v := .bool _) (Y.assign rfl) ?_
    refine Ops.nil ?_
    refine WP.seq ?_
    refine WP.seq ?_
    refine WP.region ?_
    refine Ops.y (v := .bool _) (Y.move rfl) ?_
    refine Ops.y (v := .pointer (some ⟨_, _, none⟩)) (Y.fa0 fa_131_0 rfl) ?_
    refine Ops.y (v := .bool _) (Y.loadv ty_4 rfl (I.rdbox 0 rfl 0 1) rfl rfl) ?_
    refine Ops.y (v := .bool (decide _)) (Y.eqb Tryz.underlying4 rfl rfl) ?_
    refine Ops.nil ?_
    refine WP.cond_dec rfl (fun h8 => ?_) (fun h8 => ?_)
    · have hno : holdsB f.xs r x = false := by
        unfold holdsB; rw [List.all_eq_false]; exact ⟨_, List.getElem_mem hk', by rw [litOk_iff]; exact fun hh => hh h8⟩
      refine WP.seq ?_
      refine WP.region ?_
      refine Ops.y (v := .agg #[.int .i64 _, .int .i64 _, .int .i64 _, .int .i64 _]) (Y.build pl_52 Tryz.zeroValue52 rfl rfl) ?_
      refine Ops.y (v := .bool _) (Y.assign rfl) ?_
      refine Ops.go (O.store (v := .agg #[_, _, _, _]) I ty_52 3 rfl rfl rfl rfl rfl rfl (Nat.le_of_ble_eq_true rfl) rfl ?_)
      intro w I
      refine Ops.nil ?_
      refine WP.ret ?_
      repeat (first | refine thenE_ret ?_ | refine blockE_ret ?_)
      exact retQ.mk (vs := [.bool _, .agg #[_, _, _, _]]) rfl ⟨rfl, ⟨_, _, _, _, _, rfl, ty_52, I.rdbox 3 rfl 0 4, rfl, rfl⟩, trivial⟩ I.ext_of (by simp only [tup, tHold, holdsF, hno]; rfl)
    refine WP.skip ?_
    refine WP.seq ?_
    refine WP.region ?_
    refine Ops.y (v := .int .i64 _) (Y.move rfl) ?_
    refine Ops.y (v := .pointer (some ⟨_, _, none⟩)) (Y.fa fa_68_1 rfl) ?_
    refine Ops.y (v := .int .i64 _) (Y.loadv ty_3 rfl (I.rdbox 2 rfl 2 1) rfl rfl) ?_
    refine Ops.y (v := .bool (decide _)) (Y.eqi rfl rfl) ?_
    refine Ops.nil ?_
    refine WP.cond_dec rfl (fun h10 => ?_) (fun h10 => ?_)
    · have hs0 : 0 ≤ r.src := by omega
      obtain ⟨hng, hkq⟩ := ok.pos hs0
      have hlo : litOf r r.src = r.body.xs[k] := by rw [← h10]; exact litOf_at hk'
      rw [hlo] at hng
      have his : isF f.xs (groundF r.body.xs[k].atom x) = true := by
        rcases Bool.eq_false_or_eq_true (isF f.xs (groundF r.body.xs[k].atom x)) with hh | hh
        · exact hh
        · exact absurd (hh.trans hng.symm) h8
      obtain ⟨hlt, hpl⟩ := hiff.1 his
      have Ef := hf.at hlt
      have hlk := lkF_pos okf.srt hlt hpl
      have hval : hvAt p.preds.xs f.xs r x (k + 1) = liftV p.preds.xs[r.head.pred.toNat].kind f.xs[posF f.xs (groundF r.body.xs[k].atom x)].v r.n := by
        unfold hvAt headV
        rw [if_pos ⟨hs0, by omega⟩, if_pos hs0, hlo, hlk, hpo]; rfl
      have hI : I64 (f.xs[posF f.xs (groundF r.body.xs[k].atom x)].v + r.n) := by
        have h1 := vOk_iff.1 (fine_v (okf.fine _ (List.getElem_mem hlt)))
        have h2 := ok.n
        unfold I64; omega
      refine WP.regionF mixed I 15 (by kernel_rfl) ?_
      refine OpsF.y_ (v := .pointer (some ⟨_, _, none⟩)) (fun _ => runs_none _) (fun _ w us hl I => Y.fa0 fa_25_0 rfl) ?_
      refine OpsF.y_ (v := .slice _ _ _) (fun _ => runs_none _) (fun _ w us hl I => Y.loadv ty_22 rfl (I.rdbox 5 rfl 0 1) rfl rfl) ?_
      refine OpsF.y_ (v := .pointer (some ⟨_, _, none⟩)) (fun _ => runs_none _) (fun _ w us hl I => Y.fa0 fa_52_0 rfl) ?_
      refine OpsF.y_ (v := .int .i64 _) (fun _ => runs_none _) (fun _ w us hl I => Y.loadv ty_3 rfl (I.rdbox 1 rfl 0 1) rfl rfl) ?_
      refine OpsF.y_ (v := .pointer (some ⟨_, _, none⟩)) (fun _ => runs_none _) (fun _ w us hl I => Y.idxEl Eh Tryz.underlying22 Tryz.sizeOf62 rfl rfl ah.pred.1 rfl) ?_
      refine OpsF.y_ (v := .pointer (some ⟨_, _, none⟩)) (fun _ => runs_none _) (fun _ w us hl I => Y.fa fa_62_2 rfl) ?_
      refine OpsF.y_ (v := .int .i64 _) (fun _ => runs_none _) (fun _ w us hl I => Y.loadv ty_3 rfl (I.rd ((Eh.rd.part 2 1).le hl)) rfl rfl) ?_
      refine OpsF.y_ (v := .slice _ _ _) (fun _ => runs_none _) (fun _ w us hl I => Y.move rfl) ?_
      refine OpsF.y_ (v := .int .i64 _) (fun _ => runs_none _) (fun _ w us hl I => Y.move rfl) ?_
      refine OpsF.y_ (v := .pointer (some ⟨_, _, none⟩)) (fun _ => runs_none _) (fun _ w us hl I => Y.idxEl Ef Tryz.underlying26 Tryz.sizeOf52 rfl rfl (Int.natCast_nonneg _) rfl) ?_
      refine OpsF.y_ (v := .pointer (some ⟨_, _, none⟩)) (fun _ => runs_none _) (fun _ w us hl I => Y.fa fa_52_3 rfl) ?_
      refine OpsF.y_ (v := .int .i64 _) (fun _ => runs_none _) (fun _ w us hl I => Y.loadv ty_3 rfl (I.rd ((Ef.rd.part 3 1).le hl)) rfl rfl) ?_
      refine OpsF.y_ (v := .pointer (some ⟨_, _, none⟩)) (fun _ => runs_none _) (fun _ w us hl I => Y.fa fa_68_2 rfl) ?_
      refine OpsF.y_ (v := .int .i64 _) (fun _ => runs_none _) (fun _ w us hl I => Y.loadv ty_3 rfl (I.rdbox 2 rfl 3 1) rfl rfl) ?_
      refine OpsF.c_ (fun _ => runs_none _) (fun _ w us hl I => O.callv I Tryz.call150 (Lifted_ok _ I.base_ok _ _ _ (by rw [hpo]; exact hkd.2.2) hI) rfl (fun w' I' => ⟨rfl, I'⟩)) ?_
      refine OpsF.nil ?_
      intro _ w hl I
      refine Ops.y (v := .pointer (some ⟨_, _, none⟩)) (Y.fa fa_52_3 rfl) ?_
      refine Ops.go (O.store (v := .int .i64 _) I ty_3 1 rfl rfl rfl rfl rfl rfl (Nat.le_of_ble_eq_true rfl) rfl ?_)
      intro w I
      refine Ops.nil ?_
      refine WP.region ?_
      refine Ops.y (v := .int .i64 _) (Y.addi rfl rfl ⟨by omega, by omega⟩) ?_
      refine Ops.y (v := .int .i64 _) (Y.move rfl) ?_
      refine Ops.nil ?_
      exact ⟨k + 1, ⟨⟨rfl, rfl, rfl, rfl, rfl, rfl, rfl, rfl, rfl, trivial⟩, ⟨_, gl.trans hl, by rw [hval]; exact I.drop⟩, by omega, fun j hj hj' => by
        rcases Nat.lt_succ_iff_lt_or_eq.1 hj with h' | rfl
        · exact hn j h' hj'
        · exact litOk_iff.2 h8⟩, by omega⟩
    · have hval : hvAt p.preds.xs f.xs r x (k + 1) = hvAt p.preds.xs f.xs r x k := by
        unfold hvAt
        have : (0 ≤ r.src ∧ r.src < ((k + 1 : Nat) : Int)) ↔ (0 ≤ r.src ∧ r.src < (k : Int)) := by omega
        simp only [this]
      refine WP.skip ?_
      refine WP.region ?_
      refine Ops.y (v := .int .i64 _) (Y.addi rfl rfl ⟨by omega, by omega⟩) ?_
      refine Ops.y (v := .int .i64 _) (Y.move rfl) ?_
      refine Ops.nil ?_
      exact ⟨k + 1, ⟨⟨rfl, rfl, rfl, rfl, rfl, rfl, rfl, rfl, rfl, trivial⟩, ⟨h1, gl, by rw [hval]; exact I.drop⟩, by omega, fun j hj hj' => by
        rcases Nat.lt_succ_iff_lt_or_eq.1 hj with h' | rfl
        · exact hn j h' hj'
        · exact litOk_iff.2 h8⟩, by omega⟩
  obtain rfl : k = r.body.xs.length := by omega
  have hyes : holdsB f.xs r x = true := by
    unfold holdsB; rw [List.all_eq_true]; intro t ht; obtain ⟨j, hj, rfl⟩ := List.getElem_of_mem ht; exact hn j hj hj
  rw [hvAt_end ok] at I
  refine WP.exit ?_
  refine WP.seq ?_
  refine WP.regionF mixed I 2 (by kernel_rfl) ?_
  refine OpsF.y_ (v := .agg #[_, _, _, _]) (fun _ => runs_none _) (fun _ w us hl I => Y.loadv ty_52 rfl (I.rdbox 0 rfl 0 4) rfl rfl) ?_
  refine OpsF.y_ (v := .bool _) (fun _ => runs_none _) (fun _ w us hl I => Y.assign rfl) ?_
  refine OpsF.nil ?_
  intro _ w hl I
  refine Ops.go (O.store (v := .agg #[_, _, _, _]) I ty_52 2 rfl rfl rfl rfl rfl rfl (Nat.le_of_ble_eq_true rfl) rfl ?_)
  intro w I
  refine Ops.nil ?_
  refine WP.ret ?_
  repeat (first | refine thenE_ret ?_ | refine blockE_ret ?_)
  exact retQ.mk (vs := [.bool _, .agg #[_, _, _, _]]) rfl ⟨rfl, ⟨_, _, _, _, _, rfl, ty_52, I.rdbox 2 rfl 0 4, rfl, rfl⟩, trivial⟩ I.ext_of (by simp only [tup, tHold, holdsF, hyes]; rfl)
/-! ### Binding -/
def nthF (x : Fct) (k : Nat) : Int := if k = 0 then x.a else x.b
theorem pair_drop {a : Atm} {x : Fct} (h2 : a.args.xs.length ≤ 2) {k : Nat} (hk : k < a.args.xs.length) : (pairF a x).drop k = (a.args.xs[k], nthF x k) :: (pairF a x).drop (k + 1) := by
  have hl : (pairF a x).length = a.args.xs.length := by unfold pairF; rw [List.length_zip]; simp only [List.length_cons, List.length_nil]; omega
  rw [List.drop_eq_getElem_cons (by omega)]
  congr 1
  unfold pairF
  rw [List.getElem_zip]
  have : k = 0 ∨ k = 1 := by omega
  rcases this with rfl | rfl <;> rfl
theorem pair_end {a : Atm} {x : Fct} : (pairF a x).drop a.args.xs.length = [] := by
  apply List.drop_eq_nil_of_le
  unfold pairF; rw [List.length_zip]; omega
theorem set_enc {b : Vrs} {v n : Int} (hv : 0 ≤ v ∧ v < 3) : ([b.x0, b.x1, b.x2].set v.toNat n).map (fun n : Int => Value.int .i64 n) = (b.set v n).enc := by
  have : v = 0 ∨ v = 1 ∨ v = 2 := by omega
  rcases this with rfl | rfl | rfl <;> rfl
def withC : Vrs → List (Trm × Int) → Vrs × Bool
  | b, [] => (b, true)
  | b, (t, n) :: r => if cantF b t n then (b, false) else withC (bindF b t n) r
def wcF (b : Vrs) (a : Atm) (x : Fct) : Vrs × Bool := if a.pred ≠ x.pred then (b, false) else withC b (pairF a x)
theorem withC_L : ∀ (ps : List (Trm × Int)) (b : Vrs), withL b ps = if (withC b ps).2 then some (withC b ps).1 else none
  | [], b => rfl
  | (t, n) :: r, b => by
    rw [withL, withC]
    split
    · rfl
    · exact withC_L r _
theorem withF_wc (b : Vrs) (a : Atm) (x : Fct) : withF b a x = if (wcF b a x).2 then some (wcF b a x).1 else none := by
  unfold withF wcF
  split
  · rfl
  · exact withC_L _ _
def tWith (c : Vrs × Bool) : Value := .tuple #[c.1.val, .bool c.2]
set_option maxHeartbeats 4000000 in
theorem with_ok (B : Base) (hB : B.ok) (b : Vrs) (a : Atm) (ha : a.In B.h) (x : Fct) (h2 : a.args.xs.length ≤ 2) (hv : ∀ t ∈ a.args.xs, t.var = true → 0 ≤ t.n ∧ t.n < 3) : Fn Tryz.prog 169 [b.val, a.val, x.val] B (fun v _ => v = tWith (wcF b a x)) := by
  refine Fn.of Tryz.func169 rfl Tryz.ntmps169 (by kernel_rfl) (by simp) ?_
  intro e
  have I := Inv.start hB
  refine WP.seq ?_
  refine WP.region ?_
  refine Ops.go (O.box (v := .agg #[_, _, _]) I rfl rfl ?_)
  intro b3 w I
  refine Ops.go (O.box (v := .agg #[_, _]) I rfl rfl ?_)
  intro b4 w I
  refine Ops.go (O.box (v := .agg #[_, _, _, _]) I rfl rfl ?_)
  intro b5 w I
  refine Ops.go (O.alloc I Tryz.zeroValue193 rfl ?_)
  intro b6 w I
  refine Ops.y (v := .bool _) (Y.assign rfl) ?_
  refine Ops.nil ?_
  refine WP.seq ?_
  refine WP.seq ?_
  refine WP.region ?_
  refine Ops.y (v := .pointer (some ⟨_, _, none⟩)) (Y.fa0 fa_65_0 rfl) ?_
  refine Ops.y (v := .int .i64 _) (Y.loadv ty_3 rfl (I.rdbox 2 rfl 0 1) rfl rfl) ?_
  refine Ops.y (v := .pointer (some ⟨_, _, none⟩)) (Y.fa0 fa_52_0 rfl) ?_
  refine Ops.y (v := .int .i64 _) (Y.loadv ty_3 rfl (I.rdbox 1 rfl 0 1) rfl rfl) ?_
  refine Ops.y (v := .bool (decide _)) (Y.nei rfl rfl) ?_
  refine Ops.nil ?_
  refine WP.cond_dec rfl (fun h1 => ?_) (fun h1 => ?_)
  · refine WP.seq ?_
    refine WP.region ?_
    refine Ops.y (v := .agg #[_, _, _]) (Y.loadv ty_193 rfl (I.rdbox 3 rfl 0 3) rfl rfl) ?_
    refine Ops.go (O.store (v := .agg #[_, _, _]) I ty_193 0 rfl rfl rfl rfl rfl rfl (Nat.le_of_ble_eq_true rfl) rfl ?_)
    intro w I
    refine Ops.y (v := .bool _) (Y.assign rfl) ?_
    refine Ops.nil ?_
    refine WP.ret ?_
    repeat (first | refine thenE_ret ?_ | refine blockE_ret ?_)
    exact retQ.mk (vs := [.agg #[_, _, _], .bool _]) rfl ⟨⟨_, _, _, _, _, rfl, ty_193, I.rdbox 0 rfl 0 3, rfl, rfl⟩, rfl, trivial⟩ I.ext_of (by simp only [tup, tWith, wcF]; rw [if_pos h1])
  refine WP.skip ?_
  refine WP.seq ?_
  refine WP.seq ?_
  refine WP.region ?_
  refine Ops.y (v := .pointer (some ⟨_, _, none⟩)) (Y.fa fa_65_1 rfl) ?_
  refine Ops.y (v := .slice _ _ _) (Y.loadv ty_63 rfl (I.rdbox 2 rfl 1 1) rfl rfl) ?_
  refine Ops.y (v := .int .i64 _) (Y.lens Tryz.underlying63 rfl) ?_
  refine Ops.y (v := .int .i64 _) (Y.move rfl) ?_
  refine Ops.nil ?_
  refine WP.block ?_
  refine WP.loopE (σ := Nat × Vrs) (fun s => [(3, .pointer (some ⟨b3, 0, none⟩)), (4, .pointer (some ⟨b4, 0, none⟩)), (5, .pointer (some ⟨b5, 0, none⟩)), (6, .pointer (some ⟨b6, 0, none⟩)), (18, a.args.val), (19, .int .i64 a.args.xs.length), (20, .int .i64 s.1)])
    (fun s w => Inv B B.h [box b6 [.int .i64 0, .int .i64 0, .int .i64 0] 193, box b5 x.enc 52, box b4 a.enc 65, box b3 s.2.enc 193] w ∧ s.1 ≤ a.args.xs.length ∧ withC b (pairF a x) = withC s.2 ((pairF a x).drop s.1)) (fun s => a.args.xs.length - s.1)
    ⟨(0, b), ⟨rfl, rfl, rfl, rfl, rfl, rfl, rfl, trivial⟩, I, Nat.zero_le _, rfl⟩ ?_
  rintro ⟨k, c⟩ e w ⟨I, hk, hw⟩
  dsimp only at I hk hw ⊢
  refine WP.seq ?_
  refine WP.region ?_
  refine Ops.y (v := .bool (decide _)) (Y.lti rfl rfl) ?_
  refine Ops.nil ?_
  refine WP.seq ?_
  refine WP.cond_dec rfl (fun h => ?_) (fun h => ?_)
  · have hk' : k < a.args.xs.length := by omega
    have E1 := Sl.Is.at ha hk'
    have hpart : (([.int .i64 x.a, .int .i64 x.b] : List Value).drop ((k : Int).toNat * 1)).take 1 = [.int .i64 (nthF x k)] := by
      have : k = 0 ∨ k = 1 := by omega
      rcases this with rfl | rfl <;> rfl
    have hpd := pair_drop (x := x) h2 hk'
    rw [hpd, withC] at hw
    have htn := hv _ (List.getElem_mem hk')
    refine WP.skip ?_
    refine WP.seq ?_
    refine WP.block ?_
    refine WP.seq ?_
    refine WP.region ?_
    refine Ops.y (v := .int .i64 _) (Y.move rfl) ?_
    refine Ops.y (v := .pointer (some ⟨_, _, none⟩)) (Y.idxEl E1 Tryz.underlying63 Tryz.sizeOf91 rfl rfl (Int.natCast_nonneg _) rfl) ?_
    refine Ops.y (v := .agg #[_, _]) (Y.loadv ty_91 rfl (I.rd (E1.rd.part 0 2)) rfl rfl) ?_
    refine Ops.go (O.alloc I Tryz.zeroValue91 rfl ?_)
    intro b9 w I
    refine Ops.y (v := .int .i64 _) (Y.assign rfl) ?_
    refine Ops.go (O.store (v := .agg #[_, _]) I ty_91 0 rfl rfl rfl rfl rfl rfl (Nat.le_of_ble_eq_true rfl) rfl ?_)
    intro w I
    refine Ops.nil ?_
    refine WP.seq ?_
    refine WP.region ?_
    refine Ops.y (v := .pointer (some ⟨_, _, none⟩)) (Y.fa fa_52_1 rfl) ?_
    refine Ops.y (v := .int .i64 _) (Y.loadv ty_3 rfl (I.rdbox 2 rfl 1 1) rfl rfl) ?_
    refine Ops.y (v := .pointer (some ⟨_, _, none⟩)) (Y.fa fa_52_2 rfl) ?_
    refine Ops.y (v := .int .i64 _) (Y.loadv ty_3 rfl (I.rdbox 2 rfl 2 1) rfl rfl) ?_
    refine Ops.y (v := .agg #[.int .i64 _, .int .i64 _]) (Y.builda Tryz.underlying182 Tryz.zeroValue182 Tryz.sizeOf3 rfl rfl) ?_
    refine Ops.y (v := .int .i64 _) (Y.move rfl) ?_
    refine Ops.y (v := .int .i64 _) (Y.idxvv Tryz.underlying182 ty_3 rfl rfl (Int.natCast_nonneg _) (by omega) (part := [.int .i64 (nthF x k)]) hpart rfl rfl) ?_
    refine Ops.y (v := .int .i64 _) (Y.assign rfl) ?_
    refine Ops.nil ?_
    cases hvar : a.args.xs[k].var
    · by_cases hc : a.args.xs[k].n ≠ nthF x k
      · have hcant : cantF c a.args.xs[k] (nthF x k) := .inl ⟨hvar, hc⟩
        rw [if_pos hcant] at hw
        refine WP.block ?_
        refine WP.seq ?_
        refine WP.seq ?_
        refine WP.region ?_
        refine Ops.y (v := .pointer (some ⟨_, _, none⟩)) (Y.fa0 fa_91_0 rfl) ?_
        refine Ops.y (v := .bool _) (Y.loadv ty_4 rfl (I.rdbox 0 rfl 0 1) rfl rfl) ?_
        refine Ops.y (v := .bool true) (Y.b (Y.not rfl) ((by rw [hvar]; rfl))) ?_
        refine Ops.y (v := .bool _) (Y.move rfl) ?_
        refine Ops.ygt rfl (v := .pointer (some ⟨_, _, none⟩)) (Y.fa fa_91_1 rfl) ?_
        refine Ops.ygt rfl (v := .int .i64 _) (Y.loadv ty_3 rfl (I.rdbox 0 rfl 1 1) rfl rfl) ?_
        refine Ops.ygt rfl (v := .int .i64 _) (Y.move rfl) ?_
        refine Ops.ygt rfl (v := .bool true) (Y.dec_t (Y.nei rfl rfl) (hc)) ?_
        refine Ops.y (v := .bool _) (Y.pick_t rfl rfl) ?_
        refine Ops.y (v := .bool _) (Y.assign rfl) ?_
        refine Ops.nil ?_
        refine WP.cond_t rfl ?_
        refine WP.skip ?_
        refine WP.cond_t rfl ?_
        refine WP.seq ?_
        refine WP.region ?_
        refine Ops.y (v := .agg #[_, _, _]) (Y.loadv ty_193 rfl (I.rdbox 4 rfl 0 3) rfl rfl) ?_
        refine Ops.go (O.store (v := .agg #[_, _, _]) I ty_193 1 rfl rfl rfl rfl rfl rfl (Nat.le_of_ble_eq_true rfl) rfl ?_)
        intro w I
        refine Ops.y (v := .bool _) (Y.assign rfl) ?_
        refine Ops.nil ?_
        refine WP.ret ?_
        repeat (first | refine thenE_ret ?_ | refine blockE_ret ?_)
        exact retQ.mk (vs := [.agg #[_, _, _], .bool _]) rfl ⟨⟨_, _, _, _, _, rfl, ty_193, I.rdbox 1 rfl 0 3, rfl, rfl⟩, rfl, trivial⟩ I.ext_of (by simp only [tup, tWith, wcF]; rw [if_neg h1, hw])
      · have hcant : ¬ cantF c a.args.xs[k] (nthF x k) := by rintro (⟨_, q⟩ | ⟨q, _⟩); exact hc q; rw [hvar] at q; cases q
        rw [if_neg hcant] at hw
        have hbn : bindF c a.args.xs[k] (nthF x k) = c := by unfold bindF; rw [hvar]; rfl
        rw [hbn] at hw
        refine WP.block ?_
        refine WP.seq ?_
        refine WP.seq ?_
        refine WP.region ?_
        refine Ops.y (v := .pointer (some ⟨_, _, none⟩)) (Y.fa0 fa_91_0 rfl) ?_
        refine Ops.y (v := .bool _) (Y.loadv ty_4 rfl (I.rdbox 0 rfl 0 1) rfl rfl) ?_
        refine Ops.y (v := .bool true) (Y.b (Y.not rfl) ((by rw [hvar]; rfl))) ?_
        refine Ops.y (v := .bool _) (Y.move rfl) ?_
        refine Ops.ygt rfl (v := .pointer (some ⟨_, _, none⟩)) (Y.fa fa_91_1 rfl) ?_
        refine Ops.ygt rfl (v := .int .i64 _) (Y.loadv ty_3 rfl (I.rdbox 0 rfl 1 1) rfl rfl) ?_
        refine Ops.ygt rfl (v := .int .i64 _) (Y.move rfl) ?_
        refine Ops.ygt rfl (v := .bool false) (Y.dec_f (Y.nei rfl rfl) (hc)) ?_
        refine Ops.y (v := .bool _) (Y.pick_t rfl rfl) ?_
        refine Ops.y (v := .bool _) (Y.assign rfl) ?_
        refine Ops.nil ?_
        refine WP.cond_f rfl ?_
        refine WP.region ?_
        refine Ops.y (v := .pointer (some ⟨_, _, none⟩)) (Y.fa0 fa_91_0 rfl) ?_
        refine Ops.y (v := .bool _) (Y.loadv ty_4 rfl (I.rdbox 0 rfl 0 1) rfl rfl) ?_
        refine Ops.y (v := .bool false) (Y.b (Y.move rfl) (hvar)) ?_
        refine Ops.gf rfl ?_
        refine Ops.gf rfl ?_
        refine Ops.gf rfl ?_
        refine Ops.gf rfl ?_
        refine Ops.gf rfl ?_
        refine Ops.y (v := .bool _) (Y.pick_f rfl rfl) ?_
        refine Ops.y (v := .bool _) (Y.move rfl) ?_
        refine Ops.gf rfl ?_
        refine Ops.gf rfl ?_
        refine Ops.gf rfl ?_
        refine Ops.gf rfl ?_
        refine Ops.gf rfl ?_
        refine Ops.gf rfl ?_
        refine Ops.y (v := .bool _) (Y.pick_f rfl rfl) ?_
        refine Ops.y (v := .bool _) (Y.assign rfl) ?_
        refine Ops.nil ?_
        refine WP.cond_f rfl ?_
        refine WP.seq ?_
        refine WP.region ?_
        refine Ops.y (v := .pointer (some ⟨_, _, none⟩)) (Y.fa0 fa_91_0 rfl) ?_
        refine Ops.y (v := .bool false) (Y.b (Y.loadv ty_4 rfl (I.rdbox 0 rfl 0 1) rfl rfl) (hvar)) ?_
        refine Ops.y (v := .bool _) (Y.assign rfl) ?_
        refine Ops.nil ?_
        refine WP.cond_f rfl ?_
        refine WP.skip ?_
        refine WP.region ?_
        refine Ops.y (v := .int .i64 _) (Y.addi rfl rfl ⟨by omega, by omega⟩) ?_
        refine Ops.y (v := .int .i64 _) (Y.move rfl) ?_
        refine Ops.nil ?_
        exact ⟨(k + 1, c), ⟨⟨rfl, rfl, rfl, rfl, rfl, rfl, rfl, trivial⟩, I.drop, by dsimp only; omega, hw⟩, by dsimp only; omega⟩
    · have ht := htn hvar
      by_cases hc0 : 0 ≤ c.at a.args.xs[k].n
      · by_cases hc1 : c.at a.args.xs[k].n ≠ nthF x k
        · have hcant : cantF c a.args.xs[k] (nthF x k) := .inr ⟨hvar, hc0, hc1⟩
          rw [if_pos hcant] at hw
          refine WP.block ?_
          refine WP.seq ?_
          refine WP.seq ?_
          refine WP.region ?_
          refine Ops.y (v := .pointer (some ⟨_, _, none⟩)) (Y.fa0 fa_91_0 rfl) ?_
          refine Ops.y (v := .bool _) (Y.loadv ty_4 rfl (I.rdbox 0 rfl 0 1) rfl rfl) ?_
          refine Ops.y (v := .bool false) (Y.b (Y.not rfl) ((by rw [hvar]; rfl))) ?_
          refine Ops.y (v := .bool _) (Y.move rfl) ?_
          refine Ops.gf rfl ?_
          refine Ops.gf rfl ?_
          refine Ops.gf rfl ?_
          refine Ops.gf rfl ?_
          refine Ops.y (v := .bool _) (Y.pick_f rfl rfl) ?_
          refine Ops.y (v := .bool _) (Y.assign rfl) ?_
          refine Ops.nil ?_
          refine WP.cond_f rfl ?_
          refine WP.region ?_
          refine Ops.y (v := .pointer (some ⟨_, _, none⟩)) (Y.fa0 fa_91_0 rfl) ?_
          refine Ops.y (v := .bool _) (Y.loadv ty_4 rfl (I.rdbox 0 rfl 0 1) rfl rfl) ?_
          refine Ops.y (v := .bool true) (Y.b (Y.move rfl) (hvar)) ?_
          refine Ops.ygt rfl (v := .pointer (some ⟨_, _, none⟩)) (Y.fa fa_91_1 rfl) ?_
          refine Ops.ygt rfl (v := .int .i64 _) (Y.loadv ty_3 rfl (I.rdbox 0 rfl 1 1) rfl rfl) ?_
          refine Ops.ygt rfl (v := .pointer (some ⟨_, _, none⟩)) (Y.idxa Tryz.underlying193 Tryz.sizeOf3 rfl rfl ht.1 ht.2) ?_
          refine Ops.ygt rfl (v := .int .i64 _) (Y.loadv ty_3 rfl (Rd.vrs (I.rdbox 4 rfl 0 3) ht.1 ht.2) rfl rfl) ?_
          refine Ops.ygt rfl (v := .bool true) (Y.dec_t (Y.gei rfl rfl) (hc0)) ?_
          refine Ops.y (v := .bool _) (Y.pick_t rfl rfl) ?_
          refine Ops.y (v := .bool _) (Y.move rfl) ?_
          refine Ops.ygt rfl (v := .pointer (some ⟨_, _, none⟩)) (Y.fa fa_91_1 rfl) ?_
          refine Ops.ygt rfl (v := .int .i64 _) (Y.loadv ty_3 rfl (I.rdbox 0 rfl 1 1) rfl rfl) ?_
          refine Ops.ygt rfl (v := .pointer (some ⟨_, _, none⟩)) (Y.idxa Tryz.underlying193 Tryz.sizeOf3 rfl rfl ht.1 ht.2) ?_
          refine Ops.ygt rfl (v := .int .i64 _) (Y.loadv ty_3 rfl (Rd.vrs (I.rdbox 4 rfl 0 3) ht.1 ht.2) rfl rfl) ?_
          refine Ops.ygt rfl (v := .int .i64 _) (Y.move rfl) ?_
          refine Ops.ygt rfl (v := .bool true) (Y.dec_t (Y.nei rfl rfl) (hc1)) ?_
          refine Ops.y (v := .bool _) (Y.pick_t rfl rfl) ?_
          refine Ops.y (v := .bool _) (Y.assign rfl) ?_
          refine Ops.nil ?_
          refine WP.cond_t rfl ?_
          refine WP.seq ?_
          refine WP.region ?_
          refine Ops.y (v := .agg #[_, _, _]) (Y.loadv ty_193 rfl (I.rdbox 4 rfl 0 3) rfl rfl) ?_
          refine Ops.go (O.store (v := .agg #[_, _, _]) I ty_193 1 rfl rfl rfl rfl rfl rfl (Nat.le_of_ble_eq_true rfl) rfl ?_)
          intro w I
          refine Ops.y (v := .bool _) (Y.assign rfl) ?_
          refine Ops.nil ?_
          refine WP.ret ?_
          repeat (first | refine thenE_ret ?_ | refine blockE_ret ?_)
          exact retQ.mk (vs := [.agg #[_, _, _], .bool _]) rfl ⟨⟨_, _, _, _, _, rfl, ty_193, I.rdbox 1 rfl 0 3, rfl, rfl⟩, rfl, trivial⟩ I.ext_of (by simp only [tup, tWith, wcF]; rw [if_neg h1, hw])
        · have hcant : ¬ cantF c a.args.xs[k] (nthF x k) := by rintro (⟨q, _⟩ | ⟨_, _, q⟩); rw [hvar] at q; cases q; exact hc1 q
          rw [if_neg hcant] at hw
          have hbn : bindF c a.args.xs[k] (nthF x k) = c.set a.args.xs[k].n (nthF x k) := by unfold bindF; rw [hvar]; rfl
          rw [hbn] at hw
          refine WP.block ?_
          refine WP.seq ?_
          refine WP.seq ?_
          refine WP.region ?_
          refine Ops.y (v := .pointer (some ⟨_, _, none⟩)) (Y.fa0 fa_91_0 rfl) ?_
          refine Ops.y (v := .bool _) (Y.loadv ty_4 rfl (I.rdbox 0 rfl 0 1) rfl rfl) ?_
          refine Ops.y (v := .bool false) (Y.b (Y.not rfl) ((by rw [hvar]; rfl))) ?_
          refine Ops.y (v := .bool _) (Y.move rfl) ?_
          refine Ops.gf rfl ?_
          refine Ops.gf rfl ?_
          refine Ops.gf rfl ?_
          refine Ops.gf rfl ?_
          refine Ops.y (v := .bool _) (Y.pick_f rfl rfl) ?_
          refine Ops.y (v := .bool _) (Y.assign rfl) ?_
          refine Ops.nil ?_
          refine WP.cond_f rfl ?_
          refine WP.region ?_
          refine Ops.y (v := .pointer (some ⟨_, _, none⟩)) (Y.fa0 fa_91_0 rfl) ?_
          refine Ops.y (v := .bool _) (Y.loadv ty_4 rfl (I.rdbox 0 rfl 0 1) rfl rfl) ?_
          refine Ops.y (v := .bool true) (Y.b (Y.move rfl) (hvar)) ?_
          refine Ops.ygt rfl (v := .pointer (some ⟨_, _, none⟩)) (Y.fa fa_91_1 rfl) ?_
          refine Ops.ygt rfl (v := .int .i64 _) (Y.loadv ty_3 rfl (I.rdbox 0 rfl 1 1) rfl rfl) ?_
          refine Ops.ygt rfl (v := .pointer (some ⟨_, _, none⟩)) (Y.idxa Tryz.underlying193 Tryz.sizeOf3 rfl rfl ht.1 ht.2) ?_
          refine Ops.ygt rfl (v := .int .i64 _) (Y.loadv ty_3 rfl (Rd.vrs (I.rdbox 4 rfl 0 3) ht.1 ht.2) rfl rfl) ?_
          refine Ops.ygt rfl (v := .bool true) (Y.dec_t (Y.gei rfl rfl) (hc0)) ?_
          refine Ops.y (v := .bool _) (Y.pick_t rfl rfl) ?_
          refine Ops.y (v := .bool _) (Y.move rfl) ?_
          refine Ops.ygt rfl (v := .pointer (some ⟨_, _, none⟩)) (Y.fa fa_91_1 rfl) ?_
          refine Ops.ygt rfl (v := .int .i64 _) (Y.loadv ty_3 rfl (I.rdbox 0 rfl 1 1) rfl rfl) ?_
          refine Ops.ygt rfl (v := .pointer (some ⟨_, _, none⟩)) (Y.idxa Tryz.underlying193 Tryz.sizeOf3 rfl rfl ht.1 ht.2) ?_
          refine Ops.ygt rfl (v := .int .i64 _) (Y.loadv ty_3 rfl (Rd.vrs (I.rdbox 4 rfl 0 3) ht.1 ht.2) rfl rfl) ?_
          refine Ops.ygt rfl (v := .int .i64 _) (Y.move rfl) ?_
          refine Ops.ygt rfl (v := .bool false) (Y.dec_f (Y.nei rfl rfl) (hc1)) ?_
          refine Ops.y (v := .bool _) (Y.pick_t rfl rfl) ?_
          refine Ops.y (v := .bool _) (Y.assign rfl) ?_
          refine Ops.nil ?_
          refine WP.cond_f rfl ?_
          refine WP.seq ?_
          refine WP.region ?_
          refine Ops.y (v := .pointer (some ⟨_, _, none⟩)) (Y.fa0 fa_91_0 rfl) ?_
          refine Ops.y (v := .bool true) (Y.b (Y.loadv ty_4 rfl (I.rdbox 0 rfl 0 1) rfl rfl) (hvar)) ?_
          refine Ops.y (v := .bool _) (Y.assign rfl) ?_
          refine Ops.nil ?_
          refine WP.cond_t rfl ?_
          refine WP.region ?_
          refine Ops.y (v := .pointer (some ⟨_, _, none⟩)) (Y.fa fa_91_1 rfl) ?_
          refine Ops.y (v := .int .i64 _) (Y.loadv ty_3 rfl (I.rdbox 0 rfl 1 1) rfl rfl) ?_
          refine Ops.y (v := .int .i64 _) (Y.move rfl) ?_
          refine Ops.y (v := .pointer (some ⟨_, _, none⟩)) (Y.idxa Tryz.underlying193 Tryz.sizeOf3 rfl rfl ht.1 ht.2) ?_
          refine Ops.go (O.store1 I ty_3 4 rfl rfl (f := fun n : Int => Value.int .i64 n) (L := [c.x0, c.x1, c.x2]) (i := a.args.xs[k].n.toNat) (by omega) (by simp only [List.length_cons, List.length_nil]; omega) rfl rfl rfl ?_)
          intro w I
          refine Ops.nil ?_
          refine WP.region ?_
          refine Ops.y (v := .int .i64 _) (Y.addi rfl rfl ⟨by omega, by omega⟩) ?_
          refine Ops.y (v := .int .i64 _) (Y.move rfl) ?_
          refine Ops.nil ?_
          rw [set_enc ht] at I
          exact ⟨(k + 1, c.set a.args.xs[k].n (nthF x k)), ⟨⟨rfl, rfl, rfl, rfl, rfl, rfl, rfl, trivial⟩, I.drop, by dsimp only; omega, hw⟩, by dsimp only; omega⟩
      · have hcant : ¬ cantF c a.args.xs[k] (nthF x k) := by rintro (⟨q, _⟩ | ⟨_, q, _⟩); rw [hvar] at q; cases q; exact hc0 q
        rw [if_neg hcant] at hw
        have hbn : bindF c a.args.xs[k] (nthF x k) = c.set a.args.xs[k].n (nthF x k) := by unfold bindF; rw [hvar]; rfl
        rw [hbn] at hw
        refine WP.block ?_
        refine WP.seq ?_
        refine WP.seq ?_
        refine WP.region ?_
        refine Ops.y (v := .pointer (some ⟨_, _, none⟩)) (Y.fa0 fa_91_0 rfl) ?_
        refine Ops.y (v := .bool _) (Y.loadv ty_4 rfl (I.rdbox 0 rfl 0 1) rfl rfl) ?_
        refine Ops.y (v := .bool false) (Y.b (Y.not rfl) ((by rw [hvar]; rfl))) ?_
        refine Ops.y (v := .bool _) (Y.move rfl) ?_
        refine Ops.gf rfl ?_
        refine Ops.gf rfl ?_
        refine Ops.gf rfl ?_
        refine Ops.gf rfl ?_
        refine Ops.y (v := .bool _) (Y.pick_f rfl rfl) ?_
        refine Ops.y (v := .bool _) (Y.assign rfl) ?_
        refine Ops.nil ?_
        refine WP.cond_f rfl ?_
        refine WP.region ?_
        refine Ops.y (v := .pointer (some ⟨_, _, none⟩)) (Y.fa0 fa_91_0 rfl) ?_
        refine Ops.y (v := .bool _) (Y.loadv ty_4 rfl (I.rdbox 0 rfl 0 1) rfl rfl) ?_
        refine Ops.y (v := .bool true) (Y.b (Y.move rfl) (hvar)) ?_
        refine Ops.ygt rfl (v := .pointer (some ⟨_, _, none⟩)) (Y.fa fa_91_1 rfl) ?_
        refine Ops.ygt rfl (v := .int .i64 _) (Y.loadv ty_3 rfl (I.rdbox 0 rfl 1 1) rfl rfl) ?_
        refine Ops.ygt rfl (v := .pointer (some ⟨_, _, none⟩)) (Y.idxa Tryz.underlying193 Tryz.sizeOf3 rfl rfl ht.1 ht.2) ?_
        refine Ops.ygt rfl (v := .int .i64 _) (Y.loadv ty_3 rfl (Rd.vrs (I.rdbox 4 rfl 0 3) ht.1 ht.2) rfl rfl) ?_
        refine Ops.ygt rfl (v := .bool false) (Y.dec_f (Y.gei rfl rfl) (hc0)) ?_
        refine Ops.y (v := .bool _) (Y.pick_t rfl rfl) ?_
        refine Ops.y (v := .bool _) (Y.move rfl) ?_
        refine Ops.gf rfl ?_
        refine Ops.gf rfl ?_
        refine Ops.gf rfl ?_
        refine Ops.gf rfl ?_
        refine Ops.gf rfl ?_
        refine Ops.gf rfl ?_
        refine Ops.y (v := .bool _) (Y.pick_f rfl rfl) ?_
        refine Ops.y (v := .bool _) (Y.assign rfl) ?_
        refine Ops.nil ?_
        refine WP.cond_f rfl ?_
        refine WP.seq ?_
        refine WP.region ?_
        refine Ops.y (v := .pointer (some ⟨_, _, none⟩)) (Y.fa0 fa_91_0 rfl) ?_
        refine Ops.y (v := .bool true) (Y.b (Y.loadv ty_4 rfl (I.rdbox 0 rfl 0 1) rfl rfl) (hvar)) ?_
        refine Ops.y (v := .bool _) (Y.assign rfl) ?_
        refine Ops.nil ?_
        refine WP.cond_t rfl ?_
        refine WP.region ?_
        refine Ops.y (v := .pointer (some ⟨_, _, none⟩)) (Y.fa fa_91_1 rfl) ?_
        refine Ops.y (v := .int .i64 _) (Y.loadv ty_3 rfl (I.rdbox 0 rfl 1 1) rfl rfl) ?_
        refine Ops.y (v := .int .i64 _) (Y.move rfl) ?_
        refine Ops.y (v := .pointer (some ⟨_, _, none⟩)) (Y.idxa Tryz.underlying193 Tryz.sizeOf3 rfl rfl ht.1 ht.2) ?_
        refine Ops.go (O.store1 I ty_3 4 rfl rfl (f := fun n : Int => Value.int .i64 n) (L := [c.x0, c.x1, c.x2]) (i := a.args.xs[k].n.toNat) (by omega) (by simp only [List.length_cons, List.length_nil]; omega) rfl rfl rfl ?_)
        intro w I
        refine Ops.nil ?_
        refine WP.region ?_
        refine Ops.y (v := .int .i64 _) (Y.addi rfl rfl ⟨by omega, by omega⟩) ?_
        refine Ops.y (v := .int .i64 _) (Y.move rfl) ?_
        refine Ops.nil ?_
        rw [set_enc ht] at I
        exact ⟨(k + 1, c.set a.args.xs[k].n (nthF x k)), ⟨⟨rfl, rfl, rfl, rfl, rfl, rfl, rfl, trivial⟩, I.drop, by dsimp only; omega, hw⟩, by dsimp only; omega⟩
  obtain rfl : k = a.args.xs.length := by omega
  rw [pair_end, withC] at hw
  refine WP.exit ?_
  refine WP.seq ?_
  refine WP.region ?_
  refine Ops.y (v := .agg #[_, _, _]) (Y.loadv ty_193 rfl (I.rdbox 3 rfl 0 3) rfl rfl) ?_
  refine Ops.go (O.store (v := .agg #[_, _, _]) I ty_193 0 rfl rfl rfl rfl rfl rfl (Nat.le_of_ble_eq_true rfl) rfl ?_)
  intro w I
  refine Ops.y (v := .bool _) (Y.assign rfl) ?_
  refine Ops.nil ?_
  refine WP.ret ?_
  repeat (first | refine thenE_ret ?_ | refine blockE_ret ?_)
  exact retQ.mk (vs := [.agg #[_, _, _], .bool _]) rfl ⟨⟨_, _, _, _, _, rfl, ty_193, I.rdbox 0 rfl 0 3, rfl, rfl⟩, rfl, trivial⟩ I.ext_of (by simp only [tup, tWith, wcF]; rw [if_neg h1, hw])
end Go.TF
end
section
/- Regions that draw their order, over knowledge of any kind: pieces may be made and written in them. -/
namespace Go.TF
open Go Go.RowKit

abbrev Sq (σ : Type) := Value → σ → Prop
structure Pre {σ : Type} (R : σ → σ → Prop) : Prop where
  refl : ∀ s, R s s
  trans : ∀ a b c, R a b → R b c → R a c
section
variable {σ : Type}
def ovrG (e : Env) : List (Nat × Sq σ) → Env → Env
  | [], _ => e
  | p :: L, us => upd (ovrG e L us) p.1 (us p.1)
def AllG (c : Nat → Bool) (h : σ) : List (Nat × Sq σ) → Env → (Env → Prop) → Prop
  | [], e, k => k e
  | p :: L, e, k => AllG c h L e fun e' => ∀ u, (c p.1 = true → p.2 u h) → k (upd e' p.1 u)
theorem AllG.get {c : Nat → Bool} {h : σ} : ∀ {L : List (Nat × Sq σ)} {e : Env} {k : Env → Prop}, AllG c h L e k → ∀ us, (∀ p ∈ L, c p.1 = true → p.2 (us p.1) h) → k (ovrG e L us)
  | [], _, _, a, _, _ => a
  | _ :: L, _, _, a, us, hp => AllG.get (L := L) a us (fun q hq => hp q (List.mem_cons_of_mem _ hq)) (us _) (hp _ (List.mem_cons_self ..))
def MonoG (R : σ → σ → Prop) (Φ : Sq σ) : Prop := ∀ u h h', R h h' → Φ u h → Φ u h'
def setD (D : Nat → Bool) (k : Nat) : Nat → Bool := fun j => j == k || D j
def OblG (P : Program) (full : Array Oper) (J : (Nat → Bool) → σ → World → Prop) (R : σ → σ → Prop) (h0 : σ) (k : Nat) (L : List (Nat × Sq σ)) (e : Env) (o : Oper) (Φ : Sq σ) : Prop :=
  ∀ D h1 w, D k = false → R h0 h1 → J D h1 w → AllG (lk full o) h1 L e fun e' => Op1 P o e' w fun u w' => ∃ h2, R h1 h2 ∧ J (setD D k) h2 w' ∧ Φ u h2
def OpsG (P : Program) (full : Array Oper) (J : (Nat → Bool) → σ → World → Prop) (R : σ → σ → Prop) (h0 : σ) : Nat → List (Nat × Sq σ) → List Oper → Env → (List (Nat × Sq σ) → Env → Prop) → Prop
  | _, L, [], e, K => K L e
  | k, L, o :: r, e, K =>
    ((∀ us, runs full (ovrG e L us) o = false) ∧ (∀ D s w, D k = false → J D s w → J (setD D k) s w) ∧ OpsG P full J R h0 (k + 1) L r (updo e o.dst undef) K) ∨
    ((∀ us, runs full (ovrG e L us) o = true) ∧
      ((∃ v, OblG P full J R h0 k L e o (fun u _ => u = v) ∧ OpsG P full J R h0 (k + 1) L r (updo e o.dst v) K) ∨
       (∃ d Φ, o.dst = some d ∧ MonoG R Φ ∧ OblG P full J R h0 k L e o Φ ∧ OpsG P full J R h0 (k + 1) ((d, Φ) :: L) r e K)))

theorem ovrG_notin {e us : Env} {d : Nat} : ∀ {L : List (Nat × Sq σ)}, (∀ p ∈ L, p.1 ≠ d) → ovrG e L us d = e d
  | [], _ => rfl
  | p :: L, h => by
    simp only [ovrG]
    rw [upd_ne _ _ (Ne.symm (h p (List.mem_cons_self ..)))]
    exact ovrG_notin fun q hq => h q (List.mem_cons_of_mem _ hq)
theorem ovrG_upd_ne {e us : Env} {d i : Nat} {v : Value} (h : i ≠ d) : ∀ (L : List (Nat × Sq σ)), ovrG (upd e d v) L us i = ovrG e L us i
  | [] => upd_ne _ _ h
  | p :: L => by
    simp only [ovrG]
    by_cases hp : i = p.1
    · subst hp; rw [upd_eq, upd_eq]
    · rw [upd_ne _ _ hp, upd_ne _ _ hp, ovrG_upd_ne h L]

section
variable (P : Program) (ops : Array Oper) (J : (Nat → Bool) → σ → World → Prop) (R : σ → σ → Prop) (h0 : σ) (e0 : Env)
def OkG (Ss : List (Sq σ)) (k : Nat) (f : Env) (h : σ) (d : Nat) : Prop :=
  (∀ j Φ, j < k → dstO ops j = some d → Ss[j]? = some Φ → Φ (f d) h) ∧ ((∀ j, j < k → dstO ops j ≠ some d) → f d = e0 d)
structure RelG (Ss : List (Sq σ)) (L : List (Nat × Sq σ)) (e : Env) : Prop where
  eq : ∀ f h d, OkG ops e0 Ss Ss.length f h d → ovrG e L f d = f d
  sub : ∀ p ∈ L, ∃ k, k < Ss.length ∧ dstO ops k = some p.1 ∧ Ss[k]? = some p.2
def LSG (Ss : List (Sq σ)) (i : Nat) : Prop := ∀ o Φ f D h1 w, ops[i]? = some o → Ss[i]? = some Φ → D i = false → R h0 h1 → J D h1 w → (∀ d ∈ o.looksAt ops, OkG ops e0 Ss i f h1 d) →
  (runs ops f o = true → Op1 P o f w fun u w' => ∃ h2, R h1 h2 ∧ J (setD D i) h2 w' ∧ Φ u h2) ∧ (runs ops f o = false → Φ undef h1 ∧ J (setD D i) h1 w)
end
section
variable {P : Program} {ops : Array Oper} {J : (Nat → Bool) → σ → World → Prop} {R : σ → σ → Prop} {h0 : σ} {e0 : Env} {m : Nat}
theorem OkG.snoc {Ss : List (Sq σ)} {Φ : Sq σ} {k : Nat} {f : Env} {h : σ} {d : Nat} (hk : k ≤ Ss.length) : OkG ops e0 (Ss ++ [Φ]) k f h d ↔ OkG ops e0 Ss k f h d := by
  unfold OkG
  refine and_congr ⟨fun a j Ψ hj h1 h2 => a j Ψ hj h1 (by rw [get_snoc (by omega)]; exact h2), fun a j Ψ hj h1 h2 => a j Ψ hj h1 (by rw [get_snoc (by omega)] at h2; exact h2)⟩ Iff.rfl
theorem LSG.snoc {Ss : List (Sq σ)} {Φ : Sq σ} {k : Nat} (hk : k < Ss.length) (h : LSG P ops J R h0 e0 Ss k) : LSG P ops J R h0 e0 (Ss ++ [Φ]) k := by
  intro o Ψ f D h1 w ho hp hD hl I hd
  rw [get_snoc hk] at hp
  exact h o Ψ f D h1 w ho hp hD hl I fun d hm => (OkG.snoc (by omega)).1 (hd d hm)
theorem OpsG.sound (hF : Flow ops m) : ∀ (l : List Oper) (Ss : List (Sq σ)) (L : List (Nat × Sq σ)) (e : Env) (K : List (Nat × Sq σ) → Env → Prop), (∀ j, l[j]? = (ops.toList.take m)[Ss.length + j]?) → Ss.length + l.length = m →
    RelG ops e0 Ss L e → (∀ k, k < Ss.length → LSG P ops J R h0 e0 Ss k) → (∀ Φ ∈ Ss, MonoG R Φ) → OpsG P ops J R h0 Ss.length L l e K →
    ∃ Ss' L' e', Ss'.length = m ∧ RelG ops e0 Ss' L' e' ∧ (∀ k, k < m → LSG P ops J R h0 e0 Ss' k) ∧ (∀ Φ ∈ Ss', MonoG R Φ) ∧ K L' e'
  | [], Ss, L, e, K, _, hm, hr, hs, hmo, h => ⟨Ss, L, e, by simpa using hm, hr, by simpa [← hm] using hs, hmo, h⟩
  | o :: r, Ss, L, e, K, hl, hm, hr, hs, hmo, h => by
    simp only [List.length_cons] at hm
    have hi : ops[Ss.length]? = some o := by
      have := hl 0
      simp only [List.getElem?_cons_zero, Nat.add_zero, List.getElem?_take] at this
      rw [if_pos (by omega)] at this
      simpa using this.symm
    have hdst : dstO ops Ss.length = o.dst := by simp [dstO, hi]
    have hdist : ∀ k d, k < Ss.length → dstO ops k = some d → o.dst ≠ some d := fun k d hk hd hod => by
      cases hok : ops[k]? with
      | none => simp [dstO, hok] at hd
      | some ok =>
        simp [dstO, hok] at hd
        have := hF.dist k Ss.length ok o d (by omega) (by omega) hok hi hd hod
        omega
    have hagree : ∀ f h1, (∀ d ∈ o.looksAt ops, OkG ops e0 Ss Ss.length f h1 d) → ∀ d ∈ o.looksAt ops, ovrG e L f d = f d := fun f h1 hd d hdm => hr.eq f h1 d (hd d hdm)
    have hLd : ∀ f h1, (∀ d ∈ o.looksAt ops, OkG ops e0 Ss Ss.length f h1 d) → ∀ p ∈ L, lk ops o p.1 = true → p.2 (f p.1) h1 := fun f h1 hd p hp hk => by
      obtain ⟨k, k1, k2, k3⟩ := hr.sub p hp
      exact (hd p.1 (by simpa [lk] using hk)).1 k p.2 k1 k2 k3
    have next : ∀ Φ L1 e1, MonoG R Φ → LSG P ops J R h0 e0 (Ss ++ [Φ]) Ss.length → RelG ops e0 (Ss ++ [Φ]) L1 e1 → OpsG P ops J R h0 (Ss.length + 1) L1 r e1 K →
        ∃ Ss' L' e', Ss'.length = m ∧ RelG ops e0 Ss' L' e' ∧ (∀ k, k < m → LSG P ops J R h0 e0 Ss' k) ∧ (∀ Φ ∈ Ss', MonoG R Φ) ∧ K L' e' := fun Φ L1 e1 hΦ hls hrel hops => by
      refine OpsG.sound hF r (Ss ++ [Φ]) L1 e1 K (fun j => ?_) (by simp; omega) hrel (fun k hk => ?_) (fun Ψ hΨ => ?_) (by rw [List.length_append]; exact hops)
      · have := hl (j + 1)
        simp only [List.getElem?_cons_succ] at this
        rw [this, List.length_append, List.length_cons, List.length_nil]; congr 1; omega
      · simp only [List.length_append, List.length_cons, List.length_nil] at hk
        by_cases hk' : k < Ss.length
        · exact (hs k hk').snoc hk'
        · have : k = Ss.length := by omega
          subst this; exact hls
      · rcases List.mem_append.1 hΨ with h1 | h1
        · exact hmo Ψ h1
        · simp at h1; subst h1; exact hΦ
    have relV : ∀ v (Φ : Sq σ), (∀ u h1, Φ u h1 → u = v) → RelG ops e0 (Ss ++ [Φ]) L (updo e o.dst v) := fun v Φ hΦ => by
      refine ⟨fun f h1 d hok => ?_, fun p hp => ?_⟩
      · cases hod : o.dst with
        | none =>
          refine hr.eq f h1 d ?_
          refine ⟨fun j Ψ hj a b => hok.1 j Ψ (by simp; omega) a (by rw [get_snoc hj]; exact b), fun hn => hok.2 fun j hj => ?_⟩
          simp only [List.length_append, List.length_cons, List.length_nil] at hj
          by_cases hj' : j < Ss.length
          · exact hn j hj'
          · have : j = Ss.length := by omega
            subst this; rw [hdst, hod]; exact fun hh => by cases hh
        | some t =>
          simp only [updo]
          by_cases hdt : d = t
          · subst hdt
            rw [ovrG_notin, upd_eq]
            · exact (hΦ _ h1 (hok.1 Ss.length Φ (by simp) (by rw [hdst, hod]) (by simp))).symm
            · intro p hp hpd
              obtain ⟨k, k1, k2, _⟩ := hr.sub p hp
              exact hdist k _ k1 k2 (by rw [hod, hpd])
          · rw [ovrG_upd_ne hdt]
            refine hr.eq f h1 d ⟨fun j Ψ hj a b => hok.1 j Ψ (by simp; omega) a (by rw [get_snoc hj]; exact b), fun hn => hok.2 fun j hj => ?_⟩
            simp only [List.length_append, List.length_cons, List.length_nil] at hj
            by_cases hj' : j < Ss.length
            · exact hn j hj'
            · have : j = Ss.length := by omega
              subst this; rw [hdst, hod]; exact fun hh => by cases hh; exact hdt rfl
      · obtain ⟨k, k1, k2, k3⟩ := hr.sub p hp
        exact ⟨k, by simp; omega, k2, by rw [get_snoc k1]; exact k3⟩
    have hsel := fun cs b => Region.noSelect_spec hF.sel Ss.length o cs b hi
    simp only [OpsG] at h
    rcases h with ⟨hru, hJd, h⟩ | ⟨hru, ⟨v, hob, h⟩ | ⟨d, Φ, hod, hΦ, hob, h⟩⟩
    · refine next (fun u _ => u = undef) L _ (fun _ _ _ _ e => e) ?_ (relV undef _ fun _ _ e => e) h
      intro o' Φ' f D h1 w ho' hp' hD hl1 I hd
      rw [hi] at ho'; cases ho'
      simp at hp'; subst hp'
      have hd' := fun d hm => (OkG.snoc (Nat.le_refl _)).1 (hd d hm)
      refine ⟨fun hrt => ?_, fun _ => ⟨rfl, hJd D h1 w hD I⟩⟩
      rw [← runs_congr (hagree f h1 hd'), hru] at hrt
      cases hrt
    · refine next (fun u _ => u = v) L _ (fun _ _ _ _ e => e) ?_ (relV v _ fun _ _ e => e) h
      intro o' Φ' f D h1 w ho' hp' hD hl1 I hd
      rw [hi] at ho'; cases ho'
      simp at hp'; subst hp'
      have hd' := fun d hm => (OkG.snoc (Nat.le_refl _)).1 (hd d hm)
      refine ⟨fun _ => Op1_congr hsel (hagree f h1 hd') ((hob D h1 w hD hl1 I).get f (hLd f h1 hd')), fun hrf => ?_⟩
      rw [← runs_congr (hagree f h1 hd'), hru] at hrf
      cases hrf
    · refine next Φ ((d, Φ) :: L) e hΦ ?_ ⟨fun f h1 i hok => ?_, fun p hp => ?_⟩ h
      · intro o' Φ' f D h1 w ho' hp' hD hl1 I hd
        rw [hi] at ho'; cases ho'
        simp at hp'; subst hp'
        have hd' := fun d hm => (OkG.snoc (Nat.le_refl _)).1 (hd d hm)
        refine ⟨fun _ => Op1_congr hsel (hagree f h1 hd') ((hob D h1 w hD hl1 I).get f (hLd f h1 hd')), fun hrf => ?_⟩
        rw [← runs_congr (hagree f h1 hd'), hru] at hrf
        cases hrf
      · simp only [ovrG]
        by_cases hdt : i = d
        · subst hdt; rw [upd_eq]
        · rw [upd_ne _ _ hdt]
          refine hr.eq f h1 i ⟨fun j Ψ hj a b => hok.1 j Ψ (by simp; omega) a (by rw [get_snoc hj]; exact b), fun hn => hok.2 fun j hj => ?_⟩
          simp only [List.length_append, List.length_cons, List.length_nil] at hj
          by_cases hj' : j < Ss.length
          · exact hn j hj'
          · have : j = Ss.length := by omega
            subst this; rw [hdst, hod]; exact fun hh => by cases hh; exact hdt rfl
      · rcases List.mem_cons.1 hp with rfl | hp
        · exact ⟨Ss.length, by simp, by rw [hdst, hod], by simp⟩
        · obtain ⟨k, k1, k2, k3⟩ := hr.sub p hp
          exact ⟨k, by simp; omega, k2, by rw [get_snoc k1]; exact k3⟩

/-! ### Every order -/
structure StG (ops : Array Oper) (m : Nat) (J : (Nat → Bool) → σ → World → Prop) (R : σ → σ → Prop) (h0 : σ) (e0 : Env) (Ss : List (Sq σ)) (N : Nat) (D : List Deferred) (l : Array Bool) (a : Act) (w : World) : Prop where
  size : l.size = ops.size
  closed : Closed ops fun j => l.getD j false = true
  tail : ∀ j, m ≤ j → l.getD j false ≠ true
  n : a.tmps.size = N
  d : a.defers = D
  st : ∃ h, R h0 h ∧ J (fun j => l.getD j false) h w ∧ ∀ d, (∀ j Φ, j < m → l.getD j false = true → dstO ops j = some d → Ss[j]? = some Φ → Φ (env a d) h) ∧ ((∀ j, j < m → l.getD j false = true → dstO ops j ≠ some d) → env a d = e0 d)
theorem flow_anyG {Q : Exit → Act → World → Prop} {K : Env → World → Prop} {N : Nat} {D : List Deferred} {Ss : List (Sq σ)} (hF : Flow ops m) (hds : dstsOk N ops.toList = true) (hQ : ∀ a w, a.tmps.size = N → a.defers = D → K (env a) w → Q .normal a w)
    (hSs : Ss.length = m) (hls : ∀ k, k < m → LSG P ops J R h0 e0 Ss k) (hmo : ∀ Φ ∈ Ss, MonoG R Φ)
    (hR : Pre R) (hend : ∀ f D h1 w, (∀ j, j < m → D j = true) → R h0 h1 → J D h1 w → (∀ d, OkG ops e0 Ss m f h1 d) → Ops P ops (ops.toList.drop m) f w K) :
    ∀ (fuel : Nat) (l : Array Bool) (a : Act) (w : World), l.count false ≤ fuel → StG ops m J R h0 e0 Ss N D l a w → wpAny P .any ops Q fuel l a w := by
  have fin : ∀ (l : Array Bool) (a : Act) (w : World), StG ops m J R h0 e0 Ss N D l a w → (∀ j, j < m → l.getD j false = true) → Ops P ops (ops.toList.drop m) (env a) w K := fun l a w S hall => by
    obtain ⟨h, g1, g2, g3⟩ := S.st
    exact hend _ _ h w hall g1 g2 fun d => ⟨fun j Φ hj a b => (g3 d).1 j Φ hj (hall j hj) a b, fun hn => (g3 d).2 fun j hj _ => hn j hj⟩
  have nil : ∀ (l : Array Bool) (a : Act) (w : World), StG ops m J R h0 e0 Ss N D l a w → Region.ready .any ops l = [] → Q .normal a w := fun l a w S hr => by
    have least : ∀ n, ∀ j, j < n → j < ops.size → l.getD j false = true := by
      intro n
      induction n with
      | zero => intro j hj; omega
      | succ n ihn =>
        intro j hj hjs
        by_cases hjn : j < n
        · exact ihn j hjn hjs
        · have : j = n := by omega
          subst this
          cases hh : l.getD j false
          · exfalso
            have : j ∈ Region.ready .any ops l := mem_ready.2 ⟨by rw [getD_tf (by rw [S.size]; exact hjs)]; exact hh, ops[j], by simp [hjs], fun e he hb => by
              have := hF.back j ops[j] (by simp [hjs]) e he hb
              exact ihn e.on (by omega) (by omega)⟩
            rw [hr] at this; cases this
          · rfl
    have hms : m = ops.size := by
      rcases Nat.lt_or_ge m ops.size with h' | h'
      · exact absurd (least (m + 1) m (by omega) h') (S.tail m (Nat.le_refl m))
      · have := hF.le; omega
    have := fin l a w S fun j hj => least (j + 1) j (by omega) (by omega)
    rw [List.drop_eq_nil_of_le (by simp; omega)] at this
    exact hQ a w S.n S.d this
  intro fuel
  induction fuel with
  | zero =>
    intro l a w hc S
    have hr : Region.ready .any ops l = [] := by
      cases hr : Region.ready .any ops l with
      | nil => rfl
      | cons x xs =>
        have hx : x ∈ Region.ready .any ops l := by rw [hr]; exact List.mem_cons_self ..
        obtain ⟨h1, o, ho, _⟩ := mem_ready.1 hx
        have hlt : x < l.size := by rw [S.size]; exact (Array.getElem?_eq_some_iff.1 ho).1
        have := count_set hlt h1
        omega
    exact ⟨hr, nil l a w S hr⟩
  | succ fuel ih =>
    intro l a w hc S
    refine ⟨nil l a w S, fun i hi => ?_⟩
    obtain ⟨h1, o, ho, h2⟩ := mem_ready.1 hi
    have hlt : i < ops.size := (Array.getElem?_eq_some_iff.1 ho).1
    have hil : i < l.size := by rw [S.size]; exact hlt
    have hun : l.getD i false ≠ true := by rw [← getD_tf hil, h1]; exact fun h => by cases h
    have hdo : o.dst.all (· < N) = true := (List.all_eq_true.1 hds) o (by have := Array.mem_of_getElem? ho; simpa using this)
    have hcnt := count_set hil h1
    by_cases him : i < m
    · obtain ⟨Φ, hΦ⟩ : ∃ Φ, Ss[i]? = some Φ := ⟨Ss[i]'(by omega), by simp [hSs, him]⟩
      obtain ⟨h, g1, g2, g3⟩ := S.st
      have hDi : (fun j => l.getD j false) i = false := by simpa using hun
      have hset : (fun j => (l.setIfInBounds i true).getD j false) = setD (fun j => l.getD j false) i := by
        funext j
        rw [Bool.eq_iff_iff, set_getD hil]; simp [setD]
      have step : ∀ v w' hh, R h hh → J (setD (fun j => l.getD j false) i) hh w' → Φ v hh → wpAny P .any ops Q fuel (l.setIfInBounds i true) (a.put o.dst v) w' := fun v w' hh hle I hv => by
        refine ih _ _ w' (by omega) ⟨by simpa using S.size, fun j oj hoj hj e he hb => ?_, fun j hj hh' => ?_, by rw [size_put, S.n], by rw [defers_put, S.d], hh, hR.trans _ _ _ g1 hle, by rw [hset]; exact I, fun d => ?_⟩
        · simp only [set_getD hil] at hj ⊢
          rcases hj with rfl | hj
          · rw [ho] at hoj; cases hoj; exact .inr (h2 e he hb)
          · exact .inr (S.closed j oj hoj hj e he hb)
        · rw [set_getD hil] at hh'
          rcases hh' with rfl | hh'
          · omega
          · exact S.tail j hj hh'
        · rw [env_puto a _ v (by rw [S.n]; exact hdo)]
          have other : o.dst ≠ some d → updo (env a) o.dst v d = env a d := fun hne => by
            cases hod : o.dst with
            | none => rfl
            | some t => exact upd_ne _ _ fun e => hne (by rw [hod, e])
          by_cases hod : o.dst = some d
          · rw [hod]
            simp only [updo, upd_eq]
            refine ⟨fun j Ψ hj hlj hdj hΨ => ?_, fun hn => absurd (by simp [dstO, ho, hod]) (hn i him (by rw [set_getD hil]; exact .inl rfl))⟩
            cases hoj : ops[j]? with
            | none => simp [dstO, hoj] at hdj
            | some oj =>
              simp [dstO, hoj] at hdj
              have := hF.dist j i oj o d hj him hoj ho hdj hod
              subst this
              rw [hΦ] at hΨ; cases hΨ; exact hv
          · rw [other hod]
            refine ⟨fun j Ψ hj hlj hdj hΨ => ?_, fun hn => (g3 d).2 fun j hj hlj => hn j hj (by rw [set_getD hil]; exact .inr hlj)⟩
            rw [set_getD hil] at hlj
            rcases hlj with rfl | hlj
            · simp [dstO, ho] at hdj; exact absurd hdj hod
            · exact hmo Ψ (List.mem_of_getElem? hΨ) _ h hh hle ((g3 d).1 j Ψ hj hlj hdj hΨ)
      have hok : ∀ d ∈ o.looksAt ops, OkG ops e0 Ss i (env a) h d := fun d hd => by
        refine ⟨fun j Ψ hj hdj hΨ => ?_, fun hn => (g3 d).2 fun j hj hlj hdj => ?_⟩
        · cases hoj : ops[j]? with
          | none => simp [dstO, hoj] at hdj
          | some oj =>
            simp [dstO, hoj] at hdj
            have := (hF.reads i j o oj d him (by omega) (by omega) ho hoj hdj hd).1 hj
            exact (g3 d).1 j Ψ (by omega) (wt_L (L := fun j => l.getD j false = true) this h2) (by simp [dstO, hoj, hdj]) hΨ
        · rcases Nat.lt_trichotomy j i with h' | h' | h'
          · exact hn j h' hdj
          · subst h'; exact hun hlj
          · cases hoj : ops[j]? with
            | none => simp [dstO, hoj] at hdj
            | some oj =>
              simp [dstO, hoj] at hdj
              have := (hF.reads i j o oj d him hj (by omega) ho hoj hdj hd).2 h'
              exact hun (wt_L (L := fun j => l.getD j false = true) this (S.closed j oj hoj hlj))
      have hls' := hls i him o Φ (env a) _ h w ho hΦ hDi g1 g2 hok
      refine wpOp_of ho ?_
      split
      · rename_i hr
        exact (hls'.1 hr).mono fun v w' ⟨hh, k1, k2, k3⟩ => step v w' hh k1 k2 k3
      · rename_i hr
        exact step undef w h (hR.refl h) (hls'.2 (by simpa using hr)).2 (hls'.2 (by simpa using hr)).1
    · have hall := hF.tail (fun j => l.getD j false = true) S.closed i o (by omega) ho h2
      have him' : i = m := by
        rcases Nat.lt_or_ge m i with h' | h'
        · exact absurd (hall m h') (S.tail m (Nat.le_refl m))
        · omega
      subst him'
      have hl : ∀ j, l.getD j false = true ↔ j < i := fun j => ⟨fun hj => by
        rcases Nat.lt_or_ge j i with h' | h'
        · exact h'
        · exact absurd hj (S.tail j h'), hall j⟩
      have hle : ops.size - i ≤ fuel + 1 := by
        have : ∀ n k (l : Array Bool), l.size = ops.size → k + n = ops.size → (∀ j, k ≤ j → l.getD j false ≠ true) → n ≤ l.count false := by
          intro n
          induction n with
          | zero => intro k l _ _ _; omega
          | succ n ihn =>
            intro k l hs hk hj
            have hks : k < l.size := by omega
            have hkf : l.getD k true = false := by
              rw [getD_tf hks]
              cases hh : l.getD k false
              · rfl
              · exact absurd hh (hj k (Nat.le_refl k))
            have h3 := ihn (k + 1) (l.setIfInBounds k true) (by simpa using hs) (by omega) (fun j hj' => by
              rw [Ne, set_getD hks]; rintro (h | h)
              · omega
              · exact hj j (by omega) h)
            have := count_set hks hkf
            omega
        have := this (ops.size - i) i l S.size (by omega) S.tail
        omega
      have hT := flow_tail (P := P) hF hds hQ (fuel + 1) i l a w (Nat.le_refl i) hF.le hle S.size hl S.n S.d (fin l a w S hall)
      exact hT.2 i hi
end
end
theorem WP.regionG {σ : Type} {P : Program} {N : Nat} {D : List Deferred} {e : Env} {w : World} {Q : Exit → Env → World → Prop} {id : Nat} {ops : Array Oper} {J : (Nat → Bool) → σ → World → Prop} {R : σ → σ → Prop} (hm : Mixed P) (hR : Pre R) (s0 : σ) (I : J (fun _ => false) s0 w.drew) (m : Nat) (hB : flowB ops m = true)
    (k : OpsG P ops J R s0 0 [] (ops.toList.take m) e (fun L e' => ∀ D h1 w1, (∀ j, j < m → D j = true) → R s0 h1 → J D h1 w1 → AllG (fun _ => true) h1 L e' fun e'' => Ops P ops (ops.toList.drop m) e'' w1 (fun e3 w3 => Q .normal e3 w3))) : WP P N D (.region id ops true) e w Q := by
  intro hs a h1 h2 h3
  subst h3
  have hF := flow_of hB
  obtain ⟨Ss, L, e', hlen, hrel, hls, hmo, hK⟩ := OpsG.sound (e0 := env a) hF _ [] [] (env a) _ (fun j => by simp) (by simp [hF.le]) ⟨fun f h1 d ho => (ho.2 (by simp)).symm, by simp⟩ (by simp) (by simp) k
  refine wp_region_any hm ?_
  refine flow_anyG (K := fun e3 w3 => Q .normal e3 w3) (N := N) (D := D) hF hs (fun a w g1 g2 g3 => ⟨g1, g2, g3⟩) hlen hls hmo hR (fun f D h1 w1 hD hl I1 hok => ?_) ops.size _ a _ (by simp) ⟨by simp, ?_, ?_, h1, h2, s0, hR.refl s0, ?_, fun d => ⟨?_, fun _ => rfl⟩⟩
  · have hov : ovrG e' L f = f := by funext d; exact hrel.eq f h1 d (hlen ▸ hok d)
    have := (hK D h1 w1 hD hl I1).get f fun p hp _ => by
      obtain ⟨k, k1, k2, k3⟩ := hrel.sub p hp
      exact (hok p.1).1 k p.2 (hlen ▸ k1) k2 k3
    rwa [hov] at this
  · intro i o _ hl
    simp [Array.getD_eq_getD_getElem?, Array.getElem?_replicate] at hl
    split at hl <;> simp at hl
  · intro j _ hl
    simp [Array.getD_eq_getD_getElem?, Array.getElem?_replicate] at hl
    split at hl <;> simp at hl
  · have : (fun j => (Array.replicate ops.size false).getD j false) = fun _ => false := by
      funext j
      simp [Array.getD_eq_getD_getElem?, Array.getElem?_replicate]
      split <;> rfl
    rw [this]; exact I
  · intro j Φ _ hl
    simp [Array.getD_eq_getD_getElem?, Array.getElem?_replicate] at hl
    split at hl <;> simp at hl
section
variable {σ : Type} {P : Program} {full : Array Oper} {J : (Nat → Bool) → σ → World → Prop} {R : σ → σ → Prop} {h0 : σ} {k : Nat} {L : List (Nat × Sq σ)} {rest : List Oper} {e : Env} {K : List (Nat × Sq σ) → Env → Prop}
variable {op : Op} {t : TypeId} {pos : String} {af : Array Edge}
theorem OpsG.nil (h : K L e) : OpsG P full J R h0 k L [] e K := h
theorem ovrG_us {e us us' : Env} {d : Nat} (h : ∀ j, j ≠ d → us j = us' j) : ∀ (L : List (Nat × Sq σ)) {i : Nat}, i ≠ d → ovrG e L us i = ovrG e L us' i
  | [], _, _ => rfl
  | p :: L, i, hi => by
    simp only [ovrG]
    by_cases hp : i = p.1
    · subst hp; rw [upd_eq, upd_eq, h _ hi]
    · rw [upd_ne _ _ hp, upd_ne _ _ hp, ovrG_us h L hi]
theorem AllG.all {c : Nat → Bool} {h : σ} : ∀ {L : List (Nat × Sq σ)} {e : Env} {k : Env → Prop}, (∀ us, k (ovrG e L us)) → AllG c h L e k
  | [], _, _, hk => hk fun _ => undef
  | p :: L, e, k, hk => AllG.all (L := L) fun us u _ => by
    have h1 := hk (upd us p.1 u)
    have h2 : upd (ovrG e L (upd us p.1 u)) p.1 u = upd (ovrG e L us) p.1 u := by
      funext i
      by_cases hi : i = p.1
      · subst hi; rw [upd_eq, upd_eq]
      · rw [upd_ne _ _ hi, upd_ne _ _ hi]; exact ovrG_us (fun j hj => upd_ne _ _ hj) L hi
    simp only [ovrG, upd_eq, h2] at h1
    exact h1
theorem OpsG.y_ {d : Nat} {g : Option (Nat × Bool)} {v : Value} (hr : ∀ us, runs full (ovrG e L us) ⟨some d, op, t, pos, af, g⟩ = true) (hR : Pre R) (hJ : ∀ D s w, J D s w → J (setD D k) s w)
    (hy : ∀ D h1 w us, R h0 h1 → J D h1 w → Y P ⟨some d, op, t, pos, af, g⟩ (ovrG e L us) w v) (h : OpsG P full J R h0 (k + 1) L rest (upd e d v) K) :
    OpsG P full J R h0 k L (⟨some d, op, t, pos, af, g⟩ :: rest) e K :=
  .inr ⟨hr, .inl ⟨v, fun D h1 w _ hl I => AllG.all fun us => by unfold Op1; rw [hy D h1 w us hl I]; exact ⟨h1, hR.refl h1, hJ D h1 w I, rfl⟩, h⟩⟩
theorem OpsG.x_ {d : Nat} {g : Option (Nat × Bool)} {Φ : Sq σ} (hm : MonoG R Φ) (hr : ∀ us, runs full (ovrG e L us) ⟨some d, op, t, pos, af, g⟩ = true)
    (hy : OblG P full J R h0 k L e ⟨some d, op, t, pos, af, g⟩ Φ) (h : OpsG P full J R h0 (k + 1) ((d, Φ) :: L) rest e K) :
    OpsG P full J R h0 k L (⟨some d, op, t, pos, af, g⟩ :: rest) e K :=
  .inr ⟨hr, .inr ⟨d, Φ, rfl, hm, hy, h⟩⟩
/-- An operation that yields nothing. -/
theorem OpsG.s_ {g : Option (Nat × Bool)} (hr : ∀ us, runs full (ovrG e L us) ⟨none, op, t, pos, af, g⟩ = true)
    (hy : OblG P full J R h0 k L e ⟨none, op, t, pos, af, g⟩ (fun u _ => u = undef)) (h : OpsG P full J R h0 (k + 1) L rest e K) :
    OpsG P full J R h0 k L (⟨none, op, t, pos, af, g⟩ :: rest) e K :=
  .inr ⟨hr, .inl ⟨undef, hy, h⟩⟩
theorem runsG_none (us : Env) {d : Option Nat} : runs full (ovrG e L us) ⟨d, op, t, pos, af, none⟩ = true := rfl
end
end Go.TF
end
section
/- A drawn region that makes two variables and writes the first of them in it. -/
namespace Go.TF
open Go Go.RowKit

structure BxS where
  h : Heap
  o7 : Option Nat
  o8 : Option Nat
def pcs (o : Option Nat) (f : Bool) (z c : List Value) (T : TypeId) : List SA := match o with
  | none => []
  | some b => [box b (if f then c else z) T]
/-- Operations i7, i8 make the variables, i12 writes the first. -/
structure JBx (B : Base) (M : List SA) (T : TypeId) (z c : List Value) (i7 i8 i12 : Nat) (D : Nat → Bool) (s : BxS) (w : World) : Prop where
  h7 : s.o7.isSome = D i7
  h8 : s.o8.isSome = D i8
  ord : D i12 = true → D i7 = true
  inv : Inv B s.h (pcs s.o7 (D i12) z c T ++ (pcs s.o8 false z c T ++ M)) w
structure RBx (s s' : BxS) : Prop where
  h : s.h.le s'.h
  h7 : ∀ b, s.o7 = some b → s'.o7 = some b
  h8 : ∀ b, s.o8 = some b → s'.o8 = some b
theorem RBx.pre : Pre RBx := ⟨fun _ => ⟨Heap.le.refl _, fun _ h => h, fun _ h => h⟩, fun _ _ _ h k => ⟨h.h.trans k.h, fun b e => k.h7 b (h.h7 b e), fun b e => k.h8 b (h.h8 b e)⟩⟩
section
variable {B : Base} {M : List SA} {T : TypeId} {z c : List Value} {i7 i8 i12 k : Nat} {D : Nat → Bool} {s : BxS} {w : World}
theorem JBx.base (j : JBx B M T z c i7 i8 i12 D s w) : Inv B s.h M w := j.inv.weak ((List.sublist_append_right _ _).trans (List.sublist_append_right _ _))
theorem JBx.set (h : i7 ≠ k ∧ i8 ≠ k ∧ i12 ≠ k) : ∀ D s w, JBx B M T z c i7 i8 i12 D s w → JBx B M T z c i7 i8 i12 (setD D k) s w := fun D s w j => by
  have e : ∀ i, i ≠ k → setD D k i = D i := fun i hi => by simp [setD, hi]
  exact ⟨by rw [e _ h.1]; exact j.h7, by rw [e _ h.2.1]; exact j.h8, by rw [e _ h.1, e _ h.2.2]; exact j.ord, by rw [e _ h.2.2]; exact j.inv⟩
def At7 (u : Value) (s : BxS) : Prop := ∃ b, u = .pointer (some ⟨b, 0, none⟩) ∧ s.o7 = some b
def At8 (u : Value) (s : BxS) : Prop := ∃ b, u = .pointer (some ⟨b, 0, none⟩) ∧ s.o8 = some b
theorem At7.mono : MonoG RBx At7 := fun _ _ _ r ⟨b, h1, h2⟩ => ⟨b, h1, r.h7 b h2⟩
theorem At8.mono : MonoG RBx At8 := fun _ _ _ r ⟨b, h1, h2⟩ => ⟨b, h1, r.h8 b h2⟩
end
section
variable {P : Program} {full : Array Oper} {B : Base} {M : List SA} {T : TypeId} {z c : List Value} {i7 i8 i12 k : Nat} {h0 : BxS} {L : List (Nat × Sq BxS)} {rest : List Oper} {e : Env} {K : List (Nat × Sq BxS) → Env → Prop}
variable {t : TypeId} {pos : String} {af : Array Edge}
theorem OpsG.make7 {d : Nat} {zv : Value} (hz : Zero P T zv) (hc : zv.cells = z.toArray) (h78 : i8 ≠ i7) (h712 : i12 ≠ i7) (h : OpsG P full (JBx B M T z c i7 i8 i12) RBx h0 (i7 + 1) ((d, At7) :: L) rest e K) :
    OpsG P full (JBx B M T z c i7 i8 i12) RBx h0 i7 L (⟨some d, .alloc T, t, pos, af, none⟩ :: rest) e K := by
  refine OpsG.x_ At7.mono (fun _ => runsG_none _) (fun D s w hDk hl hj => AllG.all fun us => ?_) h
  have h7 : s.o7 = none := by
    have := hj.h7
    rw [hDk] at this
    cases h : s.o7 <;> simp_all
  have h12 : D i12 = false := by
    cases hh : D i12
    · rfl
    · rw [hj.ord hh] at hDk; cases hDk
  have I := hj.inv
  rw [h7] at I
  refine O.alloc I hz hc fun b w' I' => ⟨⟨s.h, some b, s.o8⟩, ⟨Heap.le.refl _, fun b' e => (by rw [h7] at e; cases e), fun _ e => e⟩, ⟨?_, ?_, fun _ => by simp [setD], ?_⟩, b, rfl, rfl⟩
  · simp [setD]
  · rw [show setD D i7 i8 = D i8 from by simp [setD, h78]]; exact hj.h8
  · rw [show setD D i7 i12 = false from by simp [setD, h712, h12]]
    exact I'
theorem OpsG.store7 {a x : Operand} {n : Nat} {ag : Bool} {v : Value} (hT : Ty P T n ag) (hl7 : z.length = n) (hcl : c.length = n) (hL : ∀ s, AllG (lk full ⟨none, .store T a x, t, pos, af, none⟩) s L e (fun e' => At7 (ev e' a) s ∧ ev e' x = v)) (hv : v.cells = c.toArray) (h1 : oneCells c = true) (h7k : i7 ≠ i12) (h8k : i8 ≠ i12)
    (h : OpsG P full (JBx B M T z c i7 i8 i12) RBx h0 (i12 + 1) L rest e K) : OpsG P full (JBx B M T z c i7 i8 i12) RBx h0 i12 L (⟨none, .store T a x, t, pos, af, none⟩ :: rest) e K := by
  refine OpsG.s_ (fun _ => runsG_none _) (fun D s w hDk hl hj => ?_) h
  have key : ∀ (L : List (Nat × Sq BxS)) (e : Env) (k k' : Env → Prop), (∀ x, k x → k' x) → AllG (lk full ⟨none, .store T a x, t, pos, af, none⟩) s L e k → AllG (lk full ⟨none, .store T a x, t, pos, af, none⟩) s L e k' := by
    intro L
    induction L with
    | nil => intro e k k' hk a; exact hk _ a
    | cons p L ih => intro e k k' hk a; exact ih e _ _ (fun x hx u hu => hk _ (hx u hu)) a
  refine key L e _ _ ?_ (hL s)
  rintro e' ⟨⟨b, ha, hb⟩, hx⟩
  have I := hj.inv
  rw [hb, hDk] at I
  refine O.store (cs' := c) I hT 0 rfl ha hx hv hcl h1 (by simp only [Bool.false_eq_true, if_false]; omega) ?_ fun w' I' => ⟨s, RBx.pre.refl s, ⟨?_, ?_, fun _ => ?_, ?_⟩, rfl⟩
  · simp only [Bool.false_eq_true, if_false]
    rw [putAt_eq _ _ _ (Nat.zero_le _)]
    simp [hcl, hl7]
  · rw [show setD D i12 i7 = D i7 from by simp [setD, h7k]]; exact hj.h7
  · rw [show setD D i12 i8 = D i8 from by simp [setD, h8k]]; exact hj.h8
  · rw [show setD D i12 i7 = D i7 from by simp [setD, h7k], ← hj.h7, hb]; rfl
  · rw [hb, show setD D i12 i12 = true from by simp [setD]]
    exact I'
/-- A quiet call. -/
theorem OpsG.c_ {d : Nat} {op : Op} {v : Value} (h7 : i7 ≠ k ∧ i8 ≠ k ∧ i12 ≠ k) (hy : ∀ D s w us, RBx h0 s → JBx B M T z c i7 i8 i12 D s w → Op1 P ⟨some d, op, t, pos, af, none⟩ (ovrG e L us) w fun u w' => u = v ∧ JBx B M T z c i7 i8 i12 D s w') (h : OpsG P full (JBx B M T z c i7 i8 i12) RBx h0 (k + 1) L rest (upd e d v) K) :
    OpsG P full (JBx B M T z c i7 i8 i12) RBx h0 k L (⟨some d, op, t, pos, af, none⟩ :: rest) e K :=
  .inr ⟨fun _ => runsG_none _, .inl ⟨v, fun D s w _ hl hj => AllG.all fun us => (hy D s w us hl hj).mono fun _ _ ⟨a, b⟩ => ⟨s, RBx.pre.refl s, JBx.set h7 D s _ b, a⟩, h⟩⟩
end
end Go.TF
end
section
/- Facts laid to literals: the walk. -/
namespace Go.TF
open Go Go.RowKit Go.Proofs
set_option maxRecDepth 20000

theorem FOf_at (B : Base) (hB : B.ok) (p : Prg) (hp : p.In B.h) (f : Sl Fct) (hf : Fcts f B.h) (n : Int) (r : Rul) (h0 : 0 ≤ n) (hr : p.rules.xs[n.toNat]? = some r) (ok : ROk p.preds.xs r) (okf : FOk p.preds.xs f.xs) (x : Vrs) (hx : VsOk x) (y : Bool × Fct) (hy : holdsF p.preds.xs f.xs r x = y) :
    Fn Tryz.prog 84 [p.val, f.val, .int .i64 n, x.val] B (fun v _ => v = tHold y) := hy ▸ FOf_ok B hB p hp f hf n r h0 hr ok okf x hx
/-- What is laid, kept where it holds. -/
def outL (f : List Fct) (n : Int) (r : Rul) (bs : List Vrs) : List Stp := ((bs.map mx0).filter (holdsB f r)).map (Stp.mk n)
theorem outL_nil (f : List Fct) (n : Int) (r : Rul) : outL f n r [] = [] := rfl
theorem outL_app (f : List Fct) (n : Int) (r : Rul) (a b : List Vrs) : outL f n r (a ++ b) = outL f n r a ++ outL f n r b := by simp [outL]
theorem outL_le (f : List Fct) (n : Int) (r : Rul) (a : List Vrs) : (outL f n r a).length ≤ a.length := by
  unfold outL; rw [List.length_map]; exact Nat.le_trans (List.length_filter_le ..) (by simp)
theorem outL_one (f : List Fct) (n : Int) (r : Rul) (b : Vrs) : outL f n r [b] = if holdsB f r (mx0 b) then [⟨n, mx0 b⟩] else [] := by
  unfold outL; cases h : holdsB f r (mx0 b) <;> simp [h]
def layN (f : List Fct) (a : Atm) (l : List Atm) (b : Vrs) (x : Fct) : List Vrs := if (wcF b a x).2 then layF f l (wcF b a x).1 else []
theorem layF_cons (f : List Fct) (a : Atm) (l : List Atm) (b : Vrs) : layF f (a :: l) b = f.flatMap (layN f a l b) := by
  rw [layF]
  congr 1
  funext x
  rw [withF_wc]
  unfold layN
  cases (wcF b a x).2 <;> rfl
theorem layF_len (f : List Fct) : ∀ (l : List Atm) (b : Vrs), (layF f l b).length ≤ f.length ^ l.length
  | [], b => by simp [layF]
  | a :: l, b => by
    rw [layF_cons, List.length_flatMap, List.length_cons, Nat.pow_succ, Nat.mul_comm]
    have : ∀ g : List Fct, (g.map fun x => (layN f a l b x).length).sum ≤ g.length * f.length ^ l.length := by
      intro g
      induction g with
      | nil => simp
      | cons y g ih =>
        have h1 : (layN f a l b y).length ≤ f.length ^ l.length := by
          unfold layN; split
          · exact layF_len f l _
          · simp
        rw [List.map_cons, List.sum_cons, List.length_cons, Nat.add_mul]; omega
    exact this f
theorem flat_take_succ {α β : Type} (g : α → List β) {l : List α} {k : Nat} (hk : k < l.length) : (l.take (k + 1)).flatMap g = (l.take k).flatMap g ++ g l[k] := by
  rw [List.take_succ_eq_append_getElem hk, List.flatMap_append]; simp
theorem flat_take_le {α β : Type} (g : α → List β) (l : List α) (k : Nat) : ((l.take k).flatMap g).length ≤ (l.flatMap g).length := by
  conv => rhs; rw [← List.take_append_drop k l, List.flatMap_append, List.length_append]
  omega
theorem BOk.vs {l : List Atm} {b : Vrs} (h : BOk l b) : VsOk (mx0 b) := by
  have h0 := h 0 (by omega); have h1 := h 1 (by omega); have h2 := h 2 (by omega)
  have e0 : b.at 0 = b.x0 := rfl
  have e1 : b.at 1 = b.x1 := rfl
  have e2 : b.at 2 = b.x2 := rfl
  rw [e0] at h0; rw [e1] at h1; rw [e2] at h2
  refine ⟨?_, ?_, ?_⟩ <;> simp only [mx0]
  · rcases h0 with h | ⟨q1, q2, _⟩ <;> omega
  · rcases h1 with h | ⟨q1, q2, _⟩ <;> omega
  · rcases h2 with h | ⟨q1, q2, _⟩ <;> omega
theorem wc_bok {l : List Atm} {a : Atm} {b : Vrs} {x : Fct} (ha : a ∈ l) (hv : ∀ t ∈ a.args.xs, t.var = true → 0 ≤ t.n ∧ t.n < 3) (hx : PF x) (hb : BOk l b) (h : (wcF b a x).2 = true) : BOk l (wcF b a x).1 := by
  have hw := withF_wc b a x
  rw [h, if_pos rfl] at hw
  unfold withF at hw
  split at hw
  · cases hw
  · exact withL_bok ha hv (pair_mem hx) hb hw
structure AtS (l : Sl Atm) (h : Heap) : Prop where
  is : l.Is 2 Atm.enc h
  cap : l.xs.length ≤ l.cap
  each : ∀ a ∈ l.xs, a.In h
theorem AtS.le {l : Sl Atm} {h h' : Heap} (x : AtS l h) (hl : h.le h') : AtS l h' := ⟨x.is.le hl, x.cap, fun a ha => (x.each a ha).le hl⟩
@[reducible] def LayM (bo : Nat) (a : Option Addr) (c : Nat) (m : Nat) (acc : List Stp) : List SA := [box bo [.slice a m c] 36, ownSl 82 4 (.slice a m c) m (acc.flatMap Stp.enc)]
/-- What the closure keeps. -/
structure LayE (h : Heap) (p : Prg) (f : Sl Fct) (n : Int) (r : Rul) (bn bp bf bo bl : Nat) : Prop where
  kn : Known h bn [.int .i64 n]
  kp : Known h bp p.enc
  kf : Known h bf [f.val]
  kl : Known h bl [.func (.func 168) #[] #[.pointer (some ⟨bn, 0, none⟩), .pointer (some ⟨bp, 0, none⟩), .pointer (some ⟨bf, 0, none⟩), .pointer (some ⟨bo, 0, none⟩), .pointer (some ⟨bl, 0, none⟩)]]
  p : p.In h
  f : Fcts f h
theorem LayE.le {h h' : Heap} {p : Prg} {f : Sl Fct} {n : Int} {r : Rul} {bn bp bf bo bl : Nat} (x : LayE h p f n r bn bp bf bo bl) (hl : h.le h') : LayE h' p f n r bn bp bf bo bl := ⟨x.kn.le hl, x.kp.le hl, x.kf.le hl, x.kl.le hl, x.p.le hl, x.f.le hl⟩
theorem snocS (acc : List Stp) (y : Stp) : (acc ++ [y]).flatMap Stp.enc = acc.flatMap Stp.enc ++ y.enc := by simp
set_option maxHeartbeats 8000000 in
theorem lay_ok (p : Prg) (f : Sl Fct) (n : Int) (r : Rul) (bn bp bf bo bl : Nat) (h0 : 0 ≤ n) (hr : p.rules.xs[n.toNat]? = some r) (ok : ROk p.preds.xs r) (okf : FOk p.preds.xs f.xs) : ∀ (ls : List Atm) {B : Base} {h : Heap} {w : World} (l : Sl Atm) (b : Vrs) (a : Option Addr) (c m : Nat) (acc : List Stp), l.xs = ls → Inv B h (LayM bo a c m acc) w → m = acc.length → LayE h p f n r bn bp bf bo bl → AtS l h →
      (∀ x ∈ ls, x ∈ poss r.body.xs) → BOk (poss r.body.xs) b → m + (layF f.xs ls b).length ≤ 1000000000 →
      Calls Tryz.prog 168 [b.val, l.val, .pointer (some ⟨bn, 0, none⟩), .pointer (some ⟨bp, 0, none⟩), .pointer (some ⟨bf, 0, none⟩), .pointer (some ⟨bo, 0, none⟩), .pointer (some ⟨bl, 0, none⟩)].toArray w
        (fun ed w' => ed = .returned (.tuple #[]) ∧ ∃ h' a' c' m', h.le h' ∧ Inv B h' (LayM bo a' c' m' (acc ++ outL f.xs n r (layF f.xs ls b))) w' ∧ m' = (acc ++ outL f.xs n r (layF f.xs ls b)).length)
  | [], B, h, w, l, b, a, c, m, acc, hls0, I, hm, E, hA, hin, hb, hsz => by
    have hvs := hb.vs
    refine Calls.ofWP (args := [b.val, l.val, .pointer (some ⟨bn, 0, none⟩), .pointer (some ⟨bp, 0, none⟩), .pointer (some ⟨bf, 0, none⟩), .pointer (some ⟨bo, 0, none⟩), .pointer (some ⟨bl, 0, none⟩)]) Tryz.func168 rfl Tryz.ntmps168 (by kernel_rfl) (by simp) ?_
    intro e
    refine WP.seq ?_
    refine WP.region ?_
    refine Ops.go (O.box (v := .agg #[_, _, _]) I rfl rfl ?_)
    intro b7 w I
    refine Ops.nil ?_
    refine WP.seq ?_
    refine WP.seq ?_
    refine WP.region ?_
    refine Ops.y (v := .slice _ _ _) (Y.move rfl) ?_
    refine Ops.y (v := .int .i64 _) (Y.lens Tryz.underlying186 rfl) ?_
    refine Ops.y (v := .bool true) (Y.dec_t (Y.eqi rfl rfl) ((by rw [hls0]; rfl))) ?_
    refine Ops.nil ?_
    refine WP.cond_t rfl ?_
    refine WP.seq ?_
    refine WP.region ?_
    refine Ops.y (v := .int .i64 _) (Y.loadv ty_3 rfl (I.rd (E.kn.rd.part 0 1)) rfl rfl) ?_
    refine Ops.y (v := .agg #[.int .i64 _, .int .i64 _, .int .i64 _, .int .i64 _]) (Y.build pl_82 Tryz.zeroValue82 rfl rfl) ?_
    refine Ops.go (O.alloc I Tryz.zeroValue82 rfl ?_)
    intro b9 w I
    refine Ops.go (O.store (v := .agg #[_, _, _, _]) I ty_82 0 rfl rfl rfl rfl rfl rfl (Nat.le_of_ble_eq_true rfl) rfl ?_)
    intro w I
    refine Ops.nil ?_
    refine WP.seq ?_
    refine WP.seq ?_
    refine WP.region ?_
    refine Ops.y (v := .int .i64 _) (Y.move rfl) ?_
    refine Ops.nil ?_
    refine WP.cutK (σ := Unit) (fun _ => [(2, .pointer (some ⟨bn, 0, none⟩)), (3, .pointer (some ⟨bp, 0, none⟩)), (4, .pointer (some ⟨bf, 0, none⟩)), (5, .pointer (some ⟨bo, 0, none⟩)), (9, .pointer (some ⟨b9, 0, none⟩))]) (fun _ w => Inv B h (box b9 (Stp.mk n (mx0 b)).enc 82 :: LayM bo a c m acc) w) ?_ ?_
    · refine WP.block ?_
      refine WP.loopE (σ := Nat) (fun k => [(2, .pointer (some ⟨bn, 0, none⟩)), (3, .pointer (some ⟨bp, 0, none⟩)), (4, .pointer (some ⟨bf, 0, none⟩)), (5, .pointer (some ⟨bo, 0, none⟩)), (7, .pointer (some ⟨b7, 0, none⟩)), (9, .pointer (some ⟨b9, 0, none⟩)), (22, .int .i64 k)]) (fun k w => Inv B h (box b9 [.int .i64 n, .int .i64 (if 0 < k then max 0 b.x0 else 0), .int .i64 (if 1 < k then max 0 b.x1 else 0), .int .i64 (if 2 < k then max 0 b.x2 else 0)] 82 :: box b7 b.enc 193 :: LayM bo a c m acc) w ∧ k ≤ 3) (fun k => 3 - k)
        ⟨0, ⟨rfl, rfl, rfl, rfl, rfl, rfl, rfl, trivial⟩, I, Nat.zero_le _⟩ ?_
      rintro k e w ⟨I, hk⟩
      refine WP.seq ?_
      refine WP.region ?_
      refine Ops.y (v := .bool (decide _)) (Y.lti rfl rfl) ?_
      refine Ops.nil ?_
      refine WP.seq ?_
      refine WP.cond_dec rfl (fun h4 => ?_) (fun h4 => ?_)
      · have hk3 : k = 0 ∨ k = 1 ∨ k = 2 := by omega
        rcases hk3 with rfl | rfl | rfl
        · refine WP.skip ?_
          refine WP.seq ?_
          refine WP.block ?_
          refine WP.seq ?_
          refine WP.region ?_
          refine Ops.y (v := .int .i64 _) (Y.move rfl) ?_
          refine Ops.y (v := .int .i64 _) (Y.assign rfl) ?_
          refine Ops.nil ?_
          refine WP.region ?_
          refine Ops.y (v := .int .i64 _) (Y.move rfl) ?_
          refine Ops.y (v := .int .i64 _) (Y.move rfl) ?_
          refine Ops.y (v := .pointer (some ⟨_, _, none⟩)) (Y.idxa Tryz.underlying193 Tryz.sizeOf3 rfl rfl (by omega) (by omega)) ?_
          refine Ops.y (v := .int .i64 _) (Y.loadv ty_3 rfl (I.rdbox 1 rfl 0 1) rfl rfl) ?_
          refine Ops.y (v := .int .i64 _) (Y.max2 rfl rfl) ?_
          refine Ops.y (v := .pointer (some ⟨_, _, none⟩)) (Y.fa fa_82_1 rfl) ?_
          refine Ops.y (v := .pointer (some ⟨_, _, none⟩)) (Y.idxa Tryz.underlying80 Tryz.sizeOf3 rfl rfl (by omega) (by omega)) ?_
          refine Ops.go (O.store (v := .int .i64 _) I ty_3 0 rfl rfl rfl rfl rfl rfl (Nat.le_of_ble_eq_true rfl) rfl ?_)
          intro w I
          refine Ops.nil ?_
          refine WP.region ?_
          refine Ops.y (v := .int .i64 _) (Y.addi rfl rfl ⟨by omega, by omega⟩) ?_
          refine Ops.y (v := .int .i64 _) (Y.move rfl) ?_
          refine Ops.nil ?_
          exact ⟨1, ⟨⟨rfl, rfl, rfl, rfl, rfl, rfl, rfl, trivial⟩, I, by omega⟩, by omega⟩
        · refine WP.skip ?_
          refine WP.seq ?_
          refine WP.block ?_
          refine WP.seq ?_
          refine WP.region ?_
          refine Ops.y (v := .int .i64 _) (Y.move rfl) ?_
          refine Ops.y (v := .int .i64 _) (Y.assign rfl) ?_
          refine Ops.nil ?_
          refine WP.region ?_
          refine Ops.y (v := .int .i64 _) (Y.move rfl) ?_
          refine Ops.y (v := .int .i64 _) (Y.move rfl) ?_
          refine Ops.y (v := .pointer (some ⟨_, _, none⟩)) (Y.idxa Tryz.underlying193 Tryz.sizeOf3 rfl rfl (by omega) (by omega)) ?_
          refine Ops.y (v := .int .i64 _) (Y.loadv ty_3 rfl (I.rdbox 1 rfl 1 1) rfl rfl) ?_
          refine Ops.y (v := .int .i64 _) (Y.max2 rfl rfl) ?_
          refine Ops.y (v := .pointer (some ⟨_, _, none⟩)) (Y.fa fa_82_1 rfl) ?_
          refine Ops.y (v := .pointer (some ⟨_, _, none⟩)) (Y.idxa Tryz.underlying80 Tryz.sizeOf3 rfl rfl (by omega) (by omega)) ?_
          refine Ops.go (O.store (v := .int .i64 _) I ty_3 0 rfl rfl rfl rfl rfl rfl (Nat.le_of_ble_eq_true rfl) rfl ?_)
          intro w I
          refine Ops.nil ?_
          refine WP.region ?_
          refine Ops.y (v := .int .i64 _) (Y.addi rfl rfl ⟨by omega, by omega⟩) ?_
          refine Ops.y (v := .int .i64 _) (Y.move rfl) ?_
          refine Ops.nil ?_
          exact ⟨2, ⟨⟨rfl, rfl, rfl, rfl, rfl, rfl, rfl, trivial⟩, I, by omega⟩, by omega⟩
        · refine WP.skip ?_
          refine WP.seq ?_
          refine WP.block ?_
          refine WP.seq ?_
          refine WP.region ?_
          refine Ops.y (v := .int .i64 _) (Y.move rfl) ?_
          refine Ops.y (v := .int .i64 _) (Y.assign rfl) ?_
          refine Ops.nil ?_
          refine WP.region ?_
          refine Ops.y (v := .int .i64 _) (Y.move rfl) ?_
          refine Ops.y (v := .int .i64 _) (Y.move rfl) ?_
          refine Ops.y (v := .pointer (some ⟨_, _, none⟩)) (Y.idxa Tryz.underlying193 Tryz.sizeOf3 rfl rfl (by omega) (by omega)) ?_
          refine Ops.y (v := .int .i64 _) (Y.loadv ty_3 rfl (I.rdbox 1 rfl 2 1) rfl rfl) ?_
          refine Ops.y (v := .int .i64 _) (Y.max2 rfl rfl) ?_
          refine Ops.y (v := .pointer (some ⟨_, _, none⟩)) (Y.fa fa_82_1 rfl) ?_
          refine Ops.y (v := .pointer (some ⟨_, _, none⟩)) (Y.idxa Tryz.underlying80 Tryz.sizeOf3 rfl rfl (by omega) (by omega)) ?_
          refine Ops.go (O.store (v := .int .i64 _) I ty_3 0 rfl rfl rfl rfl rfl rfl (Nat.le_of_ble_eq_true rfl) rfl ?_)
          intro w I
          refine Ops.nil ?_
          refine WP.region ?_
          refine Ops.y (v := .int .i64 _) (Y.addi rfl rfl ⟨by omega, by omega⟩) ?_
          refine Ops.y (v := .int .i64 _) (Y.move rfl) ?_
          refine Ops.nil ?_
          exact ⟨3, ⟨⟨rfl, rfl, rfl, rfl, rfl, rfl, rfl, trivial⟩, I, by omega⟩, by omega⟩
      · obtain rfl : k = 3 := by omega
        refine WP.exit ?_
        exact ⟨(), ⟨rfl, rfl, rfl, rfl, rfl, trivial⟩, (I.front 0 rfl).weak (by exact List.Sublist.cons_cons _ (List.sublist_cons_self _ _))⟩
    rintro _ e w I
    have hL : layF f.xs [] b = [b] := rfl
    rw [hL] at hsz
    simp only [hL, outL_one]
    cases hh : holdsB f.xs r (mx0 b)
    · refine WP.seq ?_
      refine WP.seq ?_
      refine WP.region ?_
      refine Ops.y (v := .agg #[_, _]) (Y.loadv ty_25 rfl (I.rd (E.kp.rd.part 0 2)) rfl rfl) ?_
      refine Ops.y (v := .slice _ _ _) (Y.loadv ty_26 rfl (I.rd (E.kf.rd.part 0 1)) rfl rfl) ?_
      refine Ops.y (v := .int .i64 _) (Y.loadv ty_3 rfl (I.rd (E.kn.rd.part 0 1)) rfl rfl) ?_
      refine Ops.y (v := .pointer (some ⟨_, _, none⟩)) (Y.fa fa_82_1 rfl) ?_
      refine Ops.y (v := .agg #[_, _, _]) (Y.loadv ty_80 rfl (I.rdbox 0 rfl 1 3) rfl rfl) ?_
      refine Ops.go (O.callv I Tryz.call84 (FOf_at _ I.base_ok p E.p f E.f n r h0 hr ok okf (mx0 b) hvs (false, default) (by unfold holdsF; rw [hh]; rfl)) rfl ?_)
      intro w I
      refine Ops.y (v := .tuple #[_, _]) (Y.move rfl) ?_
      refine Ops.y (v := .bool _) (Y.extract rfl rfl) ?_
      refine Ops.y (v := .agg #[_, _, _, _]) (Y.extract rfl rfl) ?_
      refine Ops.go (O.alloc I Tryz.zeroValue52 rfl ?_)
      intro b12 w I
      refine Ops.y (v := .bool _) (Y.assign rfl) ?_
      refine Ops.go (O.store (v := .agg #[_, _, _, _]) I ty_52 0 rfl rfl rfl rfl rfl rfl (Nat.le_of_ble_eq_true rfl) rfl ?_)
      intro w I
      refine Ops.nil ?_
      refine WP.seq ?_
      refine WP.region ?_
      refine Ops.y (v := .bool _) (Y.move rfl) ?_
      refine Ops.nil ?_
      refine WP.cond_f rfl ?_
      refine WP.skip ?_
      refine WP.ret ?_
      repeat (first | refine thenE_ret ?_ | refine blockE_ret ?_)
      refine ⟨.inl rfl, [], trivial, rfl, h, a, c, m, Heap.le.refl _, ?_, ?_⟩
      · simp only [Bool.false_eq_true, if_false, List.append_nil]; exact I.drop.drop
      · simp only [Bool.false_eq_true, if_false, List.append_nil]; exact hm
    · refine WP.seq ?_
      refine WP.seq ?_
      refine WP.region ?_
      refine Ops.y (v := .agg #[_, _]) (Y.loadv ty_25 rfl (I.rd (E.kp.rd.part 0 2)) rfl rfl) ?_
      refine Ops.y (v := .slice _ _ _) (Y.loadv ty_26 rfl (I.rd (E.kf.rd.part 0 1)) rfl rfl) ?_
      refine Ops.y (v := .int .i64 _) (Y.loadv ty_3 rfl (I.rd (E.kn.rd.part 0 1)) rfl rfl) ?_
      refine Ops.y (v := .pointer (some ⟨_, _, none⟩)) (Y.fa fa_82_1 rfl) ?_
      refine Ops.y (v := .agg #[_, _, _]) (Y.loadv ty_80 rfl (I.rdbox 0 rfl 1 3) rfl rfl) ?_
      refine Ops.go (O.callv I Tryz.call84 (FOf_at _ I.base_ok p E.p f E.f n r h0 hr ok okf (mx0 b) hvs (true, headF p.preds.xs f.xs r (mx0 b)) (by unfold holdsF; rw [hh]; rfl)) rfl ?_)
      intro w I
      refine Ops.y (v := .tuple #[_, _]) (Y.move rfl) ?_
      refine Ops.y (v := .bool _) (Y.extract rfl rfl) ?_
      refine Ops.y (v := .agg #[_, _, _, _]) (Y.extract rfl rfl) ?_
      refine Ops.go (O.alloc I Tryz.zeroValue52 rfl ?_)
      intro b12 w I
      refine Ops.y (v := .bool _) (Y.assign rfl) ?_
      refine Ops.go (O.store (v := .agg #[_, _, _, _]) I ty_52 0 rfl rfl rfl rfl rfl rfl (Nat.le_of_ble_eq_true rfl) rfl ?_)
      intro w I
      refine Ops.nil ?_
      refine WP.seq ?_
      refine WP.region ?_
      refine Ops.y (v := .bool _) (Y.move rfl) ?_
      refine Ops.nil ?_
      refine WP.cond_t rfl ?_
      refine WP.region ?_
      refine Ops.y (v := .slice _ _ _) (Y.loadv ty_36 rfl (I.rdbox 2 rfl 0 1) rfl rfl) ?_
      refine Ops.y (v := .agg #[_, _, _, _]) (Y.loadv ty_82 rfl (I.rdbox 1 rfl 0 4) rfl rfl) ?_
      refine Ops.go (O.mksl (xs := [⟨n, mx0 b⟩]) (enc := Stp.enc) I Tryz.underlying36 Tryz.sizeOf82 Tryz.zeroValue82 rfl (Nat.le_of_ble_eq_true rfl) rfl rfl (by decide) (fun _ => rfl) ?_)
      intro b45 h45 w I le45 sl45
      refine Ops.go (O.append I Tryz.underlying36 et_82 3 rfl rfl rfl (I.rd (sl45 0 _ rfl).2) rfl rfl (by decide) ((by simp only [List.length_singleton] at hsz; omega)) (by omega) ?_)
      intro b46 c46 w I
      refine Ops.go (O.store (v := .slice _ _ _) I ty_36 2 rfl rfl rfl rfl rfl rfl (Nat.le_of_ble_eq_true rfl) rfl ?_)
      intro w I
      refine Ops.nil ?_
      refine WP.ret ?_
      repeat (first | refine thenE_ret ?_ | refine blockE_ret ?_)
      refine ⟨.inl rfl, [], trivial, rfl, h45, some ⟨b46, 0, none⟩, c46, m + 1, le45, ?_, ?_⟩
      · simp only [if_true]
        show Inv B h45 [box bo [.slice (some ⟨b46, 0, none⟩) (m + 1) c46] 36, ownSl 82 4 (.slice (some ⟨b46, 0, none⟩) (m + 1) c46) (m + 1) ((acc ++ [Stp.mk n (mx0 b)]).flatMap Stp.enc)] w
        rw [snocS]; exact I.drop.drop
      · simp only [if_true, List.length_append, List.length_singleton]; omega
  | at1 :: ls, B, h, w, l, b, a, c, m, acc, hls0, I, hm, E, hA, hin, hb, hsz => by
    have hlen : l.xs.length = ls.length + 1 := by rw [hls0]; rfl
    have hl0 : l.xs[0]? = some at1 := by rw [hls0]; rfl
    have hat := hin at1 List.mem_cons_self
    obtain ⟨y, hy, _, hya⟩ := mem_poss.1 hat
    have aok : AOk p.preds.xs at1 := hya ▸ aok_of ok.preds (ok.body y hy)
    have hav : ∀ t ∈ at1.args.xs, t.var = true → 0 ≤ t.n ∧ t.n < 3 := fun t ht hv => aok.var ht hv
    have hsm := hA.is.small
    have hsf := E.f.small
    rw [layF_cons] at hsz ⊢
    refine Calls.ofWP (args := [b.val, l.val, .pointer (some ⟨bn, 0, none⟩), .pointer (some ⟨bp, 0, none⟩), .pointer (some ⟨bf, 0, none⟩), .pointer (some ⟨bo, 0, none⟩), .pointer (some ⟨bl, 0, none⟩)]) Tryz.func168 rfl Tryz.ntmps168 (by kernel_rfl) (by simp) ?_
    intro e
    refine WP.seq ?_
    refine WP.region ?_
    refine Ops.go (O.box (v := .agg #[_, _, _]) I rfl rfl ?_)
    intro b7 w I
    refine Ops.nil ?_
    refine WP.seq ?_
    refine WP.seq ?_
    refine WP.region ?_
    refine Ops.y (v := .slice _ _ _) (Y.move rfl) ?_
    refine Ops.y (v := .int .i64 _) (Y.lens Tryz.underlying186 rfl) ?_
    refine Ops.y (v := .bool false) (Y.dec_f (Y.eqi rfl rfl) ((by omega))) ?_
    refine Ops.nil ?_
    refine WP.cond_f rfl ?_
    obtain ⟨h1, le1, k7, I⟩ := I.settleBox
    have E := E.le le1
    have hA := hA.le le1
    refine WP.skip ?_
    refine WP.seq ?_
    refine WP.region ?_
    refine Ops.y (v := .slice _ _ _) (Y.loadv ty_26 rfl (I.rd (E.kf.rd.part 0 1)) rfl rfl) ?_
    refine Ops.y (v := .int .i64 _) (Y.lens Tryz.underlying26 rfl) ?_
    refine Ops.y (v := .int .i64 _) (Y.move rfl) ?_
    refine Ops.nil ?_
    refine WP.block ?_
    refine WP.loopE (σ := Nat) (fun k => [(1, l.val), (2, .pointer (some ⟨bn, 0, none⟩)), (3, .pointer (some ⟨bp, 0, none⟩)), (4, .pointer (some ⟨bf, 0, none⟩)), (5, .pointer (some ⟨bo, 0, none⟩)), (6, .pointer (some ⟨bl, 0, none⟩)), (7, .pointer (some ⟨b7, 0, none⟩)), (47, f.val), (48, .int .i64 f.xs.length), (49, .int .i64 k)])
      (fun k w => k ≤ f.xs.length ∧ ∃ h2 a' c' m', h1.le h2 ∧ Inv B h2 (LayM bo a' c' m' (acc ++ outL f.xs n r ((f.xs.take k).flatMap (layN f.xs at1 ls b)))) w ∧ m' = (acc ++ outL f.xs n r ((f.xs.take k).flatMap (layN f.xs at1 ls b))).length) (fun k => f.xs.length - k)
      ⟨0, ⟨rfl, rfl, rfl, rfl, rfl, rfl, rfl, rfl, rfl, rfl, trivial⟩, Nat.zero_le _, h1, a, c, m, Heap.le.refl _, by simpa [outL_nil] using I, by simpa [outL_nil] using hm⟩ ?_
    rintro k e w ⟨hk, h2, a2, c2, m2, gl, I, hm2⟩
    have E := E.le gl
    have hA := hA.le gl
    have k7 := k7.le gl
    refine WP.seq ?_
    refine WP.region ?_
    refine Ops.y (v := .bool (decide _)) (Y.lti rfl rfl) ?_
    refine Ops.nil ?_
    refine WP.seq ?_
    refine WP.cond_dec rfl (fun h12 => ?_) (fun h12 => ?_)
    · have hk' : k < f.xs.length := by omega
      have Ef := E.f.at hk'
      have El0 := hA.is.el.el hl0
      have hat1 := hA.each _ (List.mem_of_getElem? hl0)
      have pf := okf.pf _ (List.getElem_mem hk')
      have hts := flat_take_succ (layN f.xs at1 ls b) hk'
      have htl := flat_take_le (layN f.xs at1 ls b) f.xs (k + 1)
      have hol := outL_le f.xs n r ((f.xs.take k).flatMap (layN f.xs at1 ls b))
      rw [hts, List.length_append] at htl
      refine WP.skip ?_
      refine WP.seq ?_
      refine WP.block ?_
      refine WP.seq ?_
      refine WP.region ?_
      refine Ops.y (v := .pointer (some ⟨_, _, none⟩)) (Y.idxEl Ef Tryz.underlying26 Tryz.sizeOf52 rfl rfl (Int.natCast_nonneg _) rfl) ?_
      refine Ops.y (v := .agg #[_, _, _, _]) (Y.loadv ty_52 rfl (I.rd (Ef.rd.part 0 4)) rfl rfl) ?_
      refine Ops.go (O.alloc I Tryz.zeroValue52 rfl ?_)
      intro b14 w I
      refine Ops.go (O.store (v := .agg #[_, _, _, _]) I ty_52 0 rfl rfl rfl rfl rfl rfl (Nat.le_of_ble_eq_true rfl) rfl ?_)
      intro w I
      refine Ops.nil ?_
      refine WP.seq ?_
      refine WP.regionG mixed RBx.pre ⟨h2, none, none⟩ (J := JBx B (box b14 f.xs[k].enc 52 :: LayM bo a2 c2 m2 (acc ++ outL f.xs n r ((f.xs.take k).flatMap (layN f.xs at1 ls b)))) 193 [.int .i64 0, .int .i64 0, .int .i64 0] (wcF b at1 f.xs[k]).1.enc 9 99 10) ⟨rfl, rfl, fun h => (by cases h), I.drew⟩ 11 (by kernel_rfl) ?_
      refine OpsG.y_ (v := .agg #[_, _, _]) (fun _ => runsG_none _) RBx.pre (JBx.set (by decide)) (fun _ s w us hl hj => have I := hj.base; have hl := hl.h; Y.loadv ty_193 rfl (I.rd ((k7.rd.part 0 3).le hl)) rfl rfl) ?_
      refine OpsG.y_ (v := .slice _ _ _) (fun _ => runsG_none _) RBx.pre (JBx.set (by decide)) (fun _ s w us hl hj => have I := hj.base; have hl := hl.h; Y.move rfl) ?_
      refine OpsG.y_ (v := .pointer (some ⟨_, _, none⟩)) (fun _ => runsG_none _) RBx.pre (JBx.set (by decide)) (fun _ s w us hl hj => have I := hj.base; have hl := hl.h; Y.idxEl El0 Tryz.underlying186 Tryz.sizeOf65 rfl rfl (by decide) rfl) ?_
      refine OpsG.y_ (v := .agg #[_, _]) (fun _ => runsG_none _) RBx.pre (JBx.set (by decide)) (fun _ s w us hl hj => have I := hj.base; have hl := hl.h; Y.loadv ty_65 rfl (I.rd ((El0.rd.part 0 2).le hl)) rfl rfl) ?_
      refine OpsG.y_ (v := .agg #[_, _, _, _]) (fun _ => runsG_none _) RBx.pre (JBx.set (by decide)) (fun _ s w us hl hj => have I := hj.base; have hl := hl.h; Y.loadv ty_52 rfl (I.rdbox 0 rfl 0 4) rfl rfl) ?_
      refine OpsG.c_ (by decide) (fun _ s w us hl hj => have I := hj.inv; have hl := hl.h; O.callv I Tryz.call169 (with_ok _ I.base_ok b at1 (hat1.le hl) f.xs[k] aok.len hav) rfl (fun w' I' => ⟨rfl, ⟨hj.h7, hj.h8, hj.ord, I'⟩⟩)) ?_
      refine OpsG.y_ (v := .tuple #[_, _]) (fun _ => runsG_none _) RBx.pre (JBx.set (by decide)) (fun _ s w us hl hj => have I := hj.base; have hl := hl.h; Y.move rfl) ?_
      refine OpsG.y_ (v := .agg #[_, _, _]) (fun _ => runsG_none _) RBx.pre (JBx.set (by decide)) (fun _ s w us hl hj => have I := hj.base; have hl := hl.h; Y.extract rfl rfl) ?_
      refine OpsG.y_ (v := .bool _) (fun _ => runsG_none _) RBx.pre (JBx.set (by decide)) (fun _ s w us hl hj => have I := hj.base; have hl := hl.h; Y.extract rfl rfl) ?_
      refine OpsG.make7 Tryz.zeroValue193 rfl (by decide) (by decide) ?_
      refine OpsG.store7 ty_193 rfl rfl (fun s => by intro u15 q15; exact ⟨q15 rfl, rfl⟩) rfl rfl (by decide) (by decide) ?_
      refine OpsG.nil ?_
      intro D s w hD hl hj u15 q15
      obtain ⟨b15, rfl, h15⟩ := q15 rfl
      have I := hj.inv
      rw [h15, hD 10 (by omega)] at I
      have hl := hl.h
      refine Ops.y (v := .bool _) (Y.assign rfl) ?_
      refine Ops.nil ?_
      generalize s.o8 = o8 at I
      generalize s.h = h3 at I hl
      have I : Inv B h3 (box b15 (wcF b at1 f.xs[k]).1.enc 193 :: box b14 f.xs[k].enc 52 :: LayM bo a2 c2 m2 (acc ++ outL f.xs n r ((f.xs.take k).flatMap (layN f.xs at1 ls b)))) w := by
        cases o8 with
        | none => exact I
        | some b8 => exact I.weak (List.Sublist.cons_cons _ (List.sublist_cons_self _ _))
      have E := E.le hl
      have hA := hA.le hl
      refine WP.seq ?_
      refine WP.region ?_
      refine Ops.y (v := .bool _) (Y.move rfl) ?_
      refine Ops.nil ?_
      cases hw : (wcF b at1 f.xs[k]).2
      · refine WP.cond_f rfl ?_
        refine WP.skip ?_
        refine WP.region ?_
        refine Ops.y (v := .int .i64 _) (Y.addi rfl rfl ⟨by omega, by omega⟩) ?_
        refine Ops.y (v := .int .i64 _) (Y.move rfl) ?_
        refine Ops.nil ?_
        refine ⟨k + 1, ⟨⟨rfl, rfl, rfl, rfl, rfl, rfl, rfl, rfl, rfl, rfl, trivial⟩, by omega, h3, a2, c2, m2, gl.trans hl, ?_, ?_⟩, by omega⟩
        · rw [hts, show layN f.xs at1 ls b f.xs[k] = [] from by unfold layN; rw [hw]; rfl, List.append_nil]; exact I.drop.drop
        · rw [hts, show layN f.xs at1 ls b f.xs[k] = [] from by unfold layN; rw [hw]; rfl, List.append_nil]; exact hm2
      · have hN : layN f.xs at1 ls b f.xs[k] = layF f.xs ls (wcF b at1 f.xs[k]).1 := by unfold layN; rw [hw]; rfl
        rw [hN] at htl hts
        have hcut : (l.cut 2 1 l.xs.length).xs = ls := by simp only [Sl.cut, List.take_length, hls0, List.drop_succ_cons, List.drop_zero]
        have hAc : AtS (l.cut 2 1 l.xs.length) h3 := ⟨hA.is.cut hA.cap, by simp only [Sl.cut, List.length_drop, List.length_take]; have := hA.cap; omega, fun x hx => hA.each x (List.mem_of_mem_take (List.mem_of_mem_drop hx))⟩
        have gl3 := gl.trans hl
        refine WP.cond_t rfl ?_
        refine WP.regionF mixed I 4 (by kernel_rfl) ?_
        refine OpsF.y_ (v := .func _ _ _) (fun _ => runs_none _) (fun _ w us hl I => Y.loadv ty_192 rfl (I.rd ((E.kl.rd.part 0 1).le hl)) rfl rfl) ?_
        refine OpsF.y_ (v := .agg #[_, _, _]) (fun _ => runs_none _) (fun _ w us hl I => Y.loadv ty_193 rfl (I.rdbox 0 rfl 0 3) rfl rfl) ?_
        refine OpsF.y_ (v := .slice _ _ _) (fun _ => runs_none _) (fun _ w us hl I => Y.move rfl) ?_
        refine OpsF.y_ (v := .slice _ _ _) (fun _ => runs_none _) (fun _ w us hl I => Y.cut (l := 1) (h := l.xs.length) Tryz.underlying186 Tryz.sizeOf65 (hA.is.at (i := 0) (by omega)).at_ hA.cap rfl (.inr ⟨_, _, rfl, rfl⟩) (.inl ⟨rfl, rfl⟩) (by omega) (Nat.le_refl _)) ?_
        refine OpsF.nil ?_
        intro _ w hl I
        have I := I.drop.drop
        refine Ops.go (O.callcs Tryz.call168 (fs := []) (cs := [.pointer (some ⟨bn, 0, none⟩), .pointer (some ⟨bp, 0, none⟩), .pointer (some ⟨bf, 0, none⟩), .pointer (some ⟨bo, 0, none⟩), .pointer (some ⟨bl, 0, none⟩)]) rfl (lay_ok p f n r bn bp bf bo bl h0 hr ok okf ls (l.cut 2 1 l.xs.length) (wcF b at1 f.xs[k]).1 a2 c2 m2 _ hcut I hm2 (E.le (by assumption)) (hAc.le (by assumption)) (fun x hx => hin x (List.mem_cons_of_mem _ hx)) (wc_bok hat hav pf hb hw) (by rw [hm2, List.length_append]; omega)) rfl ?_)
        rintro ed w ⟨rfl, h5, a5, c5, m5, le5, I, hm5⟩
        refine ⟨_, rfl, ?_⟩
        refine Ops.nil ?_
        refine WP.region ?_
        refine Ops.y (v := .int .i64 _) (Y.addi rfl rfl ⟨by omega, by omega⟩) ?_
        refine Ops.y (v := .int .i64 _) (Y.move rfl) ?_
        refine Ops.nil ?_
        refine ⟨k + 1, ⟨⟨rfl, rfl, rfl, rfl, rfl, rfl, rfl, rfl, rfl, rfl, trivial⟩, by omega, h5, a5, c5, m5, (gl3.trans hl).trans le5, ?_, ?_⟩, by omega⟩
        · rw [hts, outL_app, ← List.append_assoc]; exact I
        · rw [hts, outL_app, ← List.append_assoc]; exact hm5
    · obtain rfl : k = f.xs.length := by omega
      rw [List.take_length] at I hm2
      refine WP.exit ?_
      exact ⟨.inr rfl, [], trivial, rfl, h2, a2, c2, m2, le1.trans gl, I, hm2⟩
end Go.TF
end
section
/- The laying of slices.SortFunc at this program, made by the kit's own tool. -/
namespace Go.Proofs
open Go.Shelf
def Tryz.sortStp_ren : Go.Shelf.Ren := ⟨fun | 6 => 170 | 15 => 186 | 14 => 185 | 28 => 203 | 29 => 204 | 20 => 195 | 21 => 196 | 22 => 197 | 23 => 198 | 24 => 199 | 25 => 200 | 26 => 201 | 27 => 202 | 46 => 206 | 47 => 207 | 48 => 208 | 49 => 209 | 50 => 210 | 57 => 211 | n => n, fun | 22 => 36 | 24 => 82 | 25 => 198 | 3 => 3 | 39 => 207 | 0 => 0 | 53 => 224 | 55 => 226 | 4 => 4 | 46 => 218 | 45 => 217 | 50 => 107 | 5 => 5 | 9 => 9 | 66 => 228 | 70 => 232 | 76 => 234 | 77 => 235 | n => n, fun | n => n⟩
theorem Tryz.sortStp : Go.Proofs.SlLaysF0.n6 Tryz.prog Tryz.sortStp_ren := {
  mixed := by kernel_rfl
  f6 := ⟨Tryz.f170.name, by decide, Tryz.func170.trans (congrArg some (by kernel_rfl))⟩
  f14 := ⟨Tryz.f185.name, by decide, Tryz.func185.trans (congrArg some (by kernel_rfl))⟩
  f15 := Tryz.func186.trans (congrArg some (by kernel_rfl))
  f20 := ⟨Tryz.f195.name, by decide, Tryz.func195.trans (congrArg some (by kernel_rfl))⟩
  f21 := ⟨Tryz.f196.name, by decide, Tryz.func196.trans (congrArg some (by kernel_rfl))⟩
  f22 := ⟨Tryz.f197.name, by decide, Tryz.func197.trans (congrArg some (by kernel_rfl))⟩
  f23 := ⟨Tryz.f198.name, by decide, Tryz.func198.trans (congrArg some (by kernel_rfl))⟩
  f24 := ⟨Tryz.f199.name, by decide, Tryz.func199.trans (congrArg some (by kernel_rfl))⟩
  f25 := ⟨Tryz.f200.name, by decide, Tryz.func200.trans (congrArg some (by kernel_rfl))⟩
  f26 := ⟨Tryz.f201.name, by decide, Tryz.func201.trans (congrArg some (by kernel_rfl))⟩
  f27 := ⟨Tryz.f202.name, by decide, Tryz.func202.trans (congrArg some (by kernel_rfl))⟩
  f28 := Tryz.func203.trans (congrArg some (by kernel_rfl))
  f29 := Tryz.func204.trans (congrArg some (by kernel_rfl))
  f46 := ⟨Tryz.f206.name, by decide, Tryz.func206.trans (congrArg some (by kernel_rfl))⟩
  f47 := Tryz.func207.trans (congrArg some (by kernel_rfl))
  f48 := Tryz.func208.trans (congrArg some (by kernel_rfl))
  f49 := ⟨Tryz.f209.name, by decide, Tryz.func209.trans (congrArg some (by kernel_rfl))⟩
  f50 := ⟨Tryz.f210.name, by decide, Tryz.func210.trans (congrArg some (by kernel_rfl))⟩
  f57 := ⟨Tryz.f211.name, by decide, Tryz.func211.trans (congrArg some (by kernel_rfl))⟩
  t0 := Tryz.underlying0
  a0 := Tryz.isAgg0
  z0 := Tryz.sizeOf0
  v0 := Tryz.zeroValue0
  t3 := Tryz.underlying3
  a3 := Tryz.isAgg3
  z3 := Tryz.sizeOf3
  v3 := Tryz.zeroValue3
  t4 := Tryz.underlying4
  a4 := Tryz.isAgg4
  z4 := Tryz.sizeOf4
  v4 := Tryz.zeroValue4
  t5 := Tryz.underlying5
  a5 := Tryz.isAgg5
  z5 := Tryz.sizeOf5
  v5 := Tryz.zeroValue5
  t9 := Tryz.underlying9
  a9 := Tryz.isAgg9
  z9 := Tryz.sizeOf9
  v9 := Tryz.zeroValue9
  t22 := Tryz.underlying36
  a22 := Tryz.isAgg36
  z22 := Tryz.sizeOf36
  v22 := Tryz.zeroValue36
  t25 := Tryz.underlying198
  a25 := Tryz.isAgg198
  z25 := Tryz.sizeOf198
  v25 := Tryz.zeroValue198
  t39 := Tryz.underlying207
  a39 := Tryz.isAgg207
  z39 := Tryz.sizeOf207
  v39 := Tryz.zeroValue207
  t45 := Tryz.underlying217
  a45 := Tryz.isAgg217
  z45 := Tryz.sizeOf217
  v45 := Tryz.zeroValue217
  t46 := Tryz.underlying218
  a46 := Tryz.isAgg218
  z46 := Tryz.sizeOf218
  v46 := Tryz.zeroValue218
  t50 := Tryz.underlying107
  a50 := Tryz.isAgg107
  z50 := Tryz.sizeOf107
  v50 := Tryz.zeroValue107
  t53 := Tryz.underlying224
  a53 := Tryz.isAgg224
  z53 := Tryz.sizeOf224
  v53 := Tryz.zeroValue224
  t55 := Tryz.underlying226
  a55 := Tryz.isAgg226
  z55 := Tryz.sizeOf226
  v55 := Tryz.zeroValue226
  t66 := Tryz.underlying228
  a66 := Tryz.isAgg228
  z66 := Tryz.sizeOf228
  v66 := Tryz.zeroValue228
  t70 := Tryz.underlying232
  a70 := Tryz.isAgg232
  z70 := Tryz.sizeOf232
  v70 := Tryz.zeroValue232
  t76 := Tryz.underlying234
  a76 := Tryz.isAgg234
  z76 := Tryz.sizeOf234
  v76 := Tryz.zeroValue234
  t77 := Tryz.underlying235
  a77 := Tryz.isAgg235
  z77 := Tryz.sizeOf235
  v77 := Tryz.zeroValue235 }
end Go.Proofs
end
