/- Texts SpStrata SpFire Tab Txt1 SpChk Txt2 Base25 SpTxt ShLay Blt1. -/
import Derived.Test.YtljkkojkfddpeaaGreatDoorU2
import Derived.Test.YtljkkojkfddpeaaGreatDoorU1
import Derived.Test.YtljkkojkfddpeaaGreatDoorProg
import Derived.KernelRfl
import Derived.Lib.FrozenHead
import Derived.Lib.Split
import Derived.Lib.SplitLaws
import Derived.Lib.AtoiAll
import Derived.Lib.Strings
import Derived.Shelf.Strings.Builder1
import Derived.Shelf.Strings.OnBuilder
import Derived.Shelf.Small.Strs
import Derived.Shelf.Small.Wraps
import Derived.Shelf.Strings.BuilderF
import Derived.Shelf.Strconv.Itoa3
import Derived.Shelf.Strconv.AtoiAll
import Derived.Shelf.Strings.Search3
import Derived.Shelf.Strings.Cut
import Derived.Shelf.Strings.Count
import Derived.Shelf.Strings.Prefix
import Derived.Shelf.Strings.Split
import Derived.Shelf.LaysM
import Derived.Shelf.LaysC
section
/- Strata and needs: plain. -/
namespace Go.TF
open Go

/-- What a program's rules use: which predicate's rule uses which literal. -/
def usesL (rs : List Rul) : List (Int × Ltl) := rs.flatMap fun r => r.body.xs.map fun x => (r.head.pred, x)
def lv (L : List Int) (i : Int) : Int := L.getD i.toNat 0
def ng (x : Ltl) : Int := if x.neg then 1 else 0
def lst (L : List Int) (c : Int × Ltl) : Int := lv L c.2.atom.pred + ng c.2
def SatC (L : List Int) (c : Int × Ltl) : Prop := lst L c ≤ lv L c.1
structure InR (cs : List (Int × Ltl)) (n : Nat) : Prop where
  h : ∀ c ∈ cs, 0 ≤ c.1 ∧ c.1 < n
  b : ∀ c ∈ cs, 0 ≤ c.2.atom.pred ∧ c.2.atom.pred < n
structure Sol (cs : List (Int × Ltl)) (n : Nat) (L : List Int) : Prop where
  len : L.length = n
  pos : ∀ i, 0 ≤ lv L i
  sat : ∀ c ∈ cs, SatC L c
structure Least (cs : List (Int × Ltl)) (n : Nat) (L : List Int) : Prop where
  sol : Sol cs n L
  least : ∀ M, Sol cs n M → ∀ i, lv L i ≤ lv M i
def StrataR (cs : List (Int × Ltl)) (n : Nat) : Option (List Int) → Prop
  | some L => Least cs n L
  | none => ∀ M, ¬ Sol cs n M
theorem ng_le (x : Ltl) : 0 ≤ ng x ∧ ng x ≤ 1 := by unfold ng; split <;> omega
theorem lv_set {L : List Int} {i : Int} (h0 : 0 ≤ i) (h1 : i < L.length) (v j : Int) (hj : 0 ≤ j) : lv (L.set i.toNat v) j = if j = i then v else lv L j := by
  simp only [lv, List.getD_eq_getElem?_getD, List.getElem?_set]
  by_cases e : j = i
  · subst e; simp [show j.toNat < L.length by omega]
  · rw [if_neg e, if_neg (by omega)]
theorem lv_neg (L : List Int) {j : Int} (hj : j < 0) : lv L j = lv L 0 := by simp [lv, show j.toNat = 0 by omega]
theorem lv_zero (n : Nat) (i : Int) : lv (List.replicate n 0) i = 0 := by
  simp only [lv, List.getD_eq_getElem?_getD, List.getElem?_replicate]; split <;> rfl

/-- How many are less. -/
def rank (M : List Int) (v : Int) : Int := (M.countP fun u => decide (u < v) : Nat)
theorem countP_lt {M : List Int} {u v : Int} (huv : u < v) {i : Nat} (hi : i < M.length) (he : M[i] = u) : (M.countP fun x => decide (x < u)) < M.countP fun x => decide (x < v) := by
  induction M generalizing i with
  | nil => simp at hi
  | cons a M ih =>
    have mono : ∀ l : List Int, (l.countP fun x => decide (x < u)) ≤ l.countP fun x => decide (x < v) := fun l => List.countP_mono_left (fun x _ hx => by simp at hx ⊢; omega)
    cases i with
    | zero =>
      simp at he; subst he
      have := mono M
      simp [huv]; omega
    | succ i =>
      have := ih (by simpa using hi) (by simpa using he)
      simp only [List.countP_cons]
      have h2 : (if decide (a < u) = true then 1 else 0) ≤ (if decide (a < v) = true then 1 else 0) := by
        by_cases h : a < u
        · simp [h, show a < v by omega]
        · simp [h]
      omega
theorem countP_self_lt {M : List Int} {u : Int} {i : Nat} (hi : i < M.length) (he : M[i] = u) : (M.countP fun x => decide (x < u)) < M.length := by
  have h1 : (M.countP fun x => decide (x < u)) ≤ M.length := List.countP_le_length
  rcases Nat.lt_or_ge (M.countP fun x => decide (x < u)) M.length with h | h
  · exact h
  · have h2 : (M.countP fun x => decide (x < u)) = M.length := by omega
    rw [List.countP_eq_length] at h2
    have := h2 M[i] (List.getElem_mem hi)
    simp [he] at this
/-- If there are strata at all, there are such that are less than the number of predicates. -/
theorem Sol.small {cs : List (Int × Ltl)} {n : Nat} {M : List Int} (hr : InR cs n) (h : Sol cs n M) : ∃ M', Sol cs n M' ∧ ∀ i : Int, 0 ≤ i → i < n → lv M' i < n := by
  have hlv : ∀ i : Int, 0 ≤ i → i < n → lv (M.map (rank M)) i = rank M (lv M i) := fun i h0 h1 => by
    have : i.toNat < M.length := by rw [h.len]; omega
    simp [lv, List.getD_eq_getElem?_getD, this]
  refine ⟨M.map (rank M), ⟨by simp [h.len], fun i => ?_, fun c hc => ?_⟩, fun i h0 h1 => ?_⟩
  · simp only [lv, List.getD_eq_getElem?_getD, List.getElem?_map]
    cases M[i.toNat]? with
    | none => simp
    | some v => simp [rank]
  · have hh := hr.h c hc
    have hb := hr.b c hc
    have hs := h.sat c hc
    unfold SatC lst at hs ⊢
    rw [hlv _ hh.1 hh.2, hlv _ hb.1 hb.2]
    have hbl : c.2.atom.pred.toNat < M.length := by rw [h.len]; omega
    have hbe : M[c.2.atom.pred.toNat] = lv M c.2.atom.pred := by simp [lv, List.getD_eq_getElem?_getD, hbl]
    by_cases hlt : lv M c.2.atom.pred < lv M c.1
    · have := countP_lt hlt hbl hbe
      have := ng_le c.2
      simp only [rank]; omega
    · have hz : ng c.2 = 0 := by have := ng_le c.2; omega
      have he : lv M c.2.atom.pred = lv M c.1 := by omega
      rw [he, hz]; omega
  · rw [hlv i h0 h1]
    have hil : i.toNat < M.length := by rw [h.len]; omega
    have hie : M[i.toNat] = lv M i := by simp [lv, List.getD_eq_getElem?_getD, hil]
    have := countP_self_lt hil hie
    rw [h.len] at this
    simp only [rank]; omega

/-- On the way: not above any strata that there are. -/
structure Good (cs : List (Int × Ltl)) (n : Nat) (L : List Int) : Prop where
  len : L.length = n
  pos : ∀ i, 0 ≤ lv L i
  le : ∀ M, Sol cs n M → ∀ i, lv L i ≤ lv M i
theorem Good.zero (cs : List (Int × Ltl)) (n : Nat) : Good cs n (List.replicate n 0) :=
  ⟨by simp, fun i => by rw [lv_zero]; omega, fun M hM i => by rw [lv_zero]; exact hM.pos i⟩
theorem Good.raise {cs : List (Int × Ltl)} {n : Nat} {L : List Int} (hr : InR cs n) (g : Good cs n L) {c : Int × Ltl} (hc : c ∈ cs) : Good cs n (L.set c.1.toNat (lst L c)) := by
  have hh := hr.h c hc
  have hb := hr.b c hc
  have hl : c.1 < L.length := by rw [g.len]; exact hh.2
  refine ⟨by simp [g.len], fun i => ?_, fun M hM i => ?_⟩
  · by_cases hi : 0 ≤ i
    · rw [lv_set hh.1 hl _ _ hi]; split
      · have := g.pos c.2.atom.pred; have := ng_le c.2; unfold lst; omega
      · exact g.pos i
    · rw [lv_neg _ (by omega), lv_set hh.1 hl _ _ (Int.le_refl 0)]; split
      · have := g.pos c.2.atom.pred; have := ng_le c.2; unfold lst; omega
      · exact g.pos 0
  · have key : ∀ i, 0 ≤ i → lv (L.set c.1.toNat (lst L c)) i ≤ lv M i := fun i hi => by
      rw [lv_set hh.1 hl _ _ hi]; split
      · rename_i e; subst e
        have h1 := hM.sat c hc
        have h2 := g.le M hM c.2.atom.pred
        unfold SatC at h1; unfold lst at h1 ⊢; omega
      · exact g.le M hM i
    by_cases hi : 0 ≤ i
    · exact key i hi
    · rw [lv_neg _ (by omega), lv_neg M (by omega)]; exact key 0 (Int.le_refl 0)
theorem Good.done {cs : List (Int × Ltl)} {n : Nat} {L : List Int} (g : Good cs n L) (h : ∀ c ∈ cs, SatC L c) : StrataR cs n (some L) := ⟨⟨g.len, g.pos, h⟩, g.le⟩
theorem Good.fail {cs : List (Int × Ltl)} {n : Nat} {L : List Int} (hr : InR cs n) (g : Good cs n L) {c : Int × Ltl} (hc : c ∈ cs) (hn : n ≤ lst L c) : StrataR cs n none := fun M hM => by
  obtain ⟨M', hM', hlt⟩ := hM.small hr
  have hh := hr.h c hc
  have h1 := hM'.sat c hc
  have h2 := g.le M' hM' c.2.atom.pred
  have h3 := hlt c.1 hh.1 hh.2
  unfold SatC at h1; unfold lst at h1 hn; omega
theorem Good.lt {cs : List (Int × Ltl)} {n : Nat} {L : List Int} (hr : InR cs n) (g : Good cs n L) (hs : ∃ M, Sol cs n M) {i : Int} (h0 : 0 ≤ i) (h1 : i < n) : lv L i < n := by
  obtain ⟨M, hM⟩ := hs
  obtain ⟨M', hM', hlt⟩ := hM.small hr
  exact Int.lt_of_le_of_lt (g.le M' hM' i) (hlt i h0 h1)
/-- How much can be raised still. -/
def pot (n : Nat) (L : List Int) : Nat := (L.map fun v => ((n : Int) - v).toNat).sum
theorem sum_set_lt : ∀ (l : List Nat) (i : Nat) (y : Nat) (h : i < l.length), y < l[i] → (l.set i y).sum < l.sum
  | a :: l, 0, y, _, hy => by simp at hy ⊢; omega
  | a :: l, i + 1, y, h, hy => by
    have := sum_set_lt l i y (by simpa using h) (by simpa using hy)
    simp only [List.set_cons_succ, List.sum_cons]; omega
theorem pot_set_lt {n : Nat} {L : List Int} {i : Int} {v : Int} (h0 : 0 ≤ i) (h1 : i < L.length) (hv : lv L i < v) (hn : lv L i < n) : pot n (L.set i.toNat v) < pot n L := by
  have hi : i.toNat < L.length := by omega
  have he : L[i.toNat] = lv L i := by simp [lv, List.getD_eq_getElem?_getD, hi]
  unfold pot
  rw [List.map_set]
  refine sum_set_lt _ _ _ (by simpa using hi) ?_
  rw [List.getElem_map, he]; omega
theorem pot_zero (n : Nat) : pot n (List.replicate n 0) = n * n := by
  unfold pot
  rw [List.map_replicate]
  simp

/-- Within one pass over all uses. -/
structure Pass (cs : List (Int × Ltl)) (n : Nat) (L : List Int) (same : Bool) (L' : List Int) (done : List (Int × Ltl)) : Prop where
  good : Good cs n L'
  t : same = true → L' = L ∧ ∀ c ∈ done, SatC L c
  f : same = false → (∃ M, Sol cs n M) → pot n L' + 1 ≤ pot n L
theorem Pass.start {cs : List (Int × Ltl)} {n : Nat} {L : List Int} (g : Good cs n L) : Pass cs n L true L [] := ⟨g, fun _ => ⟨rfl, by simp⟩, fun h => by cases h⟩
theorem Pass.keep {cs : List (Int × Ltl)} {n : Nat} {L L' : List Int} {same : Bool} {done : List (Int × Ltl)} (x : Pass cs n L same L' done) {c : Int × Ltl} (h : ¬ lv L' c.1 < lst L' c) : Pass cs n L same L' (done ++ [c]) :=
  ⟨x.good, fun hs => ⟨(x.t hs).1, fun d hd => by
    rcases List.mem_append.1 hd with h1 | h1
    · exact (x.t hs).2 d h1
    · rw [List.mem_singleton.1 h1]
      have := (x.t hs).1
      subst this
      unfold SatC; omega⟩, x.f⟩
theorem Pass.raise {cs : List (Int × Ltl)} {n : Nat} {L L' : List Int} {same : Bool} {done : List (Int × Ltl)} (hr : InR cs n) (x : Pass cs n L same L' done) {c : Int × Ltl} (hc : c ∈ cs) (h : lv L' c.1 < lst L' c) : Pass cs n L false (L'.set c.1.toNat (lst L' c)) (done ++ [c]) := by
  have hh := hr.h c hc
  refine ⟨x.good.raise hr hc, (fun h => by cases h), fun _ hs => ?_⟩
  have h1 := pot_set_lt (n := n) hh.1 (by rw [x.good.len]; exact hh.2) h (x.good.lt hr hs hh.1 hh.2)
  cases hsm : same
  · have := x.f hsm hs; omega
  · have := (x.t hsm).1; subst this; omega
theorem bound_raise {cs : List (Int × Ltl)} {n : Nat} {L : List Int} {t : Int} (hr : InR cs n) (hl : L.length = n) (hb : ∀ i, lv L i ≤ t) {c : Int × Ltl} (hc : c ∈ cs) : ∀ i, lv (L.set c.1.toNat (lst L c)) i ≤ t + 1 := fun i => by
  have hh := hr.h c hc
  have h1 := hb c.2.atom.pred
  have h2 := ng_le c.2
  have key : ∀ i, 0 ≤ i → lv (L.set c.1.toNat (lst L c)) i ≤ t + 1 := fun i h0 => by
    rw [lv_set hh.1 (by rw [hl]; exact hh.2) _ _ h0]; split
    · unfold lst; omega
    · have := hb i; omega
  by_cases h0 : 0 ≤ i
  · exact key i h0
  · rw [lv_neg _ (by omega)]; exact key 0 (Int.le_refl 0)
/-! ### Needs -/
def Uses (cs : List (Int × Ltl)) (a b : Int) : Prop := ∃ c ∈ cs, c.1 = a ∧ c.2.atom.pred = b
inductive Reach (cs : List (Int × Ltl)) (a : Int) : Int → Prop
  | refl : Reach cs a a
  | step {b c : Int} : Reach cs a b → Uses cs b c → Reach cs a c
def bv (N : List Bool) (i : Int) : Bool := N.getD i.toNat false
structure NeedsR (cs : List (Int × Ltl)) (n : Nat) (p : Int) (N : List Bool) : Prop where
  len : N.length = n
  iff : ∀ i : Int, 0 ≤ i → i < n → (bv N i = true ↔ Reach cs p i)
theorem bv_set {N : List Bool} {i : Int} (h0 : 0 ≤ i) (h1 : i < N.length) (v : Bool) (j : Int) (hj : 0 ≤ j) : bv (N.set i.toNat v) j = if j = i then v else bv N j := by
  simp only [bv, List.getD_eq_getElem?_getD, List.getElem?_set]
  by_cases e : j = i
  · subst e; simp [show j.toNat < N.length by omega]
  · rw [if_neg e, if_neg (by omega)]
def ClosedN (cs : List (Int × Ltl)) (N : List Bool) : Prop := ∀ c ∈ cs, bv N c.1 = true → bv N c.2.atom.pred = true
theorem NeedsR.of {cs : List (Int × Ltl)} {n : Nat} {p : Int} {N : List Bool} (hl : N.length = n) (hs : ∀ i : Int, 0 ≤ i → i < n → bv N i = true → Reach cs p i) (hp : bv N p = true) (hc : ClosedN cs N) : NeedsR cs n p N := by
  refine ⟨hl, fun i h0 h1 => ⟨hs i h0 h1, fun h => ?_⟩⟩
  clear h0 h1
  induction h with
  | refl => exact hp
  | step _ hu ih => obtain ⟨c, hc1, rfl, rfl⟩ := hu; exact hc c hc1 ih
def trues (N : List Bool) : Nat := N.countP id
theorem trues_set : ∀ (N : List Bool) (i : Nat) (h : i < N.length), N[i] = false → trues (N.set i true) = trues N + 1
  | a :: N, 0, _, hf => by simp at hf; subst hf; simp [trues]
  | a :: N, i + 1, h, hf => by
    have := trues_set N i (by simpa using h) (by simpa using hf)
    unfold trues at this ⊢
    simp only [List.set_cons_succ, List.countP_cons, this]; omega
theorem set_same : ∀ (N : List Bool) (i : Nat) (h : i < N.length), N[i] = true → N.set i true = N
  | a :: N, 0, _, hf => by simp at hf; subst hf; rfl
  | a :: N, i + 1, h, hf => by simp [set_same N i (by simpa using h) (by simpa using hf)]
/-- Within one pass over all uses. -/
structure PassN (cs : List (Int × Ltl)) (n : Nat) (p : Int) (N N1 : List Bool) (done : List (Int × Ltl)) : Prop where
  len : N1.length = n
  snd : ∀ i : Int, 0 ≤ i → i < n → bv N1 i = true → Reach cs p i
  has : bv N1 p = true
  or : (N1 = N ∧ ∀ c ∈ done, bv N c.1 = true → bv N c.2.atom.pred = true) ∨ trues N < trues N1
  closed : ClosedN cs N → N1 = N
theorem PassN.skip {cs : List (Int × Ltl)} {n : Nat} {p : Int} {N N1 : List Bool} {done more : List (Int × Ltl)} (x : PassN cs n p N N1 done) (h : ∀ c ∈ more, bv N1 c.1 = false) : PassN cs n p N N1 (done ++ more) :=
  ⟨x.len, x.snd, x.has, x.or.imp (fun ⟨e, hd⟩ => ⟨e, fun c hc => by
    rcases List.mem_append.1 hc with h1 | h1
    · exact hd c h1
    · intro ht; rw [← e, h c h1] at ht; cases ht⟩) id, x.closed⟩
theorem PassN.put {cs : List (Int × Ltl)} {n : Nat} {p : Int} {N N1 : List Bool} {done : List (Int × Ltl)} (hr : InR cs n) (hp : 0 ≤ p) (x : PassN cs n p N N1 done) {c : Int × Ltl} (hc : c ∈ cs) (ht : bv N1 c.1 = true) : PassN cs n p N (N1.set c.2.atom.pred.toNat true) (done ++ [c]) := by
  have hh := hr.h c hc
  have hb := hr.b c hc
  have hl : c.2.atom.pred < N1.length := by rw [x.len]; exact hb.2
  have hi : c.2.atom.pred.toNat < N1.length := by omega
  have hrc : Reach cs p c.2.atom.pred := .step (x.snd _ hh.1 hh.2 ht) ⟨c, hc, rfl, rfl⟩
  have he : N1[c.2.atom.pred.toNat] = bv N1 c.2.atom.pred := by simp [bv, List.getD_eq_getElem?_getD, hi]
  by_cases hq : bv N1 c.2.atom.pred = true
  · rw [set_same N1 _ hi (by rw [he]; exact hq)]
    exact ⟨x.len, x.snd, x.has, x.or.imp (fun ⟨e, hd⟩ => ⟨e, fun d hd' => by
      rcases List.mem_append.1 hd' with h1 | h1
      · exact hd d h1
      · rw [List.mem_singleton.1 h1]; intro _; rw [← e]; exact hq⟩) id, x.closed⟩
  · have hq' : bv N1 c.2.atom.pred = false := by simpa using hq
    have htr := trues_set N1 _ hi (by rw [he]; exact hq')
    refine ⟨by simp [x.len], fun i h0 h1 h => ?_, ?_, .inr ?_, fun hcl => ?_⟩
    · rw [bv_set hb.1 hl _ _ h0] at h
      split at h
      · rename_i e; rw [e]; exact hrc
      · exact x.snd i h0 h1 h
    · rw [bv_set hb.1 hl _ _ hp]; split
      · rfl
      · exact x.has
    · rcases x.or with ⟨e, _⟩ | h
      · subst e; omega
      · omega
    · have e := x.closed hcl
      subst e
      exact absurd (hcl c hc ht) hq
/-! ### Names -/
def lowB (b : UInt8) : Bool := decide (97 ≤ b.toNat) && decide (b.toNat ≤ 122)
def isName (s : ByteArray) : Bool := decide (1 ≤ s.size) && decide (s.size ≤ 8) && s.data.toList.all lowB
/-! ### Programs -/
def rulesErr (l : List Prd) : List Rul → Int
  | [] => 0
  | r :: rs => if checkRule l r ≠ 0 then checkRule l r else rulesErr l rs
theorem rulesErr_zero {l : List Prd} {rs : List Rul} : rulesErr l rs = 0 ↔ ∀ r ∈ rs, checkRule l r = 0 := by
  induction rs with
  | nil => simp [rulesErr]
  | cons x r ih =>
    simp only [rulesErr, List.mem_cons, forall_eq_or_imp]
    by_cases h : checkRule l x = 0
    · simp [h, ih]
    · simp [h]
theorem rulesErr_at {l : List Prd} {b : List Rul} {k : Nat} (hk : k < b.length) (h1 : ∀ j, j < k → ∀ hj' : j < b.length, checkRule l b[j] = 0) (h2 : checkRule l b[k] ≠ 0) : rulesErr l b = checkRule l b[k] := by
  induction b generalizing k with
  | nil => simp at hk
  | cons x r ih =>
    cases k with
    | zero => simp only [List.getElem_cons_zero] at h2 ⊢; simp [rulesErr, h2]
    | succ k =>
      have h0 := h1 0 (by omega) (by simp)
      simp only [List.getElem_cons_zero] at h0
      simp only [rulesErr, h0, List.getElem_cons_succ]
      simp only [List.getElem_cons_succ] at h2
      exact ih (by simpa using hk) (fun j _ hj' => by have := h1 (j + 1) (by omega) (by simpa using hj'); simpa using this) h2
/-- Does a name stand there twice? -/
def early (l : List Prd) (k : Nat) : Bool := (l.take k).any fun y => decide (y.name = (l.getD k default).name)
def twice (l : List Prd) : Bool := (List.range l.length).any (early l)
def badArity (x : Prd) : Bool := decide (x.arity < 0 ∨ 2 < x.arity)
def badKind (x : Prd) : Bool := decide (x.kind < 0 ∨ 3 < x.kind)
open Classical in
noncomputable def checkProg (p : Prg) : Int :=
  if 5 < p.preds.xs.length ∨ 8 < p.rules.xs.length then 2
  else if p.preds.xs.any (fun x => !isName x.name) then 5
  else if twice p.preds.xs then 6
  else if p.preds.xs.any badArity then 3
  else if p.preds.xs.any badKind then 4
  else if rulesErr p.preds.xs p.rules.xs ≠ 0 then rulesErr p.preds.xs p.rules.xs
  else if ∃ M, Sol (usesL p.rules.xs) p.preds.xs.length M then 0 else 8
theorem checkRule_ok {l : List Prd} {r : Rul} (h : checkRule l r = 0) : checkAtom l r.head = 0 ∧ r.body.xs.length ≤ 3 ∧ ∀ x ∈ r.body.xs, checkAtom l x.atom = 0 := by
  unfold checkRule at h
  split at h
  · rename_i h1; exact absurd h h1
  split at h
  · cases h
  split at h
  · rename_i h1; exact absurd h h1
  rename_i h1 h2 h3
  exact ⟨Decidable.not_not.1 h1, by omega, bodyErr_ne.1 (Decidable.not_not.1 h3)⟩
theorem checkAtom_in' {l : List Prd} {a : Atm} (h : checkAtom l a = 0) : 0 ≤ a.pred ∧ a.pred < l.length := by
  unfold checkAtom at h
  split at h
  · cases h
  · omega
theorem inR_of {l : List Prd} {rs : List Rul} (h : rulesErr l rs = 0) : InR (usesL rs) l.length := by
  have key : ∀ c ∈ usesL rs, ∃ r ∈ rs, ∃ x ∈ r.body.xs, c = (r.head.pred, x) := fun c hc => by
    unfold usesL at hc
    obtain ⟨r, hr, hc⟩ := List.mem_flatMap.1 hc
    obtain ⟨x, hx, rfl⟩ := List.mem_map.1 hc
    exact ⟨r, hr, x, hx, rfl⟩
  refine ⟨fun c hc => ?_, fun c hc => ?_⟩ <;> obtain ⟨r, hr, x, hx, rfl⟩ := key c hc <;> have h1 := checkRule_ok (rulesErr_zero.1 h r hr)
  · exact checkAtom_in' h1.1
  · exact checkAtom_in' (h1.2.2 x hx)
theorem checkProg_ok {p : Prg} (h : checkProg p = 0) : p.preds.xs.length ≤ 5 ∧ p.rules.xs.length ≤ 8 ∧ rulesErr p.preds.xs p.rules.xs = 0 ∧ ∃ M, Sol (usesL p.rules.xs) p.preds.xs.length M := by
  unfold checkProg at h
  split at h
  · cases h
  split at h
  · cases h
  split at h
  · cases h
  split at h
  · cases h
  split at h
  · cases h
  split at h
  · rename_i h1; exact absurd h h1
  split at h
  · rename_i h1 _ _ _ _ h2 h3
    exact ⟨by omega, by omega, Decidable.not_not.1 h2, h3⟩
  · cases h
def Prg.Nm (p : Prg) : Prop := ∀ x ∈ p.preds.xs, x.name.size ≤ 140737488355328
end Go.TF
end
section
/- What a rule that is used tells; the steps that hold, and how facts are laid to literals: plain. -/
namespace Go.TF
open Go

structure VsOk (x : Vrs) : Prop where
  h0 : 0 ≤ x.x0 ∧ x.x0 ≤ 4
  h1 : 0 ≤ x.x1 ∧ x.x1 ≤ 4
  h2 : 0 ≤ x.x2 ∧ x.x2 ≤ 4
theorem VsOk.at {x : Vrs} (h : VsOk x) (v : Int) : 0 ≤ x.at v ∧ x.at v ≤ 4 := by
  unfold Vrs.at; (repeat' split) <;> first | exact h.h0 | exact h.h1 | exact h.h2
/-- A rule of a right program. -/
structure ROk (l : List Prd) (r : Rul) : Prop where
  five : l.length ≤ 5
  preds : ∀ p ∈ l, predFine p = true
  head : checkAtom l r.head = 0
  len : r.body.xs.length ≤ 3
  body : ∀ x ∈ r.body.xs, checkAtom l x.atom = 0
  free : ∀ v, v = 0 ∨ v = 1 ∨ v = 2 → freeVar r v = false
  src : -1 ≤ r.src ∧ r.src < r.body.xs.length
  pos : 0 ≤ r.src → (litOf r r.src).neg = false ∧ (predOf l (litOf r r.src).atom.pred).kind = (predOf l r.head.pred).kind
  n : 0 ≤ r.n ∧ r.n ≤ 15
  plain : (predOf l r.head.pred).kind = 0 → r.src = -1 ∧ r.n = 0
theorem rok_of {l : List Prd} {r : Rul} (h5 : l.length ≤ 5) (hp : ∀ p ∈ l, predFine p = true) (h : checkRule l r = 0) : ROk l r := by
  unfold checkRule at h
  split at h
  · rename_i h1; exact absurd h h1
  split at h
  · cases h
  split at h
  · rename_i h1 h2 h3; exact absurd h h3
  split at h
  · cases h
  split at h
  · cases h
  split at h
  · cases h
  split at h
  · cases h
  split at h
  · cases h
  rename_i h1 h2 h3 h4 h5' h6 h7 h8
  simp only [Bool.or_eq_true, not_or, Bool.not_eq_true] at h4
  refine ⟨h5, hp, Decidable.not_not.1 h1, by omega, bodyErr_ne.1 (Decidable.not_not.1 h3), fun v hv => ?_, by omega, fun h0 => ?_, by omega, fun hk => ?_⟩
  · rcases hv with rfl | rfl | rfl
    · exact h4.1.1
    · exact h4.1.2
    · exact h4.2
  · have : ¬ ((litOf r r.src).neg = true ∨ (predOf l (litOf r r.src).atom.pred).kind ≠ (predOf l r.head.pred).kind) := fun hh => h7 ⟨h0, hh⟩
    rw [not_or, Bool.not_eq_true, Decidable.not_not] at this
    exact this
  · have : ¬ (r.src ≠ -1 ∨ r.n ≠ 0) := fun hh => h6 ⟨hk, hh⟩
    omega
structure AOk (l : List Prd) (a : Atm) : Prop where
  pred : 0 ≤ a.pred ∧ a.pred < l.length
  len : a.args.xs.length ≤ 2
  err : argsErr a.args.xs = 0
  arity : (a.args.xs.length : Int) = (predOf l a.pred).arity
theorem predOf_mem {l : List Prd} {p : Int} (h : 0 ≤ p ∧ p < l.length) : predOf l p ∈ l := List.mem_of_getElem? (predOf_get h.1 h.2)
theorem aok_of {l : List Prd} {a : Atm} (hp : ∀ p ∈ l, predFine p = true) (h : checkAtom l a = 0) : AOk l a := by
  unfold checkAtom at h
  split at h
  · cases h
  split at h
  · cases h
  rename_i h1 h2
  have hpr : 0 ≤ a.pred ∧ a.pred < l.length := by omega
  have := hp _ (predOf_mem hpr)
  simp only [predFine, decide_eq_true_eq] at this
  exact ⟨hpr, by omega, h, by omega⟩
theorem AOk.arg {l : List Prd} {a : Atm} (h : AOk l a) {x : Vrs} (hx : VsOk x) (i : Nat) : 0 ≤ argv a x i ∧ argv a x i ≤ 4 := by
  by_cases hi : i < a.args.xs.length
  · rw [argv_get hi]
    unfold tv
    split
    · exact hx.at _
    · rename_i hv
      exact argsErr_con h.err (List.getElem_mem hi) (by simpa using hv)
  · rw [argv_none (by omega)]; omega
theorem AOk.pf {l : List Prd} {a : Atm} (h5 : l.length ≤ 5) (h : AOk l a) {x : Vrs} (hx : VsOk x) (v : Int) : PF ⟨a.pred, argv a x 0, argv a x 1, v⟩ :=
  ⟨h.pred.1, by have := h.pred.2; show a.pred ≤ 4; omega, (h.arg hx 0).1, (h.arg hx 0).2, (h.arg hx 1).1, (h.arg hx 1).2⟩
theorem AOk.var {l : List Prd} {a : Atm} (h : AOk l a) {t : Trm} (ht : t ∈ a.args.xs) (hv : t.var = true) : 0 ≤ t.n ∧ t.n < 3 := argsErr_var h.err ht hv
/-! ### Steps -/
def ltV (x y : Vrs) : Prop := x.x0 < y.x0 ∨ x.x0 = y.x0 ∧ (x.x1 < y.x1 ∨ x.x1 = y.x1 ∧ x.x2 < y.x2)
instance (x y : Vrs) : Decidable (ltV x y) := inferInstanceAs (Decidable (_ ∨ _))
/-! ### Facts laid to literals -/
def Vrs.set (b : Vrs) (v n : Int) : Vrs := if v = 0 then ⟨n, b.x1, b.x2⟩ else if v = 1 then ⟨b.x0, n, b.x2⟩ else ⟨b.x0, b.x1, n⟩
def cantF (b : Vrs) (t : Trm) (n : Int) : Prop := (t.var = false ∧ t.n ≠ n) ∨ (t.var = true ∧ 0 ≤ b.at t.n ∧ b.at t.n ≠ n)
instance (b : Vrs) (t : Trm) (n : Int) : Decidable (cantF b t n) := inferInstanceAs (Decidable (_ ∨ _))
def b0 : Vrs := ⟨-1, -1, -1⟩
end Go.TF
end
section
/- Facts on the types of this program, one row each, made by program. -/
namespace Go.TF
open Go Go.RowKit Go.Proofs
theorem mixed : Tryz.prog.follows .mixedOrders = true := by kernel_rfl
theorem ty_3 : Ty Tryz.prog 3 1 false := ⟨Tryz.sizeOf3, Tryz.isAgg3, by decide⟩
theorem ty_4 : Ty Tryz.prog 4 1 false := ⟨Tryz.sizeOf4, Tryz.isAgg4, by decide⟩
theorem ty_9 : Ty Tryz.prog 9 1 false := ⟨Tryz.sizeOf9, Tryz.isAgg9, by decide⟩
theorem ty_22 : Ty Tryz.prog 22 1 false := ⟨Tryz.sizeOf22, Tryz.isAgg22, by decide⟩
theorem ty_23 : Ty Tryz.prog 23 1 false := ⟨Tryz.sizeOf23, Tryz.isAgg23, by decide⟩
theorem ty_25 : Ty Tryz.prog 25 2 true := ⟨Tryz.sizeOf25, Tryz.isAgg25, by decide⟩
theorem fa_25_0 : FA Tryz.prog 25 0 0 := fun a w => by simp [Instr.fieldAt, Tryz.runUnderlying25, Instr.sureAddr, fieldPlace, Tryz.sizeOf22]
theorem fa_25_1 : FA Tryz.prog 25 1 1 := fun a w => by simp [Instr.fieldAt, Tryz.runUnderlying25, Instr.sureAddr, fieldPlace, Tryz.sizeOf23]
theorem pl_25 : Pl Tryz.prog 25 [(0, 1), (1, 1)] := ⟨_, Tryz.underlying25, fun w => by simp [Tryz.sizeOf22, Tryz.sizeOf23]⟩
theorem ty_26 : Ty Tryz.prog 26 1 false := ⟨Tryz.sizeOf26, Tryz.isAgg26, by decide⟩
theorem ty_49 : Ty Tryz.prog 49 1 false := ⟨Tryz.sizeOf49, Tryz.isAgg49, by decide⟩
theorem fa_51_1 : FA Tryz.prog 51 1 1 := fun a w => by simp [Instr.fieldAt, Tryz.runUnderlying51, Instr.sureAddr, fieldPlace, Tryz.sizeOf49]
theorem ty_53 : Ty Tryz.prog 53 3 true := ⟨Tryz.sizeOf53, Tryz.isAgg53, by decide⟩
theorem fa_53_0 : FA Tryz.prog 53 0 0 := fun a w => by simp [Instr.fieldAt, Tryz.runUnderlying53, Instr.sureAddr, fieldPlace, Tryz.sizeOf9]
theorem fa_53_1 : FA Tryz.prog 53 1 1 := fun a w => by simp [Instr.fieldAt, Tryz.runUnderlying53, Instr.sureAddr, fieldPlace, Tryz.sizeOf3]
theorem fa_53_2 : FA Tryz.prog 53 2 2 := fun a w => by simp [Instr.fieldAt, Tryz.runUnderlying53, Instr.sureAddr, fieldPlace, Tryz.sizeOf3]
theorem pl_53 : Pl Tryz.prog 53 [(0, 1), (1, 1), (2, 1)] := ⟨_, Tryz.underlying53, fun w => by simp [Tryz.sizeOf3, Tryz.sizeOf9]⟩
theorem ty_59 : Ty Tryz.prog 59 1 false := ⟨Tryz.sizeOf59, Tryz.isAgg59, by decide⟩
theorem ty_61 : Ty Tryz.prog 61 2 true := ⟨Tryz.sizeOf61, Tryz.isAgg61, by decide⟩
theorem fa_61_0 : FA Tryz.prog 61 0 0 := fun a w => by simp [Instr.fieldAt, Tryz.runUnderlying61, Instr.sureAddr, fieldPlace, Tryz.sizeOf3]
theorem fa_61_1 : FA Tryz.prog 61 1 1 := fun a w => by simp [Instr.fieldAt, Tryz.runUnderlying61, Instr.sureAddr, fieldPlace, Tryz.sizeOf59]
theorem pl_61 : Pl Tryz.prog 61 [(0, 1), (1, 1)] := ⟨_, Tryz.underlying61, fun w => by simp [Tryz.sizeOf3, Tryz.sizeOf59]⟩
theorem ty_62 : Ty Tryz.prog 62 1 false := ⟨Tryz.sizeOf62, Tryz.isAgg62, by decide⟩
theorem ty_64 : Ty Tryz.prog 64 5 true := ⟨Tryz.sizeOf64, Tryz.isAgg64, by decide⟩
theorem fa_64_0 : FA Tryz.prog 64 0 0 := fun a w => by simp [Instr.fieldAt, Tryz.runUnderlying64, Instr.sureAddr, fieldPlace, Tryz.sizeOf61]
theorem fa_64_1 : FA Tryz.prog 64 1 2 := fun a w => by simp [Instr.fieldAt, Tryz.runUnderlying64, Instr.sureAddr, fieldPlace, Tryz.sizeOf3]
theorem fa_64_2 : FA Tryz.prog 64 2 3 := fun a w => by simp [Instr.fieldAt, Tryz.runUnderlying64, Instr.sureAddr, fieldPlace, Tryz.sizeOf3]
theorem fa_64_3 : FA Tryz.prog 64 3 4 := fun a w => by simp [Instr.fieldAt, Tryz.runUnderlying64, Instr.sureAddr, fieldPlace, Tryz.sizeOf62]
theorem pl_64 : Pl Tryz.prog 64 [(0, 2), (2, 1), (3, 1), (4, 1)] := ⟨_, Tryz.underlying64, fun w => by simp [Tryz.sizeOf3, Tryz.sizeOf61, Tryz.sizeOf62]⟩
theorem ty_68 : Ty Tryz.prog 68 3 true := ⟨Tryz.sizeOf68, Tryz.isAgg68, by decide⟩
theorem fa_68_0 : FA Tryz.prog 68 0 0 := fun a w => by simp [Instr.fieldAt, Tryz.runUnderlying68, Instr.sureAddr, fieldPlace, Tryz.sizeOf4]
theorem fa_68_1 : FA Tryz.prog 68 1 1 := fun a w => by simp [Instr.fieldAt, Tryz.runUnderlying68, Instr.sureAddr, fieldPlace, Tryz.sizeOf61]
theorem pl_68 : Pl Tryz.prog 68 [(0, 1), (1, 2)] := ⟨_, Tryz.underlying68, fun w => by simp [Tryz.sizeOf4, Tryz.sizeOf61]⟩
theorem ty_78 : Ty Tryz.prog 78 1 false := ⟨Tryz.sizeOf78, Tryz.isAgg78, by decide⟩
theorem ty_83 : Ty Tryz.prog 83 4 true := ⟨Tryz.sizeOf83, Tryz.isAgg83, by decide⟩
theorem fa_83_0 : FA Tryz.prog 83 0 0 := fun a w => by simp [Instr.fieldAt, Tryz.runUnderlying83, Instr.sureAddr, fieldPlace, Tryz.sizeOf3]
theorem fa_83_1 : FA Tryz.prog 83 1 1 := fun a w => by simp [Instr.fieldAt, Tryz.runUnderlying83, Instr.sureAddr, fieldPlace, Tryz.sizeOf3]
theorem fa_83_2 : FA Tryz.prog 83 2 2 := fun a w => by simp [Instr.fieldAt, Tryz.runUnderlying83, Instr.sureAddr, fieldPlace, Tryz.sizeOf3]
theorem fa_83_3 : FA Tryz.prog 83 3 3 := fun a w => by simp [Instr.fieldAt, Tryz.runUnderlying83, Instr.sureAddr, fieldPlace, Tryz.sizeOf3]
theorem pl_83 : Pl Tryz.prog 83 [(0, 1), (1, 1), (2, 1), (3, 1)] := ⟨_, Tryz.underlying83, fun w => by simp [Tryz.sizeOf3]⟩
theorem ty_107 : Ty Tryz.prog 107 1 false := ⟨Tryz.sizeOf107, Tryz.isAgg107, by decide⟩
theorem ty_109 : Ty Tryz.prog 109 2 true := ⟨Tryz.sizeOf109, Tryz.isAgg109, by decide⟩
theorem fa_109_0 : FA Tryz.prog 109 0 0 := fun a w => by simp [Instr.fieldAt, Tryz.runUnderlying109, Instr.sureAddr, fieldPlace, Tryz.sizeOf4]
theorem fa_109_1 : FA Tryz.prog 109 1 1 := fun a w => by simp [Instr.fieldAt, Tryz.runUnderlying109, Instr.sureAddr, fieldPlace, Tryz.sizeOf3]
theorem pl_109 : Pl Tryz.prog 109 [(0, 1), (1, 1)] := ⟨_, Tryz.underlying109, fun w => by simp [Tryz.sizeOf3, Tryz.sizeOf4]⟩
theorem pl_119 : Pl Tryz.prog 119 [] := ⟨_, Tryz.underlying119, fun w => by simp []⟩
theorem eq_53 (a0 : ByteArray) (a1 : Int) (a2 : Int) (b0 : ByteArray) (b1 : Int) (b2 : Int) (w : World) : (Op.equalIn 10000 53 (.agg #[.string a0, .int .i64 a1, .int .i64 a2]) (.agg #[.string b0, .int .i64 b1, .int .i64 b2])).run Tryz.prog w = .ok ((a0.toList == b0.toList) && ((a1 == b1) && ((a2 == b2) && true))) w := by
  rw [show 10000 = 9998 + 1 + 1 from rfl, run_equalIn_struct w _ 53 _ _ (by simp only [Program.fieldsOf, Tryz.underlying53]) Tryz.stoodInHeld53]
  simp only [Program.fieldsOf, Tryz.underlying53, Op.eqFields]
  have p : ∀ T, (∀ w, (isAgg T).run Tryz.prog w = .ok false w) → ∀ (cs : Array Value) (o : Nat) v, cs[o]? = some v → (Go.part T cs o).run Tryz.prog w = .ok v w := fun T h cs o v hv => part_leaf h hv w
  cases h0 : (a0.toList == b0.toList) <;> cases h1 : (a1 == b1) <;> cases h2 : (a2 == b2) <;> simp [p 3 Tryz.isAgg3, p 9 Tryz.isAgg9, run_equalIn_int w _ 3 .i64 .i64 _ _ Tryz.underlying3, run_equalIn_string w _ 9 _ _ Tryz.underlying9, h0, h1, h2]
theorem eq_109 (a0 : Bool) (a1 : Int) (b0 : Bool) (b1 : Int) (w : World) : (Op.equalIn 10000 109 (.agg #[.bool a0, .int .i64 a1]) (.agg #[.bool b0, .int .i64 b1])).run Tryz.prog w = .ok ((a0 == b0) && ((a1 == b1) && true)) w := by
  rw [show 10000 = 9998 + 1 + 1 from rfl, run_equalIn_struct w _ 109 _ _ (by simp only [Program.fieldsOf, Tryz.underlying109]) Tryz.stoodInHeld109]
  simp only [Program.fieldsOf, Tryz.underlying109, Op.eqFields]
  have p : ∀ T, (∀ w, (isAgg T).run Tryz.prog w = .ok false w) → ∀ (cs : Array Value) (o : Nat) v, cs[o]? = some v → (Go.part T cs o).run Tryz.prog w = .ok v w := fun T h cs o v hv => part_leaf h hv w
  cases h0 : (a0 == b0) <;> cases h1 : (a1 == b1) <;> simp [p 3 Tryz.isAgg3, p 4 Tryz.isAgg4, run_equalIn_bool' w _ 4 _ _ Tryz.underlying4, run_equalIn_int w _ 3 .i64 .i64 _ _ Tryz.underlying3, h0, h1]
theorem et_3 : ElT Tryz.prog 3 1 8 (.int .i64 0) := ⟨by kernel_rfl, rfl, by decide⟩
theorem et_9 : ElT Tryz.prog 9 1 16 (.string ByteArray.empty) := ⟨by kernel_rfl, rfl, by decide⟩
theorem et_53 : ElT Tryz.prog 53 3 32 (.agg #[.string ByteArray.empty, .int .i64 0, .int .i64 0]) := ⟨by kernel_rfl, rfl, by decide⟩
theorem et_61 : ElT Tryz.prog 61 2 32 (.agg #[.int .i64 0, .slice none 0 0]) := ⟨by kernel_rfl, rfl, by decide⟩
theorem et_64 : ElT Tryz.prog 64 5 72 (.agg #[.int .i64 0, .slice none 0 0, .int .i64 0, .int .i64 0, .slice none 0 0]) := ⟨by kernel_rfl, rfl, by decide⟩
theorem et_68 : ElT Tryz.prog 68 3 40 (.agg #[.bool false, .int .i64 0, .slice none 0 0]) := ⟨by kernel_rfl, rfl, by decide⟩
theorem et_109 : ElT Tryz.prog 109 2 16 (.agg #[.bool false, .int .i64 0]) := ⟨by kernel_rfl, rfl, by decide⟩
end Go.TF
end
section
/- Digits, and the text of an atom, of a program, as the document says: walked. -/
namespace Go.TF
open Go Go.RowKit Go.Proofs
set_option maxRecDepth 20000

def digT (n : Nat) : ByteArray := if n < 10 then chT (48 + (n % 10 : Nat)) else chT (48 + (n / 10 % 10 : Nat)) ++ chT (48 + (n % 10 : Nat))
theorem digT_size (n : Nat) : (digT n).size ≤ 2 := by
  unfold digT
  split
  · rw [chT_size]; omega
  · rw [ByteArray.size_append, chT_size, chT_size]; omega
theorem tmod10 (n : Nat) : (n : Int).tmod 10 = (n % 10 : Nat) := by
  rw [Int.tmod_eq_emod_of_nonneg (by omega)]; omega
theorem tdiv10 (n : Nat) : (n : Int).tdiv 10 = (n / 10 : Nat) := by
  rw [Int.tdiv_eq_ediv_of_nonneg (by omega)]; omega
theorem Digit1_ok (B : Base) (hB : B.ok) (n : Nat) (hn : n < 10) : Fn Tryz.prog 45 [.int .i64 n] B (fun v _ => v = .string (digT n)) := by
  have e10 := tmod10 n
  obtain ⟨c, hc⟩ : ∃ c : UInt8, c = UInt8.ofNat (48 + ((n % 10 : Nat) : Int)).toNat := ⟨_, rfl⟩
  have hb : (c.toNat : Int) = 48 + ((n % 10 : Nat) : Int) := by rw [hc]; exact ch_byte (by omega) (by omega)
  have hd : digT n = ⟨#[c]⟩ := by unfold digT chT; rw [if_pos hn, hc]
  refine Fn.of Tryz.func45 rfl Tryz.ntmps45 (by kernel_rfl) (by simp) ?_
  intro e
  have I := Inv.start hB
  refine WP.seq ?_
  refine WP.region ?_
  refine Ops.y (v := .string _) (Y.assign rfl) ?_
  refine Ops.nil ?_
  refine WP.seq ?_
  refine WP.region ?_
  refine Ops.y (v := .int .i64 _) (Y.move rfl) ?_
  refine Ops.y (v := .int .i64 _) (Y.remi rfl rfl (by omega)) ?_
  refine Ops.y (v := .int .i64 _) (Y.addi rfl rfl ⟨by omega, by omega⟩) ?_
  refine Ops.y (v := .int .u8 (c.toNat : Int)) ((Y.conv (by rw [Tryz.underlying3]; rfl) Tryz.underlying5 (wrap_u8 (by omega) (by omega)) rfl).is (by rw [hb, e10])) ?_
  refine Ops.go (O.mksl (xs := [c]) (enc := bEn8) I Tryz.underlying49 Tryz.sizeOf5 Tryz.zeroValue5 rfl (Nat.le_of_ble_eq_true rfl) rfl rfl (by decide) (fun _ => rfl) ?_)
  intro b8 h8 w I le8 sl8
  refine Ops.y (v := .string _) (Y.b2s1 I Tryz.underlying49 Tryz.underlying5 Tryz.underlying9 rfl sl8) ?_
  refine Ops.y (v := .string _) (Y.assign rfl) ?_
  refine Ops.nil ?_
  refine WP.seq ?_
  refine WP.seq ?_
  refine WP.region ?_
  refine Ops.y (v := .int .i64 _) (Y.move rfl) ?_
  refine Ops.y (v := .bool true) (Y.dec_t (Y.lti rfl rfl) ((by omega))) ?_
  refine Ops.nil ?_
  refine WP.cond_t rfl ?_
  refine WP.seq ?_
  refine WP.region ?_
  refine Ops.y (v := .string _) (Y.move rfl) ?_
  refine Ops.y (v := .string _) (Y.assign rfl) ?_
  refine Ops.nil ?_
  refine WP.ret ?_
  repeat (first | refine thenE_ret ?_ | refine blockE_ret ?_)
  exact retQ.mk (vs := [.string _]) rfl ⟨rfl, trivial⟩ I.ext_of (by rw [hd]; rfl)
theorem Digits_ok (B : Base) (hB : B.ok) (n : Nat) (hn : n < 100) : Fn Tryz.prog 45 [.int .i64 n] B (fun v _ => v = .string (digT n)) := by
  by_cases h10 : n < 10
  · exact Digit1_ok B hB n h10
  have e10 := tmod10 n
  have ed := tdiv10 n
  obtain ⟨c, hc⟩ : ∃ c : UInt8, c = UInt8.ofNat (48 + ((n % 10 : Nat) : Int)).toNat := ⟨_, rfl⟩
  have hb : (c.toNat : Int) = 48 + ((n % 10 : Nat) : Int) := by rw [hc]; exact ch_byte (by omega) (by omega)
  have hd : digT n = digT (n / 10) ++ ⟨#[c]⟩ := by
    have : digT (n / 10) = chT (48 + (n / 10 % 10 : Nat)) := by unfold digT; rw [if_pos (by omega)]
    rw [this]
    unfold digT
    rw [if_neg h10, hc]; rfl
  have hs := digT_size (n / 10)
  refine Fn.of Tryz.func45 rfl Tryz.ntmps45 (by kernel_rfl) (by simp) ?_
  intro e
  have I := Inv.start hB
  refine WP.seq ?_
  refine WP.region ?_
  refine Ops.y (v := .string _) (Y.assign rfl) ?_
  refine Ops.nil ?_
  refine WP.seq ?_
  refine WP.region ?_
  refine Ops.y (v := .int .i64 _) (Y.move rfl) ?_
  refine Ops.y (v := .int .i64 _) (Y.remi rfl rfl (by omega)) ?_
  refine Ops.y (v := .int .i64 _) (Y.addi rfl rfl ⟨by omega, by omega⟩) ?_
  refine Ops.y (v := .int .u8 (c.toNat : Int)) ((Y.conv (by rw [Tryz.underlying3]; rfl) Tryz.underlying5 (wrap_u8 (by omega) (by omega)) rfl).is (by rw [hb, e10])) ?_
  refine Ops.go (O.mksl (xs := [c]) (enc := bEn8) I Tryz.underlying49 Tryz.sizeOf5 Tryz.zeroValue5 rfl (Nat.le_of_ble_eq_true rfl) rfl rfl (by decide) (fun _ => rfl) ?_)
  intro b8 h8 w I le8 sl8
  refine Ops.y (v := .string _) (Y.b2s1 I Tryz.underlying49 Tryz.underlying5 Tryz.underlying9 rfl sl8) ?_
  refine Ops.y (v := .string _) (Y.assign rfl) ?_
  refine Ops.nil ?_
  refine WP.seq ?_
  refine WP.seq ?_
  refine WP.region ?_
  refine Ops.y (v := .int .i64 _) (Y.move rfl) ?_
  refine Ops.y (v := .bool false) (Y.dec_f (Y.lti rfl rfl) ((by omega))) ?_
  refine Ops.nil ?_
  refine WP.cond_f rfl ?_
  refine WP.skip ?_
  refine WP.seq ?_
  refine WP.region ?_
  refine Ops.y (v := .int .i64 _) (Y.move rfl) ?_
  refine Ops.y (v := .int .i64 _) (Y.quoi rfl rfl (by decide) ⟨by omega, by omega⟩) ?_
  refine Ops.go (O.callv I Tryz.call45 (ed ▸ Digit1_ok _ I.base_ok (n / 10) (by omega)) rfl ?_)
  intro w I
  refine Ops.y (v := .string _) (Y.move rfl) ?_
  refine Ops.y (v := .string _) (Y.adds rfl rfl (by show (digT (n / 10)).size + 1 ≤ _; omega)) ?_
  refine Ops.y (v := .string _) (Y.assign rfl) ?_
  refine Ops.nil ?_
  refine WP.ret ?_
  repeat (first | refine thenE_ret ?_ | refine blockE_ret ?_)
  exact retQ.mk (vs := [.string _]) rfl ⟨rfl, trivial⟩ I.ext_of (by rw [hd]; rfl)
/-! ### An atom -/
def termT (t : Trm) : ByteArray := if t.var = true then chT (65 + t.n) else digT t.n.toNat
def atomK (l : List Prd) (a : Atm) : Nat → ByteArray
  | 0 => (predOf l a.pred).name
  | k + 1 => (atomK l a k ++ (if k = 0 then ⟨#[40]⟩ else ⟨#[44]⟩)) ++ termT (a.args.xs.getD k default)
def atomT (l : List Prd) (a : Atm) : ByteArray := if 0 < a.args.xs.length then atomK l a a.args.xs.length ++ ⟨#[41]⟩ else atomK l a a.args.xs.length
theorem termT_size (t : Trm) : (termT t).size ≤ 2 := by
  unfold termT
  split
  · rw [chT_size]; omega
  · exact digT_size _
theorem atomK_size {l : List Prd} {a : Atm} : ∀ k, (atomK l a k).size ≤ (predOf l a.pred).name.size + 3 * k
  | 0 => Nat.le_refl _
  | k + 1 => by
    have ih := atomK_size (l := l) (a := a) k
    have h2 := termT_size (a.args.xs.getD k default)
    rw [atomK, ByteArray.size_append, ByteArray.size_append]
    split
    · have : ByteArray.size ⟨#[40]⟩ = 1 := rfl
      omega
    · have : ByteArray.size ⟨#[44]⟩ = 1 := rfl
      omega
theorem atomT_size {l : List Prd} {a : Atm} (h : a.args.xs.length ≤ 2) : (atomT l a).size ≤ (predOf l a.pred).name.size + 7 := by
  have := atomK_size (l := l) (a := a) a.args.xs.length
  unfold atomT
  split
  · rw [ByteArray.size_append]
    have : ByteArray.size ⟨#[41]⟩ = 1 := rfl
    omega
  · omega
set_option maxHeartbeats 4000000 in
theorem AtomText_ok (B : Base) (hB : B.ok) (l : Sl Prd) (hl : Prds l B.h) (a : Atm) (ha : a.In B.h) (ao : AOk l.xs a) (hnm : (predOf l.xs a.pred).name.size ≤ 140737488355328) : Fn Tryz.prog 46 [l.val, a.val] B (fun v _ => v = .string (atomT l.xs a)) := by
  have h2 := ao.len
  have Ep := hl.el.el (predOf_get ao.pred.1 ao.pred.2)
  refine Fn.of Tryz.func46 rfl Tryz.ntmps46 (by kernel_rfl) (by simp) ?_
  intro e
  have I := Inv.start hB
  refine WP.seq ?_
  refine WP.region ?_
  refine Ops.go (O.box (v := .agg #[_, _]) I rfl rfl ?_)
  intro b3 w I
  refine Ops.y (v := .string _) (Y.assign rfl) ?_
  refine Ops.nil ?_
  refine WP.seq ?_
  refine WP.region ?_
  refine Ops.y (v := .slice _ _ _) (Y.move rfl) ?_
  refine Ops.y (v := .pointer (some ⟨_, _, none⟩)) (Y.fa0 fa_61_0 rfl) ?_
  refine Ops.y (v := .int .i64 _) (Y.loadv ty_3 rfl (I.rdbox 0 rfl 0 1) rfl rfl) ?_
  refine Ops.y (v := .pointer (some ⟨_, _, none⟩)) (Y.idxEl Ep Tryz.underlying22 Tryz.sizeOf53 rfl rfl ao.pred.1 rfl) ?_
  refine Ops.y (v := .pointer (some ⟨_, _, none⟩)) (Y.fa0 fa_53_0 rfl) ?_
  refine Ops.y (v := .string _) (Y.loadv ty_9 rfl (I.rd (Ep.rd.part 0 1)) rfl rfl) ?_
  refine Ops.y (v := .string _) (Y.assign rfl) ?_
  refine Ops.nil ?_
  refine WP.seq ?_
  refine WP.seq ?_
  refine WP.region ?_
  refine Ops.y (v := .int .i64 _) (Y.assign rfl) ?_
  refine Ops.nil ?_
  refine WP.block ?_
  refine WP.loopE (σ := Nat × Heap) (fun s => [(0, l.val), (3, .pointer (some ⟨b3, 0, none⟩)), (5, .string (atomK l.xs a s.1)), (6, .int .i64 s.1)])
    (fun s w => Inv B s.2 [box b3 a.enc 61] w ∧ s.1 ≤ a.args.xs.length ∧ B.h.le s.2) (fun s => a.args.xs.length - s.1)
    ⟨(0, B.h), ⟨rfl, rfl, rfl, rfl, trivial⟩, I, Nat.zero_le _, Heap.le.refl _⟩ ?_
  rintro ⟨k, hh⟩ e w ⟨I, hk, gl⟩
  dsimp only at I hk gl ⊢
  have hks := atomK_size (l := l.xs) (a := a) k
  refine WP.seq ?_
  refine WP.seq ?_
  refine WP.region ?_
  refine Ops.y (v := .int .i64 _) (Y.move rfl) ?_
  refine Ops.y (v := .pointer (some ⟨_, _, none⟩)) (Y.fa fa_61_1 rfl) ?_
  refine Ops.y (v := .slice _ _ _) (Y.loadv ty_59 rfl (I.rdbox 0 rfl 1 1) rfl rfl) ?_
  refine Ops.y (v := .int .i64 _) (Y.lens Tryz.underlying59 rfl) ?_
  refine Ops.y (v := .bool (decide _)) (Y.lti rfl rfl) ?_
  refine Ops.nil ?_
  refine WP.cond_dec rfl (fun h3 => ?_) (fun h3 => ?_)
  · have hk' : k < a.args.xs.length := by omega
    have E := Sl.Is.at (Atm.In.le ha gl) hk'
    obtain ⟨t, ht⟩ : ∃ t, a.args.xs[k] = t := ⟨_, rfl⟩
    have htm : t ∈ a.args.xs := ht ▸ List.getElem_mem hk'
    have hgd : a.args.xs.getD k default = t := by rw [List.getD_eq_getElem?_getD, List.getElem?_eq_getElem hk', ht]; rfl
    rw [ht] at E
    obtain ⟨sep, hsep⟩ : ∃ sep : ByteArray, sep = if k = 0 then ⟨#[40]⟩ else ⟨#[44]⟩ := ⟨_, rfl⟩
    have hss : sep.size = 1 := by rw [hsep]; split <;> rfl
    have hnx : atomK l.xs a (k + 1) = (atomK l.xs a k ++ sep) ++ termT t := by rw [atomK, hgd, hsep]
    refine WP.skip ?_
    refine WP.seq ?_
    refine WP.block ?_
    refine WP.seq ?_
    refine WP.seq ?_
    refine WP.region ?_
    refine Ops.y (v := .int .i64 _) (Y.move rfl) ?_
    refine Ops.y (v := .bool (decide _)) (Y.eqi rfl rfl) ?_
    refine Ops.nil ?_
    refine WP.cutL (σ := Unit) (fun _ => [(0, l.val), (3, .pointer (some ⟨b3, 0, none⟩)), (5, .string (atomK l.xs a k ++ sep)), (6, .int .i64 k)]) (fun _ w => Inv B hh [box b3 a.enc 61] w) ?_ ?_
    · refine WP.cond_dec rfl (fun h5 => ?_) (fun h5 => ?_)
      · have h0 : k = 0 := by omega
        refine WP.region ?_
        refine Ops.y (v := .string _) (Y.move rfl) ?_
        refine Ops.y (v := .string _) (Y.adds rfl rfl (by show (atomK l.xs a k).size + 1 ≤ _; omega)) ?_
        refine Ops.y (v := .string _) (Y.assign rfl) ?_
        refine Ops.nil ?_
        exact ⟨(), ⟨rfl, rfl, by rw [hsep, if_pos h0]; rfl, rfl, trivial⟩, I⟩
      have h0 : ¬ k = 0 := by omega
      refine WP.region ?_
      refine Ops.y (v := .string _) (Y.move rfl) ?_
      refine Ops.y (v := .string _) (Y.adds rfl rfl (by show (atomK l.xs a k).size + 1 ≤ _; omega)) ?_
      refine Ops.y (v := .string _) (Y.assign rfl) ?_
      refine Ops.nil ?_
      exact ⟨(), ⟨rfl, rfl, by rw [hsep, if_neg h0]; rfl, rfl, trivial⟩, I⟩
    rintro _ e w I
    have hks2 : (atomK l.xs a k ++ sep).size ≤ (predOf l.xs a.pred).name.size + 3 * k + 1 := by rw [ByteArray.size_append]; omega
    refine WP.seq ?_
    refine WP.region ?_
    refine Ops.y (v := .pointer (some ⟨_, _, none⟩)) (Y.fa fa_61_1 rfl) ?_
    refine Ops.y (v := .slice _ _ _) (Y.loadv ty_59 rfl (I.rdbox 0 rfl 1 1) rfl rfl) ?_
    refine Ops.y (v := .int .i64 _) (Y.move rfl) ?_
    refine Ops.y (v := .pointer (some ⟨_, _, none⟩)) (Y.idxEl E Tryz.underlying59 Tryz.sizeOf109 rfl rfl (Int.natCast_nonneg _) rfl) ?_
    refine Ops.y (v := .pointer (some ⟨_, _, none⟩)) (Y.fa0 fa_109_0 rfl) ?_
    refine Ops.y (v := .bool _) (Y.loadv ty_4 rfl (I.rd (E.rd.part 0 1)) rfl rfl) ?_
    refine Ops.nil ?_
    refine WP.cond rfl (fun h8 => ?_) (fun h8 => ?_)
    · have hv : t.var = true := h8
      obtain ⟨n0, n3⟩ := ao.var htm hv
      obtain ⟨c, hc⟩ : ∃ c : UInt8, c = UInt8.ofNat (65 + t.n).toNat := ⟨_, rfl⟩
      have hb : (c.toNat : Int) = 65 + t.n := by rw [hc]; exact ch_byte (by omega) (by omega)
      have hT : termT t = ⟨#[c]⟩ := by unfold termT chT; rw [if_pos hv, hc]
      refine WP.region ?_
      refine Ops.y (v := .string _) (Y.move rfl) ?_
      refine Ops.y (v := .pointer (some ⟨_, _, none⟩)) (Y.fa fa_61_1 rfl) ?_
      refine Ops.y (v := .slice _ _ _) (Y.loadv ty_59 rfl (I.rdbox 0 rfl 1 1) rfl rfl) ?_
      refine Ops.y (v := .int .i64 _) (Y.move rfl) ?_
      refine Ops.y (v := .pointer (some ⟨_, _, none⟩)) (Y.idxEl E Tryz.underlying59 Tryz.sizeOf109 rfl rfl (Int.natCast_nonneg _) rfl) ?_
      refine Ops.y (v := .pointer (some ⟨_, _, none⟩)) (Y.fa fa_109_1 rfl) ?_
      refine Ops.y (v := .int .i64 _) (Y.loadv ty_3 rfl (I.rd (E.rd.part 1 1)) rfl rfl) ?_
      refine Ops.y (v := .int .i64 _) (Y.addi rfl rfl ⟨by omega, by omega⟩) ?_
      refine Ops.y (v := .int .u8 (c.toNat : Int)) ((Y.conv (by rw [Tryz.underlying3]; rfl) Tryz.underlying5 (wrap_u8 (by omega) (by omega)) rfl).is (by rw [hb])) ?_
      refine Ops.go (O.mksl (xs := [c]) (enc := bEn8) I Tryz.underlying49 Tryz.sizeOf5 Tryz.zeroValue5 rfl (Nat.le_of_ble_eq_true rfl) rfl rfl (by decide) (fun _ => rfl) ?_)
      intro b41 h41 w I le41 sl41
      refine Ops.y (v := .string _) (Y.b2s1 I Tryz.underlying49 Tryz.underlying5 Tryz.underlying9 rfl sl41) ?_
      refine Ops.y (v := .string _) (Y.adds rfl rfl (by show (atomK l.xs a k ++ sep).size + 1 ≤ _; omega)) ?_
      refine Ops.y (v := .string _) (Y.assign rfl) ?_
      refine Ops.nil ?_
      refine WP.region ?_
      refine Ops.y (v := .int .i64 _) (Y.move rfl) ?_
      refine Ops.y (v := .int .i64 _) (Y.addi rfl rfl ⟨by omega, by omega⟩) ?_
      refine Ops.y (v := .int .i64 _) (Y.assign rfl) ?_
      refine Ops.nil ?_
      exact ⟨(k + 1, h41), ⟨⟨rfl, rfl, by rw [hnx, hT]; rfl, rfl, trivial⟩, I, by dsimp only; omega, gl.trans le41⟩, by dsimp only; omega⟩
    · have hv : t.var = false := by simpa using h8
      have hcn := argsErr_con ao.err htm hv
      obtain ⟨n, hn⟩ : ∃ n : Nat, t.n = n := ⟨t.n.toNat, by omega⟩
      have hT : termT t = digT n := by unfold termT; rw [if_neg (by rw [hv]; decide), hn]; rfl
      have hds := digT_size n
      refine WP.region ?_
      refine Ops.y (v := .string _) (Y.move rfl) ?_
      refine Ops.y (v := .pointer (some ⟨_, _, none⟩)) (Y.fa fa_61_1 rfl) ?_
      refine Ops.y (v := .slice _ _ _) (Y.loadv ty_59 rfl (I.rdbox 0 rfl 1 1) rfl rfl) ?_
      refine Ops.y (v := .int .i64 _) (Y.move rfl) ?_
      refine Ops.y (v := .pointer (some ⟨_, _, none⟩)) (Y.idxEl E Tryz.underlying59 Tryz.sizeOf109 rfl rfl (Int.natCast_nonneg _) rfl) ?_
      refine Ops.y (v := .pointer (some ⟨_, _, none⟩)) (Y.fa fa_109_1 rfl) ?_
      refine Ops.y (v := .int .i64 _) (Y.loadv ty_3 rfl (I.rd (E.rd.part 1 1)) rfl rfl) ?_
      refine Ops.go (O.callv I Tryz.call45 (hn ▸ Digits_ok _ I.base_ok n (by omega)) rfl ?_)
      intro w I
      refine Ops.y (v := .string _) (Y.adds rfl rfl (by omega)) ?_
      refine Ops.y (v := .string _) (Y.assign rfl) ?_
      refine Ops.nil ?_
      refine WP.region ?_
      refine Ops.y (v := .int .i64 _) (Y.move rfl) ?_
      refine Ops.y (v := .int .i64 _) (Y.addi rfl rfl ⟨by omega, by omega⟩) ?_
      refine Ops.y (v := .int .i64 _) (Y.assign rfl) ?_
      refine Ops.nil ?_
      exact ⟨(k + 1, hh), ⟨⟨rfl, rfl, by rw [hnx, hT]; rfl, rfl, trivial⟩, I, by dsimp only; omega, gl⟩, by dsimp only; omega⟩
  obtain rfl : k = a.args.xs.length := by omega
  refine WP.exit ?_
  refine WP.seq ?_
  refine WP.seq ?_
  refine WP.region ?_
  refine Ops.y (v := .pointer (some ⟨_, _, none⟩)) (Y.fa fa_61_1 rfl) ?_
  refine Ops.y (v := .slice _ _ _) (Y.loadv ty_59 rfl (I.rdbox 0 rfl 1 1) rfl rfl) ?_
  refine Ops.y (v := .int .i64 _) (Y.lens Tryz.underlying59 rfl) ?_
  refine Ops.y (v := .bool (decide _)) (Y.gti rfl rfl) ?_
  refine Ops.nil ?_
  refine WP.cond_dec rfl (fun h11 => ?_) (fun h11 => ?_)
  · refine WP.region ?_
    refine Ops.y (v := .string _) (Y.move rfl) ?_
    refine Ops.y (v := .string _) (Y.adds rfl rfl (by show (atomK l.xs a a.args.xs.length).size + 1 ≤ _; omega)) ?_
    refine Ops.y (v := .string _) (Y.assign rfl) ?_
    refine Ops.nil ?_
    refine WP.seq ?_
    refine WP.region ?_
    refine Ops.y (v := .string _) (Y.move rfl) ?_
    refine Ops.y (v := .string _) (Y.assign rfl) ?_
    refine Ops.nil ?_
    refine WP.ret ?_
    repeat (first | refine thenE_ret ?_ | refine blockE_ret ?_)
    exact retQ.mk (vs := [.string _]) rfl ⟨rfl, trivial⟩ I.ext_of (by unfold atomT; rw [if_pos (by omega)]; rfl)
  · refine WP.skip ?_
    refine WP.seq ?_
    refine WP.region ?_
    refine Ops.y (v := .string _) (Y.move rfl) ?_
    refine Ops.y (v := .string _) (Y.assign rfl) ?_
    refine Ops.nil ?_
    refine WP.ret ?_
    repeat (first | refine thenE_ret ?_ | refine blockE_ret ?_)
    exact retQ.mk (vs := [.string _]) rfl ⟨rfl, trivial⟩ I.ext_of (by unfold atomT; rw [if_neg (by omega)]; rfl)
end Go.TF
end
section
/- What a right program's predicates and rules are: plain. -/
namespace Go.TF
open Go

theorem chk_preds {p : Prg} (h : checkProg p = 0) : ∀ x ∈ p.preds.xs, predFine x = true := by
  unfold checkProg at h
  split at h
  · cases h
  split at h
  · cases h
  split at h
  · cases h
  split at h
  · cases h
  split at h
  · cases h
  rename_i h1 h2 h3 h4 h5
  intro x hx
  have a : badArity x ≠ true := fun e => h4 (List.any_eq_true.2 ⟨x, hx, e⟩)
  have b : badKind x ≠ true := fun e => h5 (List.any_eq_true.2 ⟨x, hx, e⟩)
  simp only [badArity, badKind, ne_eq, decide_eq_true_eq, not_or, Int.not_lt] at a b
  simp only [predFine, decide_eq_true_eq]
  omega
theorem chk_rok {p : Prg} (h : checkProg p = 0) : ∀ r ∈ p.rules.xs, ROk p.preds.xs r := fun r hr => rok_of (checkProg_ok h).1 (chk_preds h) (rulesErr_zero.1 (checkProg_ok h).2.2.1 r hr)
/-- Its names are names, each but once. -/
theorem chk_names {p : Prg} (h : checkProg p = 0) : (∀ x ∈ p.preds.xs, isName x.name = true) ∧ twice p.preds.xs = false := by
  unfold checkProg at h
  split at h
  · cases h
  split at h
  · cases h
  split at h
  · cases h
  rename_i h1 h2 h3
  exact ⟨by simpa using h2, by simpa using h3⟩
theorem chk_heads {p : Prg} (h : checkProg p = 0) : ∀ r ∈ p.rules.xs, 0 ≤ r.head.pred ∧ r.head.pred < p.preds.xs.length := fun r hr => (aok_of (chk_preds h) (chk_rok h r hr).head).pred
end Go.TF
end
section
/- The text of a program, as the document says: walked. -/
namespace Go.TF
open Go Go.RowKit Go.Proofs
set_option maxRecDepth 20000

def prS (s : ByteArray) (x : Prd) : ByteArray := ((((((s ++ ⟨#[112, 114, 101, 100, 32]⟩) ++ x.name) ++ ⟨#[32]⟩) ++ digT x.arity.toNat) ++ ⟨#[32]⟩) ++ digT x.kind.toNat) ++ ⟨#[10]⟩
def prK (l : List Prd) : Nat → ByteArray
  | 0 => ⟨#[]⟩
  | k + 1 => prS (prK l k) (l.getD k default)
def bdS (l : List Prd) (k : Nat) (s : ByteArray) (x : Ltl) : ByteArray :=
  (if x.neg = true then (s ++ (if k = 0 then ⟨#[32, 58, 45, 32]⟩ else ⟨#[44, 32]⟩)) ++ ⟨#[33]⟩ else s ++ (if k = 0 then ⟨#[32, 58, 45, 32]⟩ else ⟨#[44, 32]⟩)) ++ atomT l x.atom
def bdK (l : List Prd) (b : List Ltl) (s : ByteArray) : Nat → ByteArray
  | 0 => s
  | k + 1 => bdS l k (bdK l b s k) (b.getD k default)
def srcS (s : ByteArray) (r : Rul) : ByteArray := if 0 ≤ r.src then ((s ++ ⟨#[35]⟩) ++ digT r.src.toNat) ++ ⟨#[43]⟩ else s
def valS (l : List Prd) (s : ByteArray) (r : Rul) : ByteArray := if (predOf l r.head.pred).kind ≠ 0 then srcS (s ++ ⟨#[32, 61, 32]⟩) r ++ digT r.n.toNat else s
def ruS (l : List Prd) (s : ByteArray) (r : Rul) : ByteArray := bdK l r.body.xs (valS l (s ++ atomT l r.head) r) r.body.xs.length ++ ⟨#[46, 10]⟩
def ruK (l : List Prd) (rs : List Rul) : Nat → ByteArray
  | 0 => prK l l.length
  | k + 1 => ruS l (ruK l rs k) (rs.getD k default)
def progT (p : Prg) : ByteArray := ruK p.preds.xs p.rules.xs p.rules.xs.length
theorem prS_size {s : ByteArray} {x : Prd} : (prS s x).size ≤ s.size + x.name.size + 12 := by
  have h1 := digT_size x.arity.toNat
  have h2 := digT_size x.kind.toNat
  have e1 : ByteArray.size ⟨#[112, 114, 101, 100, 32]⟩ = 5 := rfl
  have e2 : ByteArray.size ⟨#[32]⟩ = 1 := rfl
  have e3 : ByteArray.size ⟨#[10]⟩ = 1 := rfl
  unfold prS
  simp only [ByteArray.size_append]
  omega
section
variable {l : List Prd} {X : Nat} (hX : ∀ i : Int, 0 ≤ i → i < l.length → (predOf l i).name.size ≤ X)
include hX
theorem prK_size : ∀ {k : Nat}, k ≤ l.length → (prK l k).size ≤ k * (X + 12)
  | 0, _ => Nat.zero_le _
  | k + 1, hk => by
    have ih := prK_size (k := k) (by omega)
    have h1 := prS_size (s := prK l k) (x := l.getD k default)
    have h2 := hX k (by omega) (by omega)
    have e : (predOf l (k : Int)) = l.getD k default := by unfold predOf; rw [Int.toNat_natCast]
    rw [e] at h2
    rw [prK, Nat.add_mul, Nat.one_mul]
    omega
theorem bdS_size {k : Nat} {s : ByteArray} {x : Ltl} (ao : AOk l x.atom) : (bdS l k s x).size ≤ s.size + X + 12 := by
  have h1 := atomT_size (l := l) ao.len
  have h2 := hX _ ao.pred.1 ao.pred.2
  have hs : ByteArray.size (if k = 0 then ⟨#[32, 58, 45, 32]⟩ else ⟨#[44, 32]⟩) ≤ 4 := by
    split
    · exact Nat.le_refl 4
    · exact (by decide : 2 ≤ 4)
  have e3 : ByteArray.size ⟨#[33]⟩ = 1 := rfl
  unfold bdS
  rw [ByteArray.size_append]
  split
  · rw [ByteArray.size_append, ByteArray.size_append]; omega
  · rw [ByteArray.size_append]; omega
theorem bdK_size {b : List Ltl} {s : ByteArray} (hb : ∀ x ∈ b, AOk l x.atom) : ∀ {k : Nat}, k ≤ b.length → (bdK l b s k).size ≤ s.size + k * (X + 12)
  | 0, _ => by rw [bdK]; omega
  | k + 1, hk => by
    have ih := bdK_size (s := s) hb (k := k) (by omega)
    have hm : b.getD k default ∈ b := by rw [List.getD_eq_getElem?_getD, List.getElem?_eq_getElem (by omega)]; exact List.getElem_mem _
    have h1 := bdS_size hX (k := k) (s := bdK l b s k) (hb _ hm)
    rw [bdK, Nat.add_mul, Nat.one_mul]
    omega
omit hX in
theorem srcS_size {s : ByteArray} {r : Rul} : (srcS s r).size ≤ s.size + 4 := by
  have h1 := digT_size r.src.toNat
  have e1 : ByteArray.size ⟨#[35]⟩ = 1 := rfl
  have e2 : ByteArray.size ⟨#[43]⟩ = 1 := rfl
  unfold srcS
  split
  · simp only [ByteArray.size_append]; omega
  · omega
omit hX in
theorem valS_size {s : ByteArray} {r : Rul} : (valS l s r).size ≤ s.size + 9 := by
  have h1 := digT_size r.n.toNat
  have h2 := srcS_size (s := s ++ ⟨#[32, 61, 32]⟩) (r := r)
  have e1 : ByteArray.size ⟨#[32, 61, 32]⟩ = 3 := rfl
  rw [ByteArray.size_append] at h2
  unfold valS
  split
  · rw [ByteArray.size_append]; omega
  · omega
theorem ruS_size {s : ByteArray} {r : Rul} (ok : ROk l r) : (ruS l s r).size ≤ s.size + 4 * (X + 20) := by
  have ao := aok_of ok.preds ok.head
  have h1 := atomT_size (l := l) ao.len
  have h2 := hX _ ao.pred.1 ao.pred.2
  have h3 := valS_size (l := l) (s := s ++ atomT l r.head) (r := r)
  have h4 := bdK_size hX (b := r.body.xs) (s := valS l (s ++ atomT l r.head) r) (fun x hx => aok_of ok.preds (ok.body x hx)) (Nat.le_refl _)
  have h5 := Nat.mul_le_mul_right (X + 12) ok.len
  have e1 : ByteArray.size ⟨#[46, 10]⟩ = 2 := rfl
  rw [ByteArray.size_append] at h3
  unfold ruS
  rw [ByteArray.size_append]
  omega
theorem ruK_size {rs : List Rul} (rk : ∀ r ∈ rs, ROk l r) : ∀ {k : Nat}, k ≤ rs.length → (ruK l rs k).size ≤ l.length * (X + 12) + k * (4 * (X + 20))
  | 0, _ => by rw [ruK]; have := prK_size hX (Nat.le_refl l.length); omega
  | k + 1, hk => by
    have ih := ruK_size rk (k := k) (by omega)
    have hm : rs.getD k default ∈ rs := by rw [List.getD_eq_getElem?_getD, List.getElem?_eq_getElem (by omega)]; exact List.getElem_mem _
    have h1 := ruS_size hX (s := ruK l rs k) (rk _ hm)
    rw [ruK, Nat.add_mul, Nat.one_mul]
    omega
end
set_option maxHeartbeats 16000000 in
theorem ProgText_ok (B : Base) (hB : B.ok) (p : Prg) (hp : p.In B.h) (hnm : p.Nm) (hpr : checkProg p = 0) : Fn Tryz.prog 17 [p.val] B (fun v _ => v = .string (progT p)) := by
  obtain ⟨k1, k2, k3, _, _⟩ := checkProg_ok hpr
  have rk := chk_rok hpr
  have hpf := chk_preds hpr
  have hin := chk_heads hpr
  have hX : ∀ i : Int, 0 ≤ i → i < p.preds.xs.length → (predOf p.preds.xs i).name.size ≤ 140737488355328 := fun i h0 h1 => hnm _ (predOf_mem ⟨h0, h1⟩)
  have hsp := hp.preds.small
  have hsr := hp.rules.is.small
  refine Fn.of Tryz.func17 rfl Tryz.ntmps17 (by kernel_rfl) (by simp) ?_
  intro e
  have I := Inv.start hB
  refine WP.seq ?_
  refine WP.region ?_
  refine Ops.go (O.box (v := .agg #[_, _]) I rfl rfl ?_)
  intro b1 w I
  refine Ops.y (v := .string _) (Y.assign rfl) ?_
  refine Ops.nil ?_
  refine WP.seq ?_
  refine WP.region ?_
  refine Ops.y (v := .string _) (Y.assign rfl) ?_
  refine Ops.nil ?_
  refine WP.seq ?_
  refine WP.seq ?_
  refine WP.region ?_
  refine Ops.y (v := .int .i64 _) (Y.assign rfl) ?_
  refine Ops.nil ?_
  refine WP.block ?_
  refine WP.loopE (σ := Nat) (fun k => [(1, .pointer (some ⟨b1, 0, none⟩)), (3, .string (prK p.preds.xs k)), (4, .int .i64 k)])
    (fun k w => Inv B B.h [box b1 p.enc 25] w ∧ k ≤ p.preds.xs.length) (fun k => p.preds.xs.length - k)
    ⟨0, ⟨rfl, rfl, rfl, trivial⟩, I, Nat.zero_le _⟩ ?_
  rintro k e w ⟨I, hk⟩
  have hz := prK_size hX hk
  refine WP.seq ?_
  refine WP.seq ?_
  refine WP.region ?_
  refine Ops.y (v := .int .i64 _) (Y.move rfl) ?_
  refine Ops.y (v := .pointer (some ⟨_, _, none⟩)) (Y.fa0 fa_25_0 rfl) ?_
  refine Ops.y (v := .slice _ _ _) (Y.loadv ty_22 rfl (I.rdbox 0 rfl 0 1) rfl rfl) ?_
  refine Ops.y (v := .int .i64 _) (Y.lens Tryz.underlying22 rfl) ?_
  refine Ops.y (v := .bool (decide _)) (Y.lti rfl rfl) ?_
  refine Ops.nil ?_
  refine WP.cond_dec rfl (fun h3 => ?_) (fun h3 => ?_)
  · have hk' : k < p.preds.xs.length := by omega
    have E := hp.preds.at hk'
    obtain ⟨x, hx⟩ : ∃ x, p.preds.xs[k] = x := ⟨_, rfl⟩
    have hgd : p.preds.xs.getD k default = x := by rw [List.getD_eq_getElem?_getD, List.getElem?_eq_getElem hk', hx]; rfl
    have hxm : x ∈ p.preds.xs := hx ▸ List.getElem_mem hk'
    have hf := hpf x hxm
    have hxn := hnm x hxm
    unfold predFine at hf
    obtain ⟨a0, a2, d0, d3⟩ := of_decide_eq_true hf
    obtain ⟨a, ha⟩ : ∃ a : Nat, x.arity = a := ⟨x.arity.toNat, by omega⟩
    obtain ⟨d, hd⟩ : ∃ d : Nat, x.kind = d := ⟨x.kind.toNat, by omega⟩
    have hda := digT_size a
    have hdd := digT_size d
    have hnx : prK p.preds.xs (k + 1) = ((((((prK p.preds.xs k ++ ⟨#[112, 114, 101, 100, 32]⟩) ++ x.name) ++ ⟨#[32]⟩) ++ digT a) ++ ⟨#[32]⟩) ++ digT d) ++ ⟨#[10]⟩ := by rw [prK, hgd]; unfold prS; rw [ha, hd]; rfl
    have z1 : (prK p.preds.xs k ++ ⟨#[112, 114, 101, 100, 32]⟩).size = (prK p.preds.xs k).size + 5 := by rw [ByteArray.size_append]; rfl
    have z2 : ((prK p.preds.xs k ++ ⟨#[112, 114, 101, 100, 32]⟩) ++ x.name).size = (prK p.preds.xs k).size + 5 + x.name.size := by rw [ByteArray.size_append, z1]
    have z3 : (((prK p.preds.xs k ++ ⟨#[112, 114, 101, 100, 32]⟩) ++ x.name) ++ ⟨#[32]⟩).size = (prK p.preds.xs k).size + 5 + x.name.size + 1 := by rw [ByteArray.size_append, z2]; rfl
    have z4 : ((((prK p.preds.xs k ++ ⟨#[112, 114, 101, 100, 32]⟩) ++ x.name) ++ ⟨#[32]⟩) ++ digT a).size ≤ (prK p.preds.xs k).size + 8 + x.name.size := by rw [ByteArray.size_append, z3]; omega
    have z5 : (((((prK p.preds.xs k ++ ⟨#[112, 114, 101, 100, 32]⟩) ++ x.name) ++ ⟨#[32]⟩) ++ digT a) ++ ⟨#[32]⟩).size ≤ (prK p.preds.xs k).size + 9 + x.name.size := by rw [ByteArray.size_append]; show _ + 1 ≤ _; omega
    have z6 : ((((((prK p.preds.xs k ++ ⟨#[112, 114, 101, 100, 32]⟩) ++ x.name) ++ ⟨#[32]⟩) ++ digT a) ++ ⟨#[32]⟩) ++ digT d).size ≤ (prK p.preds.xs k).size + 11 + x.name.size := by rw [ByteArray.size_append]; omega
    have hk5 : k * (140737488355328 + 12) ≤ 5 * (140737488355328 + 12) := Nat.mul_le_mul_right _ (by omega)
    rw [hx] at E
    refine WP.skip ?_
    refine WP.seq ?_
    refine WP.block ?_
    refine WP.regionQ mixed I (by kernel_rfl) ?_
    refine OpsQ.y (v := .string _) (fun w I => Y.move rfl) ?_
    refine OpsQ.y (v := .string _) (fun w I => Y.adds rfl rfl (by show _ + 5 ≤ _; omega)) ?_
    refine OpsQ.y (v := .pointer (some ⟨_, _, none⟩)) (fun w I => Y.fa0 fa_25_0 rfl) ?_
    refine OpsQ.y (v := .slice _ _ _) (fun w I => Y.loadv ty_22 rfl (I.rdbox 0 rfl 0 1) rfl rfl) ?_
    refine OpsQ.y (v := .int .i64 _) (fun w I => Y.move rfl) ?_
    refine OpsQ.y (v := .pointer (some ⟨_, _, none⟩)) (fun w I => Y.idxEl E Tryz.underlying22 Tryz.sizeOf53 rfl rfl (Int.natCast_nonneg _) rfl) ?_
    refine OpsQ.y (v := .pointer (some ⟨_, _, none⟩)) (fun w I => Y.fa0 fa_53_0 rfl) ?_
    refine OpsQ.y (v := .string _) (fun w I => Y.loadv ty_9 rfl (I.rd (E.rd.part 0 1)) rfl rfl) ?_
    refine OpsQ.y (v := .string _) (fun w I => Y.adds rfl rfl (by omega)) ?_
    refine OpsQ.y (v := .string _) (fun w I => Y.adds rfl rfl (by show _ + 1 ≤ _; omega)) ?_
    refine OpsQ.y (v := .pointer (some ⟨_, _, none⟩)) (fun w I => Y.fa0 fa_25_0 rfl) ?_
    refine OpsQ.y (v := .slice _ _ _) (fun w I => Y.loadv ty_22 rfl (I.rdbox 0 rfl 0 1) rfl rfl) ?_
    refine OpsQ.y (v := .int .i64 _) (fun w I => Y.move rfl) ?_
    refine OpsQ.y (v := .pointer (some ⟨_, _, none⟩)) (fun w I => Y.idxEl E Tryz.underlying22 Tryz.sizeOf53 rfl rfl (Int.natCast_nonneg _) rfl) ?_
    refine OpsQ.y (v := .pointer (some ⟨_, _, none⟩)) (fun w I => Y.fa fa_53_1 rfl) ?_
    refine OpsQ.y (v := .int .i64 _) (fun w I => Y.loadv ty_3 rfl (I.rd (E.rd.part 1 1)) rfl rfl) ?_
    refine OpsQ.c (fun w I => QC.callv I Tryz.call45 (ha ▸ Digits_ok _ I.base_ok a (by omega)) rfl) ?_
    refine OpsQ.y (v := .string _) (fun w I => Y.adds rfl rfl (by omega)) ?_
    refine OpsQ.y (v := .string _) (fun w I => Y.adds rfl rfl (by show _ + 1 ≤ _; omega)) ?_
    refine OpsQ.y (v := .pointer (some ⟨_, _, none⟩)) (fun w I => Y.fa0 fa_25_0 rfl) ?_
    refine OpsQ.y (v := .slice _ _ _) (fun w I => Y.loadv ty_22 rfl (I.rdbox 0 rfl 0 1) rfl rfl) ?_
    refine OpsQ.y (v := .int .i64 _) (fun w I => Y.move rfl) ?_
    refine OpsQ.y (v := .pointer (some ⟨_, _, none⟩)) (fun w I => Y.idxEl E Tryz.underlying22 Tryz.sizeOf53 rfl rfl (Int.natCast_nonneg _) rfl) ?_
    refine OpsQ.y (v := .pointer (some ⟨_, _, none⟩)) (fun w I => Y.fa fa_53_2 rfl) ?_
    refine OpsQ.y (v := .int .i64 _) (fun w I => Y.loadv ty_3 rfl (I.rd (E.rd.part 2 1)) rfl rfl) ?_
    refine OpsQ.c (fun w I => QC.callv I Tryz.call45 (hd ▸ Digits_ok _ I.base_ok d (by omega)) rfl) ?_
    refine OpsQ.y (v := .string _) (fun w I => Y.adds rfl rfl (by omega)) ?_
    refine OpsQ.y (v := .string _) (fun w I => Y.adds rfl rfl (by show _ + 1 ≤ _; omega)) ?_
    refine OpsQ.y (v := .string _) (fun w I => Y.assign rfl) ?_
    refine OpsQ.nil ?_
    intro w I
    refine WP.region ?_
    refine Ops.y (v := .int .i64 _) (Y.move rfl) ?_
    refine Ops.y (v := .int .i64 _) (Y.addi rfl rfl ⟨by omega, by omega⟩) ?_
    refine Ops.y (v := .int .i64 _) (Y.assign rfl) ?_
    refine Ops.nil ?_
    exact ⟨k + 1, ⟨⟨rfl, by rw [hnx]; rfl, rfl, trivial⟩, I, by omega⟩, by omega⟩
  obtain rfl : k = p.preds.xs.length := by omega
  refine WP.exit ?_
  refine WP.seq ?_
  refine WP.seq ?_
  refine WP.region ?_
  refine Ops.y (v := .int .i64 _) (Y.assign rfl) ?_
  refine Ops.nil ?_
  refine WP.block ?_
  refine WP.loopE (σ := Nat) (fun n => [(1, .pointer (some ⟨b1, 0, none⟩)), (3, .string (ruK p.preds.xs p.rules.xs n)), (5, .int .i64 n)])
    (fun n w => Inv B B.h [box b1 p.enc 25] w ∧ n ≤ p.rules.xs.length) (fun n => p.rules.xs.length - n)
    ⟨0, ⟨rfl, rfl, rfl, trivial⟩, I, Nat.zero_le _⟩ ?_
  rintro n e w ⟨I, hn⟩
  have hz := ruK_size hX rk hn
  have hk5 : p.preds.xs.length * (140737488355328 + 12) ≤ 5 * (140737488355328 + 12) := Nat.mul_le_mul_right _ k1
  have hn8 : n * (4 * (140737488355328 + 20)) ≤ 8 * (4 * (140737488355328 + 20)) := Nat.mul_le_mul_right _ (by omega)
  refine WP.seq ?_
  refine WP.seq ?_
  refine WP.region ?_
  refine Ops.y (v := .int .i64 _) (Y.move rfl) ?_
  refine Ops.y (v := .pointer (some ⟨_, _, none⟩)) (Y.fa fa_25_1 rfl) ?_
  refine Ops.y (v := .slice _ _ _) (Y.loadv ty_23 rfl (I.rdbox 0 rfl 1 1) rfl rfl) ?_
  refine Ops.y (v := .int .i64 _) (Y.lens Tryz.underlying23 rfl) ?_
  refine Ops.y (v := .bool (decide _)) (Y.lti rfl rfl) ?_
  refine Ops.nil ?_
  refine WP.cond_dec rfl (fun h7 => ?_) (fun h7 => ?_)
  · have hn' : n < p.rules.xs.length := by omega
    have Er := hp.rules.is.at hn'
    have hrm := List.getElem_mem hn'
    have ir := hp.rules.each _ hrm
    have ok := rk _ hrm
    have hgd : p.rules.xs.getD n default = p.rules.xs[n] := by rw [List.getD_eq_getElem?_getD, List.getElem?_eq_getElem hn']; rfl
    obtain ⟨i0, i1⟩ := hin _ hrm
    have Ek := hp.preds.el.el (predOf_get i0 i1)
    obtain ⟨r, hr⟩ : ∃ r, p.rules.xs[n] = r := ⟨_, rfl⟩
    rw [hr] at Er ir ok hgd i0 i1 Ek
    have ah := aok_of ok.preds ok.head
    have hb := fun x hx => aok_of ok.preds (ok.body x hx)
    have hlen := ok.len
    obtain ⟨s0, hs0⟩ : ∃ s, ruK p.preds.xs p.rules.xs n = s := ⟨_, rfl⟩
    have hnx : ruK p.preds.xs p.rules.xs (n + 1) = ruS p.preds.xs s0 r := by rw [ruK, hgd, hs0]
    have ha7 := atomT_size (l := p.preds.xs) ah.len
    have hXh := hX _ i0 i1
    obtain ⟨s1, hs1⟩ : ∃ s, s0 ++ atomT p.preds.xs r.head = s := ⟨_, rfl⟩
    have z1 : s1.size = s0.size + (atomT p.preds.xs r.head).size := by rw [← hs1, ByteArray.size_append]
    have hv9 := valS_size (l := p.preds.xs) (s := s1) (r := r)
    obtain ⟨s2, hs2⟩ : ∃ s, valS p.preds.xs s1 r = s := ⟨_, rfl⟩
    rw [hs2] at hv9
    rw [hs0] at hz
    have hru : ruS p.preds.xs s0 r = bdK p.preds.xs r.body.xs s2 r.body.xs.length ++ ⟨#[46, 10]⟩ := by unfold ruS; rw [hs1, hs2]
    rw [hs0]
    refine WP.skip ?_
    refine WP.seq ?_
    refine WP.block ?_
    refine WP.seq ?_
    refine WP.region ?_
    refine Ops.y (v := .pointer (some ⟨_, _, none⟩)) (Y.fa fa_25_1 rfl) ?_
    refine Ops.y (v := .slice _ _ _) (Y.loadv ty_23 rfl (I.rdbox 0 rfl 1 1) rfl rfl) ?_
    refine Ops.y (v := .int .i64 _) (Y.move rfl) ?_
    refine Ops.y (v := .pointer (some ⟨_, _, none⟩)) (Y.idxEl Er Tryz.underlying23 Tryz.sizeOf64 rfl rfl (Int.natCast_nonneg _) rfl) ?_
    refine Ops.y (v := .agg #[_, _, _, _, _]) (Y.loadv ty_64 rfl (I.rd (Er.rd.part 0 5)) rfl rfl) ?_
    refine Ops.go (O.alloc I Tryz.zeroValue64 rfl ?_)
    intro b6 w I
    refine Ops.go (O.store (v := .agg #[_, _, _, _, _]) I ty_64 0 rfl rfl rfl rfl rfl rfl (Nat.le_of_ble_eq_true rfl) rfl ?_)
    intro w I
    refine Ops.nil ?_
    refine WP.seq ?_
    refine WP.region ?_
    refine Ops.y (v := .string _) (Y.move rfl) ?_
    refine Ops.y (v := .pointer (some ⟨_, _, none⟩)) (Y.fa0 fa_25_0 rfl) ?_
    refine Ops.y (v := .slice _ _ _) (Y.loadv ty_22 rfl (I.rdbox 1 rfl 0 1) rfl rfl) ?_
    refine Ops.y (v := .pointer (some ⟨_, _, none⟩)) (Y.fa0 fa_64_0 rfl) ?_
    refine Ops.y (v := .agg #[_, _]) (Y.loadv ty_61 rfl (I.rdbox 0 rfl 0 2) rfl rfl) ?_
    refine Ops.go (O.callv I Tryz.call46 (AtomText_ok _ I.base_ok p.preds hp.preds r.head ir.head ah hXh) rfl ?_)
    intro w I
    refine Ops.y (v := .string _) (Y.adds rfl rfl (by omega)) ?_
    refine Ops.y (v := .string _) (Y.assign rfl) ?_
    refine Ops.nil ?_
    rw [hs1]
    refine WP.seq ?_
    refine WP.seq ?_
    refine WP.region ?_
    refine Ops.y (v := .pointer (some ⟨_, _, none⟩)) (Y.fa0 fa_25_0 rfl) ?_
    refine Ops.y (v := .slice _ _ _) (Y.loadv ty_22 rfl (I.rdbox 1 rfl 0 1) rfl rfl) ?_
    refine Ops.y (v := .pointer (some ⟨_, _, none⟩)) (Y.fa0 fa_64_0 rfl) ?_
    refine Ops.y (v := .pointer (some ⟨_, _, none⟩)) (Y.fa0 fa_61_0 rfl) ?_
    refine Ops.y (v := .int .i64 _) (Y.loadv ty_3 rfl (I.rdbox 0 rfl 0 1) rfl rfl) ?_
    refine Ops.y (v := .pointer (some ⟨_, _, none⟩)) (Y.idxEl Ek Tryz.underlying22 Tryz.sizeOf53 rfl rfl i0 rfl) ?_
    refine Ops.y (v := .pointer (some ⟨_, _, none⟩)) (Y.fa fa_53_2 rfl) ?_
    refine Ops.y (v := .int .i64 _) (Y.loadv ty_3 rfl (I.rd (Ek.rd.part 2 1)) rfl rfl) ?_
    refine Ops.y (v := .bool (decide _)) (Y.nei rfl rfl) ?_
    refine Ops.nil ?_
    refine WP.cutL (σ := Unit) (fun _ => [(1, .pointer (some ⟨b1, 0, none⟩)), (3, .string s2), (5, .int .i64 n), (6, .pointer (some ⟨b6, 0, none⟩))])
      (fun _ w => Inv B B.h [box b6 r.enc 64, box b1 p.enc 25] w) ?_ ?_
    · refine WP.cond_dec rfl (fun h11 => ?_) (fun h11 => ?_)
      · obtain ⟨m, hm⟩ : ∃ m : Nat, r.n = m := ⟨r.n.toNat, by have := ok.n; omega⟩
        have hm15 := ok.n
        have hdm := digT_size m
        have hv : s2 = srcS (s1 ++ ⟨#[32, 61, 32]⟩) r ++ digT m := by rw [← hs2]; unfold valS; rw [if_pos h11, hm]; rfl
        have z3 : (s1 ++ ⟨#[32, 61, 32]⟩).size = s1.size + 3 := by rw [ByteArray.size_append]; rfl
        have hsz := srcS_size (s := s1 ++ ⟨#[32, 61, 32]⟩) (r := r)
        refine WP.seq ?_
        refine WP.region ?_
        refine Ops.y (v := .string _) (Y.move rfl) ?_
        refine Ops.y (v := .string _) (Y.adds rfl rfl (by show _ + 3 ≤ _; omega)) ?_
        refine Ops.y (v := .string _) (Y.assign rfl) ?_
        refine Ops.nil ?_
        refine WP.seq ?_
        refine WP.seq ?_
        refine WP.region ?_
        refine Ops.y (v := .pointer (some ⟨_, _, none⟩)) (Y.fa fa_64_1 rfl) ?_
        refine Ops.y (v := .int .i64 _) (Y.loadv ty_3 rfl (I.rdbox 0 rfl 2 1) rfl rfl) ?_
        refine Ops.y (v := .bool (decide _)) (Y.gei rfl rfl) ?_
        refine Ops.nil ?_
        refine WP.cond_dec rfl (fun h13 => ?_) (fun h13 => ?_)
        · obtain ⟨m2, hm2⟩ : ∃ m : Nat, r.src = m := ⟨r.src.toNat, by omega⟩
          have hs3 := ok.src
          have hd2 := digT_size m2
          have hv2 : srcS (s1 ++ ⟨#[32, 61, 32]⟩) r = (((s1 ++ ⟨#[32, 61, 32]⟩) ++ ⟨#[35]⟩) ++ digT m2) ++ ⟨#[43]⟩ := by unfold srcS; rw [if_pos (by omega), hm2]; rfl
          have z4 : ((s1 ++ ⟨#[32, 61, 32]⟩) ++ ⟨#[35]⟩).size = s1.size + 4 := by rw [ByteArray.size_append, z3]; rfl
          have z5 : (((s1 ++ ⟨#[32, 61, 32]⟩) ++ ⟨#[35]⟩) ++ digT m2).size ≤ s1.size + 6 := by rw [ByteArray.size_append, z4]; omega
          rw [hv2] at hsz
          refine WP.region ?_
          refine Ops.y (v := .string _) (Y.move rfl) ?_
          refine Ops.y (v := .string _) (Y.adds rfl rfl (by show _ + 1 ≤ _; omega)) ?_
          refine Ops.y (v := .pointer (some ⟨_, _, none⟩)) (Y.fa fa_64_1 rfl) ?_
          refine Ops.y (v := .int .i64 _) (Y.loadv ty_3 rfl (I.rdbox 0 rfl 2 1) rfl rfl) ?_
          refine Ops.go (O.callv I Tryz.call45 (hm2 ▸ Digits_ok _ I.base_ok m2 (by omega)) rfl ?_)
          intro w I
          refine Ops.y (v := .string _) (Y.adds rfl rfl (by omega)) ?_
          refine Ops.y (v := .string _) (Y.adds rfl rfl (by show _ + 1 ≤ _; omega)) ?_
          refine Ops.y (v := .string _) (Y.assign rfl) ?_
          refine Ops.nil ?_
          refine WP.region ?_
          refine Ops.y (v := .string _) (Y.move rfl) ?_
          refine Ops.y (v := .pointer (some ⟨_, _, none⟩)) (Y.fa fa_64_2 rfl) ?_
          refine Ops.y (v := .int .i64 _) (Y.loadv ty_3 rfl (I.rdbox 0 rfl 3 1) rfl rfl) ?_
          refine Ops.go (O.callv I Tryz.call45 (hm ▸ Digits_ok _ I.base_ok m (by omega)) rfl ?_)
          intro w I
          refine Ops.y (v := .string _) (Y.adds rfl rfl (by omega)) ?_
          refine Ops.y (v := .string _) (Y.assign rfl) ?_
          refine Ops.nil ?_
          exact ⟨(), ⟨rfl, by rw [hv, hv2]; rfl, rfl, rfl, trivial⟩, I⟩
        · have hv2 : srcS (s1 ++ ⟨#[32, 61, 32]⟩) r = s1 ++ ⟨#[32, 61, 32]⟩ := by unfold srcS; rw [if_neg (by omega)]
          refine WP.skip ?_
          refine WP.region ?_
          refine Ops.y (v := .string _) (Y.move rfl) ?_
          refine Ops.y (v := .pointer (some ⟨_, _, none⟩)) (Y.fa fa_64_2 rfl) ?_
          refine Ops.y (v := .int .i64 _) (Y.loadv ty_3 rfl (I.rdbox 0 rfl 3 1) rfl rfl) ?_
          refine Ops.go (O.callv I Tryz.call45 (hm ▸ Digits_ok _ I.base_ok m (by omega)) rfl ?_)
          intro w I
          refine Ops.y (v := .string _) (Y.adds rfl rfl (by omega)) ?_
          refine Ops.y (v := .string _) (Y.assign rfl) ?_
          refine Ops.nil ?_
          exact ⟨(), ⟨rfl, by rw [hv, hv2]; rfl, rfl, rfl, trivial⟩, I⟩
      have hv : s2 = s1 := by rw [← hs2]; unfold valS; rw [if_neg h11]
      refine WP.skip ?_
      exact ⟨(), ⟨rfl, by rw [hv]; rfl, rfl, rfl, trivial⟩, I⟩
    rintro _ e w I
    refine WP.seq ?_
    refine WP.seq ?_
    refine WP.region ?_
    refine Ops.y (v := .int .i64 _) (Y.assign rfl) ?_
    refine Ops.nil ?_
    refine WP.block ?_
    refine WP.loopE (σ := Nat) (fun k => [(1, .pointer (some ⟨b1, 0, none⟩)), (3, .string (bdK p.preds.xs r.body.xs s2 k)), (5, .int .i64 n), (6, .pointer (some ⟨b6, 0, none⟩)), (7, .int .i64 k)])
      (fun k w => Inv B B.h [box b6 r.enc 64, box b1 p.enc 25] w ∧ k ≤ r.body.xs.length) (fun k => r.body.xs.length - k)
      ⟨0, ⟨rfl, rfl, rfl, rfl, rfl, trivial⟩, I, Nat.zero_le _⟩ ?_
    rintro k e w ⟨I, hk⟩
    have hzb := bdK_size hX (s := s2) hb hk
    have hk3 : k * (140737488355328 + 12) ≤ 3 * (140737488355328 + 12) := Nat.mul_le_mul_right _ (by omega)
    obtain ⟨t0, ht0⟩ : ∃ s, bdK p.preds.xs r.body.xs s2 k = s := ⟨_, rfl⟩
    rw [ht0] at hzb
    rw [ht0]
    refine WP.seq ?_
    refine WP.seq ?_
    refine WP.region ?_
    refine Ops.y (v := .int .i64 _) (Y.move rfl) ?_
    refine Ops.y (v := .pointer (some ⟨_, _, none⟩)) (Y.fa fa_64_3 rfl) ?_
    refine Ops.y (v := .slice _ _ _) (Y.loadv ty_62 rfl (I.rdbox 0 rfl 4 1) rfl rfl) ?_
    refine Ops.y (v := .int .i64 _) (Y.lens Tryz.underlying62 rfl) ?_
    refine Ops.y (v := .bool (decide _)) (Y.lti rfl rfl) ?_
    refine Ops.nil ?_
    refine WP.cond_dec rfl (fun h17 => ?_) (fun h17 => ?_)
    · have hk' : k < r.body.xs.length := by omega
      have E1 := ir.body.is.at hk'
      have ib := ir.body.each _ (List.getElem_mem hk')
      have hxm := List.getElem_mem hk'
      have hgx : r.body.xs.getD k default = r.body.xs[k] := by rw [List.getD_eq_getElem?_getD, List.getElem?_eq_getElem hk']; rfl
      obtain ⟨x, hx⟩ : ∃ x, r.body.xs[k] = x := ⟨_, rfl⟩
      rw [hx] at E1 ib hxm hgx
      have ab := hb x hxm
      have haa := atomT_size (l := p.preds.xs) ab.len
      have hXa := hX _ ab.pred.1 ab.pred.2
      obtain ⟨sep, hsep⟩ : ∃ sep : ByteArray, sep = if k = 0 then ⟨#[32, 58, 45, 32]⟩ else ⟨#[44, 32]⟩ := ⟨_, rfl⟩
      have hss : sep.size ≤ 4 := by
        rw [hsep]; split
        · exact Nat.le_refl 4
        · exact (by decide : 2 ≤ 4)
      have hnk : bdK p.preds.xs r.body.xs s2 (k + 1) = (if x.neg = true then (t0 ++ sep) ++ ⟨#[33]⟩ else t0 ++ sep) ++ atomT p.preds.xs x.atom := by rw [bdK, hgx, ht0]; unfold bdS; rw [← hsep]
      have y1 : (t0 ++ sep).size ≤ t0.size + 4 := by rw [ByteArray.size_append]; omega
      have y2 : ((t0 ++ sep) ++ ⟨#[33]⟩).size ≤ t0.size + 5 := by rw [ByteArray.size_append]; exact Nat.add_le_add_right y1 1
      refine WP.skip ?_
      refine WP.seq ?_
      refine WP.block ?_
      refine WP.seq ?_
      refine WP.seq ?_
      refine WP.region ?_
      refine Ops.y (v := .int .i64 _) (Y.move rfl) ?_
      refine Ops.y (v := .bool (decide _)) (Y.eqi rfl rfl) ?_
      refine Ops.nil ?_
      refine WP.cutL (σ := Unit) (fun _ => [(1, .pointer (some ⟨b1, 0, none⟩)), (3, .string (t0 ++ sep)), (5, .int .i64 n), (6, .pointer (some ⟨b6, 0, none⟩)), (7, .int .i64 k)])
        (fun _ w => Inv B B.h [box b6 r.enc 64, box b1 p.enc 25] w) ?_ ?_
      · refine WP.cond_dec rfl (fun h19 => ?_) (fun h19 => ?_)
        · have h0 : k = 0 := by omega
          refine WP.region ?_
          refine Ops.y (v := .string _) (Y.move rfl) ?_
          refine Ops.y (v := .string _) (Y.adds rfl rfl (by show _ + 4 ≤ _; omega)) ?_
          refine Ops.y (v := .string _) (Y.assign rfl) ?_
          refine Ops.nil ?_
          exact ⟨(), ⟨rfl, by rw [hsep, if_pos h0]; rfl, rfl, rfl, rfl, trivial⟩, I⟩
        have h0 : ¬ k = 0 := by omega
        refine WP.region ?_
        refine Ops.y (v := .string _) (Y.move rfl) ?_
        refine Ops.y (v := .string _) (Y.adds rfl rfl (by show _ + 2 ≤ _; omega)) ?_
        refine Ops.y (v := .string _) (Y.assign rfl) ?_
        refine Ops.nil ?_
        exact ⟨(), ⟨rfl, by rw [hsep, if_neg h0]; rfl, rfl, rfl, rfl, trivial⟩, I⟩
      rintro _ e w I
      refine WP.seq ?_
      refine WP.seq ?_
      refine WP.region ?_
      refine Ops.y (v := .pointer (some ⟨_, _, none⟩)) (Y.fa fa_64_3 rfl) ?_
      refine Ops.y (v := .slice _ _ _) (Y.loadv ty_62 rfl (I.rdbox 0 rfl 4 1) rfl rfl) ?_
      refine Ops.y (v := .int .i64 _) (Y.move rfl) ?_
      refine Ops.y (v := .pointer (some ⟨_, _, none⟩)) (Y.idxEl E1 Tryz.underlying62 Tryz.sizeOf68 rfl rfl (Int.natCast_nonneg _) rfl) ?_
      refine Ops.y (v := .pointer (some ⟨_, _, none⟩)) (Y.fa0 fa_68_0 rfl) ?_
      refine Ops.y (v := .bool _) (Y.loadv ty_4 rfl (I.rd (E1.rd.part 0 1)) rfl rfl) ?_
      refine Ops.nil ?_
      refine WP.cond rfl (fun h22 => ?_) (fun h22 => ?_)
      · have h22 : x.neg = true := h22
        rw [if_pos h22] at hnk
        refine WP.region ?_
        refine Ops.y (v := .string _) (Y.move rfl) ?_
        refine Ops.y (v := .string _) (Y.adds rfl rfl (by show _ + 1 ≤ _; omega)) ?_
        refine Ops.y (v := .string _) (Y.assign rfl) ?_
        refine Ops.nil ?_
        refine WP.regionQ mixed I (by kernel_rfl) ?_
        refine OpsQ.y (v := .string _) (fun w I => Y.move rfl) ?_
        refine OpsQ.y (v := .pointer (some ⟨_, _, none⟩)) (fun w I => Y.fa0 fa_25_0 rfl) ?_
        refine OpsQ.y (v := .slice _ _ _) (fun w I => Y.loadv ty_22 rfl (I.rdbox 1 rfl 0 1) rfl rfl) ?_
        refine OpsQ.y (v := .pointer (some ⟨_, _, none⟩)) (fun w I => Y.fa fa_64_3 rfl) ?_
        refine OpsQ.y (v := .slice _ _ _) (fun w I => Y.loadv ty_62 rfl (I.rdbox 0 rfl 4 1) rfl rfl) ?_
        refine OpsQ.y (v := .int .i64 _) (fun w I => Y.move rfl) ?_
        refine OpsQ.y (v := .pointer (some ⟨_, _, none⟩)) (fun w I => Y.idxEl E1 Tryz.underlying62 Tryz.sizeOf68 rfl rfl (Int.natCast_nonneg _) rfl) ?_
        refine OpsQ.y (v := .pointer (some ⟨_, _, none⟩)) (fun w I => Y.fa fa_68_1 rfl) ?_
        refine OpsQ.y (v := .agg #[_, _]) (fun w I => Y.loadv ty_61 rfl (I.rd (E1.rd.part 1 2)) rfl rfl) ?_
        refine OpsQ.c (fun w I => QC.callv I Tryz.call46 (AtomText_ok _ I.base_ok p.preds hp.preds x.atom ib ab hXa) rfl) ?_
        refine OpsQ.y (v := .string _) (fun w I => Y.adds rfl rfl (by omega)) ?_
        refine OpsQ.y (v := .string _) (fun w I => Y.assign rfl) ?_
        refine OpsQ.nil ?_
        intro w I
        refine WP.region ?_
        refine Ops.y (v := .int .i64 _) (Y.move rfl) ?_
        refine Ops.y (v := .int .i64 _) (Y.addi rfl rfl ⟨by omega, by omega⟩) ?_
        refine Ops.y (v := .int .i64 _) (Y.assign rfl) ?_
        refine Ops.nil ?_
        exact ⟨k + 1, ⟨⟨rfl, by rw [hnk]; rfl, rfl, rfl, rfl, trivial⟩, I, by omega⟩, by omega⟩
      · have h22 : x.neg = false := by simpa using h22
        rw [if_neg (by rw [h22]; decide)] at hnk
        refine WP.skip ?_
        refine WP.regionQ mixed I (by kernel_rfl) ?_
        refine OpsQ.y (v := .string _) (fun w I => Y.move rfl) ?_
        refine OpsQ.y (v := .pointer (some ⟨_, _, none⟩)) (fun w I => Y.fa0 fa_25_0 rfl) ?_
        refine OpsQ.y (v := .slice _ _ _) (fun w I => Y.loadv ty_22 rfl (I.rdbox 1 rfl 0 1) rfl rfl) ?_
        refine OpsQ.y (v := .pointer (some ⟨_, _, none⟩)) (fun w I => Y.fa fa_64_3 rfl) ?_
        refine OpsQ.y (v := .slice _ _ _) (fun w I => Y.loadv ty_62 rfl (I.rdbox 0 rfl 4 1) rfl rfl) ?_
        refine OpsQ.y (v := .int .i64 _) (fun w I => Y.move rfl) ?_
        refine OpsQ.y (v := .pointer (some ⟨_, _, none⟩)) (fun w I => Y.idxEl E1 Tryz.underlying62 Tryz.sizeOf68 rfl rfl (Int.natCast_nonneg _) rfl) ?_
        refine OpsQ.y (v := .pointer (some ⟨_, _, none⟩)) (fun w I => Y.fa fa_68_1 rfl) ?_
        refine OpsQ.y (v := .agg #[_, _]) (fun w I => Y.loadv ty_61 rfl (I.rd (E1.rd.part 1 2)) rfl rfl) ?_
        refine OpsQ.c (fun w I => QC.callv I Tryz.call46 (AtomText_ok _ I.base_ok p.preds hp.preds x.atom ib ab hXa) rfl) ?_
        refine OpsQ.y (v := .string _) (fun w I => Y.adds rfl rfl (by omega)) ?_
        refine OpsQ.y (v := .string _) (fun w I => Y.assign rfl) ?_
        refine OpsQ.nil ?_
        intro w I
        refine WP.region ?_
        refine Ops.y (v := .int .i64 _) (Y.move rfl) ?_
        refine Ops.y (v := .int .i64 _) (Y.addi rfl rfl ⟨by omega, by omega⟩) ?_
        refine Ops.y (v := .int .i64 _) (Y.assign rfl) ?_
        refine Ops.nil ?_
        exact ⟨k + 1, ⟨⟨rfl, by rw [hnk]; rfl, rfl, rfl, rfl, trivial⟩, I, by omega⟩, by omega⟩
    obtain rfl : k = r.body.xs.length := by omega
    refine WP.exit ?_
    refine WP.region ?_
    refine Ops.y (v := .string _) (Y.move rfl) ?_
    refine Ops.y (v := .string _) (Y.adds rfl rfl (by show _ + 2 ≤ _; omega)) ?_
    refine Ops.y (v := .string _) (Y.assign rfl) ?_
    refine Ops.nil ?_
    refine WP.region ?_
    refine Ops.y (v := .int .i64 _) (Y.move rfl) ?_
    refine Ops.y (v := .int .i64 _) (Y.addi rfl rfl ⟨by omega, by omega⟩) ?_
    refine Ops.y (v := .int .i64 _) (Y.assign rfl) ?_
    refine Ops.nil ?_
    exact ⟨n + 1, ⟨⟨rfl, by rw [hnx, hru, ht0]; rfl, rfl, trivial⟩, I.drop, by omega⟩, by omega⟩
  obtain rfl : n = p.rules.xs.length := by omega
  refine WP.exit ?_
  refine WP.seq ?_
  refine WP.region ?_
  refine Ops.y (v := .string _) (Y.move rfl) ?_
  refine Ops.y (v := .string _) (Y.assign rfl) ?_
  refine Ops.nil ?_
  refine WP.ret ?_
  repeat (first | refine thenE_ret ?_ | refine blockE_ret ?_)
  exact retQ.mk (vs := [.string _]) rfl ⟨rfl, trivial⟩ I.ext_of (rfl)
end Go.TF
end
section
/- A strings.Builder of the call's own: its block, and the row of its bytes. -/
namespace Go.TF
open Go Go.RowKit

/-- The bytes l that the slice v owns, in a row from b0 on (its head frozen or not). -/
def rowS (e b0 : Nat) (v : Value) (l : List UInt8) : SA where
  fp := v.ownBlock.toList
  P := fun w => w.ownsRowF b0 e 1 v l.length (Lib.byteCells l)
  loc := by
    rintro w w' h ho
    exact ⟨ho.1, ho.2.imp id fun ⟨g, cap, cur, fz, hv, hg, hc, hr⟩ => ⟨g, cap, cur, fz, hv, hg, (h g (by subst hv; simp [Value.ownBlock])).trans hc, hr⟩⟩
theorem byteCells_app (l : List UInt8) (s : ByteArray) : Lib.byteCells l ++ Lib.strCells s = Lib.byteCells (l ++ s.data.toList) := by
  simp [Lib.byteCells, Lib.strCells]
section
variable {B : Base} {h : Heap} {w w' : World} {M : List SA}
/-- What was known ahead is known still, and no more. -/
theorem Inv.less {h0 : Heap} (I : Inv B h M w) (hl : h0.le h) (hB : B.h.le h0) : Inv B h0 M w :=
  ⟨I.below, hB, fun b o hb => I.new b o (hl b o hb), fun b o hb => I.imm b o (hl b o hb), fun A hA => by
    obtain ⟨h1, h2⟩ := I.own A hA
    refine ⟨h1, fun b hb => ?_⟩
    obtain ⟨k1, k2, k3⟩ := h2 b hb
    refine ⟨k1, k2, ?_⟩
    cases hh : h0 b with
    | none => rfl
    | some o => (rw [hl _ _ hh] at k3; cases k3), I.apart⟩
theorem Inv.emptyRow (I : Inv B h M w) (e b0 : Nat) : Inv B h (rowS e b0 (.slice none 0 0) [] :: M) w :=
  I.gain (Grow.refl w) (World.ownsRowF_nil w b0 e 1) (fun b hb => by simp [rowS, Value.ownBlock] at hb)
theorem Inv.setCell0 (I : Inv B h M w) (n : Nat) {b : Nat} {u v p : Value} {T : TypeId} (hn : M[n]? = some (box b [u, v] T)) : Inv B h (M.set n (box b [p, v] T)) (w.setCell ⟨b, 0, none⟩ p) := by
  have hb : w.heap[b]? = some (.cells #[u, v] T (0, 0)) := I.at n hn
  have hs : (w.setCell ⟨b, 0, none⟩ p).heap[b]? = some (.cells #[p, v] T (0, 0)) := by rw [heap_setCell_same w b 0 _ T p hb]; rfl
  refine I.stepAt n hn rfl rfl rfl (by simp [World.setCell]) (fun k _ hk' => heap_setCell_other w _ k p (fun e => hk' (by simp [box, e]))) hs (fun k hk => ?_)
  simp [box] at hk
  subst hk
  exact ⟨.inl (by simp [box]), (Array.getElem?_eq_some_iff.1 hs).1⟩
end
/-- What append of a text does to a row that the call owns, and which row is then its own. -/
theorem run_appendB {P : Program} {w : World} {T U ty el b0 : Nat} {i : TypeInfo} (ht : Und P T (.slice el)) (hu : Und P U .string) (hi : P.info? el = some i) (hz : i.zero = some (.int .u8 0) ∧ i.size = 1 ∧ i.bytes = 1)
    {v : Value} {n : Nat} {xs : List Value} (hown : w.ownsRowF b0 el 1 v n xs) (s : ByteArray) (hl : n + s.size ≤ 140737488355328) (hb : b0 ≤ w.heap.size) :
    ∃ v' w', (Builtin.append_ #[T, U] ty #[v, .string s]).run P w = .ok v' w' ∧ w'.ownsRowF b0 el 1 v' (n + s.size) (xs ++ Lib.strCells s) ∧ w.grownBy w' v.ownBlock ∧ ∀ b, v'.ownBlock = some b → v.ownBlock = some b ∨ w.heap.size ≤ b := by
  have hm : n + s.size ≤ maxLen := by simp only [maxLen]; omega
  rcases hown.2 with ⟨rfl, rfl⟩ | ⟨g, cap, cur, fz, rfl, hbg, hg, hfz, hnc, hcm, hcs, htake⟩
  · obtain ⟨v', w', h1, h2, h3, _⟩ := Lib.run_append_own_stringF (P := P) w w.heap.size T U ty el i ht hu hi hz.1 hz.2.1 hz.2.2 (.slice none 0 0) 0 xs ⟨hown.1, .inl ⟨rfl, rfl⟩⟩ s hm hl (Nat.le_refl _)
    refine ⟨v', w', h1, ⟨h2.1, h2.2.imp id fun ⟨g, cap, cur, fz, e, hg, hr⟩ => ⟨g, cap, cur, fz, e, Nat.le_trans hb hg, hr⟩⟩, h3, fun b hb' => .inr (h2.lt b hb').1⟩
  · have hxl : xs.length = n := by simpa using hown.1
    by_cases hroom : n + s.size ≤ cap
    · have hcs' : cur.size = cap := by simpa using hcs
      have hr := Lib.run_append_room_stringF (P := P) w T U ty el i ht hu hi hz.2.1 g n cap cur fz hg (by simpa using hfz) s hroom (by omega)
      obtain ⟨v', w', h1, h2, h3, _⟩ := Lib.run_append_own_stringF (P := P) w b0 T U ty el i ht hu hi hz.1 hz.2.1 hz.2.2 _ n xs hown s hm hl hb
      refine ⟨v', w', h1, h2, h3, fun b hb' => .inl ?_⟩
      have e := hr.symm.trans h1
      injection e with e1 e2
      subst e1
      exact hb'
    · have holds : ∀ j u, xs[j]? = some u → w.cell? ((⟨g, 0, none⟩ : Addr).add j) = some u := hown.cells (g := g) rfl
      have hr := Lib.run_append_grow_string (P := P) w T U ty el i (.int .u8 0) ht hu hi hz.1 ⟨g, 0, none⟩ n cap xs (by rw [hz.2.1]; simpa using hxl) holds s (by omega) (by omega) (by rw [hz.2.2]; exact growslice_fits (by omega) (by omega))
      obtain ⟨v', w', h1, h2, h3, _⟩ := Lib.run_append_own_stringF (P := P) w b0 T U ty el i ht hu hi hz.1 hz.2.1 hz.2.2 _ n xs hown s hm hl hb
      refine ⟨v', w', h1, h2, h3, fun b hb' => .inr ?_⟩
      have e := hr.symm.trans h1
      injection e with e1 e2
      subst e1
      simp [Value.ownBlock] at hb'
      omega
section
variable {P : Program} {e : Env} {w : World} {B : Base} {h : Heap} {M : List SA} {d : Option Nat} {t : TypeId} {pos : String} {af : Array Edge} {g : Option (Nat × Bool)} {K : Value → World → Prop}
/-- append(bytes, text...): behind what the slice owns. -/
theorem O.appendB {T U el b0 : Nat} {i : TypeInfo} {x y : Operand} {v : Value} {l : List UInt8} {s : ByteArray} (I : Inv B h M w) (hT : Und P T (.slice el)) (hU : Und P U .string) (hi : P.info? el = some i) (hz : i.zero = some (.int .u8 0) ∧ i.size = 1 ∧ i.bytes = 1)
    (n0 : Nat) (hn : M[n0]? = some (rowS el b0 v l)) (hx : ev e x = v) (hy : ev e y = .string s) (hl : l.length + s.size ≤ 140737488355328) (hb : b0 ≤ w.heap.size)
    (kk : ∀ a k c w', Inv B h (M.set n0 (rowS el b0 (.slice a k c) (l ++ s.data.toList))) w' → K (.slice a k c) w') : Op1 P ⟨d, .call { callee := .builtin .append, args := #[x, y], argTypes := #[T, U] }, t, pos, af, g⟩ e w K := by
  have own : w.ownsRowF b0 el 1 v l.length (Lib.byteCells l) := I.at n0 hn
  obtain ⟨v', w', hr, h2, h3, h4⟩ := run_appendB (ty := t) hT hU hi hz own s hl hb
  rw [byteCells_app] at h2
  have hlen : l.length + s.size = (l ++ s.data.toList).length := by simp
  rw [hlen] at h2
  obtain ⟨a, k, c, rfl⟩ : ∃ a k c, v' = .slice a k c := by
    rcases h2.2 with ⟨hv, _⟩ | ⟨g, cap, cur, fz, hv, _⟩
    · exact ⟨_, _, _, hv⟩
    · exact ⟨_, _, _, hv⟩
  have : (execOp (ev e) ⟨d, .call { callee := .builtin .append, args := #[x, y], argTypes := #[T, U] }, t, pos, af, g⟩).run P w = .ok (.value (.slice a k c)) w' := by
    simp [execOp, resolve, invoke, builtin, hx, hy, hr]
  unfold Op1
  rw [this]
  refine kk a k c w' (I.stepAt n0 hn h3.os h3.tape h3.output h3.size (fun b hb hm => h3.block b hb fun e => hm (by simp [rowS, ← e])) h2 fun b hb => ?_)
  have hb2 : (Value.slice a k c).ownBlock = some b := by simpa [rowS] using hb
  have hlt := h2.lt b hb2
  refine ⟨?_, hlt.2⟩
  rcases h4 b hb2 with h5 | h5
  · exact .inl (by simp [rowS, h5])
  · exact .inr h5
end
end Go.TF
end
section
/- Text, plain: where a text is cut, first places, pieces; digits. -/
namespace Go.TF
open Go

abbrev Bs := List UInt8
abbrev tx (s : ByteArray) : Bs := s.data.toList
theorem tx_app (a b : ByteArray) : tx (a ++ b) = tx a ++ tx b := by simp [tx]
theorem tx_inj {a b : ByteArray} : tx a = tx b ↔ a = b := ⟨fun h => by obtain ⟨⟨x⟩⟩ := a; obtain ⟨⟨y⟩⟩ := b; simp [tx] at h; subst h; rfl, fun h => by rw [h]⟩
theorem tx_mk (l : Bs) : tx ⟨l.toArray⟩ = l := rfl
theorem mk_tx (s : ByteArray) : (⟨(tx s).toArray⟩ : ByteArray) = s := by obtain ⟨⟨l⟩⟩ := s; rfl
theorem tx_len (s : ByteArray) : (tx s).length = s.size := by simp [tx]
theorem occ_get {s sub : Bs} {i k : Nat} (h : Lib.occAt s sub i = true) (hk : k < sub.length) : s[i + k]? = sub[k]? := by
  unfold Lib.occAt at h
  obtain ⟨r, hr⟩ := List.isPrefixOf_iff_prefix.1 h
  have : (s.drop i)[k]? = sub[k]? := by rw [← hr, List.getElem?_append_left hk]
  simpa using this
theorem occ_here {a b sep : Bs} : Lib.occAt (a ++ (sep ++ b)) sep a.length = true := by
  unfold Lib.occAt
  simp
/-- The first place of a text of which one byte stands nowhere ahead. -/
theorem first_at {a b sep : Bs} {c : UInt8} {k : Nat} (hk : sep[k]? = some c) (hc : c ∉ a) (hs : ∀ j, j < k → sep[j]? ≠ some c) : Lib.index (a ++ (sep ++ b)) sep = a.length := by
  have hkl : k < sep.length := (List.getElem?_eq_some_iff.1 hk).1
  refine Lib.index_first (by simp) occ_here fun j hj => ?_
  cases ho : Lib.occAt (a ++ (sep ++ b)) sep j with
  | false => rfl
  | true =>
    exfalso
    have h1 := occ_get ho hkl
    rw [hk] at h1
    by_cases h2 : j + k < a.length
    · rw [List.getElem?_append_left h2] at h1
      exact hc (List.mem_of_getElem? h1)
    · rw [List.getElem?_append_right (by omega), List.getElem?_append_left (by omega)] at h1
      exact hs (j + k - a.length) (by omega) h1
theorem first_no {a sep : Bs} {c : UInt8} (hk : c ∈ sep) (hc : c ∉ a) : Lib.index a sep = -1 := by
  obtain ⟨k, hkl, hk⟩ := List.getElem_of_mem hk
  refine Lib.index_none fun j _ => ?_
  cases ho : Lib.occAt a sep j with
  | false => rfl
  | true =>
    have h1 := occ_get ho hkl
    rw [List.getElem?_eq_getElem hkl, hk] at h1
    exact absurd (List.mem_of_getElem? h1) hc
theorem cut_of {a b sep : Bs} (h : Lib.index (a ++ (sep ++ b)) sep = a.length) : Lib.cut (a ++ (sep ++ b)) sep = (a, b, true) := by
  unfold Lib.cut
  rw [h, if_pos (by omega)]
  simp
theorem cut_none {a sep : Bs} (h : Lib.index a sep = -1) : Lib.cut a sep = (a, [], false) := by
  unfold Lib.cut
  rw [h, if_neg (by omega)]
theorem cut1 {a b : Bs} {c : UInt8} (hc : c ∉ a) : Lib.cut (a ++ ([c] ++ b)) [c] = (a, b, true) := cut_of (first_at (k := 0) rfl hc fun j hj => by omega)
theorem cut2 {a b t : Bs} {c d : UInt8} (hd : d ∉ a) (hne : c ≠ d) : Lib.cut (a ++ ((c :: d :: t) ++ b)) (c :: d :: t) = (a, b, true) :=
  cut_of (first_at (k := 1) rfl hd fun j hj => by
    have : j = 0 := by omega
    subst this
    exact fun e => hne (by simpa using e))
theorem cut_miss {a sep : Bs} {c : UInt8} (hk : c ∈ sep) (hc : c ∉ a) : Lib.cut a sep = (a, [], false) := cut_none (first_no hk hc)
theorem split_of {a b sep : Bs} (h0 : sep ≠ []) (h : Lib.index (a ++ (sep ++ b)) sep = a.length) : Lib.split (a ++ (sep ++ b)) sep = a :: Lib.split b sep := by
  unfold Lib.split
  have hd : (a ++ (sep ++ b)).drop (a.length + sep.length) = b := by rw [← List.drop_drop]; simp
  rw [Lib.count_hit h0 h, hd, Nat.add_comm, Lib.splitK, h, if_neg (by simp)]
  simp [hd]
theorem split_none {a sep : Bs} (h : Lib.index a sep = -1) : Lib.split a sep = [a] := by
  unfold Lib.split
  rw [Lib.count_miss h]; rfl
/-- Texts, one text between each two. -/
def joinT (sep : Bs) : List Bs → Bs
  | [] => []
  | [x] => x
  | x :: y :: r => x ++ (sep ++ joinT sep (y :: r))
theorem split_join1 {c : UInt8} : ∀ {l : List Bs}, l ≠ [] → (∀ x ∈ l, c ∉ x) → Lib.split (joinT [c] l) [c] = l
  | [], h, _ => absurd rfl h
  | [x], _, h => split_none (first_no (List.mem_singleton.2 rfl) (h x (by simp)))
  | x :: y :: r, _, h => by
    rw [joinT, split_of (by simp) (first_at (k := 0) rfl (h x (by simp)) fun j hj => by omega), split_join1 (by simp) fun z hz => h z (List.mem_cons_of_mem _ hz)]
theorem split_join2 {c d : UInt8} (hne : c ≠ d) : ∀ {l : List Bs}, l ≠ [] → (∀ x ∈ l, d ∉ x) → Lib.split (joinT [c, d] l) [c, d] = l
  | [], h, _ => absurd rfl h
  | [x], _, h => split_none (first_no (c := d) (by simp) (h x (by simp)))
  | x :: y :: r, _, h => by
    rw [joinT, split_of (by simp) (first_at (k := 1) rfl (h x (by simp)) fun j hj => ?_), split_join2 hne (by simp) fun z hz => h z (List.mem_cons_of_mem _ hz)]
    have : j = 0 := by omega
    subst this
    exact fun e => hne (by simpa using e)
/-! ### Suffixes -/
theorem suf_app (a p : Bs) : Lib.hasSuffix (a ++ p) p = true := by
  unfold Lib.hasSuffix
  rw [List.isSuffixOf_iff_suffix]
  exact List.suffix_append a p
theorem trimS_app (a p : Bs) : Lib.trimSuffix (a ++ p) p = a := by
  unfold Lib.trimSuffix
  rw [if_pos (suf_app a p)]
  simp
theorem suf_no {a : Bs} {c : UInt8} (h : c ∉ a) : Lib.hasSuffix a [c] = false := by
  cases hh : Lib.hasSuffix a [c] with
  | false => rfl
  | true =>
    unfold Lib.hasSuffix at hh
    rw [List.isSuffixOf_iff_suffix] at hh
    exact absurd (hh.subset (by simp)) h
theorem pre_app (a p : Bs) : Lib.hasPrefix (p ++ a) p = true := by
  unfold Lib.hasPrefix
  rw [List.isPrefixOf_iff_prefix]
  exact List.prefix_append p a
theorem trimP_app (a p : Bs) : Lib.trimPrefix (p ++ a) p = a := by
  unfold Lib.trimPrefix
  rw [if_pos (pre_app a p)]
  simp
/-! ### Digits -/
def dgL (n : Nat) : Bs := if n < 10 then [UInt8.ofNat (48 + n)] else [UInt8.ofNat (48 + n / 10 % 10), UInt8.ofNat (48 + n % 10)]
/-- The number that digits may say. -/
def saidL (s : Bs) : Int := if 1 ≤ s.length ∧ s.length ≤ 6 then s.foldl (fun n c => 10 * n + (c.toNat : Int) - 48) 0 else 0
def numR (s : Bs) : Option Int := match Lib.atoiAll s with | .ok v => some v | _ => none
theorem dg_said : ∀ n : Fin 100, saidL (dgL n.val) = n.val := by decide +kernel
theorem dg_num : ∀ n : Fin 100, numR (dgL n.val) = some (n.val : Int) := by decide +kernel
def digB (c : UInt8) : Bool := decide (48 ≤ c.toNat) && decide (c.toNat ≤ 57)
theorem dg_dig : ∀ n : Fin 100, (dgL n.val).all digB = true := by decide +kernel
theorem said_dg {n : Nat} (h : n < 100) : saidL (dgL n) = n := dg_said ⟨n, h⟩
theorem num_dg {n : Nat} (h : n < 100) : numR (dgL n) = some (n : Int) := dg_num ⟨n, h⟩
theorem dig_dg {n : Nat} (h : n < 100) {c : UInt8} (hc : c ∈ dgL n) : digB c = true := (List.all_eq_true.1 (dg_dig ⟨n, h⟩)) c hc
theorem dg_not {n : Nat} (h : n < 100) {c : UInt8} (hc : digB c = false) : c ∉ dgL n := fun hm => by rw [dig_dg h hm] at hc; cases hc
end Go.TF
end
section
/- Contracts of the library at this program, made by the kit's own tools. -/
namespace Go.Proofs
open Go.Shelf
def Tryz.lays169_ren : Go.Shelf.Ren := ⟨fun | 169 => 27 | n => n, fun | 70 => 48 | 9 => 9 | 0 => 0 | 72 => 51 | 37 => 49 | 127 => 112 | 3 => 3 | 5 => 5 | n => n, fun | n => n⟩
theorem Tryz.lays169 : Go.Proofs.Lays.n169 Tryz.prog Tryz.lays169_ren := {
  mixed := by kernel_rfl
  f169 := Tryz.func27.trans (congrArg some (by kernel_rfl))
  t0 := Tryz.underlying0
  a0 := Tryz.isAgg0
  z0 := Tryz.sizeOf0
  v0 := Tryz.zeroValue0
  t3 := Tryz.underlying3
  a3 := Tryz.isAgg3
  z3 := Tryz.sizeOf3
  v3 := Tryz.zeroValue3
  t9 := Tryz.underlying9
  a9 := Tryz.isAgg9
  z9 := Tryz.sizeOf9
  v9 := Tryz.zeroValue9
  t37 := Tryz.underlying49
  a37 := Tryz.isAgg49
  z37 := Tryz.sizeOf49
  v37 := Tryz.zeroValue49
  t70 := Tryz.underlying48
  a70 := Tryz.isAgg48
  z70 := Tryz.sizeOf48
  v70 := Tryz.zeroValue48
  t72 := Tryz.underlying51
  a72 := Tryz.isAgg51
  z72 := Tryz.sizeOf51
  v72 := Tryz.zeroValue51
  t127 := Tryz.underlying112
  a127 := Tryz.isAgg112
  z127 := Tryz.sizeOf112
  v127 := Tryz.zeroValue112 }
theorem Tryz.Builder_Extra_169 : Builder.Extra Tryz.prog Tryz.lays169_ren := {
  sizeBuilder := by kernel_rfl
  liesBuilder := by kernel_rfl
  t5 := Tryz.underlying5
  a5 := Tryz.isAgg5
  z5 := Tryz.sizeOf5
  v5 := Tryz.zeroValue5
  infoByte := by kernel_rfl
  cellsByte := by kernel_rfl
  sizeByte := by kernel_rfl
  neB5 := by decide }
def Tryz.lays156_ren : Go.Shelf.Ren := ⟨fun | 156 => 26 | 165 => 66 | 166 => 23 | 169 => 27 | 240 => 63 | 241 => 123 | 276 => 121 | 277 => 167 | n => n, fun | 31 => 66 | 9 => 9 | 3 => 3 | 4 => 4 | 0 => 0 | 20 => 20 | 72 => 51 | 76 => 56 | 70 => 48 | 37 => 49 | 75 => 55 | 127 => 112 | 164 => 161 | 5 => 5 | 80 => 70 | n => n, fun | n => n⟩
theorem Tryz.lays156 : Go.Proofs.Lays.n156 Tryz.prog Tryz.lays156_ren := {
  mixed := by kernel_rfl
  f156 := Tryz.func26.trans (congrArg some (by kernel_rfl))
  f165 := Tryz.func66.trans (congrArg some (by kernel_rfl))
  f166 := Tryz.func23.trans (congrArg some (by kernel_rfl))
  f169 := Tryz.func27.trans (congrArg some (by kernel_rfl))
  f240 := Tryz.func63.trans (congrArg some (by kernel_rfl))
  f241 := Tryz.func123.trans (congrArg some (by kernel_rfl))
  f276 := Tryz.func121.trans (congrArg some (by kernel_rfl))
  f277 := Tryz.func167.trans (congrArg some (by kernel_rfl))
  t0 := Tryz.underlying0
  a0 := Tryz.isAgg0
  z0 := Tryz.sizeOf0
  v0 := Tryz.zeroValue0
  t3 := Tryz.underlying3
  a3 := Tryz.isAgg3
  z3 := Tryz.sizeOf3
  v3 := Tryz.zeroValue3
  t4 := Tryz.underlying4
  a4 := Tryz.isAgg4
  z4 := Tryz.sizeOf4
  v4 := Tryz.zeroValue4
  t9 := Tryz.underlying9
  a9 := Tryz.isAgg9
  z9 := Tryz.sizeOf9
  v9 := Tryz.zeroValue9
  t20 := Tryz.underlying20
  a20 := Tryz.isAgg20
  z20 := Tryz.sizeOf20
  v20 := Tryz.zeroValue20
  t31 := Tryz.underlying66
  a31 := Tryz.isAgg66
  z31 := Tryz.sizeOf66
  v31 := Tryz.zeroValue66
  t37 := Tryz.underlying49
  a37 := Tryz.isAgg49
  z37 := Tryz.sizeOf49
  v37 := Tryz.zeroValue49
  t70 := Tryz.underlying48
  a70 := Tryz.isAgg48
  z70 := Tryz.sizeOf48
  v70 := Tryz.zeroValue48
  t72 := Tryz.underlying51
  a72 := Tryz.isAgg51
  z72 := Tryz.sizeOf51
  v72 := Tryz.zeroValue51
  t75 := Tryz.underlying55
  a75 := Tryz.isAgg55
  z75 := Tryz.sizeOf55
  v75 := Tryz.zeroValue55
  t76 := Tryz.underlying56
  a76 := Tryz.isAgg56
  z76 := Tryz.sizeOf56
  v76 := Tryz.zeroValue56
  t127 := Tryz.underlying112
  a127 := Tryz.isAgg112
  z127 := Tryz.sizeOf112
  v127 := Tryz.zeroValue112
  t164 := Tryz.underlying161
  a164 := Tryz.isAgg161
  z164 := Tryz.sizeOf161
  v164 := Tryz.zeroValue161 }
theorem Tryz.Builder_Extra_156 : Builder.Extra Tryz.prog Tryz.lays156_ren := {
  sizeBuilder := by kernel_rfl
  liesBuilder := by kernel_rfl
  t5 := Tryz.underlying5
  a5 := Tryz.isAgg5
  z5 := Tryz.sizeOf5
  v5 := Tryz.zeroValue5
  infoByte := by kernel_rfl
  cellsByte := by kernel_rfl
  sizeByte := by kernel_rfl
  neB5 := by decide }
open Go.RowKit in
theorem Tryz.strings_Join_none (a : Option Addr) (c : Nat) (sep : ByteArray) (w : World) :
    Calls Tryz.prog 26 #[.slice a 0 c, .string sep] w fun e w' => e = .returned (.string ⟨#[]⟩) ∧ w' = w := Any.strings_Join_none Tryz.lays156 Tryz.Builder_Extra_156 a c sep w
open Go.RowKit in
theorem Tryz.strings_Join (bk o c : Nat) (xs : List ByteArray) (sep : ByteArray) (w : World) (hcells : ∀ (j : Nat) x, xs[j]? = some x → w.cell? ⟨bk, o + j, none⟩ = some (.string x)) (hbk : bk < w.heap.size) (hN : xs.length ≤ 140737488355328) (hcap : xs.length ≤ c) (hlen : (Lib.join (xs.map (·.data.toList)) sep.data.toList).length ≤ 140737488355328) :
    Calls Tryz.prog 26 #[.slice (some ⟨bk, o, none⟩) xs.length c, .string sep] w fun e w' => e = .returned (.string ⟨(Lib.join (xs.map (·.data.toList)) sep.data.toList).toArray⟩) ∧ Below w.heap.size w w' := Any.strings_Join Tryz.lays156 Tryz.Builder_Extra_156 bk o c xs sep w hcells hbk hN hcap hlen
def Tryz.lays137_ren : Go.Shelf.Ren := ⟨fun | 137 => 68 | 217 => 124 | 266 => 168 | n => n, fun | 9 => 9 | 5 => 5 | 3 => 3 | n => n, fun | n => n⟩
theorem Tryz.lays137 : Go.Proofs.Lays.n137 Tryz.prog Tryz.lays137_ren := {
  mixed := by kernel_rfl
  f137 := Tryz.func68.trans (congrArg some (by kernel_rfl))
  f217 := Tryz.func124.trans (congrArg some (by kernel_rfl))
  f266 := Tryz.func168.trans (congrArg some (by kernel_rfl))
  t3 := Tryz.underlying3
  a3 := Tryz.isAgg3
  z3 := Tryz.sizeOf3
  v3 := Tryz.zeroValue3
  t5 := Tryz.underlying5
  a5 := Tryz.isAgg5
  z5 := Tryz.sizeOf5
  v5 := Tryz.zeroValue5
  t9 := Tryz.underlying9
  a9 := Tryz.isAgg9
  z9 := Tryz.sizeOf9
  v9 := Tryz.zeroValue9 }
open Go.RowKit in
theorem Tryz.strings_IndexByte (s : ByteArray) (c : Int) (w : World) :
    Calls Tryz.prog 68 #[.string s, .int .u8 c] w fun e w' => e = .returned (.int .i64 (Lib.indexByte s.data.toList c.toNat.toUInt8)) ∧ w' = w := Any.strings_IndexByte Tryz.lays137 s c w
def Tryz.lays103_ren : Go.Shelf.Ren := ⟨fun | 103 => 69 | 210 => 125 | 206 => 169 | n => n, fun | 9 => 9 | 4 => 4 | 24 => 114 | 3 => 3 | n => n, fun | n => n⟩
theorem Tryz.lays103 : Go.Proofs.Lays.n103 Tryz.prog Tryz.lays103_ren := {
  mixed := by kernel_rfl
  f103 := Tryz.func69.trans (congrArg some (by kernel_rfl))
  f206 := Tryz.func169.trans (congrArg some (by kernel_rfl))
  f210 := Tryz.func125.trans (congrArg some (by kernel_rfl))
  t3 := Tryz.underlying3
  a3 := Tryz.isAgg3
  z3 := Tryz.sizeOf3
  v3 := Tryz.zeroValue3
  t4 := Tryz.underlying4
  a4 := Tryz.isAgg4
  z4 := Tryz.sizeOf4
  v4 := Tryz.zeroValue4
  t9 := Tryz.underlying9
  a9 := Tryz.isAgg9
  z9 := Tryz.sizeOf9
  v9 := Tryz.zeroValue9
  t24 := Tryz.underlying114
  a24 := Tryz.isAgg114
  z24 := Tryz.sizeOf114
  v24 := Tryz.zeroValue114 }
open Go.RowKit in
theorem Tryz.strings_CutPrefix (s p : ByteArray) (w : World) :
    Calls Tryz.prog 69 #[.string s, .string p] w fun e w' => e = .returned (.tuple #[.string ⟨(Lib.trimPrefix s.data.toList p.data.toList).toArray⟩, .bool (Lib.hasPrefix s.data.toList p.data.toList)]) ∧ w' = w := Any.strings_CutPrefix Tryz.lays103 s p w
def Tryz.lays104_ren : Go.Shelf.Ren := ⟨fun | 104 => 72 | 211 => 128 | 207 => 87 | n => n, fun | 9 => 9 | 4 => 4 | 24 => 114 | 3 => 3 | n => n, fun | n => n⟩
theorem Tryz.lays104 : Go.Proofs.Lays.n104 Tryz.prog Tryz.lays104_ren := {
  mixed := by kernel_rfl
  f104 := Tryz.func72.trans (congrArg some (by kernel_rfl))
  f207 := Tryz.func87.trans (congrArg some (by kernel_rfl))
  f211 := Tryz.func128.trans (congrArg some (by kernel_rfl))
  t3 := Tryz.underlying3
  a3 := Tryz.isAgg3
  z3 := Tryz.sizeOf3
  v3 := Tryz.zeroValue3
  t4 := Tryz.underlying4
  a4 := Tryz.isAgg4
  z4 := Tryz.sizeOf4
  v4 := Tryz.zeroValue4
  t9 := Tryz.underlying9
  a9 := Tryz.isAgg9
  z9 := Tryz.sizeOf9
  v9 := Tryz.zeroValue9
  t24 := Tryz.underlying114
  a24 := Tryz.isAgg114
  z24 := Tryz.sizeOf114
  v24 := Tryz.zeroValue114 }
open Go.RowKit in
theorem Tryz.strings_CutSuffix (s p : ByteArray) (w : World) (hs : s.size ≤ 9223372036854775807) :
    Calls Tryz.prog 72 #[.string s, .string p] w fun e w' => e = .returned (.tuple #[.string ⟨(Lib.trimSuffix s.data.toList p.data.toList).toArray⟩, .bool (Lib.hasSuffix s.data.toList p.data.toList)]) ∧ w' = w := Any.strings_CutSuffix Tryz.lays104 s p w hs
open Go.RowKit in
theorem Tryz.Builder_String_any_f (B b : Nat) (l : List UInt8) (w : World) (h : Lib.IsBuilderF 51 5 B b (Lib.byteCells l) w) (hBw : B ≤ w.heap.size) :
    Calls Tryz.prog 27 #[.pointer (some ⟨b, 0, none⟩)] w fun e w' => e = .returned (.string ⟨l.toArray⟩) ∧ (Lib.IsBuilderF 51 5 B b (Lib.byteCells l) w' ∧ Below B w w') := Any.Builder_String_any_f Tryz.lays169 Tryz.Builder_Extra_169 B b l w h hBw
def Tryz.lays171_ren : Go.Shelf.Ren := ⟨fun | 171 => 24 | 243 => 64 | 246 => 122 | 283 => 163 | 284 => 164 | 285 => 165 | 286 => 166 | 129 => 203 | 317 => 202 | 318 => 204 | 319 => 205 | 320 => 206 | 337 => 227 | 338 => 228 | n => n, fun | 3 => 3 | 9 => 9 | 2 => 2 | 4 => 4 | 171 => 198 | 0 => 0 | 53 => 199 | 37 => 49 | 5 => 5 | 173 => 202 | 212 => 226 | 51 => 227 | 20 => 20 | 213 => 228 | 46 => 210 | 232 => 264 | 233 => 265 | n => n, fun | 17 => 1 | 18 => 4 | 19 => 5 | n => n⟩
theorem Tryz.lays171 : Go.Proofs.Lays.n171 Tryz.prog Tryz.lays171_ren := {
  mixed := by kernel_rfl
  f129 := Tryz.func203.trans (congrArg some (by kernel_rfl))
  f171 := Tryz.func24.trans (congrArg some (by kernel_rfl))
  f243 := Tryz.func64.trans (congrArg some (by kernel_rfl))
  f246 := Tryz.func122.trans (congrArg some (by kernel_rfl))
  f283 := Tryz.func163.trans (congrArg some (by kernel_rfl))
  f284 := Tryz.func164.trans (congrArg some (by kernel_rfl))
  f285 := Tryz.func165.trans (congrArg some (by kernel_rfl))
  f286 := Tryz.func166.trans (congrArg some (by kernel_rfl))
  f317 := Tryz.func202.trans (congrArg some (by kernel_rfl))
  f318 := Tryz.func204.trans (congrArg some (by kernel_rfl))
  f319 := Tryz.func205.trans (congrArg some (by kernel_rfl))
  f320 := Tryz.func206.trans (congrArg some (by kernel_rfl))
  f337 := Tryz.func227.trans (congrArg some (by kernel_rfl))
  f338 := Tryz.func228.trans (congrArg some (by kernel_rfl))
  t0 := Tryz.underlying0
  a0 := Tryz.isAgg0
  z0 := Tryz.sizeOf0
  v0 := Tryz.zeroValue0
  t2 := Tryz.underlying2
  a2 := Tryz.isAgg2
  z2 := Tryz.sizeOf2
  v2 := Tryz.zeroValue2
  t3 := Tryz.underlying3
  a3 := Tryz.isAgg3
  z3 := Tryz.sizeOf3
  v3 := Tryz.zeroValue3
  t4 := Tryz.underlying4
  a4 := Tryz.isAgg4
  z4 := Tryz.sizeOf4
  v4 := Tryz.zeroValue4
  t5 := Tryz.underlying5
  a5 := Tryz.isAgg5
  z5 := Tryz.sizeOf5
  v5 := Tryz.zeroValue5
  t9 := Tryz.underlying9
  a9 := Tryz.isAgg9
  z9 := Tryz.sizeOf9
  v9 := Tryz.zeroValue9
  t20 := Tryz.underlying20
  a20 := Tryz.isAgg20
  z20 := Tryz.sizeOf20
  v20 := Tryz.zeroValue20
  t37 := Tryz.underlying49
  a37 := Tryz.isAgg49
  z37 := Tryz.sizeOf49
  v37 := Tryz.zeroValue49
  t46 := Tryz.underlying210
  a46 := Tryz.isAgg210
  z46 := Tryz.sizeOf210
  v46 := Tryz.zeroValue210
  t51 := Tryz.underlying227
  a51 := Tryz.isAgg227
  z51 := Tryz.sizeOf227
  v51 := Tryz.zeroValue227
  t53 := Tryz.underlying199
  a53 := Tryz.isAgg199
  z53 := Tryz.sizeOf199
  v53 := Tryz.zeroValue199
  t171 := Tryz.underlying198
  a171 := Tryz.isAgg198
  z171 := Tryz.sizeOf198
  v171 := Tryz.zeroValue198
  t173 := Tryz.underlying202
  a173 := Tryz.isAgg202
  z173 := Tryz.sizeOf202
  v173 := Tryz.zeroValue202
  t212 := Tryz.underlying226
  a212 := Tryz.isAgg226
  z212 := Tryz.sizeOf226
  v212 := Tryz.zeroValue226
  t213 := Tryz.underlying228
  a213 := Tryz.isAgg228
  z213 := Tryz.sizeOf228
  t232 := Tryz.underlying264
  a232 := Tryz.isAgg264
  z232 := Tryz.sizeOf264
  v232 := Tryz.zeroValue264
  t233 := Tryz.underlying265
  a233 := Tryz.isAgg265
  z233 := Tryz.sizeOf265
  v233 := Tryz.zeroValue265
  g17 := by kernel_rfl
  g18 := by kernel_rfl
  g19 := by kernel_rfl }
open Go.RowKit Go.Sort Go.Lib in
theorem Tryz.strconv_Itoa_small (i : Nat) (hi : i < 100) (w : World) :
    Calls Tryz.prog 24 #[.int .i64 i] w fun e w' => e = .returned (.string ⟨(Lib.decDigits i).toArray⟩) ∧ w' = w := Any.strconv_Itoa_small Tryz.lays171 i hi w
def Tryz.laysC172_ren : Go.Shelf.Ren := ⟨fun | 172 => 127 | 244 => 171 | 245 => 172 | 247 => 208 | 279 => 209 | 280 => 210 | 281 => 211 | 282 => 212 | 287 => 230 | 316 => 231 | 171 => 24 | 205 => 232 | 321 => 241 | 322 => 242 | 243 => 64 | 246 => 122 | 283 => 163 | 284 => 164 | 285 => 165 | 286 => 166 | 129 => 203 | 317 => 202 | 318 => 204 | 319 => 205 | 320 => 206 | 337 => 227 | 338 => 228 | n => n, fun | 9 => 9 | 3 => 3 | 75 => 55 | 76 => 56 | 4 => 4 | 5 => 5 | 167 => 232 | 37 => 49 | 0 => 0 | 85 => 233 | 2 => 2 | 168 => 235 | 53 => 199 | 175 => 258 | 46 => 210 | 210 => 261 | 127 => 112 | 145 => 273 | 143 => 271 | 21 => 21 | 171 => 198 | 173 => 202 | 212 => 226 | 51 => 227 | 20 => 20 | 213 => 228 | 232 => 264 | 233 => 265 | 80 => 70 | n => n, fun | 15 => 2 | 16 => 3 | 17 => 1 | 18 => 4 | 19 => 5 | n => n⟩
theorem Tryz.laysC172 : Go.Proofs.LaysC.n172 Tryz.prog Tryz.laysC172_ren := {
  mixed := by kernel_rfl
  f129 := Tryz.func203.trans (congrArg some (by kernel_rfl))
  f171 := Tryz.func24.trans (congrArg some (by kernel_rfl))
  f172 := Tryz.func127.trans (congrArg some (by kernel_rfl))
  f205 := Tryz.func232.trans (congrArg some (by kernel_rfl))
  f243 := Tryz.func64.trans (congrArg some (by kernel_rfl))
  f244 := Tryz.func171.trans (congrArg some (by kernel_rfl))
  f245 := Tryz.func172.trans (congrArg some (by kernel_rfl))
  f246 := Tryz.func122.trans (congrArg some (by kernel_rfl))
  f247 := Tryz.func208.trans (congrArg some (by kernel_rfl))
  f279 := Tryz.func209.trans (congrArg some (by kernel_rfl))
  f280 := Tryz.func210.trans (congrArg some (by kernel_rfl))
  f281 := Tryz.func211.trans (congrArg some (by kernel_rfl))
  f282 := Tryz.func212.trans (congrArg some (by kernel_rfl))
  f283 := Tryz.func163.trans (congrArg some (by kernel_rfl))
  f284 := Tryz.func164.trans (congrArg some (by kernel_rfl))
  f285 := Tryz.func165.trans (congrArg some (by kernel_rfl))
  f286 := Tryz.func166.trans (congrArg some (by kernel_rfl))
  f287 := Tryz.func230.trans (congrArg some (by kernel_rfl))
  f316 := Tryz.func231.trans (congrArg some (by kernel_rfl))
  f317 := Tryz.func202.trans (congrArg some (by kernel_rfl))
  f318 := Tryz.func204.trans (congrArg some (by kernel_rfl))
  f319 := Tryz.func205.trans (congrArg some (by kernel_rfl))
  f320 := Tryz.func206.trans (congrArg some (by kernel_rfl))
  f321 := Tryz.func241.trans (congrArg some (by kernel_rfl))
  f322 := Tryz.func242.trans (congrArg some (by kernel_rfl))
  f337 := Tryz.func227.trans (congrArg some (by kernel_rfl))
  f338 := Tryz.func228.trans (congrArg some (by kernel_rfl))
  t0 := Tryz.underlying0
  a0 := Tryz.isAgg0
  z0 := Tryz.sizeOf0
  v0 := Tryz.zeroValue0
  t2 := Tryz.underlying2
  a2 := Tryz.isAgg2
  z2 := Tryz.sizeOf2
  v2 := Tryz.zeroValue2
  t3 := Tryz.underlying3
  a3 := Tryz.isAgg3
  z3 := Tryz.sizeOf3
  v3 := Tryz.zeroValue3
  t4 := Tryz.underlying4
  a4 := Tryz.isAgg4
  z4 := Tryz.sizeOf4
  v4 := Tryz.zeroValue4
  t5 := Tryz.underlying5
  a5 := Tryz.isAgg5
  z5 := Tryz.sizeOf5
  v5 := Tryz.zeroValue5
  t9 := Tryz.underlying9
  a9 := Tryz.isAgg9
  z9 := Tryz.sizeOf9
  v9 := Tryz.zeroValue9
  t20 := Tryz.underlying20
  a20 := Tryz.isAgg20
  z20 := Tryz.sizeOf20
  v20 := Tryz.zeroValue20
  t21 := Tryz.underlying21
  a21 := Tryz.isAgg21
  z21 := Tryz.sizeOf21
  v21 := Tryz.zeroValue21
  t37 := Tryz.underlying49
  a37 := Tryz.isAgg49
  z37 := Tryz.sizeOf49
  v37 := Tryz.zeroValue49
  t46 := Tryz.underlying210
  a46 := Tryz.isAgg210
  z46 := Tryz.sizeOf210
  v46 := Tryz.zeroValue210
  t51 := Tryz.underlying227
  a51 := Tryz.isAgg227
  z51 := Tryz.sizeOf227
  v51 := Tryz.zeroValue227
  t53 := Tryz.underlying199
  a53 := Tryz.isAgg199
  z53 := Tryz.sizeOf199
  v53 := Tryz.zeroValue199
  t75 := Tryz.underlying55
  a75 := Tryz.isAgg55
  z75 := Tryz.sizeOf55
  v75 := Tryz.zeroValue55
  t76 := Tryz.underlying56
  a76 := Tryz.isAgg56
  z76 := Tryz.sizeOf56
  v76 := Tryz.zeroValue56
  t85 := Tryz.underlying233
  a85 := Tryz.isAgg233
  z85 := Tryz.sizeOf233
  v85 := Tryz.zeroValue233
  t127 := Tryz.underlying112
  a127 := Tryz.isAgg112
  z127 := Tryz.sizeOf112
  v127 := Tryz.zeroValue112
  t143 := Tryz.underlying271
  a143 := Tryz.isAgg271
  z143 := Tryz.sizeOf271
  v143 := Tryz.zeroValue271
  t145 := Tryz.underlying273
  a145 := Tryz.isAgg273
  z145 := Tryz.sizeOf273
  v145 := Tryz.zeroValue273
  t167 := Tryz.underlying232
  a167 := Tryz.isAgg232
  z167 := Tryz.sizeOf232
  v167 := Tryz.zeroValue232
  t168 := Tryz.underlying235
  a168 := Tryz.isAgg235
  z168 := Tryz.sizeOf235
  v168 := Tryz.zeroValue235
  t171 := Tryz.underlying198
  a171 := Tryz.isAgg198
  z171 := Tryz.sizeOf198
  v171 := Tryz.zeroValue198
  t173 := Tryz.underlying202
  a173 := Tryz.isAgg202
  z173 := Tryz.sizeOf202
  v173 := Tryz.zeroValue202
  t175 := Tryz.underlying258
  a175 := Tryz.isAgg258
  z175 := Tryz.sizeOf258
  v175 := Tryz.zeroValue258
  t210 := Tryz.underlying261
  a210 := Tryz.isAgg261
  z210 := Tryz.sizeOf261
  v210 := Tryz.zeroValue261
  t212 := Tryz.underlying226
  a212 := Tryz.isAgg226
  z212 := Tryz.sizeOf226
  v212 := Tryz.zeroValue226
  t213 := Tryz.underlying228
  a213 := Tryz.isAgg228
  z213 := Tryz.sizeOf228
  t232 := Tryz.underlying264
  a232 := Tryz.isAgg264
  z232 := Tryz.sizeOf264
  v232 := Tryz.zeroValue264
  t233 := Tryz.underlying265
  a233 := Tryz.isAgg265
  z233 := Tryz.sizeOf265
  v233 := Tryz.zeroValue265
  g15 := by kernel_rfl
  g16 := by kernel_rfl
  g17 := by kernel_rfl
  g18 := by kernel_rfl
  g19 := by kernel_rfl
  t80 := Tryz.underlying70
  a80 := Tryz.isAgg70
  z80 := Tryz.sizeOf70
  v80 := Tryz.zeroValue70
  i0 := by kernel_rfl
  i2 := by kernel_rfl
  i3 := by kernel_rfl
  i4 := by kernel_rfl
  i5 := by kernel_rfl
  i9 := by kernel_rfl
  i20 := by kernel_rfl
  i21 := by kernel_rfl
  i37 := by kernel_rfl
  i46 := by kernel_rfl
  i51 := by kernel_rfl
  i53 := by kernel_rfl
  i75 := by kernel_rfl
  i76 := by kernel_rfl
  i80 := by kernel_rfl
  i85 := by kernel_rfl
  i127 := by kernel_rfl
  i143 := by kernel_rfl
  i145 := by kernel_rfl
  i167 := by kernel_rfl
  i168 := by kernel_rfl
  i171 := by kernel_rfl
  i173 := by kernel_rfl
  i175 := by kernel_rfl
  i210 := by kernel_rfl
  i212 := by kernel_rfl
  i232 := by kernel_rfl
  i233 := by kernel_rfl
  m15 := by kernel_rfl
  m16 := by kernel_rfl
  m17 := by kernel_rfl
  m18 := by kernel_rfl
  m19 := by kernel_rfl
  c0 := by kernel_rfl
  c2 := by kernel_rfl
  c3 := by kernel_rfl
  c4 := by kernel_rfl
  c5 := by kernel_rfl
  c9 := by kernel_rfl
  c20 := by kernel_rfl
  c21 := by kernel_rfl
  c37 := by kernel_rfl
  c46 := by kernel_rfl
  c51 := by kernel_rfl
  c53 := by kernel_rfl
  c75 := by kernel_rfl
  c76 := by kernel_rfl
  c80 := by kernel_rfl
  c85 := by kernel_rfl
  c127 := by kernel_rfl
  c143 := by kernel_rfl
  c145 := by kernel_rfl
  c167 := by kernel_rfl
  c168 := by kernel_rfl
  c171 := by kernel_rfl
  c173 := by kernel_rfl
  c175 := by kernel_rfl
  c210 := by kernel_rfl
  c212 := by kernel_rfl
  c213 := by kernel_rfl
  c232 := by kernel_rfl
  c233 := by kernel_rfl }
open Go.RowKit in
theorem Tryz.strconv_Atoi_ok (s : ByteArray) (hmax : s.size ≤ 9223372036854775806) (v : Int) (h : Lib.atoiAll s.data.toList = .ok v) (w : World) :
    Calls Tryz.prog 127 #[.string s] w fun e w' => e = .returned (.tuple #[.int .i64 v, .nilIface]) ∧ (w' = w ∨ ∃ t, w' = Lib.bytesWorld w 5 t) := Any.strconv_Atoi_ok Tryz.laysC172 s hmax v h w
open Go.RowKit in
theorem Tryz.strconv_Atoi_range (s : ByteArray) (hlim : s.size ≤ 281474976710656) (h : Lib.atoiAll s.data.toList = .range) (ev : Value) (w : World) (hv : w.cell? ⟨3, 0, none⟩ = some ev) (hev : ev = .nilIface ∨ ∃ te pe, ev = .iface te pe) :
    Calls Tryz.prog 127 #[.string s] w fun e w' => ∃ N, e = .returned (.tuple #[.int .i64 (Lib.atoiSat s.data.toList), .iface 235 (.pointer (some ⟨N, 0, none⟩))]) ∧ w.heap.size ≤ N ∧ w'.heap[N]? = some (.cells #[.string ⟨#[65, 116, 111, 105]⟩, .string s, ev] 261 (0, 0)) ∧ Below w.heap.size w w' := Any.strconv_Atoi_range Tryz.laysC172 s hlim h ev w hv hev
def Tryz.lays143_ren : Go.Shelf.Ren := ⟨fun | 143 => 86 | 219 => 134 | 217 => 124 | 225 => 178 | 224 => 179 | 267 => 180 | 266 => 168 | 314 => 224 | n => n, fun | 9 => 9 | 3 => 3 | 4 => 4 | 5 => 5 | 46 => 210 | 146 => 252 | 51 => 227 | n => n, fun | 1 => 0 | n => n⟩
theorem Tryz.lays143 : Go.Proofs.Lays.n143 Tryz.prog Tryz.lays143_ren := {
  mixed := by kernel_rfl
  f143 := Tryz.func86.trans (congrArg some (by kernel_rfl))
  f217 := Tryz.func124.trans (congrArg some (by kernel_rfl))
  f219 := Tryz.func134.trans (congrArg some (by kernel_rfl))
  f224 := Tryz.func179.trans (congrArg some (by kernel_rfl))
  f225 := Tryz.func178.trans (congrArg some (by kernel_rfl))
  f266 := Tryz.func168.trans (congrArg some (by kernel_rfl))
  f267 := Tryz.func180.trans (congrArg some (by kernel_rfl))
  f314 := Tryz.func224.trans (congrArg some (by kernel_rfl))
  t3 := Tryz.underlying3
  a3 := Tryz.isAgg3
  z3 := Tryz.sizeOf3
  v3 := Tryz.zeroValue3
  t4 := Tryz.underlying4
  a4 := Tryz.isAgg4
  z4 := Tryz.sizeOf4
  v4 := Tryz.zeroValue4
  t5 := Tryz.underlying5
  a5 := Tryz.isAgg5
  z5 := Tryz.sizeOf5
  v5 := Tryz.zeroValue5
  t9 := Tryz.underlying9
  a9 := Tryz.isAgg9
  z9 := Tryz.sizeOf9
  v9 := Tryz.zeroValue9
  t46 := Tryz.underlying210
  a46 := Tryz.isAgg210
  z46 := Tryz.sizeOf210
  v46 := Tryz.zeroValue210
  t51 := Tryz.underlying227
  a51 := Tryz.isAgg227
  z51 := Tryz.sizeOf227
  v51 := Tryz.zeroValue227
  t146 := Tryz.underlying252
  a146 := Tryz.isAgg252
  z146 := Tryz.sizeOf252
  v146 := Tryz.zeroValue252
  g1 := by kernel_rfl }
open Go.RowKit Go.Lib in
theorem Tryz.strings_Index (s sub : ByteArray) (m : Int) (w : World) (hs : s.size < 4294967281) (hm : w.cell? ⟨0, 0, none⟩ = some (.int .i64 m)) :
    Calls Tryz.prog 86 #[.string s, .string sub] w fun e w' => e = .returned (.int .i64 (Lib.index s.data.toList sub.data.toList)) ∧ w' = w := Any.strings_Index Tryz.lays143 s sub m w hs hm
def Tryz.lays145_ren : Go.Shelf.Ren := ⟨fun | 145 => 73 | 220 => 129 | 219 => 134 | 217 => 124 | 225 => 178 | 224 => 179 | 267 => 180 | 266 => 168 | 314 => 224 | n => n, fun | 9 => 9 | 4 => 4 | 59 => 98 | 3 => 3 | 5 => 5 | 46 => 210 | 146 => 252 | 51 => 227 | n => n, fun | 1 => 0 | n => n⟩
theorem Tryz.lays145 : Go.Proofs.Lays.n145 Tryz.prog Tryz.lays145_ren := {
  mixed := by kernel_rfl
  f145 := Tryz.func73.trans (congrArg some (by kernel_rfl))
  f217 := Tryz.func124.trans (congrArg some (by kernel_rfl))
  f219 := Tryz.func134.trans (congrArg some (by kernel_rfl))
  f220 := Tryz.func129.trans (congrArg some (by kernel_rfl))
  f224 := Tryz.func179.trans (congrArg some (by kernel_rfl))
  f225 := Tryz.func178.trans (congrArg some (by kernel_rfl))
  f266 := Tryz.func168.trans (congrArg some (by kernel_rfl))
  f267 := Tryz.func180.trans (congrArg some (by kernel_rfl))
  f314 := Tryz.func224.trans (congrArg some (by kernel_rfl))
  t3 := Tryz.underlying3
  a3 := Tryz.isAgg3
  z3 := Tryz.sizeOf3
  v3 := Tryz.zeroValue3
  t4 := Tryz.underlying4
  a4 := Tryz.isAgg4
  z4 := Tryz.sizeOf4
  v4 := Tryz.zeroValue4
  t5 := Tryz.underlying5
  a5 := Tryz.isAgg5
  z5 := Tryz.sizeOf5
  v5 := Tryz.zeroValue5
  t9 := Tryz.underlying9
  a9 := Tryz.isAgg9
  z9 := Tryz.sizeOf9
  v9 := Tryz.zeroValue9
  t46 := Tryz.underlying210
  a46 := Tryz.isAgg210
  z46 := Tryz.sizeOf210
  v46 := Tryz.zeroValue210
  t51 := Tryz.underlying227
  a51 := Tryz.isAgg227
  z51 := Tryz.sizeOf227
  v51 := Tryz.zeroValue227
  t59 := Tryz.underlying98
  a59 := Tryz.isAgg98
  z59 := Tryz.sizeOf98
  v59 := Tryz.zeroValue98
  t146 := Tryz.underlying252
  a146 := Tryz.isAgg252
  z146 := Tryz.sizeOf252
  v146 := Tryz.zeroValue252
  g1 := by kernel_rfl }
open Go.RowKit Go.Lib in
theorem Tryz.strings_Cut (s sep : ByteArray) (m : Int) (w : World) (hs : s.size < 4294967281) (hm : w.cell? ⟨0, 0, none⟩ = some (.int .i64 m)) :
    Calls Tryz.prog 73 #[.string s, .string sep] w fun e w' => e = .returned (.tuple #[.string ⟨(Lib.cut s.data.toList sep.data.toList).1.toArray⟩, .string ⟨(Lib.cut s.data.toList sep.data.toList).2.1.toArray⟩, .bool (Lib.cut s.data.toList sep.data.toList).2.2]) ∧ ∃ n, w' = w.drewN n := Any.strings_Cut Tryz.lays145 s sep m w hs hm
def Tryz.lays100_ren : Go.Shelf.Ren := ⟨fun | 100 => 38 | 207 => 87 | n => n, fun | 9 => 9 | 4 => 4 | 3 => 3 | n => n, fun | n => n⟩
theorem Tryz.lays100 : Go.Proofs.Lays.n100 Tryz.prog Tryz.lays100_ren := {
  mixed := by kernel_rfl
  f100 := Tryz.func38.trans (congrArg some (by kernel_rfl))
  f207 := Tryz.func87.trans (congrArg some (by kernel_rfl))
  t3 := Tryz.underlying3
  a3 := Tryz.isAgg3
  z3 := Tryz.sizeOf3
  v3 := Tryz.zeroValue3
  t4 := Tryz.underlying4
  a4 := Tryz.isAgg4
  z4 := Tryz.sizeOf4
  v4 := Tryz.zeroValue4
  t9 := Tryz.underlying9
  a9 := Tryz.isAgg9
  z9 := Tryz.sizeOf9
  v9 := Tryz.zeroValue9 }
open Go.RowKit Go.Lib in
theorem Tryz.strings_HasSuffix (s p : ByteArray) (w : World) (hs : s.size ≤ 9223372036854775807) :
    Calls Tryz.prog 38 #[.string s, .string p] w fun e w' => e = .returned (.bool (Lib.hasSuffix s.data.toList p.data.toList)) ∧ w' = w := Any.strings_HasSuffix Tryz.lays100 s p w hs
def Tryz.lays102_ren : Go.Shelf.Ren := ⟨fun | 102 => 31 | 209 => 75 | 207 => 87 | n => n, fun | 9 => 9 | 4 => 4 | 3 => 3 | n => n, fun | n => n⟩
theorem Tryz.lays102 : Go.Proofs.Lays.n102 Tryz.prog Tryz.lays102_ren := {
  mixed := by kernel_rfl
  f102 := Tryz.func31.trans (congrArg some (by kernel_rfl))
  f207 := Tryz.func87.trans (congrArg some (by kernel_rfl))
  f209 := Tryz.func75.trans (congrArg some (by kernel_rfl))
  t3 := Tryz.underlying3
  a3 := Tryz.isAgg3
  z3 := Tryz.sizeOf3
  v3 := Tryz.zeroValue3
  t4 := Tryz.underlying4
  a4 := Tryz.isAgg4
  z4 := Tryz.sizeOf4
  v4 := Tryz.zeroValue4
  t9 := Tryz.underlying9
  a9 := Tryz.isAgg9
  z9 := Tryz.sizeOf9
  v9 := Tryz.zeroValue9 }
open Go.RowKit Go.Lib in
theorem Tryz.strings_TrimSuffix (s p : ByteArray) (w : World) (hs : s.size ≤ 9223372036854775807) :
    Calls Tryz.prog 31 #[.string s, .string p] w fun e w' => e = .returned (.string ⟨(Lib.trimSuffix s.data.toList p.data.toList).toArray⟩) ∧ w' = w := Any.strings_TrimSuffix Tryz.lays102 s p w hs
def Tryz.lays146_ren : Go.Shelf.Ren := ⟨fun | 146 => 70 | 221 => 126 | 268 => 170 | 138 => 37 | 143 => 86 | 195 => 84 | 197 => 207 | 218 => 85 | 219 => 134 | 260 => 229 | 217 => 124 | 225 => 178 | 224 => 179 | 267 => 180 | 266 => 168 | 314 => 224 | n => n, fun | 9 => 9 | 31 => 66 | 3 => 3 | 4 => 4 | 0 => 0 | 105 => 230 | 21 => 21 | 5 => 5 | 46 => 210 | 119 => 266 | 139 => 269 | 138 => 268 | 146 => 252 | 51 => 227 | n => n, fun | 1 => 0 | 3 => 6 | 4 => 7 | n => n⟩
theorem Tryz.lays146 : Go.Proofs.Lays.n146 Tryz.prog Tryz.lays146_ren := {
  mixed := by kernel_rfl
  f138 := Tryz.func37.trans (congrArg some (by kernel_rfl))
  f143 := Tryz.func86.trans (congrArg some (by kernel_rfl))
  f146 := Tryz.func70.trans (congrArg some (by kernel_rfl))
  f195 := Tryz.func84.trans (congrArg some (by kernel_rfl))
  f197 := Tryz.func207.trans (congrArg some (by kernel_rfl))
  f217 := Tryz.func124.trans (congrArg some (by kernel_rfl))
  f218 := Tryz.func85.trans (congrArg some (by kernel_rfl))
  f219 := Tryz.func134.trans (congrArg some (by kernel_rfl))
  f221 := Tryz.func126.trans (congrArg some (by kernel_rfl))
  f224 := Tryz.func179.trans (congrArg some (by kernel_rfl))
  f225 := Tryz.func178.trans (congrArg some (by kernel_rfl))
  f260 := Tryz.func229.trans (congrArg some (by kernel_rfl))
  f266 := Tryz.func168.trans (congrArg some (by kernel_rfl))
  f267 := Tryz.func180.trans (congrArg some (by kernel_rfl))
  f268 := Tryz.func170.trans (congrArg some (by kernel_rfl))
  f314 := Tryz.func224.trans (congrArg some (by kernel_rfl))
  t0 := Tryz.underlying0
  a0 := Tryz.isAgg0
  z0 := Tryz.sizeOf0
  v0 := Tryz.zeroValue0
  t3 := Tryz.underlying3
  a3 := Tryz.isAgg3
  z3 := Tryz.sizeOf3
  v3 := Tryz.zeroValue3
  t4 := Tryz.underlying4
  a4 := Tryz.isAgg4
  z4 := Tryz.sizeOf4
  v4 := Tryz.zeroValue4
  t5 := Tryz.underlying5
  a5 := Tryz.isAgg5
  z5 := Tryz.sizeOf5
  v5 := Tryz.zeroValue5
  t9 := Tryz.underlying9
  a9 := Tryz.isAgg9
  z9 := Tryz.sizeOf9
  v9 := Tryz.zeroValue9
  t21 := Tryz.underlying21
  a21 := Tryz.isAgg21
  z21 := Tryz.sizeOf21
  v21 := Tryz.zeroValue21
  t31 := Tryz.underlying66
  a31 := Tryz.isAgg66
  z31 := Tryz.sizeOf66
  v31 := Tryz.zeroValue66
  t46 := Tryz.underlying210
  a46 := Tryz.isAgg210
  z46 := Tryz.sizeOf210
  v46 := Tryz.zeroValue210
  t51 := Tryz.underlying227
  a51 := Tryz.isAgg227
  z51 := Tryz.sizeOf227
  v51 := Tryz.zeroValue227
  t105 := Tryz.underlying230
  a105 := Tryz.isAgg230
  z105 := Tryz.sizeOf230
  v105 := Tryz.zeroValue230
  t119 := Tryz.underlying266
  a119 := Tryz.isAgg266
  z119 := Tryz.sizeOf266
  t138 := Tryz.underlying268
  a138 := Tryz.isAgg268
  z138 := Tryz.sizeOf268
  v138 := Tryz.zeroValue268
  t139 := Tryz.underlying269
  a139 := Tryz.isAgg269
  z139 := Tryz.sizeOf269
  v139 := Tryz.zeroValue269
  t146 := Tryz.underlying252
  a146 := Tryz.isAgg252
  z146 := Tryz.sizeOf252
  v146 := Tryz.zeroValue252
  g1 := by kernel_rfl
  g3 := by kernel_rfl
  g4 := by kernel_rfl }
open Go.RowKit Go.Lib in
theorem Tryz.strings_Split (s sep : ByteArray) (m : Int) (w : World) (hs : s.size < 4294967281) (hm : w.cell? ⟨0, 0, none⟩ = some (.int .i64 m)) (h1 : 1 ≤ sep.size) :
    Calls Tryz.prog 70 #[.string s, .string sep] w fun e w' =>
      e = .returned (.slice (some ⟨w.heap.size, 0, none⟩) (Lib.countB s sep + 1) (Lib.countB s sep + 1)) ∧ w' = w.alloc (.cells ((Lib.splitB sep 0 (Lib.countB s sep) s).map Value.string).toArray 9) := Any.strings_Split Tryz.lays146 (by kernel_rfl) s sep m w hs hm h1

end Go.Proofs
end
section
/- A strings.Builder of the call's own: written, read: walked. -/
namespace Go.TF
open Go Go.RowKit Go.Proofs Go.Shelf
set_option maxRecDepth 20000

/-- The block of a builder at b, its bytes in v. -/
abbrev bldB (b : Nat) (p v : Value) : SA := box b [p, v] 51
abbrev bldR (b : Nat) (v : Value) (l : List UInt8) : SA := rowS 5 b v l
/-- Of no use yet, or used where it lies. -/
def bldP (b : Nat) (p : Value) : Prop := p = .pointer none ∨ p = .pointer (some ⟨b, 0, none⟩)
section
variable {B : Base} {h : Heap} {M : List SA} {w : World} {b : Nat}
theorem copyCheck_v (I : Inv B h M w) {p v : Value} (n : Nat) (hn : M[n]? = some (bldB b p v)) (hp : bldP b p) :
    Calls Tryz.prog 63 [.pointer (some ⟨b, 0, none⟩)].toArray w fun x w' => x = .returned (.tuple #[]) ∧ Inv B h (M.set n (bldB b (.pointer (some ⟨b, 0, none⟩)) v)) w' := by
  have hb : w.heap[b]? = some (.cells #[p, v] 51 (0, 0)) := I.at n hn
  have c0 : w.cell? ⟨b, 0, none⟩ = some p := by rw [Lib.cell_of_heap hb]; rfl
  rcases hp with rfl | rfl
  · have hsh : w.shape? b = some (51, 2) := by simp [World.shape?, hb]
    refine (Any.Builder_copyCheck_fresh (ρ := Tryz.lays156_ren) { Tryz.lays156 with } Tryz.Builder_Extra_156.toX72 b w c0 hsh (Lib.frozen_of_heap hb 0)).mono ?_
    rintro x w' ⟨rfl, rfl⟩
    exact ⟨rfl, I.setCell0 n hn⟩
  · refine (Any.Builder_copyCheck_used (ρ := Tryz.lays156_ren) { Tryz.lays156 with } Tryz.Builder_Extra_156.toX72 b w c0).mono ?_
    rintro x w' ⟨rfl, hw⟩
    subst hw
    refine ⟨rfl, ?_⟩
    have e : M.set n (bldB b (.pointer (some ⟨b, 0, none⟩)) v) = M := by
      obtain ⟨hlt, he⟩ := List.getElem?_eq_some_iff.1 hn
      rw [← he]; exact List.set_getElem_self hlt
    rw [e]; exact I
theorem WriteS_v (I : Inv B h M w) {p : Value} {a : Option Addr} {k c : Nat} {l : List UInt8} (n m : Nat) (hnm : n ≠ m) (hn : M[n]? = some (bldB b p (.slice a k c))) (hm : M[m]? = some (bldR b (.slice a k c) l)) (hp : bldP b p) (s : ByteArray) (hl : l.length + s.size ≤ 140737488355328) :
    Calls Tryz.prog 23 [.pointer (some ⟨b, 0, none⟩), .string s].toArray w fun x w' => x = .returned (.tuple #[.int .i64 s.size, .nilIface]) ∧ ∃ a' k' c', Inv B h ((M.set m (bldR b (.slice a' k' c') (l ++ tx s))).set n (bldB b (.pointer (some ⟨b, 0, none⟩)) (.slice a' k' c'))) w' := by
  have hnl : n < M.length := (List.getElem?_eq_some_iff.1 hn).1
  have hml : m < M.length := (List.getElem?_eq_some_iff.1 hm).1
  refine Calls.ofWP (args := [.pointer (some ⟨b, 0, none⟩), .string s]) Tryz.func23 rfl Tryz.ntmps23 (by kernel_rfl) (by simp) ?_
  intro e
  refine WP.seq ?_
  refine WP.region ?_
  refine Ops.y (v := .int .i64 _) (Y.assign rfl) ?_
  refine Ops.y (v := _) (Y.assign rfl) ?_
  refine Ops.nil ?_
  refine WP.seq ?_
  refine WP.region ?_
  refine Ops.y (v := .pointer (some ⟨_, _, none⟩)) (Y.move rfl) ?_
  refine Ops.go (O.calls Tryz.call63 (copyCheck_v I n hn hp) rfl ?_)
  rintro ed w ⟨rfl, I⟩
  refine ⟨_, rfl, ?_⟩
  refine Ops.nil ?_
  have hn1 : (M.set n (bldB b (.pointer (some ⟨b, 0, none⟩)) (.slice a k c)))[n]? = some (bldB b (.pointer (some ⟨b, 0, none⟩)) (.slice a k c)) := by simp [hnl]
  have hm1 : (M.set n (bldB b (.pointer (some ⟨b, 0, none⟩)) (.slice a k c)))[m]? = some (bldR b (.slice a k c) l) := by rw [List.getElem?_set_ne hnm]; exact hm
  have hbs : b ≤ w.heap.size := Nat.le_of_lt ((I.own _ (List.mem_of_getElem? hn1)).2 b (by simp [box])).2.1
  refine WP.seq ?_
  refine WP.region ?_
  refine Ops.y (v := .pointer (some ⟨_, _, none⟩)) (Y.move rfl) ?_
  refine Ops.y (v := .pointer (some ⟨_, _, none⟩)) (Y.move rfl) ?_
  refine Ops.y (v := .pointer (some ⟨_, _, none⟩)) (Y.nilp rfl) ?_
  refine Ops.y (v := .pointer (some ⟨_, _, none⟩)) (Y.fa fa_51_1 rfl) ?_
  refine Ops.y (v := .slice _ _ _) (Y.loadv ty_49 rfl ((rd_box (I.at n hn1) 1 1)) rfl rfl) ?_
  refine Ops.y (v := .string _) (Y.move rfl) ?_
  refine Ops.go (O.appendB I Tryz.underlying49 Tryz.underlying9 (i := _) rfl ⟨rfl, rfl, rfl⟩ m hm1 rfl rfl hl hbs ?_)
  intro a' k' c' w I
  refine Ops.y (v := .pointer (some ⟨_, _, none⟩)) (Y.nilp rfl) ?_
  refine Ops.y (v := .pointer (some ⟨_, _, none⟩)) (Y.fa fa_51_1 rfl) ?_
  refine Ops.go (O.store (v := .slice _ _ _) I ty_49 n (cs := [.pointer (some ⟨b, 0, none⟩), .slice a k c]) (by rw [List.getElem?_set_ne (Ne.symm hnm)]; exact hn1) rfl rfl rfl rfl rfl (Nat.le_of_ble_eq_true rfl) rfl ?_)
  intro w I
  refine Ops.nil ?_
  refine WP.seq ?_
  refine WP.region ?_
  refine Ops.y (v := .string _) (Y.move rfl) ?_
  refine Ops.y (v := .int .i64 _) (Y.lenstr Tryz.underlying9 rfl) ?_
  refine Ops.y (v := .int .i64 _) (Y.assign rfl) ?_
  refine Ops.y (v := _) (Y.assign rfl) ?_
  refine Ops.nil ?_
  refine WP.ret ?_
  refine ⟨.inl rfl, [.int .i64 s.size, .nilIface], ⟨rfl, rfl, trivial⟩, rfl, a', k', c', ?_⟩
  have e : ((M.set n (bldB b (.pointer (some ⟨b, 0, none⟩)) (.slice a k c))).set m (bldR b (.slice a' k' c') (l ++ tx s))).set n (bldB b (.pointer (some ⟨b, 0, none⟩)) (.slice a' k' c')) = (M.set m (bldR b (.slice a' k' c') (l ++ tx s))).set n (bldB b (.pointer (some ⟨b, 0, none⟩)) (.slice a' k' c')) := by
    rw [List.set_comm _ _ hnm, List.set_set]
  rw [← e]
  exact I
/-- What the builder holds; with this the call ends. -/
theorem BString_v (I : Inv B h M w) (hB : B.ok) {p : Value} {a : Option Addr} {k c : Nat} {l : List UInt8} (n m : Nat) (hn : M[n]? = some (bldB b p (.slice a k c))) (hm : M[m]? = some (bldR b (.slice a k c) l)) (hp : bldP b p) :
    Calls Tryz.prog 27 [.pointer (some ⟨b, 0, none⟩)].toArray w fun x w' => x = .returned (.string ⟨l.toArray⟩) ∧ Inv B B.h [] w' := by
  have hb : w.heap[b]? = some (.cells #[p, .slice a k c] 51 (0, 0)) := I.at n hn
  have own := (I.own _ (List.mem_of_getElem? hn)).2 b (by simp [box])
  have hr : w.ownsRowF b 5 1 (.slice a k c) l.length (Lib.byteCells l) := I.at m hm
  have hne : (Value.slice a k c).ownBlock ≠ some b := Lib.ownBlock_neF hr hb (by decide)
  have hl : (Lib.byteCells l).length = l.length := by simp [Lib.byteCells]
  have hi : Lib.IsBuilderF 51 5 b b (Lib.byteCells l) w := by
    rcases hp with rfl | rfl
    · exact .inl ⟨Nat.le_refl b, _, hb, by rw [hl]; exact hr, hne⟩
    · exact .inr ⟨Nat.le_refl b, _, hb, by rw [hl]; exact hr, hne⟩
  refine (Tryz.Builder_String_any_f b b l w hi (Nat.le_of_lt own.2.1)).mono ?_
  rintro x w' ⟨rfl, _, hbw⟩
  have I0 : Inv B B.h [] w := (I.less I.ext (Heap.le.refl _)).clear
  refine ⟨rfl, ⟨I0.below.trans (hbw.mono own.1), Heap.le.refl _, fun _ _ e => .inl e, fun q o hq => ?_, (fun _ h => by cases h), List.Pairwise.nil⟩⟩
  have hlt : q < B.w.heap.size := (Array.getElem?_eq_some_iff.1 (hB q o hq)).1
  rw [hbw.block q (by omega)]
  exact I0.imm q o hq
end
end Go.TF
end
