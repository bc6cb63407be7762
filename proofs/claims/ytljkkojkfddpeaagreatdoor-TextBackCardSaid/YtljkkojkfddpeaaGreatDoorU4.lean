/- Texts SpStrata SpFire SpTxt2 SpChk SpTxt3 Str1 Base21 Base27 SlFuncs Txp1 Txp2 Base28. -/
import Derived.Test.YtljkkojkfddpeaaGreatDoorU3
import Derived.Lib.LaidTab
import Derived.Test.YtljkkojkfddpeaaGreatDoorU2
import Derived.WideLaws
import Derived.Laws.Runes
section
/- Strata and needs: plain. -/
namespace Go.TF
open Go

/-- What a program's rules use: which predicate's rule uses which literal. -/
def usesL (rs : List Rul) : List (Int × Ltl) := rs.flatMap fun r => r.body.xs.map fun x => (r.head.pred, x)
def lv (L : List Int) (i : Int) : Int := L.getD i.toNat 0
def ng (x : Ltl) : Int := if x.neg then 1 else 0
def lst (L : List Int) (c : Int × Ltl) : Int := lv L c.2.atom.pred + ng c.2
def SatC (L : List Int) (c : Int × Ltl) : Prop := lst L c ≤ lv L c.1
structure InR (cs : List (Int × Ltl)) (n : Nat) : Prop where
  h : ∀ c ∈ cs, 0 ≤ c.1 ∧ c.1 < n
  b : ∀ c ∈ cs, 0 ≤ c.2.atom.pred ∧ c.2.atom.pred < n
structure Sol (cs : List (Int × Ltl)) (n : Nat) (L : List Int) : Prop where
  len : L.length = n
  pos : ∀ i, 0 ≤ lv L i
  sat : ∀ c ∈ cs, SatC L c
structure Least (cs : List (Int × Ltl)) (n : Nat) (L : List Int) : Prop where
  sol : Sol cs n L
  least : ∀ M, Sol cs n M → ∀ i, lv L i ≤ lv M i
def StrataR (cs : List (Int × Ltl)) (n : Nat) : Option (List Int) → Prop
  | some L => Least cs n L
  | none => ∀ M, ¬ Sol cs n M
theorem lv_get {L : List Int} {i : Nat} (h : i < L.length) : lv L i = L[i] := by simp [lv, List.getD_eq_getElem?_getD, h]
theorem lv_ext {L M : List Int} (hl : L.length = M.length) (h : ∀ i, lv L i = lv M i) : L = M := by
  apply List.ext_getElem hl
  intro i h1 h2
  have := h i
  rwa [lv_get h1, lv_get h2] at this
theorem StrataR.uniq {cs : List (Int × Ltl)} {n : Nat} : ∀ {r r' : Option (List Int)}, StrataR cs n r → StrataR cs n r' → r = r'
  | none, none, _, _ => rfl
  | none, some L, h, h' => (h L h'.sol).elim
  | some L, none, h, h' => (h' L h.sol).elim
  | some L, some M, h, h' => by
    congr 1
    exact lv_ext (h.sol.len.trans h'.sol.len.symm) fun i => Int.le_antisymm (h.least M h'.sol i) (h'.least L h.sol i)
theorem ng_le (x : Ltl) : 0 ≤ ng x ∧ ng x ≤ 1 := by unfold ng; split <;> omega
theorem lv_set {L : List Int} {i : Int} (h0 : 0 ≤ i) (h1 : i < L.length) (v j : Int) (hj : 0 ≤ j) : lv (L.set i.toNat v) j = if j = i then v else lv L j := by
  simp only [lv, List.getD_eq_getElem?_getD, List.getElem?_set]
  by_cases e : j = i
  · subst e; simp [show j.toNat < L.length by omega]
  · rw [if_neg e, if_neg (by omega)]
theorem lv_neg (L : List Int) {j : Int} (hj : j < 0) : lv L j = lv L 0 := by simp [lv, show j.toNat = 0 by omega]
theorem lv_zero (n : Nat) (i : Int) : lv (List.replicate n 0) i = 0 := by
  simp only [lv, List.getD_eq_getElem?_getD, List.getElem?_replicate]; split <;> rfl

/-- How many are less. -/
def rank (M : List Int) (v : Int) : Int := (M.countP fun u => decide (u < v) : Nat)
theorem countP_lt {M : List Int} {u v : Int} (huv : u < v) {i : Nat} (hi : i < M.length) (he : M[i] = u) : (M.countP fun x => decide (x < u)) < M.countP fun x => decide (x < v) := by
  induction M generalizing i with
  | nil => simp at hi
  | cons a M ih =>
    have mono : ∀ l : List Int, (l.countP fun x => decide (x < u)) ≤ l.countP fun x => decide (x < v) := fun l => List.countP_mono_left (fun x _ hx => by simp at hx ⊢; omega)
    cases i with
    | zero =>
      simp at he; subst he
      have := mono M
      simp [huv]; omega
    | succ i =>
      have := ih (by simpa using hi) (by simpa using he)
      simp only [List.countP_cons]
      have h2 : (if decide (a < u) = true then 1 else 0) ≤ (if decide (a < v) = true then 1 else 0) := by
        by_cases h : a < u
        · simp [h, show a < v by omega]
        · simp [h]
      omega
theorem countP_self_lt {M : List Int} {u : Int} {i : Nat} (hi : i < M.length) (he : M[i] = u) : (M.countP fun x => decide (x < u)) < M.length := by
  have h1 : (M.countP fun x => decide (x < u)) ≤ M.length := List.countP_le_length
  rcases Nat.lt_or_ge (M.countP fun x => decide (x < u)) M.length with h | h
  · exact h
  · have h2 : (M.countP fun x => decide (x < u)) = M.length := by omega
    rw [List.countP_eq_length] at h2
    have := h2 M[i] (List.getElem_mem hi)
    simp [he] at this
/-- If there are strata at all, there are such that are less than the number of predicates. -/
theorem Sol.small {cs : List (Int × Ltl)} {n : Nat} {M : List Int} (hr : InR cs n) (h : Sol cs n M) : ∃ M', Sol cs n M' ∧ ∀ i : Int, 0 ≤ i → i < n → lv M' i < n := by
  have hlv : ∀ i : Int, 0 ≤ i → i < n → lv (M.map (rank M)) i = rank M (lv M i) := fun i h0 h1 => by
    have : i.toNat < M.length := by rw [h.len]; omega
    simp [lv, List.getD_eq_getElem?_getD, this]
  refine ⟨M.map (rank M), ⟨by simp [h.len], fun i => ?_, fun c hc => ?_⟩, fun i h0 h1 => ?_⟩
  · simp only [lv, List.getD_eq_getElem?_getD, List.getElem?_map]
    cases M[i.toNat]? with
    | none => simp
    | some v => simp [rank]
  · have hh := hr.h c hc
    have hb := hr.b c hc
    have hs := h.sat c hc
    unfold SatC lst at hs ⊢
    rw [hlv _ hh.1 hh.2, hlv _ hb.1 hb.2]
    have hbl : c.2.atom.pred.toNat < M.length := by rw [h.len]; omega
    have hbe : M[c.2.atom.pred.toNat] = lv M c.2.atom.pred := by simp [lv, List.getD_eq_getElem?_getD, hbl]
    by_cases hlt : lv M c.2.atom.pred < lv M c.1
    · have := countP_lt hlt hbl hbe
      have := ng_le c.2
      simp only [rank]; omega
    · have hz : ng c.2 = 0 := by have := ng_le c.2; omega
      have he : lv M c.2.atom.pred = lv M c.1 := by omega
      rw [he, hz]; omega
  · rw [hlv i h0 h1]
    have hil : i.toNat < M.length := by rw [h.len]; omega
    have hie : M[i.toNat] = lv M i := by simp [lv, List.getD_eq_getElem?_getD, hil]
    have := countP_self_lt hil hie
    rw [h.len] at this
    simp only [rank]; omega

/-- On the way: not above any strata that there are. -/
structure Good (cs : List (Int × Ltl)) (n : Nat) (L : List Int) : Prop where
  len : L.length = n
  pos : ∀ i, 0 ≤ lv L i
  le : ∀ M, Sol cs n M → ∀ i, lv L i ≤ lv M i
theorem Good.zero (cs : List (Int × Ltl)) (n : Nat) : Good cs n (List.replicate n 0) :=
  ⟨by simp, fun i => by rw [lv_zero]; omega, fun M hM i => by rw [lv_zero]; exact hM.pos i⟩
theorem Good.raise {cs : List (Int × Ltl)} {n : Nat} {L : List Int} (hr : InR cs n) (g : Good cs n L) {c : Int × Ltl} (hc : c ∈ cs) : Good cs n (L.set c.1.toNat (lst L c)) := by
  have hh := hr.h c hc
  have hb := hr.b c hc
  have hl : c.1 < L.length := by rw [g.len]; exact hh.2
  refine ⟨by simp [g.len], fun i => ?_, fun M hM i => ?_⟩
  · by_cases hi : 0 ≤ i
    · rw [lv_set hh.1 hl _ _ hi]; split
      · have := g.pos c.2.atom.pred; have := ng_le c.2; unfold lst; omega
      · exact g.pos i
    · rw [lv_neg _ (by omega), lv_set hh.1 hl _ _ (Int.le_refl 0)]; split
      · have := g.pos c.2.atom.pred; have := ng_le c.2; unfold lst; omega
      · exact g.pos 0
  · have key : ∀ i, 0 ≤ i → lv (L.set c.1.toNat (lst L c)) i ≤ lv M i := fun i hi => by
      rw [lv_set hh.1 hl _ _ hi]; split
      · rename_i e; subst e
        have h1 := hM.sat c hc
        have h2 := g.le M hM c.2.atom.pred
        unfold SatC at h1; unfold lst at h1 ⊢; omega
      · exact g.le M hM i
    by_cases hi : 0 ≤ i
    · exact key i hi
    · rw [lv_neg _ (by omega), lv_neg M (by omega)]; exact key 0 (Int.le_refl 0)
theorem Good.done {cs : List (Int × Ltl)} {n : Nat} {L : List Int} (g : Good cs n L) (h : ∀ c ∈ cs, SatC L c) : StrataR cs n (some L) := ⟨⟨g.len, g.pos, h⟩, g.le⟩
theorem Good.fail {cs : List (Int × Ltl)} {n : Nat} {L : List Int} (hr : InR cs n) (g : Good cs n L) {c : Int × Ltl} (hc : c ∈ cs) (hn : n ≤ lst L c) : StrataR cs n none := fun M hM => by
  obtain ⟨M', hM', hlt⟩ := hM.small hr
  have hh := hr.h c hc
  have h1 := hM'.sat c hc
  have h2 := g.le M' hM' c.2.atom.pred
  have h3 := hlt c.1 hh.1 hh.2
  unfold SatC at h1; unfold lst at h1 hn; omega
theorem Good.lt {cs : List (Int × Ltl)} {n : Nat} {L : List Int} (hr : InR cs n) (g : Good cs n L) (hs : ∃ M, Sol cs n M) {i : Int} (h0 : 0 ≤ i) (h1 : i < n) : lv L i < n := by
  obtain ⟨M, hM⟩ := hs
  obtain ⟨M', hM', hlt⟩ := hM.small hr
  exact Int.lt_of_le_of_lt (g.le M' hM' i) (hlt i h0 h1)
/-- How much can be raised still. -/
def pot (n : Nat) (L : List Int) : Nat := (L.map fun v => ((n : Int) - v).toNat).sum
theorem sum_set_lt : ∀ (l : List Nat) (i : Nat) (y : Nat) (h : i < l.length), y < l[i] → (l.set i y).sum < l.sum
  | a :: l, 0, y, _, hy => by simp at hy ⊢; omega
  | a :: l, i + 1, y, h, hy => by
    have := sum_set_lt l i y (by simpa using h) (by simpa using hy)
    simp only [List.set_cons_succ, List.sum_cons]; omega
theorem pot_set_lt {n : Nat} {L : List Int} {i : Int} {v : Int} (h0 : 0 ≤ i) (h1 : i < L.length) (hv : lv L i < v) (hn : lv L i < n) : pot n (L.set i.toNat v) < pot n L := by
  have hi : i.toNat < L.length := by omega
  have he : L[i.toNat] = lv L i := by simp [lv, List.getD_eq_getElem?_getD, hi]
  unfold pot
  rw [List.map_set]
  refine sum_set_lt _ _ _ (by simpa using hi) ?_
  rw [List.getElem_map, he]; omega
/-- Within one pass over all uses. -/
structure Pass (cs : List (Int × Ltl)) (n : Nat) (L : List Int) (same : Bool) (L' : List Int) (done : List (Int × Ltl)) : Prop where
  good : Good cs n L'
  t : same = true → L' = L ∧ ∀ c ∈ done, SatC L c
  f : same = false → (∃ M, Sol cs n M) → pot n L' + 1 ≤ pot n L
theorem Pass.start {cs : List (Int × Ltl)} {n : Nat} {L : List Int} (g : Good cs n L) : Pass cs n L true L [] := ⟨g, fun _ => ⟨rfl, by simp⟩, fun h => by cases h⟩
theorem Pass.keep {cs : List (Int × Ltl)} {n : Nat} {L L' : List Int} {same : Bool} {done : List (Int × Ltl)} (x : Pass cs n L same L' done) {c : Int × Ltl} (h : ¬ lv L' c.1 < lst L' c) : Pass cs n L same L' (done ++ [c]) :=
  ⟨x.good, fun hs => ⟨(x.t hs).1, fun d hd => by
    rcases List.mem_append.1 hd with h1 | h1
    · exact (x.t hs).2 d h1
    · rw [List.mem_singleton.1 h1]
      have := (x.t hs).1
      subst this
      unfold SatC; omega⟩, x.f⟩
theorem Pass.raise {cs : List (Int × Ltl)} {n : Nat} {L L' : List Int} {same : Bool} {done : List (Int × Ltl)} (hr : InR cs n) (x : Pass cs n L same L' done) {c : Int × Ltl} (hc : c ∈ cs) (h : lv L' c.1 < lst L' c) : Pass cs n L false (L'.set c.1.toNat (lst L' c)) (done ++ [c]) := by
  have hh := hr.h c hc
  refine ⟨x.good.raise hr hc, (fun h => by cases h), fun _ hs => ?_⟩
  have h1 := pot_set_lt (n := n) hh.1 (by rw [x.good.len]; exact hh.2) h (x.good.lt hr hs hh.1 hh.2)
  cases hsm : same
  · have := x.f hsm hs; omega
  · have := (x.t hsm).1; subst this; omega
/-! ### Needs -/
def Uses (cs : List (Int × Ltl)) (a b : Int) : Prop := ∃ c ∈ cs, c.1 = a ∧ c.2.atom.pred = b
inductive Reach (cs : List (Int × Ltl)) (a : Int) : Int → Prop
  | refl : Reach cs a a
  | step {b c : Int} : Reach cs a b → Uses cs b c → Reach cs a c
def bv (N : List Bool) (i : Int) : Bool := N.getD i.toNat false
structure NeedsR (cs : List (Int × Ltl)) (n : Nat) (p : Int) (N : List Bool) : Prop where
  len : N.length = n
  iff : ∀ i : Int, 0 ≤ i → i < n → (bv N i = true ↔ Reach cs p i)
theorem NeedsR.uniq {cs : List (Int × Ltl)} {n : Nat} {p : Int} {N N' : List Bool} (h : NeedsR cs n p N) (h' : NeedsR cs n p N') : N = N' := by
  apply List.ext_getElem (h.len.trans h'.len.symm)
  intro i h1 h2
  have a := h.iff i (by omega) (by have := h.len; omega)
  have b := h'.iff i (by omega) (by have := h.len; omega)
  have e1 : bv N i = N[i] := by simp [bv, List.getD_eq_getElem?_getD, h1]
  have e2 : bv N' i = N'[i] := by simp [bv, List.getD_eq_getElem?_getD, h2]
  rw [e1] at a; rw [e2] at b
  cases hx : N[i] <;> cases hy : N'[i] <;> simp_all
theorem bv_set {N : List Bool} {i : Int} (h0 : 0 ≤ i) (h1 : i < N.length) (v : Bool) (j : Int) (hj : 0 ≤ j) : bv (N.set i.toNat v) j = if j = i then v else bv N j := by
  simp only [bv, List.getD_eq_getElem?_getD, List.getElem?_set]
  by_cases e : j = i
  · subst e; simp [show j.toNat < N.length by omega]
  · rw [if_neg e, if_neg (by omega)]
def ClosedN (cs : List (Int × Ltl)) (N : List Bool) : Prop := ∀ c ∈ cs, bv N c.1 = true → bv N c.2.atom.pred = true
theorem NeedsR.of {cs : List (Int × Ltl)} {n : Nat} {p : Int} {N : List Bool} (hl : N.length = n) (hs : ∀ i : Int, 0 ≤ i → i < n → bv N i = true → Reach cs p i) (hp : bv N p = true) (hc : ClosedN cs N) : NeedsR cs n p N := by
  refine ⟨hl, fun i h0 h1 => ⟨hs i h0 h1, fun h => ?_⟩⟩
  clear h0 h1
  induction h with
  | refl => exact hp
  | step _ hu ih => obtain ⟨c, hc1, rfl, rfl⟩ := hu; exact hc c hc1 ih
def trues (N : List Bool) : Nat := N.countP id
theorem trues_set : ∀ (N : List Bool) (i : Nat) (h : i < N.length), N[i] = false → trues (N.set i true) = trues N + 1
  | a :: N, 0, _, hf => by simp at hf; subst hf; simp [trues]
  | a :: N, i + 1, h, hf => by
    have := trues_set N i (by simpa using h) (by simpa using hf)
    unfold trues at this ⊢
    simp only [List.set_cons_succ, List.countP_cons, this]; omega
theorem set_same : ∀ (N : List Bool) (i : Nat) (h : i < N.length), N[i] = true → N.set i true = N
  | a :: N, 0, _, hf => by simp at hf; subst hf; rfl
  | a :: N, i + 1, h, hf => by simp [set_same N i (by simpa using h) (by simpa using hf)]
/-- Within one pass over all uses. -/
structure PassN (cs : List (Int × Ltl)) (n : Nat) (p : Int) (N N1 : List Bool) (done : List (Int × Ltl)) : Prop where
  len : N1.length = n
  snd : ∀ i : Int, 0 ≤ i → i < n → bv N1 i = true → Reach cs p i
  has : bv N1 p = true
  or : (N1 = N ∧ ∀ c ∈ done, bv N c.1 = true → bv N c.2.atom.pred = true) ∨ trues N < trues N1
  closed : ClosedN cs N → N1 = N
theorem PassN.skip {cs : List (Int × Ltl)} {n : Nat} {p : Int} {N N1 : List Bool} {done more : List (Int × Ltl)} (x : PassN cs n p N N1 done) (h : ∀ c ∈ more, bv N1 c.1 = false) : PassN cs n p N N1 (done ++ more) :=
  ⟨x.len, x.snd, x.has, x.or.imp (fun ⟨e, hd⟩ => ⟨e, fun c hc => by
    rcases List.mem_append.1 hc with h1 | h1
    · exact hd c h1
    · intro ht; rw [← e, h c h1] at ht; cases ht⟩) id, x.closed⟩
theorem PassN.put {cs : List (Int × Ltl)} {n : Nat} {p : Int} {N N1 : List Bool} {done : List (Int × Ltl)} (hr : InR cs n) (hp : 0 ≤ p) (x : PassN cs n p N N1 done) {c : Int × Ltl} (hc : c ∈ cs) (ht : bv N1 c.1 = true) : PassN cs n p N (N1.set c.2.atom.pred.toNat true) (done ++ [c]) := by
  have hh := hr.h c hc
  have hb := hr.b c hc
  have hl : c.2.atom.pred < N1.length := by rw [x.len]; exact hb.2
  have hi : c.2.atom.pred.toNat < N1.length := by omega
  have hrc : Reach cs p c.2.atom.pred := .step (x.snd _ hh.1 hh.2 ht) ⟨c, hc, rfl, rfl⟩
  have he : N1[c.2.atom.pred.toNat] = bv N1 c.2.atom.pred := by simp [bv, List.getD_eq_getElem?_getD, hi]
  by_cases hq : bv N1 c.2.atom.pred = true
  · rw [set_same N1 _ hi (by rw [he]; exact hq)]
    exact ⟨x.len, x.snd, x.has, x.or.imp (fun ⟨e, hd⟩ => ⟨e, fun d hd' => by
      rcases List.mem_append.1 hd' with h1 | h1
      · exact hd d h1
      · rw [List.mem_singleton.1 h1]; intro _; rw [← e]; exact hq⟩) id, x.closed⟩
  · have hq' : bv N1 c.2.atom.pred = false := by simpa using hq
    have htr := trues_set N1 _ hi (by rw [he]; exact hq')
    refine ⟨by simp [x.len], fun i h0 h1 h => ?_, ?_, .inr ?_, fun hcl => ?_⟩
    · rw [bv_set hb.1 hl _ _ h0] at h
      split at h
      · rename_i e; rw [e]; exact hrc
      · exact x.snd i h0 h1 h
    · rw [bv_set hb.1 hl _ _ hp]; split
      · rfl
      · exact x.has
    · rcases x.or with ⟨e, _⟩ | h
      · subst e; omega
      · omega
    · have e := x.closed hcl
      subst e
      exact absurd (hcl c hc ht) hq
/-! ### Names -/
def lowB (b : UInt8) : Bool := decide (97 ≤ b.toNat) && decide (b.toNat ≤ 122)
def isName (s : ByteArray) : Bool := decide (1 ≤ s.size) && decide (s.size ≤ 8) && s.data.toList.all lowB
/-! ### Programs -/
def rulesErr (l : List Prd) : List Rul → Int
  | [] => 0
  | r :: rs => if checkRule l r ≠ 0 then checkRule l r else rulesErr l rs
theorem rulesErr_zero {l : List Prd} {rs : List Rul} : rulesErr l rs = 0 ↔ ∀ r ∈ rs, checkRule l r = 0 := by
  induction rs with
  | nil => simp [rulesErr]
  | cons x r ih =>
    simp only [rulesErr, List.mem_cons, forall_eq_or_imp]
    by_cases h : checkRule l x = 0
    · simp [h, ih]
    · simp [h]
theorem rulesErr_at {l : List Prd} {b : List Rul} {k : Nat} (hk : k < b.length) (h1 : ∀ j, j < k → ∀ hj' : j < b.length, checkRule l b[j] = 0) (h2 : checkRule l b[k] ≠ 0) : rulesErr l b = checkRule l b[k] := by
  induction b generalizing k with
  | nil => simp at hk
  | cons x r ih =>
    cases k with
    | zero => simp only [List.getElem_cons_zero] at h2 ⊢; simp [rulesErr, h2]
    | succ k =>
      have h0 := h1 0 (by omega) (by simp)
      simp only [List.getElem_cons_zero] at h0
      simp only [rulesErr, h0, List.getElem_cons_succ]
      simp only [List.getElem_cons_succ] at h2
      exact ih (by simpa using hk) (fun j _ hj' => by have := h1 (j + 1) (by omega) (by simpa using hj'); simpa using this) h2
/-- Does a name stand there twice? -/
def early (l : List Prd) (k : Nat) : Bool := (l.take k).any fun y => decide (y.name = (l.getD k default).name)
def twice (l : List Prd) : Bool := (List.range l.length).any (early l)
def badArity (x : Prd) : Bool := decide (x.arity < 0 ∨ 2 < x.arity)
def badKind (x : Prd) : Bool := decide (x.kind < 0 ∨ 3 < x.kind)
open Classical in
noncomputable def checkProg (p : Prg) : Int :=
  if 5 < p.preds.xs.length ∨ 8 < p.rules.xs.length then 2
  else if p.preds.xs.any (fun x => !isName x.name) then 5
  else if twice p.preds.xs then 6
  else if p.preds.xs.any badArity then 3
  else if p.preds.xs.any badKind then 4
  else if rulesErr p.preds.xs p.rules.xs ≠ 0 then rulesErr p.preds.xs p.rules.xs
  else if ∃ M, Sol (usesL p.rules.xs) p.preds.xs.length M then 0 else 8
theorem checkRule_ok {l : List Prd} {r : Rul} (h : checkRule l r = 0) : checkAtom l r.head = 0 ∧ r.body.xs.length ≤ 3 ∧ ∀ x ∈ r.body.xs, checkAtom l x.atom = 0 := by
  unfold checkRule at h
  split at h
  · rename_i h1; exact absurd h h1
  split at h
  · cases h
  split at h
  · rename_i h1; exact absurd h h1
  rename_i h1 h2 h3
  exact ⟨Decidable.not_not.1 h1, by omega, bodyErr_ne.1 (Decidable.not_not.1 h3)⟩
theorem checkAtom_in' {l : List Prd} {a : Atm} (h : checkAtom l a = 0) : 0 ≤ a.pred ∧ a.pred < l.length := by
  unfold checkAtom at h
  split at h
  · cases h
  · omega
theorem inR_of {l : List Prd} {rs : List Rul} (h : rulesErr l rs = 0) : InR (usesL rs) l.length := by
  have key : ∀ c ∈ usesL rs, ∃ r ∈ rs, ∃ x ∈ r.body.xs, c = (r.head.pred, x) := fun c hc => by
    unfold usesL at hc
    obtain ⟨r, hr, hc⟩ := List.mem_flatMap.1 hc
    obtain ⟨x, hx, rfl⟩ := List.mem_map.1 hc
    exact ⟨r, hr, x, hx, rfl⟩
  refine ⟨fun c hc => ?_, fun c hc => ?_⟩ <;> obtain ⟨r, hr, x, hx, rfl⟩ := key c hc <;> have h1 := checkRule_ok (rulesErr_zero.1 h r hr)
  · exact checkAtom_in' h1.1
  · exact checkAtom_in' (h1.2.2 x hx)
theorem checkProg_ok {p : Prg} (h : checkProg p = 0) : p.preds.xs.length ≤ 5 ∧ p.rules.xs.length ≤ 8 ∧ rulesErr p.preds.xs p.rules.xs = 0 ∧ ∃ M, Sol (usesL p.rules.xs) p.preds.xs.length M := by
  unfold checkProg at h
  split at h
  · cases h
  split at h
  · cases h
  split at h
  · cases h
  split at h
  · cases h
  split at h
  · cases h
  split at h
  · rename_i h1; exact absurd h h1
  split at h
  · rename_i h1 _ _ _ _ h2 h3
    exact ⟨by omega, by omega, Decidable.not_not.1 h2, h3⟩
  · cases h
def Prg.Nm (p : Prg) : Prop := ∀ x ∈ p.preds.xs, x.name.size ≤ 140737488355328
end Go.TF
end
section
/- What a rule that is used tells; the steps that hold, and how facts are laid to literals: plain. -/
namespace Go.TF
open Go

def litOk (f : List Fct) (x : Vrs) (t : Ltl) : Bool := decide (isF f (groundF t.atom x) ≠ t.neg)
def holdsB (f : List Fct) (r : Rul) (x : Vrs) : Bool := r.body.xs.all (litOk f x)
def headV (l : List Prd) (f : List Fct) (r : Rul) (x : Vrs) : Int := if 0 ≤ r.src then liftV (predOf l r.head.pred).kind ((lkF f (placeF (groundF (litOf r r.src).atom x))).getD 0) r.n else r.n
def headF (l : List Prd) (f : List Fct) (r : Rul) (x : Vrs) : Fct := ⟨r.head.pred, argv r.head x 0, argv r.head x 1, headV l f r x⟩
def holdsF (l : List Prd) (f : List Fct) (r : Rul) (x : Vrs) : Bool × Fct := if holdsB f r x then (true, headF l f r x) else (false, default)
structure VsOk (x : Vrs) : Prop where
  h0 : 0 ≤ x.x0 ∧ x.x0 ≤ 4
  h1 : 0 ≤ x.x1 ∧ x.x1 ≤ 4
  h2 : 0 ≤ x.x2 ∧ x.x2 ≤ 4
theorem VsOk.at {x : Vrs} (h : VsOk x) (v : Int) : 0 ≤ x.at v ∧ x.at v ≤ 4 := by
  unfold Vrs.at; (repeat' split) <;> first | exact h.h0 | exact h.h1 | exact h.h2
/-- A rule of a right program. -/
structure ROk (l : List Prd) (r : Rul) : Prop where
  five : l.length ≤ 5
  preds : ∀ p ∈ l, predFine p = true
  head : checkAtom l r.head = 0
  len : r.body.xs.length ≤ 3
  body : ∀ x ∈ r.body.xs, checkAtom l x.atom = 0
  free : ∀ v, v = 0 ∨ v = 1 ∨ v = 2 → freeVar r v = false
  src : -1 ≤ r.src ∧ r.src < r.body.xs.length
  pos : 0 ≤ r.src → (litOf r r.src).neg = false ∧ (predOf l (litOf r r.src).atom.pred).kind = (predOf l r.head.pred).kind
  n : 0 ≤ r.n ∧ r.n ≤ 15
  plain : (predOf l r.head.pred).kind = 0 → r.src = -1 ∧ r.n = 0
theorem rok_of {l : List Prd} {r : Rul} (h5 : l.length ≤ 5) (hp : ∀ p ∈ l, predFine p = true) (h : checkRule l r = 0) : ROk l r := by
  unfold checkRule at h
  split at h
  · rename_i h1; exact absurd h h1
  split at h
  · cases h
  split at h
  · rename_i h1 h2 h3; exact absurd h h3
  split at h
  · cases h
  split at h
  · cases h
  split at h
  · cases h
  split at h
  · cases h
  split at h
  · cases h
  rename_i h1 h2 h3 h4 h5' h6 h7 h8
  simp only [Bool.or_eq_true, not_or, Bool.not_eq_true] at h4
  refine ⟨h5, hp, Decidable.not_not.1 h1, by omega, bodyErr_ne.1 (Decidable.not_not.1 h3), fun v hv => ?_, by omega, fun h0 => ?_, by omega, fun hk => ?_⟩
  · rcases hv with rfl | rfl | rfl
    · exact h4.1.1
    · exact h4.1.2
    · exact h4.2
  · have : ¬ ((litOf r r.src).neg = true ∨ (predOf l (litOf r r.src).atom.pred).kind ≠ (predOf l r.head.pred).kind) := fun hh => h7 ⟨h0, hh⟩
    rw [not_or, Bool.not_eq_true, Decidable.not_not] at this
    exact this
  · have : ¬ (r.src ≠ -1 ∨ r.n ≠ 0) := fun hh => h6 ⟨hk, hh⟩
    omega
structure AOk (l : List Prd) (a : Atm) : Prop where
  pred : 0 ≤ a.pred ∧ a.pred < l.length
  len : a.args.xs.length ≤ 2
  err : argsErr a.args.xs = 0
  arity : (a.args.xs.length : Int) = (predOf l a.pred).arity
theorem predOf_mem {l : List Prd} {p : Int} (h : 0 ≤ p ∧ p < l.length) : predOf l p ∈ l := List.mem_of_getElem? (predOf_get h.1 h.2)
theorem aok_of {l : List Prd} {a : Atm} (hp : ∀ p ∈ l, predFine p = true) (h : checkAtom l a = 0) : AOk l a := by
  unfold checkAtom at h
  split at h
  · cases h
  split at h
  · cases h
  rename_i h1 h2
  have hpr : 0 ≤ a.pred ∧ a.pred < l.length := by omega
  have := hp _ (predOf_mem hpr)
  simp only [predFine, decide_eq_true_eq] at this
  exact ⟨hpr, by omega, h, by omega⟩
theorem AOk.arg {l : List Prd} {a : Atm} (h : AOk l a) {x : Vrs} (hx : VsOk x) (i : Nat) : 0 ≤ argv a x i ∧ argv a x i ≤ 4 := by
  by_cases hi : i < a.args.xs.length
  · rw [argv_get hi]
    unfold tv
    split
    · exact hx.at _
    · rename_i hv
      exact argsErr_con h.err (List.getElem_mem hi) (by simpa using hv)
  · rw [argv_none (by omega)]; omega
theorem AOk.pf {l : List Prd} {a : Atm} (h5 : l.length ≤ 5) (h : AOk l a) {x : Vrs} (hx : VsOk x) (v : Int) : PF ⟨a.pred, argv a x 0, argv a x 1, v⟩ :=
  ⟨h.pred.1, by have := h.pred.2; show a.pred ≤ 4; omega, (h.arg hx 0).1, (h.arg hx 0).2, (h.arg hx 1).1, (h.arg hx 1).2⟩
theorem AOk.var {l : List Prd} {a : Atm} (h : AOk l a) {t : Trm} (ht : t ∈ a.args.xs) (hv : t.var = true) : 0 ≤ t.n ∧ t.n < 3 := argsErr_var h.err ht hv
theorem litOf_mem {r : Rul} {k : Int} (h : 0 ≤ k ∧ k < r.body.xs.length) : litOf r k ∈ r.body.xs := by
  have : k.toNat < r.body.xs.length := by omega
  unfold litOf
  rw [List.getD_eq_getElem?_getD, List.getElem?_eq_getElem this]
  exact List.getElem_mem _
/-- What a rule tells is a fact. -/
theorem headF_fine {l : List Prd} {f : List Fct} {r : Rul} (ok : ROk l r) (okf : FOk l f) {x : Vrs} (hx : VsOk x) (hh : holdsB f r x = true) : factFine l (headF l f r x) = true := by
  have ha := aok_of ok.preds ok.head
  have har := ha.arity
  have hz : ∀ i : Nat, (i : Int) + 1 ≤ (predOf l r.head.pred).arity ∨ argv r.head x i = 0 := fun i => by
    by_cases hi : i < r.head.args.xs.length
    · left; omega
    · right; exact argv_none (by omega)
  refine fine_iff.2 ⟨ha.pred, ha.arg hx 0, ha.arg hx 1, (show 1 ≤ (predOf l r.head.pred).arity ∨ argv r.head x 0 = 0 from by simpa using hz 0), (show 2 ≤ (predOf l r.head.pred).arity ∨ argv r.head x 1 = 0 from by simpa using hz 1), ?_⟩
  show VOk (predOf l r.head.pred).kind (headV l f r x)
  have hk := ok.preds _ (predOf_mem ha.pred)
  simp only [predFine, decide_eq_true_eq] at hk
  unfold headV
  split
  · rename_i h0
    have hm := litOf_mem ⟨h0, ok.src.2⟩
    obtain ⟨hn, hkd⟩ := ok.pos h0
    have hl := List.all_eq_true.1 hh _ hm
    have hb := aok_of ok.preds (ok.body _ hm)
    have pf := hb.pf ok.five hx 0
    unfold litOk at hl
    rw [hn, decide_eq_true_eq] at hl
    have hs : isF f (groundF (litOf r r.src).atom x) = true := by simpa using hl
    unfold isF at hs
    cases hlk : lkF f (placeF (groundF (litOf r r.src).atom x)) with
    | none => rw [hlk] at hs; cases hs
    | some v =>
      obtain ⟨y, hy, e, rfl⟩ := lkF_mem hlk
      have hyf := okf.fine y hy
      have hyp := ((fine_pf ok.five hyf).inj pf e).1
      have hv := fine_v hyf
      rw [show y.pred = (litOf r r.src).atom.pred from hyp, hkd] at hv
      have hrn : VOk (predOf l r.head.pred).kind r.n := by
        rw [vOk_iff]; refine ⟨hk.2.2.1, hk.2.2.2, ok.n.1, ok.n.2, fun h => (ok.plain h).2⟩
      exact liftV_ok hv hrn
  · rw [vOk_iff]; exact ⟨hk.2.2.1, hk.2.2.2, ok.n.1, ok.n.2, fun h => (ok.plain h).2⟩
/-! ### Steps -/
def standsR (r : Rul) (v : Int) : Bool := standsIn r.head v || r.body.xs.any fun x => standsIn x.atom v
def vecs : List Vrs := (List.range 5).flatMap fun (a : Nat) => (List.range 5).flatMap fun (b : Nat) => (List.range 5).map fun (c : Nat) => (⟨(a : Int), (b : Int), (c : Int)⟩ : Vrs)
def stdOk (r : Rul) (x : Vrs) : Bool := (decide (x.x0 = 0) || standsR r 0) && (decide (x.x1 = 0) || standsR r 1) && (decide (x.x2 = 0) || standsR r 2)
def stepsF (f : List Fct) (n : Int) (r : Rul) : List Stp := (vecs.filter fun x => stdOk r x && holdsB f r x).map (Stp.mk n)
def ltV (x y : Vrs) : Prop := x.x0 < y.x0 ∨ x.x0 = y.x0 ∧ (x.x1 < y.x1 ∨ x.x1 = y.x1 ∧ x.x2 < y.x2)
instance (x y : Vrs) : Decidable (ltV x y) := inferInstanceAs (Decidable (_ ∨ _))
theorem ltV_trans {x y z : Vrs} (h1 : ltV x y) (h2 : ltV y z) : ltV x z := by unfold ltV at *; omega
theorem ltV_irrefl (x : Vrs) : ¬ ltV x x := by unfold ltV; omega
theorem ltV_tri (x y : Vrs) : ltV x y ∨ x = y ∨ ltV y x := by
  obtain ⟨a, b, c⟩ := x; obtain ⟨a', b', c'⟩ := y
  unfold ltV; simp only [Vrs.mk.injEq]; omega
theorem vecs_srt : vecs.Pairwise ltV := by decide +kernel
theorem mem_vecs {x : Vrs} : x ∈ vecs ↔ VsOk x := by
  constructor
  · intro h
    simp only [vecs, List.mem_flatMap, List.mem_map, List.mem_range] at h
    obtain ⟨a, ha, b, hb, c, hc, rfl⟩ := h
    exact ⟨⟨by dsimp only; omega, by dsimp only; omega⟩, ⟨by dsimp only; omega, by dsimp only; omega⟩, ⟨by dsimp only; omega, by dsimp only; omega⟩⟩
  · rintro ⟨h0, h1, h2⟩
    simp only [vecs, List.mem_flatMap, List.mem_map, List.mem_range]
    obtain ⟨a, b, c⟩ := x
    dsimp only at h0 h1 h2
    exact ⟨a.toNat, by omega, b.toNat, by omega, c.toNat, by omega, by simp only [Vrs.mk.injEq]; omega⟩
theorem srt_uniq {α : Type} {lt : α → α → Prop} (hi : ∀ x, ¬ lt x x) (ht : ∀ x y z, lt x y → lt y z → lt x z) : ∀ {l m : List α}, l.Pairwise lt → m.Pairwise lt → (∀ x, x ∈ l ↔ x ∈ m) → l = m
  | [], [], _, _, _ => rfl
  | [], y :: m, _, _, h => by have := (h y).2 List.mem_cons_self; cases this
  | x :: l, [], _, _, h => by have := (h x).1 List.mem_cons_self; cases this
  | x :: l, y :: m, hl, hm, h => by
    obtain ⟨l1, l2⟩ := List.pairwise_cons.1 hl
    obtain ⟨m1, m2⟩ := List.pairwise_cons.1 hm
    have hxy : x = y := by
      rcases List.mem_cons.1 ((h x).1 List.mem_cons_self) with h1 | h1
      · exact h1
      · rcases List.mem_cons.1 ((h y).2 List.mem_cons_self) with h2 | h2
        · exact h2.symm
        · exact absurd (ht _ _ _ (m1 x h1) (l1 y h2)) (hi _)
    subst hxy
    congr 1
    refine srt_uniq hi ht l2 m2 fun z => ?_
    constructor
    · intro hz
      rcases List.mem_cons.1 ((h z).1 (List.mem_cons_of_mem _ hz)) with rfl | h1
      · exact absurd (l1 _ hz) (hi _)
      · exact h1
    · intro hz
      rcases List.mem_cons.1 ((h z).2 (List.mem_cons_of_mem _ hz)) with rfl | h1
      · exact absurd (m1 _ hz) (hi _)
      · exact h1
/-! ### Facts laid to literals -/
def Vrs.set (b : Vrs) (v n : Int) : Vrs := if v = 0 then ⟨n, b.x1, b.x2⟩ else if v = 1 then ⟨b.x0, n, b.x2⟩ else ⟨b.x0, b.x1, n⟩
theorem Vrs.at_set {b : Vrs} {v n u : Int} (hv : 0 ≤ v ∧ v < 3) (hu : 0 ≤ u ∧ u < 3) : (b.set v n).at u = if u = v then n else b.at u := by
  have h1 : v = 0 ∨ v = 1 ∨ v = 2 := by omega
  have h2 : u = 0 ∨ u = 1 ∨ u = 2 := by omega
  rcases h1 with rfl | rfl | rfl <;> rcases h2 with rfl | rfl | rfl <;> rfl
def cantF (b : Vrs) (t : Trm) (n : Int) : Prop := (t.var = false ∧ t.n ≠ n) ∨ (t.var = true ∧ 0 ≤ b.at t.n ∧ b.at t.n ≠ n)
instance (b : Vrs) (t : Trm) (n : Int) : Decidable (cantF b t n) := inferInstanceAs (Decidable (_ ∨ _))
def bindF (b : Vrs) (t : Trm) (n : Int) : Vrs := if t.var then b.set t.n n else b
def withL : Vrs → List (Trm × Int) → Option Vrs
  | b, [] => some b
  | b, (t, n) :: r => if cantF b t n then none else withL (bindF b t n) r
def pairF (a : Atm) (x : Fct) : List (Trm × Int) := a.args.xs.zip [x.a, x.b]
def withF (b : Vrs) (a : Atm) (x : Fct) : Option Vrs := if a.pred ≠ x.pred then none else withL b (pairF a x)
def layF (f : List Fct) : List Atm → Vrs → List Vrs
  | [], b => [b]
  | a :: l, b => f.flatMap fun x => match withF b a x with | none => [] | some c => layF f l c
def mx0 (b : Vrs) : Vrs := ⟨max 0 b.x0, max 0 b.x1, max 0 b.x2⟩
theorem mx0_at (b : Vrs) (v : Int) : (mx0 b).at v = max 0 (b.at v) := by unfold Vrs.at mx0; (repeat' split) <;> rfl
def b0 : Vrs := ⟨-1, -1, -1⟩
def outF (f : List Fct) (n : Int) (r : Rul) : List Stp := (((layF f (poss r.body.xs) b0).map mx0).filter (holdsB f r)).map (Stp.mk n)
/-- What is bound is a constant, of a variable that stands somewhere in l. -/
def BOk (l : List Atm) (b : Vrs) : Prop := ∀ v, 0 ≤ v ∧ v < 3 → b.at v = -1 ∨ (0 ≤ b.at v ∧ b.at v ≤ 4 ∧ ∃ a ∈ l, standsIn a v = true)
theorem stands_mem {a : Atm} {t : Trm} (ht : t ∈ a.args.xs) (hv : t.var = true) : standsIn a t.n = true := by
  unfold standsIn; rw [List.any_eq_true]; exact ⟨t, ht, by simp [hv]⟩
theorem withL_bok {l : List Atm} {a : Atm} (ha : a ∈ l) (hv : ∀ t ∈ a.args.xs, t.var = true → 0 ≤ t.n ∧ t.n < 3) : ∀ {ps : List (Trm × Int)} {b c : Vrs}, (∀ p ∈ ps, p.1 ∈ a.args.xs ∧ 0 ≤ p.2 ∧ p.2 ≤ 4) → BOk l b → withL b ps = some c → BOk l c
  | [], b, c, _, hb, h => by simp only [withL, Option.some.injEq] at h; subst h; exact hb
  | (t, n) :: r, b, c, hp, hb, h => by
    rw [withL] at h
    split at h
    · cases h
    refine withL_bok ha hv (fun p hpr => hp p (List.mem_cons_of_mem _ hpr)) ?_ h
    obtain ⟨p1, p2⟩ := hp (t, n) List.mem_cons_self
    dsimp only at p1 p2
    unfold bindF
    split
    · rename_i htv
      intro v hv3
      have := hv t p1 htv
      rw [Vrs.at_set this hv3]
      split
      · rename_i e; subst e; exact .inr ⟨p2.1, p2.2, a, ha, stands_mem p1 htv⟩
      · exact hb v hv3
    · exact hb
theorem pair_mem {a : Atm} {x : Fct} (hx : PF x) : ∀ p ∈ pairF a x, p.1 ∈ a.args.xs ∧ 0 ≤ p.2 ∧ p.2 ≤ 4 := fun p hp => by
  have h1 := (List.of_mem_zip hp).1
  have h2 := (List.of_mem_zip hp).2
  refine ⟨h1, ?_⟩
  simp only [List.mem_cons, List.not_mem_nil, or_false] at h2
  rcases h2 with h2 | h2 <;> rw [h2]
  · exact ⟨hx.a0, hx.a1⟩
  · exact ⟨hx.b0, hx.b1⟩
theorem lay_bok {l : List Atm} {f : List Fct} (hf : ∀ y ∈ f, PF y) : ∀ {ats : List Atm} {b c : Vrs}, (∀ a ∈ ats, a ∈ l ∧ ∀ t ∈ a.args.xs, t.var = true → 0 ≤ t.n ∧ t.n < 3) → BOk l b → c ∈ layF f ats b → BOk l c
  | [], b, c, _, hb, h => by rw [layF, List.mem_singleton] at h; subst h; exact hb
  | a :: ats, b, c, ha, hb, h => by
    rw [layF, List.mem_flatMap] at h
    obtain ⟨y, hy, h⟩ := h
    cases hw : withF b a y with
    | none => rw [hw] at h; cases h
    | some d =>
      rw [hw] at h
      obtain ⟨a1, a2⟩ := ha a List.mem_cons_self
      refine lay_bok hf (fun a' h' => ha a' (List.mem_cons_of_mem _ h')) ?_ h
      unfold withF at hw
      split at hw
      · cases hw
      · exact withL_bok a1 a2 (pair_mem (hf y hy)) hb hw
/-- Bound ats x has it. -/
def Bnd (b x : Vrs) : Prop := ∀ v, 0 ≤ v ∧ v < 3 → b.at v = -1 ∨ b.at v = x.at v
theorem withL_bnd {x : Vrs} : ∀ {ps : List (Trm × Int)} {b : Vrs}, (∀ p ∈ ps, p.2 = tv p.1 x ∧ (p.1.var = true → 0 ≤ p.1.n ∧ p.1.n < 3)) → Bnd b x →
    ∃ c, withL b ps = some c ∧ Bnd c x ∧ (∀ v, 0 ≤ v ∧ v < 3 → b.at v = x.at v → c.at v = x.at v) ∧ (∀ p ∈ ps, p.1.var = true → c.at p.1.n = x.at p.1.n)
  | [], b, _, hb => ⟨b, rfl, hb, fun _ _ h => h, fun p hp => by cases hp⟩
  | (t, n) :: r, b, hp, hb => by
    obtain ⟨p1, p2⟩ := hp (t, n) List.mem_cons_self
    dsimp only at p1 p2
    have hc : ¬ cantF b t n := by
      rintro (⟨h1, h2⟩ | ⟨h1, h2, h3⟩)
      · rw [p1] at h2; simp [tv, h1] at h2
      · have := hb t.n (p2 h1)
        rw [p1] at h3
        simp only [tv, h1, if_true] at h3
        omega
    have hb' : Bnd (bindF b t n) x ∧ (∀ v, 0 ≤ v ∧ v < 3 → b.at v = x.at v → (bindF b t n).at v = x.at v) ∧ (t.var = true → (bindF b t n).at t.n = x.at t.n) := by
      unfold bindF
      cases htv : t.var
      · exact ⟨hb, fun _ _ h => h, fun h => by cases h⟩
      · have htn := p2 htv
        have hn : n = x.at t.n := by rw [p1]; simp [tv, htv]
        rw [if_pos rfl]
        refine ⟨fun v hv => ?_, fun v hv h => ?_, fun _ => ?_⟩
        · rw [Vrs.at_set htn hv]; split
          · rename_i e; subst e; exact .inr hn
          · exact hb v hv
        · rw [Vrs.at_set htn hv]; split
          · rename_i e; subst e; exact hn
          · exact h
        · rw [Vrs.at_set htn htn, if_pos rfl]; exact hn
    obtain ⟨c, hw, c1, c2, c3⟩ := withL_bnd (fun p hpr => hp p (List.mem_cons_of_mem _ hpr)) hb'.1
    refine ⟨c, by rw [withL, if_neg hc]; exact hw, c1, fun v hv h => c2 v hv (hb'.2.1 v hv h), fun p hpm hpv => ?_⟩
    rcases List.mem_cons.1 hpm with rfl | hpm
    · exact c2 _ (p2 hpv) (hb'.2.2 hpv)
    · exact c3 p hpm hpv
theorem pair_is {a : Atm} {x : Vrs} {y : Fct} (h2 : a.args.xs.length ≤ 2) (ha : y.a = argv a x 0) (hb : y.b = argv a x 1) : ∀ p ∈ pairF a y, p.2 = tv p.1 x ∧ p.1 ∈ a.args.xs := by
  unfold pairF
  match hs : a.args.xs, h2 with
  | [], _ => simp
  | [t], _ =>
    intro p hp
    have : p = (t, y.a) := by simpa using hp
    subst this
    exact ⟨by rw [ha]; simp [argv, hs], by simp⟩
  | [t, u], _ =>
    intro p hp
    have : p = (t, y.a) ∨ p = (u, y.b) := by simpa using hp
    rcases this with rfl | rfl
    · exact ⟨by rw [ha]; simp [argv, hs], by simp⟩
    · exact ⟨by rw [hb]; simp [argv, hs], by simp⟩
  | _ :: _ :: _ :: _, h2 => simp at h2
theorem pair_all {a : Atm} {y : Fct} (h2 : a.args.xs.length ≤ 2) {t : Trm} (ht : t ∈ a.args.xs) : ∃ n, (t, n) ∈ pairF a y := by
  unfold pairF
  match hs : a.args.xs, h2 with
  | [], _ => rw [hs] at ht; cases ht
  | [u], _ =>
    rw [hs] at ht
    have : t = u := by simpa using ht
    subst this; exact ⟨y.a, by simp⟩
  | [u, w], _ =>
    rw [hs] at ht
    have : t = u ∨ t = w := by simpa using ht
    rcases this with rfl | rfl
    · exact ⟨y.a, by simp⟩
    · exact ⟨y.b, by simp⟩
  | _ :: _ :: _ :: _, h2 => simp at h2
theorem lay_has {l : List Prd} {f : List Fct} {x : Vrs} (h5 : l.length ≤ 5) (hf : ∀ y ∈ f, PF y) (hx : VsOk x) : ∀ {ats : List Atm} {b : Vrs}, (∀ a ∈ ats, AOk l a ∧ isF f (groundF a x) = true) → Bnd b x →
    ∃ c ∈ layF f ats b, Bnd c x ∧ (∀ v, 0 ≤ v ∧ v < 3 → b.at v = x.at v → c.at v = x.at v) ∧ (∀ a ∈ ats, ∀ v, standsIn a v = true → c.at v = x.at v)
  | [], b, _, hb => ⟨b, by rw [layF]; simp, hb, fun _ _ h => h, fun a ha => by cases ha⟩
  | a :: ats, b, ha, hb => by
    obtain ⟨ao, ai⟩ := ha a List.mem_cons_self
    unfold isF at ai
    cases hlk : lkF f (placeF (groundF a x)) with
    | none => rw [hlk] at ai; cases ai
    | some w =>
      obtain ⟨y, hy, e, _⟩ := lkF_mem hlk
      obtain ⟨e1, e2, e3⟩ := (hf y hy).inj (ao.pf h5 hx 0) e
      dsimp only at e1 e2 e3
      obtain ⟨c, hw, c1, c2, c3⟩ := withL_bnd (x := x) (ps := pairF a y) (b := b) (fun p hp => ⟨(pair_is ao.len e2 e3 p hp).1, fun hv => ao.var (pair_is ao.len e2 e3 p hp).2 hv⟩) hb
      obtain ⟨d, hd, d1, d2, d3⟩ := lay_has h5 hf hx (fun a' h' => ha a' (List.mem_cons_of_mem _ h')) c1
      refine ⟨d, ?_, d1, fun v hv h => d2 v hv (c2 v hv h), fun a' ha' v hs => ?_⟩
      · rw [layF, List.mem_flatMap]
        refine ⟨y, hy, ?_⟩
        have : withF b a y = some c := by unfold withF; rw [if_neg (by simp [e1]), hw]
        rw [this]; exact hd
      · rcases List.mem_cons.1 ha' with rfl | ha'
        · unfold standsIn at hs
          rw [List.any_eq_true] at hs
          obtain ⟨t, ht, hs⟩ := hs
          simp only [Bool.and_eq_true, decide_eq_true_eq] at hs
          obtain ⟨n, hn⟩ := pair_all (y := y) ao.len ht
          have := c3 _ hn hs.1
          dsimp only at this
          rw [hs.2] at this
          exact d2 v (by rw [← hs.2]; exact ao.var ht hs.1) this
        · exact d3 a' ha' v hs
theorem b0_at {v : Int} (hv : 0 ≤ v ∧ v < 3) : b0.at v = -1 := by
  have h : v = 0 ∨ v = 1 ∨ v = 2 := by omega
  rcases h with rfl | rfl | rfl <;> rfl
theorem bound_poss {r : Rul} {v : Int} : boundIn r v = true ↔ ∃ a ∈ poss r.body.xs, standsIn a v = true := by rw [boundIn_iff, cntA_pos]
theorem vrs_ext {x y : Vrs} (h : ∀ v, 0 ≤ v ∧ v < 3 → x.at v = y.at v) : x = y := by
  have h0 := h 0 (by omega); have h1 := h 1 (by omega); have h2 := h 2 (by omega)
  cases x; cases y
  simp only [Vrs.at] at h0 h1 h2
  simp only [Vrs.mk.injEq]
  exact ⟨by simpa using h0, by simpa using h1, by simpa using h2⟩
theorem mem_out {l : List Prd} {f : List Fct} {n : Int} {r : Rul} (ok : ROk l r) (okf : FOk l f) (s : Stp) : s ∈ outF f n r ↔ s ∈ stepsF f n r := by
  unfold outF stepsF
  simp only [List.mem_map, List.mem_filter, Bool.and_eq_true]
  have hpo : ∀ a ∈ poss r.body.xs, AOk l a := fun a ha => by
    obtain ⟨x, hx, _, rfl⟩ := mem_poss.1 ha
    exact aok_of ok.preds (ok.body x hx)
  constructor
  · rintro ⟨x, ⟨⟨b, hb, rfl⟩, hh⟩, rfl⟩
    have hbk := lay_bok (l := poss r.body.xs) okf.pf (fun a ha => ⟨ha, fun t ht hv => (hpo a ha).var ht hv⟩) (b := b0) (fun v hv => .inl (b0_at hv)) hb
    have hv : ∀ v, 0 ≤ v ∧ v < 3 → (0 ≤ (mx0 b).at v ∧ (mx0 b).at v ≤ 4) ∧ ((mx0 b).at v = 0 ∨ standsR r v = true) := fun v hv => by
      rw [mx0_at]
      rcases hbk v hv with h | ⟨h1, h2, a, ha, hs⟩
      · rw [h]; exact ⟨by omega, .inl (by omega)⟩
      · refine ⟨by omega, .inr ?_⟩
        obtain ⟨x, hx, _, rfl⟩ := mem_poss.1 ha
        unfold standsR
        rw [Bool.or_eq_true, List.any_eq_true]
        exact .inr ⟨x, hx, hs⟩
    have q0 := hv 0 (by omega); have q1 := hv 1 (by omega); have q2 := hv 2 (by omega)
    refine ⟨mx0 b, ⟨mem_vecs.2 ⟨q0.1, q1.1, q2.1⟩, ?_, hh⟩, rfl⟩
    simp only [stdOk, Bool.and_eq_true, Bool.or_eq_true, decide_eq_true_eq]
    exact ⟨⟨q0.2, q1.2⟩, q2.2⟩
  · rintro ⟨x, ⟨hx, hst, hh⟩, rfl⟩
    have hxo := mem_vecs.1 hx
    have hbn : Bnd b0 x := fun v hv => .inl (b0_at hv)
    obtain ⟨c, hc, c1, _, c3⟩ := lay_has (l := l) ok.five okf.pf hxo (ats := poss r.body.xs) (b := b0) (fun a ha => ⟨hpo a ha, by
      obtain ⟨y, hy, hn, rfl⟩ := mem_poss.1 ha
      have := List.all_eq_true.1 hh y hy
      unfold litOk at this
      rw [hn, decide_eq_true_eq] at this
      simpa using this⟩) hbn
    have hmx : mx0 c = x := vrs_ext fun v hv => by
      rw [mx0_at]
      have h4 := hxo.at v
      rcases c1 v hv with h | h
      · rw [h]
        by_cases hb : boundIn r v = true
        · obtain ⟨a, ha, hs⟩ := bound_poss.1 hb
          have := c3 a ha v hs
          omega
        · have hv3 : v = 0 ∨ v = 1 ∨ v = 2 := by omega
          have hfr := ok.free v hv3
          have hsr : standsR r v = false := by
            unfold freeVar at hfr
            unfold standsR
            have : boundIn r v = false := by simpa using hb
            rw [this] at hfr
            simpa using hfr
          simp only [stdOk, Bool.and_eq_true, Bool.or_eq_true, decide_eq_true_eq] at hst
          have hz : x.at v = 0 := by
            rcases hv3 with rfl | rfl | rfl
            · rcases hst.1.1 with h | h
              · exact h
              · rw [hsr] at h; cases h
            · rcases hst.1.2 with h | h
              · exact h
              · rw [hsr] at h; cases h
            · rcases hst.2 with h | h
              · exact h
              · rw [hsr] at h; cases h
          omega
      · omega
    exact ⟨x, ⟨⟨c, hc, hmx⟩, hh⟩, rfl⟩
def ltS (x y : Stp) : Prop := ltV x.vars y.vars
theorem stepsF_srt (f : List Fct) (n : Int) (r : Rul) : (stepsF f n r).Pairwise ltS := by
  unfold stepsF
  rw [List.pairwise_map]
  exact (vecs_srt.filter _).imp fun h => h
/-- What is laid, sorted, each once, is the steps. -/
theorem steps_eq {l : List Prd} {f : List Fct} {n : Int} {r : Rul} (ok : ROk l r) (okf : FOk l f) {s : List Stp} (hs : s.Pairwise ltS) (hm : ∀ x, x ∈ s ↔ x ∈ outF f n r) : s = stepsF f n r :=
  srt_uniq (lt := ltS) (fun x => ltV_irrefl x.vars) (fun x y z h1 h2 => ltV_trans (x := x.vars) (y := y.vars) (z := z.vars) h1 h2) hs (stepsF_srt f n r) fun x => (hm x).trans (mem_out ok okf x)
end Go.TF
end
section
/- Atoms, rules, programs as text; how the program reads them, how the document does; what was written is read as it was: plain. -/
namespace Go.TF
open Go

/-! ### What is written -/
def termL (t : Trm) : Bs := if t.var = true then [UInt8.ofNat (65 + t.n).toNat] else dgL t.n.toNat
def argsL (ts : List Trm) : Bs := if ts = [] then [] else [40] ++ (joinT [44] (ts.map termL) ++ [41])
def atomL (l : List Prd) (a : Atm) : Bs := tx (predOf l a.pred).name ++ argsL a.args.xs
def litL (l : List Prd) (x : Ltl) : Bs := (if x.neg = true then [33] else []) ++ atomL l x.atom
def bodyL (l : List Prd) (b : List Ltl) : Bs := if b = [] then [] else [32, 58, 45, 32] ++ joinT [44, 32] (b.map (litL l))
def srcL (r : Rul) : Bs := if 0 ≤ r.src then [35] ++ (dgL r.src.toNat ++ [43]) else []
def valL (l : List Prd) (r : Rul) : Bs := if (predOf l r.head.pred).kind ≠ 0 then [32, 61, 32] ++ (srcL r ++ dgL r.n.toNat) else []
def ruleL (l : List Prd) (r : Rul) : Bs := (atomL l r.head ++ (valL l r ++ bodyL l r.body.xs)) ++ [46]
def predW : Bs := [112, 114, 101, 100, 32]
def predL (x : Prd) : Bs := predW ++ (tx x.name ++ ([32] ++ (dgL x.arity.toNat ++ ([32] ++ dgL x.kind.toNat))))
def linesP (p : Prg) : List Bs := p.preds.xs.map predL ++ p.rules.xs.map (ruleL p.preds.xs)
def progL (p : Prg) : Bs := (linesP p).flatMap (· ++ [10])

/-! ### How the program reads -/
def predIx (l : List Prd) (s : Bs) : Option Nat := l.findIdx? fun x => decide (tx x.name = s)
def termR (w : Bs) : Option Trm := if 0 ≤ Lib.index [65, 66, 67] w ∧ w.length = 1 then some ⟨true, Lib.index [65, 66, 67] w⟩ else (numR w).map fun n => ⟨false, n⟩
def termsR : List Bs → Option (List Trm)
  | [] => some []
  | w :: r => match termR w, termsR r with | some t, some ts => some (t :: ts) | _, _ => none
def mkA (p : Nat) (ts : List Trm) : Atm := ⟨p, ⟨none, 0, ts⟩⟩
def atomR (l : List Prd) (s : Bs) : Option Atm :=
  match predIx l (Lib.cut s [40]).1 with
  | none => none
  | some k => if (Lib.cut s [40]).2.2 = false then some (mkA k []) else
    if Lib.hasSuffix (Lib.cut s [40]).2.1 [41] = false then none else (termsR (Lib.split (Lib.trimSuffix (Lib.cut s [40]).2.1 [41]) [44])).map (mkA k)
def litR (l : List Prd) (s : Bs) : Option Ltl := (atomR l (Lib.trimPrefix s [33])).map fun a => ⟨Lib.hasPrefix s [33], a⟩
def litsR (l : List Prd) : List Bs → Option (List Ltl)
  | [] => some []
  | w :: r => match litR l w, litsR l r with | some t, some ts => some (t :: ts) | _, _ => none
/-- What stands behind the '=': whence, and how much. -/
def valR (s : Bs) : Option (Int × Int) :=
  if (Lib.cut s [43]).2.2 = true then
    if Lib.hasPrefix (Lib.cut s [43]).1 [35] = false then none else
      match numR (Lib.trimPrefix (Lib.cut s [43]).1 [35]), numR (Lib.cut s [43]).2.1 with | some a, some b => some (a, b) | _, _ => none
  else (numR s).map fun n => (-1, n)
def mkR (h : Atm) (v : Int × Int) (b : List Ltl) : Rul := ⟨h, v.1, v.2, ⟨none, 0, b⟩⟩
def hdR (h : Bs) : Bs × Option (Int × Int) := ((Lib.cut h [32, 61, 32]).1, if (Lib.cut h [32, 61, 32]).2.2 = true then valR (Lib.cut h [32, 61, 32]).2.1 else some (-1, 0))
def ruleR (l : List Prd) (s : Bs) : Option Rul :=
  match (hdR (Lib.cut s [32, 58, 45, 32]).1).2 with
  | none => none
  | some v =>
    match atomR l (hdR (Lib.cut s [32, 58, 45, 32]).1).1 with
    | none => none
    | some h => if (Lib.cut s [32, 58, 45, 32]).2.2 = true then (litsR l (Lib.split (Lib.cut s [32, 58, 45, 32]).2.1 [44, 32])).map (mkR h v) else some (mkR h v [])
abbrev St := List Prd × List Rul
def predR (s : Bs) : Option Prd :=
  match Lib.split s [32] with
  | [n, a, k] => match numR a, numR k with | some a, some k => some ⟨⟨n.toArray⟩, a, k⟩ | _, _ => none
  | _ => none
def lineR (p : St) (s : Bs) : Option St :=
  if Lib.hasPrefix s predW = true ∧ Lib.hasSuffix s [46] = false then (predR (Lib.trimPrefix s predW)).map fun x => (p.1 ++ [x], p.2)
  else if Lib.hasSuffix s [46] = false then none else (ruleR p.1 (Lib.trimSuffix s [46])).map fun r => (p.1, p.2 ++ [r])
def readL : List Bs → St → Option St
  | [], p => some p
  | s :: r, p => match lineR p s with | none => none | some q => readL r q

/-! ### How the document reads -/
/-! ### Of what is right -/
section
theorem u8_of {n : Nat} (h : n < 256) : (UInt8.ofNat n).toNat = n := by rw [UInt8.toNat_ofNat']; omega
theorem termOk_of {ts : List Trm} (h : argsErr ts = 0) {t : Trm} (ht : t ∈ ts) : termOk t = true := by
  unfold argsErr at h
  split at h
  · rename_i h1; exact List.all_eq_true.1 h1 t ht
  · cases h
/-- A term that is right: one byte, a letter from A on, or a digit. -/
theorem termL_one {t : Trm} (h : termOk t = true) : ∃ c : UInt8, termL t = [c] ∧ (if t.var = true then (c.toNat : Int) = 65 + t.n ∧ 0 ≤ t.n ∧ t.n < 3 else (c.toNat : Int) = 48 + t.n ∧ 0 ≤ t.n ∧ t.n ≤ 4) := by
  obtain ⟨var, n⟩ := t
  cases var with
  | true =>
    obtain ⟨h0, h1⟩ : 0 ≤ n ∧ n < 3 := of_decide_eq_true h
    refine ⟨UInt8.ofNat (65 + n).toNat, rfl, ?_⟩
    show ((UInt8.ofNat (65 + n).toNat).toNat : Int) = 65 + n ∧ _
    exact ⟨by rw [u8_of (by omega)]; omega, h0, h1⟩
  | false =>
    obtain ⟨h0, h1⟩ : 0 ≤ n ∧ n ≤ 4 := of_decide_eq_true h
    refine ⟨UInt8.ofNat (48 + n.toNat), ?_, ?_⟩
    · show dgL n.toNat = _
      unfold dgL; rw [if_pos (by omega)]
    show ((UInt8.ofNat (48 + n.toNat)).toNat : Int) = 48 + n ∧ _
    exact ⟨by rw [u8_of (by omega)]; omega, h0, h1⟩
theorem termL_not {t : Trm} (h : termOk t = true) {c : UInt8} (hc : c.toNat < 48) : c ∉ termL t := by
  obtain ⟨d, hd, hh⟩ := termL_one h
  rw [hd]
  intro hm
  rw [List.mem_singleton] at hm
  subst hm
  split at hh <;> omega
theorem idx_abc : ∀ c : Fin 256, Lib.index [65, 66, 67] [UInt8.ofNat c.val] = if 65 ≤ c.val ∧ c.val ≤ 67 then (c.val : Int) - 65 else -1 := by decide +kernel
theorem num_dig : ∀ c : Fin 10, numR [UInt8.ofNat (48 + c.val)] = some (c.val : Int) := by decide +kernel
theorem u8_eq {c : UInt8} {n : Nat} (h : c.toNat = n) : c = UInt8.ofNat n := by subst h; simp
theorem termR_ok {t : Trm} (h : termOk t = true) : termR (termL t) = some t := by
  obtain ⟨c, hc, hh⟩ := termL_one h
  obtain ⟨var, n⟩ := t
  rw [hc]
  have hlt := c.toNat_lt
  have hi : Lib.index [65, 66, 67] [c] = if 65 ≤ c.toNat ∧ c.toNat ≤ 67 then (c.toNat : Int) - 65 else -1 := by
    have := idx_abc ⟨c.toNat, hlt⟩
    simpa using this
  unfold termR
  rw [hi]
  cases var with
  | true =>
    simp only [if_true] at hh
    rw [if_pos (show 65 ≤ c.toNat ∧ c.toNat ≤ 67 by omega), if_pos (show 0 ≤ (c.toNat : Int) - 65 ∧ [c].length = 1 from ⟨by omega, rfl⟩)]
    congr 2; omega
  | false =>
    simp only [Bool.false_eq_true, if_false] at hh
    rw [if_neg (show ¬ (65 ≤ c.toNat ∧ c.toNat ≤ 67) by omega), if_neg (fun h => absurd h.1 (by decide))]
    have := num_dig ⟨n.toNat, by omega⟩
    have hc' : c = UInt8.ofNat (48 + n.toNat) := u8_eq (by omega)
    rw [hc']
    simp only at this
    rw [this]
    simp; omega
theorem termsR_ok : ∀ {ts : List Trm}, (∀ t ∈ ts, termOk t = true) → termsR (ts.map termL) = some ts
  | [], _ => rfl
  | t :: r, h => by simp only [List.map_cons, termsR, termR_ok (h t (by simp)), termsR_ok fun x hx => h x (List.mem_cons_of_mem _ hx)]
theorem join_not {c : UInt8} {sep : Bs} (hs : c ∉ sep) : ∀ {l : List Bs}, (∀ x ∈ l, c ∉ x) → c ∉ joinT sep l
  | [], _ => by simp [joinT]
  | [x], h => h x (by simp)
  | x :: y :: r, h => by
    rw [joinT]
    simp only [List.mem_append, not_or]
    exact ⟨h x (by simp), hs, join_not hs fun z hz => h z (List.mem_cons_of_mem _ hz)⟩
end
/-- Predicates whose names are names, each but once. -/
structure NOk (l : List Prd) : Prop where
  name : ∀ x ∈ l, (tx x.name).all lowB = true ∧ tx x.name ≠ []
  once : twice l = false
section
variable {l : List Prd} (nk : NOk l)
include nk
theorem NOk.not {x : Prd} (hx : x ∈ l) {c : UInt8} (hc : lowB c = false) : c ∉ tx x.name := fun hm => by
  rw [(List.all_eq_true.1 (nk.name x hx).1) c hm] at hc; cases hc
theorem NOk.inj {i j : Nat} (hi : i < l.length) (hj : j < i) : l[j].name ≠ l[i].name := fun e => by
  have h := nk.once
  unfold twice at h
  rw [List.any_eq_false] at h
  refine h i (List.mem_range.2 hi) ?_
  unfold early
  rw [List.any_eq_true]
  refine ⟨l[j], ?_, ?_⟩
  · rw [List.mem_iff_getElem?]
    exact ⟨j, by rw [List.getElem?_take, if_pos hj]; simp⟩
  · have : l.getD i default = l[i] := by rw [List.getD_eq_getElem?_getD, List.getElem?_eq_getElem hi]; rfl
    rw [this, e]; simp
theorem predIx_ok {p : Int} (h : 0 ≤ p ∧ p < l.length) : predIx l (tx (predOf l p).name) = some p.toNat := by
  have hlt : p.toNat < l.length := by omega
  have he : predOf l p = l[p.toNat] := by unfold predOf; rw [List.getD_eq_getElem?_getD, List.getElem?_eq_getElem hlt]; rfl
  rw [he]
  unfold predIx
  rw [List.findIdx?_eq_some_iff_getElem]
  refine ⟨hlt, by simp, fun j hj => ?_⟩
  have := nk.inj hlt hj
  simp only [decide_eq_true_eq]
  intro e
  exact this (tx_inj.1 e)
theorem cut_atom {a : Atm} (ao : AOk l a) : Lib.cut (atomL l a) [40] = if a.args.xs = [] then (tx (predOf l a.pred).name, [], false) else (tx (predOf l a.pred).name, joinT [44] (a.args.xs.map termL) ++ [41], true) := by
  have hn : (40 : UInt8) ∉ tx (predOf l a.pred).name := nk.not (predOf_mem ao.pred) (by decide)
  unfold atomL argsL
  split
  · rw [List.append_nil]; exact cut_miss (List.mem_singleton.2 rfl) hn
  · exact cut1 hn
omit nk in
theorem AOk.termOk {a : Atm} (ao : AOk l a) {t : Trm} (ht : t ∈ a.args.xs) : termOk t = true := termOk_of ao.err ht
omit nk in
theorem mkA_er {a : Atm} (ao : AOk l a) : mkA a.pred.toNat a.args.xs = a.er := by
  have := ao.pred
  unfold mkA Atm.er Sl.er
  congr 1
  omega
theorem atomR_ok {a : Atm} (ao : AOk l a) : atomR l (atomL l a) = some a.er := by
  unfold atomR
  rw [cut_atom nk ao]
  by_cases h : a.args.xs = []
  · rw [if_pos h]
    simp only [predIx_ok nk ao.pred, if_true]
    rw [← mkA_er ao, h]
  · rw [if_neg h]
    simp only [predIx_ok nk ao.pred, suf_app, trimS_app, Bool.true_eq_false, if_false]
    rw [split_join1 (by simpa using h) (fun x hx => ?_), termsR_ok fun t ht => AOk.termOk ao ht]
    · rw [Option.map_some, mkA_er ao]
    · obtain ⟨t, ht, rfl⟩ := List.mem_map.1 hx
      exact termL_not (AOk.termOk ao ht) (by decide)
theorem atomL_not {a : Atm} (ao : AOk l a) {c : UInt8} (hc : lowB c = false) (h1 : c ≠ 40 ∧ c ≠ 41 ∧ c ≠ 44) (h2 : c.toNat < 48) : c ∉ atomL l a := by
  unfold atomL argsL
  simp only [List.mem_append, not_or]
  refine ⟨nk.not (predOf_mem ao.pred) hc, ?_⟩
  split
  · simp
  · simp only [List.mem_append, not_or, List.mem_singleton]
    exact ⟨h1.1, join_not (by simpa using h1.2.2) fun x hx => by obtain ⟨t, ht, rfl⟩ := List.mem_map.1 hx; exact termL_not (AOk.termOk ao ht) h2, h1.2.1⟩
/-- A byte beyond the digits, and no letter. -/
theorem atomL_not' {a : Atm} (ao : AOk l a) {c : UInt8} (hc : lowB c = false) (h2 : 53 ≤ c.toNat) (h3 : c.toNat < 65) : c ∉ atomL l a := by
  unfold atomL argsL
  simp only [List.mem_append, not_or]
  refine ⟨nk.not (predOf_mem ao.pred) hc, ?_⟩
  split
  · simp
  · simp only [List.mem_append, not_or, List.mem_singleton]
    refine ⟨fun e => by rw [e] at h2; exact absurd h2 (by decide), join_not (fun e => by rw [List.mem_singleton] at e; rw [e] at h2; exact absurd h2 (by decide)) fun x hx => ?_, fun e => by rw [e] at h2; exact absurd h2 (by decide)⟩
    obtain ⟨t, ht, rfl⟩ := List.mem_map.1 hx
    obtain ⟨d, hd, hh⟩ := termL_one (AOk.termOk ao ht)
    rw [hd, List.mem_singleton]
    rintro rfl
    split at hh <;> omega
theorem atomL_head {a : Atm} (ao : AOk l a) : ∃ c r, atomL l a = c :: r ∧ lowB c = true := by
  obtain ⟨h1, h2⟩ := nk.name _ (predOf_mem ao.pred)
  unfold atomL
  cases hn : tx (predOf l a.pred).name with
  | nil => exact absurd hn h2
  | cons c r => rw [hn] at h1; exact ⟨c, _, rfl, by simp only [List.all_cons, Bool.and_eq_true] at h1; exact h1.1⟩
/-! ### Literals -/
theorem litR_ok {x : Ltl} (ao : AOk l x.atom) : litR l (litL l x) = some x.er := by
  obtain ⟨c, r, hc, hl⟩ := atomL_head nk ao
  unfold litR litL
  cases hx : x.neg with
  | true =>
    simp only [if_true]
    rw [trimP_app, pre_app, atomR_ok nk ao]
    simp [Ltl.er, hx]
  | false =>
    have hp : Lib.hasPrefix (atomL l x.atom) [33] = false := by
      rw [hc]
      unfold Lib.hasPrefix
      simp only [List.isPrefixOf, Bool.and_true]
      rw [beq_eq_false_iff_ne]
      rintro rfl
      cases hl
    simp only [Bool.false_eq_true, if_false, List.nil_append]
    unfold Lib.trimPrefix
    rw [hp, if_neg (by simp), atomR_ok nk ao]
    simp [Ltl.er, hx]
theorem litL_not {x : Ltl} (ao : AOk l x.atom) {c : UInt8} (hc : lowB c = false) (h1 : c ≠ 40 ∧ c ≠ 41 ∧ c ≠ 44) (h2 : c.toNat < 48) (h3 : c ≠ 33) : c ∉ litL l x := by
  unfold litL
  simp only [List.mem_append, not_or]
  refine ⟨?_, atomL_not nk ao hc h1 h2⟩
  split
  · simpa using h3
  · simp
theorem litsR_ok : ∀ {b : List Ltl}, (∀ x ∈ b, AOk l x.atom) → litsR l (b.map (litL l)) = some (b.map Ltl.er)
  | [], _ => rfl
  | x :: r, h => by simp only [List.map_cons, litsR, litR_ok nk (h x (by simp)), litsR_ok fun y hy => h y (List.mem_cons_of_mem _ hy)]
end
end Go.TF
end
section
/- What a right program's predicates and rules are: plain. -/
namespace Go.TF
open Go

theorem chk_preds {p : Prg} (h : checkProg p = 0) : ∀ x ∈ p.preds.xs, predFine x = true := by
  unfold checkProg at h
  split at h
  · cases h
  split at h
  · cases h
  split at h
  · cases h
  split at h
  · cases h
  split at h
  · cases h
  rename_i h1 h2 h3 h4 h5
  intro x hx
  have a : badArity x ≠ true := fun e => h4 (List.any_eq_true.2 ⟨x, hx, e⟩)
  have b : badKind x ≠ true := fun e => h5 (List.any_eq_true.2 ⟨x, hx, e⟩)
  simp only [badArity, badKind, ne_eq, decide_eq_true_eq, not_or, Int.not_lt] at a b
  simp only [predFine, decide_eq_true_eq]
  omega
theorem chk_rok {p : Prg} (h : checkProg p = 0) : ∀ r ∈ p.rules.xs, ROk p.preds.xs r := fun r hr => rok_of (checkProg_ok h).1 (chk_preds h) (rulesErr_zero.1 (checkProg_ok h).2.2.1 r hr)
/-- Its names are names, each but once. -/
theorem chk_names {p : Prg} (h : checkProg p = 0) : (∀ x ∈ p.preds.xs, isName x.name = true) ∧ twice p.preds.xs = false := by
  unfold checkProg at h
  split at h
  · cases h
  split at h
  · cases h
  split at h
  · cases h
  rename_i h1 h2 h3
  exact ⟨by simpa using h2, by simpa using h3⟩
end Go.TF
end
section
/- What was written of a right program is read as it was, by the program and by the document: plain. -/
namespace Go.TF
open Go

theorem nok_of {p : Prg} (h : checkProg p = 0) : NOk p.preds.xs := by
  obtain ⟨h1, h2⟩ := chk_names h
  refine ⟨fun x hx => ?_, h2⟩
  have := h1 x hx
  unfold isName at this
  simp only [Bool.and_eq_true, decide_eq_true_eq] at this
  exact ⟨this.2, fun e => by have := tx_len x.name; rw [e] at this; simp at this; omega⟩
section
variable {l : List Prd} (nk : NOk l)
theorem digOf {c : UInt8} (h : digB c = false) {n : Nat} (hn : n < 100) : c ∉ dgL n := dg_not hn h
section
variable {r : Rul} (ok : ROk l r)
include ok
theorem ROk.src_lt : r.src.toNat < 100 := by have := ok.src; have := ok.len; omega
theorem ROk.n_lt : r.n.toNat < 100 := by have := ok.n; omega
theorem srcL_not {c : UInt8} (h : digB c = false) (h1 : c ≠ 35) (h2 : c ≠ 43) : c ∉ srcL r := by
  unfold srcL
  split
  · simp only [List.mem_append, not_or, List.mem_singleton]
    exact ⟨h1, digOf h ok.src_lt, h2⟩
  · simp
theorem valL_not {c : UInt8} (h : digB c = false) (h1 : c ≠ 35) (h2 : c ≠ 43) (h3 : c ∉ ([32, 61, 32] : Bs)) : c ∉ valL l r := by
  unfold valL
  split
  · simp only [List.mem_append, not_or]
    exact ⟨h3, srcL_not ok h h1 h2, digOf h ok.n_lt⟩
  · simp
theorem valR_ok : valR (srcL r ++ dgL r.n.toNat) = some (r.src, r.n) := by
  have h0 := ok.src
  have h1 := ok.n
  unfold valR srcL
  split
  · rename_i hs
    have e1 : [35] ++ (dgL r.src.toNat ++ [43]) ++ dgL r.n.toNat = ([35] ++ dgL r.src.toNat) ++ ([43] ++ dgL r.n.toNat) := by simp
    have hn : (43 : UInt8) ∉ [35] ++ dgL r.src.toNat := by
      simp only [List.mem_append, not_or, List.mem_singleton]
      exact ⟨by decide, digOf (by decide) ok.src_lt⟩
    rw [e1, cut1 hn, if_pos rfl]
    simp only
    rw [pre_app, if_neg (by simp), trimP_app, num_dg ok.src_lt, num_dg ok.n_lt]
    simp only [Option.some.injEq, Prod.mk.injEq]
    omega
  · rename_i hs
    rw [List.nil_append, cut_miss (List.mem_singleton.2 rfl) (digOf (by decide) ok.n_lt), if_neg (by simp), num_dg ok.n_lt]
    simp only [Option.map_some, Option.some.injEq, Prod.mk.injEq]
    omega
include nk
theorem cut_head : Lib.cut (atomL l r.head ++ valL l r) [32, 61, 32] = if (predOf l r.head.pred).kind ≠ 0 then (atomL l r.head, srcL r ++ dgL r.n.toNat, true) else (atomL l r.head, [], false) := by
  have ao := aok_of ok.preds ok.head
  have hn : (61 : UInt8) ∉ atomL l r.head := atomL_not' nk ao (by decide) (by decide) (by decide)
  unfold valL
  split
  · exact cut2 hn (by decide)
  · rw [List.append_nil]; exact cut_miss (c := 61) (by simp) hn
theorem hdR_ok : hdR (atomL l r.head ++ valL l r) = (atomL l r.head, some (r.src, r.n)) := by
  unfold hdR
  rw [cut_head nk ok]
  split
  · rw [if_pos rfl, valR_ok ok]
  · rename_i hk
    have := ok.plain (Decidable.not_not.1 hk)
    rw [if_neg (by simp), this.1, this.2]
theorem cut_rule : Lib.cut (atomL l r.head ++ (valL l r ++ bodyL l r.body.xs)) [32, 58, 45, 32] = if r.body.xs = [] then (atomL l r.head ++ valL l r, [], false) else (atomL l r.head ++ valL l r, joinT [44, 32] (r.body.xs.map (litL l)), true) := by
  have ao := aok_of ok.preds ok.head
  have hn : (58 : UInt8) ∉ atomL l r.head ++ valL l r := by
    simp only [List.mem_append, not_or]
    exact ⟨atomL_not' nk ao (by decide) (by decide) (by decide), valL_not ok (by decide) (by decide) (by decide) (by decide)⟩
  rw [← List.append_assoc]
  unfold bodyL
  split
  · rw [List.append_nil]; exact cut_miss (c := 58) (by simp) hn
  · exact cut2 hn (by decide)
theorem ruleR_ok : ruleR l (atomL l r.head ++ (valL l r ++ bodyL l r.body.xs)) = some r.er := by
  have ao := aok_of ok.preds ok.head
  have ab := fun x hx => aok_of ok.preds (ok.body x hx)
  unfold ruleR
  rw [cut_rule nk ok]
  by_cases hb : r.body.xs = []
  · rw [if_pos hb]
    simp only [hdR_ok nk ok, atomR_ok nk ao, Bool.false_eq_true, if_false]
    unfold mkR Rul.er
    rw [hb]; rfl
  · rw [if_neg hb]
    simp only [hdR_ok nk ok, atomR_ok nk ao, if_true]
    rw [split_join2 (by decide) (by simpa using hb) fun x hx => ?_, litsR_ok nk ab]
    · rfl
    · obtain ⟨y, hy, rfl⟩ := List.mem_map.1 hx
      exact litL_not nk (ab y hy) (by decide) (by decide) (by decide) (by decide)
theorem ruleL_ok (p : List Rul) : lineR (l, p) (ruleL l r) = some (l, p ++ [r.er]) := by
  unfold lineR ruleL
  rw [suf_app, if_neg (by simp), if_neg (by simp), trimS_app, ruleR_ok nk ok]
  rfl
theorem ruleL_nl : (10 : UInt8) ∉ ruleL l r := by
  have ao := aok_of ok.preds ok.head
  have ab := fun x hx => aok_of ok.preds (ok.body x hx)
  unfold ruleL
  simp only [List.mem_append, not_or, List.mem_singleton]
  refine ⟨⟨atomL_not nk ao (by decide) (by decide) (by decide), valL_not ok (by decide) (by decide) (by decide) (by decide), ?_⟩, by decide⟩
  unfold bodyL
  split
  · simp
  · simp only [List.mem_append, not_or]
    refine ⟨by decide, join_not (by decide) fun x hx => ?_⟩
    obtain ⟨y, hy, rfl⟩ := List.mem_map.1 hx
    exact litL_not nk (ab y hy) (by decide) (by decide) (by decide) (by decide)
end
section
variable {x : Prd} (hx : x ∈ l) (hf : predFine x = true)
include nk hx hf
theorem predR_ok : predR (tx x.name ++ ([32] ++ (dgL x.arity.toNat ++ ([32] ++ dgL x.kind.toNat)))) = some x := by
  unfold predFine at hf
  obtain ⟨a0, a2, d0, d3⟩ := of_decide_eq_true hf
  have e : tx x.name ++ ([32] ++ (dgL x.arity.toNat ++ ([32] ++ dgL x.kind.toNat))) = joinT [32] [tx x.name, dgL x.arity.toNat, dgL x.kind.toNat] := rfl
  unfold predR
  rw [e, split_join1 (by simp) fun y hy => ?_]
  · simp only [num_dg (show x.arity.toNat < 100 by omega), num_dg (show x.kind.toNat < 100 by omega), mk_tx]
    obtain ⟨n, a, k⟩ := x
    simp only [Option.some.injEq, Prd.mk.injEq, true_and]
    simp only at a0 d0
    omega
  · simp only [List.mem_cons, List.not_mem_nil, or_false] at hy
    rcases hy with rfl | rfl | rfl
    · exact nk.not hx (by decide)
    · exact digOf (by decide) (by omega)
    · exact digOf (by decide) (by omega)
theorem predL_no {c : UInt8} (h1 : lowB c = false) (h2 : digB c = false) (h3 : c ≠ 32) : c ∉ predL x := by
  unfold predFine at hf
  obtain ⟨a0, a2, d0, d3⟩ := of_decide_eq_true hf
  unfold predL
  simp only [List.mem_append, not_or, List.mem_singleton]
  refine ⟨?_, nk.not hx h1, h3, digOf h2 (by omega), h3, digOf h2 (by omega)⟩
  unfold predW
  simp only [List.mem_cons, List.not_mem_nil, or_false, not_or]
  refine ⟨?_, ?_, ?_, ?_, h3⟩ <;> (rintro rfl; cases h1)
theorem predL_ok (p : List Prd) : lineR (p, []) (predL x) = some (p ++ [x], []) := by
  unfold lineR
  rw [suf_no (predL_no nk hx hf (by decide) (by decide) (by decide))]
  unfold predL
  rw [pre_app, if_pos ⟨rfl, rfl⟩, trimP_app, predR_ok nk hx hf]
  rfl
end
end
/-! ### Lines -/
/-- The lines of a text, as strings.Lines has them. -/
def linesS : Nat → Bs → List Bs
  | 0, _ => []
  | f + 1, s => if s = [] then [] else if 0 ≤ Lib.index s [10] then s.take ((Lib.index s [10]).toNat + 1) :: linesS f (s.drop ((Lib.index s [10]).toNat + 1)) else [s]
theorem linesS_flat : ∀ {l : List Bs} {f : Nat}, (∀ x ∈ l, (10 : UInt8) ∉ x) → l.length ≤ f → linesS f (l.flatMap (· ++ [10])) = l.map (· ++ [10])
  | [], 0, _, _ => rfl
  | [], f + 1, _, _ => by simp [linesS]
  | _ :: _, 0, _, h => by simp at h
  | x :: r, f + 1, h, hl => by
    have hi : Lib.index (x ++ ([10] ++ r.flatMap (· ++ [10]))) [10] = x.length := first_at (k := 0) rfl (h x (by simp)) fun j hj => by omega
    have e : (x :: r).flatMap (· ++ [10]) = x ++ ([10] ++ r.flatMap (· ++ [10])) := by simp [List.flatMap_cons]
    rw [e, linesS, if_neg (by simp), hi, if_pos (by omega)]
    have e1 : (x ++ ([10] ++ r.flatMap (· ++ [10]))).take ((x.length : Int).toNat + 1) = x ++ [10] := by
      rw [Int.toNat_natCast, List.take_append]
      simp [List.take_of_length_le (Nat.le_succ x.length)]
    have e2 : (x ++ ([10] ++ r.flatMap (· ++ [10]))).drop ((x.length : Int).toNat + 1) = r.flatMap (· ++ [10]) := by
      rw [Int.toNat_natCast, List.drop_append]
      simp
    rw [e1, e2, linesS_flat (fun y hy => h y (List.mem_cons_of_mem _ hy)) (by simp at hl; omega)]
    rfl
theorem linesT_len : ∀ {l : List Bs}, l.length ≤ (l.flatMap (· ++ [10])).length
  | [] => Nat.le_refl _
  | x :: r => by
    have := linesT_len (l := r)
    simp only [List.flatMap_cons, List.length_append, List.length_cons, List.length_nil]
    omega
/-- All that is read of a text: none: it is broken. -/
def readR (s : Bs) : Option St := readL ((linesS s.length s).map fun l => Lib.trimSuffix l [10]) ([], [])
section
variable {p : Prg} (h : checkProg p = 0)
include h
theorem linesP_nl : ∀ x ∈ linesP p, (10 : UInt8) ∉ x := fun x hx => by
  have nk := nok_of h
  rcases List.mem_append.1 hx with hx | hx
  · obtain ⟨y, hy, rfl⟩ := List.mem_map.1 hx
    exact predL_no nk hy (chk_preds h y hy) (by decide) (by decide) (by decide)
  · obtain ⟨y, hy, rfl⟩ := List.mem_map.1 hx
    exact ruleL_nl nk (chk_rok h y hy)
theorem readL_rules : ∀ {rs : List Rul}, (∀ r ∈ rs, r ∈ p.rules.xs) → ∀ d, readL (rs.map (ruleL p.preds.xs)) (p.preds.xs, d) = some (p.preds.xs, d ++ rs.map Rul.er)
  | [], _, d => by simp [readL]
  | r :: rs, hr, d => by
    simp only [List.map_cons, readL]
    rw [ruleL_ok (nok_of h) (chk_rok h r (hr r (by simp)))]
    simp only
    rw [readL_rules (fun x hx => hr x (List.mem_cons_of_mem _ hx))]
    simp
theorem readL_preds : ∀ {qs : List Prd}, (∀ x ∈ qs, x ∈ p.preds.xs) → ∀ d t, readL (qs.map predL ++ t) (d, []) = readL t (d ++ qs, [])
  | [], _, d, t => by simp
  | x :: qs, hq, d, t => by
    simp only [List.map_cons, List.cons_append, readL]
    rw [predL_ok (nok_of h) (hq x (by simp)) (chk_preds h x (hq x (by simp)))]
    simp only
    rw [readL_preds (fun y hy => hq y (List.mem_cons_of_mem _ hy))]
    simp
theorem readR_ok : readR (progL p) = some (p.preds.xs, p.rules.xs.map Rul.er) := by
  unfold readR progL
  rw [linesS_flat (linesP_nl h) linesT_len, List.map_map]
  have e : (linesP p).map ((fun l => Lib.trimSuffix l [10]) ∘ fun x => x ++ [10]) = linesP p := by
    conv => rhs; rw [← List.map_id (linesP p)]
    refine List.map_congr_left fun x _ => ?_
    simp [trimS_app]
  rw [e]
  unfold linesP
  rw [readL_preds h (fun _ hx => hx), List.nil_append, readL_rules h (fun _ hx => hx), List.nil_append]
end
end Go.TF
end
section
/- Calls of the library on texts, as contracts. -/
namespace Go.TF
open Go Go.RowKit Go.Proofs Go.Shelf
set_option maxRecDepth 20000

/-- What the package's variables hold. -/
structure Vars (h : Heap) : Prop where
  len : ∃ m, h.cell 0 0 = some (.int .i64 m)
  syn : ∃ te pe, h.cell 2 0 = some (.iface te pe)
  rng : ∃ te pe, h.cell 3 0 = some (.iface te pe)
  tab : ∃ T f, h 1 = some (.cells (Lib.pow10Tab.map fun z => Value.int .u64 z).toArray T f)
theorem Vars.le {h h' : Heap} (V : Vars h) (hl : h.le h') : Vars h' :=
  ⟨V.len.imp fun _ e => hl.cell e, V.syn.imp fun _ ⟨b, e⟩ => ⟨b, hl.cell e⟩, V.rng.imp fun _ ⟨b, e⟩ => ⟨b, hl.cell e⟩, V.tab.imp fun _ ⟨f, e⟩ => ⟨f, hl _ _ e⟩⟩
abbrev mk (l : Bs) : ByteArray := ⟨l.toArray⟩
@[reducible] def sEn (s : ByteArray) : List Value := [.string s]
abbrev Strs (l : Sl ByteArray) (h : Heap) : Prop := l.Is 1 sEn h
theorem Ext.of {B : Base} (hB : B.ok) {w : World} (g : Grow B.w w) : Ext B w B.h := (Inv.start hB).grow g
theorem Grow.drewN (w : World) (n : Nat) : Grow w (w.drewN n) := ⟨rfl, rfl, rfl, Nat.le_refl _, fun _ _ => rfl⟩
theorem Grow.bytesW (w : World) (e : TypeId) (s : ByteArray) : Grow w (Lib.bytesWorld w e s) := ⟨rfl, rfl, rfl, by rw [Lib.bytesWorld_size]; omega, fun j hj => Lib.bytesWorld_at_old w e s j hj⟩
theorem cell_ok {B : Base} (hB : B.ok) {b o : Nat} {v : Value} (h : B.h.cell b o = some v) : B.w.cell? ⟨b, o, none⟩ = some v := (Inv.start hB).cell h
theorem dec_dg : ∀ n : Fin 100, Lib.decDigits n.val = dgL n.val := by decide +kernel
theorem join_inter (sep : Bs) : ∀ l : List Bs, Lib.join l sep = joinT sep l
  | [] => by simp [Lib.join, joinT, List.intercalate]
  | [x] => by simp [Lib.join, joinT, List.intercalate]
  | x :: y :: r => by
    have ih := join_inter sep (y :: r)
    unfold Lib.join List.intercalate at ih ⊢
    rw [joinT, ← ih]
    simp [List.intersperse]
section
variable (B : Base) (hB : B.ok)
include hB
theorem CutPre_ok (s p : ByteArray) : Fn Tryz.prog 69 [.string s, .string p] B (fun v _ => v = .tuple #[.string (mk (Lib.trimPrefix (tx s) (tx p))), .bool (Lib.hasPrefix (tx s) (tx p))]) :=
  (Tryz.strings_CutPrefix s p B.w).mono (by rintro x w ⟨rfl, rfl⟩; exact ⟨_, _, rfl, Ext.of hB (Grow.refl _), rfl⟩)
theorem CutSuf_ok (s p : ByteArray) (hs : s.size ≤ 140737488355328) : Fn Tryz.prog 72 [.string s, .string p] B (fun v _ => v = .tuple #[.string (mk (Lib.trimSuffix (tx s) (tx p))), .bool (Lib.hasSuffix (tx s) (tx p))]) :=
  (Tryz.strings_CutSuffix s p B.w (by omega)).mono (by rintro x w ⟨rfl, rfl⟩; exact ⟨_, _, rfl, Ext.of hB (Grow.refl _), rfl⟩)
theorem HasSuf_ok (s p : ByteArray) (hs : s.size ≤ 140737488355328) : Fn Tryz.prog 38 [.string s, .string p] B (fun v _ => v = .bool (Lib.hasSuffix (tx s) (tx p))) :=
  (Tryz.strings_HasSuffix s p B.w (by omega)).mono (by rintro x w ⟨rfl, rfl⟩; exact ⟨_, _, rfl, Ext.of hB (Grow.refl _), rfl⟩)
theorem TrimSuf_ok (s p : ByteArray) (hs : s.size ≤ 140737488355328) : Fn Tryz.prog 31 [.string s, .string p] B (fun v _ => v = .string (mk (Lib.trimSuffix (tx s) (tx p)))) :=
  (Tryz.strings_TrimSuffix s p B.w (by omega)).mono (by rintro x w ⟨rfl, rfl⟩; exact ⟨_, _, rfl, Ext.of hB (Grow.refl _), rfl⟩)
theorem Cut_ok (V : Vars B.h) (s p : ByteArray) (hs : s.size < 4294967281) : Fn Tryz.prog 73 [.string s, .string p] B (fun v _ => v = .tuple #[.string (mk (Lib.cut (tx s) (tx p)).1), .string (mk (Lib.cut (tx s) (tx p)).2.1), .bool (Lib.cut (tx s) (tx p)).2.2]) := by
  obtain ⟨m, hm⟩ := V.len
  exact (Tryz.strings_Cut s p m B.w hs (cell_ok hB hm)).mono (by rintro x w ⟨rfl, n, rfl⟩; exact ⟨_, _, rfl, Ext.of hB (Grow.drewN _ n), rfl⟩)
theorem Index_ok (V : Vars B.h) (s p : ByteArray) (hs : s.size < 4294967281) : Fn Tryz.prog 86 [.string s, .string p] B (fun v _ => v = .int .i64 (Lib.index (tx s) (tx p))) := by
  obtain ⟨m, hm⟩ := V.len
  exact (Tryz.strings_Index s p m B.w hs (cell_ok hB hm)).mono (by rintro x w ⟨rfl, rfl⟩; exact ⟨_, _, rfl, Ext.of hB (Grow.refl _), rfl⟩)
theorem Split_ok (V : Vars B.h) (s p : ByteArray) (hs : s.size < 4294967281) (hp : 1 ≤ p.size) : Fn Tryz.prog 70 [.string s, .string p] B (fun v h => ∃ l : Sl ByteArray, v = l.val ∧ Strs l h ∧ l.xs.map tx = Lib.split (tx s) (tx p)) := by
  obtain ⟨m, hm⟩ := V.len
  refine (Tryz.strings_Split s p m B.w hs (cell_ok hB hm) hp).mono ?_
  rintro x w ⟨rfl, rfl⟩
  have hlen := Lib.splitB_all p hp 0 _ s rfl
  have hle := Lib.countB_le p hp s.size s (Nat.le_refl _)
  obtain ⟨l, hl⟩ : ∃ l, l = Lib.splitB p 0 (Lib.countB s p) s := ⟨_, rfl⟩
  rw [← hl] at hlen ⊢
  obtain ⟨h', gl, he, I⟩ := ((Inv.start hB).alloc (l.map Value.string) 9).settle
  have hb := he B.w.heap.size (by simp [box])
  rw [World.alloc_heap_new] at hb
  refine ⟨_, h', rfl, I, ⟨some ⟨B.w.heap.size, 0, none⟩, Lib.countB s p + 1, l⟩, by rw [Sl.val, hlen], ⟨fun i y hy => ⟨rfl, fun j v hj => ?_⟩, by dsimp only; omega⟩, ?_⟩
  · have : j = 0 ∧ v = .string y := by
      cases j with
      | zero => simpa [sEn] using hj.symm
      | succ j => simp [sEn] at hj
    obtain ⟨rfl, rfl⟩ := this
    unfold Heap.cell
    simp only [Sl.blk, Sl.off, Option.getD_some, hb]
    simpa using hy
  · dsimp only
    rw [hl, Lib.splitB_data]; rfl
theorem IdxByte_ok (s : ByteArray) (c : Int) : Fn Tryz.prog 68 [.string s, .int .u8 c] B (fun v _ => v = .int .i64 (Lib.indexByte (tx s) c.toNat.toUInt8)) :=
  (Tryz.strings_IndexByte s c B.w).mono (by rintro x w ⟨rfl, rfl⟩; exact ⟨_, _, rfl, Ext.of hB (Grow.refl _), rfl⟩)
theorem Itoa_ok (n : Nat) (hn : n < 100) : Fn Tryz.prog 24 [.int .i64 n] B (fun v _ => v = .string (mk (dgL n))) := by
  have := dec_dg ⟨n, hn⟩
  simp only at this
  rw [← this]
  exact (Tryz.strconv_Itoa_small n hn B.w).mono (by rintro x w ⟨rfl, rfl⟩; exact ⟨_, _, rfl, Ext.of hB (Grow.refl _), rfl⟩)
/-- strconv.Atoi: a number, and no error; or an error. -/
theorem Atoi_ok (V : Vars B.h) (s : ByteArray) (hs : s.size ≤ 140737488355328) : Fn Tryz.prog 127 [.string s] B (fun v _ => (∃ n, numR (tx s) = some n ∧ v = .tuple #[.int .i64 n, .nilIface]) ∨ (numR (tx s) = none ∧ ∃ n te pe, v = .tuple #[.int .i64 n, .iface te pe])) := by
  obtain ⟨t1, p1, h1⟩ := V.syn
  obtain ⟨t2, p2, h2⟩ := V.rng
  obtain ⟨ee, hee⟩ : ∃ ee, Lib.atoiAll (tx s) = ee := ⟨_, rfl⟩
  rcases ee with v | _ | _
  · have he := hee
    refine (Tryz.strconv_Atoi_ok s (by omega) v he B.w).mono ?_
    rintro x w ⟨rfl, hw⟩
    refine ⟨_, _, rfl, Ext.of hB ?_, .inl ⟨v, by unfold numR; rw [he], rfl⟩⟩
    rcases hw with rfl | ⟨t, rfl⟩
    · exact Grow.refl _
    · exact Grow.bytesW _ _ _
  · have he := hee
    refine (Any.strconv_Atoi_syntax Tryz.laysC172 s (by omega) he _ B.w (cell_ok hB h1) (.inr ⟨_, _, rfl⟩)).mono ?_
    rintro x w ⟨N, rfl, _, _, hw⟩
    exact ⟨_, _, rfl, Ext.of hB hw, .inr ⟨by unfold numR; rw [he], _, _, _, rfl⟩⟩
  · have he := hee
    refine (Tryz.strconv_Atoi_range s (by omega) he _ B.w (cell_ok hB h2) (.inr ⟨_, _, rfl⟩)).mono ?_
    rintro x w ⟨N, rfl, _, _, hw⟩
    exact ⟨_, _, rfl, Ext.of hB hw, .inr ⟨by unfold numR; rw [he], _, _, _, rfl⟩⟩
theorem SJoin_ok (l : Sl ByteArray) (hl : Strs l B.h) (hc : l.xs.length ≤ l.cap) (p : ByteArray) (hlen : (joinT (tx p) (l.xs.map tx)).length ≤ 140737488355328) : Fn Tryz.prog 26 [l.val, .string p] B (fun v _ => v = .string (mk (joinT (tx p) (l.xs.map tx)))) := by
  cases hx : l.xs with
  | nil =>
    have := Tryz.strings_Join_none l.at_ l.cap p B.w
    unfold Sl.val
    rw [hx]
    exact this.mono (by rintro x w ⟨rfl, rfl⟩; exact ⟨_, _, rfl, Ext.of hB (Grow.refl _), rfl⟩)
  | cons y r =>
    obtain ⟨ha, hr⟩ := hl.el 0 y (by rw [hx]; rfl)
    have hcell : ∀ j x, l.xs[j]? = some x → B.w.cell? ⟨l.blk, l.off + j, none⟩ = some (.string x) := fun j x hj => by
      have := (hl.el j x hj).2 0 (.string x) rfl
      exact cell_ok hB (by simpa using this)
    have hblk : l.blk < B.w.heap.size := World.block_lt_of_cell? B.w ⟨l.blk, l.off + 0, none⟩ (hcell 0 y (by rw [hx]; rfl))
    have := Tryz.strings_Join l.blk l.off l.cap l.xs p B.w hcell hblk hl.small hc (by rw [join_inter]; exact hlen)
    rw [join_inter] at this
    unfold Sl.val
    rw [ha, ← hx]
    exact this.mono (by rintro x w ⟨rfl, hw⟩; exact ⟨_, _, rfl, Ext.of hB hw, rfl⟩)
end
end Go.TF
end
section
/- A region in which a literal is made and appended to what the call owns, while what is loaded may be loaded ahead or behind. -/
namespace Go.TF
open Go Go.RowKit

structure ApS where
  h : Heap
  o7 : Option (Nat × Nat)
def pcA (T k n m : Nat) (v : Value) (xs x : List Value) (o7 : Option (Nat × Nat)) : SA := match o7 with
  | none => ownSl T k v n xs
  | some y => ownSl T k (.slice (some ⟨y.1, 0, none⟩) (n + m) y.2) (n + m) (xs ++ x)
structure JAp (B : Base) (M : List SA) (T k n m : Nat) (v : Value) (xs x : List Value) (i7 : Nat) (D : Nat → Bool) (s : ApS) (w : World) : Prop where
  h7 : s.o7.isSome = D i7
  inv : Inv B s.h (pcA T k n m v xs x s.o7 :: M) w
structure RAp (s s' : ApS) : Prop where
  h : s.h.le s'.h
  h7 : ∀ y, s.o7 = some y → s'.o7 = some y
theorem RAp.pre : Pre RAp := ⟨fun _ => ⟨Heap.le.refl _, fun _ h => h⟩, fun _ _ _ h k => ⟨h.h.trans k.h, fun y e => k.h7 y (h.h7 y e)⟩⟩
def AtAp (N : Nat) (u : Value) (s : ApS) : Prop := ∃ g c, u = .slice (some ⟨g, 0, none⟩) N c ∧ s.o7 = some (g, c)
theorem AtAp.mono {N : Nat} : MonoG RAp (AtAp N) := fun _ _ _ r ⟨g, c, h1, h2⟩ => ⟨g, c, h1, r.h7 _ h2⟩
def KnA (Φ : Sp) (u : Value) (s : ApS) : Prop := Φ u s.h
theorem KnA.mono {Φ : Sp} (hm : MonoS Φ) : MonoG RAp (KnA Φ) := fun _ _ _ r h => hm _ _ _ r.h h
section
variable {P : Program} {o : Oper} {e : Env} {B : Base} {M : List SA} {T k n m : Nat} {v : Value} {xs x : List Value} {i7 i : Nat} {D : Nat → Bool} {s : ApS} {w : World}
theorem JAp.base (j : JAp B M T k n m v xs x i7 D s w) : Inv B s.h M w := j.inv.drop
theorem JAp.set (h : i7 ≠ i) : ∀ D s w, JAp B M T k n m v xs x i7 D s w → JAp B M T k n m v xs x i7 (setD D i) s w := fun D s w j => ⟨by rw [show setD D i i7 = D i7 by simp [setD, h]]; exact j.h7, j.inv⟩
/-- What makes known more, and turns nothing. -/
theorem JAp.know {Φ : Sp} (j : JAp B M T k n m v xs x i7 D s w) (h : i7 ≠ i) (hop : ∀ N, Inv B s.h N w → Op1 P o e w fun u w' => ∃ h', s.h.le h' ∧ Inv B h' N w' ∧ Φ u h') :
    Op1 P o e w fun u w' => ∃ s', RAp s s' ∧ JAp B M T k n m v xs x i7 (setD D i) s' w' ∧ KnA Φ u s' :=
  (hop _ j.inv).mono fun u w' ⟨h', hl, I, hu⟩ => ⟨⟨h', s.o7⟩, ⟨hl, fun _ e => e⟩, ⟨by rw [show setD D i i7 = D i7 by simp [setD, h]]; exact j.h7, I⟩, hu⟩
theorem JAp.app (j : JAp B M T k n m v xs x i7 D s w) (hD : D i7 = false) (hop : Inv B s.h (ownSl T k v n xs :: M) w → Op1 P o e w fun u w' => ∃ g c, u = .slice (some ⟨g, 0, none⟩) (n + m) c ∧ Inv B s.h (ownSl T k (.slice (some ⟨g, 0, none⟩) (n + m) c) (n + m) (xs ++ x) :: M) w') :
    Op1 P o e w fun u w' => ∃ s', RAp s s' ∧ JAp B M T k n m v xs x i7 (setD D i7) s' w' ∧ AtAp (n + m) u s' := by
  have h7 : s.o7 = none := by have := j.h7; rw [hD] at this; cases h : s.o7 <;> simp_all
  have I := j.inv
  rw [h7] at I
  exact (hop I).mono fun u w' ⟨g, c, e, I⟩ => ⟨⟨s.h, some (g, c)⟩, ⟨Heap.le.refl _, fun y e => (by rw [h7] at e; cases e)⟩, ⟨by simp [setD], I⟩, g, c, e, rfl⟩
end
def EqV (v0 : Value) : Sp := fun v _ => v = v0
theorem EqV.mono {v0 : Value} : MonoS (EqV v0) := fun _ _ _ _ h => h
abbrev KnAp (Φ : Sp) := KnA Φ
theorem KnAp.mono {Φ : Sp} (hm : MonoS Φ) : MonoG RAp (KnAp Φ) := KnA.mono hm
end Go.TF
end
section
/- A few more operations: an error held against nil, a number as text, a panic. -/
namespace Go.TF
open Go Go.RowKit

section
variable {P : Program} {e : Env} {w : World} {t : TypeId} {pos : String} {af : Array Edge} {g : Option (Nat × Bool)} {d : Option Nat}
theorem Y.eqnilT {x : Operand} {T T' : TypeId} (hT : P.underlying T = some (.interface (P.methodsAt T))) (hx : ev e x = .nilIface) : Y P ⟨d, .binOp .eql T x (.const .nilIface) T', t, pos, af, g⟩ e w (.bool true) := by
  have hy : ev e (.const .nilIface) = .nilIface := rfl
  simp only [Y, execOp, hx, hy, eqGuard_nil_constR]
  simp [run_eql_nil_nil w T hT]
theorem Y.eqnilF {x : Operand} {T T' te : TypeId} {pe : Value} (hT : P.underlying T = some (.interface (P.methodsAt T))) (hx : ev e x = .iface te pe) : Y P ⟨d, .binOp .eql T x (.const .nilIface) T', t, pos, af, g⟩ e w (.bool false) := by
  have hy : ev e (.const .nilIface) = .nilIface := rfl
  simp [Y, execOp, hx, hy, eqGuard, run_eql_held_nil w T te pe hT]
/-- A small number as a text of one byte. -/
theorem Y.runes {x : Operand} {S T : TypeId} {k : IntKind} {n : Nat} (hS : (P.underlying S).isSome = true) (hT : Und P T .string) (hx : ev e x = .int k (n : Int)) (hn : n < 128) : Y P ⟨d, .convert S T x, t, pos, af, g⟩ e w (.string ⟨#[UInt8.ofNat n]⟩) := by
  have h1 : Utf8.encode (n : Int) = ⟨#[UInt8.ofNat n]⟩ := by
    have hv : Utf8.valid (n : Int) = true := by simp [Utf8.valid]; omega
    unfold Utf8.encode
    rw [hv]
    simp [hn]
  simp [Y, execOp, hx, run_convert_int_string w S T k n hS hT, h1]
theorem O.panic {X : PX} {x : Operand} {T : TypeId} {v : Value} {K : Value → World → Prop} (hx : ev e x = .iface T v) (k : X [{ v := .iface T v, recovered := false }] w) : Op1P P X ⟨d, .panic x, t, pos, af, g⟩ e w K := by
  have : (execOp (ev e) ⟨d, .panic x, t, pos, af, g⟩).run P w = .halt (.panic (.iface T v)) w := by
    simp [execOp, hx, Instr.panic]
  unfold Op1P
  rw [this]
  exact k
end
theorem i32_of {n : Int} (h0 : 0 ≤ n) (h1 : n < 2147483648) : IntKind.i32.wrap n = n := by
  have h64 : IntKind.i32.bits = 32 := rfl
  have hs : IntKind.i32.signed = true := rfl
  unfold IntKind.wrap
  simp only [h64, hs, Bool.true_and, Nat.add_one_sub_one]
  simp only [show (2 ^ 32 : Int) = 4294967296 from rfl, show (2 ^ (32 - 1) : Int) = 2147483648 from rfl, ge_iff_le, decide_eq_true_eq]
  split <;> omega
theorem JAp.knowP {P : Program} {X : PX} {o : Oper} {e : Env} {B : Base} {M : List SA} {T k n m : Nat} {v : Value} {xs x : List Value} {i7 i : Nat} {D : Nat → Bool} {s : ApS} {w : World} {Φ : Sp} (j : JAp B M T k n m v xs x i7 D s w) (h : i7 ≠ i) (hop : ∀ N, N = pcA T k n m v xs x s.o7 :: M → Inv B s.h N w → Op1P P X o e w fun u w' => ∃ h', s.h.le h' ∧ Inv B h' N w' ∧ Φ u h') :
    Op1P P X o e w fun u w' => ∃ s', RAp s s' ∧ JAp B M T k n m v xs x i7 (setD D i) s' w' ∧ KnA Φ u s' :=
  (hop _ rfl j.inv).mono fun u w' ⟨h', hl, I, hu⟩ => ⟨⟨h', s.o7⟩, ⟨hl, fun _ e => e⟩, ⟨by rw [show setD D i i7 = D i7 by simp [setD, h]]; exact j.h7, I⟩, hu⟩
/-- A call that may panic; what the panic tells is for the caller to say. -/
theorem O.callpX {P : Program} {X : PX} {e : Env} {w : World} {B : Base} {h : Heap} {M : List SA} {t : TypeId} {pos : String} {af : Array Edge} {g : Option (Nat × Bool)} {C : List PanicEntry} {d : Option Nat} {f : FuncId} {args : Array Operand} {ts : Array TypeId} {vs : List Value} {Pan : Prop} {Post : Value → Heap → Prop} {K : Value → World → Prop} (I : Inv B h M w) (hf : Enters P f) (hfn : FnP P f vs ⟨w, h⟩ C Pan Post)
    (ha : args.toList.map (ev e) = vs) (kx : ∀ w', Grow w w' → Pan → X C w') (k : ∀ v h' w', Inv B h' M w' → h.le h' → Post v h' → K v w') : Op1P P X ⟨d, .call { callee := .value (.func f), args := args, argTypes := ts }, t, pos, af, g⟩ e w K := by
  have ha' : args.map (ev e) = vs.toArray := by rw [← ha]; apply Array.ext'; simp
  have : (execOp (ev e) ⟨d, .call { callee := .value (.func f), args := args, argTypes := ts }, t, pos, af, g⟩).run P w = .ok (.enter f vs.toArray) w := by
    simp [execOp, resolve, ev, Deferred.ofValue, invoke, ha', hf]
  unfold Op1P
  rw [this]
  refine Calls.mono hfn ?_
  rintro x w' (⟨v, h', rfl, X, hp⟩ | ⟨ch, rfl, rfl, h2, h3⟩)
  · exact k v h' w' (I.called X) X.ext hp
  · exact kx w' h2 h3
/-- A call of a function that turns what the caller owns, or panics. -/
theorem O.callsP {P : Program} {X : PX} {e : Env} {w : World} {t : TypeId} {pos : String} {af : Array Edge} {g : Option (Nat × Bool)} {d : Option Nat} {K : Value → World → Prop} {f : FuncId} {args : Array Operand} {ts : Array TypeId} {vs : List Value} {R : Ending → World → Prop} (hf : Enters P f) (hc : Calls P f vs.toArray w R)
    (ha : args.toList.map (ev e) = vs) (k : ∀ ed w', R ed w' → (∃ v, ed = .returned v ∧ K v w') ∨ ∃ ch, ed = .panicked ch ∧ X ch w') : Op1P P X ⟨d, .call { callee := .value (.func f), args := args, argTypes := ts }, t, pos, af, g⟩ e w K := by
  have ha' : args.map (ev e) = vs.toArray := by rw [← ha]; apply Array.ext'; simp
  have : (execOp (ev e) ⟨d, .call { callee := .value (.func f), args := args, argTypes := ts }, t, pos, af, g⟩).run P w = .ok (.enter f vs.toArray) w := by
    simp [execOp, resolve, ev, Deferred.ofValue, invoke, ha', hf]
  unfold Op1P
  rw [this]
  refine Calls.mono hc ?_
  rintro ed w' h
  rcases k ed w' h with ⟨v, rfl, hk⟩ | ⟨ch, rfl, hk⟩
  · exact hk
  · exact hk
/-- What a function owes at its end that turns what the caller owns, or panics. -/
def callQP (P : Program) (fn : Func) (R : Ending → World → Prop) : Exit → Env → World → Prop
  | .ret, e, w | .normal, e, w => ∃ vs, RV P e w fn.results.toList vs ∧ R (.returned (tup vs)) w
  | .panic ch, _, w => R (.panicked ch) w
  | _, _, _ => False
theorem Calls.ofWPP {P : Program} {f : FuncId} {fn : Func} {c : Code} {N : Nat} {args : List Value} {w : World} {R : Ending → World → Prop} (hf : P.funcs[f]? = some fn) (hb : fn.body = some c) (hN : fn.ntmps = N) (hs : slotsOk N c = true)
    (hl : args.length ≤ N) (h : ∀ e, WP P N [] c (E e (argsE 0 args)) w (callQP P fn R)) : Calls P f args.toArray w R := by
  refine calls_of_wp hf hb ?_
  subst hN
  refine wp_mono (h _ hs { tmps := args.toArray ++ Array.replicate (fn.ntmps - args.toArray.size) undef, defers := [] } (by simp; omega) rfl (E_self (has_args args 0 fun j v hv => ?_)).symm) ?_
  · have hj := (List.getElem?_eq_some_iff.1 hv).1
    have hg : args[j] = v := (List.getElem?_eq_some_iff.1 hv).2
    simp [env, Array.getD_eq_getD_getElem?, Array.getElem?_append, hj, hg]
  · rintro x a' w' ⟨_, g2, g3⟩
    cases x <;> simp only [callQP] at g3 <;> first | exact g3.elim | skip
    · obtain ⟨vs, hv, hr⟩ := g3
      exact ⟨g2, _, results_run rfl hv, hr⟩
    · obtain ⟨vs, hv, hr⟩ := g3
      exact ⟨g2, _, results_run rfl hv, hr⟩
    · exact ⟨g2, g3⟩
/-- What was made behind h1 stays known where a slice that was known in h1 is written again. -/
theorem OwnH.keep {α β : Type} {el k el2 k2 : Nat} {s : Sl α} {u : Sl β} {enc : α → List Value} {enc2 : β → List Value} {h0 h1 h h' : Heap} (o : OwnH el k s enc h1 h) (ou : OwnH el2 k2 u enc2 h0 h1) (kp : ∀ b x, h b = some x → h' b = some x ∨ u.at_ = some ⟨b, 0, none⟩) : OwnH el k s enc h1 h' := by
  rcases o with o | ⟨g, cur, q1, q2, q3, q4⟩
  · exact .inl o
  · refine .inr ⟨g, cur, q1, q2, ?_, q4⟩
    rcases kp g _ q3 with h3 | h3
    · exact h3
    · exfalso
      rcases ou with rfl | ⟨g2, cur2, r1, _, r3, _⟩
      · simp at h3
      · rw [r1] at h3
        injection h3 with h3
        injection h3 with h3
        subst h3
        rw [r3] at q2; cases q2
/-- A slice of the call's own is as long as its room at most. -/
theorem ownSl_cap {w : World} {T k n c : Nat} {a : Option Addr} {xs : List Value} (h : w.ownsRow 0 T k (.slice a n c) n xs) : n ≤ c := by
  rcases h.2 with ⟨h1, h2⟩ | ⟨g, cap, cur, hv, _, _, hnc, _⟩
  · omega
  · injection hv with _ _ h3; omega
end Go.TF
end
section
/- slices.IndexFunc, ContainsFunc at this program's types, at a predicate that keeps nothing. -/
namespace Go.TF
open Go Go.RowKit Go.Proofs
set_option maxRecDepth 10000

/-- A function value that answers p at each element, whatever the world, and keeps nothing. -/
def PredFn {α : Type} (P : Program) (f : FuncId) (fs cs : List Value) (h : Heap) (val : α → Value) (xs : List α) (p : α → Bool) : Prop :=
  ∀ B' : Base, B'.ok → h.le B'.h → ∀ x ∈ xs, Fn P f (fs ++ [val x] ++ cs) B' (fun v _ => v = .bool (p x))
def idxOf {α : Type} (p : α → Bool) (xs : List α) : Int := match xs.findIdx? p with | some i => (i : Int) | none => -1
theorem idxOf_none {α : Type} {p : α → Bool} {xs : List α} (h : ∀ x ∈ xs, p x = false) : idxOf p xs = -1 := by
  have : xs.findIdx? p = none := by rw [List.findIdx?_eq_none_iff]; intro x hx; simpa using h x hx
  simp [idxOf, this]
theorem idxOf_some {α : Type} {p : α → Bool} {xs : List α} {k : Nat} (hk : k < xs.length) (h : ∀ j (hj : j < k), p (xs[j]'(by omega)) = false) (hp : p xs[k] = true) : idxOf p xs = k := by
  have : xs.findIdx? p = some k := by
    rw [List.findIdx?_eq_some_iff_getElem]
    exact ⟨hk, hp, fun j hj => by simp [h j hj]⟩
  simp [idxOf, this]
theorem idxOf_any {α : Type} (p : α → Bool) (xs : List α) : decide (0 ≤ idxOf p xs) = xs.any p := by
  unfold idxOf
  cases h : xs.findIdx? p with
  | none =>
    rw [List.findIdx?_eq_none_iff] at h
    have : xs.any p = false := by rw [List.any_eq_false]; intro x hx; simp [h x hx]
    simp [this]
  | some i =>
    rw [List.findIdx?_eq_some_iff_getElem] at h
    obtain ⟨hi, hp, _⟩ := h
    have : xs.any p = true := List.any_eq_true.2 ⟨_, List.getElem_mem hi, hp⟩
    simp [this]
theorem IndexFuncTrm_ok (B : Base) (hB : B.ok) (l : Sl Trm) (hl : l.Is 2 Trm.enc B.h) (f : FuncId) (ent : Enters Tryz.prog f) (fs cs : List Value) (p : Trm → Bool) (hp : PredFn Tryz.prog f fs cs B.h Trm.val l.xs p) :
    Fn Tryz.prog 226 [l.val, .func (.func f) fs.toArray cs.toArray] B (fun v _ => v = .int .i64 (idxOf p l.xs)) := by
  refine Fn.of Tryz.func226 rfl Tryz.ntmps226 (by kernel_rfl) (by simp) ?_
  intro e
  have I := Inv.start hB
  refine WP.seq ?_
  refine WP.region ?_
  refine Ops.y (v := .int .i64 _) (Y.assign rfl) ?_
  refine Ops.nil ?_
  refine WP.seq ?_
  refine WP.seq ?_
  refine WP.region ?_
  refine Ops.y (v := .slice _ _ _) (Y.move rfl) ?_
  refine Ops.y (v := .int .i64 _) (Y.lens Tryz.underlying59 rfl) ?_
  refine Ops.y (v := .int .i64 _) (Y.move rfl) ?_
  refine Ops.nil ?_
  refine WP.block ?_
  refine WP.loopE (σ := Nat) (fun k => [(0, l.val), (1, .func (.func f) fs.toArray cs.toArray), (7, .int .i64 l.xs.length), (8, .int .i64 k)]) (fun k w => Inv B B.h [] w ∧ k ≤ l.xs.length ∧ ∀ j (hj : j < k) (hj' : j < l.xs.length), p l.xs[j] = false) (fun k => l.xs.length - k)
    ⟨0, ⟨rfl, rfl, rfl, rfl, trivial⟩, I, Nat.zero_le _, fun j hj => (by omega)⟩ ?_
  rintro k e w ⟨I, hk, hn⟩
  have hsm := hl.small
  refine WP.seq ?_
  refine WP.region ?_
  refine Ops.y (v := .bool (decide _)) (Y.lti rfl rfl) ?_
  refine Ops.nil ?_
  refine WP.seq ?_
  refine WP.cond_dec rfl (fun h => ?_) (fun h => ?_)
  · have hk' : k < l.xs.length := by omega
    have E1 := hl.at hk'
    refine WP.skip ?_
    refine WP.seq ?_
    refine WP.block ?_
    refine WP.seq ?_
    refine WP.region ?_
    refine Ops.y (v := .int .i64 _) (Y.move rfl) ?_
    refine Ops.y (v := .int .i64 _) (Y.assign rfl) ?_
    refine Ops.nil ?_
    refine WP.seq ?_
    refine WP.region ?_
    refine Ops.y (v := .func _ _ _) (Y.move rfl) ?_
    refine Ops.y (v := .slice _ _ _) (Y.move rfl) ?_
    refine Ops.y (v := .int .i64 _) (Y.move rfl) ?_
    refine Ops.y (v := .pointer (some ⟨_, _, none⟩)) (Y.idxEl E1 Tryz.underlying59 Tryz.sizeOf109 rfl rfl (Int.natCast_nonneg _) rfl) ?_
    refine Ops.y (v := .agg #[_, _]) (Y.loadv ty_109 rfl (I.rd (E1.rd.part 0 2)) rfl rfl) ?_
    refine Ops.go (O.callcv I ent rfl (hp ⟨w, B.h⟩ I.base_ok (Heap.le.refl _) l.xs[k] (List.getElem_mem hk')) rfl ?_)
    intro w I
    refine Ops.nil ?_
    refine WP.cond rfl (fun hb => ?_) (fun hb => ?_)
    · refine WP.seq ?_
      refine WP.region ?_
      refine Ops.y (v := .int .i64 _) (Y.move rfl) ?_
      refine Ops.y (v := .int .i64 _) (Y.assign rfl) ?_
      refine Ops.nil ?_
      refine WP.ret ?_
      repeat (first | refine thenE_ret ?_ | refine blockE_ret ?_)
      exact retQ.mk (vs := [.int .i64 _]) rfl ⟨rfl, trivial⟩ I.ext_of (by simp only [tup]; rw [idxOf_some hk' (fun j hj => hn j hj (by omega)) hb])
    refine WP.skip ?_
    refine WP.region ?_
    refine Ops.y (v := .int .i64 _) (Y.addi rfl rfl ⟨by omega, by omega⟩) ?_
    refine Ops.y (v := .int .i64 _) (Y.move rfl) ?_
    refine Ops.nil ?_
    exact ⟨k + 1, ⟨⟨rfl, rfl, rfl, rfl, trivial⟩, I, by omega, fun j hj hj' => by
      rcases Nat.lt_succ_iff_lt_or_eq.1 hj with h' | h'
      · exact hn j h' hj'
      · subst h'; exact hb⟩, by omega⟩
  refine WP.exit ?_
  refine WP.seq ?_
  refine WP.region ?_
  refine Ops.y (v := .int .i64 _) (Y.assign rfl) ?_
  refine Ops.nil ?_
  refine WP.ret ?_
  repeat (first | refine thenE_ret ?_ | refine blockE_ret ?_)
  exact retQ.mk (vs := [.int .i64 _]) rfl ⟨rfl, trivial⟩ I.ext_of (by simp only [tup]; rw [idxOf_none]; intro x hx; obtain ⟨j, hj, rfl⟩ := List.getElem_of_mem hx; exact hn j (by omega) hj)
theorem ContainsFuncTrm_ok (B : Base) (hB : B.ok) (l : Sl Trm) (hl : l.Is 2 Trm.enc B.h) (f : FuncId) (ent : Enters Tryz.prog f) (fs cs : List Value) (p : Trm → Bool) (hp : PredFn Tryz.prog f fs cs B.h Trm.val l.xs p) :
    Fn Tryz.prog 199 [l.val, .func (.func f) fs.toArray cs.toArray] B (fun v _ => v = .bool (l.xs.any p)) := by
  refine Fn.of Tryz.func199 rfl Tryz.ntmps199 (by kernel_rfl) (by simp) ?_
  intro e
  have I := Inv.start hB
  refine WP.seq ?_
  refine WP.region ?_
  refine Ops.y (v := .bool _) (Y.assign rfl) ?_
  refine Ops.nil ?_
  refine WP.seq ?_
  refine WP.region ?_
  refine Ops.y (v := .slice _ _ _) (Y.move rfl) ?_
  refine Ops.y (v := .func _ _ _) (Y.move rfl) ?_
  refine Ops.go (O.callv I Tryz.call226 (IndexFuncTrm_ok _ I.base_ok l hl f ent fs cs p hp) rfl ?_)
  intro w I
  refine Ops.y (v := .bool (decide _)) (Y.gei rfl rfl) ?_
  refine Ops.y (v := .bool _) (Y.assign rfl) ?_
  refine Ops.nil ?_
  refine WP.ret ?_
  repeat (first | refine thenE_ret ?_ | refine blockE_ret ?_)
  exact retQ.mk (vs := [.bool _]) rfl ⟨rfl, trivial⟩ I.ext_of (by simp only [tup]; rw [idxOf_any])
theorem IndexFuncPrd_ok (B : Base) (hB : B.ok) (l : Sl Prd) (hl : l.Is 3 Prd.enc B.h) (f : FuncId) (ent : Enters Tryz.prog f) (fs cs : List Value) (p : Prd → Bool) (hp : PredFn Tryz.prog f fs cs B.h Prd.val l.xs p) :
    Fn Tryz.prog 114 [l.val, .func (.func f) fs.toArray cs.toArray] B (fun v _ => v = .int .i64 (idxOf p l.xs)) := by
  refine Fn.of Tryz.func114 rfl Tryz.ntmps114 (by kernel_rfl) (by simp) ?_
  intro e
  have I := Inv.start hB
  refine WP.seq ?_
  refine WP.region ?_
  refine Ops.y (v := .int .i64 _) (Y.assign rfl) ?_
  refine Ops.nil ?_
  refine WP.seq ?_
  refine WP.seq ?_
  refine WP.region ?_
  refine Ops.y (v := .slice _ _ _) (Y.move rfl) ?_
  refine Ops.y (v := .int .i64 _) (Y.lens Tryz.underlying22 rfl) ?_
  refine Ops.y (v := .int .i64 _) (Y.move rfl) ?_
  refine Ops.nil ?_
  refine WP.block ?_
  refine WP.loopE (σ := Nat) (fun k => [(0, l.val), (1, .func (.func f) fs.toArray cs.toArray), (7, .int .i64 l.xs.length), (8, .int .i64 k)]) (fun k w => Inv B B.h [] w ∧ k ≤ l.xs.length ∧ ∀ j (hj : j < k) (hj' : j < l.xs.length), p l.xs[j] = false) (fun k => l.xs.length - k)
    ⟨0, ⟨rfl, rfl, rfl, rfl, trivial⟩, I, Nat.zero_le _, fun j hj => (by omega)⟩ ?_
  rintro k e w ⟨I, hk, hn⟩
  have hsm := hl.small
  refine WP.seq ?_
  refine WP.region ?_
  refine Ops.y (v := .bool (decide _)) (Y.lti rfl rfl) ?_
  refine Ops.nil ?_
  refine WP.seq ?_
  refine WP.cond_dec rfl (fun h => ?_) (fun h => ?_)
  · have hk' : k < l.xs.length := by omega
    have E1 := hl.at hk'
    refine WP.skip ?_
    refine WP.seq ?_
    refine WP.block ?_
    refine WP.seq ?_
    refine WP.region ?_
    refine Ops.y (v := .int .i64 _) (Y.move rfl) ?_
    refine Ops.y (v := .int .i64 _) (Y.assign rfl) ?_
    refine Ops.nil ?_
    refine WP.seq ?_
    refine WP.region ?_
    refine Ops.y (v := .func _ _ _) (Y.move rfl) ?_
    refine Ops.y (v := .slice _ _ _) (Y.move rfl) ?_
    refine Ops.y (v := .int .i64 _) (Y.move rfl) ?_
    refine Ops.y (v := .pointer (some ⟨_, _, none⟩)) (Y.idxEl E1 Tryz.underlying22 Tryz.sizeOf53 rfl rfl (Int.natCast_nonneg _) rfl) ?_
    refine Ops.y (v := .agg #[_, _, _]) (Y.loadv ty_53 rfl (I.rd (E1.rd.part 0 3)) rfl rfl) ?_
    refine Ops.go (O.callcv I ent rfl (hp ⟨w, B.h⟩ I.base_ok (Heap.le.refl _) l.xs[k] (List.getElem_mem hk')) rfl ?_)
    intro w I
    refine Ops.nil ?_
    refine WP.cond rfl (fun hb => ?_) (fun hb => ?_)
    · refine WP.seq ?_
      refine WP.region ?_
      refine Ops.y (v := .int .i64 _) (Y.move rfl) ?_
      refine Ops.y (v := .int .i64 _) (Y.assign rfl) ?_
      refine Ops.nil ?_
      refine WP.ret ?_
      repeat (first | refine thenE_ret ?_ | refine blockE_ret ?_)
      exact retQ.mk (vs := [.int .i64 _]) rfl ⟨rfl, trivial⟩ I.ext_of (by simp only [tup]; rw [idxOf_some hk' (fun j hj => hn j hj (by omega)) hb])
    refine WP.skip ?_
    refine WP.region ?_
    refine Ops.y (v := .int .i64 _) (Y.addi rfl rfl ⟨by omega, by omega⟩) ?_
    refine Ops.y (v := .int .i64 _) (Y.move rfl) ?_
    refine Ops.nil ?_
    exact ⟨k + 1, ⟨⟨rfl, rfl, rfl, rfl, trivial⟩, I, by omega, fun j hj hj' => by
      rcases Nat.lt_succ_iff_lt_or_eq.1 hj with h' | h'
      · exact hn j h' hj'
      · subst h'; exact hb⟩, by omega⟩
  refine WP.exit ?_
  refine WP.seq ?_
  refine WP.region ?_
  refine Ops.y (v := .int .i64 _) (Y.assign rfl) ?_
  refine Ops.nil ?_
  refine WP.ret ?_
  repeat (first | refine thenE_ret ?_ | refine blockE_ret ?_)
  exact retQ.mk (vs := [.int .i64 _]) rfl ⟨rfl, trivial⟩ I.ext_of (by simp only [tup]; rw [idxOf_none]; intro x hx; obtain ⟨j, hj, rfl⟩ := List.getElem_of_mem hx; exact hn j (by omega) hj)
theorem ContainsFuncPrd_ok (B : Base) (hB : B.ok) (l : Sl Prd) (hl : l.Is 3 Prd.enc B.h) (f : FuncId) (ent : Enters Tryz.prog f) (fs cs : List Value) (p : Prd → Bool) (hp : PredFn Tryz.prog f fs cs B.h Prd.val l.xs p) :
    Fn Tryz.prog 55 [l.val, .func (.func f) fs.toArray cs.toArray] B (fun v _ => v = .bool (l.xs.any p)) := by
  refine Fn.of Tryz.func55 rfl Tryz.ntmps55 (by kernel_rfl) (by simp) ?_
  intro e
  have I := Inv.start hB
  refine WP.seq ?_
  refine WP.region ?_
  refine Ops.y (v := .bool _) (Y.assign rfl) ?_
  refine Ops.nil ?_
  refine WP.seq ?_
  refine WP.region ?_
  refine Ops.y (v := .slice _ _ _) (Y.move rfl) ?_
  refine Ops.y (v := .func _ _ _) (Y.move rfl) ?_
  refine Ops.go (O.callv I Tryz.call114 (IndexFuncPrd_ok _ I.base_ok l hl f ent fs cs p hp) rfl ?_)
  intro w I
  refine Ops.y (v := .bool (decide _)) (Y.gei rfl rfl) ?_
  refine Ops.y (v := .bool _) (Y.assign rfl) ?_
  refine Ops.nil ?_
  refine WP.ret ?_
  repeat (first | refine thenE_ret ?_ | refine blockE_ret ?_)
  exact retQ.mk (vs := [.bool _]) rfl ⟨rfl, trivial⟩ I.ext_of (by simp only [tup]; rw [idxOf_any])
end Go.TF
end
section
/- Package text: must, num, term, Atom: walked. -/
namespace Go.TF
open Go Go.RowKit Go.Proofs
set_option maxRecDepth 20000

/-- The panic that says that a text is broken. -/
abbrev brk : List PanicEntry := [{ v := .iface 119 (.agg #[]), recovered := false }]
theorem must_ok (B : Base) (hB : B.ok) (b : Bool) : FnP Tryz.prog 32 [.bool b] B brk (b = false) (fun v _ => b = true ∧ v = .tuple #[]) := by
  refine FnP.of Tryz.func32 rfl Tryz.ntmps32 (by kernel_rfl) (by simp) ?_
  intro e
  have I := Inv.start hB
  refine WP.seq ?_
  refine WP.region ?_
  refine Ops.y (v := .bool _) (Y.move rfl) ?_
  refine Ops.y (v := .bool _) (Y.not rfl) ?_
  refine Ops.nil ?_
  refine WP.cond rfl (fun h => ?_) (fun h => ?_)
  · refine WP.regionP _ (fun _ _ _ h => h) ?_
    refine OpsP.y (v := .agg #[]) (Y.build pl_119 Tryz.zeroValue119 rfl rfl) ?_
    refine OpsP.y (v := .iface _ _) (Y.iface Tryz.underlying119 (by intro ms h; cases h) rfl) ?_
    refine OpsP.p (O.panic rfl ?_)
    exact ⟨rfl, I.below, by simpa using h⟩
  refine WP.skip ?_
  exact retP.fin (vs := []) rfl trivial I.ext_of ⟨by simpa using h, rfl⟩
theorem num_ok (B : Base) (hB : B.ok) (V : Vars B.h) (s : ByteArray) (hs : s.size ≤ 140737488355328) : FnP Tryz.prog 71 [.string s] B brk (numR (tx s) = none) (fun v _ => ∃ n, numR (tx s) = some n ∧ v = .int .i64 n) := by
  cases hn : numR (tx s) with
  | some n =>
    have ha : Fn Tryz.prog 127 [.string s] B (fun v _ => v = .tuple #[.int .i64 n, .nilIface]) := (Atoi_ok B hB V s hs).mono fun v h' _ hv => by
      rcases hv with ⟨m, h1, h2⟩ | ⟨h1, _⟩
      · rw [hn] at h1; cases h1; exact h2
      · rw [hn] at h1; cases h1
    refine FnP.of Tryz.func71 rfl Tryz.ntmps71 (by kernel_rfl) (by simp) ?_
    intro e
    have I := Inv.start hB
    refine WP.seq ?_
    refine WP.region ?_
    refine Ops.y (v := .int .i64 _) (Y.assign rfl) ?_
    refine Ops.nil ?_
    refine WP.seq ?_
    refine WP.region ?_
    refine Ops.y (v := .string _) (Y.move rfl) ?_
    refine Ops.go (O.callv I Tryz.call127 (ha) rfl ?_)
    intro w I
    refine Ops.y (v := .tuple #[_, _]) (Y.move rfl) ?_
    refine Ops.y (v := .int .i64 _) (Y.extract rfl rfl) ?_
    refine Ops.y (v := .nilIface) (Y.extract rfl rfl) ?_
    refine Ops.y (v := .int .i64 _) (Y.assign rfl) ?_
    refine Ops.y (v := _) (Y.assign rfl) ?_
    refine Ops.nil ?_
    refine WP.seq ?_
    refine WP.regionP _ (fun _ _ _ h => h) ?_
    refine OpsP.y (v := _) (Y.move rfl) ?_
    refine OpsP.y (v := .bool true) (Y.eqnilT Tryz.underlying55 rfl) ?_
    refine OpsP.p (O.callp I Tryz.call32 (must_ok _ I.base_ok true) rfl (fun h => by cases h) ?_)
    rintro _ h w I hle ⟨_, rfl⟩
    refine OpsP.nil ?_
    refine WP.seq ?_
    refine WP.region ?_
    refine Ops.y (v := .int .i64 _) (Y.move rfl) ?_
    refine Ops.y (v := .int .i64 _) (Y.assign rfl) ?_
    refine Ops.nil ?_
    refine WP.ret ?_
    repeat (first | refine thenE_ret ?_ | refine blockE_ret ?_)
    exact retP.mk (vs := [.int .i64 _]) rfl ⟨rfl, trivial⟩ I.ext_of (⟨n, rfl, rfl⟩)
  | none =>
    have ha : Fn Tryz.prog 127 [.string s] B (fun v _ => ∃ n te pe, v = .tuple #[.int .i64 n, .iface te pe]) := (Atoi_ok B hB V s hs).mono fun v h' _ hv => by
      rcases hv with ⟨m, h1, h2⟩ | ⟨_, h1⟩
      · rw [hn] at h1; cases h1
      · exact h1
    refine FnP.of Tryz.func71 rfl Tryz.ntmps71 (by kernel_rfl) (by simp) ?_
    intro e
    have I := Inv.start hB
    refine WP.seq ?_
    refine WP.region ?_
    refine Ops.y (v := .int .i64 _) (Y.assign rfl) ?_
    refine Ops.nil ?_
    refine WP.seq ?_
    refine WP.region ?_
    refine Ops.y (v := .string _) (Y.move rfl) ?_
    refine Ops.go (O.call I Tryz.call127 (ha) rfl ?_)
    rintro _ h w I hle ⟨n, te, pe, rfl⟩
    refine Ops.y (v := .tuple #[_, _]) (Y.move rfl) ?_
    refine Ops.y (v := .int .i64 _) (Y.extract rfl rfl) ?_
    refine Ops.y (v := .iface _ _) (Y.extract rfl rfl) ?_
    refine Ops.y (v := .int .i64 _) (Y.assign rfl) ?_
    refine Ops.y (v := _) (Y.assign rfl) ?_
    refine Ops.nil ?_
    refine WP.seq ?_
    refine WP.regionP _ (fun _ _ _ h => h) ?_
    refine OpsP.y (v := _) (Y.move rfl) ?_
    refine OpsP.y (v := .bool false) (Y.eqnilF Tryz.underlying55 rfl) ?_
    refine OpsP.p (O.callp I Tryz.call32 (must_ok _ I.base_ok false) rfl (fun _ => rfl) ?_)
    rintro _ h w I hle ⟨h, _⟩
    refine OpsP.nil ?_
    cases h
theorem tTerm_ok (B : Base) (hB : B.ok) (t : Trm) (ht : termOk t = true) : Fn Tryz.prog 65 [t.val] B (fun v _ => v = .string (mk (termL t))) := by
  have hb : 0 ≤ t.n ∧ t.n ≤ 4 := by
    unfold termOk at ht
    split at ht <;> (have := of_decide_eq_true ht; omega)
  refine Fn.of Tryz.func65 rfl Tryz.ntmps65 (by kernel_rfl) (by simp) ?_
  intro e
  have I := Inv.start hB
  refine WP.seq ?_
  refine WP.region ?_
  refine Ops.go (O.box (v := .agg #[_, _]) I rfl rfl ?_)
  intro b1 w I
  refine Ops.y (v := .string _) (Y.assign rfl) ?_
  refine Ops.nil ?_
  refine WP.seq ?_
  refine WP.seq ?_
  refine WP.region ?_
  refine Ops.y (v := .pointer (some ⟨_, _, none⟩)) (Y.fa0 fa_109_0 rfl) ?_
  refine Ops.y (v := .bool _) (Y.loadv ty_4 rfl (I.rdbox 0 rfl 0 1) rfl rfl) ?_
  refine Ops.nil ?_
  refine WP.cond rfl (fun h1 => ?_) (fun h1 => ?_)
  · have hv : t.var = true := h1
    obtain ⟨c, hc⟩ : ∃ c : Nat, 65 + t.n = c := ⟨(65 + t.n).toNat, by omega⟩
    have hT : termL t = [UInt8.ofNat c] := by unfold termL; rw [if_pos hv, hc]; rfl
    refine WP.seq ?_
    refine WP.region ?_
    refine Ops.y (v := .pointer (some ⟨_, _, none⟩)) (Y.fa fa_109_1 rfl) ?_
    refine Ops.y (v := .int .i64 _) (Y.loadv ty_3 rfl (I.rdbox 0 rfl 1 1) rfl rfl) ?_
    refine Ops.y (v := .int .i64 _) (Y.addi rfl rfl ⟨by omega, by omega⟩) ?_
    refine Ops.y (v := .int .i32 _) (Y.conv (by rw [Tryz.underlying3]; rfl) Tryz.underlying21 ((i32_of (by omega) (by omega))) rfl) ?_
    refine Ops.y (v := .string ⟨#[UInt8.ofNat c]⟩) (Y.runes (by rw [Tryz.underlying21]; rfl) Tryz.underlying9 (by rw [← hc]; rfl) (by omega)) ?_
    refine Ops.y (v := .string _) (Y.assign rfl) ?_
    refine Ops.nil ?_
    refine WP.ret ?_
    repeat (first | refine thenE_ret ?_ | refine blockE_ret ?_)
    exact retQ.mk (vs := [.string _]) rfl ⟨rfl, trivial⟩ I.ext_of (by rw [hT]; rfl)
  · have hv : t.var = false := by simpa using h1
    obtain ⟨c, hc⟩ : ∃ c : Nat, t.n = c := ⟨t.n.toNat, by omega⟩
    have hT : termL t = dgL c := by unfold termL; rw [if_neg (by rw [hv]; decide), hc]; rfl
    refine WP.skip ?_
    refine WP.seq ?_
    refine WP.region ?_
    refine Ops.y (v := .pointer (some ⟨_, _, none⟩)) (Y.fa fa_109_1 rfl) ?_
    refine Ops.y (v := .int .i64 _) (Y.loadv ty_3 rfl (I.rdbox 0 rfl 1 1) rfl rfl) ?_
    refine Ops.go (O.callv I Tryz.call24 (hc ▸ Itoa_ok _ I.base_ok c (by omega)) rfl ?_)
    intro w I
    refine Ops.y (v := .string _) (Y.assign rfl) ?_
    refine Ops.nil ?_
    refine WP.ret ?_
    repeat (first | refine thenE_ret ?_ | refine blockE_ret ?_)
    exact retQ.mk (vs := [.string _]) rfl ⟨rfl, trivial⟩ I.ext_of (by rw [hT]; rfl)
theorem args_size {ts : List Trm} (h : ∀ t ∈ ts, termOk t = true) : ∀ x ∈ (ts.map termL), x.length = 1 := fun x hx => by
  obtain ⟨t, ht, rfl⟩ := List.mem_map.1 hx
  obtain ⟨c, hc, _⟩ := termL_one (h t ht)
  rw [hc]; rfl
theorem join_len {sep : Bs} {n : Nat} : ∀ {l : List Bs}, (∀ x ∈ l, x.length ≤ n) → (joinT sep l).length ≤ l.length * (n + sep.length)
  | [], _ => by simp [joinT]
  | [x], h => by
    have := h x (by simp)
    simp [joinT]; omega
  | x :: y :: r, h => by
    have ih := join_len (sep := sep) (l := y :: r) fun z hz => h z (List.mem_cons_of_mem _ hz)
    have := h x (by simp)
    rw [joinT]
    simp only [List.length_append, List.length_cons, Nat.add_mul, Nat.one_mul] at ih ⊢
    omega
theorem mk_size (a : Bs) : (mk a).size = a.length := (tx_len (mk a)).symm
theorem atomL_len {l : List Prd} {a : Atm} (ao : AOk l a) : (atomL l a).length ≤ (predOf l a.pred).name.size + 8 := by
  have hl := ao.len
  have hj := join_len (sep := [44]) (n := 1) (l := a.args.xs.map termL) fun x hx => Nat.le_of_eq (args_size (fun t ht => AOk.termOk ao ht) x hx)
  unfold atomL argsL
  rw [List.length_append, tx_len]
  split
  · simp
  · simp only [List.length_append, List.length_cons, List.length_nil, List.length_map] at hj ⊢
    omega
set_option maxHeartbeats 4000000 in
theorem TAtom_ok (B : Base) (hB : B.ok) (l : Sl Prd) (hl : Prds l B.h) (a : Atm) (ha : a.In B.h) (ao : AOk l.xs a) (hnm : (predOf l.xs a.pred).name.size ≤ 140737488355328) : Fn Tryz.prog 25 [l.val, a.val] B (fun v _ => v = .string (mk (atomL l.xs a))) := by
  have h2 := ao.len
  have Ep := hl.el.el (predOf_get ao.pred.1 ao.pred.2)
  refine Fn.of Tryz.func25 rfl Tryz.ntmps25 (by kernel_rfl) (by simp) ?_
  intro e
  have I := Inv.start hB
  refine WP.seq ?_
  refine WP.region ?_
  refine Ops.go (O.box (v := .agg #[_, _]) I rfl rfl ?_)
  intro b3 w I
  refine Ops.y (v := .string _) (Y.assign rfl) ?_
  refine Ops.nil ?_
  refine WP.seq ?_
  refine WP.region ?_
  refine Ops.y (v := .slice _ _ _) (Y.move rfl) ?_
  refine Ops.y (v := .pointer (some ⟨_, _, none⟩)) (Y.fa0 fa_61_0 rfl) ?_
  refine Ops.y (v := .int .i64 _) (Y.loadv ty_3 rfl (I.rdbox 0 rfl 0 1) rfl rfl) ?_
  refine Ops.y (v := .pointer (some ⟨_, _, none⟩)) (Y.idxEl Ep Tryz.underlying22 Tryz.sizeOf53 rfl rfl ao.pred.1 rfl) ?_
  refine Ops.y (v := .pointer (some ⟨_, _, none⟩)) (Y.fa0 fa_53_0 rfl) ?_
  refine Ops.y (v := .string _) (Y.loadv ty_9 rfl (I.rd (Ep.rd.part 0 1)) rfl rfl) ?_
  refine Ops.y (v := .string _) (Y.assign rfl) ?_
  refine Ops.nil ?_
  refine WP.seq ?_
  refine WP.seq ?_
  refine WP.region ?_
  refine Ops.y (v := .pointer (some ⟨_, _, none⟩)) (Y.fa fa_61_1 rfl) ?_
  refine Ops.y (v := .slice _ _ _) (Y.loadv ty_59 rfl (I.rdbox 0 rfl 1 1) rfl rfl) ?_
  refine Ops.y (v := .int .i64 _) (Y.lens Tryz.underlying59 rfl) ?_
  refine Ops.y (v := .bool (decide _)) (Y.eqi rfl rfl) ?_
  refine Ops.nil ?_
  refine WP.cond_dec rfl (fun h2 => ?_) (fun h2 => ?_)
  · have h0 : a.args.xs = [] := List.length_eq_zero_iff.1 (by omega)
    refine WP.seq ?_
    refine WP.region ?_
    refine Ops.y (v := .string _) (Y.move rfl) ?_
    refine Ops.y (v := .string _) (Y.assign rfl) ?_
    refine Ops.nil ?_
    refine WP.ret ?_
    repeat (first | refine thenE_ret ?_ | refine blockE_ret ?_)
    exact retQ.mk (vs := [.string _]) rfl ⟨rfl, trivial⟩ I.ext_of (by simp only [tup]; unfold atomL argsL; rw [if_pos h0, List.append_nil])
  have h0 : a.args.xs ≠ [] := fun e => h2 (by rw [e]; rfl)
  refine WP.skip ?_
  refine WP.seq ?_
  refine WP.region ?_
  refine Ops.y (v := .slice _ _ _) (Y.assign rfl) ?_
  refine Ops.nil ?_
  refine WP.seq ?_
  refine WP.seq ?_
  refine WP.region ?_
  refine Ops.y (v := .pointer (some ⟨_, _, none⟩)) (Y.fa fa_61_1 rfl) ?_
  refine Ops.y (v := .slice _ _ _) (Y.loadv ty_59 rfl (I.rdbox 0 rfl 1 1) rfl rfl) ?_
  refine Ops.y (v := .int .i64 _) (Y.lens Tryz.underlying59 rfl) ?_
  refine Ops.y (v := .int .i64 _) (Y.move rfl) ?_
  refine Ops.nil ?_
  refine WP.block ?_
  refine WP.loopE (σ := Nat × Option Addr × Nat × Heap) (fun s => [(3, .pointer (some ⟨b3, 0, none⟩)), (5, .string (predOf l.xs a.pred).name), (6, .slice s.2.1 s.1 s.2.2.1), (21, a.args.val), (22, .int .i64 a.args.xs.length), (23, .int .i64 s.1)])
    (fun s w => Inv B s.2.2.2 [ownSl 9 1 (.slice s.2.1 s.1 s.2.2.1) s.1 (((a.args.xs.take s.1).map fun t => mk (termL t)).flatMap sEn), box b3 a.enc 61] w ∧ s.1 ≤ a.args.xs.length ∧ B.h.le s.2.2.2) (fun s => a.args.xs.length - s.1)
    ⟨(0, none, 0, B.h), ⟨rfl, rfl, rfl, rfl, rfl, rfl, trivial⟩, I.nilSl 9 1, Nat.zero_le _, Heap.le.refl _⟩ ?_
  rintro ⟨k, q, c, hh⟩ e w ⟨I, hk, gl⟩
  dsimp only at I hk gl ⊢
  refine WP.seq ?_
  refine WP.region ?_
  refine Ops.y (v := .bool (decide _)) (Y.lti rfl rfl) ?_
  refine Ops.nil ?_
  refine WP.seq ?_
  refine WP.cond_dec rfl (fun h6 => ?_) (fun h6 => ?_)
  · have hk' : k < a.args.xs.length := by omega
    have E := Sl.Is.at (Atm.In.le ha gl) hk'
    have ht := AOk.termOk ao (List.getElem_mem hk')
    obtain ⟨t, hte⟩ : ∃ t, a.args.xs[k] = t := ⟨_, rfl⟩
    have hnx : a.args.xs.take (k + 1) = a.args.xs.take k ++ [t] := by rw [List.take_add_one, List.getElem?_eq_getElem hk', hte]; rfl
    rw [hte] at E ht
    refine WP.skip ?_
    refine WP.seq ?_
    refine WP.block ?_
    refine WP.seq ?_
    refine WP.region ?_
    refine Ops.y (v := .pointer (some ⟨_, _, none⟩)) (Y.idxEl E Tryz.underlying59 Tryz.sizeOf109 rfl rfl (Int.natCast_nonneg _) rfl) ?_
    refine Ops.y (v := .agg #[_, _]) (Y.loadv ty_109 rfl (I.rd (E.rd.part 0 2)) rfl rfl) ?_
    refine Ops.go (O.alloc I Tryz.zeroValue109 rfl ?_)
    intro b8 w I
    refine Ops.go (O.store (v := .agg #[_, _]) I ty_109 0 rfl rfl rfl rfl rfl rfl (Nat.le_of_ble_eq_true rfl) rfl ?_)
    intro w I
    refine Ops.nil ?_
    refine WP.region ?_
    refine Ops.y (v := .slice _ _ _) (Y.move rfl) ?_
    refine Ops.y (v := .agg #[_, _]) (Y.loadv ty_109 rfl (I.rdbox 0 rfl 0 2) rfl rfl) ?_
    refine Ops.go (O.callv I Tryz.call65 (tTerm_ok _ I.base_ok t ht) rfl ?_)
    intro w I
    refine Ops.go (O.mksl (xs := [mk (termL t)]) (enc := sEn) I Tryz.underlying66 Tryz.sizeOf9 Tryz.zeroValue9 rfl (Nat.le_of_ble_eq_true rfl) rfl rfl (by decide) (fun _ => rfl) ?_)
    intro b30 h30 w I le30 sl30
    refine Ops.go (O.append I Tryz.underlying66 et_9 1 rfl rfl rfl (I.rd (sl30 0 _ rfl).2) rfl rfl (by decide) (by omega) (by omega) ?_)
    intro b31 c31 w I
    refine Ops.y (v := .slice _ _ _) (Y.assign rfl) ?_
    refine Ops.nil ?_
    refine WP.region ?_
    refine Ops.y (v := .int .i64 _) (Y.addi rfl rfl ⟨by omega, by omega⟩) ?_
    refine Ops.y (v := .int .i64 _) (Y.move rfl) ?_
    refine Ops.nil ?_
    refine ⟨(k + 1, some ⟨b31, 0, none⟩, c31, h30), ⟨⟨rfl, rfl, rfl, rfl, rfl, rfl, trivial⟩, ?_, by dsimp only; omega, gl.trans le30⟩, by dsimp only; omega⟩
    dsimp only
    rw [hnx, List.map_append, List.flatMap_append]
    exact I.drop
  obtain rfl : k = a.args.xs.length := by omega
  rw [List.take_length] at I
  have hcap := ownSl_cap (I.at 0 rfl)
  obtain ⟨h10, s, le10, hv, hx, is, J⟩ := I.settleSl (fun _ => rfl) (by simp)
  clear I
  obtain ⟨sa, sc, sx⟩ := s
  dsimp only at hx
  subst hx
  have hv' := hv
  unfold Sl.val at hv'
  dsimp only at hv'
  injection hv' with e1 e2 e3
  subst e1; subst e3
  have I := J
  have hlen : (a.args.xs.map fun t => mk (termL t)).map tx = a.args.xs.map termL := by rw [List.map_map]; rfl
  have hj := join_len (sep := [44]) (n := 1) (l := a.args.xs.map termL) fun x hx => Nat.le_of_eq (args_size (fun t ht => AOk.termOk ao ht) x hx)
  simp only [List.length_map, List.length_cons, List.length_nil] at hj
  have hjo := SJoin_ok ⟨w, h10⟩ I.base_ok ⟨sa, sc, a.args.xs.map fun t => mk (termL t)⟩ ⟨is, by simp; omega⟩ (by simpa using hcap) ⟨#[44]⟩ (by rw [hlen]; show (joinT [44] _).length ≤ _; omega)
  rw [hlen] at hjo
  unfold Sl.val at hjo
  simp only [List.length_map] at hjo
  have z1 : ((predOf l.xs a.pred).name ++ ⟨#[40]⟩ : ByteArray).size = (predOf l.xs a.pred).name.size + 1 := by rw [ByteArray.size_append]; rfl
  have z2 : (mk (joinT (tx ⟨#[44]⟩) (a.args.xs.map termL))).size ≤ 4 := by rw [mk_size]; show (joinT [44] _).length ≤ _; omega
  refine WP.exit ?_
  refine WP.seq ?_
  refine WP.region ?_
  refine Ops.y (v := .string _) (Y.move rfl) ?_
  refine Ops.y (v := .string _) (Y.adds rfl rfl (by show _ + 1 ≤ _; omega)) ?_
  refine Ops.y (v := .slice _ _ _) (Y.move rfl) ?_
  refine Ops.go (O.callv I Tryz.call26 (hjo) rfl ?_)
  intro w I
  refine Ops.y (v := .string _) (Y.adds rfl rfl (by omega)) ?_
  refine Ops.y (v := .string _) (Y.adds rfl rfl (by rw [ByteArray.size_append]; show _ + _ + 1 ≤ _; omega)) ?_
  refine Ops.y (v := .string _) (Y.assign rfl) ?_
  refine Ops.nil ?_
  refine WP.ret ?_
  repeat (first | refine thenE_ret ?_ | refine blockE_ret ?_)
  exact retQ.mk (vs := [.string _]) rfl ⟨rfl, trivial⟩ I.ext_of (by simp only [tup]; unfold atomL argsL; rw [if_neg h0]; refine congrArg Value.string (tx_inj.1 ?_); rw [tx_app, tx_app, tx_app, List.append_assoc, List.append_assoc])
end Go.TF
end
section
/- Package text: atom, which reads an atom or panics: walked. -/
namespace Go.TF
open Go Go.RowKit Go.Proofs
set_option maxRecDepth 20000

theorem cut_len (s sep : Bs) : (Lib.cut s sep).1.length ≤ s.length ∧ (Lib.cut s sep).2.1.length ≤ s.length := by
  unfold Lib.cut
  split
  · simp only [List.length_take, List.length_drop]; omega
  · simp
theorem splitK_len {sep : Bs} : ∀ (k : Nat) (s : Bs), ∀ x ∈ Lib.splitK sep 0 k s, x.length ≤ s.length
  | 0, s, x, hx => by simp [Lib.splitK] at hx; subst hx; exact Nat.le_refl _
  | k + 1, s, x, hx => by
    rw [Lib.splitK] at hx
    split at hx
    · simp at hx; subst hx; exact Nat.le_refl _
    · rcases List.mem_cons.1 hx with rfl | hx
      · simp only [List.length_take]; omega
      · have := splitK_len k _ x hx
        simp only [List.length_drop] at this; omega
theorem split_len {s sep x : Bs} (hx : x ∈ Lib.split s sep) : x.length ≤ s.length := splitK_len _ _ x hx
theorem splitK_cnt {sep : Bs} : ∀ (k : Nat) (s : Bs), (Lib.splitK sep 0 k s).length ≤ k + 1
  | 0, s => by simp [Lib.splitK]
  | k + 1, s => by
    rw [Lib.splitK]
    split
    · simp
    · have := splitK_cnt (sep := sep) k (s.drop ((Lib.index s sep).toNat + sep.length))
      simp only [List.length_cons]; omega
theorem split_cnt (s sep : Bs) : (Lib.split s sep).length ≤ s.length + 2 := by
  have h1 := splitK_cnt (sep := sep) (Lib.count s sep) s
  have h2 := Lib.count_le s sep
  unfold Lib.split; omega
theorem termsR_bad {l : List Bs} {w : Bs} (hw : w ∈ l) (h : termR w = none) : termsR l = none := by
  induction l with
  | nil => cases hw
  | cons x r ih =>
    rcases List.mem_cons.1 hw with rfl | hw
    · simp [termsR, h]
    · simp only [termsR, ih hw]; cases termR x <;> rfl
theorem termsR_snoc {l : List Bs} {w : Bs} {ts : List Trm} {t : Trm} (hl : termsR l = some ts) (h : termR w = some t) : termsR (l ++ [w]) = some (ts ++ [t]) := by
  induction l generalizing ts with
  | nil => simp [termsR] at hl; subst hl; simp [termsR, h]
  | cons x r ih =>
    simp only [termsR] at hl
    cases hx : termR x with
    | none => simp [hx] at hl
    | some y =>
      cases hr : termsR r with
      | none => simp [hx, hr] at hl
      | some ys =>
        simp [hx, hr] at hl
        subst hl
        simp [termsR, hx, ih hr]
def AndV (p : Prop) (v0 : Value) : Sp := fun v _ => p ∧ v = v0
theorem AndV.mono {p : Prop} {v0 : Value} : MonoS (AndV p v0) := fun _ _ _ _ h => h
theorem beq_tx (a b : ByteArray) : (a.toList == b.toList) = decide (tx a = tx b) := by
  rw [Lib.toList_data, Lib.toList_data, Bool.beq_eq_decide_eq]
theorem atom1_ok (B : Base) (hB : B.ok) (x : Prd) (b : Nat) (nm : ByteArray) (hb : Known B.h b [.string nm]) : Fn Tryz.prog 130 [x.val, .pointer (some ⟨b, 0, none⟩)] B (fun v _ => v = .bool (decide (tx x.name = tx nm))) := by
  refine Fn.of Tryz.func130 rfl Tryz.ntmps130 (by kernel_rfl) (by simp) ?_
  intro e
  have I := Inv.start hB
  refine WP.seq ?_
  refine WP.region ?_
  refine Ops.go (O.box (v := .agg #[_, _, _]) I rfl rfl ?_)
  intro b2 w I
  refine Ops.y (v := .bool _) (Y.assign rfl) ?_
  refine Ops.nil ?_
  refine WP.seq ?_
  refine WP.region ?_
  refine Ops.y (v := .pointer (some ⟨_, _, none⟩)) (Y.fa0 fa_53_0 rfl) ?_
  refine Ops.y (v := .string _) (Y.loadv ty_9 rfl (I.rdbox 0 rfl 0 1) rfl rfl) ?_
  refine Ops.y (v := .string _) (Y.loadv ty_9 rfl (I.rd hb.rd) rfl rfl) ?_
  refine Ops.y (v := .bool _) (Y.eqs rfl rfl) ?_
  refine Ops.y (v := .bool _) (Y.assign rfl) ?_
  refine Ops.nil ?_
  refine WP.ret ?_
  repeat (first | refine thenE_ret ?_ | refine blockE_ret ?_)
  exact retQ.mk (vs := [.bool _]) rfl ⟨rfl, trivial⟩ I.ext_of (by simp only [tup]; rw [beq_tx])
set_option maxHeartbeats 16000000 in
theorem atom_ok (B : Base) (hB : B.ok) (V : Vars B.h) (l : Sl Prd) (hl : Prds l B.h) (s : ByteArray) (hs : s.size ≤ 4096) : FnP Tryz.prog 74 [l.val, .string s] B brk (atomR l.xs (tx s) = none) (fun v h => ∃ a : Atm, v = a.val ∧ OwnH 109 2 a.args Trm.enc B.h h ∧ a.args.xs.length ≤ 4098 ∧ atomR l.xs (tx s) = some a.er) := by
  have hcl := cut_len (tx s) [40]
  have htl := tx_len s
  obtain ⟨c1, c2, c3, hc⟩ : ∃ c1 c2 c3, Lib.cut (tx s) [40] = (c1, c2, c3) := ⟨_, _, _, rfl⟩
  have hR : atomR l.xs (tx s) = match predIx l.xs c1 with
      | none => none
      | some k => if c3 = false then some (mkA k []) else if Lib.hasSuffix c2 [41] = false then none else (termsR (Lib.split (Lib.trimSuffix c2 [41]) [44])).map (mkA k) := by unfold atomR; rw [hc] <;> rfl
  have hcut : ∀ B' : Base, B'.ok → Vars B'.h → Fn Tryz.prog 73 [.string s, .string ⟨#[40]⟩] B' (fun v _ => v = .tuple #[.string (mk c1), .string (mk c2), .bool c3]) := fun B' hB' V' =>
    (Cut_ok B' hB' V' s ⟨#[40]⟩ (by omega)).mono fun v _ _ hv => by rw [hv]; show Value.tuple #[.string (mk (Lib.cut (tx s) [40]).1), .string (mk (Lib.cut (tx s) [40]).2.1), .bool (Lib.cut (tx s) [40]).2.2] = _; rw [hc]
  rw [hc] at hcl
  dsimp only at hcl
  have hts := Lib.trimSuffix_le c2 [41]
  have hix : idxOf (fun x : Prd => decide (tx x.name = tx (mk c1))) l.xs = match predIx l.xs c1 with | some k => (k : Int) | none => -1 := rfl
  refine FnP.of Tryz.func74 rfl Tryz.ntmps74 (by kernel_rfl) (by simp) ?_
  intro e
  have I := Inv.start hB
  refine WP.seq ?_
  refine WP.region ?_
  refine Ops.go (O.alloc I Tryz.zeroValue61 rfl ?_)
  intro b4 w I
  refine Ops.nil ?_
  refine WP.seq ?_
  refine WP.region ?_
  refine Ops.y (v := .string _) (Y.move rfl) ?_
  refine Ops.go (O.callv I Tryz.call73 (hcut _ I.base_ok V) rfl ?_)
  intro w I
  refine Ops.y (v := .tuple #[_, _, _]) (Y.move rfl) ?_
  refine Ops.y (v := .string _) (Y.extract rfl rfl) ?_
  refine Ops.y (v := .string _) (Y.extract rfl rfl) ?_
  refine Ops.y (v := .bool _) (Y.extract rfl rfl) ?_
  refine Ops.go (O.alloc I Tryz.zeroValue9 rfl ?_)
  intro b5 w I
  refine Ops.go (O.store (v := .string _) I ty_9 0 rfl rfl rfl rfl rfl rfl (Nat.le_of_ble_eq_true rfl) rfl ?_)
  intro w I
  refine Ops.y (v := .string _) (Y.assign rfl) ?_
  refine Ops.y (v := .bool _) (Y.assign rfl) ?_
  refine Ops.nil ?_
  obtain ⟨h1, gl1, kb, I⟩ := I.settleBox
  have V1 := V.le gl1
  refine WP.seq ?_
  refine WP.region ?_
  refine Ops.y (v := .slice _ _ _) (Y.move rfl) ?_
  refine Ops.y (v := .func _ _ _) (Y.mkfunc rfl rfl) ?_
  refine Ops.go (O.callv I Tryz.call114 (IndexFuncPrd_ok _ I.base_ok l (hl.le gl1) 130 Tryz.call130 [] [.pointer (some ⟨b5, 0, none⟩)] (fun x => decide (tx x.name = tx (mk c1))) (fun B' hB' hl' x _ => atom1_ok B' hB' x b5 (mk c1) (kb.le hl'))) rfl ?_)
  intro w I
  refine Ops.y (v := .agg #[.int .i64 _, .slice _ _ _]) (Y.build pl_61 Tryz.zeroValue61 rfl rfl) ?_
  refine Ops.go (O.alloc I Tryz.zeroValue61 rfl ?_)
  intro b8 w I
  refine Ops.go (O.store (v := .agg #[_, _]) I ty_61 0 rfl rfl rfl rfl rfl rfl (Nat.le_of_ble_eq_true rfl) rfl ?_)
  intro w I
  refine Ops.nil ?_
  cases hp : predIx l.xs c1 with
  | none =>
    have hn : atomR l.xs (tx s) = none := by rw [hR, hp]
    rw [hp] at hix
    refine WP.seq ?_
    refine WP.regionP _ (fun _ _ _ h => h) ?_
    refine OpsP.y (v := .pointer (some ⟨_, _, none⟩)) (Y.fa0 fa_61_0 rfl) ?_
    refine OpsP.y (v := .int .i64 _) (Y.loadv ty_3 rfl (I.rdbox 0 rfl 0 1) rfl rfl) ?_
    refine OpsP.y (v := .bool false) (Y.dec_f (Y.gei rfl rfl) ((by rw [hix]; decide))) ?_
    refine OpsP.p (O.callp I Tryz.call32 (must_ok _ I.base_ok false) rfl (fun _ => hn) ?_)
    rintro _ h w I hle ⟨hh, _⟩
    refine OpsP.nil ?_
    cases hh
  | some k =>
  rw [hp] at hix hR
  dsimp only at hix hR
  refine WP.seq ?_
  refine WP.regionP _ (fun _ _ _ h => h) ?_
  refine OpsP.y (v := .pointer (some ⟨_, _, none⟩)) (Y.fa0 fa_61_0 rfl) ?_
  refine OpsP.y (v := .int .i64 _) (Y.loadv ty_3 rfl (I.rdbox 0 rfl 0 1) rfl rfl) ?_
  refine OpsP.y (v := .bool true) (Y.dec_t (Y.gei rfl rfl) ((by rw [hix]; exact Int.natCast_nonneg k))) ?_
  refine OpsP.p (O.callp I Tryz.call32 (must_ok _ I.base_ok true) rfl (fun h => by cases h) ?_)
  rintro _ h w I gl2 ⟨_, rfl⟩
  refine OpsP.nil ?_
  have gl2 := gl1.trans gl2
  refine WP.seq ?_
  refine WP.seq ?_
  refine WP.region ?_
  refine Ops.y (v := .bool _) (Y.move rfl) ?_
  refine Ops.y (v := .bool _) (Y.not rfl) ?_
  refine Ops.nil ?_
  refine WP.cond rfl (fun h4 => ?_) (fun h4 => ?_)
  · have h3 : c3 = false := by simpa using h4
    refine WP.seq ?_
    refine WP.region ?_
    refine Ops.y (v := .agg #[_, _]) (Y.loadv ty_61 rfl (I.rdbox 0 rfl 0 2) rfl rfl) ?_
    refine Ops.go (O.store (v := .agg #[_, _]) I ty_61 1 rfl rfl rfl rfl rfl rfl (Nat.le_of_ble_eq_true rfl) rfl ?_)
    intro w I
    refine Ops.nil ?_
    refine WP.ret ?_
    repeat (first | refine thenE_ret ?_ | refine blockE_ret ?_)
    exact retP.mk (vs := [.agg #[_, _]]) rfl ⟨⟨_, _, _, _, _, rfl, ty_61, I.rdbox 1 rfl 0 2, rfl, rfl⟩, trivial⟩ I.ext_of (⟨⟨k, ⟨none, 0, []⟩⟩, by simp only [tup]; rw [hix]; rfl, .inl rfl, Nat.zero_le _, by rw [hR, if_pos h3]; rfl⟩)
  have h3 : c3 = true := by simpa using h4
  rw [if_neg (by rw [h3]; decide)] at hR
  refine WP.skip ?_
  refine WP.seq ?_
  refine WP.region ?_
  refine Ops.y (v := .string _) (Y.move rfl) ?_
  refine Ops.go (O.callv I Tryz.call72 (CutSuf_ok _ I.base_ok (mk c2) ⟨#[41]⟩ (by rw [mk_size]; omega)) rfl ?_)
  intro w I
  refine Ops.y (v := .tuple #[_, _]) (Y.move rfl) ?_
  refine Ops.y (v := .string _) (Y.extract rfl rfl) ?_
  refine Ops.y (v := .bool _) (Y.extract rfl rfl) ?_
  refine Ops.y (v := .string _) (Y.assign rfl) ?_
  refine Ops.y (v := .bool _) (Y.assign rfl) ?_
  refine Ops.nil ?_
  cases hsf : Lib.hasSuffix c2 [41] with
  | false =>
    have hn : atomR l.xs (tx s) = none := by rw [hR, if_pos hsf]
    refine WP.seq ?_
    refine WP.regionP _ (fun _ _ _ h => h) ?_
    refine OpsP.y (v := .bool _) (Y.move rfl) ?_
    refine OpsP.p (O.callp I Tryz.call32 (must_ok _ I.base_ok false) rfl (fun _ => hn) ?_)
    rintro _ h w I hle ⟨hh, _⟩
    refine OpsP.nil ?_
    cases hh
  | true =>
  rw [if_neg (by rw [hsf]; decide)] at hR
  refine WP.seq ?_
  refine WP.regionP _ (fun _ _ _ h => h) ?_
  refine OpsP.y (v := .bool _) (Y.move rfl) ?_
  refine OpsP.p (O.callp I Tryz.call32 (must_ok _ I.base_ok true) rfl (fun h => by cases h) ?_)
  rintro _ h w I gl3 ⟨_, rfl⟩
  refine OpsP.nil ?_
  have gl3 := gl2.trans gl3
  obtain ⟨c4, hc4⟩ : ∃ c4, Lib.trimSuffix c2 [41] = c4 := ⟨_, rfl⟩
  rw [hc4] at hts hR
  have hcs : mk (Lib.trimSuffix (tx (mk c2)) (tx ⟨#[41]⟩)) = mk c4 := by rw [← hc4]
  rw [hcs]
  have V3 := V.le gl3
  refine WP.seq ?_
  refine WP.seq ?_
  refine WP.region ?_
  refine Ops.y (v := .string _) (Y.move rfl) ?_
  refine Ops.go (O.call I Tryz.call70 (Split_ok _ I.base_ok V3 (mk c4) ⟨#[44]⟩ (by rw [mk_size]; omega) (Nat.le_refl 1)) rfl ?_)
  rintro _ h w I gl4 ⟨ws, rfl, iws, hws⟩
  refine Ops.y (v := .int .i64 _) (Y.lens Tryz.underlying66 rfl) ?_
  refine Ops.y (v := .int .i64 _) (Y.move rfl) ?_
  refine Ops.nil ?_
  have gl4 := gl3.trans gl4
  have hws' : ws.xs.map tx = Lib.split c4 [44] := hws
  rw [← hws'] at hR
  have hwl : ∀ x ∈ ws.xs, x.size ≤ 4096 := fun x hx => by
    have := split_len (s := c4) (sep := [44]) (x := tx x) (by rw [← hws']; exact List.mem_map_of_mem hx)
    rw [tx_len] at this; omega
  refine WP.block ?_
  refine WP.loopE (σ := Nat × Option Addr × Nat × Heap × List Trm) (fun s => [(4, .pointer (some ⟨b4, 0, none⟩)), (8, .pointer (some ⟨b8, 0, none⟩)), (37, ws.val), (38, .int .i64 ws.xs.length), (39, .int .i64 s.1)])
    (fun s w => Inv B s.2.2.2.1 [ownSl 109 2 (.slice s.2.1 s.1 s.2.2.1) s.1 (s.2.2.2.2.flatMap Trm.enc), box b8 [.int .i64 (k : Int), .slice s.2.1 s.1 s.2.2.1] 61, box b4 [.int .i64 0, .slice none 0 0] 61] w ∧ s.1 ≤ ws.xs.length ∧ h.le s.2.2.2.1 ∧ s.2.2.2.2.length = s.1 ∧ termsR ((ws.xs.take s.1).map tx) = some s.2.2.2.2) (fun s => ws.xs.length - s.1)
    ⟨(0, none, 0, h, []), ⟨rfl, rfl, rfl, rfl, rfl, trivial⟩, by rw [hix] at I; exact I.nilSl 109 2, Nat.zero_le _, Heap.le.refl _, rfl, rfl⟩ ?_
  rintro ⟨i, q, c, hh, ts⟩ e w ⟨I, hi, gl, hlen, hts2⟩
  dsimp only at I hi gl hlen hts2 ⊢
  have hwsm : ws.xs.length ≤ 4098 := by
    have h1 := split_cnt c4 [44]
    rw [← hws', List.length_map] at h1; omega
  refine WP.seq ?_
  refine WP.region ?_
  refine Ops.y (v := .bool (decide _)) (Y.lti rfl rfl) ?_
  refine Ops.nil ?_
  refine WP.seq ?_
  refine WP.cond_dec rfl (fun h9 => ?_) (fun h9 => ?_)
  · have hi' : i < ws.xs.length := by omega
    have E := (iws.le gl).at hi'
    obtain ⟨x, hx⟩ : ∃ x, ws.xs[i] = x := ⟨_, rfl⟩
    have hxm : x ∈ ws.xs := hx ▸ List.getElem_mem hi'
    have hxl := hwl x hxm
    have hnx : (ws.xs.take (i + 1)).map tx = (ws.xs.take i).map tx ++ [tx x] := by rw [List.take_add_one, List.getElem?_eq_getElem hi', hx]; simp
    rw [hx] at E
    have Vh := V.le (gl4.trans gl)
    refine WP.skip ?_
    refine WP.seq ?_
    refine WP.block ?_
    refine WP.seq ?_
    refine WP.region ?_
    refine Ops.y (v := .pointer (some ⟨_, _, none⟩)) (Y.idxEl E Tryz.underlying66 Tryz.sizeOf9 rfl rfl (Int.natCast_nonneg _) rfl) ?_
    refine Ops.y (v := .string _) (Y.loadv ty_9 rfl (I.rd (E.rd.part 0 1)) rfl rfl) ?_
    refine Ops.y (v := .string _) (Y.assign rfl) ?_
    refine Ops.nil ?_
    refine WP.seq ?_
    refine WP.region ?_
    refine Ops.y (v := .string _) (Y.move rfl) ?_
    refine Ops.go (O.callv I Tryz.call86 (Index_ok _ I.base_ok Vh ⟨#[65, 66, 67]⟩ x (by show 3 < _; omega)) rfl ?_)
    intro w I
    refine Ops.y (v := .int .i64 _) (Y.assign rfl) ?_
    refine Ops.nil ?_
    obtain ⟨ix, hix2⟩ : ∃ ix, Lib.index (tx ⟨#[65, 66, 67]⟩) (tx x) = ix := ⟨_, rfl⟩
    have hix3 : Lib.index [65, 66, 67] (tx x) = ix := hix2
    rw [hix2]
    have hxt := tx_len x
    refine WP.seq ?_
    refine WP.cutK (σ := Unit) (fun _ => [(4, .pointer (some ⟨b4, 0, none⟩)), (8, .pointer (some ⟨b8, 0, none⟩)), (10, .string x), (11, .int .i64 ix), (37, ws.val), (38, .int .i64 ws.xs.length), (39, .int .i64 i), (51, .bool (decide (0 ≤ ix ∧ (tx x).length = 1)))])
      (fun _ w => Inv B hh [ownSl 109 2 (.slice q i c) i (ts.flatMap Trm.enc), box b8 [.int .i64 (k : Int), .slice q i c] 61, box b4 [.int .i64 0, .slice none 0 0] 61] w) ?_ ?_
    · by_cases h0 : 0 ≤ ix
      · by_cases h1 : (tx x).length = 1
        · refine WP.region ?_
          refine Ops.y (v := .int .i64 _) (Y.move rfl) ?_
          refine Ops.y (v := .bool true) (Y.dec_t (Y.gei rfl rfl) (h0)) ?_
          refine Ops.y (v := .bool _) (Y.move rfl) ?_
          refine Ops.ygt rfl (v := .string _) (Y.move rfl) ?_
          refine Ops.ygt rfl (v := .int .i64 _) (Y.lenstr Tryz.underlying9 rfl) ?_
          refine Ops.ygt rfl (v := .bool true) (Y.dec_t (Y.eqi rfl rfl) ((by omega))) ?_
          refine Ops.y (v := .bool _) (Y.pick_t rfl rfl) ?_
          refine Ops.nil ?_
          exact ⟨(), ⟨rfl, rfl, rfl, rfl, rfl, rfl, rfl, by rw [decide_eq_true (And.intro h0 h1)]; rfl, trivial⟩, I⟩
        · refine WP.region ?_
          refine Ops.y (v := .int .i64 _) (Y.move rfl) ?_
          refine Ops.y (v := .bool true) (Y.dec_t (Y.gei rfl rfl) (h0)) ?_
          refine Ops.y (v := .bool _) (Y.move rfl) ?_
          refine Ops.ygt rfl (v := .string _) (Y.move rfl) ?_
          refine Ops.ygt rfl (v := .int .i64 _) (Y.lenstr Tryz.underlying9 rfl) ?_
          refine Ops.ygt rfl (v := .bool false) (Y.dec_f (Y.eqi rfl rfl) ((by omega))) ?_
          refine Ops.y (v := .bool _) (Y.pick_t rfl rfl) ?_
          refine Ops.nil ?_
          exact ⟨(), ⟨rfl, rfl, rfl, rfl, rfl, rfl, rfl, by rw [decide_eq_false (fun h : 0 ≤ ix ∧ (tx x).length = 1 => h1 h.2)]; rfl, trivial⟩, I⟩
      · refine WP.region ?_
        refine Ops.y (v := .int .i64 _) (Y.move rfl) ?_
        refine Ops.y (v := .bool false) (Y.dec_f (Y.gei rfl rfl) (h0)) ?_
        refine Ops.y (v := .bool _) (Y.move rfl) ?_
        refine Ops.gf rfl ?_
        refine Ops.gf rfl ?_
        refine Ops.gf rfl ?_
        refine Ops.y (v := .bool _) (Y.pick_f rfl rfl) ?_
        refine Ops.nil ?_
        exact ⟨(), ⟨rfl, rfl, rfl, rfl, rfl, rfl, rfl, by rw [decide_eq_false (fun h : 0 ≤ ix ∧ (tx x).length = 1 => h0 h.1)]; rfl, trivial⟩, I⟩
    rintro _ e w I
    refine WP.cond_dec rfl (fun h51 => ?_) (fun h51 => ?_)
    · have htm : termR (tx x) = some ⟨true, ix⟩ := by unfold termR; rw [hix3, if_pos h51]
      refine WP.region ?_
      refine Ops.y (v := .pointer (some ⟨_, _, none⟩)) (Y.fa fa_61_1 rfl) ?_
      refine Ops.y (v := .slice _ _ _) (Y.loadv ty_59 rfl (I.rdbox 1 rfl 1 1) rfl rfl) ?_
      refine Ops.y (v := .int .i64 _) (Y.move rfl) ?_
      refine Ops.y (v := .agg #[.bool _, .int .i64 _]) (Y.build pl_109 Tryz.zeroValue109 rfl rfl) ?_
      refine Ops.go (O.mksl (xs := [⟨true, ix⟩]) (enc := Trm.enc) I Tryz.underlying59 Tryz.sizeOf109 Tryz.zeroValue109 rfl (Nat.le_of_ble_eq_true rfl) rfl rfl (by decide) (fun _ => rfl) ?_)
      intro b56 h56 w I le56 sl56
      refine Ops.go (O.append I Tryz.underlying59 et_109 0 rfl rfl rfl (I.rd (sl56 0 _ rfl).2) rfl rfl (by decide) ((by omega)) (by omega) ?_)
      intro b57 c57 w I
      refine Ops.y (v := .pointer (some ⟨_, _, none⟩)) (Y.fa fa_61_1 rfl) ?_
      refine Ops.go (O.store (v := .slice _ _ _) I ty_59 1 rfl rfl rfl rfl rfl rfl (Nat.le_of_ble_eq_true rfl) rfl ?_)
      intro w I
      refine Ops.nil ?_
      refine WP.region ?_
      refine Ops.y (v := .int .i64 _) (Y.addi rfl rfl ⟨by omega, by omega⟩) ?_
      refine Ops.y (v := .int .i64 _) (Y.move rfl) ?_
      refine Ops.nil ?_
      refine ⟨(i + 1, some ⟨b57, 0, none⟩, c57, h56, ts ++ [⟨true, ix⟩]), ⟨⟨rfl, rfl, rfl, rfl, rfl, trivial⟩, ?_, by dsimp only; omega, gl.trans le56, by simp [hlen], by dsimp only; rw [hnx]; exact termsR_snoc hts2 htm⟩, by dsimp only; omega⟩
      dsimp only
      rw [List.flatMap_append]
      exact I
    · have htm : termR (tx x) = (numR (tx x)).map fun n => ⟨false, n⟩ := by unfold termR; rw [hix3, if_neg h51]
      obtain ⟨n, hn⟩ : ∃ n, (numR (tx x)).getD 0 = n := ⟨_, rfl⟩
      have hbad : numR (tx x) = none → atomR l.xs (tx s) = none := fun h => by
        rw [hR, termsR_bad (List.mem_map_of_mem hxm) (by rw [htm, h]; rfl)]; rfl
      refine WP.regionGP _ (fun _ _ _ h => h) mixed RAp.pre ⟨hh, none⟩ (J := JAp B [box b8 [.int .i64 (k : Int), .slice q i c] 61, box b4 [.int .i64 0, .slice none 0 0] 61] 109 2 i 1 (.slice q i c) (ts.flatMap Trm.enc) (Trm.enc ⟨false, n⟩) 6) ⟨rfl, I.drew⟩ 7 (by kernel_rfl) ?_
      refine OpsGP.y_ (v := .pointer (some ⟨_, _, none⟩)) (fun _ => runsG_none _) RAp.pre (JAp.set (by decide)) (fun _ s w us hl hj => have I := hj.base; have hl := hl.h; Y.fa fa_61_1 rfl) ?_
      refine OpsGP.y_ (v := .slice _ _ _) (fun _ => runsG_none _) RAp.pre (JAp.set (by decide)) (fun _ s w us hl hj => have I := hj.base; have hl := hl.h; Y.loadv ty_59 rfl (I.rdbox 0 rfl 1 1) rfl rfl) ?_
      refine OpsGP.y_ (v := .string _) (fun _ => runsG_none _) RAp.pre (JAp.set (by decide)) (fun _ s w us hl hj => have I := hj.base; have hl := hl.h; Y.move rfl) ?_
      refine OpsGP.x_ (Φ := KnAp (AndV (numR (tx x) = some n) (.int .i64 n))) (KnAp.mono AndV.mono) (fun _ => runsG_none _) (fun D' z w hDk hl hj => ?_) ?_
      · refine AllG.all fun us => ?_
        refine hj.knowP (by decide) fun N hN I => ?_
        have hl := hl.h
        refine O.callp I Tryz.call71 (num_ok _ I.base_ok (Vh.le hl) x (by omega)) rfl (hbad) ?_
        rintro _ h1 w I hl' ⟨m, hm, rfl⟩
        exact ⟨_, hl', I, by rw [hm] at hn; subst hn; exact ⟨hm, rfl⟩⟩
      refine OpsGP.x_ (Φ := KnAp (EqV (.agg #[.bool false, .int .i64 n]))) (KnAp.mono EqV.mono) (fun _ => runsG_none _) (fun D' z w hDk hl hj => ?_) ?_
      · intro u62 q62
        obtain ⟨_, rfl⟩ := q62 rfl
        refine Op1P.of ?_
        refine hj.know (by decide) fun N I => ?_
        have hl := hl.h
        exact O.yx I (Y.build pl_109 Tryz.zeroValue109 rfl rfl) (rfl)
      refine OpsGP.x_ (Φ := KnA (LitW 109 (Trm.enc ⟨false, n⟩) 1)) (KnA.mono LitW.mono) (fun _ => runsG_none _) (fun D' z w hDk hl hj => ?_) ?_
      · intro u62 q62 u63 q63
        obtain rfl : u63 = .agg #[.bool false, .int .i64 n] := q63 rfl
        refine Op1P.of ?_
        refine hj.know (by decide) fun N I => ?_
        exact O.mklit (cs := Trm.enc ⟨false, n⟩) I Tryz.underlying59 Tryz.sizeOf109 Tryz.zeroValue109 (by decide) (by decide) rfl rfl (fun v h w I le sl => ⟨h, le, I, sl⟩)
      refine OpsGP.x_ (Φ := AtAp (i + 1)) AtAp.mono (fun _ => runsG_none _) (fun D' z w hDk hl hj => ?_) ?_
      · intro u62 q62 u63 q63 u64 q64
        obtain ⟨bl, rfl, hbl⟩ := q64 rfl
        refine Op1P.of ?_
        refine hj.app hDk fun I => ?_
        have kb : Known z.h bl (Trm.enc ⟨false, n⟩) := ⟨fun j v hv => by simp [Heap.cell, hbl, hv]⟩
        refine O.append I Tryz.underlying59 et_109 0 rfl rfl rfl (I.rd kb.rd) rfl rfl (by decide) (by omega) (by omega) ?_
        intro g c w I
        exact ⟨g, c, rfl, I⟩
      refine OpsGP.nil ?_
      intro D z w hD hl hj u62 q62 u63 q63 u64 q64 u65 q65
      obtain ⟨g, c2, rfl, h7⟩ := q65 rfl
      have I := hj.inv
      rw [h7] at I
      obtain ⟨hn2, _⟩ := q62 rfl
      refine OpsP.y (v := .pointer (some ⟨_, _, none⟩)) (Y.fa fa_61_1 rfl) ?_
      refine OpsP.go (O.store (v := .slice _ _ _) I ty_59 1 rfl rfl rfl rfl rfl rfl (Nat.le_of_ble_eq_true rfl) rfl ?_)
      intro w I
      refine OpsP.nil ?_
      refine WP.region ?_
      refine Ops.y (v := .int .i64 _) (Y.addi rfl rfl ⟨by omega, by omega⟩) ?_
      refine Ops.y (v := .int .i64 _) (Y.move rfl) ?_
      refine Ops.nil ?_
      refine ⟨(i + 1, some ⟨g, 0, none⟩, c2, z.h, ts ++ [⟨false, n⟩]), ⟨⟨rfl, rfl, rfl, rfl, rfl, trivial⟩, ?_, by dsimp only; omega, gl.trans hl.h, by simp [hlen], by dsimp only; rw [hnx]; exact termsR_snoc hts2 (by rw [htm, hn2]; rfl)⟩, by dsimp only; omega⟩
      dsimp only
      rw [List.flatMap_append, List.flatMap_singleton]
      exact I
  obtain rfl : i = ws.xs.length := by omega
  rw [List.take_length] at hts2
  obtain ⟨h10, sa, le10, hva, hxa, isa, I⟩ := I.settleO hlen.symm
  have I : Inv B h10 [box b8 [.int .i64 (k : Int), sa.val] 61, box b4 [.int .i64 0, .slice none 0 0] 61] w := by rw [hva]; exact I
  refine WP.exit ?_
  refine WP.seq ?_
  refine WP.region ?_
  refine Ops.y (v := .agg #[_, _]) (Y.loadv ty_61 rfl (I.rdbox 0 rfl 0 2) rfl rfl) ?_
  refine Ops.go (O.store (v := .agg #[_, _]) I ty_61 1 rfl rfl rfl rfl rfl rfl (Nat.le_of_ble_eq_true rfl) rfl ?_)
  intro w I
  refine Ops.nil ?_
  refine WP.ret ?_
  repeat (first | refine thenE_ret ?_ | refine blockE_ret ?_)
  exact retP.mk (vs := [.agg #[_, _]]) rfl ⟨⟨_, _, _, _, _, rfl, ty_61, I.rdbox 1 rfl 0 2, rfl, rfl⟩, trivial⟩ I.ext_of (⟨⟨k, sa⟩, rfl, isa.older (gl4.trans gl), by rw [hxa, hlen]; exact hwsm, by rw [hR, hts2]; unfold mkA Atm.er Sl.er; rw [hxa]; rfl⟩)
end Go.TF
end
section
/- A region in which what was just made is appended to what the call owns: what it is, is told by Ψ. -/
namespace Go.TF
open Go Go.RowKit

structure AqS where
  h : Heap
  o7 : Option (Nat × Nat × List Value)
def pcQ (T k n m : Nat) (v : Value) (xs : List Value) (o7 : Option (Nat × Nat × List Value)) : SA := match o7 with
  | none => ownSl T k v n xs
  | some y => ownSl T k (.slice (some ⟨y.1, 0, none⟩) (n + m) y.2.1) (n + m) (xs ++ y.2.2)
structure JAq (B : Base) (M : List SA) (T k n m : Nat) (v : Value) (xs : List Value) (i7 : Nat) (D : Nat → Bool) (s : AqS) (w : World) : Prop where
  h7 : s.o7.isSome = D i7
  inv : Inv B s.h (pcQ T k n m v xs s.o7 :: M) w
structure RAq (s s' : AqS) : Prop where
  h : s.h.le s'.h
  h7 : ∀ y, s.o7 = some y → s'.o7 = some y
theorem RAq.pre : Pre RAq := ⟨fun _ => ⟨Heap.le.refl _, fun _ h => h⟩, fun _ _ _ h k => ⟨h.h.trans k.h, fun y e => k.h7 y (h.h7 y e)⟩⟩
def AtAq (Ψ : List Value → Heap → Prop) (N : Nat) (u : Value) (s : AqS) : Prop := ∃ g c x, u = .slice (some ⟨g, 0, none⟩) N c ∧ s.o7 = some (g, c, x) ∧ Ψ x s.h
def MonoP (Ψ : List Value → Heap → Prop) : Prop := ∀ x h h', h.le h' → Ψ x h → Ψ x h'
theorem AtAq.mono {Ψ : List Value → Heap → Prop} (hm : MonoP Ψ) {N : Nat} : MonoG RAq (AtAq Ψ N) := fun _ _ _ r ⟨g, c, x, h1, h2, h3⟩ => ⟨g, c, x, h1, r.h7 _ h2, hm _ _ _ r.h h3⟩
def KnAq (Φ : Sp) (u : Value) (s : AqS) : Prop := Φ u s.h
theorem KnAq.mono {Φ : Sp} (hm : MonoS Φ) : MonoG RAq (KnAq Φ) := fun _ _ _ r h => hm _ _ _ r.h h
/-- A literal of what Ψ tells. -/
def LitP (el : TypeId) (Ψ : List Value → Heap → Prop) : Sp := fun u h => ∃ cs, LitW el cs 1 u h ∧ Ψ cs h
theorem LitP.mono {el : TypeId} {Ψ : List Value → Heap → Prop} (hm : MonoP Ψ) : MonoS (LitP el Ψ) := fun _ _ _ hl ⟨cs, h1, h2⟩ => ⟨cs, LitW.mono _ _ _ hl h1, hm _ _ _ hl h2⟩
section
variable {P : Program} {o : Oper} {e : Env} {B : Base} {M : List SA} {T k n m : Nat} {v : Value} {xs : List Value} {i7 i : Nat} {D : Nat → Bool} {s : AqS} {w : World}
theorem JAq.base (j : JAq B M T k n m v xs i7 D s w) : Inv B s.h M w := j.inv.drop
theorem JAq.set (h : i7 ≠ i) : ∀ D s w, JAq B M T k n m v xs i7 D s w → JAq B M T k n m v xs i7 (setD D i) s w := fun D s w j => ⟨by rw [show setD D i i7 = D i7 by simp [setD, h]]; exact j.h7, j.inv⟩
theorem JAq.know {Φ : Sp} (j : JAq B M T k n m v xs i7 D s w) (h : i7 ≠ i) (hop : ∀ N, Inv B s.h N w → Op1 P o e w fun u w' => ∃ h', s.h.le h' ∧ Inv B h' N w' ∧ Φ u h') :
    Op1 P o e w fun u w' => ∃ s', RAq s s' ∧ JAq B M T k n m v xs i7 (setD D i) s' w' ∧ KnAq Φ u s' :=
  (hop _ j.inv).mono fun u w' ⟨h', hl, I, hu⟩ => ⟨⟨h', s.o7⟩, ⟨hl, fun _ e => e⟩, ⟨by rw [show setD D i i7 = D i7 by simp [setD, h]]; exact j.h7, I⟩, hu⟩
theorem JAq.knowP {X : PX} {Φ : Sp} (j : JAq B M T k n m v xs i7 D s w) (h : i7 ≠ i) (hop : ∀ N, N = pcQ T k n m v xs s.o7 :: M → Inv B s.h N w → Op1P P X o e w fun u w' => ∃ h', s.h.le h' ∧ Inv B h' N w' ∧ Φ u h') :
    Op1P P X o e w fun u w' => ∃ s', RAq s s' ∧ JAq B M T k n m v xs i7 (setD D i) s' w' ∧ KnAq Φ u s' :=
  (hop _ rfl j.inv).mono fun u w' ⟨h', hl, I, hu⟩ => ⟨⟨h', s.o7⟩, ⟨hl, fun _ e => e⟩, ⟨by rw [show setD D i i7 = D i7 by simp [setD, h]]; exact j.h7, I⟩, hu⟩
theorem JAq.app {Ψ : List Value → Heap → Prop} (j : JAq B M T k n m v xs i7 D s w) (hD : D i7 = false) (hop : Inv B s.h (ownSl T k v n xs :: M) w → Op1 P o e w fun u w' => ∃ g c x, u = .slice (some ⟨g, 0, none⟩) (n + m) c ∧ Ψ x s.h ∧ Inv B s.h (ownSl T k (.slice (some ⟨g, 0, none⟩) (n + m) c) (n + m) (xs ++ x) :: M) w') :
    Op1 P o e w fun u w' => ∃ s', RAq s s' ∧ JAq B M T k n m v xs i7 (setD D i7) s' w' ∧ AtAq Ψ (n + m) u s' := by
  have h7 : s.o7 = none := by have := j.h7; rw [hD] at this; cases h : s.o7 <;> simp_all
  have I := j.inv
  rw [h7] at I
  exact (hop I).mono fun u w' ⟨g, c, x, e, hp, I⟩ => ⟨⟨s.h, some (g, c, x)⟩, ⟨Heap.le.refl _, fun y e => (by rw [h7] at e; cases e)⟩, ⟨by simp [setD], I⟩, g, c, x, e, rfl, hp⟩
end
end Go.TF
end
