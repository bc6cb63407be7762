/- Facts: which may be, where each stands, finding, adding, being under: plain. -/
import Derived.Test.YtenigglapeajdaaSpFact
import Derived.Test.YtenigglapeajdaaSpLat2
namespace Go.TF
open Go

def predFine (p : Prd) : Bool := decide (0 ≤ p.arity ∧ p.arity ≤ 2 ∧ 0 ≤ p.kind ∧ p.kind ≤ 3)
def factFine (l : List Prd) (x : Fct) : Bool :=
  decide (within x.pred 0 (l.length - 1)) && decide (within x.a 0 4) && decide (within x.b 0 4) && (decide (1 ≤ (predOf l x.pred).arity) || decide (x.a = 0)) && (decide (2 ≤ (predOf l x.pred).arity) || decide (x.b = 0)) &&
    decide (checkVal (predOf l x.pred).kind x.v = 0)

def placeF (x : Fct) : Int := (x.pred * 5 + x.a) * 5 + x.b
structure PF (x : Fct) : Prop where
  p0 : 0 ≤ x.pred
  p1 : x.pred ≤ 4
  a0 : 0 ≤ x.a
  a1 : x.a ≤ 4
  b0 : 0 ≤ x.b
  b1 : x.b ≤ 4
theorem PF.inj {x y : Fct} (hx : PF x) (hy : PF y) (h : placeF x = placeF y) : x.pred = y.pred ∧ x.a = y.a ∧ x.b = y.b := by
  obtain ⟨_, _, _, _, _, _⟩ := hx; obtain ⟨_, _, _, _, _, _⟩ := hy
  unfold placeF at h; omega
theorem PF.place {x : Fct} (hx : PF x) : 0 ≤ placeF x ∧ placeF x < 125 := by
  obtain ⟨_, _, _, _, _, _⟩ := hx
  unfold placeF; omega
theorem PF.lt {x y : Fct} (hx : PF x) (hy : PF y) : placeF x < placeF y ↔ x.pred < y.pred ∨ x.pred = y.pred ∧ (x.a < y.a ∨ x.a = y.a ∧ x.b < y.b) := by
  obtain ⟨_, _, _, _, _, _⟩ := hx; obtain ⟨_, _, _, _, _, _⟩ := hy
  unfold placeF; omega
theorem PF.ext {x y : Fct} (hx : PF x) (hy : PF y) (h : placeF x = placeF y) (hv : x.v = y.v) : x = y := by
  obtain ⟨h1, h2, h3⟩ := hx.inj hy h
  cases x; cases y; simp_all
def cmpI (a b : Int) : Int := if a < b then -1 else if b < a then 1 else 0
def ordF (x y : Fct) : Int := if cmpI x.pred y.pred ≠ 0 then cmpI x.pred y.pred else if cmpI x.a y.a ≠ 0 then cmpI x.a y.a else cmpI x.b y.b
theorem ordF_neg {x y : Fct} (hx : PF x) (hy : PF y) : ordF x y < 0 ↔ placeF x < placeF y := by
  rw [hx.lt hy]; unfold ordF cmpI
  (repeat' split) <;> omega
theorem ordF_zero {x y : Fct} (hx : PF x) (hy : PF y) : ordF x y = 0 ↔ placeF x = placeF y := by
  constructor
  · intro h
    have : x.pred = y.pred ∧ x.a = y.a ∧ x.b = y.b := by
      unfold ordF cmpI at h
      (repeat' split at h) <;> omega
    unfold placeF; omega
  · intro h
    obtain ⟨h1, h2, h3⟩ := hx.inj hy h
    unfold ordF cmpI
    (repeat' split) <;> omega
def sortedB : List Fct → Bool
  | [] => true
  | [_] => true
  | x :: y :: r => decide (placeF x < placeF y) && sortedB (y :: r)
abbrev SrtF (f : List Fct) : Prop := f.Pairwise fun x y => placeF x < placeF y
theorem sorted_iff : ∀ f : List Fct, sortedB f = true ↔ SrtF f
  | [] => by simp [sortedB, SrtF]
  | [x] => by simp [sortedB, SrtF]
  | x :: y :: r => by
    rw [sortedB, Bool.and_eq_true, decide_eq_true_eq, sorted_iff (y :: r)]
    constructor
    · rintro ⟨h, hs⟩
      refine List.pairwise_cons.2 ⟨fun z hz => ?_, hs⟩
      rcases List.mem_cons.1 hz with rfl | hz
      · exact h
      · exact Int.lt_trans h ((List.pairwise_cons.1 hs).1 z hz)
    · intro hs
      obtain ⟨h1, h2⟩ := List.pairwise_cons.1 hs
      exact ⟨h1 y List.mem_cons_self, h2⟩
theorem sorted_of {f : List Fct} (h : ∀ i, (hi : i + 1 < f.length) → placeF f[i] < placeF f[i + 1]) : SrtF f := by
  rw [← sorted_iff]
  induction f with
  | nil => rfl
  | cons x r ih =>
    cases r with
    | nil => rfl
    | cons y r =>
      rw [sortedB, Bool.and_eq_true, decide_eq_true_eq]
      exact ⟨h 0 (by simp), ih fun i hi => h (i + 1) (by simp only [List.length_cons] at hi ⊢; omega)⟩
theorem SrtF.get {f : List Fct} (h : SrtF f) {i j : Nat} (hij : i < j) (hj : j < f.length) : placeF f[i] < placeF f[j] := List.pairwise_iff_getElem.1 h i j (by omega) hj hij
def factsB (l : List Prd) (f : List Fct) : Bool := f.all (factFine l) && sortedB f
def predsBad (l : List Prd) : Bool := decide (5 < l.length) || !(l.all predFine)
def checkFacts (l : List Prd) (f : List Fct) : Int := if predsBad l then 2 else if factsB l f then 0 else 1
/-- Right facts, of right predicates. -/
structure FOk (l : List Prd) (f : List Fct) : Prop where
  len : l.length ≤ 5
  preds : ∀ p ∈ l, predFine p = true
  fine : ∀ x ∈ f, factFine l x = true
  srt : SrtF f
theorem checkFacts_ok {l : List Prd} {f : List Fct} : checkFacts l f = 0 ↔ FOk l f := by
  unfold checkFacts
  cases h : predsBad l <;> cases h2 : factsB l f <;> simp only [if_true, Bool.false_eq_true, if_false]
  · refine ⟨fun h => (by omega), fun h3 => ?_⟩
    have : factsB l f = true := by simp only [factsB, Bool.and_eq_true, List.all_eq_true]; exact ⟨h3.fine, (sorted_iff f).2 h3.srt⟩
    rw [this] at h2; cases h2
  · simp only [predsBad, Bool.or_eq_false_iff, decide_eq_false_iff_not, Bool.not_eq_false', List.all_eq_true] at h
    simp only [factsB, Bool.and_eq_true, List.all_eq_true] at h2
    exact ⟨fun _ => ⟨by omega, h.2, h2.1, (sorted_iff f).1 h2.2⟩, fun _ => trivial⟩
  all_goals
    refine ⟨fun h => (by omega), fun h3 => ?_⟩
    have : predsBad l = false := by simp only [predsBad, Bool.or_eq_false_iff, decide_eq_false_iff_not, Bool.not_eq_false', List.all_eq_true]; exact ⟨by have := h3.len; omega, h3.preds⟩
    rw [this] at h; cases h
theorem fine_iff {l : List Prd} {x : Fct} : factFine l x = true ↔ (0 ≤ x.pred ∧ x.pred < l.length) ∧ (0 ≤ x.a ∧ x.a ≤ 4) ∧ (0 ≤ x.b ∧ x.b ≤ 4) ∧ (1 ≤ (predOf l x.pred).arity ∨ x.a = 0) ∧ (2 ≤ (predOf l x.pred).arity ∨ x.b = 0) ∧ VOk (predOf l x.pred).kind x.v := by
  simp only [factFine, Bool.and_eq_true, Bool.or_eq_true, decide_eq_true_eq]
  unfold within
  constructor
  · rintro ⟨⟨⟨⟨⟨h1, h2⟩, h3⟩, h4⟩, h5⟩, h6⟩; exact ⟨⟨h1.1, by omega⟩, h2, h3, h4, h5, h6⟩
  · rintro ⟨h1, h2, h3, h4, h5, h6⟩; exact ⟨⟨⟨⟨⟨⟨h1.1, by omega⟩, h2⟩, h3⟩, h4⟩, h5⟩, h6⟩
theorem fine_pf {l : List Prd} {x : Fct} (hl : l.length ≤ 5) (h : factFine l x = true) : PF x := by
  obtain ⟨h1, h2, h3, _⟩ := fine_iff.1 h
  exact ⟨h1.1, by omega, h2.1, h2.2, h3.1, h3.2⟩
theorem FOk.pf {l : List Prd} {f : List Fct} (h : FOk l f) : ∀ x ∈ f, PF x := fun x hx => fine_pf h.len (h.fine x hx)
/-! ### What is told at a place -/
def lkF (f : List Fct) (p : Int) : Option Int := (f.find? fun y => decide (placeF y = p)).map (·.v)
def findF (f : List Fct) (x : Fct) : Int × Bool := ((lkF f (placeF x)).getD 0, (lkF f (placeF x)).isSome)
theorem lkF_nil (p : Int) : lkF [] p = none := rfl
theorem lkF_cons (y : Fct) (r : List Fct) (p : Int) : lkF (y :: r) p = if placeF y = p then some y.v else lkF r p := by
  unfold lkF; rw [List.find?_cons]
  by_cases h : placeF y = p
  · simp [h]
  · simp [h]
theorem lkF_none {f : List Fct} {p : Int} : lkF f p = none ↔ ∀ y ∈ f, placeF y ≠ p := by
  induction f with
  | nil => simp [lkF_nil]
  | cons y r ih =>
    rw [lkF_cons]
    split
    · rename_i h; simp [h]
    · rename_i h; rw [ih]; simp [h]
theorem lkF_some {f : List Fct} (hs : SrtF f) {p v : Int} : lkF f p = some v ↔ ∃ y ∈ f, placeF y = p ∧ y.v = v := by
  induction f with
  | nil => simp [lkF_nil]
  | cons y r ih =>
    obtain ⟨h1, h2⟩ := List.pairwise_cons.1 hs
    rw [lkF_cons]
    split
    · rename_i h
      constructor
      · intro e; exact ⟨y, List.mem_cons_self, h, by simpa using e⟩
      · rintro ⟨z, hz, e1, e2⟩
        rcases List.mem_cons.1 hz with rfl | hz
        · rw [e2]
        · have := h1 z hz; omega
    · rename_i h
      rw [ih h2]
      constructor
      · rintro ⟨z, hz, e⟩; exact ⟨z, List.mem_cons_of_mem _ hz, e⟩
      · rintro ⟨z, hz, e⟩
        rcases List.mem_cons.1 hz with rfl | hz
        · exact absurd e.1 h
        · exact ⟨z, hz, e⟩
theorem lkF_mem {f : List Fct} {p v : Int} (h : lkF f p = some v) : ∃ y ∈ f, placeF y = p ∧ y.v = v := by
  unfold lkF at h
  cases hf : f.find? fun y => decide (placeF y = p) with
  | none => rw [hf] at h; simp at h
  | some y =>
    rw [hf] at h
    refine ⟨y, List.mem_of_find?_eq_some hf, ?_, by simpa using h⟩
    have := List.find?_some hf
    simpa using this
theorem lkF_of_mem {f : List Fct} (hs : SrtF f) {y : Fct} (hy : y ∈ f) : lkF f (placeF y) = some y.v := (lkF_some hs).2 ⟨y, hy, rfl, rfl⟩
/-- Facts that tell the same are the same. -/
theorem lkF_ext : ∀ {f g : List Fct}, (∀ x ∈ f, PF x) → (∀ x ∈ g, PF x) → SrtF f → SrtF g → (∀ p, lkF f p = lkF g p) → f = g
  | [], [], _, _, _, _, _ => rfl
  | [], y :: r, _, _, _, _, h => by have := h (placeF y); rw [lkF_nil, lkF_cons, if_pos rfl] at this; cases this
  | x :: s, [], _, _, _, _, h => by have := h (placeF x); rw [lkF_nil, lkF_cons, if_pos rfl] at this; cases this
  | x :: s, y :: r, pf, pg, hf, hg, h => by
    obtain ⟨f1, f2⟩ := List.pairwise_cons.1 hf
    obtain ⟨g1, g2⟩ := List.pairwise_cons.1 hg
    have hx := h (placeF x)
    have hy := h (placeF y)
    rw [lkF_cons, if_pos rfl] at hx
    rw [lkF_cons y, if_pos rfl] at hy
    obtain ⟨z, hz, e1, e2⟩ := (lkF_some hg).1 hx.symm
    obtain ⟨z', hz', e1', e2'⟩ := (lkF_some hf).1 hy
    have hp : placeF x = placeF y := by
      rcases List.mem_cons.1 hz with rfl | hz
      · exact e1.symm
      · rcases List.mem_cons.1 hz' with rfl | hz'
        · exact e1'
        · have := g1 z hz; have := f1 z' hz'; omega
    rw [hp, lkF_cons, if_pos rfl] at hx
    have hxy : x = y := (pf x List.mem_cons_self).ext (pg y List.mem_cons_self) hp (by simpa using hx)
    rw [hxy]
    congr 1
    refine lkF_ext (fun z hz => pf z (List.mem_cons_of_mem _ hz)) (fun z hz => pg z (List.mem_cons_of_mem _ hz)) f2 g2 fun p => ?_
    have := h p
    rw [lkF_cons, lkF_cons, hp] at this
    by_cases e : placeF y = p
    · have a : lkF s p = none := lkF_none.2 fun z hz => by have := f1 z hz; omega
      have b : lkF r p = none := lkF_none.2 fun z hz => by have := g1 z hz; omega
      rw [a, b]
    · rwa [if_neg e, if_neg e] at this
/-! ### Adding -/
def addF (k : Int) : List Fct → Fct → List Fct × Bool
  | [], x => ([x], true)
  | y :: r, x => if placeF y = placeF x then (⟨y.pred, y.a, y.b, joinV k y.v x.v⟩ :: r, decide (joinV k y.v x.v ≠ y.v)) else if placeF x < placeF y then (x :: y :: r, true) else (y :: (addF k r x).1, (addF k r x).2)
def newV (k : Int) (o : Option Int) (x : Fct) : Int := match o with | none => x.v | some v => joinV k v x.v
theorem lkF_addF {k : Int} {x : Fct} : ∀ {f : List Fct}, SrtF f → ∀ p, lkF (addF k f x).1 p = if p = placeF x then some (newV k (lkF f p) x) else lkF f p
  | [], _, p => by
    rw [addF, lkF_cons, lkF_nil]
    by_cases h : p = placeF x
    · rw [if_pos h.symm, if_pos h]; rfl
    · rw [if_neg (Ne.symm h), if_neg h]
  | y :: r, hs, p => by
    obtain ⟨h1, h2⟩ := List.pairwise_cons.1 hs
    rw [addF]
    split
    · rename_i he
      show lkF (_ :: r) p = _
      rw [lkF_cons, lkF_cons]
      have hpl : placeF ⟨y.pred, y.a, y.b, joinV k y.v x.v⟩ = placeF y := rfl
      rw [hpl]
      by_cases h : p = placeF x
      · rw [if_pos (he.trans h.symm), if_pos h, if_pos (he.trans h.symm)]; rfl
      · rw [if_neg (by omega), if_neg h, if_neg (by omega)]
    · rename_i he
      split
      · rename_i hlt
        show lkF (x :: y :: r) p = _
        rw [lkF_cons]
        by_cases h : p = placeF x
        · have : lkF (y :: r) p = none := lkF_none.2 fun z hz => by
            rcases List.mem_cons.1 hz with rfl | hz
            · omega
            · have := h1 z hz; omega
          rw [if_pos h.symm, if_pos h, this]; rfl
        · rw [if_neg (Ne.symm h), if_neg h]
      · rename_i hge
        show lkF (y :: (addF k r x).1) p = _
        rw [lkF_cons, lkF_cons, lkF_addF h2]
        by_cases h : p = placeF x
        · rw [if_neg (by omega), if_pos h, if_pos h, if_neg (by omega)]
        · rw [if_neg h, if_neg h]
theorem mem_addF {k : Int} {x z : Fct} : ∀ {f : List Fct}, z ∈ (addF k f x).1 → z ∈ f ∨ z = x ∨ ∃ y ∈ f, placeF y = placeF x ∧ z = ⟨y.pred, y.a, y.b, joinV k y.v x.v⟩
  | [], h => by rw [addF] at h; exact .inr (.inl (by simpa using h))
  | y :: r, h => by
    rw [addF] at h
    split at h
    · rename_i he
      rcases List.mem_cons.1 h with rfl | h
      · exact .inr (.inr ⟨y, List.mem_cons_self, he, rfl⟩)
      · exact .inl (List.mem_cons_of_mem _ h)
    · split at h
      · rcases List.mem_cons.1 h with rfl | h
        · exact .inr (.inl rfl)
        · exact .inl h
      · rcases List.mem_cons.1 h with rfl | h
        · exact .inl List.mem_cons_self
        · rcases mem_addF h with h | h | ⟨y', h1, h2⟩
          · exact .inl (List.mem_cons_of_mem _ h)
          · exact .inr (.inl h)
          · exact .inr (.inr ⟨y', List.mem_cons_of_mem _ h1, h2⟩)
theorem addF_srt {k : Int} {x : Fct} : ∀ {f : List Fct}, SrtF f → SrtF (addF k f x).1
  | [], _ => by rw [addF]; exact List.pairwise_singleton _ _
  | y :: r, hs => by
    obtain ⟨h1, h2⟩ := List.pairwise_cons.1 hs
    rw [addF]
    split
    · exact List.pairwise_cons.2 ⟨fun z hz => h1 z hz, h2⟩
    · rename_i he
      split
      · rename_i hlt
        refine List.pairwise_cons.2 ⟨fun z hz => ?_, hs⟩
        rcases List.mem_cons.1 hz with rfl | hz
        · exact hlt
        · exact Int.lt_trans hlt (h1 z hz)
      · rename_i hge
        refine List.pairwise_cons.2 ⟨fun z hz => ?_, addF_srt h2⟩
        rcases mem_addF hz with hz | rfl | ⟨y', hy', e, rfl⟩
        · exact h1 z hz
        · omega
        · show placeF y < placeF y'
          exact h1 y' hy'
theorem addF_chg {k : Int} {x : Fct} : ∀ {f : List Fct}, SrtF f → (addF k f x).2 = decide (lkF f (placeF x) ≠ some (newV k (lkF f (placeF x)) x))
  | [], _ => by simp [addF, lkF_nil, newV]
  | y :: r, hs => by
    obtain ⟨h1, h2⟩ := List.pairwise_cons.1 hs
    rw [addF, lkF_cons]
    split
    · simp [newV, eq_comm]
    · rename_i he
      split
      · rename_i hlt
        have : lkF r (placeF x) = none := lkF_none.2 fun z hz => by have := h1 z hz; omega
        rw [this]; simp
      · exact addF_chg h2
theorem addF_same {k : Int} {x : Fct} : ∀ {f : List Fct}, (addF k f x).2 = false → (addF k f x).1 = f
  | [], h => by simp [addF] at h
  | y :: r, h => by
    rw [addF] at h ⊢
    split
    · rename_i he
      rw [if_pos he] at h
      have : joinV k y.v x.v = y.v := by simpa using h
      show _ :: r = y :: r
      rw [this]
    · rename_i he
      rw [if_neg he] at h
      split
      · rename_i hlt; rw [if_pos hlt] at h; cases h
      · rename_i hlt
        rw [if_neg hlt] at h
        show y :: _ = y :: r
        rw [addF_same h]
theorem addF_fok {l : List Prd} {f : List Fct} {x : Fct} (h : FOk l f) (hx : factFine l x = true) : FOk l (addF (predOf l x.pred).kind f x).1 := by
  refine ⟨h.len, h.preds, fun z hz => ?_, addF_srt h.srt⟩
  rcases mem_addF hz with hz | rfl | ⟨y, hy, e, rfl⟩
  · exact h.fine z hz
  · exact hx
  · have hpy := (fine_pf h.len (h.fine y hy)).inj (fine_pf h.len hx) e
    have f1 := fine_iff.1 (h.fine y hy)
    have f2 := fine_iff.1 hx
    refine fine_iff.2 ⟨f1.1, f1.2.1, f1.2.2.1, f1.2.2.2.1, f1.2.2.2.2.1, ?_⟩
    show VOk (predOf l y.pred).kind _
    rw [hpy.1]
    exact joinV_ok (by have := f1.2.2.2.2.2; rwa [hpy.1] at this) f2.2.2.2.2.2
/-! ### Where a fact stands -/
def posF (f : List Fct) (x : Fct) : Nat := (f.takeWhile fun y => decide (placeF y < placeF x)).length
theorem posF_of {x : Fct} : ∀ {f : List Fct} {k : Nat}, k ≤ f.length → (∀ m, (h : m < f.length) → m < k → placeF f[m] < placeF x) → (∀ (h : k < f.length), ¬ placeF f[k] < placeF x) → posF f x = k
  | [], k, hk, _, _ => by simp at hk; subst hk; rfl
  | y :: r, 0, _, _, h2 => by
    have := h2 (by simp)
    simp only [List.getElem_cons_zero] at this
    simp [posF, this]
  | y :: r, k + 1, hk, h1, h2 => by
    have h0 := h1 0 (by simp) (by omega)
    simp only [List.getElem_cons_zero] at h0
    have := posF_of (f := r) (x := x) (k := k) (by simpa using hk) (fun m hm hmk => h1 (m + 1) (by simpa using hm) (by omega)) (fun hkl => h2 (by simpa using hkl))
    unfold posF at this ⊢
    rw [List.takeWhile_cons, if_pos (by simpa using h0), List.length_cons, this]
theorem posF_le {f : List Fct} {x : Fct} : posF f x ≤ f.length := by unfold posF; exact (List.takeWhile_sublist _).length_le
theorem posF_cons_lt {y x : Fct} {r : List Fct} (h : placeF y < placeF x) : posF (y :: r) x = posF r x + 1 := by
  unfold posF; rw [List.takeWhile_cons, if_pos (by simpa using h), List.length_cons]
theorem posF_cons_ge {y x : Fct} {r : List Fct} (h : ¬ placeF y < placeF x) : posF (y :: r) x = 0 := by
  unfold posF; rw [List.takeWhile_cons, if_neg (by simpa using h)]; rfl
/-- Is it there? -/
def isF (f : List Fct) (x : Fct) : Bool := (lkF f (placeF x)).isSome
theorem isF_iff {x : Fct} : ∀ {f : List Fct}, SrtF f → (isF f x = true ↔ ∃ h : posF f x < f.length, placeF f[posF f x] = placeF x)
  | [], _ => by simp [isF, lkF_nil]
  | y :: r, hs => by
    obtain ⟨h1, h2⟩ := List.pairwise_cons.1 hs
    unfold isF
    rw [lkF_cons]
    by_cases hlt : placeF y < placeF x
    · rw [if_neg (by omega)]
      have ih := isF_iff (x := x) h2
      unfold isF at ih
      rw [ih]
      simp only [posF_cons_lt hlt, List.length_cons, List.getElem_cons_succ]
      constructor
      · rintro ⟨a, b⟩; exact ⟨by omega, b⟩
      · rintro ⟨a, b⟩; exact ⟨by omega, b⟩
    · simp only [posF_cons_ge hlt, List.length_cons, List.getElem_cons_zero]
      by_cases he : placeF y = placeF x
      · rw [if_pos he]; simp [he]
      · rw [if_neg he]
        have : lkF r (placeF x) = none := lkF_none.2 fun z hz => by have := h1 z hz; omega
        rw [this]; simp [he]
theorem lkF_pos {f : List Fct} {x : Fct} (hs : SrtF f) (h : posF f x < f.length) (he : placeF f[posF f x] = placeF x) : lkF f (placeF x) = some f[posF f x].v :=
  (lkF_some hs).2 ⟨_, List.getElem_mem h, he, rfl⟩
theorem addF_new {k : Int} {x : Fct} : ∀ {f : List Fct}, SrtF f → isF f x = false → addF k f x = (f.take (posF f x) ++ x :: f.drop (posF f x), true)
  | [], _, _ => by simp [addF, posF]
  | y :: r, hs, hi => by
    obtain ⟨h1, h2⟩ := List.pairwise_cons.1 hs
    have hne : placeF y ≠ placeF x := fun e => by simp [isF, lkF_cons, e] at hi
    rw [addF, if_neg hne]
    by_cases hlt : placeF y < placeF x
    · rw [if_neg (by omega), posF_cons_lt hlt, addF_new h2 (by simpa [isF, lkF_cons, hne] using hi)]; rfl
    · rw [if_pos (by omega), posF_cons_ge hlt]; rfl
theorem addF_old {k : Int} {x : Fct} : ∀ {f : List Fct}, SrtF f → ∀ (h : posF f x < f.length), placeF f[posF f x] = placeF x →
    addF k f x = (f.set (posF f x) ⟨f[posF f x].pred, f[posF f x].a, f[posF f x].b, joinV k f[posF f x].v x.v⟩, decide (joinV k f[posF f x].v x.v ≠ f[posF f x].v))
  | [], _, h, _ => by simp at h
  | y :: r, hs, h, he => by
    obtain ⟨h1, h2⟩ := List.pairwise_cons.1 hs
    by_cases hlt : placeF y < placeF x
    · have e := posF_cons_lt (r := r) hlt
      simp only [e, List.length_cons, List.getElem_cons_succ] at h he ⊢
      rw [addF, if_neg (by omega), if_neg (by omega), addF_old h2 (by omega) he]
      simp
    · have e := posF_cons_ge (r := r) hlt
      simp only [e, List.getElem_cons_zero] at he ⊢
      rw [addF, if_pos he]
      simp
/-! ### Being under -/
def underF (l : List Prd) (f g : List Fct) : Bool := f.all fun x => (lkF g (placeF x)).isSome && decide (joinV (predOf l x.pred).kind x.v ((lkF g (placeF x)).getD 0) = (lkF g (placeF x)).getD 0)
def findOf (l : List Prd) (f : List Fct) (x : Fct) : Int × Bool × Int := if checkFacts l f ≠ 0 then (0, false, checkFacts l f) else if factFine l x then ((findF f x).1, (findF f x).2, 0) else (0, false, 1)
def addOf (l : List Prd) (f : List Fct) (x : Fct) : List Fct × Bool × Int := if checkFacts l f ≠ 0 then ([], false, checkFacts l f) else if factFine l x then ((addF (predOf l x.pred).kind f x).1, (addF (predOf l x.pred).kind f x).2, 0) else ([], false, 1)
def underOf (l : List Prd) (f g : List Fct) : Bool × Int := if checkFacts l f ≠ 0 then (false, checkFacts l f) else if checkFacts l g ≠ 0 then (false, checkFacts l g) else (underF l f g, 0)
theorem underF_iff {l : List Prd} {f g : List Fct} : underF l f g = true ↔ ∀ x ∈ f, ∃ v, lkF g (placeF x) = some v ∧ LeV (predOf l x.pred).kind x.v v := by
  unfold underF
  rw [List.all_eq_true]
  refine forall_congr' fun x => imp_congr_right fun _ => ?_
  cases h : lkF g (placeF x) <;> simp [LeV]
end Go.TF
