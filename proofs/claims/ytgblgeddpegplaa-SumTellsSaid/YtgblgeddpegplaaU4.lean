/- Texts SpBase SpBase2 SpStrata SpFire SpRound SpRound2 SpNaive RuleLaw2 Sls Bas1 Bas2 Fir1 Fir2 SortLay Fir3 Fir4 Fir5 Fir6 Prog1 Prog2 Prog3 Prog4 Prog5. -/
import Derived.Test.YtgblgeddpegplaaU2
import Derived.Test.YtgblgeddpegplaaU1
import Derived.Test.YtgblgeddpegplaaU3
import Derived.Shelf.SlSortCmp.WholeK
import Derived.Ground.SlsfProg
import Derived.Test.YtgblgeddpegplaaProg
import Derived.Shelf.SlSortCmp.NoneTotal
import Derived.ChangeKeysEq
section
/- Facts: which may be, where each stands, finding, adding, being under: plain. -/
namespace Go.TF
open Go

def predFine (p : Prd) : Bool := decide (0 ≤ p.arity ∧ p.arity ≤ 2 ∧ 0 ≤ p.kind ∧ p.kind ≤ 3)
def factFine (l : List Prd) (x : Fct) : Bool :=
  decide (within x.pred 0 (l.length - 1)) && decide (within x.a 0 4) && decide (within x.b 0 4) && (decide (1 ≤ (predOf l x.pred).arity) || decide (x.a = 0)) && (decide (2 ≤ (predOf l x.pred).arity) || decide (x.b = 0)) &&
    decide (checkVal (predOf l x.pred).kind x.v = 0)

def placeF (x : Fct) : Int := (x.pred * 5 + x.a) * 5 + x.b
structure PF (x : Fct) : Prop where
  p0 : 0 ≤ x.pred
  p1 : x.pred ≤ 4
  a0 : 0 ≤ x.a
  a1 : x.a ≤ 4
  b0 : 0 ≤ x.b
  b1 : x.b ≤ 4
theorem PF.inj {x y : Fct} (hx : PF x) (hy : PF y) (h : placeF x = placeF y) : x.pred = y.pred ∧ x.a = y.a ∧ x.b = y.b := by
  obtain ⟨_, _, _, _, _, _⟩ := hx; obtain ⟨_, _, _, _, _, _⟩ := hy
  unfold placeF at h; omega
theorem PF.place {x : Fct} (hx : PF x) : 0 ≤ placeF x ∧ placeF x < 125 := by
  obtain ⟨_, _, _, _, _, _⟩ := hx
  unfold placeF; omega
theorem PF.lt {x y : Fct} (hx : PF x) (hy : PF y) : placeF x < placeF y ↔ x.pred < y.pred ∨ x.pred = y.pred ∧ (x.a < y.a ∨ x.a = y.a ∧ x.b < y.b) := by
  obtain ⟨_, _, _, _, _, _⟩ := hx; obtain ⟨_, _, _, _, _, _⟩ := hy
  unfold placeF; omega
theorem PF.ext {x y : Fct} (hx : PF x) (hy : PF y) (h : placeF x = placeF y) (hv : x.v = y.v) : x = y := by
  obtain ⟨h1, h2, h3⟩ := hx.inj hy h
  cases x; cases y; simp_all
abbrev SrtF (f : List Fct) : Prop := f.Pairwise fun x y => placeF x < placeF y
theorem SrtF.get {f : List Fct} (h : SrtF f) {i j : Nat} (hij : i < j) (hj : j < f.length) : placeF f[i] < placeF f[j] := List.pairwise_iff_getElem.1 h i j (by omega) hj hij
/-- Right facts, of right predicates. -/
structure FOk (l : List Prd) (f : List Fct) : Prop where
  len : l.length ≤ 5
  preds : ∀ p ∈ l, predFine p = true
  fine : ∀ x ∈ f, factFine l x = true
  srt : SrtF f
theorem fine_iff {l : List Prd} {x : Fct} : factFine l x = true ↔ (0 ≤ x.pred ∧ x.pred < l.length) ∧ (0 ≤ x.a ∧ x.a ≤ 4) ∧ (0 ≤ x.b ∧ x.b ≤ 4) ∧ (1 ≤ (predOf l x.pred).arity ∨ x.a = 0) ∧ (2 ≤ (predOf l x.pred).arity ∨ x.b = 0) ∧ VOk (predOf l x.pred).kind x.v := by
  simp only [factFine, Bool.and_eq_true, Bool.or_eq_true, decide_eq_true_eq]
  unfold within
  constructor
  · rintro ⟨⟨⟨⟨⟨h1, h2⟩, h3⟩, h4⟩, h5⟩, h6⟩; exact ⟨⟨h1.1, by omega⟩, h2, h3, h4, h5, h6⟩
  · rintro ⟨h1, h2, h3, h4, h5, h6⟩; exact ⟨⟨⟨⟨⟨⟨h1.1, by omega⟩, h2⟩, h3⟩, h4⟩, h5⟩, h6⟩
theorem fine_pf {l : List Prd} {x : Fct} (hl : l.length ≤ 5) (h : factFine l x = true) : PF x := by
  obtain ⟨h1, h2, h3, _⟩ := fine_iff.1 h
  exact ⟨h1.1, by omega, h2.1, h2.2, h3.1, h3.2⟩
theorem FOk.pf {l : List Prd} {f : List Fct} (h : FOk l f) : ∀ x ∈ f, PF x := fun x hx => fine_pf h.len (h.fine x hx)
/-! ### What is told at a place -/
def lkF (f : List Fct) (p : Int) : Option Int := (f.find? fun y => decide (placeF y = p)).map (·.v)
theorem lkF_nil (p : Int) : lkF [] p = none := rfl
theorem lkF_cons (y : Fct) (r : List Fct) (p : Int) : lkF (y :: r) p = if placeF y = p then some y.v else lkF r p := by
  unfold lkF; rw [List.find?_cons]
  by_cases h : placeF y = p
  · simp [h]
  · simp [h]
theorem lkF_none {f : List Fct} {p : Int} : lkF f p = none ↔ ∀ y ∈ f, placeF y ≠ p := by
  induction f with
  | nil => simp [lkF_nil]
  | cons y r ih =>
    rw [lkF_cons]
    split
    · rename_i h; simp [h]
    · rename_i h; rw [ih]; simp [h]
theorem lkF_some {f : List Fct} (hs : SrtF f) {p v : Int} : lkF f p = some v ↔ ∃ y ∈ f, placeF y = p ∧ y.v = v := by
  induction f with
  | nil => simp [lkF_nil]
  | cons y r ih =>
    obtain ⟨h1, h2⟩ := List.pairwise_cons.1 hs
    rw [lkF_cons]
    split
    · rename_i h
      constructor
      · intro e; exact ⟨y, List.mem_cons_self, h, by simpa using e⟩
      · rintro ⟨z, hz, e1, e2⟩
        rcases List.mem_cons.1 hz with rfl | hz
        · rw [e2]
        · have := h1 z hz; omega
    · rename_i h
      rw [ih h2]
      constructor
      · rintro ⟨z, hz, e⟩; exact ⟨z, List.mem_cons_of_mem _ hz, e⟩
      · rintro ⟨z, hz, e⟩
        rcases List.mem_cons.1 hz with rfl | hz
        · exact absurd e.1 h
        · exact ⟨z, hz, e⟩
theorem lkF_mem {f : List Fct} {p v : Int} (h : lkF f p = some v) : ∃ y ∈ f, placeF y = p ∧ y.v = v := by
  unfold lkF at h
  cases hf : f.find? fun y => decide (placeF y = p) with
  | none => rw [hf] at h; simp at h
  | some y =>
    rw [hf] at h
    refine ⟨y, List.mem_of_find?_eq_some hf, ?_, by simpa using h⟩
    have := List.find?_some hf
    simpa using this
theorem lkF_of_mem {f : List Fct} (hs : SrtF f) {y : Fct} (hy : y ∈ f) : lkF f (placeF y) = some y.v := (lkF_some hs).2 ⟨y, hy, rfl, rfl⟩
/-- Facts that tell the same are the same. -/
theorem lkF_ext : ∀ {f g : List Fct}, (∀ x ∈ f, PF x) → (∀ x ∈ g, PF x) → SrtF f → SrtF g → (∀ p, lkF f p = lkF g p) → f = g
  | [], [], _, _, _, _, _ => rfl
  | [], y :: r, _, _, _, _, h => by have := h (placeF y); rw [lkF_nil, lkF_cons, if_pos rfl] at this; cases this
  | x :: s, [], _, _, _, _, h => by have := h (placeF x); rw [lkF_nil, lkF_cons, if_pos rfl] at this; cases this
  | x :: s, y :: r, pf, pg, hf, hg, h => by
    obtain ⟨f1, f2⟩ := List.pairwise_cons.1 hf
    obtain ⟨g1, g2⟩ := List.pairwise_cons.1 hg
    have hx := h (placeF x)
    have hy := h (placeF y)
    rw [lkF_cons, if_pos rfl] at hx
    rw [lkF_cons y, if_pos rfl] at hy
    obtain ⟨z, hz, e1, e2⟩ := (lkF_some hg).1 hx.symm
    obtain ⟨z', hz', e1', e2'⟩ := (lkF_some hf).1 hy
    have hp : placeF x = placeF y := by
      rcases List.mem_cons.1 hz with rfl | hz
      · exact e1.symm
      · rcases List.mem_cons.1 hz' with rfl | hz'
        · exact e1'
        · have := g1 z hz; have := f1 z' hz'; omega
    rw [hp, lkF_cons, if_pos rfl] at hx
    have hxy : x = y := (pf x List.mem_cons_self).ext (pg y List.mem_cons_self) hp (by simpa using hx)
    rw [hxy]
    congr 1
    refine lkF_ext (fun z hz => pf z (List.mem_cons_of_mem _ hz)) (fun z hz => pg z (List.mem_cons_of_mem _ hz)) f2 g2 fun p => ?_
    have := h p
    rw [lkF_cons, lkF_cons, hp] at this
    by_cases e : placeF y = p
    · have a : lkF s p = none := lkF_none.2 fun z hz => by have := f1 z hz; omega
      have b : lkF r p = none := lkF_none.2 fun z hz => by have := g1 z hz; omega
      rw [a, b]
    · rwa [if_neg e, if_neg e] at this
/-! ### Adding -/
def addF (k : Int) : List Fct → Fct → List Fct × Bool
  | [], x => ([x], true)
  | y :: r, x => if placeF y = placeF x then (⟨y.pred, y.a, y.b, joinV k y.v x.v⟩ :: r, decide (joinV k y.v x.v ≠ y.v)) else if placeF x < placeF y then (x :: y :: r, true) else (y :: (addF k r x).1, (addF k r x).2)
def newV (k : Int) (o : Option Int) (x : Fct) : Int := match o with | none => x.v | some v => joinV k v x.v
theorem lkF_addF {k : Int} {x : Fct} : ∀ {f : List Fct}, SrtF f → ∀ p, lkF (addF k f x).1 p = if p = placeF x then some (newV k (lkF f p) x) else lkF f p
  | [], _, p => by
    rw [addF, lkF_cons, lkF_nil]
    by_cases h : p = placeF x
    · rw [if_pos h.symm, if_pos h]; rfl
    · rw [if_neg (Ne.symm h), if_neg h]
  | y :: r, hs, p => by
    obtain ⟨h1, h2⟩ := List.pairwise_cons.1 hs
    rw [addF]
    split
    · rename_i he
      show lkF (_ :: r) p = _
      rw [lkF_cons, lkF_cons]
      have hpl : placeF ⟨y.pred, y.a, y.b, joinV k y.v x.v⟩ = placeF y := rfl
      rw [hpl]
      by_cases h : p = placeF x
      · rw [if_pos (he.trans h.symm), if_pos h, if_pos (he.trans h.symm)]; rfl
      · rw [if_neg (by omega), if_neg h, if_neg (by omega)]
    · rename_i he
      split
      · rename_i hlt
        show lkF (x :: y :: r) p = _
        rw [lkF_cons]
        by_cases h : p = placeF x
        · have : lkF (y :: r) p = none := lkF_none.2 fun z hz => by
            rcases List.mem_cons.1 hz with rfl | hz
            · omega
            · have := h1 z hz; omega
          rw [if_pos h.symm, if_pos h, this]; rfl
        · rw [if_neg (Ne.symm h), if_neg h]
      · rename_i hge
        show lkF (y :: (addF k r x).1) p = _
        rw [lkF_cons, lkF_cons, lkF_addF h2]
        by_cases h : p = placeF x
        · rw [if_neg (by omega), if_pos h, if_pos h, if_neg (by omega)]
        · rw [if_neg h, if_neg h]
theorem mem_addF {k : Int} {x z : Fct} : ∀ {f : List Fct}, z ∈ (addF k f x).1 → z ∈ f ∨ z = x ∨ ∃ y ∈ f, placeF y = placeF x ∧ z = ⟨y.pred, y.a, y.b, joinV k y.v x.v⟩
  | [], h => by rw [addF] at h; exact .inr (.inl (by simpa using h))
  | y :: r, h => by
    rw [addF] at h
    split at h
    · rename_i he
      rcases List.mem_cons.1 h with rfl | h
      · exact .inr (.inr ⟨y, List.mem_cons_self, he, rfl⟩)
      · exact .inl (List.mem_cons_of_mem _ h)
    · split at h
      · rcases List.mem_cons.1 h with rfl | h
        · exact .inr (.inl rfl)
        · exact .inl h
      · rcases List.mem_cons.1 h with rfl | h
        · exact .inl List.mem_cons_self
        · rcases mem_addF h with h | h | ⟨y', h1, h2⟩
          · exact .inl (List.mem_cons_of_mem _ h)
          · exact .inr (.inl h)
          · exact .inr (.inr ⟨y', List.mem_cons_of_mem _ h1, h2⟩)
theorem addF_srt {k : Int} {x : Fct} : ∀ {f : List Fct}, SrtF f → SrtF (addF k f x).1
  | [], _ => by rw [addF]; exact List.pairwise_singleton _ _
  | y :: r, hs => by
    obtain ⟨h1, h2⟩ := List.pairwise_cons.1 hs
    rw [addF]
    split
    · exact List.pairwise_cons.2 ⟨fun z hz => h1 z hz, h2⟩
    · rename_i he
      split
      · rename_i hlt
        refine List.pairwise_cons.2 ⟨fun z hz => ?_, hs⟩
        rcases List.mem_cons.1 hz with rfl | hz
        · exact hlt
        · exact Int.lt_trans hlt (h1 z hz)
      · rename_i hge
        refine List.pairwise_cons.2 ⟨fun z hz => ?_, addF_srt h2⟩
        rcases mem_addF hz with hz | rfl | ⟨y', hy', e, rfl⟩
        · exact h1 z hz
        · omega
        · show placeF y < placeF y'
          exact h1 y' hy'
theorem addF_chg {k : Int} {x : Fct} : ∀ {f : List Fct}, SrtF f → (addF k f x).2 = decide (lkF f (placeF x) ≠ some (newV k (lkF f (placeF x)) x))
  | [], _ => by simp [addF, lkF_nil, newV]
  | y :: r, hs => by
    obtain ⟨h1, h2⟩ := List.pairwise_cons.1 hs
    rw [addF, lkF_cons]
    split
    · simp [newV, eq_comm]
    · rename_i he
      split
      · rename_i hlt
        have : lkF r (placeF x) = none := lkF_none.2 fun z hz => by have := h1 z hz; omega
        rw [this]; simp
      · exact addF_chg h2
theorem addF_same {k : Int} {x : Fct} : ∀ {f : List Fct}, (addF k f x).2 = false → (addF k f x).1 = f
  | [], h => by simp [addF] at h
  | y :: r, h => by
    rw [addF] at h ⊢
    split
    · rename_i he
      rw [if_pos he] at h
      have : joinV k y.v x.v = y.v := by simpa using h
      show _ :: r = y :: r
      rw [this]
    · rename_i he
      rw [if_neg he] at h
      split
      · rename_i hlt; rw [if_pos hlt] at h; cases h
      · rename_i hlt
        rw [if_neg hlt] at h
        show y :: _ = y :: r
        rw [addF_same h]
theorem addF_fok {l : List Prd} {f : List Fct} {x : Fct} (h : FOk l f) (hx : factFine l x = true) : FOk l (addF (predOf l x.pred).kind f x).1 := by
  refine ⟨h.len, h.preds, fun z hz => ?_, addF_srt h.srt⟩
  rcases mem_addF hz with hz | rfl | ⟨y, hy, e, rfl⟩
  · exact h.fine z hz
  · exact hx
  · have hpy := (fine_pf h.len (h.fine y hy)).inj (fine_pf h.len hx) e
    have f1 := fine_iff.1 (h.fine y hy)
    have f2 := fine_iff.1 hx
    refine fine_iff.2 ⟨f1.1, f1.2.1, f1.2.2.1, f1.2.2.2.1, f1.2.2.2.2.1, ?_⟩
    show VOk (predOf l y.pred).kind _
    rw [hpy.1]
    exact joinV_ok (by have := f1.2.2.2.2.2; rwa [hpy.1] at this) f2.2.2.2.2.2
/-! ### Where a fact stands -/
/-- Is it there? -/
def isF (f : List Fct) (x : Fct) : Bool := (lkF f (placeF x)).isSome
/-! ### Being under -/
def underF (l : List Prd) (f g : List Fct) : Bool := f.all fun x => (lkF g (placeF x)).isSome && decide (joinV (predOf l x.pred).kind x.v ((lkF g (placeF x)).getD 0) = (lkF g (placeF x)).getD 0)
theorem underF_iff {l : List Prd} {f g : List Fct} : underF l f g = true ↔ ∀ x ∈ f, ∃ v, lkF g (placeF x) = some v ∧ LeV (predOf l x.pred).kind x.v v := by
  unfold underF
  rw [List.all_eq_true]
  refine forall_congr' fun x => imp_congr_right fun _ => ?_
  cases h : lkF g (placeF x) <;> simp [LeV]
end Go.TF
end
section
/- What holds of adding and being under: plain. -/
namespace Go.TF
open Go

theorem fine_v {l : List Prd} {x : Fct} (h : factFine l x = true) : VOk (predOf l x.pred).kind x.v := (fine_iff.1 h).2.2.2.2.2
theorem same_pred {l : List Prd} {x y : Fct} (hl : l.length ≤ 5) (hx : factFine l x = true) (hy : factFine l y = true) (h : placeF x = placeF y) : x.pred = y.pred := ((fine_pf hl hx).inj (fine_pf hl hy) h).1
theorem FOk.look {l : List Prd} {f : List Fct} (h : FOk l f) {x : Fct} (hx : factFine l x = true) {v : Int} (hv : lkF f (placeF x) = some v) : VOk (predOf l x.pred).kind v := by
  obtain ⟨y, hy, e, rfl⟩ := lkF_mem hv
  have := fine_v (h.fine y hy)
  rwa [same_pred h.len (h.fine y hy) hx e] at this
section
variable {l : List Prd} {f g : List Fct} {x y : Fct}
abbrev addL (l : List Prd) (f : List Fct) (x : Fct) : List Fct := (addF (predOf l x.pred).kind f x).1
theorem lkF_addL (h : FOk l f) (p : Int) : lkF (addL l f x) p = if p = placeF x then some (newV (predOf l x.pred).kind (lkF f p) x) else lkF f p := lkF_addF h.srt p
theorem FOk.ext (hf : FOk l f) (hg : FOk l g) (h : ∀ p, lkF f p = lkF g p) : f = g := lkF_ext hf.pf hg.pf hf.srt hg.srt h
theorem under_add (hf : FOk l f) (hx : factFine l x = true) : underF l f (addL l f x) = true := by
  refine underF_iff.2 fun z hz => ?_
  rw [lkF_addL hf]
  have hzf := hf.fine z hz
  split
  · rename_i e
    rw [lkF_of_mem hf.srt hz]
    refine ⟨_, rfl, ?_⟩
    have := same_pred hf.len hzf hx e
    rw [this]
    have hv := fine_v hzf
    rw [this] at hv
    exact leV_up hv (fine_v hx)
  · exact ⟨z.v, lkF_of_mem hf.srt hz, joinV_idem (fine_v hzf)⟩
theorem under_one (hf : FOk l f) (hx : factFine l x = true) : underF l [x] (addL l f x) = true := by
  refine underF_iff.2 fun z hz => ?_
  obtain rfl : z = x := by simpa using hz
  rw [lkF_addL hf, if_pos rfl]
  refine ⟨_, rfl, ?_⟩
  have hv := fine_v hx
  cases h : lkF f (placeF z) with
  | none => exact joinV_idem hv
  | some v =>
    have := hf.look hx h
    show joinV _ z.v (joinV _ v z.v) = joinV _ v z.v
    rw [joinV_comm this hv]
    exact leV_up hv this
theorem fok_one (hl : l.length ≤ 5) (hp : ∀ p ∈ l, predFine p = true) (hx : factFine l x = true) : FOk l [x] := ⟨hl, hp, fun z hz => by rw [List.mem_singleton.1 hz]; exact hx, List.pairwise_singleton _ _⟩
theorem add_chg (hf : FOk l f) : (addF (predOf l x.pred).kind f x).2 = decide (addL l f x ≠ f) := by
  cases h : (addF (predOf l x.pred).kind f x).2
  · rw [show addL l f x = f from addF_same h]; simp
  · symm; rw [decide_eq_true_eq]; intro e
    rw [addF_chg hf.srt, decide_eq_true_eq] at h
    have := lkF_addL (x := x) hf (placeF x)
    rw [if_pos rfl, e] at this
    exact h this
theorem under_refl (hf : FOk l f) : underF l f f = true := underF_iff.2 fun z hz => ⟨z.v, lkF_of_mem hf.srt hz, joinV_idem (fine_v (hf.fine z hz))⟩
theorem under_trans {k : List Fct} (hf : FOk l f) (hg : FOk l g) (hk : FOk l k) (h1 : underF l f g = true) (h2 : underF l g k = true) : underF l f k = true := underF_iff.2 fun z hz => by
  have hzf := hf.fine z hz
  obtain ⟨v, hv, l1⟩ := underF_iff.1 h1 z hz
  obtain ⟨z', hz', e, rfl⟩ := lkF_mem hv
  obtain ⟨u, hu, l2⟩ := underF_iff.1 h2 z' hz'
  have ep := same_pred hf.len (hg.fine z' hz') hzf e
  rw [e] at hu
  rw [ep] at l2
  have hv' := fine_v (hg.fine z' hz')
  rw [ep] at hv'
  exact ⟨u, hu, leV_trans (fine_v hzf) hv' (hk.look hzf hu) l1 l2⟩
theorem under_anti (hf : FOk l f) (hg : FOk l g) (h1 : underF l f g = true) (h2 : underF l g f = true) : f = g := by
  have key : ∀ {f g : List Fct}, FOk l f → FOk l g → underF l f g = true → underF l g f = true → ∀ p v, lkF f p = some v → lkF g p = some v := fun {f g} hf hg h1 h2 p v hv => by
    obtain ⟨z, hz, rfl, rfl⟩ := lkF_mem hv
    obtain ⟨u, hu, l1⟩ := underF_iff.1 h1 z hz
    obtain ⟨z', hz', e, rfl⟩ := lkF_mem hu
    obtain ⟨t, ht, l2⟩ := underF_iff.1 h2 z' hz'
    rw [e, hv] at ht
    cases ht
    have ep := same_pred hf.len (hg.fine z' hz') (hf.fine z hz) e
    rw [ep] at l2
    have hv' := fine_v (hg.fine z' hz')
    rw [ep] at hv'
    rw [hu, leV_antisymm (fine_v (hf.fine z hz)) hv' l1 l2]
  refine hf.ext hg fun p => ?_
  cases h : lkF f p with
  | some v => exact (key hf hg h1 h2 p v h).symm
  | none =>
    cases h' : lkF g p with
    | none => rfl
    | some v => rw [key hg hf h2 h1 p v h'] at h; cases h
end
end Go.TF
end
section
/- Strata and needs: plain. -/
namespace Go.TF
open Go

/-- What a program's rules use: which predicate's rule uses which literal. -/
def usesL (rs : List Rul) : List (Int × Ltl) := rs.flatMap fun r => r.body.xs.map fun x => (r.head.pred, x)
def lv (L : List Int) (i : Int) : Int := L.getD i.toNat 0
def ng (x : Ltl) : Int := if x.neg then 1 else 0
def lst (L : List Int) (c : Int × Ltl) : Int := lv L c.2.atom.pred + ng c.2
def SatC (L : List Int) (c : Int × Ltl) : Prop := lst L c ≤ lv L c.1
structure InR (cs : List (Int × Ltl)) (n : Nat) : Prop where
  h : ∀ c ∈ cs, 0 ≤ c.1 ∧ c.1 < n
  b : ∀ c ∈ cs, 0 ≤ c.2.atom.pred ∧ c.2.atom.pred < n
structure Sol (cs : List (Int × Ltl)) (n : Nat) (L : List Int) : Prop where
  len : L.length = n
  pos : ∀ i, 0 ≤ lv L i
  sat : ∀ c ∈ cs, SatC L c
structure Least (cs : List (Int × Ltl)) (n : Nat) (L : List Int) : Prop where
  sol : Sol cs n L
  least : ∀ M, Sol cs n M → ∀ i, lv L i ≤ lv M i
def StrataR (cs : List (Int × Ltl)) (n : Nat) : Option (List Int) → Prop
  | some L => Least cs n L
  | none => ∀ M, ¬ Sol cs n M
theorem lv_get {L : List Int} {i : Nat} (h : i < L.length) : lv L i = L[i] := by simp [lv, List.getD_eq_getElem?_getD, h]
theorem lv_ext {L M : List Int} (hl : L.length = M.length) (h : ∀ i, lv L i = lv M i) : L = M := by
  apply List.ext_getElem hl
  intro i h1 h2
  have := h i
  rwa [lv_get h1, lv_get h2] at this
theorem StrataR.uniq {cs : List (Int × Ltl)} {n : Nat} : ∀ {r r' : Option (List Int)}, StrataR cs n r → StrataR cs n r' → r = r'
  | none, none, _, _ => rfl
  | none, some L, h, h' => (h L h'.sol).elim
  | some L, none, h, h' => (h' L h.sol).elim
  | some L, some M, h, h' => by
    congr 1
    exact lv_ext (h.sol.len.trans h'.sol.len.symm) fun i => Int.le_antisymm (h.least M h'.sol i) (h'.least L h.sol i)
theorem ng_le (x : Ltl) : 0 ≤ ng x ∧ ng x ≤ 1 := by unfold ng; split <;> omega
theorem lv_set {L : List Int} {i : Int} (h0 : 0 ≤ i) (h1 : i < L.length) (v j : Int) (hj : 0 ≤ j) : lv (L.set i.toNat v) j = if j = i then v else lv L j := by
  simp only [lv, List.getD_eq_getElem?_getD, List.getElem?_set]
  by_cases e : j = i
  · subst e; simp [show j.toNat < L.length by omega]
  · rw [if_neg e, if_neg (by omega)]
theorem lv_neg (L : List Int) {j : Int} (hj : j < 0) : lv L j = lv L 0 := by simp [lv, show j.toNat = 0 by omega]
theorem lv_zero (n : Nat) (i : Int) : lv (List.replicate n 0) i = 0 := by
  simp only [lv, List.getD_eq_getElem?_getD, List.getElem?_replicate]; split <;> rfl

/-- How many are less. -/
def rank (M : List Int) (v : Int) : Int := (M.countP fun u => decide (u < v) : Nat)
theorem countP_lt {M : List Int} {u v : Int} (huv : u < v) {i : Nat} (hi : i < M.length) (he : M[i] = u) : (M.countP fun x => decide (x < u)) < M.countP fun x => decide (x < v) := by
  induction M generalizing i with
  | nil => simp at hi
  | cons a M ih =>
    have mono : ∀ l : List Int, (l.countP fun x => decide (x < u)) ≤ l.countP fun x => decide (x < v) := fun l => List.countP_mono_left (fun x _ hx => by simp at hx ⊢; omega)
    cases i with
    | zero =>
      simp at he; subst he
      have := mono M
      simp [huv]; omega
    | succ i =>
      have := ih (by simpa using hi) (by simpa using he)
      simp only [List.countP_cons]
      have h2 : (if decide (a < u) = true then 1 else 0) ≤ (if decide (a < v) = true then 1 else 0) := by
        by_cases h : a < u
        · simp [h, show a < v by omega]
        · simp [h]
      omega
theorem countP_self_lt {M : List Int} {u : Int} {i : Nat} (hi : i < M.length) (he : M[i] = u) : (M.countP fun x => decide (x < u)) < M.length := by
  have h1 : (M.countP fun x => decide (x < u)) ≤ M.length := List.countP_le_length
  rcases Nat.lt_or_ge (M.countP fun x => decide (x < u)) M.length with h | h
  · exact h
  · have h2 : (M.countP fun x => decide (x < u)) = M.length := by omega
    rw [List.countP_eq_length] at h2
    have := h2 M[i] (List.getElem_mem hi)
    simp [he] at this
/-- If there are strata at all, there are such that are less than the number of predicates. -/
theorem Sol.small {cs : List (Int × Ltl)} {n : Nat} {M : List Int} (hr : InR cs n) (h : Sol cs n M) : ∃ M', Sol cs n M' ∧ ∀ i : Int, 0 ≤ i → i < n → lv M' i < n := by
  have hlv : ∀ i : Int, 0 ≤ i → i < n → lv (M.map (rank M)) i = rank M (lv M i) := fun i h0 h1 => by
    have : i.toNat < M.length := by rw [h.len]; omega
    simp [lv, List.getD_eq_getElem?_getD, this]
  refine ⟨M.map (rank M), ⟨by simp [h.len], fun i => ?_, fun c hc => ?_⟩, fun i h0 h1 => ?_⟩
  · simp only [lv, List.getD_eq_getElem?_getD, List.getElem?_map]
    cases M[i.toNat]? with
    | none => simp
    | some v => simp [rank]
  · have hh := hr.h c hc
    have hb := hr.b c hc
    have hs := h.sat c hc
    unfold SatC lst at hs ⊢
    rw [hlv _ hh.1 hh.2, hlv _ hb.1 hb.2]
    have hbl : c.2.atom.pred.toNat < M.length := by rw [h.len]; omega
    have hbe : M[c.2.atom.pred.toNat] = lv M c.2.atom.pred := by simp [lv, List.getD_eq_getElem?_getD, hbl]
    by_cases hlt : lv M c.2.atom.pred < lv M c.1
    · have := countP_lt hlt hbl hbe
      have := ng_le c.2
      simp only [rank]; omega
    · have hz : ng c.2 = 0 := by have := ng_le c.2; omega
      have he : lv M c.2.atom.pred = lv M c.1 := by omega
      rw [he, hz]; omega
  · rw [hlv i h0 h1]
    have hil : i.toNat < M.length := by rw [h.len]; omega
    have hie : M[i.toNat] = lv M i := by simp [lv, List.getD_eq_getElem?_getD, hil]
    have := countP_self_lt hil hie
    rw [h.len] at this
    simp only [rank]; omega

/-- On the way: not above any strata that there are. -/
structure Good (cs : List (Int × Ltl)) (n : Nat) (L : List Int) : Prop where
  len : L.length = n
  pos : ∀ i, 0 ≤ lv L i
  le : ∀ M, Sol cs n M → ∀ i, lv L i ≤ lv M i
theorem Good.zero (cs : List (Int × Ltl)) (n : Nat) : Good cs n (List.replicate n 0) :=
  ⟨by simp, fun i => by rw [lv_zero]; omega, fun M hM i => by rw [lv_zero]; exact hM.pos i⟩
theorem Good.raise {cs : List (Int × Ltl)} {n : Nat} {L : List Int} (hr : InR cs n) (g : Good cs n L) {c : Int × Ltl} (hc : c ∈ cs) : Good cs n (L.set c.1.toNat (lst L c)) := by
  have hh := hr.h c hc
  have hb := hr.b c hc
  have hl : c.1 < L.length := by rw [g.len]; exact hh.2
  refine ⟨by simp [g.len], fun i => ?_, fun M hM i => ?_⟩
  · by_cases hi : 0 ≤ i
    · rw [lv_set hh.1 hl _ _ hi]; split
      · have := g.pos c.2.atom.pred; have := ng_le c.2; unfold lst; omega
      · exact g.pos i
    · rw [lv_neg _ (by omega), lv_set hh.1 hl _ _ (Int.le_refl 0)]; split
      · have := g.pos c.2.atom.pred; have := ng_le c.2; unfold lst; omega
      · exact g.pos 0
  · have key : ∀ i, 0 ≤ i → lv (L.set c.1.toNat (lst L c)) i ≤ lv M i := fun i hi => by
      rw [lv_set hh.1 hl _ _ hi]; split
      · rename_i e; subst e
        have h1 := hM.sat c hc
        have h2 := g.le M hM c.2.atom.pred
        unfold SatC at h1; unfold lst at h1 ⊢; omega
      · exact g.le M hM i
    by_cases hi : 0 ≤ i
    · exact key i hi
    · rw [lv_neg _ (by omega), lv_neg M (by omega)]; exact key 0 (Int.le_refl 0)
theorem Good.done {cs : List (Int × Ltl)} {n : Nat} {L : List Int} (g : Good cs n L) (h : ∀ c ∈ cs, SatC L c) : StrataR cs n (some L) := ⟨⟨g.len, g.pos, h⟩, g.le⟩
theorem Good.fail {cs : List (Int × Ltl)} {n : Nat} {L : List Int} (hr : InR cs n) (g : Good cs n L) {c : Int × Ltl} (hc : c ∈ cs) (hn : n ≤ lst L c) : StrataR cs n none := fun M hM => by
  obtain ⟨M', hM', hlt⟩ := hM.small hr
  have hh := hr.h c hc
  have h1 := hM'.sat c hc
  have h2 := g.le M' hM' c.2.atom.pred
  have h3 := hlt c.1 hh.1 hh.2
  unfold SatC at h1; unfold lst at h1 hn; omega
theorem Good.lt {cs : List (Int × Ltl)} {n : Nat} {L : List Int} (hr : InR cs n) (g : Good cs n L) (hs : ∃ M, Sol cs n M) {i : Int} (h0 : 0 ≤ i) (h1 : i < n) : lv L i < n := by
  obtain ⟨M, hM⟩ := hs
  obtain ⟨M', hM', hlt⟩ := hM.small hr
  exact Int.lt_of_le_of_lt (g.le M' hM' i) (hlt i h0 h1)
/-- How much can be raised still. -/
def pot (n : Nat) (L : List Int) : Nat := (L.map fun v => ((n : Int) - v).toNat).sum
theorem sum_set_lt : ∀ (l : List Nat) (i : Nat) (y : Nat) (h : i < l.length), y < l[i] → (l.set i y).sum < l.sum
  | a :: l, 0, y, _, hy => by simp at hy ⊢; omega
  | a :: l, i + 1, y, h, hy => by
    have := sum_set_lt l i y (by simpa using h) (by simpa using hy)
    simp only [List.set_cons_succ, List.sum_cons]; omega
theorem pot_set_lt {n : Nat} {L : List Int} {i : Int} {v : Int} (h0 : 0 ≤ i) (h1 : i < L.length) (hv : lv L i < v) (hn : lv L i < n) : pot n (L.set i.toNat v) < pot n L := by
  have hi : i.toNat < L.length := by omega
  have he : L[i.toNat] = lv L i := by simp [lv, List.getD_eq_getElem?_getD, hi]
  unfold pot
  rw [List.map_set]
  refine sum_set_lt _ _ _ (by simpa using hi) ?_
  rw [List.getElem_map, he]; omega
theorem pot_zero (n : Nat) : pot n (List.replicate n 0) = n * n := by
  unfold pot
  rw [List.map_replicate]
  simp

/-- Within one pass over all uses. -/
structure Pass (cs : List (Int × Ltl)) (n : Nat) (L : List Int) (same : Bool) (L' : List Int) (done : List (Int × Ltl)) : Prop where
  good : Good cs n L'
  t : same = true → L' = L ∧ ∀ c ∈ done, SatC L c
  f : same = false → (∃ M, Sol cs n M) → pot n L' + 1 ≤ pot n L
theorem Pass.start {cs : List (Int × Ltl)} {n : Nat} {L : List Int} (g : Good cs n L) : Pass cs n L true L [] := ⟨g, fun _ => ⟨rfl, by simp⟩, fun h => by cases h⟩
theorem Pass.keep {cs : List (Int × Ltl)} {n : Nat} {L L' : List Int} {same : Bool} {done : List (Int × Ltl)} (x : Pass cs n L same L' done) {c : Int × Ltl} (h : ¬ lv L' c.1 < lst L' c) : Pass cs n L same L' (done ++ [c]) :=
  ⟨x.good, fun hs => ⟨(x.t hs).1, fun d hd => by
    rcases List.mem_append.1 hd with h1 | h1
    · exact (x.t hs).2 d h1
    · rw [List.mem_singleton.1 h1]
      have := (x.t hs).1
      subst this
      unfold SatC; omega⟩, x.f⟩
theorem Pass.raise {cs : List (Int × Ltl)} {n : Nat} {L L' : List Int} {same : Bool} {done : List (Int × Ltl)} (hr : InR cs n) (x : Pass cs n L same L' done) {c : Int × Ltl} (hc : c ∈ cs) (h : lv L' c.1 < lst L' c) : Pass cs n L false (L'.set c.1.toNat (lst L' c)) (done ++ [c]) := by
  have hh := hr.h c hc
  refine ⟨x.good.raise hr hc, (fun h => by cases h), fun _ hs => ?_⟩
  have h1 := pot_set_lt (n := n) hh.1 (by rw [x.good.len]; exact hh.2) h (x.good.lt hr hs hh.1 hh.2)
  cases hsm : same
  · have := x.f hsm hs; omega
  · have := (x.t hsm).1; subst this; omega
theorem bound_raise {cs : List (Int × Ltl)} {n : Nat} {L : List Int} {t : Int} (hr : InR cs n) (hl : L.length = n) (hb : ∀ i, lv L i ≤ t) {c : Int × Ltl} (hc : c ∈ cs) : ∀ i, lv (L.set c.1.toNat (lst L c)) i ≤ t + 1 := fun i => by
  have hh := hr.h c hc
  have h1 := hb c.2.atom.pred
  have h2 := ng_le c.2
  have key : ∀ i, 0 ≤ i → lv (L.set c.1.toNat (lst L c)) i ≤ t + 1 := fun i h0 => by
    rw [lv_set hh.1 (by rw [hl]; exact hh.2) _ _ h0]; split
    · unfold lst; omega
    · have := hb i; omega
  by_cases h0 : 0 ≤ i
  · exact key i h0
  · rw [lv_neg _ (by omega)]; exact key 0 (Int.le_refl 0)
/-! ### Needs -/
def Uses (cs : List (Int × Ltl)) (a b : Int) : Prop := ∃ c ∈ cs, c.1 = a ∧ c.2.atom.pred = b
inductive Reach (cs : List (Int × Ltl)) (a : Int) : Int → Prop
  | refl : Reach cs a a
  | step {b c : Int} : Reach cs a b → Uses cs b c → Reach cs a c
def bv (N : List Bool) (i : Int) : Bool := N.getD i.toNat false
structure NeedsR (cs : List (Int × Ltl)) (n : Nat) (p : Int) (N : List Bool) : Prop where
  len : N.length = n
  iff : ∀ i : Int, 0 ≤ i → i < n → (bv N i = true ↔ Reach cs p i)
theorem NeedsR.uniq {cs : List (Int × Ltl)} {n : Nat} {p : Int} {N N' : List Bool} (h : NeedsR cs n p N) (h' : NeedsR cs n p N') : N = N' := by
  apply List.ext_getElem (h.len.trans h'.len.symm)
  intro i h1 h2
  have a := h.iff i (by omega) (by have := h.len; omega)
  have b := h'.iff i (by omega) (by have := h.len; omega)
  have e1 : bv N i = N[i] := by simp [bv, List.getD_eq_getElem?_getD, h1]
  have e2 : bv N' i = N'[i] := by simp [bv, List.getD_eq_getElem?_getD, h2]
  rw [e1] at a; rw [e2] at b
  cases hx : N[i] <;> cases hy : N'[i] <;> simp_all
theorem bv_set {N : List Bool} {i : Int} (h0 : 0 ≤ i) (h1 : i < N.length) (v : Bool) (j : Int) (hj : 0 ≤ j) : bv (N.set i.toNat v) j = if j = i then v else bv N j := by
  simp only [bv, List.getD_eq_getElem?_getD, List.getElem?_set]
  by_cases e : j = i
  · subst e; simp [show j.toNat < N.length by omega]
  · rw [if_neg e, if_neg (by omega)]
def ClosedN (cs : List (Int × Ltl)) (N : List Bool) : Prop := ∀ c ∈ cs, bv N c.1 = true → bv N c.2.atom.pred = true
theorem NeedsR.of {cs : List (Int × Ltl)} {n : Nat} {p : Int} {N : List Bool} (hl : N.length = n) (hs : ∀ i : Int, 0 ≤ i → i < n → bv N i = true → Reach cs p i) (hp : bv N p = true) (hc : ClosedN cs N) : NeedsR cs n p N := by
  refine ⟨hl, fun i h0 h1 => ⟨hs i h0 h1, fun h => ?_⟩⟩
  clear h0 h1
  induction h with
  | refl => exact hp
  | step _ hu ih => obtain ⟨c, hc1, rfl, rfl⟩ := hu; exact hc c hc1 ih
def trues (N : List Bool) : Nat := N.countP id
theorem trues_set : ∀ (N : List Bool) (i : Nat) (h : i < N.length), N[i] = false → trues (N.set i true) = trues N + 1
  | a :: N, 0, _, hf => by simp at hf; subst hf; simp [trues]
  | a :: N, i + 1, h, hf => by
    have := trues_set N i (by simpa using h) (by simpa using hf)
    unfold trues at this ⊢
    simp only [List.set_cons_succ, List.countP_cons, this]; omega
theorem set_same : ∀ (N : List Bool) (i : Nat) (h : i < N.length), N[i] = true → N.set i true = N
  | a :: N, 0, _, hf => by simp at hf; subst hf; rfl
  | a :: N, i + 1, h, hf => by simp [set_same N i (by simpa using h) (by simpa using hf)]
/-- Within one pass over all uses. -/
structure PassN (cs : List (Int × Ltl)) (n : Nat) (p : Int) (N N1 : List Bool) (done : List (Int × Ltl)) : Prop where
  len : N1.length = n
  snd : ∀ i : Int, 0 ≤ i → i < n → bv N1 i = true → Reach cs p i
  has : bv N1 p = true
  or : (N1 = N ∧ ∀ c ∈ done, bv N c.1 = true → bv N c.2.atom.pred = true) ∨ trues N < trues N1
  closed : ClosedN cs N → N1 = N
theorem PassN.skip {cs : List (Int × Ltl)} {n : Nat} {p : Int} {N N1 : List Bool} {done more : List (Int × Ltl)} (x : PassN cs n p N N1 done) (h : ∀ c ∈ more, bv N1 c.1 = false) : PassN cs n p N N1 (done ++ more) :=
  ⟨x.len, x.snd, x.has, x.or.imp (fun ⟨e, hd⟩ => ⟨e, fun c hc => by
    rcases List.mem_append.1 hc with h1 | h1
    · exact hd c h1
    · intro ht; rw [← e, h c h1] at ht; cases ht⟩) id, x.closed⟩
theorem PassN.put {cs : List (Int × Ltl)} {n : Nat} {p : Int} {N N1 : List Bool} {done : List (Int × Ltl)} (hr : InR cs n) (hp : 0 ≤ p) (x : PassN cs n p N N1 done) {c : Int × Ltl} (hc : c ∈ cs) (ht : bv N1 c.1 = true) : PassN cs n p N (N1.set c.2.atom.pred.toNat true) (done ++ [c]) := by
  have hh := hr.h c hc
  have hb := hr.b c hc
  have hl : c.2.atom.pred < N1.length := by rw [x.len]; exact hb.2
  have hi : c.2.atom.pred.toNat < N1.length := by omega
  have hrc : Reach cs p c.2.atom.pred := .step (x.snd _ hh.1 hh.2 ht) ⟨c, hc, rfl, rfl⟩
  have he : N1[c.2.atom.pred.toNat] = bv N1 c.2.atom.pred := by simp [bv, List.getD_eq_getElem?_getD, hi]
  by_cases hq : bv N1 c.2.atom.pred = true
  · rw [set_same N1 _ hi (by rw [he]; exact hq)]
    exact ⟨x.len, x.snd, x.has, x.or.imp (fun ⟨e, hd⟩ => ⟨e, fun d hd' => by
      rcases List.mem_append.1 hd' with h1 | h1
      · exact hd d h1
      · rw [List.mem_singleton.1 h1]; intro _; rw [← e]; exact hq⟩) id, x.closed⟩
  · have hq' : bv N1 c.2.atom.pred = false := by simpa using hq
    have htr := trues_set N1 _ hi (by rw [he]; exact hq')
    refine ⟨by simp [x.len], fun i h0 h1 h => ?_, ?_, .inr ?_, fun hcl => ?_⟩
    · rw [bv_set hb.1 hl _ _ h0] at h
      split at h
      · rename_i e; rw [e]; exact hrc
      · exact x.snd i h0 h1 h
    · rw [bv_set hb.1 hl _ _ hp]; split
      · rfl
      · exact x.has
    · rcases x.or with ⟨e, _⟩ | h
      · subst e; omega
      · omega
    · have e := x.closed hcl
      subst e
      exact absurd (hcl c hc ht) hq
/-! ### Names -/
def lowB (b : UInt8) : Bool := decide (97 ≤ b.toNat) && decide (b.toNat ≤ 122)
def isName (s : ByteArray) : Bool := decide (1 ≤ s.size) && decide (s.size ≤ 8) && s.data.toList.all lowB
/-! ### Programs -/
def rulesErr (l : List Prd) : List Rul → Int
  | [] => 0
  | r :: rs => if checkRule l r ≠ 0 then checkRule l r else rulesErr l rs
theorem rulesErr_zero {l : List Prd} {rs : List Rul} : rulesErr l rs = 0 ↔ ∀ r ∈ rs, checkRule l r = 0 := by
  induction rs with
  | nil => simp [rulesErr]
  | cons x r ih =>
    simp only [rulesErr, List.mem_cons, forall_eq_or_imp]
    by_cases h : checkRule l x = 0
    · simp [h, ih]
    · simp [h]
theorem rulesErr_at {l : List Prd} {b : List Rul} {k : Nat} (hk : k < b.length) (h1 : ∀ j, j < k → ∀ hj' : j < b.length, checkRule l b[j] = 0) (h2 : checkRule l b[k] ≠ 0) : rulesErr l b = checkRule l b[k] := by
  induction b generalizing k with
  | nil => simp at hk
  | cons x r ih =>
    cases k with
    | zero => simp only [List.getElem_cons_zero] at h2 ⊢; simp [rulesErr, h2]
    | succ k =>
      have h0 := h1 0 (by omega) (by simp)
      simp only [List.getElem_cons_zero] at h0
      simp only [rulesErr, h0, List.getElem_cons_succ]
      simp only [List.getElem_cons_succ] at h2
      exact ih (by simpa using hk) (fun j _ hj' => by have := h1 (j + 1) (by omega) (by simpa using hj'); simpa using this) h2
/-- Does a name stand there twice? -/
def early (l : List Prd) (k : Nat) : Bool := (l.take k).any fun y => decide (y.name = (l.getD k default).name)
def twice (l : List Prd) : Bool := (List.range l.length).any (early l)
def badArity (x : Prd) : Bool := decide (x.arity < 0 ∨ 2 < x.arity)
def badKind (x : Prd) : Bool := decide (x.kind < 0 ∨ 3 < x.kind)
open Classical in
noncomputable def checkProg (p : Prg) : Int :=
  if 5 < p.preds.xs.length ∨ 8 < p.rules.xs.length then 2
  else if p.preds.xs.any (fun x => !isName x.name) then 5
  else if twice p.preds.xs then 6
  else if p.preds.xs.any badArity then 3
  else if p.preds.xs.any badKind then 4
  else if rulesErr p.preds.xs p.rules.xs ≠ 0 then rulesErr p.preds.xs p.rules.xs
  else if ∃ M, Sol (usesL p.rules.xs) p.preds.xs.length M then 0 else 8
theorem checkRule_ok {l : List Prd} {r : Rul} (h : checkRule l r = 0) : checkAtom l r.head = 0 ∧ r.body.xs.length ≤ 3 ∧ ∀ x ∈ r.body.xs, checkAtom l x.atom = 0 := by
  unfold checkRule at h
  split at h
  · rename_i h1; exact absurd h h1
  split at h
  · cases h
  split at h
  · rename_i h1; exact absurd h h1
  rename_i h1 h2 h3
  exact ⟨Decidable.not_not.1 h1, by omega, bodyErr_ne.1 (Decidable.not_not.1 h3)⟩
theorem checkAtom_in' {l : List Prd} {a : Atm} (h : checkAtom l a = 0) : 0 ≤ a.pred ∧ a.pred < l.length := by
  unfold checkAtom at h
  split at h
  · cases h
  · omega
theorem inR_of {l : List Prd} {rs : List Rul} (h : rulesErr l rs = 0) : InR (usesL rs) l.length := by
  have key : ∀ c ∈ usesL rs, ∃ r ∈ rs, ∃ x ∈ r.body.xs, c = (r.head.pred, x) := fun c hc => by
    unfold usesL at hc
    obtain ⟨r, hr, hc⟩ := List.mem_flatMap.1 hc
    obtain ⟨x, hx, rfl⟩ := List.mem_map.1 hc
    exact ⟨r, hr, x, hx, rfl⟩
  refine ⟨fun c hc => ?_, fun c hc => ?_⟩ <;> obtain ⟨r, hr, x, hx, rfl⟩ := key c hc <;> have h1 := checkRule_ok (rulesErr_zero.1 h r hr)
  · exact checkAtom_in' h1.1
  · exact checkAtom_in' (h1.2.2 x hx)
theorem checkProg_ok {p : Prg} (h : checkProg p = 0) : p.preds.xs.length ≤ 5 ∧ p.rules.xs.length ≤ 8 ∧ rulesErr p.preds.xs p.rules.xs = 0 ∧ ∃ M, Sol (usesL p.rules.xs) p.preds.xs.length M := by
  unfold checkProg at h
  split at h
  · cases h
  split at h
  · cases h
  split at h
  · cases h
  split at h
  · cases h
  split at h
  · cases h
  split at h
  · rename_i h1; exact absurd h h1
  split at h
  · rename_i h1 _ _ _ _ h2 h3
    exact ⟨by omega, by omega, Decidable.not_not.1 h2, h3⟩
  · cases h
def Prg.Nm (p : Prg) : Prop := ∀ x ∈ p.preds.xs, x.name.size ≤ 140737488355328
end Go.TF
end
section
/- What a rule that is used tells; the steps that hold, and how facts are laid to literals: plain. -/
namespace Go.TF
open Go

def litOk (f : List Fct) (x : Vrs) (t : Ltl) : Bool := decide (isF f (groundF t.atom x) ≠ t.neg)
def holdsB (f : List Fct) (r : Rul) (x : Vrs) : Bool := r.body.xs.all (litOk f x)
def headV (l : List Prd) (f : List Fct) (r : Rul) (x : Vrs) : Int := if 0 ≤ r.src then liftV (predOf l r.head.pred).kind ((lkF f (placeF (groundF (litOf r r.src).atom x))).getD 0) r.n else r.n
def headF (l : List Prd) (f : List Fct) (r : Rul) (x : Vrs) : Fct := ⟨r.head.pred, argv r.head x 0, argv r.head x 1, headV l f r x⟩
structure VsOk (x : Vrs) : Prop where
  h0 : 0 ≤ x.x0 ∧ x.x0 ≤ 4
  h1 : 0 ≤ x.x1 ∧ x.x1 ≤ 4
  h2 : 0 ≤ x.x2 ∧ x.x2 ≤ 4
theorem VsOk.at {x : Vrs} (h : VsOk x) (v : Int) : 0 ≤ x.at v ∧ x.at v ≤ 4 := by
  unfold Vrs.at; (repeat' split) <;> first | exact h.h0 | exact h.h1 | exact h.h2
/-- A rule of a right program. -/
structure ROk (l : List Prd) (r : Rul) : Prop where
  five : l.length ≤ 5
  preds : ∀ p ∈ l, predFine p = true
  head : checkAtom l r.head = 0
  len : r.body.xs.length ≤ 3
  body : ∀ x ∈ r.body.xs, checkAtom l x.atom = 0
  free : ∀ v, v = 0 ∨ v = 1 ∨ v = 2 → freeVar r v = false
  src : -1 ≤ r.src ∧ r.src < r.body.xs.length
  pos : 0 ≤ r.src → (litOf r r.src).neg = false ∧ (predOf l (litOf r r.src).atom.pred).kind = (predOf l r.head.pred).kind
  n : 0 ≤ r.n ∧ r.n ≤ 15
  plain : (predOf l r.head.pred).kind = 0 → r.src = -1 ∧ r.n = 0
theorem rok_of {l : List Prd} {r : Rul} (h5 : l.length ≤ 5) (hp : ∀ p ∈ l, predFine p = true) (h : checkRule l r = 0) : ROk l r := by
  unfold checkRule at h
  split at h
  · rename_i h1; exact absurd h h1
  split at h
  · cases h
  split at h
  · rename_i h1 h2 h3; exact absurd h h3
  split at h
  · cases h
  split at h
  · cases h
  split at h
  · cases h
  split at h
  · cases h
  split at h
  · cases h
  rename_i h1 h2 h3 h4 h5' h6 h7 h8
  simp only [Bool.or_eq_true, not_or, Bool.not_eq_true] at h4
  refine ⟨h5, hp, Decidable.not_not.1 h1, by omega, bodyErr_ne.1 (Decidable.not_not.1 h3), fun v hv => ?_, by omega, fun h0 => ?_, by omega, fun hk => ?_⟩
  · rcases hv with rfl | rfl | rfl
    · exact h4.1.1
    · exact h4.1.2
    · exact h4.2
  · have : ¬ ((litOf r r.src).neg = true ∨ (predOf l (litOf r r.src).atom.pred).kind ≠ (predOf l r.head.pred).kind) := fun hh => h7 ⟨h0, hh⟩
    rw [not_or, Bool.not_eq_true, Decidable.not_not] at this
    exact this
  · have : ¬ (r.src ≠ -1 ∨ r.n ≠ 0) := fun hh => h6 ⟨hk, hh⟩
    omega
structure AOk (l : List Prd) (a : Atm) : Prop where
  pred : 0 ≤ a.pred ∧ a.pred < l.length
  len : a.args.xs.length ≤ 2
  err : argsErr a.args.xs = 0
  arity : (a.args.xs.length : Int) = (predOf l a.pred).arity
theorem predOf_mem {l : List Prd} {p : Int} (h : 0 ≤ p ∧ p < l.length) : predOf l p ∈ l := List.mem_of_getElem? (predOf_get h.1 h.2)
theorem aok_of {l : List Prd} {a : Atm} (hp : ∀ p ∈ l, predFine p = true) (h : checkAtom l a = 0) : AOk l a := by
  unfold checkAtom at h
  split at h
  · cases h
  split at h
  · cases h
  rename_i h1 h2
  have hpr : 0 ≤ a.pred ∧ a.pred < l.length := by omega
  have := hp _ (predOf_mem hpr)
  simp only [predFine, decide_eq_true_eq] at this
  exact ⟨hpr, by omega, h, by omega⟩
theorem AOk.arg {l : List Prd} {a : Atm} (h : AOk l a) {x : Vrs} (hx : VsOk x) (i : Nat) : 0 ≤ argv a x i ∧ argv a x i ≤ 4 := by
  by_cases hi : i < a.args.xs.length
  · rw [argv_get hi]
    unfold tv
    split
    · exact hx.at _
    · rename_i hv
      exact argsErr_con h.err (List.getElem_mem hi) (by simpa using hv)
  · rw [argv_none (by omega)]; omega
theorem AOk.pf {l : List Prd} {a : Atm} (h5 : l.length ≤ 5) (h : AOk l a) {x : Vrs} (hx : VsOk x) (v : Int) : PF ⟨a.pred, argv a x 0, argv a x 1, v⟩ :=
  ⟨h.pred.1, by have := h.pred.2; show a.pred ≤ 4; omega, (h.arg hx 0).1, (h.arg hx 0).2, (h.arg hx 1).1, (h.arg hx 1).2⟩
theorem AOk.var {l : List Prd} {a : Atm} (h : AOk l a) {t : Trm} (ht : t ∈ a.args.xs) (hv : t.var = true) : 0 ≤ t.n ∧ t.n < 3 := argsErr_var h.err ht hv
theorem litOf_mem {r : Rul} {k : Int} (h : 0 ≤ k ∧ k < r.body.xs.length) : litOf r k ∈ r.body.xs := by
  have : k.toNat < r.body.xs.length := by omega
  unfold litOf
  rw [List.getD_eq_getElem?_getD, List.getElem?_eq_getElem this]
  exact List.getElem_mem _
/-- What a rule tells is a fact. -/
theorem headF_fine {l : List Prd} {f : List Fct} {r : Rul} (ok : ROk l r) (okf : FOk l f) {x : Vrs} (hx : VsOk x) (hh : holdsB f r x = true) : factFine l (headF l f r x) = true := by
  have ha := aok_of ok.preds ok.head
  have har := ha.arity
  have hz : ∀ i : Nat, (i : Int) + 1 ≤ (predOf l r.head.pred).arity ∨ argv r.head x i = 0 := fun i => by
    by_cases hi : i < r.head.args.xs.length
    · left; omega
    · right; exact argv_none (by omega)
  refine fine_iff.2 ⟨ha.pred, ha.arg hx 0, ha.arg hx 1, (show 1 ≤ (predOf l r.head.pred).arity ∨ argv r.head x 0 = 0 from by simpa using hz 0), (show 2 ≤ (predOf l r.head.pred).arity ∨ argv r.head x 1 = 0 from by simpa using hz 1), ?_⟩
  show VOk (predOf l r.head.pred).kind (headV l f r x)
  have hk := ok.preds _ (predOf_mem ha.pred)
  simp only [predFine, decide_eq_true_eq] at hk
  unfold headV
  split
  · rename_i h0
    have hm := litOf_mem ⟨h0, ok.src.2⟩
    obtain ⟨hn, hkd⟩ := ok.pos h0
    have hl := List.all_eq_true.1 hh _ hm
    have hb := aok_of ok.preds (ok.body _ hm)
    have pf := hb.pf ok.five hx 0
    unfold litOk at hl
    rw [hn, decide_eq_true_eq] at hl
    have hs : isF f (groundF (litOf r r.src).atom x) = true := by simpa using hl
    unfold isF at hs
    cases hlk : lkF f (placeF (groundF (litOf r r.src).atom x)) with
    | none => rw [hlk] at hs; cases hs
    | some v =>
      obtain ⟨y, hy, e, rfl⟩ := lkF_mem hlk
      have hyf := okf.fine y hy
      have hyp := ((fine_pf ok.five hyf).inj pf e).1
      have hv := fine_v hyf
      rw [show y.pred = (litOf r r.src).atom.pred from hyp, hkd] at hv
      have hrn : VOk (predOf l r.head.pred).kind r.n := by
        rw [vOk_iff]; refine ⟨hk.2.2.1, hk.2.2.2, ok.n.1, ok.n.2, fun h => (ok.plain h).2⟩
      exact liftV_ok hv hrn
  · rw [vOk_iff]; exact ⟨hk.2.2.1, hk.2.2.2, ok.n.1, ok.n.2, fun h => (ok.plain h).2⟩
/-! ### Steps -/
def standsR (r : Rul) (v : Int) : Bool := standsIn r.head v || r.body.xs.any fun x => standsIn x.atom v
def vecs : List Vrs := (List.range 5).flatMap fun (a : Nat) => (List.range 5).flatMap fun (b : Nat) => (List.range 5).map fun (c : Nat) => (⟨(a : Int), (b : Int), (c : Int)⟩ : Vrs)
def stdOk (r : Rul) (x : Vrs) : Bool := (decide (x.x0 = 0) || standsR r 0) && (decide (x.x1 = 0) || standsR r 1) && (decide (x.x2 = 0) || standsR r 2)
def stepsF (f : List Fct) (n : Int) (r : Rul) : List Stp := (vecs.filter fun x => stdOk r x && holdsB f r x).map (Stp.mk n)
def ltV (x y : Vrs) : Prop := x.x0 < y.x0 ∨ x.x0 = y.x0 ∧ (x.x1 < y.x1 ∨ x.x1 = y.x1 ∧ x.x2 < y.x2)
instance (x y : Vrs) : Decidable (ltV x y) := inferInstanceAs (Decidable (_ ∨ _))
theorem mem_vecs {x : Vrs} : x ∈ vecs ↔ VsOk x := by
  constructor
  · intro h
    simp only [vecs, List.mem_flatMap, List.mem_map, List.mem_range] at h
    obtain ⟨a, ha, b, hb, c, hc, rfl⟩ := h
    exact ⟨⟨by dsimp only; omega, by dsimp only; omega⟩, ⟨by dsimp only; omega, by dsimp only; omega⟩, ⟨by dsimp only; omega, by dsimp only; omega⟩⟩
  · rintro ⟨h0, h1, h2⟩
    simp only [vecs, List.mem_flatMap, List.mem_map, List.mem_range]
    obtain ⟨a, b, c⟩ := x
    dsimp only at h0 h1 h2
    exact ⟨a.toNat, by omega, b.toNat, by omega, c.toNat, by omega, by simp only [Vrs.mk.injEq]; omega⟩
/-! ### Facts laid to literals -/
def Vrs.set (b : Vrs) (v n : Int) : Vrs := if v = 0 then ⟨n, b.x1, b.x2⟩ else if v = 1 then ⟨b.x0, n, b.x2⟩ else ⟨b.x0, b.x1, n⟩
def cantF (b : Vrs) (t : Trm) (n : Int) : Prop := (t.var = false ∧ t.n ≠ n) ∨ (t.var = true ∧ 0 ≤ b.at t.n ∧ b.at t.n ≠ n)
instance (b : Vrs) (t : Trm) (n : Int) : Decidable (cantF b t n) := inferInstanceAs (Decidable (_ ∨ _))
def mx0 (b : Vrs) : Vrs := ⟨max 0 b.x0, max 0 b.x1, max 0 b.x2⟩
def b0 : Vrs := ⟨-1, -1, -1⟩
/-- What is bound is a constant, of a variable that stands somewhere in l. -/
def BOk (l : List Atm) (b : Vrs) : Prop := ∀ v, 0 ≤ v ∧ v < 3 → b.at v = -1 ∨ (0 ≤ b.at v ∧ b.at v ≤ 4 ∧ ∃ a ∈ l, standsIn a v = true)
end Go.TF
end
section
/- A round: what is told, and put one behind the other: plain. -/
namespace Go.TF
open Go

/-- The rules of a stratum. -/
def ofQ (p : Prg) (M : List Int) (st : Int) (n : Nat) : Bool := decide (lv M (p.rules.xs.getD n default).head.pred = st)
/-- What the rules that are asked for tell, each step with its fact. -/
def toldN (l : List Prd) (f : List Fct) (rs : List Rul) (q : Nat → Bool) (n : Nat) : List (Stp × Fct) :=
  if q n then (stepsF f n (rs.getD n default)).map fun s => (s, headF l f (rs.getD n default) s.vars) else []
def toldK (l : List Prd) (f : List Fct) (rs : List Rul) (q : Nat → Bool) (k : Nat) : List (Stp × Fct) := (List.range k).flatMap (toldN l f rs q)
abbrev toldL (l : List Prd) (f : List Fct) (rs : List Rul) (q : Nat → Bool) : List (Stp × Fct) := toldK l f rs q rs.length
section
variable {l : List Prd} {f : List Fct} {rs : List Rul} {q : Nat → Bool} {n : Nat}
theorem mem_told {x : Stp × Fct} : x ∈ toldL l f rs q ↔ ∃ n r, rs[n]? = some r ∧ q n = true ∧ x.1 ∈ stepsF f n r ∧ x.2 = headF l f r x.1.vars := by
  unfold toldL toldK
  rw [List.mem_flatMap]
  constructor
  · rintro ⟨n, hn, hx⟩
    have hn' : n < rs.length := List.mem_range.1 hn
    have hr : rs[n]? = some rs[n] := List.getElem?_eq_getElem hn'
    unfold toldN at hx
    rw [List.getD_eq_getElem?_getD, hr] at hx
    simp only [Option.getD_some] at hx
    split at hx
    · rename_i hq
      obtain ⟨s, hs, rfl⟩ := List.mem_map.1 hx
      exact ⟨n, rs[n], hr, hq, hs, rfl⟩
    · cases hx
  · rintro ⟨n, r, hr, hq, hs, he⟩
    refine ⟨n, List.mem_range.2 (List.getElem?_eq_some_iff.1 hr).1, ?_⟩
    unfold toldN
    rw [List.getD_eq_getElem?_getD, hr, if_pos hq]
    simp only [Option.getD_some]
    exact List.mem_map.2 ⟨x.1, hs, by obtain ⟨a, b⟩ := x; dsimp only at he ⊢; rw [he]⟩
end
def putS (l : List Prd) (s : List Fct × Bool) (x : Fct) : List Fct × Bool := ((addF (predOf l x.pred).kind s.1 x).1, s.2 || (addF (predOf l x.pred).kind s.1 x).2)
def turnL (l : List Prd) (f : List Fct) (ts : List (Stp × Fct)) : List Fct × Bool := ts.foldl (fun s t => putS l s t.2) (f, false)
theorem turnL_snoc {l : List Prd} {f : List Fct} {ts : List (Stp × Fct)} {t : Stp × Fct} : turnL l f (ts ++ [t]) = putS l (turnL l f ts) t.2 := by unfold turnL; rw [List.foldl_append]; rfl
theorem turnL_take {l : List Prd} {f : List Fct} {ts : List (Stp × Fct)} {k : Nat} (hk : k < ts.length) : turnL l f (ts.take (k + 1)) = putS l (turnL l f (ts.take k)) ts[k].2 := by
  rw [List.take_succ_eq_append_getElem hk, turnL_snoc]
theorem turn_fok {l : List Prd} {f : List Fct} (okf : FOk l f) {ts : List (Stp × Fct)} (h : ∀ t ∈ ts, factFine l t.2 = true) : FOk l (turnL l f ts).1 := by
  have : ∀ k, k ≤ ts.length → FOk l (turnL l f (ts.take k)).1 := fun k => by
    induction k with
    | zero => intro _; exact okf
    | succ k ih =>
      intro hk
      rw [turnL_take (by omega)]
      exact addF_fok (ih (by omega)) (h _ (List.getElem_mem _))
  have := this ts.length (Nat.le_refl _)
  rwa [List.take_length] at this
theorem steps_holds {f : List Fct} {n : Int} {r : Rul} {s : Stp} (h : s ∈ stepsF f n r) : s.rule = n ∧ VsOk s.vars ∧ holdsB f r s.vars = true := by
  unfold stepsF at h
  obtain ⟨x, hx, rfl⟩ := List.mem_map.1 h
  obtain ⟨h1, h2⟩ := List.mem_filter.1 hx
  rw [Bool.and_eq_true] at h2
  exact ⟨rfl, mem_vecs.1 h1, h2.2⟩
theorem told_fine {l : List Prd} {f : List Fct} {rs : List Rul} {q : Nat → Bool} (ok : ∀ r ∈ rs, ROk l r) (okf : FOk l f) : ∀ t ∈ toldL l f rs q, factFine l t.2 = true := fun t ht => by
  obtain ⟨n, r, hr, _, hs, he⟩ := mem_told.1 ht
  obtain ⟨_, hv, hh⟩ := steps_holds hs
  rw [he]
  exact headF_fine (ok r (List.mem_of_getElem? hr)) okf hv hh
end Go.TF
end
section
/- What is told and put is the least above both; levels; more facts: plain. -/
namespace Go.TF
open Go

section
variable {l : List Prd} {f b : List Fct} {x : Fct}
theorem add_least (hf : FOk l f) (hb : FOk l b) (hx : factFine l x = true) (h1 : underF l f b = true) (h2 : underF l [x] b = true) : underF l (addL l f x) b = true := underF_iff.2 fun z hz => by
  have okA : FOk l (addL l f x) := addF_fok hf hx
  have hzf := okA.fine z hz
  have hlz := lkF_of_mem okA.srt hz
  rw [lkF_addL hf] at hlz
  obtain ⟨v, hv1, hv2⟩ := underF_iff.1 h2 x (List.mem_singleton_self _)
  split at hlz
  · rename_i e
    have hpz := same_pred hf.len hzf hx e
    rw [e] at hlz
    rw [e, hpz]
    refine ⟨v, hv1, ?_⟩
    injection hlz with hlz
    rw [← hlz]
    cases hu : lkF f (placeF x) with
    | none => exact hv2
    | some u =>
      obtain ⟨y, hy, ey, rfl⟩ := lkF_mem hu
      obtain ⟨v', k1, k2⟩ := underF_iff.1 h1 y hy
      rw [ey, hv1] at k1
      injection k1 with k1; subst k1
      have hyp := same_pred hf.len (hf.fine y hy) hx ey
      rw [hyp] at k2
      have hvo := hb.look hx hv1
      have hyo := fine_v (hf.fine y hy); rw [hyp] at hyo
      exact (leV_join_iff hyo (fine_v hx) hvo).2 ⟨k2, hv2⟩
  · obtain ⟨y, hy, ey, e2⟩ := lkF_mem hlz
    obtain ⟨v', k1, k2⟩ := underF_iff.1 h1 y hy
    have hyp := same_pred hf.len (hf.fine y hy) hzf ey
    rw [ey] at k1
    rw [hyp, e2] at k2
    exact ⟨v', k1, k2⟩
theorem under_put (hf : FOk l f) (hx : factFine l x = true) (h : underF l [x] f = true) : addF (predOf l x.pred).kind f x = (f, false) := by
  obtain ⟨v, h1, h2⟩ := underF_iff.1 h x (List.mem_singleton_self _)
  have hv := hf.look hx h1
  have hc : (addF (predOf l x.pred).kind f x).2 = false := by
    rw [addF_chg hf.srt, h1]
    apply decide_eq_false
    intro hh
    apply hh
    show some v = some (joinV _ v x.v)
    rw [joinV_comm hv (fine_v hx), show joinV _ x.v v = v from h2]
  exact Prod.ext (addF_same hc) hc
end
def runL (l : List Prd) (s : List Fct × Bool) (ts : List (Stp × Fct)) : List Fct × Bool := ts.foldl (fun s t => putS l s t.2) s
structure RunUp (l : List Prd) (s r : List Fct × Bool) (ts : List (Stp × Fct)) : Prop where
  fok : FOk l r.1
  up : underF l s.1 r.1 = true
  each : ∀ t ∈ ts, underF l [t.2] r.1 = true
  no : r.2 = false → s.2 = false ∧ r.1 = s.1
  yes : r.2 = true → s.2 = true ∨ r.1 ≠ s.1
theorem run_up {l : List Prd} : ∀ (ts : List (Stp × Fct)) (s : List Fct × Bool), FOk l s.1 → (∀ t ∈ ts, factFine l t.2 = true) → RunUp l s (runL l s ts) ts
  | [], s, hs, _ => ⟨hs, under_refl hs, fun t ht => by simp at ht, fun h => ⟨h, rfl⟩, fun h => .inl h⟩
  | t :: ts, s, hs, hf => by
    have hx := hf t List.mem_cons_self
    have hs' : FOk l (putS l s t.2).1 := addF_fok hs hx
    have ih := run_up ts (putS l s t.2) hs' fun u hu => hf u (List.mem_cons_of_mem _ hu)
    have hr : runL l s (t :: ts) = runL l (putS l s t.2) ts := rfl
    rw [hr]
    have u1 : underF l s.1 (putS l s t.2).1 = true := under_add hs hx
    have u2 : underF l [t.2] (putS l s t.2).1 = true := under_one hs hx
    have hch : (putS l s t.2).2 = (s.2 || decide ((putS l s t.2).1 ≠ s.1)) := by show (s.2 || (addF _ s.1 t.2).2) = _; rw [add_chg hs]; rfl
    refine ⟨ih.fok, under_trans hs hs' ih.fok u1 ih.up, fun u hu => ?_, fun h => ?_, fun h => ?_⟩
    · rcases List.mem_cons.1 hu with rfl | hu
      · exact under_trans (fok_one hs.len hs.preds hx) hs' ih.fok u2 ih.up
      · exact ih.each u hu
    · obtain ⟨h1, h2⟩ := ih.no h
      rw [hch, Bool.or_eq_false_iff, decide_eq_false_iff_not, Decidable.not_not] at h1
      exact ⟨h1.1, h2.trans h1.2⟩
    · have key : (runL l (putS l s t.2) ts).1 = s.1 → (putS l s t.2).1 = s.1 := fun e => by
        have := ih.up
        rw [e] at this
        exact under_anti hs' hs this u1
      rcases ih.yes h with h1 | h1
      · rw [hch, Bool.or_eq_true, decide_eq_true_eq] at h1
        rcases h1 with h1 | h1
        · exact .inl h1
        · exact .inr fun e => h1 (key e)
      · exact .inr fun e => h1 (e.trans (key e).symm)
theorem run_least {l : List Prd} {b : List Fct} (hb : FOk l b) : ∀ (ts : List (Stp × Fct)) (s : List Fct × Bool), FOk l s.1 → (∀ t ∈ ts, factFine l t.2 = true) → underF l s.1 b = true → (∀ t ∈ ts, underF l [t.2] b = true) → underF l (runL l s ts).1 b = true
  | [], s, _, _, h, _ => h
  | t :: ts, s, hs, hf, h, ht => by
    have hx := hf t List.mem_cons_self
    exact run_least hb ts (putS l s t.2) (addF_fok hs hx) (fun u hu => hf u (List.mem_cons_of_mem _ hu)) (add_least hs hb hx h (ht t List.mem_cons_self)) fun u hu => ht u (List.mem_cons_of_mem _ hu)
theorem run_same {l : List Prd} {f : List Fct} (hf : FOk l f) : ∀ (ts : List (Stp × Fct)), (∀ t ∈ ts, factFine l t.2 = true) → (∀ t ∈ ts, underF l [t.2] f = true) → runL l (f, false) ts = (f, false)
  | [], _, _ => rfl
  | t :: ts, h1, h2 => by
    have : putS l (f, false) t.2 = (f, false) := by
      unfold putS
      rw [under_put hf (h1 t List.mem_cons_self) (h2 t List.mem_cons_self)]
      rfl
    show runL l (putS l (f, false) t.2) ts = _
    rw [this]
    exact run_same hf ts (fun u hu => h1 u (List.mem_cons_of_mem _ hu)) fun u hu => h2 u (List.mem_cons_of_mem _ hu)
theorem turn_run (l : List Prd) (f : List Fct) (ts : List (Stp × Fct)) : turnL l f ts = runL l (f, false) ts := rfl
section
variable {l : List Prd} {f : List Fct} {ts : List (Stp × Fct)} (hf : FOk l f) (ht : ∀ t ∈ ts, factFine l t.2 = true)
include hf ht
theorem turn_chg : (turnL l f ts).2 = decide ((turnL l f ts).1 ≠ f) := by
  have r := run_up ts (f, false) hf ht
  rw [turn_run]
  cases h : (runL l (f, false) ts).2
  · exact (decide_eq_false (fun e => e (r.no h).2)).symm
  · rcases r.yes h with h1 | h1
    · cases h1
    · exact (decide_eq_true h1).symm
theorem turn_above : underF l f (turnL l f ts).1 = true := (run_up ts (f, false) hf ht).up
theorem turn_no : (turnL l f ts).2 = false ↔ ∀ t ∈ ts, underF l [t.2] f = true := by
  have r := run_up ts (f, false) hf ht
  constructor
  · intro h t htm
    have := r.each t htm
    rwa [(r.no h).2] at this
  · intro h
    rw [turn_run, run_same hf ts ht h]
end
/-! ### Levels -/
end Go.TF
end
section
/- The model: rounds of each stratum until none changes anything: plain. -/
namespace Go.TF
open Go

/-! ### How often facts can be raised -/
/-! ### Until nothing is changed -/
inductive Clo (T : List Fct → List Fct × Bool) : List Fct → List Fct → Nat → Prop
  | stop {f : List Fct} (h : (T f).2 = false) : Clo T f f 0
  | step {f r : List Fct} {n : Nat} (h : (T f).2 = true) (c : Clo T (T f).1 r n) : Clo T f r (n + 1)
theorem Clo.uniq {T : List Fct → List Fct × Bool} {f r : List Fct} {n : Nat} (h : Clo T f r n) : ∀ {r' : List Fct} {n' : Nat}, Clo T f r' n' → r' = r ∧ n' = n := by
  induction h with
  | stop h =>
    intro r' n' h'
    cases h' with
    | stop _ => exact ⟨rfl, rfl⟩
    | step h2 _ => rw [h] at h2; cases h2
  | step h c ih =>
    intro r' n' h'
    cases h' with
    | stop h2 => rw [h] at h2; cases h2
    | step _ c' => obtain ⟨rfl, rfl⟩ := ih c'; exact ⟨rfl, rfl⟩
theorem Clo.end_ {T : List Fct → List Fct × Bool} {f r : List Fct} {n : Nat} (h : Clo T f r n) : (T r).2 = false := by
  induction h with
  | stop h => exact h
  | step _ _ ih => exact ih
/-- What holds ahead of a round holds behind all of them. -/
theorem Clo.inv {T : List Fct → List Fct × Bool} {J : List Fct → Prop} {f r : List Fct} {n : Nat} (h : Clo T f r n) (j0 : J f) (hs : ∀ g, J g → (T g).2 = true → J (T g).1) : J r := by
  induction h with
  | stop _ => exact j0
  | step h _ ih => exact ih (hs _ j0 h)
def CloB (T : List Fct → List Fct × Bool) (f0 : List Fct) (k : Nat) (f : List Fct) : Prop := ∀ r n, Clo T f r n → Clo T f0 r (k + n)
theorem CloB.zero {T : List Fct → List Fct × Bool} {f : List Fct} : CloB T f 0 f := fun r n h => by rw [Nat.zero_add]; exact h
theorem CloB.next {T : List Fct → List Fct × Bool} {f0 f : List Fct} {k : Nat} (h : CloB T f0 k f) (h2 : (T f).2 = true) : CloB T f0 (k + 1) (T f).1 := fun r n c => by
  have := h r (n + 1) (.step h2 c)
  rwa [show k + (n + 1) = k + 1 + n by omega] at this
theorem CloB.done {T : List Fct → List Fct × Bool} {f0 f : List Fct} {k : Nat} (h : CloB T f0 k f) (h2 : (T f).2 = false) : Clo T f0 f k := h f 0 (.stop h2)
/-! ### One stratum behind the other -/
def turnT (p : Prg) (M : List Int) (st : Int) (f : List Fct) : List Fct × Bool := turnL p.preds.xs f (toldL p.preds.xs f p.rules.xs (ofQ p M st))
def ModK (p : Prg) (M : List Int) : Nat → List Fct → List Int → Prop
  | 0, f, rs => f = [] ∧ rs = []
  | k + 1, f, rs => ∃ f0 rs0 n, ModK p M k f0 rs0 ∧ Clo (turnT p M k) f0 f n ∧ rs = rs0 ++ [(n : Int)]
theorem ModK.uniq {p : Prg} {M : List Int} : ∀ {k : Nat} {f f' : List Fct} {rs rs' : List Int}, ModK p M k f rs → ModK p M k f' rs' → f' = f ∧ rs' = rs
  | 0, _, _, _, _, ⟨h1, h2⟩, ⟨h3, h4⟩ => ⟨h3.trans h1.symm, h4.trans h2.symm⟩
  | k + 1, _, _, _, _, ⟨f0, r0, n, a, b, c⟩, ⟨f0', r0', n', a', b', c'⟩ => by
    obtain ⟨rfl, rfl⟩ := ModK.uniq a a'
    obtain ⟨rfl, rfl⟩ := b.uniq b'
    exact ⟨rfl, c'.trans c.symm⟩
theorem ModK.len {p : Prg} {M : List Int} : ∀ {k : Nat} {f : List Fct} {rs : List Int}, ModK p M k f rs → rs.length = k
  | 0, _, _, ⟨_, h⟩ => by rw [h]; rfl
  | k + 1, _, _, ⟨_, _, _, a, _, c⟩ => by rw [c, List.length_append, ModK.len a]; rfl
def mostL (l : List Int) : Int := l.foldl max (-1)
theorem foldl_max (l : List Int) : ∀ (a : Int), l.foldl max a = max a (l.foldl max a) ∧ (∀ x ∈ l, x ≤ l.foldl max a) ∧ (l.foldl max a = a ∨ l.foldl max a ∈ l) := by
  induction l with
  | nil => intro a; exact ⟨by simp, fun x hx => by simp at hx, .inl rfl⟩
  | cons y l ih =>
    intro a
    obtain ⟨h1, h2, h3⟩ := ih (max a y)
    rw [List.foldl_cons]
    refine ⟨by omega, fun x hx => ?_, ?_⟩
    · rcases List.mem_cons.1 hx with rfl | hx
      · omega
      · exact h2 x hx
    · rcases h3 with h3 | h3
      · rcases Int.le_total a y with h | h
        · right; rw [h3, Int.max_eq_right h]; exact List.mem_cons_self
        · left; rw [h3, Int.max_eq_left h]
      · exact .inr (List.mem_cons_of_mem _ h3)
theorem mostL_ge (l : List Int) : -1 ≤ mostL l := by have := (foldl_max l (-1)).1; unfold mostL; omega
theorem mostL_mem {l : List Int} {x : Int} (h : x ∈ l) : x ≤ mostL l := (foldl_max l (-1)).2.1 x h
theorem mostL_of (l : List Int) : mostL l = -1 ∨ mostL l ∈ l := (foldl_max l (-1)).2.2
abbrev numS (M : List Int) : Nat := (mostL M + 1).toNat
end Go.TF
end
section
/- The laws of rules: each returns true. -/
namespace Go.TF
open Go Go.RowKit Go.Proofs
set_option maxRecDepth 20000

theorem RoadsAt.le {p : Prg} {h h' : Heap} (x : RoadsAt p h) (hl : h.le h') : RoadsAt p h' := ⟨x.is.le hl, x.er, x.cap⟩
theorem RoadsAt.preds {p : Prg} {h : Heap} (x : RoadsAt p h) : p.preds.xs = roadsC.preds.xs := by have := congrArg (fun q : Prg => q.preds.xs) x.er; exact this
theorem RoadsAt.get {p : Prg} {h : Heap} (x : RoadsAt p h) {i : Nat} {r : Rul} (hr : roadsC.rules.xs[i]? = some r) : ∃ r', p.rules.xs[i]? = some r' ∧ r'.er = r := by
  have h1 := congrArg (fun q : Prg => q.rules.xs[i]?) x.er
  simp only [Prg.er, hr, List.getElem?_map, Option.map_eq_some_iff] at h1
  exact h1
theorem RoadsAt.atom {p : Prg} {h : Heap} (x : RoadsAt p h) {a b : Atm} (e : a.er = b) : checkAtom p.preds.xs a = checkAtom roadsC.preds.xs b := by rw [← checkAtom_er, e, x.preds]
theorem RoadsAt.rule {p : Prg} {h : Heap} (x : RoadsAt p h) {a b : Rul} (e : a.er = b) : checkRule p.preds.xs a = checkRule roadsC.preds.xs b := by rw [← checkRule_er, e, x.preds]
end Go.TF
end
section
/- slices.Clone at this program's types: the same, in memory of its own. -/
namespace Go.TF
open Go Go.RowKit Go.Proofs
set_option maxRecDepth 10000
theorem ClonePrd_ok (B : Base) (hB : B.ok) (l : Sl Prd) (hl : l.Is 3 Prd.enc B.h) (hb : l.xs.length * 32 ≤ 140737488355328) :
    Fn Try.prog 22 [l.val] B (fun v h => ∃ s : Sl Prd, v = s.val ∧ s.xs = l.xs ∧ OwnH 56 3 s Prd.enc B.h h ∧ (s.xs = [] → s.cap = 0)) := by
  refine Fn.of Try.func22 rfl Try.ntmps22 (by kernel_rfl) (by simp) ?_
  intro e
  have I := Inv.start hB
  refine WP.seq ?_
  refine WP.region ?_
  refine Ops.y (v := .slice _ _ _) (Y.assign rfl) ?_
  refine Ops.nil ?_
  refine WP.seq ?_
  refine WP.seq ?_
  refine WP.region ?_
  refine Ops.y (v := .slice _ _ _) (Y.move rfl) ?_
  refine Ops.y (v := .bool _) (Y.eqnil Try.underlying22 rfl rfl) ?_
  refine Ops.nil ?_
  refine WP.cond rfl (fun h => ?_) (fun h => ?_)
  · refine WP.seq ?_
    refine WP.region ?_
    refine Ops.y (v := .slice _ _ _) (Y.assign rfl) ?_
    refine Ops.nil ?_
    have hx : l.xs = [] := by
      cases hx : l.xs with
      | nil => rfl
      | cons a r =>
        have := (hl.el 0 a (by rw [hx]; rfl)).1
        simp only [this, Option.isNone_some] at h; cases h
    refine WP.ret ?_
    repeat (first | refine thenE_ret ?_ | refine blockE_ret ?_)
    exact retQ.mk (vs := [.slice _ _ _]) rfl ⟨rfl, trivial⟩ I.ext_of (⟨⟨none, 0, []⟩, rfl, hx.symm, .inl rfl, fun _ => rfl⟩)
  refine WP.skip ?_
  refine WP.seq ?_
  refine WP.region ?_
  refine Ops.go (O.mkE (α := Prd) Prd.enc I Try.underlying22 Try.sizeOf56 ?_)
  intro s5 h5 w I le5 e5 c5 a5 o5
  refine Ops.y (v := .slice _ _ _) (Y.move rfl) ?_
  refine Ops.go (O.appendE (α := Prd) I Try.underlying22 et_56 (fun _ => rfl) o5 le5 e5 c5 a5 (hl.el.le le5) rfl rfl (by omega) (by have := hl.small; omega) ?_)
  intro r h2 w I le2 hr o2 r0
  refine Ops.y (v := .slice _ _ _) (Y.assign rfl) ?_
  refine Ops.nil ?_
  refine WP.ret ?_
  repeat (first | refine thenE_ret ?_ | refine blockE_ret ?_)
  exact retQ.mk (vs := [.slice _ _ _]) rfl ⟨rfl, trivial⟩ I.ext_of (⟨r, rfl, hr, o2, r0⟩)
theorem CloneRul_ok (B : Base) (hB : B.ok) (l : Sl Rul) (hl : l.Is 5 Rul.enc B.h) (hb : l.xs.length * 80 ≤ 140737488355328) :
    Fn Try.prog 25 [l.val] B (fun v h => ∃ s : Sl Rul, v = s.val ∧ s.xs = l.xs ∧ OwnH 49 5 s Rul.enc B.h h ∧ (s.xs = [] → s.cap = 0)) := by
  refine Fn.of Try.func25 rfl Try.ntmps25 (by kernel_rfl) (by simp) ?_
  intro e
  have I := Inv.start hB
  refine WP.seq ?_
  refine WP.region ?_
  refine Ops.y (v := .slice _ _ _) (Y.assign rfl) ?_
  refine Ops.nil ?_
  refine WP.seq ?_
  refine WP.seq ?_
  refine WP.region ?_
  refine Ops.y (v := .slice _ _ _) (Y.move rfl) ?_
  refine Ops.y (v := .bool _) (Y.eqnil Try.underlying23 rfl rfl) ?_
  refine Ops.nil ?_
  refine WP.cond rfl (fun h => ?_) (fun h => ?_)
  · refine WP.seq ?_
    refine WP.region ?_
    refine Ops.y (v := .slice _ _ _) (Y.assign rfl) ?_
    refine Ops.nil ?_
    have hx : l.xs = [] := by
      cases hx : l.xs with
      | nil => rfl
      | cons a r =>
        have := (hl.el 0 a (by rw [hx]; rfl)).1
        simp only [this, Option.isNone_some] at h; cases h
    refine WP.ret ?_
    repeat (first | refine thenE_ret ?_ | refine blockE_ret ?_)
    exact retQ.mk (vs := [.slice _ _ _]) rfl ⟨rfl, trivial⟩ I.ext_of (⟨⟨none, 0, []⟩, rfl, hx.symm, .inl rfl, fun _ => rfl⟩)
  refine WP.skip ?_
  refine WP.seq ?_
  refine WP.region ?_
  refine Ops.go (O.mkE (α := Rul) Rul.enc I Try.underlying23 Try.sizeOf49 ?_)
  intro s5 h5 w I le5 e5 c5 a5 o5
  refine Ops.y (v := .slice _ _ _) (Y.move rfl) ?_
  refine Ops.go (O.appendE (α := Rul) I Try.underlying23 et_49 (fun _ => rfl) o5 le5 e5 c5 a5 (hl.el.le le5) rfl rfl (by omega) (by have := hl.small; omega) ?_)
  intro r h2 w I le2 hr o2 r0
  refine Ops.y (v := .slice _ _ _) (Y.assign rfl) ?_
  refine Ops.nil ?_
  refine WP.ret ?_
  repeat (first | refine thenE_ret ?_ | refine blockE_ret ?_)
  exact retQ.mk (vs := [.slice _ _ _]) rfl ⟨rfl, trivial⟩ I.ext_of (⟨r, rfl, hr, o2, r0⟩)
end Go.TF
end
section
/- Places of facts, their order; which may be; checks of facts. -/
namespace Go.TF
open Go Go.RowKit Go.Proofs
set_option maxRecDepth 20000

/-- A variable that is never written again. -/
structure Known (h : Heap) (b : Nat) (cs : List Value) : Prop where
  rd : RdH h b 0 cs
theorem Known.le {h h' : Heap} {b : Nat} {cs : List Value} (k : Known h b cs) (hl : h.le h') : Known h' b cs := ⟨k.rd.le hl⟩
end Go.TF
end
section
/- Finding a fact; being under. -/
namespace Go.TF
open Go Go.RowKit Go.Proofs
set_option maxRecDepth 20000

/-! ### Being under -/
end Go.TF
end
section
/- A rule is used; an atom is bound with a fact. -/
namespace Go.TF
open Go Go.RowKit Go.Proofs
set_option maxRecDepth 20000

/-! ### Binding -/
end Go.TF
end
section
/- Facts laid to literals: the walk. -/
namespace Go.TF
open Go Go.RowKit Go.Proofs
set_option maxRecDepth 20000

theorem flat_take_succ {α β : Type} (g : α → List β) {l : List α} {k : Nat} (hk : k < l.length) : (l.take (k + 1)).flatMap g = (l.take k).flatMap g ++ g l[k] := by
  rw [List.take_succ_eq_append_getElem hk, List.flatMap_append]; simp
theorem flat_take_le {α β : Type} (g : α → List β) (l : List α) (k : Nat) : ((l.take k).flatMap g).length ≤ (l.flatMap g).length := by
  conv => rhs; rw [← List.take_append_drop k l, List.flatMap_append, List.length_append]
  omega
theorem BOk.vs {l : List Atm} {b : Vrs} (h : BOk l b) : VsOk (mx0 b) := by
  have h0 := h 0 (by omega); have h1 := h 1 (by omega); have h2 := h 2 (by omega)
  have e0 : b.at 0 = b.x0 := rfl
  have e1 : b.at 1 = b.x1 := rfl
  have e2 : b.at 2 = b.x2 := rfl
  rw [e0] at h0; rw [e1] at h1; rw [e2] at h2
  refine ⟨?_, ?_, ?_⟩ <;> simp only [mx0]
  · rcases h0 with h | ⟨q1, q2, _⟩ <;> omega
  · rcases h1 with h | ⟨q1, q2, _⟩ <;> omega
  · rcases h2 with h | ⟨q1, q2, _⟩ <;> omega
structure AtS (l : Sl Atm) (h : Heap) : Prop where
  is : l.Is 2 Atm.enc h
  cap : l.xs.length ≤ l.cap
  each : ∀ a ∈ l.xs, a.In h
theorem AtS.le {l : Sl Atm} {h h' : Heap} (x : AtS l h) (hl : h.le h') : AtS l h' := ⟨x.is.le hl, x.cap, fun a ha => (x.each a ha).le hl⟩
/-- What the closure keeps. -/
structure LayE (h : Heap) (p : Prg) (f : Sl Fct) (n : Int) (r : Rul) (bn bp bf bo bl : Nat) : Prop where
  kn : Known h bn [.int .i64 n]
  kp : Known h bp p.enc
  kf : Known h bf [f.val]
  kl : Known h bl [.func (.func 84) #[] #[.pointer (some ⟨bn, 0, none⟩), .pointer (some ⟨bp, 0, none⟩), .pointer (some ⟨bf, 0, none⟩), .pointer (some ⟨bo, 0, none⟩), .pointer (some ⟨bl, 0, none⟩)]]
  p : p.In h
  f : Fcts f h
theorem LayE.le {h h' : Heap} {p : Prg} {f : Sl Fct} {n : Int} {r : Rul} {bn bp bf bo bl : Nat} (x : LayE h p f n r bn bp bf bo bl) (hl : h.le h') : LayE h' p f n r bn bp bf bo bl := ⟨x.kn.le hl, x.kp.le hl, x.kf.le hl, x.kl.le hl, x.p.le hl, x.f.le hl⟩
end Go.TF
end
section
/- The laying of slices.SortFunc at this program, made by the kit's own tool. -/
namespace Go.Proofs
open Go.Shelf
end Go.Proofs
end
section
/- Steps compared, sorted. -/
namespace Go.TF
open Go Go.RowKit Go.Proofs
set_option maxRecDepth 20000

/-! ### In exactly this world -/
section
variable {P : Program} {e : Env} {w : World} {t : TypeId} {pos : String} {af : Array Edge} {g : Option (Nat × Bool)} {d : Option Nat} {K : Value → World → Prop}
theorem X.box {T : TypeId} {x : Operand} {v : Value} {cs : List Value} (hx : ev e x = v) (hc : v.cells = cs.toArray) (k : K (.pointer (some ⟨w.heap.size, 0, none⟩)) (w.alloc (.cells cs.toArray T))) : Op1 P ⟨d, .box T x, t, pos, af, g⟩ e w K := by
  have : (execOp (ev e) ⟨d, .box T x, t, pos, af, g⟩).run P w = .ok (.value (.pointer (some ⟨w.heap.size, 0, none⟩))) (w.alloc (.cells cs.toArray T)) := by
    simp [execOp, Instr.box, hx, newVar, newRow, hc]
  unfold Op1
  rw [this]
  exact k
theorem QC.calls {C : World → Prop} {f : FuncId} {args : Array Operand} {ts : Array TypeId} {vs : List Value} {r : Value} (hf : Enters P f) (hc : Calls P f vs.toArray w (fun ed w' => ed = .returned r ∧ w' = w)) (hC : C w) (ha : args.toList.map (ev e) = vs) :
    QC P C ⟨d, .call { callee := .value (.func f), args := args, argTypes := ts }, t, pos, af, g⟩ e w r := by
  have ha' : args.map (ev e) = vs.toArray := by rw [← ha]; apply Array.ext'; simp
  have : (execOp (ev e) ⟨d, .call { callee := .value (.func f), args := args, argTypes := ts }, t, pos, af, g⟩).run P w = .ok (.enter f vs.toArray) w := by
    simp [execOp, resolve, ev, Deferred.ofValue, invoke, ha', hf]
  unfold QC
  rw [this]
  exact ⟨rfl, Calls.mono hc fun _ _ ⟨h1, h2⟩ => ⟨h1, h2 ▸ hC⟩⟩
end
end Go.TF
end
section
/- slices.SortFunc and CompactFunc of steps. -/
namespace Go.TF
open Go Go.RowKit Go.Proofs
set_option maxRecDepth 20000

end Go.TF
end
section
/- slices.CompactFunc of steps. -/
namespace Go.TF
open Go Go.RowKit Go.Proofs
set_option maxRecDepth 20000

section
variable {P : Program} {e : Env} {w : World} {B : Base} {h : Heap} {M : List SA} {t : TypeId} {pos : String} {af : Array Edge} {g : Option (Nat × Bool)} {d : Option Nat} {K : Value → World → Prop}
end
/-! ### Each once -/
end Go.TF
end
section
/- Steps: all of a rule's steps, each once. -/
namespace Go.TF
open Go Go.RowKit Go.Proofs
set_option maxRecDepth 20000

end Go.TF
end
section
/- uses: the iterator; its contract. -/
namespace Go.TF
open Go Go.RowKit Go.Proofs
set_option maxRecDepth 20000

/-- A program as it lies in a box that is never written again. -/
def PBox (h : Heap) (b : Nat) (p : Prg) : Prop := h b = some (.cells [p.preds.val, p.rules.val].toArray 25 (0, 0))
theorem uses_ok (B : Base) (hB : B.ok) (p : Prg) : Fn Try.prog 80 [p.val] B (fun v h' => ∃ b, v = .func (.func 102) #[] #[.pointer (some ⟨b, 0, none⟩)] ∧ PBox h' b p) := by
  refine Fn.of Try.func80 rfl Try.ntmps80 (by kernel_rfl) (by simp) ?_
  intro e
  have I := Inv.start hB
  refine WP.seq ?_
  refine WP.region ?_
  refine Ops.go (O.box (v := .agg #[_, _]) I rfl rfl ?_)
  intro b1 w I
  refine Ops.y (v := .nilFunc) (Y.assign rfl) ?_
  refine Ops.nil ?_
  refine WP.seq ?_
  refine WP.region ?_
  refine Ops.y (v := .func _ _ _) (Y.mkfunc rfl rfl) ?_
  refine Ops.y (v := .func _ _ _) (Y.assign rfl) ?_
  refine Ops.nil ?_
  have hb0 := I.at 0 rfl
  obtain ⟨h1, le1, hb, I⟩ := I.settle
  refine WP.ret ?_
  repeat (first | refine thenE_ret ?_ | refine blockE_ret ?_)
  exact retQ.mk (vs := [.func _ _ _]) rfl ⟨rfl, trivial⟩ I.ext_of (⟨b1, rfl, (hb b1 (by simp [box])).trans hb0⟩)
theorem usesL_take {rs : List Rul} {n : Nat} (hn : n < rs.length) : usesL (rs.take (n + 1)) = usesL (rs.take n) ++ rs[n].body.xs.map fun x => (rs[n].head.pred, x) := by
  rw [List.take_succ_eq_append_getElem hn]
  unfold usesL
  rw [List.flatMap_append]
  simp only [List.flatMap_cons, List.flatMap_nil, List.append_nil]
theorem usesL_split (rs : List Rul) (n : Nat) : usesL rs = usesL (rs.take n) ++ usesL (rs.drop n) := by
  have := congrArg usesL (List.take_append_drop n rs)
  unfold usesL at this ⊢
  rw [List.flatMap_append] at this
  exact this.symm
theorem usesL_get {rs : List Rul} {n : Nat} (hn : n < rs.length) {k : Nat} (hk : k < rs[n].body.xs.length) : (usesL rs)[(usesL (rs.take n)).length + k]? = some (rs[n].head.pred, rs[n].body.xs[k]) := by
  rw [usesL_split rs (n + 1), usesL_take hn, List.append_assoc, List.getElem?_append_right (by omega), List.getElem?_append_left (by simp; omega)]
  simp [hk]
def cEnc (c : Int × Ltl) : List Value := [.int .i64 c.1, c.2.val]
set_option maxHeartbeats 2000000 in
theorem uses1_iter (p : Prg) (bp : Nat) (h : Heap) (hb : PBox h bp p) (hr : Ruls p.rules h) : Iter Try.prog 102 [.pointer (some ⟨bp, 0, none⟩)] cEnc (usesL p.rules.xs) h := by
  intro l J Jx hg W hle j0 hok hext hround
  have hsm := hr.is.small
  refine Calls.ofWP (args := [.func (.yield l) #[] #[], .pointer (some ⟨bp, 0, none⟩)]) Try.func102 rfl Try.ntmps102 (by kernel_rfl) (by simp) ?_
  intro e
  have I := Inv.start (hok _ _ _ j0)
  refine WP.seq ?_
  refine WP.region ?_
  refine Ops.y (v := .pointer (some ⟨_, _, none⟩)) (Y.fa fa_25_1 rfl) ?_
  refine Ops.y (v := .slice _ _ _) (Y.loadv ty_23 rfl (I.rd ((rdHb hb 1 1).le hle)) rfl rfl) ?_
  refine Ops.y (v := .int .i64 _) (Y.lens Try.underlying23 rfl) ?_
  refine Ops.y (v := .int .i64 _) (Y.move rfl) ?_
  refine Ops.nil ?_
  refine WP.block ?_
  refine WP.loopE (σ := Nat) (fun n => [(0, .func (.yield l) #[] #[]), (1, .pointer (some ⟨bp, 0, none⟩)), (8, p.rules.val), (9, .int .i64 p.rules.xs.length), (10, .int .i64 n)])
    (fun n w => n ≤ p.rules.xs.length ∧ ∃ h1, hg.le h1 ∧ J h1 (usesL (p.rules.xs.take n)).length w) (fun n => p.rules.xs.length - n)
    ⟨0, ⟨rfl, rfl, rfl, rfl, rfl, trivial⟩, Nat.zero_le _, hg, Heap.le.refl _, j0⟩ ?_
  rintro n e w ⟨hn, h1, gl1, j1⟩
  have I := Inv.start (hok _ _ _ j1)
  refine WP.seq ?_
  refine WP.region ?_
  refine Ops.y (v := .bool (decide _)) (Y.lti rfl rfl) ?_
  refine Ops.nil ?_
  refine WP.seq ?_
  refine WP.cond_dec rfl (fun hc => ?_) (fun hc => ?_)
  · have hn' : n < p.rules.xs.length := by omega
    have E1 := (hr.is.le (hle.trans gl1)).at hn'
    have hbd := (hr.each _ (List.getElem_mem hn')).body.le (hle.trans gl1)
    have hbs := hbd.is.small
    refine WP.skip ?_
    refine WP.seq ?_
    refine WP.block ?_
    refine WP.seq ?_
    refine WP.region ?_
    refine Ops.y (v := .pointer (some ⟨_, _, none⟩)) (Y.idxEl E1 Try.underlying23 Try.sizeOf49 rfl rfl (Int.natCast_nonneg _) rfl) ?_
    refine Ops.y (v := .agg #[_, _, _, _, _]) (Y.loadv ty_49 rfl (I.rd (E1.rd.part 0 5)) rfl rfl) ?_
    refine Ops.go (O.alloc I Try.zeroValue49 rfl ?_)
    intro b4 w I
    refine Ops.go (O.store (v := .agg #[_, _, _, _, _]) I ty_49 0 rfl rfl rfl rfl rfl rfl (Nat.le_of_ble_eq_true rfl) rfl ?_)
    intro w I
    refine Ops.nil ?_
    refine WP.seq ?_
    refine WP.region ?_
    refine Ops.y (v := .pointer (some ⟨_, _, none⟩)) (Y.fa fa_49_3 rfl) ?_
    refine Ops.y (v := .slice _ _ _) (Y.loadv ty_47 rfl (I.rdbox 0 rfl 4 1) rfl rfl) ?_
    refine Ops.y (v := .int .i64 _) (Y.lens Try.underlying47 rfl) ?_
    refine Ops.y (v := .int .i64 _) (Y.move rfl) ?_
    refine Ops.nil ?_
    have hb4 := I.at 0 rfl
    obtain ⟨h2, le2, hh4, I⟩ := I.settle
    have hb4 := (hh4 b4 (by simp [box])).trans hb4
    refine WP.block ?_
    refine WP.loopE (σ := Nat) (fun k => [(0, .func (.yield l) #[] #[]), (1, .pointer (some ⟨bp, 0, none⟩)), (8, p.rules.val), (9, .int .i64 p.rules.xs.length), (10, .int .i64 n), (4, .pointer (some ⟨b4, 0, none⟩)), (15, p.rules.xs[n].body.val), (16, .int .i64 p.rules.xs[n].body.xs.length), (17, .int .i64 k)])
      (fun k w => k ≤ p.rules.xs[n].body.xs.length ∧ ∃ h3, h2.le h3 ∧ J h3 ((usesL (p.rules.xs.take n)).length + k) w) (fun k => p.rules.xs[n].body.xs.length - k)
      ⟨0, ⟨rfl, rfl, rfl, rfl, rfl, rfl, rfl, rfl, rfl, trivial⟩, Nat.zero_le _, h2, Heap.le.refl _, hext _ _ _ _ _ j1 I⟩ ?_
    rintro k e w ⟨hk, h3, gl3, j3⟩
    have I := Inv.start (hok _ _ _ j3)
    refine WP.seq ?_
    refine WP.region ?_
    refine Ops.y (v := .bool (decide _)) (Y.lti rfl rfl) ?_
    refine Ops.nil ?_
    refine WP.seq ?_
    refine WP.cond_dec rfl (fun hd => ?_) (fun hd => ?_)
    · have hk' : k < p.rules.xs[n].body.xs.length := by omega
      have E2 := (hbd.is.le (le2.trans gl3)).at hk'
      refine WP.skip ?_
      refine WP.seq ?_
      refine WP.block ?_
      refine WP.seq ?_
      refine WP.region ?_
      refine Ops.y (v := .pointer (some ⟨_, _, none⟩)) (Y.idxEl E2 Try.underlying47 Try.sizeOf65 rfl rfl (Int.natCast_nonneg _) rfl) ?_
      refine Ops.y (v := .agg #[_, _, _]) (Y.loadv ty_65 rfl (I.rd (E2.rd.part 0 3)) rfl rfl) ?_
      refine Ops.go (O.alloc I Try.zeroValue65 rfl ?_)
      intro b6 w I
      refine Ops.go (O.store (v := .agg #[_, _, _]) I ty_65 0 rfl rfl rfl rfl rfl rfl (Nat.le_of_ble_eq_true rfl) rfl ?_)
      intro w I
      refine Ops.nil ?_
      refine WP.seq ?_
      refine WP.regionX (by kernel_rfl) ?_
      refine OpsX.y (v := .func _ _ _) (Y.move rfl) ?_
      refine OpsX.y (v := .pointer (some ⟨_, _, none⟩)) (Y.fa0 fa_49_0 rfl) ?_
      refine OpsX.y (v := .pointer (some ⟨_, _, none⟩)) (Y.fa0 fa_46_0 rfl) ?_
      refine OpsX.y (v := .int .i64 _) (Y.loadv ty_3 rfl (I.rd ((rdHb hb4 0 1).le gl3)) rfl rfl) ?_
      refine OpsX.y (v := .agg #[_, _, _]) (Y.loadv ty_65 rfl (I.rdbox 0 rfl 0 3) rfl rfl) ?_
      refine OpsX.yield rfl rfl (hround h3 _ _ _ (gl1.trans (le2.trans gl3)) (usesL_get hn' hk') (hext _ _ _ _ _ j3 I.ext_of)) ?_
      rintro ed w (⟨rfl, h4, gl4, j4⟩ | ⟨rfl, jx⟩)
      · refine ⟨_, rfl, ?_⟩
        refine OpsX.y (v := .bool _) (Y.not rfl) ?_
        refine OpsX.nil ?_
        refine WP.cond_f rfl ?_
        refine WP.skip ?_
        refine WP.region ?_
        refine Ops.y (v := .int .i64 _) (Y.addi rfl rfl ⟨by omega, by omega⟩) ?_
        refine Ops.y (v := .int .i64 _) (Y.move rfl) ?_
        refine Ops.nil ?_
        exact ⟨k + 1, ⟨⟨rfl, rfl, rfl, rfl, rfl, rfl, rfl, rfl, rfl, trivial⟩, by omega, h4, gl3.trans gl4, j4⟩, by omega⟩
      · refine ⟨_, rfl, ?_⟩
        refine OpsX.y (v := .bool _) (Y.not rfl) ?_
        refine OpsX.nil ?_
        refine WP.cond_t rfl ?_
        refine WP.ret ?_
        repeat (first | refine thenE_ret ?_ | refine blockE_ret ?_)
        exact ⟨.inl rfl, [], trivial, ⟨_, rfl⟩, .inr jx⟩
    refine WP.exit ?_
    refine WP.region ?_
    refine Ops.y (v := .int .i64 _) (Y.addi rfl rfl ⟨by omega, by omega⟩) ?_
    refine Ops.y (v := .int .i64 _) (Y.move rfl) ?_
    refine Ops.nil ?_
    have hk2 : k = p.rules.xs[n].body.xs.length := by omega
    exact ⟨n + 1, ⟨⟨rfl, rfl, rfl, rfl, rfl, trivial⟩, by omega, h3, gl1.trans (le2.trans gl3), by rw [usesL_take hn', List.length_append, List.length_map, ← hk2]; exact j3⟩, by omega⟩
  refine WP.exit ?_
  have hn2 : n = p.rules.xs.length := by omega
  rw [hn2, List.take_length] at j1
  exact ⟨.inr rfl, [], trivial, ⟨_, rfl⟩, .inl ⟨h1, gl1, j1⟩⟩
end Go.TF
end
section
/- Levels: the strata, raised from 0 until all hold. -/
namespace Go.TF
open Go Go.RowKit Go.Proofs
set_option maxRecDepth 20000

@[reducible] def iEnc (n : Int) : List Value := [.int .i64 n]
@[reducible] def vI (n : Int) : Value := .int .i64 n
@[reducible] def vB (n : Bool) : Value := .bool n
/-- What Levels and strata hand back. -/
def LevP (cs : List (Int × Ltl)) (n : Nat) (v : Value) (h : Heap) : Prop :=
  (∃ s : Sl Int, StrataR cs n (some s.xs) ∧ s.Is 1 iEnc h ∧ v = .tuple #[s.val, .bool true]) ∨ (StrataR cs n none ∧ v = .tuple #[.slice none 0 0, .bool false])
theorem boxIs {b : Nat} {L : List Int} {T : TypeId} {h : Heap} {c : Nat} (hb : h b = some (.cells (L.map vI).toArray T (0, 0))) (hs : L.length ≤ 140737488355328) : (⟨some ⟨b, 0, none⟩, c, L⟩ : Sl Int).Is 1 iEnc h :=
  ⟨fun i x hx => ⟨rfl, fun j v hv => by
    cases j with
    | zero => simp at hv; subst hv; simp only [Heap.cell, Sl.blk, Sl.off, Option.getD_some, hb]; simp [hx]
    | succ j => simp at hv⟩, hs⟩
theorem lv_some {L : List Int} {n : Nat} (hl : L.length = n) {i : Int} (h0 : 0 ≤ i) (h1 : i < n) : L[i.toNat]? = some (lv L i) := by
  have : i.toNat < L.length := by omega
  simp [lv, List.getD_eq_getElem?_getD, this]
structure LevS where
  bo : Nat
  b4 : Nat
  L : List Int
  ms : List Nat
def LevU (s : LevS) (b3 b2 b1 : Nat) (p : Prg) (L : List Int) : List SA := [box s.b4 [.slice (some ⟨s.bo, 0, none⟩) p.preds.xs.length p.preds.xs.length] 40, box s.bo (L.map vI) 3, box b3 [.bool false] 4, box b2 [.slice none 0 0] 40, box b1 p.enc 25]
structure LevJ (B : Base) (b3 b2 b1 : Nat) (p : Prg) (cs : List (Int × Ltl)) (s : LevS) (w : World) : Prop where
  inv : ∃ h1, B.h.le h1 ∧ Inv B h1 (LevU s b3 b2 b1 p s.L ++ s.ms.map markSA) w
  good : Good cs p.preds.xs.length s.L
  lt : ∀ i : Int, 0 ≤ i → i < p.preds.xs.length → lv s.L i < p.preds.xs.length
def LevJx (cs : List (Int × Ltl)) (n : Nat) (L : List Int) (j : Jmp) (L' : List Int) : Prop :=
  match j with
  | .ret => L' = L ∧ StrataR cs n none
  | .goto t => t = 0 ∧ ∃ c ∈ cs, L' = L.set c.1.toNat (lst L c) ∧ lv L c.1 < lst L c ∧ lst L c < n
  | .exit _ => False
set_option maxHeartbeats 4000000 in
theorem Levels_ok (B : Base) (hB : B.ok) (p : Prg) (hp : p.In B.h) (hr : InR (usesL p.rules.xs) p.preds.xs.length) (hn5 : p.preds.xs.length ≤ 5) : Fn Try.prog 50 [p.val] B (fun v h => LevP (usesL p.rules.xs) p.preds.xs.length v h) := by
  refine Fn.ofD Try.func50 rfl Try.ntmps50 (by kernel_rfl) (by simp) ?_
  intro e
  have I := Inv.start hB
  refine WPD.seq ?_
  refine WPD.region ?_
  refine Ops.go (O.box (v := .agg #[_, _]) I rfl rfl ?_)
  intro b1 w I
  refine Ops.go (O.alloc I Try.zeroValue40 rfl ?_)
  intro b2 w I
  refine Ops.go (O.alloc I Try.zeroValue4 rfl ?_)
  intro b3 w I
  refine Ops.nil ?_
  refine WPD.scopeL (σ := LevS) 0 (fun s => [(1, .pointer (some ⟨b1, 0, none⟩)), (2, .pointer (some ⟨b2, 0, none⟩)), (3, .pointer (some ⟨b3, 0, none⟩)), (4, .pointer (some ⟨s.b4, 0, none⟩))]) (fun s => s.ms.map mark)
    (LevJ B b3 b2 b1 p (usesL p.rules.xs)) (fun s => pot p.preds.xs.length s.L) rfl (by kernel_rfl) ?_ ?_
  · refine WPD.region ?_
    refine Ops.y (v := .pointer (some ⟨_, _, none⟩)) (Y.fa0 fa_25_0 rfl) ?_
    refine Ops.y (v := .slice _ _ _) (Y.loadv ty_22 rfl (I.rdbox 2 rfl 0 1) rfl rfl) ?_
    refine Ops.y (v := .int .i64 _) (Y.lens Try.underlying22 rfl) ?_
    refine Ops.go (O.make1 (n := p.preds.xs.length) (zc := (vI 0)) I Try.underlying40 et_3 rfl rfl rfl (by omega) (by omega) ?_)
    intro b11 w I
    refine Ops.go (O.alloc I Try.zeroValue40 rfl ?_)
    intro b4 w I
    refine Ops.go (O.store (v := .slice _ _ _) I ty_40 0 rfl rfl rfl rfl rfl rfl (Nat.le_of_ble_eq_true rfl) rfl ?_)
    intro w I
    refine Ops.nil ?_
    refine ⟨⟨b11, b4, List.replicate p.preds.xs.length 0, []⟩, ⟨rfl, rfl, rfl, rfl, trivial⟩, rfl, ⟨⟨B.h, Heap.le.refl _, ?_⟩, Good.zero _ _, fun i h0 h1 => by rw [lv_zero]; omega⟩⟩
    simp only [List.map_nil, List.append_nil, LevU, List.map_replicate]
    exact I
  · rintro ⟨bo, b4, L, ms⟩ e w ⟨⟨h1, gl1, I⟩, g, hlt⟩
    dsimp only at I g hlt ⊢
    refine WPD.seq ?_
    refine WPD.seq ?_
    refine WPD.region ?_
    refine Ops.y (v := .agg #[_, _]) (Y.loadv ty_25 rfl (I.rdbox 4 rfl 0 2) rfl rfl) ?_
    refine Ops.go (O.call I Try.call80 (uses_ok _ I.base_ok p) rfl ?_)
    rintro _ h2 w I le2 ⟨bp, rfl, hbp⟩
    refine Ops.nil ?_
    refine WPD.block ?_
    refine WPD.rangeFunc (σ := List Int) (LevU ⟨bo, b4, L, ms⟩ b3 b2 b1 p) (fun k L' => L' = L ∧ ∀ j, j < k → ∀ c, (usesL p.rules.xs)[j]? = some c → SatC L c) (LevJx (usesL p.rules.xs) p.preds.xs.length L) L I ⟨rfl, fun j hj => by omega⟩ rfl Try.call102
      (uses1_iter p bp h2 hbp (hp.rules.le (gl1.trans le2))) (fun _ => rfl) (by kernel_rfl) (by kernel_rfl) (by kernel_rfl) ?_ ?_ ?_
    · rintro l r ms' hg k c L' W hx gl I ⟨hL, hsat⟩
      obtain rfl : L = L' := hL.symm
      have hc := List.mem_of_getElem? hx
      have hh := hr.h c hc
      have hb := hr.b c hc
      have hlb := hlt _ hb.1 hb.2
      have hpb := g.pos c.2.atom.pred
      have hng := ng_le c.2
      have hlst : lst L c = lv L c.2.atom.pred + ng c.2 := rfl
      refine WPI.seq ?_
      refine WPI.region (by kernel_rfl) ?_
      refine Ops.y (v := .int .i64 _) (Y.assign rfl) ?_
      refine Ops.nil ?_
      refine WPI.region (by kernel_rfl) ?_
      refine Ops.go (O.alloc I Try.zeroValue65 rfl ?_)
      intro b6 w I
      refine Ops.go (O.store (v := .agg #[_, _, _]) I ty_65 0 rfl rfl rfl rfl rfl rfl (Nat.le_of_ble_eq_true rfl) rfl ?_)
      intro w I
      refine Ops.nil ?_
      refine ⟨hg, [box b6 c.2.enc 65], Heap.le.refl _, I, fun r' W2 I => ?_⟩
      refine WPI.block ?_
      refine WPI.seq ?_
      refine WPI.region (by kernel_rfl) ?_
      refine Ops.y (v := .slice _ _ _) (Y.loadv ty_40 rfl (I.rdbox 1 rfl 0 1) rfl rfl) ?_
      refine Ops.y (v := .pointer (some ⟨_, _, none⟩)) (Y.fa fa_65_1 rfl) ?_
      refine Ops.y (v := .pointer (some ⟨_, _, none⟩)) (Y.fa0 fa_46_0 rfl) ?_
      refine Ops.y (v := .int .i64 _) (Y.loadv ty_3 rfl (I.rdbox 0 rfl 1 1) rfl rfl) ?_
      refine Ops.y (v := .pointer (some ⟨_, _, none⟩)) (Y.idx Try.underlying40 Try.sizeOf3 rfl rfl hb.1 hb.2) ?_
      refine Ops.y (v := .int .i64 _) (Y.loadv ty_3 rfl (I.rdL 2 rfl (by omega) (lv_some g.len hb.1 hb.2)) rfl rfl) ?_
      refine Ops.y (v := .int .i64 _) (Y.assign rfl) ?_
      refine Ops.nil ?_
      refine WPI.seq ?_
      refine WPI.cutL (σ := Unit) (fun _ => [(1, .pointer (some ⟨b1, 0, none⟩)), (2, .pointer (some ⟨b2, 0, none⟩)), (3, .pointer (some ⟨b3, 0, none⟩)), (4, .pointer (some ⟨b4, 0, none⟩)), (5, .int .i64 c.1), (6, .pointer (some ⟨b6, 0, none⟩)), (7, .int .i64 (lst L c))])
        (fun _ w => Inv B hg ([box b6 c.2.enc 65] ++ (LevU ⟨bo, b4, L, ms⟩ b3 b2 b1 p L ++ (loopSA l r' :: ms'.map markSA))) w) ?_ ?_
      · refine WPI.seq ?_
        refine WPI.region (by kernel_rfl) ?_
        refine Ops.y (v := .pointer (some ⟨_, _, none⟩)) (Y.fa0 fa_65_0 rfl) ?_
        refine Ops.y (v := .bool _) (Y.loadv ty_4 rfl (I.rdbox 0 rfl 0 1) rfl rfl) ?_
        refine Ops.nil ?_
        refine WPI.cond rfl (fun hneg => ?_) (fun hneg => ?_)
        · refine WPI.region (by kernel_rfl) ?_
          refine Ops.y (v := .int .i64 _) (Y.move rfl) ?_
          refine Ops.y (v := .int .i64 _) (Y.addi rfl rfl ⟨by omega, by omega⟩) ?_
          refine Ops.y (v := .int .i64 _) (Y.assign rfl) ?_
          refine Ops.nil ?_
          exact ⟨(), ⟨rfl, rfl, rfl, rfl, rfl, rfl, by simp only [lst, ng, hneg]; rfl, trivial⟩, I⟩
        · refine WPI.skip ?_
          exact ⟨(), ⟨rfl, rfl, rfl, rfl, rfl, rfl, by simp only [lst, ng, hneg, Bool.false_eq_true, if_false, Int.add_zero]; rfl, trivial⟩, I⟩
      rintro _ e W2 I
      refine WPI.seq ?_
      refine WPI.seq ?_
      refine WPI.region (by kernel_rfl) ?_
      refine Ops.y (v := .int .i64 _) (Y.move rfl) ?_
      refine Ops.y (v := .slice _ _ _) (Y.loadv ty_40 rfl (I.rdbox 1 rfl 0 1) rfl rfl) ?_
      refine Ops.y (v := .int .i64 _) (Y.move rfl) ?_
      refine Ops.y (v := .pointer (some ⟨_, _, none⟩)) (Y.idx Try.underlying40 Try.sizeOf3 rfl rfl hh.1 hh.2) ?_
      refine Ops.y (v := .int .i64 _) (Y.loadv ty_3 rfl (I.rdL 2 rfl (by omega) (lv_some g.len hh.1 hh.2)) rfl rfl) ?_
      refine Ops.y (v := .bool (decide _)) (Y.lei rfl rfl) ?_
      refine Ops.nil ?_
      refine WPI.cond_dec rfl (fun h8 => ?_) (fun h8 => ?_)
      · refine WPI.exit ?_
        exact ⟨hg, L, [box b6 c.2.enc 65], Heap.le.refl _, I, rfl, fun j hj c' hc' => by
          rcases Nat.lt_succ_iff_lt_or_eq.1 hj with h' | rfl
          · exact hsat j h' c' hc'
          · rw [hx] at hc'; cases hc'; exact h8⟩
      refine WPI.skip ?_
      refine WPI.seq ?_
      refine WPI.seq ?_
      refine WPI.region (by kernel_rfl) ?_
      refine Ops.y (v := .int .i64 _) (Y.move rfl) ?_
      refine Ops.y (v := .pointer (some ⟨_, _, none⟩)) (Y.fa0 fa_25_0 rfl) ?_
      refine Ops.y (v := .slice _ _ _) (Y.loadv ty_22 rfl (I.rdbox 5 rfl 0 1) rfl rfl) ?_
      refine Ops.y (v := .int .i64 _) (Y.lens Try.underlying22 rfl) ?_
      refine Ops.y (v := .bool (decide _)) (Y.gei rfl rfl) ?_
      refine Ops.nil ?_
      refine WPI.cond_dec rfl (fun h9 => ?_) (fun h9 => ?_)
      · refine WPI.seq ?_
        refine WPI.region (by kernel_rfl) ?_
        refine Ops.go (O.store (v := .slice _ _ _) I ty_40 4 rfl rfl rfl rfl rfl rfl (Nat.le_of_ble_eq_true rfl) rfl ?_)
        intro w I
        refine Ops.go (O.store (v := .bool _) I ty_4 3 rfl rfl rfl rfl rfl rfl (Nat.le_of_ble_eq_true rfl) rfl ?_)
        intro w I
        refine Ops.nil ?_
        refine WPI.ret ?_
        repeat (first | refine thenE_ret ?_ | refine blockE_ret ?_)
        exact ⟨hg, L, [box b6 c.2.enc 65], Heap.le.refl _, I, rfl, g.fail hr hc h9⟩
      refine WPI.skip ?_
      refine WPI.seq ?_
      refine WPI.region (by kernel_rfl) ?_
      refine Ops.y (v := .slice _ _ _) (Y.loadv ty_40 rfl (I.rdbox 1 rfl 0 1) rfl rfl) ?_
      refine Ops.y (v := .int .i64 _) (Y.move rfl) ?_
      refine Ops.y (v := .int .i64 _) (Y.move rfl) ?_
      refine Ops.y (v := .pointer (some ⟨_, _, none⟩)) (Y.idx Try.underlying40 Try.sizeOf3 rfl rfl hh.1 hh.2) ?_
      refine Ops.go (O.store1 I ty_3 2 rfl rfl (i := c.1.toNat) (by omega) (by rw [g.len]; omega) rfl rfl rfl ?_)
      intro w I
      refine Ops.nil ?_
      refine WPI.goto ?_
      exact ⟨hg, L.set c.1.toNat (lst L c), [box b6 c.2.enc 65], Heap.le.refl _, I, rfl, c, hc, rfl, by omega, by omega⟩
    · rintro D h3 L' W gl I ⟨hL, hsat⟩
      obtain rfl : L = L' := hL.symm
      refine WPD.seq ?_
      refine WPD.region ?_
      refine Ops.y (v := .slice _ _ _) (Y.loadv ty_40 rfl (I.rdbox 0 rfl 0 1) rfl rfl) ?_
      refine Ops.go (O.store (v := .slice _ _ _) I ty_40 3 rfl rfl rfl rfl rfl rfl (Nat.le_of_ble_eq_true rfl) rfl ?_)
      intro w I
      refine Ops.go (O.store (v := .bool _) I ty_4 2 rfl rfl rfl rfl rfl rfl (Nat.le_of_ble_eq_true rfl) rfl ?_)
      intro w I
      refine Ops.nil ?_
      refine WPD.ret ?_
      repeat (first | refine thenD_ret ?_ | refine blockD_ret ?_)
      have hbo := I.at 1 rfl
      obtain ⟨h4, le4, hb4, I⟩ := (I.front 1 rfl).settle
      have hs : ∀ c ∈ usesL p.rules.xs, SatC L c := fun c hc => by
        obtain ⟨j, hj, rfl⟩ := List.getElem_of_mem hc
        exact hsat j hj _ (List.getElem?_eq_getElem hj)
      show doneQ _ _ _ _ _ _ _ _
      exact ⟨.inl rfl, D :: ms, [box b4 [.slice (some ⟨bo, 0, none⟩) p.preds.xs.length p.preds.xs.length] 40, box b3 [.bool true] 4, box b2 [.slice (some ⟨bo, 0, none⟩) p.preds.xs.length p.preds.xs.length] 40, box b1 p.enc 25], h4,
        [.slice (some ⟨bo, 0, none⟩) p.preds.xs.length p.preds.xs.length, .bool true], rfl, I, fun w2 I2 => ⟨⟨b2, 0, 1, false, _, rfl, ty_40, I2.rdbox 2 rfl 0 1, rfl, rfl⟩, ⟨b3, 0, 1, false, _, rfl, ty_4, I2.rdbox 1 rfl 0 1, rfl, rfl⟩, trivial⟩,
        .inl ⟨⟨some ⟨bo, 0, none⟩, p.preds.xs.length, L⟩, g.done hs, boxIs ((hb4 bo (by simp [box])).trans hbo) (by rw [g.len]; omega), by simp [tup, Sl.val, g.len]⟩⟩
    · rintro D c h3 L' W gl I hx
      cases c with
      | ret =>
        obtain ⟨hL, hno⟩ := hx
        obtain rfl : L = L' := hL.symm
        refine blockD_ret (thenD_ret ?_)
        show doneQ _ _ _ _ _ _ _ _
        exact ⟨.inl rfl, D :: ms, LevU ⟨bo, b4, L, ms⟩ b3 b2 b1 p L, h3, [.slice none 0 0, .bool false], rfl, I, fun w2 I2 => ⟨⟨b2, 0, 1, false, _, rfl, ty_40, I2.rdbox 3 rfl 0 1, rfl, rfl⟩, ⟨b3, 0, 1, false, _, rfl, ty_4, I2.rdbox 2 rfl 0 1, rfl, rfl⟩, trivial⟩, .inr ⟨hno, rfl⟩⟩
      | goto t =>
        obtain ⟨rfl, c, hc, rfl, k1, k2⟩ := hx
        have hh := hr.h c hc
        exact (show (0 = 0 ∧ _) from ⟨rfl, ⟨bo, b4, L.set c.1.toNat (lst L c), D :: ms⟩, ⟨⟨rfl, rfl, rfl, rfl, trivial⟩, rfl, ⟨⟨h3, (gl1.trans le2).trans gl, I⟩, g.raise hr hc, fun i h0 h1 => by
          rw [lv_set hh.1 (by rw [g.len]; exact hh.2) _ _ h0]; split
          · exact k2
          · exact hlt i h0 h1⟩⟩, pot_set_lt hh.1 (by rw [g.len]; exact hh.2) k1 (hlt _ hh.1 hh.2)⟩)
      | exit id => exact hx.elim
end Go.TF
end
section
/- strata, of the document: the same strata. -/
namespace Go.TF
open Go Go.RowKit Go.Proofs
set_option maxRecDepth 20000

theorem usesL_take' {rs : List Rul} {m : Nat} (hm : m < rs.length) : usesL (rs.take (m + 1)) = usesL (rs.take m) ++ (rs[m].body.xs.take rs[m].body.xs.length).map fun x => (rs[m].head.pred, x) := by
  rw [List.take_length]; exact usesL_take hm
theorem usesL_mem {rs : List Rul} {m : Nat} (hm : m < rs.length) {k : Nat} (hk : k < rs[m].body.xs.length) : (rs[m].head.pred, rs[m].body.xs[k]) ∈ usesL rs := List.mem_of_getElem? (usesL_get hm hk)
theorem map_take {α β : Type} (f : α → β) {l : List α} {k : Nat} (hk : k < l.length) : (l.take (k + 1)).map f = (l.take k).map f ++ [f l[k]] := by
  rw [List.take_succ_eq_append_getElem hk, List.map_append]; rfl
set_option maxHeartbeats 4000000 in
theorem strata_ok (B : Base) (hB : B.ok) (p : Prg) (hp : p.In B.h) (hr : InR (usesL p.rules.xs) p.preds.xs.length) (hn5 : p.preds.xs.length ≤ 5) (hr8 : p.rules.xs.length ≤ 8) (hb3 : ∀ r ∈ p.rules.xs, r.body.xs.length ≤ 3) :
    Fn Try.prog 54 [p.val] B (fun v h => LevP (usesL p.rules.xs) p.preds.xs.length v h) := by
  obtain ⟨sq, hsq⟩ : ∃ sq : Int, sq = (p.preds.xs.length : Int) * p.preds.xs.length := ⟨_, rfl⟩
  have hsq0 : 0 ≤ sq ∧ sq ≤ 25 := by
    rw [hsq]
    have h5 : (p.preds.xs.length : Int) ≤ 5 := by omega
    exact ⟨Int.mul_nonneg (by omega) (by omega), by have := Int.mul_le_mul h5 h5 (by omega) (by omega); omega⟩
  have hsqN : ((p.preds.xs.length * p.preds.xs.length : Nat) : Int) = sq := by rw [hsq]; exact Int.natCast_mul _ _
  refine Fn.of Try.func54 rfl Try.ntmps54 (by kernel_rfl) (by simp) ?_
  intro e
  have I := Inv.start hB
  refine WP.seq ?_
  refine WP.region ?_
  refine Ops.go (O.box (v := .agg #[_, _]) I rfl rfl ?_)
  intro b1 w I
  refine Ops.y (v := .slice _ _ _) (Y.assign rfl) ?_
  refine Ops.y (v := .bool _) (Y.assign rfl) ?_
  refine Ops.nil ?_
  refine WP.seq ?_
  refine WP.region ?_
  refine Ops.y (v := .pointer (some ⟨_, _, none⟩)) (Y.fa0 fa_25_0 rfl) ?_
  refine Ops.y (v := .slice _ _ _) (Y.loadv ty_22 rfl (I.rdbox 0 rfl 0 1) rfl rfl) ?_
  refine Ops.y (v := .int .i64 _) (Y.lens Try.underlying22 rfl) ?_
  refine Ops.go (O.make1 (n := p.preds.xs.length) (zc := (vI 0)) I Try.underlying40 et_3 rfl rfl rfl (by omega) (by omega) ?_)
  intro b14 w I
  refine Ops.y (v := .slice _ _ _) (Y.assign rfl) ?_
  refine Ops.nil ?_
  refine WP.seq ?_
  refine WP.seq ?_
  refine WP.region ?_
  refine Ops.y (v := .int .i64 _) (Y.assign rfl) ?_
  refine Ops.nil ?_
  rw [← List.map_replicate (f := vI)] at I
  refine WP.block ?_
  refine WP.loopE (σ := Nat × List Int) (fun s => [(1, .pointer (some ⟨b1, 0, none⟩)), (2, .slice none 0 0), (3, .bool false), (4, .slice (some ⟨b14, 0, none⟩) p.preds.xs.length p.preds.xs.length), (5, .int .i64 s.1)])
    (fun s w => Inv B B.h [box b14 (s.2.map vI) 3, box b1 p.enc 25] w ∧ Good (usesL p.rules.xs) p.preds.xs.length s.2 ∧ (∀ i, lv s.2 i ≤ 24 * s.1) ∧ ((∃ M, Sol (usesL p.rules.xs) p.preds.xs.length M) → pot p.preds.xs.length s.2 + s.1 ≤ p.preds.xs.length * p.preds.xs.length) ∧ s.1 ≤ sq + 2)
    (fun s => (sq + 3 - s.1).toNat) ⟨(0, List.replicate p.preds.xs.length 0), ⟨rfl, rfl, rfl, rfl, rfl, trivial⟩, I, Good.zero _ _, fun i => by rw [lv_zero]; omega, fun _ => by rw [pot_zero]; omega, by omega⟩ ?_
  rintro ⟨rd, L⟩ e w ⟨I, g, hbd, hpot, hrd⟩
  dsimp only at I g hbd hpot hrd ⊢
  refine WP.seq ?_
  refine WP.seq ?_
  refine WP.region ?_
  refine Ops.y (v := .int .i64 _) (Y.move rfl) ?_
  refine Ops.y (v := .pointer (some ⟨_, _, none⟩)) (Y.fa0 fa_25_0 rfl) ?_
  refine Ops.y (v := .slice _ _ _) (Y.loadv ty_22 rfl (I.rdbox 1 rfl 0 1) rfl rfl) ?_
  refine Ops.y (v := .int .i64 _) (Y.lens Try.underlying22 rfl) ?_
  refine Ops.y (v := .pointer (some ⟨_, _, none⟩)) (Y.fa0 fa_25_0 rfl) ?_
  refine Ops.y (v := .slice _ _ _) (Y.loadv ty_22 rfl (I.rdbox 1 rfl 0 1) rfl rfl) ?_
  refine Ops.y (v := .int .i64 _) (Y.lens Try.underlying22 rfl) ?_
  refine Ops.y (v := .int .i64 _) (Y.muli rfl rfl (by rw [← hsq]; exact ⟨by omega, by omega⟩)) ?_
  refine Ops.y (v := .int .i64 _) (Y.addi rfl rfl (by rw [← hsq]; exact ⟨by omega, by omega⟩)) ?_
  refine Ops.y (v := .bool (decide _)) (Y.lei rfl rfl) ?_
  refine Ops.nil ?_
  refine WP.cond_dec rfl (fun h3 => ?_) (fun h3 => ?_)
  · rw [← hsq] at h3
    refine WP.skip ?_
    refine WP.seq ?_
    refine WP.block ?_
    refine WP.seq ?_
    refine WP.region ?_
    refine Ops.y (v := .bool _) (Y.assign rfl) ?_
    refine Ops.nil ?_
    refine WP.seq ?_
    refine WP.seq ?_
    refine WP.region ?_
    refine Ops.y (v := .int .i64 _) (Y.assign rfl) ?_
    refine Ops.nil ?_
    refine WP.block ?_
    refine WP.loopE (σ := Nat × Bool × List Int) (fun s => [(1, .pointer (some ⟨b1, 0, none⟩)), (2, .slice none 0 0), (3, .bool false), (4, .slice (some ⟨b14, 0, none⟩) p.preds.xs.length p.preds.xs.length), (5, .int .i64 rd), (6, .bool s.2.1), (7, .int .i64 s.1)])
      (fun s w => Inv B B.h [box b14 (s.2.2.map vI) 3, box b1 p.enc 25] w ∧ s.1 ≤ p.rules.xs.length ∧ Pass (usesL p.rules.xs) p.preds.xs.length L s.2.1 s.2.2 (usesL (p.rules.xs.take s.1)) ∧ ∀ i, lv s.2.2 i ≤ 24 * rd + 3 * s.1)
      (fun s => p.rules.xs.length - s.1) ⟨(0, true, L), ⟨rfl, rfl, rfl, rfl, rfl, rfl, rfl, trivial⟩, I, Nat.zero_le _, Pass.start g, fun i => by have := hbd i; dsimp only; omega⟩ ?_
    rintro ⟨m, same, L1⟩ e w ⟨I, hm, pa, hb1⟩
    dsimp only at I hm pa hb1 ⊢
    refine WP.seq ?_
    refine WP.seq ?_
    refine WP.region ?_
    refine Ops.y (v := .int .i64 _) (Y.move rfl) ?_
    refine Ops.y (v := .pointer (some ⟨_, _, none⟩)) (Y.fa fa_25_1 rfl) ?_
    refine Ops.y (v := .slice _ _ _) (Y.loadv ty_23 rfl (I.rdbox 1 rfl 1 1) rfl rfl) ?_
    refine Ops.y (v := .int .i64 _) (Y.lens Try.underlying23 rfl) ?_
    refine Ops.y (v := .bool (decide _)) (Y.lti rfl rfl) ?_
    refine Ops.nil ?_
    refine WP.cond_dec rfl (fun h7 => ?_) (fun h7 => ?_)
    · have hm' : m < p.rules.xs.length := by omega
      have E1 := hp.rules.is.at hm'
      have hbd2 := (hp.rules.each _ (List.getElem_mem hm')).body
      have hb3' := hb3 _ (List.getElem_mem hm')
      refine WP.skip ?_
      refine WP.seq ?_
      refine WP.block ?_
      refine WP.seq ?_
      refine WP.region ?_
      refine Ops.y (v := .pointer (some ⟨_, _, none⟩)) (Y.fa fa_25_1 rfl) ?_
      refine Ops.y (v := .slice _ _ _) (Y.loadv ty_23 rfl (I.rdbox 1 rfl 1 1) rfl rfl) ?_
      refine Ops.y (v := .int .i64 _) (Y.move rfl) ?_
      refine Ops.y (v := .pointer (some ⟨_, _, none⟩)) (Y.idxEl E1 Try.underlying23 Try.sizeOf49 rfl rfl (Int.natCast_nonneg _) rfl) ?_
      refine Ops.y (v := .agg #[_, _, _, _, _]) (Y.loadv ty_49 rfl (I.rd (E1.rd.part 0 5)) rfl rfl) ?_
      refine Ops.go (O.alloc I Try.zeroValue49 rfl ?_)
      intro b8 w I
      refine Ops.go (O.store (v := .agg #[_, _, _, _, _]) I ty_49 0 rfl rfl rfl rfl rfl rfl (Nat.le_of_ble_eq_true rfl) rfl ?_)
      intro w I
      refine Ops.nil ?_
      refine WP.seq ?_
      refine WP.region ?_
      refine Ops.y (v := .int .i64 _) (Y.assign rfl) ?_
      refine Ops.nil ?_
      refine WP.block ?_
      refine WP.loopE (σ := Nat × Bool × List Int) (fun s => [(1, .pointer (some ⟨b1, 0, none⟩)), (2, .slice none 0 0), (3, .bool false), (4, .slice (some ⟨b14, 0, none⟩) p.preds.xs.length p.preds.xs.length), (5, .int .i64 rd), (6, .bool s.2.1), (7, .int .i64 m), (8, .pointer (some ⟨b8, 0, none⟩)), (9, .int .i64 s.1)])
        (fun s w => Inv B B.h [box b8 p.rules.xs[m].enc 49, box b14 (s.2.2.map vI) 3, box b1 p.enc 25] w ∧ s.1 ≤ p.rules.xs[m].body.xs.length ∧ Pass (usesL p.rules.xs) p.preds.xs.length L s.2.1 s.2.2 (usesL (p.rules.xs.take m) ++ (p.rules.xs[m].body.xs.take s.1).map fun x => (p.rules.xs[m].head.pred, x)) ∧ ∀ i, lv s.2.2 i ≤ 24 * rd + 3 * m + s.1)
        (fun s => p.rules.xs[m].body.xs.length - s.1) ⟨(0, same, L1), ⟨rfl, rfl, rfl, rfl, rfl, rfl, rfl, rfl, rfl, trivial⟩, I, Nat.zero_le _, by simpa using pa, fun i => by have := hb1 i; dsimp only; omega⟩ ?_
      rintro ⟨k, same2, L2⟩ e w ⟨I, hk, pa2, hb2⟩
      dsimp only at I hk pa2 hb2 ⊢
      refine WP.seq ?_
      refine WP.seq ?_
      refine WP.region ?_
      refine Ops.y (v := .int .i64 _) (Y.move rfl) ?_
      refine Ops.y (v := .pointer (some ⟨_, _, none⟩)) (Y.fa fa_49_3 rfl) ?_
      refine Ops.y (v := .slice _ _ _) (Y.loadv ty_47 rfl (I.rdbox 0 rfl 4 1) rfl rfl) ?_
      refine Ops.y (v := .int .i64 _) (Y.lens Try.underlying47 rfl) ?_
      refine Ops.y (v := .bool (decide _)) (Y.lti rfl rfl) ?_
      refine Ops.nil ?_
      refine WP.cond_dec rfl (fun h11 => ?_) (fun h11 => ?_)
      · have hk' : k < p.rules.xs[m].body.xs.length := by omega
        have E2 := hbd2.is.at hk'
        have hmem := usesL_mem hm' hk'
        have hh := hr.h _ hmem
        have hb := hr.b _ hmem
        dsimp only at hh hb
        have g2 := pa2.good
        have hlb := hb2 p.rules.xs[m].body.xs[k].atom.pred
        have hpb := g2.pos p.rules.xs[m].body.xs[k].atom.pred
        have hng := ng_le p.rules.xs[m].body.xs[k]
        have hlst : lst L2 (p.rules.xs[m].head.pred, p.rules.xs[m].body.xs[k]) = lv L2 p.rules.xs[m].body.xs[k].atom.pred + ng p.rules.xs[m].body.xs[k] := rfl
        refine WP.skip ?_
        refine WP.seq ?_
        refine WP.block ?_
        refine WP.seq ?_
        refine WP.region ?_
        refine Ops.y (v := .slice _ _ _) (Y.move rfl) ?_
        refine Ops.y (v := .pointer (some ⟨_, _, none⟩)) (Y.fa fa_49_3 rfl) ?_
        refine Ops.y (v := .slice _ _ _) (Y.loadv ty_47 rfl (I.rdbox 0 rfl 4 1) rfl rfl) ?_
        refine Ops.y (v := .int .i64 _) (Y.move rfl) ?_
        refine Ops.y (v := .pointer (some ⟨_, _, none⟩)) (Y.idxEl E2 Try.underlying47 Try.sizeOf65 rfl rfl (Int.natCast_nonneg _) rfl) ?_
        refine Ops.y (v := .pointer (some ⟨_, _, none⟩)) (Y.fa fa_65_1 rfl) ?_
        refine Ops.y (v := .pointer (some ⟨_, _, none⟩)) (Y.fa0 fa_46_0 rfl) ?_
        refine Ops.y (v := .int .i64 _) (Y.loadv ty_3 rfl (I.rd (E2.rd.part 1 1)) rfl rfl) ?_
        refine Ops.y (v := .pointer (some ⟨_, _, none⟩)) (Y.idx Try.underlying40 Try.sizeOf3 rfl rfl hb.1 hb.2) ?_
        refine Ops.y (v := .int .i64 _) (Y.loadv ty_3 rfl (I.rdL 1 rfl (by omega) (lv_some g2.len hb.1 hb.2)) rfl rfl) ?_
        refine Ops.y (v := .int .i64 _) (Y.assign rfl) ?_
        refine Ops.nil ?_
        refine WP.seq ?_
        refine WP.cutL (σ := Unit) (fun _ => [(1, .pointer (some ⟨b1, 0, none⟩)), (2, .slice none 0 0), (3, .bool false), (4, .slice (some ⟨b14, 0, none⟩) p.preds.xs.length p.preds.xs.length), (5, .int .i64 rd), (6, .bool same2), (7, .int .i64 m), (8, .pointer (some ⟨b8, 0, none⟩)), (9, .int .i64 k), (10, .int .i64 (lst L2 (p.rules.xs[m].head.pred, p.rules.xs[m].body.xs[k])))])
          (fun _ w => Inv B B.h [box b8 p.rules.xs[m].enc 49, box b14 (L2.map vI) 3, box b1 p.enc 25] w) ?_ ?_
        · refine WP.seq ?_
          refine WP.region ?_
          refine Ops.y (v := .pointer (some ⟨_, _, none⟩)) (Y.fa fa_49_3 rfl) ?_
          refine Ops.y (v := .slice _ _ _) (Y.loadv ty_47 rfl (I.rdbox 0 rfl 4 1) rfl rfl) ?_
          refine Ops.y (v := .int .i64 _) (Y.move rfl) ?_
          refine Ops.y (v := .pointer (some ⟨_, _, none⟩)) (Y.idxEl E2 Try.underlying47 Try.sizeOf65 rfl rfl (Int.natCast_nonneg _) rfl) ?_
          refine Ops.y (v := .pointer (some ⟨_, _, none⟩)) (Y.fa0 fa_65_0 rfl) ?_
          refine Ops.y (v := .bool _) (Y.loadv ty_4 rfl (I.rd (E2.rd.part 0 1)) rfl rfl) ?_
          refine Ops.nil ?_
          refine WP.cond rfl (fun hneg => ?_) (fun hneg => ?_)
          · refine WP.region ?_
            refine Ops.y (v := .int .i64 _) (Y.move rfl) ?_
            refine Ops.y (v := .int .i64 _) (Y.addi rfl rfl ⟨by omega, by omega⟩) ?_
            refine Ops.y (v := .int .i64 _) (Y.assign rfl) ?_
            refine Ops.nil ?_
            exact ⟨(), ⟨rfl, rfl, rfl, rfl, rfl, rfl, rfl, rfl, rfl, by simp only [lst, ng, hneg]; rfl, trivial⟩, I⟩
          · refine WP.skip ?_
            exact ⟨(), ⟨rfl, rfl, rfl, rfl, rfl, rfl, rfl, rfl, rfl, by simp only [lst, ng, hneg, Bool.false_eq_true, if_false, Int.add_zero]; rfl, trivial⟩, I⟩
        rintro _ e w I
        refine WP.seq ?_
        refine WP.region ?_
        refine Ops.y (v := .slice _ _ _) (Y.move rfl) ?_
        refine Ops.y (v := .pointer (some ⟨_, _, none⟩)) (Y.fa0 fa_49_0 rfl) ?_
        refine Ops.y (v := .pointer (some ⟨_, _, none⟩)) (Y.fa0 fa_46_0 rfl) ?_
        refine Ops.y (v := .int .i64 _) (Y.loadv ty_3 rfl (I.rdbox 0 rfl 0 1) rfl rfl) ?_
        refine Ops.y (v := .pointer (some ⟨_, _, none⟩)) (Y.idx Try.underlying40 Try.sizeOf3 rfl rfl hh.1 hh.2) ?_
        refine Ops.y (v := .int .i64 _) (Y.loadv ty_3 rfl (I.rdL 1 rfl (by omega) (lv_some g2.len hh.1 hh.2)) rfl rfl) ?_
        refine Ops.y (v := .int .i64 _) (Y.move rfl) ?_
        refine Ops.y (v := .bool (decide _)) (Y.lti rfl rfl) ?_
        refine Ops.nil ?_
        refine WP.cond_dec rfl (fun h16 => ?_) (fun h16 => ?_)
        · refine WP.seq ?_
          refine WP.region ?_
          refine Ops.y (v := .slice _ _ _) (Y.move rfl) ?_
          refine Ops.y (v := .pointer (some ⟨_, _, none⟩)) (Y.fa0 fa_49_0 rfl) ?_
          refine Ops.y (v := .pointer (some ⟨_, _, none⟩)) (Y.fa0 fa_46_0 rfl) ?_
          refine Ops.y (v := .int .i64 _) (Y.loadv ty_3 rfl (I.rdbox 0 rfl 0 1) rfl rfl) ?_
          refine Ops.y (v := .int .i64 _) (Y.move rfl) ?_
          refine Ops.y (v := .pointer (some ⟨_, _, none⟩)) (Y.idx Try.underlying40 Try.sizeOf3 rfl rfl hh.1 hh.2) ?_
          refine Ops.go (O.store1 I ty_3 1 rfl rfl (i := p.rules.xs[m].head.pred.toNat) (by omega) (by rw [g2.len]; omega) rfl rfl rfl ?_)
          intro w I
          refine Ops.nil ?_
          refine WP.region ?_
          refine Ops.y (v := .bool _) (Y.assign rfl) ?_
          refine Ops.nil ?_
          refine WP.region ?_
          refine Ops.y (v := .int .i64 _) (Y.move rfl) ?_
          refine Ops.y (v := .int .i64 _) (Y.addi rfl rfl ⟨by omega, by omega⟩) ?_
          refine Ops.y (v := .int .i64 _) (Y.assign rfl) ?_
          refine Ops.nil ?_
          exact ⟨(k + 1, false, L2.set p.rules.xs[m].head.pred.toNat (lst L2 (p.rules.xs[m].head.pred, p.rules.xs[m].body.xs[k]))), ⟨⟨rfl, rfl, rfl, rfl, rfl, rfl, rfl, rfl, rfl, trivial⟩, I, hk', by rw [map_take _ hk', ← List.append_assoc]; exact pa2.raise hr hmem h16, fun i => by have := bound_raise hr g2.len hb2 hmem i; dsimp only at this ⊢; omega⟩, by dsimp only; omega⟩
        · refine WP.skip ?_
          refine WP.region ?_
          refine Ops.y (v := .int .i64 _) (Y.move rfl) ?_
          refine Ops.y (v := .int .i64 _) (Y.addi rfl rfl ⟨by omega, by omega⟩) ?_
          refine Ops.y (v := .int .i64 _) (Y.assign rfl) ?_
          refine Ops.nil ?_
          exact ⟨(k + 1, same2, L2), ⟨⟨rfl, rfl, rfl, rfl, rfl, rfl, rfl, rfl, rfl, trivial⟩, I, hk', by rw [map_take _ hk', ← List.append_assoc]; exact pa2.keep h16, fun i => by have := hb2 i; dsimp only at this ⊢; omega⟩, by dsimp only; omega⟩
      · refine WP.exit ?_
        refine WP.region ?_
        refine Ops.y (v := .int .i64 _) (Y.move rfl) ?_
        refine Ops.y (v := .int .i64 _) (Y.addi rfl rfl ⟨by omega, by omega⟩) ?_
        refine Ops.y (v := .int .i64 _) (Y.assign rfl) ?_
        refine Ops.nil ?_
        have hke : k = p.rules.xs[m].body.xs.length := by omega
        exact ⟨(m + 1, same2, L2), ⟨⟨rfl, rfl, rfl, rfl, rfl, rfl, rfl, trivial⟩, I.drop, hm', by rw [usesL_take' hm', ← hke]; exact pa2, fun i => by have := hb2 i; dsimp only at this ⊢; omega⟩, by dsimp only; omega⟩
    · have hme : m = p.rules.xs.length := by omega
      rw [hme, List.take_length] at pa
      refine WP.exit ?_
      refine WP.seq ?_
      refine WP.region ?_
      refine Ops.y (v := .bool _) (Y.move rfl) ?_
      refine Ops.nil ?_
      refine WP.cond rfl (fun hs => ?_) (fun hs => ?_)
      · refine WP.seq ?_
        refine WP.region ?_
        refine Ops.y (v := .slice _ _ _) (Y.move rfl) ?_
        refine Ops.y (v := .slice _ _ _) (Y.assign rfl) ?_
        refine Ops.y (v := .bool _) (Y.assign rfl) ?_
        refine Ops.nil ?_
        obtain ⟨hL, hsat⟩ := pa.t hs
        have hbo := I.at 0 rfl
        obtain ⟨h4, le4, hb4, I⟩ := I.settle
        refine WP.ret ?_
        repeat (first | refine thenE_ret ?_ | refine blockE_ret ?_)
        exact retQ.mk (vs := [.slice _ _ _, .bool _]) rfl ⟨rfl, rfl, trivial⟩ I.ext_of (.inl ⟨⟨some ⟨b14, 0, none⟩, p.preds.xs.length, L1⟩, pa.good.done (by rw [hL]; exact hsat), boxIs ((hb4 b14 (by simp [box])).trans hbo) (by rw [pa.good.len]; omega), by simp [tup, Sl.val, pa.good.len]⟩)
      · refine WP.skip ?_
        refine WP.region ?_
        refine Ops.y (v := .int .i64 _) (Y.move rfl) ?_
        refine Ops.y (v := .int .i64 _) (Y.addi rfl rfl ⟨by omega, by omega⟩) ?_
        refine Ops.y (v := .int .i64 _) (Y.assign rfl) ?_
        refine Ops.nil ?_
        refine ⟨(rd + 1, L1), ⟨⟨rfl, rfl, rfl, rfl, rfl, trivial⟩, I, pa.good, fun i => by have := hb1 i; dsimp only at this ⊢; omega, fun hsol => by have h5 := pa.f hs hsol; have h6 := hpot hsol; dsimp only; omega, by dsimp only; omega⟩, by dsimp only; omega⟩
  · rw [← hsq] at h3
    refine WP.exit ?_
    refine WP.seq ?_
    refine WP.region ?_
    refine Ops.y (v := .slice _ _ _) (Y.assign rfl) ?_
    refine Ops.y (v := .bool _) (Y.assign rfl) ?_
    refine Ops.nil ?_
    refine WP.ret ?_
    repeat (first | refine thenE_ret ?_ | refine blockE_ret ?_)
    exact retQ.mk (vs := [.slice _ _ _, .bool _]) rfl ⟨rfl, rfl, trivial⟩ I.ext_of (.inr ⟨fun M hM => by have := hpot ⟨M, hM⟩; omega, rfl⟩)
end Go.TF
end
section
/- Names; sameness of lists; predicates that programs are checked by. -/
namespace Go.TF
open Go Go.RowKit Go.Proofs
set_option maxRecDepth 20000

theorem bget {s : ByteArray} {k : Nat} (h : k < s.size) : s[((k : Int)).toNat]? = some (s[k]'h) := by simp [h]
theorem low_iff (b : UInt8) : lowB b = true ↔ 97 ≤ b.toNat ∧ b.toNat ≤ 122 := by simp [lowB]
theorem all_low {s : ByteArray} (h : ∀ j, ∀ hj : j < s.size, lowB (s[j]'hj) = true) : s.data.toList.all lowB = true := by
  rw [List.all_eq_true]
  intro b hb
  obtain ⟨j, hj, rfl⟩ := List.getElem_of_mem hb
  exact h j (by simpa using hj)
theorem not_low {s : ByteArray} {j : Nat} (hj : j < s.size) (h : lowB (s[j]'hj) ≠ true) : s.data.toList.all lowB = false := by
  rw [List.all_eq_false]
  exact ⟨s[j]'hj, List.mem_iff_getElem.2 ⟨j, by simpa using hj, rfl⟩, h⟩
theorem IsName_ok (B : Base) (hB : B.ok) (s : ByteArray) (hs : s.size ≤ 140737488355328) : Fn Try.prog 52 [.string s] B (fun v _ => v = .bool (isName s)) := by
  refine Fn.of Try.func52 rfl Try.ntmps52 (by kernel_rfl) (by simp) ?_
  intro e
  have I := Inv.start hB
  refine WP.seq ?_
  refine WP.region ?_
  refine Ops.y (v := .bool _) (Y.assign rfl) ?_
  refine Ops.nil ?_
  refine WP.seq ?_
  refine WP.seq ?_
  refine WP.region ?_
  refine Ops.y (v := .int .i64 _) (Y.assign rfl) ?_
  refine Ops.nil ?_
  refine WP.block ?_
  refine WP.loopE (σ := Nat) (fun k => [(0, .string s), (3, .int .i64 k)]) (fun k w => Inv B B.h [] w ∧ k ≤ s.size ∧ ∀ j, j < k → ∀ hj : j < s.size, lowB (s[j]'hj) = true) (fun k => s.size - k)
    ⟨0, ⟨rfl, rfl, trivial⟩, I, Nat.zero_le _, fun j hj => by omega⟩ ?_
  rintro k e w ⟨I, hk, hn⟩
  refine WP.seq ?_
  refine WP.seq ?_
  refine WP.region ?_
  refine Ops.y (v := .int .i64 _) (Y.move rfl) ?_
  refine Ops.y (v := .string _) (Y.move rfl) ?_
  refine Ops.y (v := .int .i64 _) (Y.lenstr Try.underlying9 rfl) ?_
  refine Ops.y (v := .bool (decide _)) (Y.lti rfl rfl) ?_
  refine Ops.nil ?_
  refine WP.cond_dec rfl (fun h => ?_) (fun h => ?_)
  · have hk' : k < s.size := by omega
    refine WP.skip ?_
    refine WP.seq ?_
    refine WP.block ?_
    refine WP.seq ?_
    by_cases o0 : ((s[k]'hk').toNat : Int) < 97
    · refine WP.region ?_
      refine Ops.y (v := .string _) (Y.move rfl) ?_
      refine Ops.y (v := .int .i64 _) (Y.move rfl) ?_
      refine Ops.y (v := .int .u8 _) (Y.idxs Try.underlying9 rfl rfl (Int.natCast_nonneg _) (bget hk')) ?_
      refine Ops.y (v := .bool true) (Y.dec_t (Y.lti rfl rfl) (o0)) ?_
      refine Ops.y (v := .bool _) (Y.move rfl) ?_
      refine Ops.gf rfl ?_
      refine Ops.gf rfl ?_
      refine Ops.gf rfl ?_
      refine Ops.gf rfl ?_
      refine Ops.y (v := .bool _) (Y.pick_t rfl rfl) ?_
      refine Ops.nil ?_
      refine WP.cond_t rfl ?_
      refine WP.seq ?_
      refine WP.region ?_
      refine Ops.y (v := .bool _) (Y.assign rfl) ?_
      refine Ops.nil ?_
      refine WP.ret ?_
      repeat (first | refine thenE_ret ?_ | refine blockE_ret ?_)
      exact retQ.mk (vs := [.bool _]) rfl ⟨rfl, trivial⟩ I.ext_of (by simp only [tup, isName]; rw [not_low hk' (fun hl => by have := (low_iff _).1 hl; omega), Bool.and_false])
    by_cases o1 : 122 < ((s[k]'hk').toNat : Int)
    · refine WP.region ?_
      refine Ops.y (v := .string _) (Y.move rfl) ?_
      refine Ops.y (v := .int .i64 _) (Y.move rfl) ?_
      refine Ops.y (v := .int .u8 _) (Y.idxs Try.underlying9 rfl rfl (Int.natCast_nonneg _) (bget hk')) ?_
      refine Ops.y (v := .bool false) (Y.dec_f (Y.lti rfl rfl) (o0)) ?_
      refine Ops.y (v := .bool _) (Y.move rfl) ?_
      refine Ops.ygt rfl (v := .string _) (Y.move rfl) ?_
      refine Ops.ygt rfl (v := .int .i64 _) (Y.move rfl) ?_
      refine Ops.ygt rfl (v := .int .u8 _) (Y.idxs Try.underlying9 rfl rfl (Int.natCast_nonneg _) (bget hk')) ?_
      refine Ops.ygt rfl (v := .bool true) (Y.dec_t (Y.gti rfl rfl) (o1)) ?_
      refine Ops.y (v := .bool _) (Y.pick_f rfl rfl) ?_
      refine Ops.nil ?_
      refine WP.cond_t rfl ?_
      refine WP.seq ?_
      refine WP.region ?_
      refine Ops.y (v := .bool _) (Y.assign rfl) ?_
      refine Ops.nil ?_
      refine WP.ret ?_
      repeat (first | refine thenE_ret ?_ | refine blockE_ret ?_)
      exact retQ.mk (vs := [.bool _]) rfl ⟨rfl, trivial⟩ I.ext_of (by simp only [tup, isName]; rw [not_low hk' (fun hl => by have := (low_iff _).1 hl; omega), Bool.and_false])
    refine WP.region ?_
    refine Ops.y (v := .string _) (Y.move rfl) ?_
    refine Ops.y (v := .int .i64 _) (Y.move rfl) ?_
    refine Ops.y (v := .int .u8 _) (Y.idxs Try.underlying9 rfl rfl (Int.natCast_nonneg _) (bget hk')) ?_
    refine Ops.y (v := .bool false) (Y.dec_f (Y.lti rfl rfl) (o0)) ?_
    refine Ops.y (v := .bool _) (Y.move rfl) ?_
    refine Ops.ygt rfl (v := .string _) (Y.move rfl) ?_
    refine Ops.ygt rfl (v := .int .i64 _) (Y.move rfl) ?_
    refine Ops.ygt rfl (v := .int .u8 _) (Y.idxs Try.underlying9 rfl rfl (Int.natCast_nonneg _) (bget hk')) ?_
    refine Ops.ygt rfl (v := .bool false) (Y.dec_f (Y.gti rfl rfl) (o1)) ?_
    refine Ops.y (v := .bool _) (Y.pick_f rfl rfl) ?_
    refine Ops.nil ?_
    refine WP.cond_f rfl ?_
    refine WP.skip ?_
    refine WP.region ?_
    refine Ops.y (v := .int .i64 _) (Y.move rfl) ?_
    refine Ops.y (v := .int .i64 _) (Y.addi rfl rfl ⟨by omega, by omega⟩) ?_
    refine Ops.y (v := .int .i64 _) (Y.assign rfl) ?_
    refine Ops.nil ?_
    exact ⟨k + 1, ⟨⟨rfl, rfl, trivial⟩, I, hk', fun j hj hj' => by
      rcases Nat.lt_succ_iff_lt_or_eq.1 hj with h' | rfl
      · exact hn j h' hj'
      · exact (low_iff _).2 (by omega)⟩, by omega⟩
  refine WP.exit ?_
  refine WP.seq ?_
  refine WP.region ?_
  refine Ops.y (v := .string _) (Y.move rfl) ?_
  refine Ops.y (v := .int .i64 _) (Y.lenstr Try.underlying9 rfl) ?_
  refine Ops.go (O.callv I Try.call27 (within_ok _ I.base_ok _ _ _) rfl ?_)
  intro w I
  refine Ops.y (v := .bool _) (Y.assign rfl) ?_
  refine Ops.nil ?_
  refine WP.ret ?_
  repeat (first | refine thenE_ret ?_ | refine blockE_ret ?_)
  exact retQ.mk (vs := [.bool _]) rfl ⟨rfl, trivial⟩ I.ext_of (by simp only [tup, isName, within]; rw [all_low (fun j hj => hn j (by omega) hj), Bool.and_true, ← Bool.decide_and]; congr 2; apply propext; omega)
theorem Name1_ok (B : Base) (hB : B.ok) (r : Int) : Fn Try.prog 76 [.int .i32 r] B (fun v _ => v = .bool (decide (r < 97 ∨ 122 < r))) := by
  by_cases h : r < 97
  · refine Fn.of Try.func76 rfl Try.ntmps76 (by kernel_rfl) (by simp) ?_
    intro e
    have I := Inv.start hB
    refine WP.seq ?_
    refine WP.region ?_
    refine Ops.y (v := .bool _) (Y.assign rfl) ?_
    refine Ops.nil ?_
    refine WP.seq ?_
    refine WP.region ?_
    refine Ops.y (v := .int .i32 _) (Y.move rfl) ?_
    refine Ops.y (v := .bool true) (Y.dec_t (Y.lti rfl rfl) (h)) ?_
    refine Ops.y (v := .bool _) (Y.move rfl) ?_
    refine Ops.gf rfl ?_
    refine Ops.gf rfl ?_
    refine Ops.y (v := .bool _) (Y.pick_t rfl rfl) ?_
    refine Ops.y (v := .bool _) (Y.assign rfl) ?_
    refine Ops.nil ?_
    refine WP.ret ?_
    repeat (first | refine thenE_ret ?_ | refine blockE_ret ?_)
    exact retQ.mk (vs := [.bool _]) rfl ⟨rfl, trivial⟩ I.ext_of (by simp only [tup]; rw [decide_eq_true (Or.inl h)])
  · refine Fn.of Try.func76 rfl Try.ntmps76 (by kernel_rfl) (by simp) ?_
    intro e
    have I := Inv.start hB
    refine WP.seq ?_
    refine WP.region ?_
    refine Ops.y (v := .bool _) (Y.assign rfl) ?_
    refine Ops.nil ?_
    refine WP.seq ?_
    refine WP.region ?_
    refine Ops.y (v := .int .i32 _) (Y.move rfl) ?_
    refine Ops.y (v := .bool false) (Y.dec_f (Y.lti rfl rfl) (h)) ?_
    refine Ops.y (v := .bool _) (Y.move rfl) ?_
    refine Ops.ygt rfl (v := .int .i32 _) (Y.move rfl) ?_
    refine Ops.ygt rfl (v := .bool (decide _)) (Y.gti rfl rfl) ?_
    refine Ops.y (v := .bool _) (Y.pick_f rfl rfl) ?_
    refine Ops.y (v := .bool _) (Y.assign rfl) ?_
    refine Ops.nil ?_
    refine WP.ret ?_
    repeat (first | refine thenE_ret ?_ | refine blockE_ret ?_)
    exact retQ.mk (vs := [.bool _]) rfl ⟨rfl, trivial⟩ I.ext_of (by simp only [tup]; congr 1; rw [decide_eq_decide]; omega)
/-- What indexFunc hands back: not negative, just if a byte is no low letter. -/
def IdxP (s : ByteArray) (v : Value) : Prop := ∃ r : Int, v = .int .i64 r ∧ decide (0 ≤ r) = !(s.data.toList.all lowB)
theorem indexFunc_ok (B : Base) (hB : B.ok) (s : ByteArray) : Fn Try.prog 116 [.string s, .func (.func 76) #[] #[], .bool true] B (fun v _ => IdxP s v) := by
  refine Fn.of Try.func116 rfl Try.ntmps116 (by kernel_rfl) (by simp) ?_
  intro e
  have I := Inv.start hB
  refine WP.seq ?_
  refine WP.region ?_
  refine Ops.y (v := .int .i64 _) (Y.assign rfl) ?_
  refine Ops.nil ?_
  refine WP.seq ?_
  refine WP.seq ?_
  refine WP.region ?_
  refine Ops.y (v := .string _) (Y.move rfl) ?_
  refine Ops.go (O.ranges I Try.underlying9 rfl ?_)
  intro b10 w I
  refine Ops.nil ?_
  refine WP.block ?_
  refine WP.loopE (σ := Nat) (fun _ => [(0, .string s), (1, .func (.func 76) #[] #[]), (2, .bool true), (10, .pointer (some ⟨b10, 0, none⟩))]) (fun k w => Inv B B.h [sit b10 s k] w ∧ k ≤ s.size ∧ ∀ j, j < k → ∀ hj : j < s.size, lowB (s[j]'hj) = true) (fun k => s.size - k)
    ⟨0, ⟨rfl, rfl, rfl, rfl, trivial⟩, I, Nat.zero_le _, fun j hj => by omega⟩ ?_
  rintro k e w ⟨I, hk, hn⟩
  refine WP.seq ?_
  refine WP.region ?_
  refine Ops.go (O.nexts I 0 rfl rfl ?_ ?_)
  · intro hend
    refine Ops.y (v := .bool _) (Y.extract rfl rfl) ?_
    refine Ops.nil ?_
    refine WP.seq ?_
    refine WP.cond_f rfl ?_
    refine WP.exit ?_
    refine WP.seq ?_
    refine WP.region ?_
    refine Ops.y (v := .int .i64 _) (Y.assign rfl) ?_
    refine Ops.nil ?_
    refine WP.ret ?_
    repeat (first | refine thenE_ret ?_ | refine blockE_ret ?_)
    exact retQ.mk (vs := [.int .i64 _]) rfl ⟨rfl, trivial⟩ I.ext_of (⟨-1, rfl, by rw [all_low (fun j hj => hn j (by omega) hj)]; rfl⟩)
  · intro hlt w I
    refine Ops.y (v := .bool _) (Y.extract rfl rfl) ?_
    refine Ops.nil ?_
    refine WP.seq ?_
    refine WP.cond_t rfl ?_
    refine WP.skip ?_
    refine WP.block ?_
    refine WP.seq ?_
    refine WP.region ?_
    refine Ops.y (v := .int .i64 _) (Y.extract rfl rfl) ?_
    refine Ops.y (v := .int .i32 _) (Y.extract rfl rfl) ?_
    refine Ops.y (v := .int .i64 _) (Y.assign rfl) ?_
    refine Ops.y (v := .int .i32 _) (Y.assign rfl) ?_
    refine Ops.nil ?_
    by_cases ha : (s[k]'hlt).toNat < 128
    · rw [decode_ascii s k hlt ha] at I ⊢
      by_cases hlow : lowB (s[k]'hlt) = true
      · have hl := (low_iff _).1 hlow
        refine WP.seq ?_
        refine WP.region ?_
        refine Ops.y (v := .func _ _ _) (Y.move rfl) ?_
        refine Ops.y (v := .int .i32 _) (Y.move rfl) ?_
        refine Ops.go (O.callcv I Try.call76 (fs := []) (cs := []) rfl (Name1_ok _ I.base_ok _) rfl ?_)
        intro w I
        refine Ops.y (v := .bool _) (Y.move rfl) ?_
        refine Ops.y (v := .bool false) (Y.dec_f (Y.eqb Try.underlying4 rfl rfl) ((by rw [decide_eq_false (by omega)]; decide))) ?_
        refine Ops.nil ?_
        refine WP.cond_f rfl ?_
        refine WP.skip ?_
        exact ⟨k + 1, ⟨⟨rfl, rfl, rfl, rfl, trivial⟩, I, hlt, fun j hj hj' => by
          rcases Nat.lt_succ_iff_lt_or_eq.1 hj with h' | rfl
          · exact hn j h' hj'
          · exact hlow⟩, by omega⟩
      · have hl : ¬ (97 ≤ (s[k]'hlt).toNat ∧ (s[k]'hlt).toNat ≤ 122) := fun h => hlow ((low_iff _).2 h)
        refine WP.seq ?_
        refine WP.region ?_
        refine Ops.y (v := .func _ _ _) (Y.move rfl) ?_
        refine Ops.y (v := .int .i32 _) (Y.move rfl) ?_
        refine Ops.go (O.callcv I Try.call76 (fs := []) (cs := []) rfl (Name1_ok _ I.base_ok _) rfl ?_)
        intro w I
        refine Ops.y (v := .bool _) (Y.move rfl) ?_
        refine Ops.y (v := .bool true) (Y.dec_t (Y.eqb Try.underlying4 rfl rfl) ((by rw [decide_eq_true (by omega)]))) ?_
        refine Ops.nil ?_
        refine WP.cond_t rfl ?_
        refine WP.seq ?_
        refine WP.region ?_
        refine Ops.y (v := .int .i64 _) (Y.move rfl) ?_
        refine Ops.y (v := .int .i64 _) (Y.assign rfl) ?_
        refine Ops.nil ?_
        refine WP.ret ?_
        repeat (first | refine thenE_ret ?_ | refine blockE_ret ?_)
        exact retQ.mk (vs := [.int .i64 _]) rfl ⟨rfl, trivial⟩ I.ext_of (⟨k, rfl, by rw [not_low hlt hlow]; simp⟩)
    · have hd := decode_high s k hlt (by omega)
      refine WP.seq ?_
      refine WP.region ?_
      refine Ops.y (v := .func _ _ _) (Y.move rfl) ?_
      refine Ops.y (v := .int .i32 _) (Y.move rfl) ?_
      refine Ops.go (O.callcv I Try.call76 (fs := []) (cs := []) rfl (Name1_ok _ I.base_ok _) rfl ?_)
      intro w I
      refine Ops.y (v := .bool _) (Y.move rfl) ?_
      refine Ops.y (v := .bool true) (Y.dec_t (Y.eqb Try.underlying4 rfl rfl) ((by rw [decide_eq_true (by omega)]))) ?_
      refine Ops.nil ?_
      refine WP.cond_t rfl ?_
      refine WP.seq ?_
      refine WP.region ?_
      refine Ops.y (v := .int .i64 _) (Y.move rfl) ?_
      refine Ops.y (v := .int .i64 _) (Y.assign rfl) ?_
      refine Ops.nil ?_
      refine WP.ret ?_
      repeat (first | refine thenE_ret ?_ | refine blockE_ret ?_)
      exact retQ.mk (vs := [.int .i64 _]) rfl ⟨rfl, trivial⟩ I.ext_of (⟨k, rfl, by rw [not_low hlt (fun h => by have := (low_iff _).1 h; omega)]; simp⟩)
theorem SIndexFunc_ok (B : Base) (hB : B.ok) (s : ByteArray) : Fn Try.prog 100 [.string s, .func (.func 76) #[] #[]] B (fun v _ => IdxP s v) := by
  refine Fn.of Try.func100 rfl Try.ntmps100 (by kernel_rfl) (by simp) ?_
  intro e
  have I := Inv.start hB
  refine WP.seq ?_
  refine WP.region ?_
  refine Ops.y (v := .int .i64 _) (Y.assign rfl) ?_
  refine Ops.nil ?_
  refine WP.seq ?_
  refine WP.region ?_
  refine Ops.y (v := .string _) (Y.move rfl) ?_
  refine Ops.y (v := .func _ _ _) (Y.move rfl) ?_
  refine Ops.go (O.call I Try.call116 (indexFunc_ok _ I.base_ok s) rfl ?_)
  rintro _ h2 w I le2 ⟨r, rfl, hr⟩
  refine Ops.y (v := .int .i64 _) (Y.assign rfl) ?_
  refine Ops.nil ?_
  refine WP.ret ?_
  repeat (first | refine thenE_ret ?_ | refine blockE_ret ?_)
  exact retQ.mk (vs := [.int .i64 _]) rfl ⟨rfl, trivial⟩ I.ext_of (⟨r, rfl, hr⟩)
theorem SContainsFunc_ok (B : Base) (hB : B.ok) (s : ByteArray) : Fn Try.prog 75 [.string s, .func (.func 76) #[] #[]] B (fun v _ => v = .bool !(s.data.toList.all lowB)) := by
  refine Fn.of Try.func75 rfl Try.ntmps75 (by kernel_rfl) (by simp) ?_
  intro e
  have I := Inv.start hB
  refine WP.seq ?_
  refine WP.region ?_
  refine Ops.y (v := .bool _) (Y.assign rfl) ?_
  refine Ops.nil ?_
  refine WP.seq ?_
  refine WP.region ?_
  refine Ops.y (v := .string _) (Y.move rfl) ?_
  refine Ops.y (v := .func _ _ _) (Y.move rfl) ?_
  refine Ops.go (O.call I Try.call100 (SIndexFunc_ok _ I.base_ok s) rfl ?_)
  rintro _ h2 w I le2 ⟨r, rfl, hr⟩
  refine Ops.y (v := .bool (decide _)) (Y.gei rfl rfl) ?_
  refine Ops.y (v := .bool _) (Y.assign rfl) ?_
  refine Ops.nil ?_
  refine WP.ret ?_
  repeat (first | refine thenE_ret ?_ | refine blockE_ret ?_)
  exact retQ.mk (vs := [.bool _]) rfl ⟨rfl, trivial⟩ I.ext_of (by simp only [tup]; rw [hr])
theorem Name_ok (B : Base) (hB : B.ok) (s : ByteArray) (hs : s.size ≤ 140737488355328) : Fn Try.prog 45 [.string s] B (fun v _ => v = .bool (isName s)) := by
  by_cases h1 : (0 : Int) < s.size
  · by_cases h2 : (s.size : Int) ≤ 8
    · refine Fn.of Try.func45 rfl Try.ntmps45 (by kernel_rfl) (by simp) ?_
      intro e
      have I := Inv.start hB
      refine WP.seq ?_
      refine WP.region ?_
      refine Ops.y (v := .bool _) (Y.assign rfl) ?_
      refine Ops.nil ?_
      refine WP.seq ?_
      refine WP.region ?_
      refine Ops.y (v := .string _) (Y.move rfl) ?_
      refine Ops.y (v := .int .i64 _) (Y.lenstr Try.underlying9 rfl) ?_
      refine Ops.y (v := .bool true) (Y.dec_t (Y.gti rfl rfl) (h1)) ?_
      refine Ops.y (v := .bool _) (Y.move rfl) ?_
      refine Ops.ygt rfl (v := .string _) (Y.move rfl) ?_
      refine Ops.ygt rfl (v := .int .i64 _) (Y.lenstr Try.underlying9 rfl) ?_
      refine Ops.ygt rfl (v := .bool true) (Y.dec_t (Y.lei rfl rfl) (h2)) ?_
      refine Ops.y (v := .bool _) (Y.pick_t rfl rfl) ?_
      refine Ops.y (v := .bool _) (Y.move rfl) ?_
      refine Ops.ygt rfl (v := .string _) (Y.move rfl) ?_
      refine Ops.gt rfl (O.callv I Try.call75 (SContainsFunc_ok _ I.base_ok s) rfl ?_)
      intro w I
      refine Ops.ygt rfl (v := .bool _) (Y.not rfl) ?_
      refine Ops.y (v := .bool _) (Y.pick_t rfl rfl) ?_
      refine Ops.y (v := .bool _) (Y.assign rfl) ?_
      refine Ops.nil ?_
      refine WP.ret ?_
      repeat (first | refine thenE_ret ?_ | refine blockE_ret ?_)
      exact retQ.mk (vs := [.bool _]) rfl ⟨rfl, trivial⟩ I.ext_of (by simp only [tup, isName]; rw [decide_eq_true (show 1 ≤ s.size by omega), decide_eq_true (show s.size ≤ 8 by omega)]; simp)
    · refine Fn.of Try.func45 rfl Try.ntmps45 (by kernel_rfl) (by simp) ?_
      intro e
      have I := Inv.start hB
      refine WP.seq ?_
      refine WP.region ?_
      refine Ops.y (v := .bool _) (Y.assign rfl) ?_
      refine Ops.nil ?_
      refine WP.seq ?_
      refine WP.region ?_
      refine Ops.y (v := .string _) (Y.move rfl) ?_
      refine Ops.y (v := .int .i64 _) (Y.lenstr Try.underlying9 rfl) ?_
      refine Ops.y (v := .bool true) (Y.dec_t (Y.gti rfl rfl) (h1)) ?_
      refine Ops.y (v := .bool _) (Y.move rfl) ?_
      refine Ops.ygt rfl (v := .string _) (Y.move rfl) ?_
      refine Ops.ygt rfl (v := .int .i64 _) (Y.lenstr Try.underlying9 rfl) ?_
      refine Ops.ygt rfl (v := .bool false) (Y.dec_f (Y.lei rfl rfl) (h2)) ?_
      refine Ops.y (v := .bool _) (Y.pick_t rfl rfl) ?_
      refine Ops.y (v := .bool _) (Y.move rfl) ?_
      refine Ops.gf rfl ?_
      refine Ops.gf rfl ?_
      refine Ops.gf rfl ?_
      refine Ops.y (v := .bool _) (Y.pick_f rfl rfl) ?_
      refine Ops.y (v := .bool _) (Y.assign rfl) ?_
      refine Ops.nil ?_
      refine WP.ret ?_
      repeat (first | refine thenE_ret ?_ | refine blockE_ret ?_)
      exact retQ.mk (vs := [.bool _]) rfl ⟨rfl, trivial⟩ I.ext_of (by simp only [tup, isName]; rw [decide_eq_false (show ¬ s.size ≤ 8 by omega)]; simp)
  · refine Fn.of Try.func45 rfl Try.ntmps45 (by kernel_rfl) (by simp) ?_
    intro e
    have I := Inv.start hB
    refine WP.seq ?_
    refine WP.region ?_
    refine Ops.y (v := .bool _) (Y.assign rfl) ?_
    refine Ops.nil ?_
    refine WP.seq ?_
    refine WP.region ?_
    refine Ops.y (v := .string _) (Y.move rfl) ?_
    refine Ops.y (v := .int .i64 _) (Y.lenstr Try.underlying9 rfl) ?_
    refine Ops.y (v := .bool false) (Y.dec_f (Y.gti rfl rfl) (h1)) ?_
    refine Ops.y (v := .bool _) (Y.move rfl) ?_
    refine Ops.gf rfl ?_
    refine Ops.gf rfl ?_
    refine Ops.gf rfl ?_
    refine Ops.y (v := .bool _) (Y.pick_f rfl rfl) ?_
    refine Ops.y (v := .bool _) (Y.move rfl) ?_
    refine Ops.gf rfl ?_
    refine Ops.gf rfl ?_
    refine Ops.gf rfl ?_
    refine Ops.y (v := .bool _) (Y.pick_f rfl rfl) ?_
    refine Ops.y (v := .bool _) (Y.assign rfl) ?_
    refine Ops.nil ?_
    refine WP.ret ?_
    repeat (first | refine thenE_ret ?_ | refine blockE_ret ?_)
    exact retQ.mk (vs := [.bool _]) rfl ⟨rfl, trivial⟩ I.ext_of (by simp only [tup, isName]; rw [decide_eq_false (show ¬ 1 ≤ s.size by omega)]; simp)
end Go.TF
end
section
/- prog.Check. -/
namespace Go.TF
open Go Go.RowKit Go.Proofs
set_option maxRecDepth 20000

theorem Check2_ok (B : Base) (hB : B.ok) (x : Prd) (hx : x.name.size ≤ 140737488355328) : Fn Try.prog 44 [x.val] B (fun v _ => v = .bool !(isName x.name)) := by
  refine Fn.of Try.func44 rfl Try.ntmps44 (by kernel_rfl) (by simp) ?_
  intro e
  have I := Inv.start hB
  refine WP.seq ?_
  refine WP.region ?_
  refine Ops.go (O.box (v := .agg #[_, _, _]) I rfl rfl ?_)
  intro b1 w I
  refine Ops.y (v := .bool _) (Y.assign rfl) ?_
  refine Ops.nil ?_
  refine WP.seq ?_
  refine WP.region ?_
  refine Ops.y (v := .pointer (some ⟨_, _, none⟩)) (Y.fa0 fa_56_0 rfl) ?_
  refine Ops.y (v := .string _) (Y.loadv ty_9 rfl (I.rdbox 0 rfl 0 1) rfl rfl) ?_
  refine Ops.go (O.callv I Try.call45 (Name_ok _ I.base_ok x.name hx) rfl ?_)
  intro w I
  refine Ops.y (v := .bool _) (Y.not rfl) ?_
  refine Ops.y (v := .bool _) (Y.assign rfl) ?_
  refine Ops.nil ?_
  refine WP.ret ?_
  repeat (first | refine thenE_ret ?_ | refine blockE_ret ?_)
  exact retQ.mk (vs := [.bool _]) rfl ⟨rfl, trivial⟩ I.ext_of (rfl)
theorem Check4_ok (B : Base) (hB : B.ok) (x : Prd) : Fn Try.prog 47 [x.val] B (fun v _ => v = .bool (badArity x)) := by
  by_cases h : x.arity < 0
  · refine Fn.of Try.func47 rfl Try.ntmps47 (by kernel_rfl) (by simp) ?_
    intro e
    have I := Inv.start hB
    refine WP.seq ?_
    refine WP.region ?_
    refine Ops.go (O.box (v := .agg #[_, _, _]) I rfl rfl ?_)
    intro b1 w I
    refine Ops.y (v := .bool _) (Y.assign rfl) ?_
    refine Ops.nil ?_
    refine WP.seq ?_
    refine WP.region ?_
    refine Ops.y (v := .pointer (some ⟨_, _, none⟩)) (Y.fa fa_56_1 rfl) ?_
    refine Ops.y (v := .int .i64 _) (Y.loadv ty_3 rfl (I.rdbox 0 rfl 1 1) rfl rfl) ?_
    refine Ops.y (v := .bool true) (Y.dec_t (Y.lti rfl rfl) (h)) ?_
    refine Ops.y (v := .bool _) (Y.move rfl) ?_
    refine Ops.gf rfl ?_
    refine Ops.gf rfl ?_
    refine Ops.gf rfl ?_
    refine Ops.y (v := .bool _) (Y.pick_t rfl rfl) ?_
    refine Ops.y (v := .bool _) (Y.assign rfl) ?_
    refine Ops.nil ?_
    refine WP.ret ?_
    repeat (first | refine thenE_ret ?_ | refine blockE_ret ?_)
    exact retQ.mk (vs := [.bool _]) rfl ⟨rfl, trivial⟩ I.ext_of (by simp only [tup, badArity]; rw [decide_eq_true (Or.inl h)])
  · refine Fn.of Try.func47 rfl Try.ntmps47 (by kernel_rfl) (by simp) ?_
    intro e
    have I := Inv.start hB
    refine WP.seq ?_
    refine WP.region ?_
    refine Ops.go (O.box (v := .agg #[_, _, _]) I rfl rfl ?_)
    intro b1 w I
    refine Ops.y (v := .bool _) (Y.assign rfl) ?_
    refine Ops.nil ?_
    refine WP.seq ?_
    refine WP.region ?_
    refine Ops.y (v := .pointer (some ⟨_, _, none⟩)) (Y.fa fa_56_1 rfl) ?_
    refine Ops.y (v := .int .i64 _) (Y.loadv ty_3 rfl (I.rdbox 0 rfl 1 1) rfl rfl) ?_
    refine Ops.y (v := .bool false) (Y.dec_f (Y.lti rfl rfl) (h)) ?_
    refine Ops.y (v := .bool _) (Y.move rfl) ?_
    refine Ops.ygt rfl (v := .pointer (some ⟨_, _, none⟩)) (Y.fa fa_56_1 rfl) ?_
    refine Ops.ygt rfl (v := .int .i64 _) (Y.loadv ty_3 rfl (I.rdbox 0 rfl 1 1) rfl rfl) ?_
    refine Ops.ygt rfl (v := .bool (decide _)) (Y.gti rfl rfl) ?_
    refine Ops.y (v := .bool _) (Y.pick_f rfl rfl) ?_
    refine Ops.y (v := .bool _) (Y.assign rfl) ?_
    refine Ops.nil ?_
    refine WP.ret ?_
    repeat (first | refine thenE_ret ?_ | refine blockE_ret ?_)
    exact retQ.mk (vs := [.bool _]) rfl ⟨rfl, trivial⟩ I.ext_of (by simp only [tup, badArity]; congr 1; rw [decide_eq_decide]; omega)
theorem Check5_ok (B : Base) (hB : B.ok) (x : Prd) : Fn Try.prog 48 [x.val] B (fun v _ => v = .bool (badKind x)) := by
  by_cases h : x.kind < 0
  · refine Fn.of Try.func48 rfl Try.ntmps48 (by kernel_rfl) (by simp) ?_
    intro e
    have I := Inv.start hB
    refine WP.seq ?_
    refine WP.region ?_
    refine Ops.go (O.box (v := .agg #[_, _, _]) I rfl rfl ?_)
    intro b1 w I
    refine Ops.y (v := .bool _) (Y.assign rfl) ?_
    refine Ops.nil ?_
    refine WP.seq ?_
    refine WP.region ?_
    refine Ops.y (v := .pointer (some ⟨_, _, none⟩)) (Y.fa fa_56_2 rfl) ?_
    refine Ops.y (v := .int .i64 _) (Y.loadv ty_3 rfl (I.rdbox 0 rfl 2 1) rfl rfl) ?_
    refine Ops.y (v := .bool true) (Y.dec_t (Y.lti rfl rfl) (h)) ?_
    refine Ops.y (v := .bool _) (Y.move rfl) ?_
    refine Ops.gf rfl ?_
    refine Ops.gf rfl ?_
    refine Ops.gf rfl ?_
    refine Ops.y (v := .bool _) (Y.pick_t rfl rfl) ?_
    refine Ops.y (v := .bool _) (Y.assign rfl) ?_
    refine Ops.nil ?_
    refine WP.ret ?_
    repeat (first | refine thenE_ret ?_ | refine blockE_ret ?_)
    exact retQ.mk (vs := [.bool _]) rfl ⟨rfl, trivial⟩ I.ext_of (by simp only [tup, badKind]; rw [decide_eq_true (Or.inl h)])
  · refine Fn.of Try.func48 rfl Try.ntmps48 (by kernel_rfl) (by simp) ?_
    intro e
    have I := Inv.start hB
    refine WP.seq ?_
    refine WP.region ?_
    refine Ops.go (O.box (v := .agg #[_, _, _]) I rfl rfl ?_)
    intro b1 w I
    refine Ops.y (v := .bool _) (Y.assign rfl) ?_
    refine Ops.nil ?_
    refine WP.seq ?_
    refine WP.region ?_
    refine Ops.y (v := .pointer (some ⟨_, _, none⟩)) (Y.fa fa_56_2 rfl) ?_
    refine Ops.y (v := .int .i64 _) (Y.loadv ty_3 rfl (I.rdbox 0 rfl 2 1) rfl rfl) ?_
    refine Ops.y (v := .bool false) (Y.dec_f (Y.lti rfl rfl) (h)) ?_
    refine Ops.y (v := .bool _) (Y.move rfl) ?_
    refine Ops.ygt rfl (v := .pointer (some ⟨_, _, none⟩)) (Y.fa fa_56_2 rfl) ?_
    refine Ops.ygt rfl (v := .int .i64 _) (Y.loadv ty_3 rfl (I.rdbox 0 rfl 2 1) rfl rfl) ?_
    refine Ops.ygt rfl (v := .bool (decide _)) (Y.gti rfl rfl) ?_
    refine Ops.y (v := .bool _) (Y.pick_f rfl rfl) ?_
    refine Ops.y (v := .bool _) (Y.assign rfl) ?_
    refine Ops.nil ?_
    refine WP.ret ?_
    repeat (first | refine thenE_ret ?_ | refine blockE_ret ?_)
    exact retQ.mk (vs := [.bool _]) rfl ⟨rfl, trivial⟩ I.ext_of (by simp only [tup, badKind]; congr 1; rw [decide_eq_decide]; omega)
theorem PChk1_ok (B : Base) (hB : B.ok) (p : Prg) (b : Nat) (hb : PBox B.h b p) (hl : Prds p.preds B.h) (f : FuncId) (ent : Enters Try.prog f) (fs cs : List Value) (q : Prd → Bool) (hq : PredFn Try.prog f fs cs B.h Prd.val p.preds.xs q) :
    Fn Try.prog 42 [.func (.func f) fs.toArray cs.toArray, .pointer (some ⟨b, 0, none⟩)] B (fun v _ => v = .bool (p.preds.xs.any q)) := by
  refine Fn.of Try.func42 rfl Try.ntmps42 (by kernel_rfl) (by simp) ?_
  intro e
  have I := Inv.start hB
  refine WP.seq ?_
  refine WP.region ?_
  refine Ops.y (v := .bool _) (Y.assign rfl) ?_
  refine Ops.nil ?_
  refine WP.seq ?_
  refine WP.region ?_
  refine Ops.y (v := .pointer (some ⟨_, _, none⟩)) (Y.fa0 fa_25_0 rfl) ?_
  refine Ops.y (v := .slice _ _ _) (Y.loadv ty_22 rfl (I.rd (rdHb hb 0 1)) rfl rfl) ?_
  refine Ops.y (v := .func _ _ _) (Y.move rfl) ?_
  refine Ops.go (O.callv I Try.call43 (ContainsFuncPrd_ok _ I.base_ok p.preds hl f ent fs cs q hq) rfl ?_)
  intro w I
  refine Ops.y (v := .bool _) (Y.assign rfl) ?_
  refine Ops.nil ?_
  refine WP.ret ?_
  repeat (first | refine thenE_ret ?_ | refine blockE_ret ?_)
  exact retQ.mk (vs := [.bool _]) rfl ⟨rfl, trivial⟩ I.ext_of (rfl)

/-! ### A predicate that keeps something -/
theorem IndexFuncPrd_S (l : Sl Prd) (h0 : Heap) (hl : l.Is 3 Prd.enc h0) (f : FuncId) (ent : Enters Try.prog f) (fs cs : List Value) (J : Heap → Nat → World → Prop) (q : Nat → Bool)
    (hok : ∀ hg k W, J hg k W → Base.ok ⟨W, hg⟩)
    (hp : ∀ hg k x W, h0.le hg → l.xs[k]? = some x → J hg k W → Calls Try.prog f (fs ++ [x.val] ++ cs).toArray W fun ed W' => ed = .returned (.bool (q k)) ∧ ∃ hg', hg.le hg' ∧ J hg' (k + 1) W') (hg : Heap) (W : World) (hle : h0.le hg) (j0 : J hg 0 W) :
    Calls Try.prog 74 [l.val, .func (.func f) fs.toArray cs.toArray].toArray W (fun ed W' => ∃ r : Int, ed = .returned (.int .i64 r) ∧ decide (0 ≤ r) = (List.range l.xs.length).any q ∧ ∃ hg' k, hg.le hg' ∧ J hg' k W') := by
  have hsm := hl.small
  refine Calls.ofWP (args := [l.val, .func (.func f) fs.toArray cs.toArray]) Try.func74 rfl Try.ntmps74 (by kernel_rfl) (by simp) ?_
  intro e
  refine WP.seq ?_
  refine WP.region ?_
  refine Ops.y (v := .int .i64 _) (Y.assign rfl) ?_
  refine Ops.nil ?_
  refine WP.seq ?_
  refine WP.seq ?_
  refine WP.region ?_
  refine Ops.y (v := .slice _ _ _) (Y.move rfl) ?_
  refine Ops.y (v := .int .i64 _) (Y.lens Try.underlying22 rfl) ?_
  refine Ops.y (v := .int .i64 _) (Y.move rfl) ?_
  refine Ops.nil ?_
  refine WP.block ?_
  refine WP.loopE (σ := Nat) (fun k => [(0, l.val), (1, .func (.func f) fs.toArray cs.toArray), (7, .int .i64 l.xs.length), (8, .int .i64 k)]) (fun k w => k ≤ l.xs.length ∧ (∀ j, j < k → q j = false) ∧ ∃ h1, hg.le h1 ∧ J h1 k w) (fun k => l.xs.length - k)
    ⟨0, ⟨rfl, rfl, rfl, rfl, trivial⟩, Nat.zero_le _, fun j hj => by omega, hg, Heap.le.refl _, j0⟩ ?_
  rintro k e w ⟨hk, hn, h1, gl1, j1⟩
  have I := Inv.start (hok _ _ _ j1)
  refine WP.seq ?_
  refine WP.region ?_
  refine Ops.y (v := .bool (decide _)) (Y.lti rfl rfl) ?_
  refine Ops.nil ?_
  refine WP.seq ?_
  refine WP.cond_dec rfl (fun h => ?_) (fun h => ?_)
  · have hk' : k < l.xs.length := by omega
    have E1 := (hl.le (hle.trans gl1)).at hk'
    refine WP.skip ?_
    refine WP.seq ?_
    refine WP.block ?_
    refine WP.seq ?_
    refine WP.region ?_
    refine Ops.y (v := .int .i64 _) (Y.move rfl) ?_
    refine Ops.y (v := .int .i64 _) (Y.assign rfl) ?_
    refine Ops.nil ?_
    refine WP.seq ?_
    refine WP.region ?_
    refine Ops.y (v := .func _ _ _) (Y.move rfl) ?_
    refine Ops.y (v := .slice _ _ _) (Y.move rfl) ?_
    refine Ops.y (v := .int .i64 _) (Y.move rfl) ?_
    refine Ops.y (v := .pointer (some ⟨_, _, none⟩)) (Y.idxEl E1 Try.underlying22 Try.sizeOf56 rfl rfl (Int.natCast_nonneg _) rfl) ?_
    refine Ops.y (v := .agg #[_, _, _]) (Y.loadv ty_56 rfl (I.rd (E1.rd.part 0 3)) rfl rfl) ?_
    refine Ops.go (O.callcs ent rfl (hp h1 k _ _ (hle.trans gl1) (List.getElem?_eq_getElem hk') j1) rfl ?_)
    rintro ed w ⟨rfl, h2, gl2, j2⟩
    refine ⟨_, rfl, ?_⟩
    refine Ops.nil ?_
    refine WP.cond rfl (fun hb => ?_) (fun hb => ?_)
    · refine WP.seq ?_
      refine WP.region ?_
      refine Ops.y (v := .int .i64 _) (Y.move rfl) ?_
      refine Ops.y (v := .int .i64 _) (Y.assign rfl) ?_
      refine Ops.nil ?_
      refine WP.ret ?_
      repeat (first | refine thenE_ret ?_ | refine blockE_ret ?_)
      exact ⟨.inl rfl, [.int .i64 k], ⟨rfl, trivial⟩, k, rfl, by rw [decide_eq_true (Int.natCast_nonneg _)]; exact (List.any_eq_true.2 ⟨k, List.mem_range.2 hk', hb⟩).symm, h2, k + 1, gl1.trans gl2, j2⟩
    refine WP.skip ?_
    refine WP.region ?_
    refine Ops.y (v := .int .i64 _) (Y.addi rfl rfl ⟨by omega, by omega⟩) ?_
    refine Ops.y (v := .int .i64 _) (Y.move rfl) ?_
    refine Ops.nil ?_
    exact ⟨k + 1, ⟨⟨rfl, rfl, rfl, rfl, trivial⟩, hk', fun j hj => by
      rcases Nat.lt_succ_iff_lt_or_eq.1 hj with h' | rfl
      · exact hn j h'
      · exact hb, h2, gl1.trans gl2, j2⟩, by omega⟩
  refine WP.exit ?_
  refine WP.seq ?_
  refine WP.region ?_
  refine Ops.y (v := .int .i64 _) (Y.assign rfl) ?_
  refine Ops.nil ?_
  refine WP.ret ?_
  repeat (first | refine thenE_ret ?_ | refine blockE_ret ?_)
  exact ⟨.inl rfl, [.int .i64 (-1)], ⟨rfl, trivial⟩, -1, rfl, by
    rw [decide_eq_false (by omega)]
    symm
    rw [List.any_eq_false]
    intro j hj
    rw [hn j (by have := List.mem_range.1 hj; omega)]; decide, h1, k, gl1, j1⟩
theorem ContainsFuncPrd_S (l : Sl Prd) (h0 : Heap) (hl : l.Is 3 Prd.enc h0) (f : FuncId) (ent : Enters Try.prog f) (fs cs : List Value) (J : Heap → Nat → World → Prop) (q : Nat → Bool)
    (hok : ∀ hg k W, J hg k W → Base.ok ⟨W, hg⟩)
    (hp : ∀ hg k x W, h0.le hg → l.xs[k]? = some x → J hg k W → Calls Try.prog f (fs ++ [x.val] ++ cs).toArray W fun ed W' => ed = .returned (.bool (q k)) ∧ ∃ hg', hg.le hg' ∧ J hg' (k + 1) W') (hg : Heap) (W : World) (hle : h0.le hg) (j0 : J hg 0 W) :
    Calls Try.prog 43 [l.val, .func (.func f) fs.toArray cs.toArray].toArray W (fun ed W' => ed = .returned (.bool ((List.range l.xs.length).any q)) ∧ ∃ hg' k, hg.le hg' ∧ J hg' k W') := by
  refine Calls.ofWP (args := [l.val, .func (.func f) fs.toArray cs.toArray]) Try.func43 rfl Try.ntmps43 (by kernel_rfl) (by simp) ?_
  intro e
  have I := Inv.start (hok _ _ _ j0)
  refine WP.seq ?_
  refine WP.region ?_
  refine Ops.y (v := .bool _) (Y.assign rfl) ?_
  refine Ops.nil ?_
  refine WP.seq ?_
  refine WP.region ?_
  refine Ops.y (v := .slice _ _ _) (Y.move rfl) ?_
  refine Ops.y (v := .func _ _ _) (Y.move rfl) ?_
  refine Ops.go (O.calls Try.call74 (IndexFuncPrd_S l h0 hl f ent fs cs J q hok hp hg _ hle j0) rfl ?_)
  rintro ed w ⟨r, rfl, hr, h2, k, gl2, j2⟩
  refine ⟨_, rfl, ?_⟩
  refine Ops.y (v := .bool (decide _)) (Y.gei rfl rfl) ?_
  refine Ops.y (v := .bool _) (Y.assign rfl) ?_
  refine Ops.nil ?_
  refine WP.ret ?_
  repeat (first | refine thenE_ret ?_ | refine blockE_ret ?_)
  exact ⟨.inl rfl, [.bool _], ⟨rfl, trivial⟩, by rw [← hr]; rfl, h2, k, gl2, j2⟩
theorem Check1_S (p : Prg) (b : Nat) (h0 : Heap) (hb : PBox h0 b p) (hl : Prds p.preds h0) (f : FuncId) (ent : Enters Try.prog f) (fs cs : List Value) (J : Heap → Nat → World → Prop) (q : Nat → Bool)
    (hok : ∀ hg k W, J hg k W → Base.ok ⟨W, hg⟩)
    (hp : ∀ hg k x W, h0.le hg → p.preds.xs[k]? = some x → J hg k W → Calls Try.prog f (fs ++ [x.val] ++ cs).toArray W fun ed W' => ed = .returned (.bool (q k)) ∧ ∃ hg', hg.le hg' ∧ J hg' (k + 1) W') (hg : Heap) (W : World) (hle : h0.le hg) (j0 : J hg 0 W) :
    Calls Try.prog 42 [.func (.func f) fs.toArray cs.toArray, .pointer (some ⟨b, 0, none⟩)].toArray W (fun ed W' => ed = .returned (.bool ((List.range p.preds.xs.length).any q)) ∧ ∃ hg' k, hg.le hg' ∧ J hg' k W') := by
  refine Calls.ofWP (args := [.func (.func f) fs.toArray cs.toArray, .pointer (some ⟨b, 0, none⟩)]) Try.func42 rfl Try.ntmps42 (by kernel_rfl) (by simp) ?_
  intro e
  have I := Inv.start (hok _ _ _ j0)
  refine WP.seq ?_
  refine WP.region ?_
  refine Ops.y (v := .bool _) (Y.assign rfl) ?_
  refine Ops.nil ?_
  refine WP.seq ?_
  refine WP.region ?_
  refine Ops.y (v := .pointer (some ⟨_, _, none⟩)) (Y.fa0 fa_25_0 rfl) ?_
  refine Ops.y (v := .slice _ _ _) (Y.loadv ty_22 rfl (I.rd ((rdHb hb 0 1).le hle)) rfl rfl) ?_
  refine Ops.y (v := .func _ _ _) (Y.move rfl) ?_
  refine Ops.go (O.calls Try.call43 (ContainsFuncPrd_S p.preds h0 hl f ent fs cs J q hok hp hg _ hle j0) rfl ?_)
  rintro ed w ⟨rfl, h2, k, gl2, j2⟩
  refine ⟨_, rfl, ?_⟩
  refine Ops.y (v := .bool _) (Y.assign rfl) ?_
  refine Ops.nil ?_
  refine WP.ret ?_
  repeat (first | refine thenE_ret ?_ | refine blockE_ret ?_)
  exact ⟨.inl rfl, [.bool _], ⟨rfl, trivial⟩, rfl, h2, k, gl2, j2⟩
theorem Check3_S (B : Base) (h : Heap) (b4 bm : Nat) (es : List (ByteArray × Int)) (W : World) (I : Inv B h [box b4 [.map (some bm)] 94, smap bm es] W) (x : Prd) (hr : I64 ((slook es x.name).getD 0 + 1)) :
    Calls Try.prog 46 [x.val, .pointer (some ⟨b4, 0, none⟩)].toArray W (fun ed W' => ed = .returned (.bool (decide (1 < (slook es x.name).getD 0 + 1))) ∧ Inv B h [box b4 [.map (some bm)] 94, smap bm (sset es x.name ((slook es x.name).getD 0 + 1))] W') := by
  refine Calls.ofWP (args := [x.val, .pointer (some ⟨b4, 0, none⟩)]) Try.func46 rfl Try.ntmps46 (by kernel_rfl) (by simp) ?_
  intro e
  refine WP.seq ?_
  refine WP.region ?_
  refine Ops.go (O.box (v := .agg #[_, _, _]) I rfl rfl ?_)
  intro b2 w I
  refine Ops.y (v := .bool _) (Y.assign rfl) ?_
  refine Ops.nil ?_
  refine WP.seq ?_
  refine WP.region ?_
  refine Ops.y (v := .map _) (Y.loadv ty_94 rfl (I.rdbox 1 rfl 0 1) rfl rfl) ?_
  refine Ops.y (v := .pointer (some ⟨_, _, none⟩)) (Y.fa0 fa_56_0 rfl) ?_
  refine Ops.y (v := .string _) (Y.loadv ty_9 rfl (I.rdbox 0 rfl 0 1) rfl rfl) ?_
  refine Ops.y (v := .int .i64 _) (Y.lookups I Try.underlying94 Try.underlying9 Try.zeroValue3 2 rfl rfl rfl) ?_
  refine Ops.y (v := .int .i64 _) (Y.addi rfl rfl hr) ?_
  refine Ops.go (O.mapsets I Try.underlying94 Try.underlying9 2 rfl rfl rfl rfl ?_)
  intro w I
  refine Ops.nil ?_
  refine WP.seq ?_
  refine WP.region ?_
  refine Ops.y (v := .map _) (Y.loadv ty_94 rfl (I.rdbox 1 rfl 0 1) rfl rfl) ?_
  refine Ops.y (v := .pointer (some ⟨_, _, none⟩)) (Y.fa0 fa_56_0 rfl) ?_
  refine Ops.y (v := .string _) (Y.loadv ty_9 rfl (I.rdbox 0 rfl 0 1) rfl rfl) ?_
  refine Ops.y (v := .int .i64 _) (Y.lookups I Try.underlying94 Try.underlying9 Try.zeroValue3 2 rfl rfl rfl) ?_
  refine Ops.y (v := .bool (decide _)) (Y.gti rfl rfl) ?_
  refine Ops.y (v := .bool _) (Y.assign rfl) ?_
  refine Ops.nil ?_
  refine WP.ret ?_
  repeat (first | refine thenE_ret ?_ | refine blockE_ret ?_)
  have hs : slook (sset es x.name ((slook es x.name).getD 0 + 1)) x.name = some ((slook es x.name).getD 0 + 1) := by rw [slook_sset, if_pos rfl]
  exact ⟨.inl rfl, [.bool (decide (1 < (slook es x.name).getD 0 + 1))], ⟨by rw [hs]; rfl, trivial⟩, rfl, I.drop⟩
end Go.TF
end
