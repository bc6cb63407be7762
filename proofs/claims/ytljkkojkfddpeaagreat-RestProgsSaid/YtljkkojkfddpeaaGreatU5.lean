/- Texts SpFire SpRound SpRound2 SpNaive RuleLaw2 Sls Bas1. -/
import Derived.Test.YtljkkojkfddpeaaGreatU4
import Derived.Test.YtljkkojkfddpeaaGreatU3
import Derived.Test.YtljkkojkfddpeaaGreatU2
section
/- What a rule that is used tells; the steps that hold, and how facts are laid to literals: plain. -/
namespace Go.TF
open Go

def litOk (f : List Fct) (x : Vrs) (t : Ltl) : Bool := decide (isF f (groundF t.atom x) ≠ t.neg)
def holdsB (f : List Fct) (r : Rul) (x : Vrs) : Bool := r.body.xs.all (litOk f x)
def headV (l : List Prd) (f : List Fct) (r : Rul) (x : Vrs) : Int := if 0 ≤ r.src then liftV (predOf l r.head.pred).kind ((lkF f (placeF (groundF (litOf r r.src).atom x))).getD 0) r.n else r.n
def headF (l : List Prd) (f : List Fct) (r : Rul) (x : Vrs) : Fct := ⟨r.head.pred, argv r.head x 0, argv r.head x 1, headV l f r x⟩
def holdsF (l : List Prd) (f : List Fct) (r : Rul) (x : Vrs) : Bool × Fct := if holdsB f r x then (true, headF l f r x) else (false, default)
structure VsOk (x : Vrs) : Prop where
  h0 : 0 ≤ x.x0 ∧ x.x0 ≤ 4
  h1 : 0 ≤ x.x1 ∧ x.x1 ≤ 4
  h2 : 0 ≤ x.x2 ∧ x.x2 ≤ 4
theorem VsOk.at {x : Vrs} (h : VsOk x) (v : Int) : 0 ≤ x.at v ∧ x.at v ≤ 4 := by
  unfold Vrs.at; (repeat' split) <;> first | exact h.h0 | exact h.h1 | exact h.h2
/-- A rule of a right program. -/
structure ROk (l : List Prd) (r : Rul) : Prop where
  five : l.length ≤ 5
  preds : ∀ p ∈ l, predFine p = true
  head : checkAtom l r.head = 0
  len : r.body.xs.length ≤ 3
  body : ∀ x ∈ r.body.xs, checkAtom l x.atom = 0
  free : ∀ v, v = 0 ∨ v = 1 ∨ v = 2 → freeVar r v = false
  src : -1 ≤ r.src ∧ r.src < r.body.xs.length
  pos : 0 ≤ r.src → (litOf r r.src).neg = false ∧ (predOf l (litOf r r.src).atom.pred).kind = (predOf l r.head.pred).kind
  n : 0 ≤ r.n ∧ r.n ≤ 15
  plain : (predOf l r.head.pred).kind = 0 → r.src = -1 ∧ r.n = 0
theorem rok_of {l : List Prd} {r : Rul} (h5 : l.length ≤ 5) (hp : ∀ p ∈ l, predFine p = true) (h : checkRule l r = 0) : ROk l r := by
  unfold checkRule at h
  split at h
  · rename_i h1; exact absurd h h1
  split at h
  · cases h
  split at h
  · rename_i h1 h2 h3; exact absurd h h3
  split at h
  · cases h
  split at h
  · cases h
  split at h
  · cases h
  split at h
  · cases h
  split at h
  · cases h
  rename_i h1 h2 h3 h4 h5' h6 h7 h8
  simp only [Bool.or_eq_true, not_or, Bool.not_eq_true] at h4
  refine ⟨h5, hp, Decidable.not_not.1 h1, by omega, bodyErr_ne.1 (Decidable.not_not.1 h3), fun v hv => ?_, by omega, fun h0 => ?_, by omega, fun hk => ?_⟩
  · rcases hv with rfl | rfl | rfl
    · exact h4.1.1
    · exact h4.1.2
    · exact h4.2
  · have : ¬ ((litOf r r.src).neg = true ∨ (predOf l (litOf r r.src).atom.pred).kind ≠ (predOf l r.head.pred).kind) := fun hh => h7 ⟨h0, hh⟩
    rw [not_or, Bool.not_eq_true, Decidable.not_not] at this
    exact this
  · have : ¬ (r.src ≠ -1 ∨ r.n ≠ 0) := fun hh => h6 ⟨hk, hh⟩
    omega
structure AOk (l : List Prd) (a : Atm) : Prop where
  pred : 0 ≤ a.pred ∧ a.pred < l.length
  len : a.args.xs.length ≤ 2
  err : argsErr a.args.xs = 0
  arity : (a.args.xs.length : Int) = (predOf l a.pred).arity
theorem predOf_mem {l : List Prd} {p : Int} (h : 0 ≤ p ∧ p < l.length) : predOf l p ∈ l := List.mem_of_getElem? (predOf_get h.1 h.2)
theorem aok_of {l : List Prd} {a : Atm} (hp : ∀ p ∈ l, predFine p = true) (h : checkAtom l a = 0) : AOk l a := by
  unfold checkAtom at h
  split at h
  · cases h
  split at h
  · cases h
  rename_i h1 h2
  have hpr : 0 ≤ a.pred ∧ a.pred < l.length := by omega
  have := hp _ (predOf_mem hpr)
  simp only [predFine, decide_eq_true_eq] at this
  exact ⟨hpr, by omega, h, by omega⟩
theorem AOk.arg {l : List Prd} {a : Atm} (h : AOk l a) {x : Vrs} (hx : VsOk x) (i : Nat) : 0 ≤ argv a x i ∧ argv a x i ≤ 4 := by
  by_cases hi : i < a.args.xs.length
  · rw [argv_get hi]
    unfold tv
    split
    · exact hx.at _
    · rename_i hv
      exact argsErr_con h.err (List.getElem_mem hi) (by simpa using hv)
  · rw [argv_none (by omega)]; omega
theorem AOk.pf {l : List Prd} {a : Atm} (h5 : l.length ≤ 5) (h : AOk l a) {x : Vrs} (hx : VsOk x) (v : Int) : PF ⟨a.pred, argv a x 0, argv a x 1, v⟩ :=
  ⟨h.pred.1, by have := h.pred.2; show a.pred ≤ 4; omega, (h.arg hx 0).1, (h.arg hx 0).2, (h.arg hx 1).1, (h.arg hx 1).2⟩
theorem AOk.var {l : List Prd} {a : Atm} (h : AOk l a) {t : Trm} (ht : t ∈ a.args.xs) (hv : t.var = true) : 0 ≤ t.n ∧ t.n < 3 := argsErr_var h.err ht hv
theorem litOf_mem {r : Rul} {k : Int} (h : 0 ≤ k ∧ k < r.body.xs.length) : litOf r k ∈ r.body.xs := by
  have : k.toNat < r.body.xs.length := by omega
  unfold litOf
  rw [List.getD_eq_getElem?_getD, List.getElem?_eq_getElem this]
  exact List.getElem_mem _
/-- What a rule tells is a fact. -/
theorem headF_fine {l : List Prd} {f : List Fct} {r : Rul} (ok : ROk l r) (okf : FOk l f) {x : Vrs} (hx : VsOk x) (hh : holdsB f r x = true) : factFine l (headF l f r x) = true := by
  have ha := aok_of ok.preds ok.head
  have har := ha.arity
  have hz : ∀ i : Nat, (i : Int) + 1 ≤ (predOf l r.head.pred).arity ∨ argv r.head x i = 0 := fun i => by
    by_cases hi : i < r.head.args.xs.length
    · left; omega
    · right; exact argv_none (by omega)
  refine fine_iff.2 ⟨ha.pred, ha.arg hx 0, ha.arg hx 1, (show 1 ≤ (predOf l r.head.pred).arity ∨ argv r.head x 0 = 0 from by simpa using hz 0), (show 2 ≤ (predOf l r.head.pred).arity ∨ argv r.head x 1 = 0 from by simpa using hz 1), ?_⟩
  show VOk (predOf l r.head.pred).kind (headV l f r x)
  have hk := ok.preds _ (predOf_mem ha.pred)
  simp only [predFine, decide_eq_true_eq] at hk
  unfold headV
  split
  · rename_i h0
    have hm := litOf_mem ⟨h0, ok.src.2⟩
    obtain ⟨hn, hkd⟩ := ok.pos h0
    have hl := List.all_eq_true.1 hh _ hm
    have hb := aok_of ok.preds (ok.body _ hm)
    have pf := hb.pf ok.five hx 0
    unfold litOk at hl
    rw [hn, decide_eq_true_eq] at hl
    have hs : isF f (groundF (litOf r r.src).atom x) = true := by simpa using hl
    unfold isF at hs
    cases hlk : lkF f (placeF (groundF (litOf r r.src).atom x)) with
    | none => rw [hlk] at hs; cases hs
    | some v =>
      obtain ⟨y, hy, e, rfl⟩ := lkF_mem hlk
      have hyf := okf.fine y hy
      have hyp := ((fine_pf ok.five hyf).inj pf e).1
      have hv := fine_v hyf
      rw [show y.pred = (litOf r r.src).atom.pred from hyp, hkd] at hv
      have hrn : VOk (predOf l r.head.pred).kind r.n := by
        rw [vOk_iff]; refine ⟨hk.2.2.1, hk.2.2.2, ok.n.1, ok.n.2, fun h => (ok.plain h).2⟩
      exact liftV_ok hv hrn
  · rw [vOk_iff]; exact ⟨hk.2.2.1, hk.2.2.2, ok.n.1, ok.n.2, fun h => (ok.plain h).2⟩
/-! ### Steps -/
def standsR (r : Rul) (v : Int) : Bool := standsIn r.head v || r.body.xs.any fun x => standsIn x.atom v
def vecs : List Vrs := (List.range 5).flatMap fun (a : Nat) => (List.range 5).flatMap fun (b : Nat) => (List.range 5).map fun (c : Nat) => (⟨(a : Int), (b : Int), (c : Int)⟩ : Vrs)
def stdOk (r : Rul) (x : Vrs) : Bool := (decide (x.x0 = 0) || standsR r 0) && (decide (x.x1 = 0) || standsR r 1) && (decide (x.x2 = 0) || standsR r 2)
def stepsF (f : List Fct) (n : Int) (r : Rul) : List Stp := (vecs.filter fun x => stdOk r x && holdsB f r x).map (Stp.mk n)
def ltV (x y : Vrs) : Prop := x.x0 < y.x0 ∨ x.x0 = y.x0 ∧ (x.x1 < y.x1 ∨ x.x1 = y.x1 ∧ x.x2 < y.x2)
instance (x y : Vrs) : Decidable (ltV x y) := inferInstanceAs (Decidable (_ ∨ _))
theorem ltV_trans {x y z : Vrs} (h1 : ltV x y) (h2 : ltV y z) : ltV x z := by unfold ltV at *; omega
theorem ltV_irrefl (x : Vrs) : ¬ ltV x x := by unfold ltV; omega
theorem ltV_tri (x y : Vrs) : ltV x y ∨ x = y ∨ ltV y x := by
  obtain ⟨a, b, c⟩ := x; obtain ⟨a', b', c'⟩ := y
  unfold ltV; simp only [Vrs.mk.injEq]; omega
theorem vecs_srt : vecs.Pairwise ltV := by decide +kernel
theorem mem_vecs {x : Vrs} : x ∈ vecs ↔ VsOk x := by
  constructor
  · intro h
    simp only [vecs, List.mem_flatMap, List.mem_map, List.mem_range] at h
    obtain ⟨a, ha, b, hb, c, hc, rfl⟩ := h
    exact ⟨⟨by dsimp only; omega, by dsimp only; omega⟩, ⟨by dsimp only; omega, by dsimp only; omega⟩, ⟨by dsimp only; omega, by dsimp only; omega⟩⟩
  · rintro ⟨h0, h1, h2⟩
    simp only [vecs, List.mem_flatMap, List.mem_map, List.mem_range]
    obtain ⟨a, b, c⟩ := x
    dsimp only at h0 h1 h2
    exact ⟨a.toNat, by omega, b.toNat, by omega, c.toNat, by omega, by simp only [Vrs.mk.injEq]; omega⟩
theorem srt_uniq {α : Type} {lt : α → α → Prop} (hi : ∀ x, ¬ lt x x) (ht : ∀ x y z, lt x y → lt y z → lt x z) : ∀ {l m : List α}, l.Pairwise lt → m.Pairwise lt → (∀ x, x ∈ l ↔ x ∈ m) → l = m
  | [], [], _, _, _ => rfl
  | [], y :: m, _, _, h => by have := (h y).2 List.mem_cons_self; cases this
  | x :: l, [], _, _, h => by have := (h x).1 List.mem_cons_self; cases this
  | x :: l, y :: m, hl, hm, h => by
    obtain ⟨l1, l2⟩ := List.pairwise_cons.1 hl
    obtain ⟨m1, m2⟩ := List.pairwise_cons.1 hm
    have hxy : x = y := by
      rcases List.mem_cons.1 ((h x).1 List.mem_cons_self) with h1 | h1
      · exact h1
      · rcases List.mem_cons.1 ((h y).2 List.mem_cons_self) with h2 | h2
        · exact h2.symm
        · exact absurd (ht _ _ _ (m1 x h1) (l1 y h2)) (hi _)
    subst hxy
    congr 1
    refine srt_uniq hi ht l2 m2 fun z => ?_
    constructor
    · intro hz
      rcases List.mem_cons.1 ((h z).1 (List.mem_cons_of_mem _ hz)) with rfl | h1
      · exact absurd (l1 _ hz) (hi _)
      · exact h1
    · intro hz
      rcases List.mem_cons.1 ((h z).2 (List.mem_cons_of_mem _ hz)) with rfl | h1
      · exact absurd (m1 _ hz) (hi _)
      · exact h1
/-! ### Facts laid to literals -/
def Vrs.set (b : Vrs) (v n : Int) : Vrs := if v = 0 then ⟨n, b.x1, b.x2⟩ else if v = 1 then ⟨b.x0, n, b.x2⟩ else ⟨b.x0, b.x1, n⟩
theorem Vrs.at_set {b : Vrs} {v n u : Int} (hv : 0 ≤ v ∧ v < 3) (hu : 0 ≤ u ∧ u < 3) : (b.set v n).at u = if u = v then n else b.at u := by
  have h1 : v = 0 ∨ v = 1 ∨ v = 2 := by omega
  have h2 : u = 0 ∨ u = 1 ∨ u = 2 := by omega
  rcases h1 with rfl | rfl | rfl <;> rcases h2 with rfl | rfl | rfl <;> rfl
def cantF (b : Vrs) (t : Trm) (n : Int) : Prop := (t.var = false ∧ t.n ≠ n) ∨ (t.var = true ∧ 0 ≤ b.at t.n ∧ b.at t.n ≠ n)
instance (b : Vrs) (t : Trm) (n : Int) : Decidable (cantF b t n) := inferInstanceAs (Decidable (_ ∨ _))
def bindF (b : Vrs) (t : Trm) (n : Int) : Vrs := if t.var then b.set t.n n else b
def withL : Vrs → List (Trm × Int) → Option Vrs
  | b, [] => some b
  | b, (t, n) :: r => if cantF b t n then none else withL (bindF b t n) r
def pairF (a : Atm) (x : Fct) : List (Trm × Int) := a.args.xs.zip [x.a, x.b]
def withF (b : Vrs) (a : Atm) (x : Fct) : Option Vrs := if a.pred ≠ x.pred then none else withL b (pairF a x)
def layF (f : List Fct) : List Atm → Vrs → List Vrs
  | [], b => [b]
  | a :: l, b => f.flatMap fun x => match withF b a x with | none => [] | some c => layF f l c
def mx0 (b : Vrs) : Vrs := ⟨max 0 b.x0, max 0 b.x1, max 0 b.x2⟩
theorem mx0_at (b : Vrs) (v : Int) : (mx0 b).at v = max 0 (b.at v) := by unfold Vrs.at mx0; (repeat' split) <;> rfl
def b0 : Vrs := ⟨-1, -1, -1⟩
def outF (f : List Fct) (n : Int) (r : Rul) : List Stp := (((layF f (poss r.body.xs) b0).map mx0).filter (holdsB f r)).map (Stp.mk n)
/-- What is bound is a constant, of a variable that stands somewhere in l. -/
def BOk (l : List Atm) (b : Vrs) : Prop := ∀ v, 0 ≤ v ∧ v < 3 → b.at v = -1 ∨ (0 ≤ b.at v ∧ b.at v ≤ 4 ∧ ∃ a ∈ l, standsIn a v = true)
theorem stands_mem {a : Atm} {t : Trm} (ht : t ∈ a.args.xs) (hv : t.var = true) : standsIn a t.n = true := by
  unfold standsIn; rw [List.any_eq_true]; exact ⟨t, ht, by simp [hv]⟩
theorem withL_bok {l : List Atm} {a : Atm} (ha : a ∈ l) (hv : ∀ t ∈ a.args.xs, t.var = true → 0 ≤ t.n ∧ t.n < 3) : ∀ {ps : List (Trm × Int)} {b c : Vrs}, (∀ p ∈ ps, p.1 ∈ a.args.xs ∧ 0 ≤ p.2 ∧ p.2 ≤ 4) → BOk l b → withL b ps = some c → BOk l c
  | [], b, c, _, hb, h => by simp only [withL, Option.some.injEq] at h; subst h; exact hb
  | (t, n) :: r, b, c, hp, hb, h => by
    rw [withL] at h
    split at h
    · cases h
    refine withL_bok ha hv (fun p hpr => hp p (List.mem_cons_of_mem _ hpr)) ?_ h
    obtain ⟨p1, p2⟩ := hp (t, n) List.mem_cons_self
    dsimp only at p1 p2
    unfold bindF
    split
    · rename_i htv
      intro v hv3
      have := hv t p1 htv
      rw [Vrs.at_set this hv3]
      split
      · rename_i e; subst e; exact .inr ⟨p2.1, p2.2, a, ha, stands_mem p1 htv⟩
      · exact hb v hv3
    · exact hb
theorem pair_mem {a : Atm} {x : Fct} (hx : PF x) : ∀ p ∈ pairF a x, p.1 ∈ a.args.xs ∧ 0 ≤ p.2 ∧ p.2 ≤ 4 := fun p hp => by
  have h1 := (List.of_mem_zip hp).1
  have h2 := (List.of_mem_zip hp).2
  refine ⟨h1, ?_⟩
  simp only [List.mem_cons, List.not_mem_nil, or_false] at h2
  rcases h2 with h2 | h2 <;> rw [h2]
  · exact ⟨hx.a0, hx.a1⟩
  · exact ⟨hx.b0, hx.b1⟩
theorem lay_bok {l : List Atm} {f : List Fct} (hf : ∀ y ∈ f, PF y) : ∀ {ats : List Atm} {b c : Vrs}, (∀ a ∈ ats, a ∈ l ∧ ∀ t ∈ a.args.xs, t.var = true → 0 ≤ t.n ∧ t.n < 3) → BOk l b → c ∈ layF f ats b → BOk l c
  | [], b, c, _, hb, h => by rw [layF, List.mem_singleton] at h; subst h; exact hb
  | a :: ats, b, c, ha, hb, h => by
    rw [layF, List.mem_flatMap] at h
    obtain ⟨y, hy, h⟩ := h
    cases hw : withF b a y with
    | none => rw [hw] at h; cases h
    | some d =>
      rw [hw] at h
      obtain ⟨a1, a2⟩ := ha a List.mem_cons_self
      refine lay_bok hf (fun a' h' => ha a' (List.mem_cons_of_mem _ h')) ?_ h
      unfold withF at hw
      split at hw
      · cases hw
      · exact withL_bok a1 a2 (pair_mem (hf y hy)) hb hw
/-- Bound ats x has it. -/
def Bnd (b x : Vrs) : Prop := ∀ v, 0 ≤ v ∧ v < 3 → b.at v = -1 ∨ b.at v = x.at v
theorem withL_bnd {x : Vrs} : ∀ {ps : List (Trm × Int)} {b : Vrs}, (∀ p ∈ ps, p.2 = tv p.1 x ∧ (p.1.var = true → 0 ≤ p.1.n ∧ p.1.n < 3)) → Bnd b x →
    ∃ c, withL b ps = some c ∧ Bnd c x ∧ (∀ v, 0 ≤ v ∧ v < 3 → b.at v = x.at v → c.at v = x.at v) ∧ (∀ p ∈ ps, p.1.var = true → c.at p.1.n = x.at p.1.n)
  | [], b, _, hb => ⟨b, rfl, hb, fun _ _ h => h, fun p hp => by cases hp⟩
  | (t, n) :: r, b, hp, hb => by
    obtain ⟨p1, p2⟩ := hp (t, n) List.mem_cons_self
    dsimp only at p1 p2
    have hc : ¬ cantF b t n := by
      rintro (⟨h1, h2⟩ | ⟨h1, h2, h3⟩)
      · rw [p1] at h2; simp [tv, h1] at h2
      · have := hb t.n (p2 h1)
        rw [p1] at h3
        simp only [tv, h1, if_true] at h3
        omega
    have hb' : Bnd (bindF b t n) x ∧ (∀ v, 0 ≤ v ∧ v < 3 → b.at v = x.at v → (bindF b t n).at v = x.at v) ∧ (t.var = true → (bindF b t n).at t.n = x.at t.n) := by
      unfold bindF
      cases htv : t.var
      · exact ⟨hb, fun _ _ h => h, fun h => by cases h⟩
      · have htn := p2 htv
        have hn : n = x.at t.n := by rw [p1]; simp [tv, htv]
        rw [if_pos rfl]
        refine ⟨fun v hv => ?_, fun v hv h => ?_, fun _ => ?_⟩
        · rw [Vrs.at_set htn hv]; split
          · rename_i e; subst e; exact .inr hn
          · exact hb v hv
        · rw [Vrs.at_set htn hv]; split
          · rename_i e; subst e; exact hn
          · exact h
        · rw [Vrs.at_set htn htn, if_pos rfl]; exact hn
    obtain ⟨c, hw, c1, c2, c3⟩ := withL_bnd (fun p hpr => hp p (List.mem_cons_of_mem _ hpr)) hb'.1
    refine ⟨c, by rw [withL, if_neg hc]; exact hw, c1, fun v hv h => c2 v hv (hb'.2.1 v hv h), fun p hpm hpv => ?_⟩
    rcases List.mem_cons.1 hpm with rfl | hpm
    · exact c2 _ (p2 hpv) (hb'.2.2 hpv)
    · exact c3 p hpm hpv
theorem pair_is {a : Atm} {x : Vrs} {y : Fct} (h2 : a.args.xs.length ≤ 2) (ha : y.a = argv a x 0) (hb : y.b = argv a x 1) : ∀ p ∈ pairF a y, p.2 = tv p.1 x ∧ p.1 ∈ a.args.xs := by
  unfold pairF
  match hs : a.args.xs, h2 with
  | [], _ => simp
  | [t], _ =>
    intro p hp
    have : p = (t, y.a) := by simpa using hp
    subst this
    exact ⟨by rw [ha]; simp [argv, hs], by simp⟩
  | [t, u], _ =>
    intro p hp
    have : p = (t, y.a) ∨ p = (u, y.b) := by simpa using hp
    rcases this with rfl | rfl
    · exact ⟨by rw [ha]; simp [argv, hs], by simp⟩
    · exact ⟨by rw [hb]; simp [argv, hs], by simp⟩
  | _ :: _ :: _ :: _, h2 => simp at h2
theorem pair_all {a : Atm} {y : Fct} (h2 : a.args.xs.length ≤ 2) {t : Trm} (ht : t ∈ a.args.xs) : ∃ n, (t, n) ∈ pairF a y := by
  unfold pairF
  match hs : a.args.xs, h2 with
  | [], _ => rw [hs] at ht; cases ht
  | [u], _ =>
    rw [hs] at ht
    have : t = u := by simpa using ht
    subst this; exact ⟨y.a, by simp⟩
  | [u, w], _ =>
    rw [hs] at ht
    have : t = u ∨ t = w := by simpa using ht
    rcases this with rfl | rfl
    · exact ⟨y.a, by simp⟩
    · exact ⟨y.b, by simp⟩
  | _ :: _ :: _ :: _, h2 => simp at h2
theorem lay_has {l : List Prd} {f : List Fct} {x : Vrs} (h5 : l.length ≤ 5) (hf : ∀ y ∈ f, PF y) (hx : VsOk x) : ∀ {ats : List Atm} {b : Vrs}, (∀ a ∈ ats, AOk l a ∧ isF f (groundF a x) = true) → Bnd b x →
    ∃ c ∈ layF f ats b, Bnd c x ∧ (∀ v, 0 ≤ v ∧ v < 3 → b.at v = x.at v → c.at v = x.at v) ∧ (∀ a ∈ ats, ∀ v, standsIn a v = true → c.at v = x.at v)
  | [], b, _, hb => ⟨b, by rw [layF]; simp, hb, fun _ _ h => h, fun a ha => by cases ha⟩
  | a :: ats, b, ha, hb => by
    obtain ⟨ao, ai⟩ := ha a List.mem_cons_self
    unfold isF at ai
    cases hlk : lkF f (placeF (groundF a x)) with
    | none => rw [hlk] at ai; cases ai
    | some w =>
      obtain ⟨y, hy, e, _⟩ := lkF_mem hlk
      obtain ⟨e1, e2, e3⟩ := (hf y hy).inj (ao.pf h5 hx 0) e
      dsimp only at e1 e2 e3
      obtain ⟨c, hw, c1, c2, c3⟩ := withL_bnd (x := x) (ps := pairF a y) (b := b) (fun p hp => ⟨(pair_is ao.len e2 e3 p hp).1, fun hv => ao.var (pair_is ao.len e2 e3 p hp).2 hv⟩) hb
      obtain ⟨d, hd, d1, d2, d3⟩ := lay_has h5 hf hx (fun a' h' => ha a' (List.mem_cons_of_mem _ h')) c1
      refine ⟨d, ?_, d1, fun v hv h => d2 v hv (c2 v hv h), fun a' ha' v hs => ?_⟩
      · rw [layF, List.mem_flatMap]
        refine ⟨y, hy, ?_⟩
        have : withF b a y = some c := by unfold withF; rw [if_neg (by simp [e1]), hw]
        rw [this]; exact hd
      · rcases List.mem_cons.1 ha' with rfl | ha'
        · unfold standsIn at hs
          rw [List.any_eq_true] at hs
          obtain ⟨t, ht, hs⟩ := hs
          simp only [Bool.and_eq_true, decide_eq_true_eq] at hs
          obtain ⟨n, hn⟩ := pair_all (y := y) ao.len ht
          have := c3 _ hn hs.1
          dsimp only at this
          rw [hs.2] at this
          exact d2 v (by rw [← hs.2]; exact ao.var ht hs.1) this
        · exact d3 a' ha' v hs
theorem b0_at {v : Int} (hv : 0 ≤ v ∧ v < 3) : b0.at v = -1 := by
  have h : v = 0 ∨ v = 1 ∨ v = 2 := by omega
  rcases h with rfl | rfl | rfl <;> rfl
theorem bound_poss {r : Rul} {v : Int} : boundIn r v = true ↔ ∃ a ∈ poss r.body.xs, standsIn a v = true := by rw [boundIn_iff, cntA_pos]
theorem vrs_ext {x y : Vrs} (h : ∀ v, 0 ≤ v ∧ v < 3 → x.at v = y.at v) : x = y := by
  have h0 := h 0 (by omega); have h1 := h 1 (by omega); have h2 := h 2 (by omega)
  cases x; cases y
  simp only [Vrs.at] at h0 h1 h2
  simp only [Vrs.mk.injEq]
  exact ⟨by simpa using h0, by simpa using h1, by simpa using h2⟩
theorem mem_out {l : List Prd} {f : List Fct} {n : Int} {r : Rul} (ok : ROk l r) (okf : FOk l f) (s : Stp) : s ∈ outF f n r ↔ s ∈ stepsF f n r := by
  unfold outF stepsF
  simp only [List.mem_map, List.mem_filter, Bool.and_eq_true]
  have hpo : ∀ a ∈ poss r.body.xs, AOk l a := fun a ha => by
    obtain ⟨x, hx, _, rfl⟩ := mem_poss.1 ha
    exact aok_of ok.preds (ok.body x hx)
  constructor
  · rintro ⟨x, ⟨⟨b, hb, rfl⟩, hh⟩, rfl⟩
    have hbk := lay_bok (l := poss r.body.xs) okf.pf (fun a ha => ⟨ha, fun t ht hv => (hpo a ha).var ht hv⟩) (b := b0) (fun v hv => .inl (b0_at hv)) hb
    have hv : ∀ v, 0 ≤ v ∧ v < 3 → (0 ≤ (mx0 b).at v ∧ (mx0 b).at v ≤ 4) ∧ ((mx0 b).at v = 0 ∨ standsR r v = true) := fun v hv => by
      rw [mx0_at]
      rcases hbk v hv with h | ⟨h1, h2, a, ha, hs⟩
      · rw [h]; exact ⟨by omega, .inl (by omega)⟩
      · refine ⟨by omega, .inr ?_⟩
        obtain ⟨x, hx, _, rfl⟩ := mem_poss.1 ha
        unfold standsR
        rw [Bool.or_eq_true, List.any_eq_true]
        exact .inr ⟨x, hx, hs⟩
    have q0 := hv 0 (by omega); have q1 := hv 1 (by omega); have q2 := hv 2 (by omega)
    refine ⟨mx0 b, ⟨mem_vecs.2 ⟨q0.1, q1.1, q2.1⟩, ?_, hh⟩, rfl⟩
    simp only [stdOk, Bool.and_eq_true, Bool.or_eq_true, decide_eq_true_eq]
    exact ⟨⟨q0.2, q1.2⟩, q2.2⟩
  · rintro ⟨x, ⟨hx, hst, hh⟩, rfl⟩
    have hxo := mem_vecs.1 hx
    have hbn : Bnd b0 x := fun v hv => .inl (b0_at hv)
    obtain ⟨c, hc, c1, _, c3⟩ := lay_has (l := l) ok.five okf.pf hxo (ats := poss r.body.xs) (b := b0) (fun a ha => ⟨hpo a ha, by
      obtain ⟨y, hy, hn, rfl⟩ := mem_poss.1 ha
      have := List.all_eq_true.1 hh y hy
      unfold litOk at this
      rw [hn, decide_eq_true_eq] at this
      simpa using this⟩) hbn
    have hmx : mx0 c = x := vrs_ext fun v hv => by
      rw [mx0_at]
      have h4 := hxo.at v
      rcases c1 v hv with h | h
      · rw [h]
        by_cases hb : boundIn r v = true
        · obtain ⟨a, ha, hs⟩ := bound_poss.1 hb
          have := c3 a ha v hs
          omega
        · have hv3 : v = 0 ∨ v = 1 ∨ v = 2 := by omega
          have hfr := ok.free v hv3
          have hsr : standsR r v = false := by
            unfold freeVar at hfr
            unfold standsR
            have : boundIn r v = false := by simpa using hb
            rw [this] at hfr
            simpa using hfr
          simp only [stdOk, Bool.and_eq_true, Bool.or_eq_true, decide_eq_true_eq] at hst
          have hz : x.at v = 0 := by
            rcases hv3 with rfl | rfl | rfl
            · rcases hst.1.1 with h | h
              · exact h
              · rw [hsr] at h; cases h
            · rcases hst.1.2 with h | h
              · exact h
              · rw [hsr] at h; cases h
            · rcases hst.2 with h | h
              · exact h
              · rw [hsr] at h; cases h
          omega
      · omega
    exact ⟨x, ⟨⟨c, hc, hmx⟩, hh⟩, rfl⟩
def ltS (x y : Stp) : Prop := ltV x.vars y.vars
theorem stepsF_srt (f : List Fct) (n : Int) (r : Rul) : (stepsF f n r).Pairwise ltS := by
  unfold stepsF
  rw [List.pairwise_map]
  exact (vecs_srt.filter _).imp fun h => h
/-- What is laid, sorted, each once, is the steps. -/
theorem steps_eq {l : List Prd} {f : List Fct} {n : Int} {r : Rul} (ok : ROk l r) (okf : FOk l f) {s : List Stp} (hs : s.Pairwise ltS) (hm : ∀ x, x ∈ s ↔ x ∈ outF f n r) : s = stepsF f n r :=
  srt_uniq (lt := ltS) (fun x => ltV_irrefl x.vars) (fun x y z h1 h2 => ltV_trans (x := x.vars) (y := y.vars) (z := z.vars) h1 h2) hs (stepsF_srt f n r) fun x => (hm x).trans (mem_out ok okf x)
end Go.TF
end
section
/- A round: what is told, and put one behind the other: plain. -/
namespace Go.TF
open Go

/-- The rules of a stratum. -/
def ofQ (p : Prg) (M : List Int) (st : Int) (n : Nat) : Bool := decide (lv M (p.rules.xs.getD n default).head.pred = st)
/-- What the rules that are asked for tell, each step with its fact. -/
def toldN (l : List Prd) (f : List Fct) (rs : List Rul) (q : Nat → Bool) (n : Nat) : List (Stp × Fct) :=
  if q n then (stepsF f n (rs.getD n default)).map fun s => (s, headF l f (rs.getD n default) s.vars) else []
def toldK (l : List Prd) (f : List Fct) (rs : List Rul) (q : Nat → Bool) (k : Nat) : List (Stp × Fct) := (List.range k).flatMap (toldN l f rs q)
abbrev toldL (l : List Prd) (f : List Fct) (rs : List Rul) (q : Nat → Bool) : List (Stp × Fct) := toldK l f rs q rs.length
section
variable {l : List Prd} {f : List Fct} {rs : List Rul} {q : Nat → Bool} {n : Nat}
theorem toldK_succ : toldK l f rs q (n + 1) = toldK l f rs q n ++ toldN l f rs q n := by unfold toldK; rw [List.range_succ, List.flatMap_append]; simp
theorem toldK_get {m k : Nat} (hn : n < m) {x : Stp × Fct} (hk : (toldN l f rs q n)[k]? = some x) : (toldK l f rs q m)[(toldK l f rs q n).length + k]? = some x := by
  obtain ⟨t, ht⟩ : ∃ t, toldK l f rs q m = toldK l f rs q n ++ toldN l f rs q n ++ t := by
    induction m with
    | zero => omega
    | succ m ih =>
      by_cases e : n = m
      · subst e; exact ⟨[], by rw [toldK_succ, List.append_nil]⟩
      · obtain ⟨t, ht⟩ := ih (by omega)
        exact ⟨t ++ toldN l f rs q m, by rw [toldK_succ, ht, List.append_assoc]⟩
  have hl := (List.getElem?_eq_some_iff.1 hk).1
  rw [ht, List.append_assoc, List.getElem?_append_right (by omega), List.getElem?_append_left (by omega)]
  rw [← hk]; congr 1; omega
theorem mem_told {x : Stp × Fct} : x ∈ toldL l f rs q ↔ ∃ n r, rs[n]? = some r ∧ q n = true ∧ x.1 ∈ stepsF f n r ∧ x.2 = headF l f r x.1.vars := by
  unfold toldL toldK
  rw [List.mem_flatMap]
  constructor
  · rintro ⟨n, hn, hx⟩
    have hn' : n < rs.length := List.mem_range.1 hn
    have hr : rs[n]? = some rs[n] := List.getElem?_eq_getElem hn'
    unfold toldN at hx
    rw [List.getD_eq_getElem?_getD, hr] at hx
    simp only [Option.getD_some] at hx
    split at hx
    · rename_i hq
      obtain ⟨s, hs, rfl⟩ := List.mem_map.1 hx
      exact ⟨n, rs[n], hr, hq, hs, rfl⟩
    · cases hx
  · rintro ⟨n, r, hr, hq, hs, he⟩
    refine ⟨n, List.mem_range.2 (List.getElem?_eq_some_iff.1 hr).1, ?_⟩
    unfold toldN
    rw [List.getD_eq_getElem?_getD, hr, if_pos hq]
    simp only [Option.getD_some]
    exact List.mem_map.2 ⟨x.1, hs, by obtain ⟨a, b⟩ := x; dsimp only at he ⊢; rw [he]⟩
end
def putS (l : List Prd) (s : List Fct × Bool) (x : Fct) : List Fct × Bool := ((addF (predOf l x.pred).kind s.1 x).1, s.2 || (addF (predOf l x.pred).kind s.1 x).2)
def turnL (l : List Prd) (f : List Fct) (ts : List (Stp × Fct)) : List Fct × Bool := ts.foldl (fun s t => putS l s t.2) (f, false)
theorem turnL_snoc {l : List Prd} {f : List Fct} {ts : List (Stp × Fct)} {t : Stp × Fct} : turnL l f (ts ++ [t]) = putS l (turnL l f ts) t.2 := by unfold turnL; rw [List.foldl_append]; rfl
theorem turnL_take {l : List Prd} {f : List Fct} {ts : List (Stp × Fct)} {k : Nat} (hk : k < ts.length) : turnL l f (ts.take (k + 1)) = putS l (turnL l f (ts.take k)) ts[k].2 := by
  rw [List.take_succ_eq_append_getElem hk, turnL_snoc]
theorem turn_fok {l : List Prd} {f : List Fct} (okf : FOk l f) {ts : List (Stp × Fct)} (h : ∀ t ∈ ts, factFine l t.2 = true) : FOk l (turnL l f ts).1 := by
  have : ∀ k, k ≤ ts.length → FOk l (turnL l f (ts.take k)).1 := fun k => by
    induction k with
    | zero => intro _; exact okf
    | succ k ih =>
      intro hk
      rw [turnL_take (by omega)]
      exact addF_fok (ih (by omega)) (h _ (List.getElem_mem _))
  have := this ts.length (Nat.le_refl _)
  rwa [List.take_length] at this
theorem steps_holds {f : List Fct} {n : Int} {r : Rul} {s : Stp} (h : s ∈ stepsF f n r) : s.rule = n ∧ VsOk s.vars ∧ holdsB f r s.vars = true := by
  unfold stepsF at h
  obtain ⟨x, hx, rfl⟩ := List.mem_map.1 h
  obtain ⟨h1, h2⟩ := List.mem_filter.1 hx
  rw [Bool.and_eq_true] at h2
  exact ⟨rfl, mem_vecs.1 h1, h2.2⟩
theorem told_fine {l : List Prd} {f : List Fct} {rs : List Rul} {q : Nat → Bool} (ok : ∀ r ∈ rs, ROk l r) (okf : FOk l f) : ∀ t ∈ toldL l f rs q, factFine l t.2 = true := fun t ht => by
  obtain ⟨n, r, hr, _, hs, he⟩ := mem_told.1 ht
  obtain ⟨_, hv, hh⟩ := steps_holds hs
  rw [he]
  exact headF_fine (ok r (List.mem_of_getElem? hr)) okf hv hh
end Go.TF
end
section
/- What is told and put is the least above both; levels; more facts: plain. -/
namespace Go.TF
open Go

section
variable {l : List Prd} {f b : List Fct} {x : Fct}
theorem add_least (hf : FOk l f) (hb : FOk l b) (hx : factFine l x = true) (h1 : underF l f b = true) (h2 : underF l [x] b = true) : underF l (addL l f x) b = true := underF_iff.2 fun z hz => by
  have okA : FOk l (addL l f x) := addF_fok hf hx
  have hzf := okA.fine z hz
  have hlz := lkF_of_mem okA.srt hz
  rw [lkF_addL hf] at hlz
  obtain ⟨v, hv1, hv2⟩ := underF_iff.1 h2 x (List.mem_singleton_self _)
  split at hlz
  · rename_i e
    have hpz := same_pred hf.len hzf hx e
    rw [e] at hlz
    rw [e, hpz]
    refine ⟨v, hv1, ?_⟩
    injection hlz with hlz
    rw [← hlz]
    cases hu : lkF f (placeF x) with
    | none => exact hv2
    | some u =>
      obtain ⟨y, hy, ey, rfl⟩ := lkF_mem hu
      obtain ⟨v', k1, k2⟩ := underF_iff.1 h1 y hy
      rw [ey, hv1] at k1
      injection k1 with k1; subst k1
      have hyp := same_pred hf.len (hf.fine y hy) hx ey
      rw [hyp] at k2
      have hvo := hb.look hx hv1
      have hyo := fine_v (hf.fine y hy); rw [hyp] at hyo
      exact (leV_join_iff hyo (fine_v hx) hvo).2 ⟨k2, hv2⟩
  · obtain ⟨y, hy, ey, e2⟩ := lkF_mem hlz
    obtain ⟨v', k1, k2⟩ := underF_iff.1 h1 y hy
    have hyp := same_pred hf.len (hf.fine y hy) hzf ey
    rw [ey] at k1
    rw [hyp, e2] at k2
    exact ⟨v', k1, k2⟩
theorem under_put (hf : FOk l f) (hx : factFine l x = true) (h : underF l [x] f = true) : addF (predOf l x.pred).kind f x = (f, false) := by
  obtain ⟨v, h1, h2⟩ := underF_iff.1 h x (List.mem_singleton_self _)
  have hv := hf.look hx h1
  have hc : (addF (predOf l x.pred).kind f x).2 = false := by
    rw [addF_chg hf.srt, h1]
    apply decide_eq_false
    intro hh
    apply hh
    show some v = some (joinV _ v x.v)
    rw [joinV_comm hv (fine_v hx), show joinV _ x.v v = v from h2]
  exact Prod.ext (addF_same hc) hc
end
def runL (l : List Prd) (s : List Fct × Bool) (ts : List (Stp × Fct)) : List Fct × Bool := ts.foldl (fun s t => putS l s t.2) s
structure RunUp (l : List Prd) (s r : List Fct × Bool) (ts : List (Stp × Fct)) : Prop where
  fok : FOk l r.1
  up : underF l s.1 r.1 = true
  each : ∀ t ∈ ts, underF l [t.2] r.1 = true
  no : r.2 = false → s.2 = false ∧ r.1 = s.1
  yes : r.2 = true → s.2 = true ∨ r.1 ≠ s.1
theorem run_up {l : List Prd} : ∀ (ts : List (Stp × Fct)) (s : List Fct × Bool), FOk l s.1 → (∀ t ∈ ts, factFine l t.2 = true) → RunUp l s (runL l s ts) ts
  | [], s, hs, _ => ⟨hs, under_refl hs, fun t ht => by simp at ht, fun h => ⟨h, rfl⟩, fun h => .inl h⟩
  | t :: ts, s, hs, hf => by
    have hx := hf t List.mem_cons_self
    have hs' : FOk l (putS l s t.2).1 := addF_fok hs hx
    have ih := run_up ts (putS l s t.2) hs' fun u hu => hf u (List.mem_cons_of_mem _ hu)
    have hr : runL l s (t :: ts) = runL l (putS l s t.2) ts := rfl
    rw [hr]
    have u1 : underF l s.1 (putS l s t.2).1 = true := under_add hs hx
    have u2 : underF l [t.2] (putS l s t.2).1 = true := under_one hs hx
    have hch : (putS l s t.2).2 = (s.2 || decide ((putS l s t.2).1 ≠ s.1)) := by show (s.2 || (addF _ s.1 t.2).2) = _; rw [add_chg hs]; rfl
    refine ⟨ih.fok, under_trans hs hs' ih.fok u1 ih.up, fun u hu => ?_, fun h => ?_, fun h => ?_⟩
    · rcases List.mem_cons.1 hu with rfl | hu
      · exact under_trans (fok_one hs.len hs.preds hx) hs' ih.fok u2 ih.up
      · exact ih.each u hu
    · obtain ⟨h1, h2⟩ := ih.no h
      rw [hch, Bool.or_eq_false_iff, decide_eq_false_iff_not, Decidable.not_not] at h1
      exact ⟨h1.1, h2.trans h1.2⟩
    · have key : (runL l (putS l s t.2) ts).1 = s.1 → (putS l s t.2).1 = s.1 := fun e => by
        have := ih.up
        rw [e] at this
        exact under_anti hs' hs this u1
      rcases ih.yes h with h1 | h1
      · rw [hch, Bool.or_eq_true, decide_eq_true_eq] at h1
        rcases h1 with h1 | h1
        · exact .inl h1
        · exact .inr fun e => h1 (key e)
      · exact .inr fun e => h1 (e.trans (key e).symm)
theorem run_least {l : List Prd} {b : List Fct} (hb : FOk l b) : ∀ (ts : List (Stp × Fct)) (s : List Fct × Bool), FOk l s.1 → (∀ t ∈ ts, factFine l t.2 = true) → underF l s.1 b = true → (∀ t ∈ ts, underF l [t.2] b = true) → underF l (runL l s ts).1 b = true
  | [], s, _, _, h, _ => h
  | t :: ts, s, hs, hf, h, ht => by
    have hx := hf t List.mem_cons_self
    exact run_least hb ts (putS l s t.2) (addF_fok hs hx) (fun u hu => hf u (List.mem_cons_of_mem _ hu)) (add_least hs hb hx h (ht t List.mem_cons_self)) fun u hu => ht u (List.mem_cons_of_mem _ hu)
theorem run_same {l : List Prd} {f : List Fct} (hf : FOk l f) : ∀ (ts : List (Stp × Fct)), (∀ t ∈ ts, factFine l t.2 = true) → (∀ t ∈ ts, underF l [t.2] f = true) → runL l (f, false) ts = (f, false)
  | [], _, _ => rfl
  | t :: ts, h1, h2 => by
    have : putS l (f, false) t.2 = (f, false) := by
      unfold putS
      rw [under_put hf (h1 t List.mem_cons_self) (h2 t List.mem_cons_self)]
      rfl
    show runL l (putS l (f, false) t.2) ts = _
    rw [this]
    exact run_same hf ts (fun u hu => h1 u (List.mem_cons_of_mem _ hu)) fun u hu => h2 u (List.mem_cons_of_mem _ hu)
theorem turn_run (l : List Prd) (f : List Fct) (ts : List (Stp × Fct)) : turnL l f ts = runL l (f, false) ts := rfl
section
variable {l : List Prd} {f : List Fct} {ts : List (Stp × Fct)} (hf : FOk l f) (ht : ∀ t ∈ ts, factFine l t.2 = true)
include hf ht
theorem turn_chg : (turnL l f ts).2 = decide ((turnL l f ts).1 ≠ f) := by
  have r := run_up ts (f, false) hf ht
  rw [turn_run]
  cases h : (runL l (f, false) ts).2
  · exact (decide_eq_false (fun e => e (r.no h).2)).symm
  · rcases r.yes h with h1 | h1
    · cases h1
    · exact (decide_eq_true h1).symm
theorem turn_above : underF l f (turnL l f ts).1 = true := (run_up ts (f, false) hf ht).up
theorem turn_no : (turnL l f ts).2 = false ↔ ∀ t ∈ ts, underF l [t.2] f = true := by
  have r := run_up ts (f, false) hf ht
  constructor
  · intro h t htm
    have := r.each t htm
    rwa [(r.no h).2] at this
  · intro h
    rw [turn_run, run_same hf ts ht h]
end
/-! ### Levels -/
end Go.TF
end
section
/- The model: rounds of each stratum until none changes anything: plain. -/
namespace Go.TF
open Go

/-! ### How often facts can be raised -/
/-! ### Until nothing is changed -/
inductive Clo (T : List Fct → List Fct × Bool) : List Fct → List Fct → Nat → Prop
  | stop {f : List Fct} (h : (T f).2 = false) : Clo T f f 0
  | step {f r : List Fct} {n : Nat} (h : (T f).2 = true) (c : Clo T (T f).1 r n) : Clo T f r (n + 1)
theorem Clo.uniq {T : List Fct → List Fct × Bool} {f r : List Fct} {n : Nat} (h : Clo T f r n) : ∀ {r' : List Fct} {n' : Nat}, Clo T f r' n' → r' = r ∧ n' = n := by
  induction h with
  | stop h =>
    intro r' n' h'
    cases h' with
    | stop _ => exact ⟨rfl, rfl⟩
    | step h2 _ => rw [h] at h2; cases h2
  | step h c ih =>
    intro r' n' h'
    cases h' with
    | stop h2 => rw [h] at h2; cases h2
    | step _ c' => obtain ⟨rfl, rfl⟩ := ih c'; exact ⟨rfl, rfl⟩
theorem Clo.end_ {T : List Fct → List Fct × Bool} {f r : List Fct} {n : Nat} (h : Clo T f r n) : (T r).2 = false := by
  induction h with
  | stop h => exact h
  | step _ _ ih => exact ih
/-- What holds ahead of a round holds behind all of them. -/
theorem Clo.inv {T : List Fct → List Fct × Bool} {J : List Fct → Prop} {f r : List Fct} {n : Nat} (h : Clo T f r n) (j0 : J f) (hs : ∀ g, J g → (T g).2 = true → J (T g).1) : J r := by
  induction h with
  | stop _ => exact j0
  | step h _ ih => exact ih (hs _ j0 h)
def CloB (T : List Fct → List Fct × Bool) (f0 : List Fct) (k : Nat) (f : List Fct) : Prop := ∀ r n, Clo T f r n → Clo T f0 r (k + n)
theorem CloB.zero {T : List Fct → List Fct × Bool} {f : List Fct} : CloB T f 0 f := fun r n h => by rw [Nat.zero_add]; exact h
theorem CloB.next {T : List Fct → List Fct × Bool} {f0 f : List Fct} {k : Nat} (h : CloB T f0 k f) (h2 : (T f).2 = true) : CloB T f0 (k + 1) (T f).1 := fun r n c => by
  have := h r (n + 1) (.step h2 c)
  rwa [show k + (n + 1) = k + 1 + n by omega] at this
theorem CloB.done {T : List Fct → List Fct × Bool} {f0 f : List Fct} {k : Nat} (h : CloB T f0 k f) (h2 : (T f).2 = false) : Clo T f0 f k := h f 0 (.stop h2)
/-! ### One stratum behind the other -/
def turnT (p : Prg) (M : List Int) (st : Int) (f : List Fct) : List Fct × Bool := turnL p.preds.xs f (toldL p.preds.xs f p.rules.xs (ofQ p M st))
def ModK (p : Prg) (M : List Int) : Nat → List Fct → List Int → Prop
  | 0, f, rs => f = [] ∧ rs = []
  | k + 1, f, rs => ∃ f0 rs0 n, ModK p M k f0 rs0 ∧ Clo (turnT p M k) f0 f n ∧ rs = rs0 ++ [(n : Int)]
theorem ModK.uniq {p : Prg} {M : List Int} : ∀ {k : Nat} {f f' : List Fct} {rs rs' : List Int}, ModK p M k f rs → ModK p M k f' rs' → f' = f ∧ rs' = rs
  | 0, _, _, _, _, ⟨h1, h2⟩, ⟨h3, h4⟩ => ⟨h3.trans h1.symm, h4.trans h2.symm⟩
  | k + 1, _, _, _, _, ⟨f0, r0, n, a, b, c⟩, ⟨f0', r0', n', a', b', c'⟩ => by
    obtain ⟨rfl, rfl⟩ := ModK.uniq a a'
    obtain ⟨rfl, rfl⟩ := b.uniq b'
    exact ⟨rfl, c'.trans c.symm⟩
theorem ModK.len {p : Prg} {M : List Int} : ∀ {k : Nat} {f : List Fct} {rs : List Int}, ModK p M k f rs → rs.length = k
  | 0, _, _, ⟨_, h⟩ => by rw [h]; rfl
  | k + 1, _, _, ⟨_, _, _, a, _, c⟩ => by rw [c, List.length_append, ModK.len a]; rfl
def mostL (l : List Int) : Int := l.foldl max (-1)
theorem foldl_max (l : List Int) : ∀ (a : Int), l.foldl max a = max a (l.foldl max a) ∧ (∀ x ∈ l, x ≤ l.foldl max a) ∧ (l.foldl max a = a ∨ l.foldl max a ∈ l) := by
  induction l with
  | nil => intro a; exact ⟨by simp, fun x hx => by simp at hx, .inl rfl⟩
  | cons y l ih =>
    intro a
    obtain ⟨h1, h2, h3⟩ := ih (max a y)
    rw [List.foldl_cons]
    refine ⟨by omega, fun x hx => ?_, ?_⟩
    · rcases List.mem_cons.1 hx with rfl | hx
      · omega
      · exact h2 x hx
    · rcases h3 with h3 | h3
      · rcases Int.le_total a y with h | h
        · right; rw [h3, Int.max_eq_right h]; exact List.mem_cons_self
        · left; rw [h3, Int.max_eq_left h]
      · exact .inr (List.mem_cons_of_mem _ h3)
theorem mostL_ge (l : List Int) : -1 ≤ mostL l := by have := (foldl_max l (-1)).1; unfold mostL; omega
theorem mostL_mem {l : List Int} {x : Int} (h : x ∈ l) : x ≤ mostL l := (foldl_max l (-1)).2.1 x h
theorem mostL_of (l : List Int) : mostL l = -1 ∨ mostL l ∈ l := (foldl_max l (-1)).2.2
abbrev numS (M : List Int) : Nat := (mostL M + 1).toNat
end Go.TF
end
section
/- The laws of rules: each returns true. -/
namespace Go.TF
open Go Go.RowKit Go.Proofs
set_option maxRecDepth 20000

theorem RoadsAt.le {p : Prg} {h h' : Heap} (x : RoadsAt p h) (hl : h.le h') : RoadsAt p h' := ⟨x.is.le hl, x.er, x.cap⟩
theorem RoadsAt.preds {p : Prg} {h : Heap} (x : RoadsAt p h) : p.preds.xs = roadsC.preds.xs := by have := congrArg (fun q : Prg => q.preds.xs) x.er; exact this
theorem RoadsAt.get {p : Prg} {h : Heap} (x : RoadsAt p h) {i : Nat} {r : Rul} (hr : roadsC.rules.xs[i]? = some r) : ∃ r', p.rules.xs[i]? = some r' ∧ r'.er = r := by
  have h1 := congrArg (fun q : Prg => q.rules.xs[i]?) x.er
  simp only [Prg.er, hr, List.getElem?_map, Option.map_eq_some_iff] at h1
  exact h1
theorem RoadsAt.atom {p : Prg} {h : Heap} (x : RoadsAt p h) {a b : Atm} (e : a.er = b) : checkAtom p.preds.xs a = checkAtom roadsC.preds.xs b := by rw [← checkAtom_er, e, x.preds]
theorem RoadsAt.rule {p : Prg} {h : Heap} (x : RoadsAt p h) {a b : Rul} (e : a.er = b) : checkRule p.preds.xs a = checkRule roadsC.preds.xs b := by rw [← checkRule_er, e, x.preds]
set_option maxHeartbeats 2000000 in
theorem FactFine_ok (B : Base) (hB : B.ok) (l : Sl Prd) (hl : Prds l B.h) (x : Fct) : Fn Tryz.prog 36 [l.val, x.val] B (fun v _ => v = .bool (factFine l.xs x)) := by
  have hsm := hl.small
  refine Fn.of Tryz.func36 rfl Tryz.ntmps36 (by kernel_rfl) (by simp) ?_
  intro e
  have I := Inv.start hB
  refine WP.seq ?_
  refine WP.region ?_
  refine Ops.go (O.box (v := .agg #[_, _, _, _]) I rfl rfl ?_)
  intro b3 w I
  refine Ops.y (v := .bool _) (Y.assign rfl) ?_
  refine Ops.nil ?_
  cases w1 : (!decide (within x.pred 0 ((l.xs.length : Int) - 1)))
  case true =>
    refine WP.seq ?_
    refine WP.seq ?_
    refine WP.region ?_
    refine Ops.y (v := .pointer (some ⟨_, _, none⟩)) (Y.fa0 fa_28_0 rfl) ?_
    refine Ops.y (v := .int .i64 _) (Y.loadv ty_3 rfl (I.rdbox 0 rfl 0 1) rfl rfl) ?_
    refine Ops.y (v := .slice _ _ _) (Y.move rfl) ?_
    refine Ops.y (v := .int .i64 _) (Y.lens Tryz.underlying22 rfl) ?_
    refine Ops.y (v := .int .i64 _) (Y.subi rfl rfl ⟨by omega, by omega⟩) ?_
    refine Ops.go (O.callv I Tryz.call37 (within_ok _ I.base_ok _ _ _) rfl ?_)
    intro w I
    refine Ops.y (v := .bool _) (Y.not rfl) ?_
    refine Ops.y (v := .bool true) (Y.b (Y.move rfl) (w1)) ?_
    refine Ops.gf rfl ?_
    refine Ops.gf rfl ?_
    refine Ops.gf rfl ?_
    refine Ops.gf rfl ?_
    refine Ops.y (v := .bool _) (Y.pick_t rfl rfl) ?_
    refine Ops.y (v := .bool _) (Y.move rfl) ?_
    refine Ops.gf rfl ?_
    refine Ops.gf rfl ?_
    refine Ops.gf rfl ?_
    refine Ops.gf rfl ?_
    refine Ops.y (v := .bool _) (Y.pick_t rfl rfl) ?_
    refine Ops.nil ?_
    refine WP.cond_t rfl ?_
    refine WP.seq ?_
    refine WP.region ?_
    refine Ops.y (v := .bool _) (Y.assign rfl) ?_
    refine Ops.nil ?_
    refine WP.ret ?_
    repeat (first | refine thenE_ret ?_ | refine blockE_ret ?_)
    exact retQ.mk (vs := [.bool _]) rfl ⟨rfl, trivial⟩ I.ext_of (by simp only [Bool.not_eq_true'] at w1; simp only [tup, factFine, w1, Bool.false_and])
  cases w2 : (!decide (within x.a 0 4))
  case true =>
    refine WP.seq ?_
    refine WP.seq ?_
    refine WP.region ?_
    refine Ops.y (v := .pointer (some ⟨_, _, none⟩)) (Y.fa0 fa_28_0 rfl) ?_
    refine Ops.y (v := .int .i64 _) (Y.loadv ty_3 rfl (I.rdbox 0 rfl 0 1) rfl rfl) ?_
    refine Ops.y (v := .slice _ _ _) (Y.move rfl) ?_
    refine Ops.y (v := .int .i64 _) (Y.lens Tryz.underlying22 rfl) ?_
    refine Ops.y (v := .int .i64 _) (Y.subi rfl rfl ⟨by omega, by omega⟩) ?_
    refine Ops.go (O.callv I Tryz.call37 (within_ok _ I.base_ok _ _ _) rfl ?_)
    intro w I
    refine Ops.y (v := .bool _) (Y.not rfl) ?_
    refine Ops.y (v := .bool false) (Y.b (Y.move rfl) (w1)) ?_
    refine Ops.ygt rfl (v := .pointer (some ⟨_, _, none⟩)) (Y.fa fa_28_1 rfl) ?_
    refine Ops.ygt rfl (v := .int .i64 _) (Y.loadv ty_3 rfl (I.rdbox 0 rfl 1 1) rfl rfl) ?_
    refine Ops.gt rfl (O.callv I Tryz.call37 (within_ok _ I.base_ok _ _ _) rfl ?_)
    intro w I
    refine Ops.ygt rfl (v := .bool true) (Y.b (Y.not rfl) (w2)) ?_
    refine Ops.y (v := .bool _) (Y.pick_f rfl rfl) ?_
    refine Ops.y (v := .bool _) (Y.move rfl) ?_
    refine Ops.gf rfl ?_
    refine Ops.gf rfl ?_
    refine Ops.gf rfl ?_
    refine Ops.gf rfl ?_
    refine Ops.y (v := .bool _) (Y.pick_t rfl rfl) ?_
    refine Ops.nil ?_
    refine WP.cond_t rfl ?_
    refine WP.seq ?_
    refine WP.region ?_
    refine Ops.y (v := .bool _) (Y.assign rfl) ?_
    refine Ops.nil ?_
    refine WP.ret ?_
    repeat (first | refine thenE_ret ?_ | refine blockE_ret ?_)
    exact retQ.mk (vs := [.bool _]) rfl ⟨rfl, trivial⟩ I.ext_of (by simp only [Bool.not_eq_true'] at w2; simp only [tup, factFine, w2, Bool.false_and, Bool.and_false])
  refine WP.seq ?_
  refine WP.seq ?_
  refine WP.region ?_
  refine Ops.y (v := .pointer (some ⟨_, _, none⟩)) (Y.fa0 fa_28_0 rfl) ?_
  refine Ops.y (v := .int .i64 _) (Y.loadv ty_3 rfl (I.rdbox 0 rfl 0 1) rfl rfl) ?_
  refine Ops.y (v := .slice _ _ _) (Y.move rfl) ?_
  refine Ops.y (v := .int .i64 _) (Y.lens Tryz.underlying22 rfl) ?_
  refine Ops.y (v := .int .i64 _) (Y.subi rfl rfl ⟨by omega, by omega⟩) ?_
  refine Ops.go (O.callv I Tryz.call37 (within_ok _ I.base_ok _ _ _) rfl ?_)
  intro w I
  refine Ops.y (v := .bool _) (Y.not rfl) ?_
  refine Ops.y (v := .bool false) (Y.b (Y.move rfl) (w1)) ?_
  refine Ops.ygt rfl (v := .pointer (some ⟨_, _, none⟩)) (Y.fa fa_28_1 rfl) ?_
  refine Ops.ygt rfl (v := .int .i64 _) (Y.loadv ty_3 rfl (I.rdbox 0 rfl 1 1) rfl rfl) ?_
  refine Ops.gt rfl (O.callv I Tryz.call37 (within_ok _ I.base_ok _ _ _) rfl ?_)
  intro w I
  refine Ops.ygt rfl (v := .bool false) (Y.b (Y.not rfl) (w2)) ?_
  refine Ops.y (v := .bool _) (Y.pick_f rfl rfl) ?_
  refine Ops.y (v := .bool _) (Y.move rfl) ?_
  refine Ops.ygt rfl (v := .pointer (some ⟨_, _, none⟩)) (Y.fa fa_28_2 rfl) ?_
  refine Ops.ygt rfl (v := .int .i64 _) (Y.loadv ty_3 rfl (I.rdbox 0 rfl 2 1) rfl rfl) ?_
  refine Ops.gt rfl (O.callv I Tryz.call37 (within_ok _ I.base_ok _ _ _) rfl ?_)
  intro w I
  refine Ops.ygt rfl (v := .bool _) (Y.not rfl) ?_
  refine Ops.y (v := .bool _) (Y.pick_f rfl rfl) ?_
  refine Ops.nil ?_
  refine WP.cond rfl (fun w3 => ?_) (fun w3 => ?_)
  · refine WP.seq ?_
    refine WP.region ?_
    refine Ops.y (v := .bool _) (Y.assign rfl) ?_
    refine Ops.nil ?_
    refine WP.ret ?_
    repeat (first | refine thenE_ret ?_ | refine blockE_ret ?_)
    exact retQ.mk (vs := [.bool _]) rfl ⟨rfl, trivial⟩ I.ext_of (by simp only [Bool.not_eq_true'] at w3; simp only [tup, factFine, w3, Bool.false_and, Bool.and_false])
  simp only [Bool.not_eq_false', decide_eq_true_eq] at w1 w2 w3
  have h0 : 0 ≤ x.pred ∧ x.pred < l.xs.length := by unfold within at w1; omega
  have hk : x.pred.toNat < l.xs.length := by omega
  have E1 := hl.at hk
  refine WP.skip ?_
  refine WP.seq ?_
  refine WP.region ?_
  refine Ops.y (v := .slice _ _ _) (Y.move rfl) ?_
  refine Ops.y (v := .pointer (some ⟨_, _, none⟩)) (Y.fa0 fa_28_0 rfl) ?_
  refine Ops.y (v := .int .i64 _) (Y.loadv ty_3 rfl (I.rdbox 0 rfl 0 1) rfl rfl) ?_
  refine Ops.y (v := .pointer (some ⟨_, _, none⟩)) (Y.idxEl E1 Tryz.underlying22 Tryz.sizeOf40 rfl rfl h0.1 rfl) ?_
  refine Ops.y (v := .agg #[_, _, _]) (Y.loadv ty_40 rfl (I.rd (E1.rd.part 0 3)) rfl rfl) ?_
  refine Ops.go (O.alloc I Tryz.zeroValue40 rfl ?_)
  intro b5 w I
  refine Ops.go (O.store (v := .agg #[_, _, _]) I ty_40 0 rfl rfl rfl rfl rfl rfl (Nat.le_of_ble_eq_true rfl) rfl ?_)
  intro w I
  refine Ops.nil ?_
  have hpo := predOf_getE h0.1 h0.2
  by_cases p1 : 1 ≤ l.xs[x.pred.toNat].arity
  · by_cases p2 : 2 ≤ l.xs[x.pred.toNat].arity
    · refine WP.seq ?_
      refine WP.region ?_
      refine Ops.y (v := .pointer (some ⟨_, _, none⟩)) (Y.fa fa_40_1 rfl) ?_
      refine Ops.y (v := .int .i64 _) (Y.loadv ty_3 rfl (I.rdbox 0 rfl 1 1) rfl rfl) ?_
      refine Ops.y (v := .bool true) (Y.dec_t (Y.gei rfl rfl) (p1)) ?_
      refine Ops.y (v := .bool _) (Y.move rfl) ?_
      refine Ops.gf rfl ?_
      refine Ops.gf rfl ?_
      refine Ops.gf rfl ?_
      refine Ops.y (v := .bool _) (Y.pick_t rfl rfl) ?_
      refine Ops.y (v := .bool _) (Y.move rfl) ?_
      refine Ops.ygt rfl (v := .pointer (some ⟨_, _, none⟩)) (Y.fa fa_40_1 rfl) ?_
      refine Ops.ygt rfl (v := .int .i64 _) (Y.loadv ty_3 rfl (I.rdbox 0 rfl 1 1) rfl rfl) ?_
      refine Ops.ygt rfl (v := .bool true) (Y.dec_t (Y.gei rfl rfl) (p2)) ?_
      refine Ops.ygt rfl (v := .bool _) (Y.move rfl) ?_
      refine Ops.gf rfl ?_
      refine Ops.gf rfl ?_
      refine Ops.gf rfl ?_
      refine Ops.ygt rfl (v := .bool _) (Y.pick_t rfl rfl) ?_
      refine Ops.y (v := .bool _) (Y.pick_t rfl rfl) ?_
      refine Ops.y (v := .bool _) (Y.move rfl) ?_
      refine Ops.ygt rfl (v := .pointer (some ⟨_, _, none⟩)) (Y.fa fa_40_2 rfl) ?_
      refine Ops.ygt rfl (v := .int .i64 _) (Y.loadv ty_3 rfl (I.rdbox 0 rfl 2 1) rfl rfl) ?_
      refine Ops.ygt rfl (v := .pointer (some ⟨_, _, none⟩)) (Y.fa fa_28_3 rfl) ?_
      refine Ops.ygt rfl (v := .int .i64 _) (Y.loadv ty_3 rfl (I.rdbox 1 rfl 3 1) rfl rfl) ?_
      refine Ops.gt rfl (O.callv I Tryz.call72 (CheckVal_ok _ I.base_ok _ _) rfl ?_)
      intro w I
      refine Ops.ygt rfl (v := .bool (decide _)) (Y.eqi rfl rfl) ?_
      refine Ops.y (v := .bool _) (Y.pick_t rfl rfl) ?_
      refine Ops.y (v := .bool _) (Y.assign rfl) ?_
      refine Ops.nil ?_
      refine WP.ret ?_
      repeat (first | refine thenE_ret ?_ | refine blockE_ret ?_)
      exact retQ.mk (vs := [.bool _]) rfl ⟨rfl, trivial⟩ I.ext_of (by simp [tup, factFine, w1, w2, w3, hpo, p1, p2])
    · by_cases b0 : x.b = 0
      · refine WP.seq ?_
        refine WP.region ?_
        refine Ops.y (v := .pointer (some ⟨_, _, none⟩)) (Y.fa fa_40_1 rfl) ?_
        refine Ops.y (v := .int .i64 _) (Y.loadv ty_3 rfl (I.rdbox 0 rfl 1 1) rfl rfl) ?_
        refine Ops.y (v := .bool true) (Y.dec_t (Y.gei rfl rfl) (p1)) ?_
        refine Ops.y (v := .bool _) (Y.move rfl) ?_
        refine Ops.gf rfl ?_
        refine Ops.gf rfl ?_
        refine Ops.gf rfl ?_
        refine Ops.y (v := .bool _) (Y.pick_t rfl rfl) ?_
        refine Ops.y (v := .bool _) (Y.move rfl) ?_
        refine Ops.ygt rfl (v := .pointer (some ⟨_, _, none⟩)) (Y.fa fa_40_1 rfl) ?_
        refine Ops.ygt rfl (v := .int .i64 _) (Y.loadv ty_3 rfl (I.rdbox 0 rfl 1 1) rfl rfl) ?_
        refine Ops.ygt rfl (v := .bool false) (Y.dec_f (Y.gei rfl rfl) (p2)) ?_
        refine Ops.ygt rfl (v := .bool _) (Y.move rfl) ?_
        refine Ops.ygt rfl (v := .pointer (some ⟨_, _, none⟩)) (Y.fa fa_28_2 rfl) ?_
        refine Ops.ygt rfl (v := .int .i64 _) (Y.loadv ty_3 rfl (I.rdbox 1 rfl 2 1) rfl rfl) ?_
        refine Ops.ygt rfl (v := .bool true) (Y.dec_t (Y.eqi rfl rfl) (b0)) ?_
        refine Ops.ygt rfl (v := .bool _) (Y.pick_f rfl rfl) ?_
        refine Ops.y (v := .bool _) (Y.pick_t rfl rfl) ?_
        refine Ops.y (v := .bool _) (Y.move rfl) ?_
        refine Ops.ygt rfl (v := .pointer (some ⟨_, _, none⟩)) (Y.fa fa_40_2 rfl) ?_
        refine Ops.ygt rfl (v := .int .i64 _) (Y.loadv ty_3 rfl (I.rdbox 0 rfl 2 1) rfl rfl) ?_
        refine Ops.ygt rfl (v := .pointer (some ⟨_, _, none⟩)) (Y.fa fa_28_3 rfl) ?_
        refine Ops.ygt rfl (v := .int .i64 _) (Y.loadv ty_3 rfl (I.rdbox 1 rfl 3 1) rfl rfl) ?_
        refine Ops.gt rfl (O.callv I Tryz.call72 (CheckVal_ok _ I.base_ok _ _) rfl ?_)
        intro w I
        refine Ops.ygt rfl (v := .bool (decide _)) (Y.eqi rfl rfl) ?_
        refine Ops.y (v := .bool _) (Y.pick_t rfl rfl) ?_
        refine Ops.y (v := .bool _) (Y.assign rfl) ?_
        refine Ops.nil ?_
        refine WP.ret ?_
        repeat (first | refine thenE_ret ?_ | refine blockE_ret ?_)
        exact retQ.mk (vs := [.bool _]) rfl ⟨rfl, trivial⟩ I.ext_of (by simp only [tup, factFine, w1, w2, w3, hpo, decide_true, Bool.true_and]; simp [p1, b0])
      · refine WP.seq ?_
        refine WP.region ?_
        refine Ops.y (v := .pointer (some ⟨_, _, none⟩)) (Y.fa fa_40_1 rfl) ?_
        refine Ops.y (v := .int .i64 _) (Y.loadv ty_3 rfl (I.rdbox 0 rfl 1 1) rfl rfl) ?_
        refine Ops.y (v := .bool true) (Y.dec_t (Y.gei rfl rfl) (p1)) ?_
        refine Ops.y (v := .bool _) (Y.move rfl) ?_
        refine Ops.gf rfl ?_
        refine Ops.gf rfl ?_
        refine Ops.gf rfl ?_
        refine Ops.y (v := .bool _) (Y.pick_t rfl rfl) ?_
        refine Ops.y (v := .bool _) (Y.move rfl) ?_
        refine Ops.ygt rfl (v := .pointer (some ⟨_, _, none⟩)) (Y.fa fa_40_1 rfl) ?_
        refine Ops.ygt rfl (v := .int .i64 _) (Y.loadv ty_3 rfl (I.rdbox 0 rfl 1 1) rfl rfl) ?_
        refine Ops.ygt rfl (v := .bool false) (Y.dec_f (Y.gei rfl rfl) (p2)) ?_
        refine Ops.ygt rfl (v := .bool _) (Y.move rfl) ?_
        refine Ops.ygt rfl (v := .pointer (some ⟨_, _, none⟩)) (Y.fa fa_28_2 rfl) ?_
        refine Ops.ygt rfl (v := .int .i64 _) (Y.loadv ty_3 rfl (I.rdbox 1 rfl 2 1) rfl rfl) ?_
        refine Ops.ygt rfl (v := .bool false) (Y.dec_f (Y.eqi rfl rfl) (b0)) ?_
        refine Ops.ygt rfl (v := .bool _) (Y.pick_f rfl rfl) ?_
        refine Ops.y (v := .bool _) (Y.pick_t rfl rfl) ?_
        refine Ops.y (v := .bool _) (Y.move rfl) ?_
        refine Ops.gf rfl ?_
        refine Ops.gf rfl ?_
        refine Ops.gf rfl ?_
        refine Ops.gf rfl ?_
        refine Ops.gf rfl ?_
        refine Ops.gf rfl ?_
        refine Ops.y (v := .bool _) (Y.pick_f rfl rfl) ?_
        refine Ops.y (v := .bool _) (Y.assign rfl) ?_
        refine Ops.nil ?_
        refine WP.ret ?_
        repeat (first | refine thenE_ret ?_ | refine blockE_ret ?_)
        exact retQ.mk (vs := [.bool _]) rfl ⟨rfl, trivial⟩ I.ext_of (by simp [tup, factFine, hpo, p2, b0])
  · by_cases a0 : x.a = 0
    · by_cases p2 : 2 ≤ l.xs[x.pred.toNat].arity
      · omega
      · by_cases b0 : x.b = 0
        · refine WP.seq ?_
          refine WP.region ?_
          refine Ops.y (v := .pointer (some ⟨_, _, none⟩)) (Y.fa fa_40_1 rfl) ?_
          refine Ops.y (v := .int .i64 _) (Y.loadv ty_3 rfl (I.rdbox 0 rfl 1 1) rfl rfl) ?_
          refine Ops.y (v := .bool false) (Y.dec_f (Y.gei rfl rfl) (p1)) ?_
          refine Ops.y (v := .bool _) (Y.move rfl) ?_
          refine Ops.ygt rfl (v := .pointer (some ⟨_, _, none⟩)) (Y.fa fa_28_1 rfl) ?_
          refine Ops.ygt rfl (v := .int .i64 _) (Y.loadv ty_3 rfl (I.rdbox 1 rfl 1 1) rfl rfl) ?_
          refine Ops.ygt rfl (v := .bool true) (Y.dec_t (Y.eqi rfl rfl) (a0)) ?_
          refine Ops.y (v := .bool _) (Y.pick_f rfl rfl) ?_
          refine Ops.y (v := .bool _) (Y.move rfl) ?_
          refine Ops.ygt rfl (v := .pointer (some ⟨_, _, none⟩)) (Y.fa fa_40_1 rfl) ?_
          refine Ops.ygt rfl (v := .int .i64 _) (Y.loadv ty_3 rfl (I.rdbox 0 rfl 1 1) rfl rfl) ?_
          refine Ops.ygt rfl (v := .bool false) (Y.dec_f (Y.gei rfl rfl) (p2)) ?_
          refine Ops.ygt rfl (v := .bool _) (Y.move rfl) ?_
          refine Ops.ygt rfl (v := .pointer (some ⟨_, _, none⟩)) (Y.fa fa_28_2 rfl) ?_
          refine Ops.ygt rfl (v := .int .i64 _) (Y.loadv ty_3 rfl (I.rdbox 1 rfl 2 1) rfl rfl) ?_
          refine Ops.ygt rfl (v := .bool true) (Y.dec_t (Y.eqi rfl rfl) (b0)) ?_
          refine Ops.ygt rfl (v := .bool _) (Y.pick_f rfl rfl) ?_
          refine Ops.y (v := .bool _) (Y.pick_t rfl rfl) ?_
          refine Ops.y (v := .bool _) (Y.move rfl) ?_
          refine Ops.ygt rfl (v := .pointer (some ⟨_, _, none⟩)) (Y.fa fa_40_2 rfl) ?_
          refine Ops.ygt rfl (v := .int .i64 _) (Y.loadv ty_3 rfl (I.rdbox 0 rfl 2 1) rfl rfl) ?_
          refine Ops.ygt rfl (v := .pointer (some ⟨_, _, none⟩)) (Y.fa fa_28_3 rfl) ?_
          refine Ops.ygt rfl (v := .int .i64 _) (Y.loadv ty_3 rfl (I.rdbox 1 rfl 3 1) rfl rfl) ?_
          refine Ops.gt rfl (O.callv I Tryz.call72 (CheckVal_ok _ I.base_ok _ _) rfl ?_)
          intro w I
          refine Ops.ygt rfl (v := .bool (decide _)) (Y.eqi rfl rfl) ?_
          refine Ops.y (v := .bool _) (Y.pick_t rfl rfl) ?_
          refine Ops.y (v := .bool _) (Y.assign rfl) ?_
          refine Ops.nil ?_
          refine WP.ret ?_
          repeat (first | refine thenE_ret ?_ | refine blockE_ret ?_)
          exact retQ.mk (vs := [.bool _]) rfl ⟨rfl, trivial⟩ I.ext_of (by simp only [tup, factFine, w1, w2, w3, hpo, decide_true, Bool.true_and]; simp [a0, b0])
        · refine WP.seq ?_
          refine WP.region ?_
          refine Ops.y (v := .pointer (some ⟨_, _, none⟩)) (Y.fa fa_40_1 rfl) ?_
          refine Ops.y (v := .int .i64 _) (Y.loadv ty_3 rfl (I.rdbox 0 rfl 1 1) rfl rfl) ?_
          refine Ops.y (v := .bool false) (Y.dec_f (Y.gei rfl rfl) (p1)) ?_
          refine Ops.y (v := .bool _) (Y.move rfl) ?_
          refine Ops.ygt rfl (v := .pointer (some ⟨_, _, none⟩)) (Y.fa fa_28_1 rfl) ?_
          refine Ops.ygt rfl (v := .int .i64 _) (Y.loadv ty_3 rfl (I.rdbox 1 rfl 1 1) rfl rfl) ?_
          refine Ops.ygt rfl (v := .bool true) (Y.dec_t (Y.eqi rfl rfl) (a0)) ?_
          refine Ops.y (v := .bool _) (Y.pick_f rfl rfl) ?_
          refine Ops.y (v := .bool _) (Y.move rfl) ?_
          refine Ops.ygt rfl (v := .pointer (some ⟨_, _, none⟩)) (Y.fa fa_40_1 rfl) ?_
          refine Ops.ygt rfl (v := .int .i64 _) (Y.loadv ty_3 rfl (I.rdbox 0 rfl 1 1) rfl rfl) ?_
          refine Ops.ygt rfl (v := .bool false) (Y.dec_f (Y.gei rfl rfl) (p2)) ?_
          refine Ops.ygt rfl (v := .bool _) (Y.move rfl) ?_
          refine Ops.ygt rfl (v := .pointer (some ⟨_, _, none⟩)) (Y.fa fa_28_2 rfl) ?_
          refine Ops.ygt rfl (v := .int .i64 _) (Y.loadv ty_3 rfl (I.rdbox 1 rfl 2 1) rfl rfl) ?_
          refine Ops.ygt rfl (v := .bool false) (Y.dec_f (Y.eqi rfl rfl) (b0)) ?_
          refine Ops.ygt rfl (v := .bool _) (Y.pick_f rfl rfl) ?_
          refine Ops.y (v := .bool _) (Y.pick_t rfl rfl) ?_
          refine Ops.y (v := .bool _) (Y.move rfl) ?_
          refine Ops.gf rfl ?_
          refine Ops.gf rfl ?_
          refine Ops.gf rfl ?_
          refine Ops.gf rfl ?_
          refine Ops.gf rfl ?_
          refine Ops.gf rfl ?_
          refine Ops.y (v := .bool _) (Y.pick_f rfl rfl) ?_
          refine Ops.y (v := .bool _) (Y.assign rfl) ?_
          refine Ops.nil ?_
          refine WP.ret ?_
          repeat (first | refine thenE_ret ?_ | refine blockE_ret ?_)
          exact retQ.mk (vs := [.bool _]) rfl ⟨rfl, trivial⟩ I.ext_of (by simp [tup, factFine, hpo, p2, b0])
    · refine WP.seq ?_
      refine WP.region ?_
      refine Ops.y (v := .pointer (some ⟨_, _, none⟩)) (Y.fa fa_40_1 rfl) ?_
      refine Ops.y (v := .int .i64 _) (Y.loadv ty_3 rfl (I.rdbox 0 rfl 1 1) rfl rfl) ?_
      refine Ops.y (v := .bool false) (Y.dec_f (Y.gei rfl rfl) (p1)) ?_
      refine Ops.y (v := .bool _) (Y.move rfl) ?_
      refine Ops.ygt rfl (v := .pointer (some ⟨_, _, none⟩)) (Y.fa fa_28_1 rfl) ?_
      refine Ops.ygt rfl (v := .int .i64 _) (Y.loadv ty_3 rfl (I.rdbox 1 rfl 1 1) rfl rfl) ?_
      refine Ops.ygt rfl (v := .bool false) (Y.dec_f (Y.eqi rfl rfl) (a0)) ?_
      refine Ops.y (v := .bool _) (Y.pick_f rfl rfl) ?_
      refine Ops.y (v := .bool _) (Y.move rfl) ?_
      refine Ops.gf rfl ?_
      refine Ops.gf rfl ?_
      refine Ops.gf rfl ?_
      refine Ops.gf rfl ?_
      refine Ops.gf rfl ?_
      refine Ops.gf rfl ?_
      refine Ops.gf rfl ?_
      refine Ops.gf rfl ?_
      refine Ops.y (v := .bool _) (Y.pick_f rfl rfl) ?_
      refine Ops.y (v := .bool _) (Y.move rfl) ?_
      refine Ops.gf rfl ?_
      refine Ops.gf rfl ?_
      refine Ops.gf rfl ?_
      refine Ops.gf rfl ?_
      refine Ops.gf rfl ?_
      refine Ops.gf rfl ?_
      refine Ops.y (v := .bool _) (Y.pick_f rfl rfl) ?_
      refine Ops.y (v := .bool _) (Y.assign rfl) ?_
      refine Ops.nil ?_
      refine WP.ret ?_
      repeat (first | refine thenE_ret ?_ | refine blockE_ret ?_)
      exact retQ.mk (vs := [.bool _]) rfl ⟨rfl, trivial⟩ I.ext_of (by simp [tup, factFine, hpo, p1, a0])

end Go.TF
end
section
/- slices.Clone at this program's types: the same, in memory of its own. -/
namespace Go.TF
open Go Go.RowKit Go.Proofs
set_option maxRecDepth 10000
theorem ClonePrd_ok (B : Base) (hB : B.ok) (l : Sl Prd) (hl : l.Is 3 Prd.enc B.h) (hb : l.xs.length * 32 ≤ 140737488355328) :
    Fn Tryz.prog 29 [l.val] B (fun v h => ∃ s : Sl Prd, v = s.val ∧ s.xs = l.xs ∧ OwnH 40 3 s Prd.enc B.h h ∧ (s.xs = [] → s.cap = 0)) := by
  refine Fn.of Tryz.func29 rfl Tryz.ntmps29 (by kernel_rfl) (by simp) ?_
  intro e
  have I := Inv.start hB
  refine WP.seq ?_
  refine WP.region ?_
  refine Ops.y (v := .slice _ _ _) (Y.assign rfl) ?_
  refine Ops.nil ?_
  refine WP.seq ?_
  refine WP.seq ?_
  refine WP.region ?_
  refine Ops.y (v := .slice _ _ _) (Y.move rfl) ?_
  refine Ops.y (v := .bool _) (Y.eqnil Tryz.underlying22 rfl rfl) ?_
  refine Ops.nil ?_
  refine WP.cond rfl (fun h => ?_) (fun h => ?_)
  · refine WP.seq ?_
    refine WP.region ?_
    refine Ops.y (v := .slice _ _ _) (Y.assign rfl) ?_
    refine Ops.nil ?_
    have hx : l.xs = [] := by
      cases hx : l.xs with
      | nil => rfl
      | cons a r =>
        have := (hl.el 0 a (by rw [hx]; rfl)).1
        simp only [this, Option.isNone_some] at h; cases h
    refine WP.ret ?_
    repeat (first | refine thenE_ret ?_ | refine blockE_ret ?_)
    exact retQ.mk (vs := [.slice _ _ _]) rfl ⟨rfl, trivial⟩ I.ext_of (⟨⟨none, 0, []⟩, rfl, hx.symm, .inl rfl, fun _ => rfl⟩)
  refine WP.skip ?_
  refine WP.seq ?_
  refine WP.region ?_
  refine Ops.go (O.mkE (α := Prd) Prd.enc I Tryz.underlying22 Tryz.sizeOf40 ?_)
  intro s5 h5 w I le5 e5 c5 a5 o5
  refine Ops.y (v := .slice _ _ _) (Y.move rfl) ?_
  refine Ops.go (O.appendE (α := Prd) I Tryz.underlying22 et_40 (fun _ => rfl) o5 le5 e5 c5 a5 (hl.el.le le5) rfl rfl (by omega) (by have := hl.small; omega) ?_)
  intro r h2 w I le2 hr o2 r0
  refine Ops.y (v := .slice _ _ _) (Y.assign rfl) ?_
  refine Ops.nil ?_
  refine WP.ret ?_
  repeat (first | refine thenE_ret ?_ | refine blockE_ret ?_)
  exact retQ.mk (vs := [.slice _ _ _]) rfl ⟨rfl, trivial⟩ I.ext_of (⟨r, rfl, hr, o2, r0⟩)
theorem CloneRul_ok (B : Base) (hB : B.ok) (l : Sl Rul) (hl : l.Is 5 Rul.enc B.h) (hb : l.xs.length * 80 ≤ 140737488355328) :
    Fn Tryz.prog 31 [l.val] B (fun v h => ∃ s : Sl Rul, v = s.val ∧ s.xs = l.xs ∧ OwnH 46 5 s Rul.enc B.h h ∧ (s.xs = [] → s.cap = 0)) := by
  refine Fn.of Tryz.func31 rfl Tryz.ntmps31 (by kernel_rfl) (by simp) ?_
  intro e
  have I := Inv.start hB
  refine WP.seq ?_
  refine WP.region ?_
  refine Ops.y (v := .slice _ _ _) (Y.assign rfl) ?_
  refine Ops.nil ?_
  refine WP.seq ?_
  refine WP.seq ?_
  refine WP.region ?_
  refine Ops.y (v := .slice _ _ _) (Y.move rfl) ?_
  refine Ops.y (v := .bool _) (Y.eqnil Tryz.underlying23 rfl rfl) ?_
  refine Ops.nil ?_
  refine WP.cond rfl (fun h => ?_) (fun h => ?_)
  · refine WP.seq ?_
    refine WP.region ?_
    refine Ops.y (v := .slice _ _ _) (Y.assign rfl) ?_
    refine Ops.nil ?_
    have hx : l.xs = [] := by
      cases hx : l.xs with
      | nil => rfl
      | cons a r =>
        have := (hl.el 0 a (by rw [hx]; rfl)).1
        simp only [this, Option.isNone_some] at h; cases h
    refine WP.ret ?_
    repeat (first | refine thenE_ret ?_ | refine blockE_ret ?_)
    exact retQ.mk (vs := [.slice _ _ _]) rfl ⟨rfl, trivial⟩ I.ext_of (⟨⟨none, 0, []⟩, rfl, hx.symm, .inl rfl, fun _ => rfl⟩)
  refine WP.skip ?_
  refine WP.seq ?_
  refine WP.region ?_
  refine Ops.go (O.mkE (α := Rul) Rul.enc I Tryz.underlying23 Tryz.sizeOf46 ?_)
  intro s5 h5 w I le5 e5 c5 a5 o5
  refine Ops.y (v := .slice _ _ _) (Y.move rfl) ?_
  refine Ops.go (O.appendE (α := Rul) I Tryz.underlying23 et_46 (fun _ => rfl) o5 le5 e5 c5 a5 (hl.el.le le5) rfl rfl (by omega) (by have := hl.small; omega) ?_)
  intro r h2 w I le2 hr o2 r0
  refine Ops.y (v := .slice _ _ _) (Y.assign rfl) ?_
  refine Ops.nil ?_
  refine WP.ret ?_
  repeat (first | refine thenE_ret ?_ | refine blockE_ret ?_)
  exact retQ.mk (vs := [.slice _ _ _]) rfl ⟨rfl, trivial⟩ I.ext_of (⟨r, rfl, hr, o2, r0⟩)
theorem CloneFct_ok (B : Base) (hB : B.ok) (l : Sl Fct) (hl : l.Is 4 Fct.enc B.h) (hb : l.xs.length * 32 ≤ 140737488355328) :
    Fn Tryz.prog 57 [l.val] B (fun v h => ∃ s : Sl Fct, v = s.val ∧ s.xs = l.xs ∧ OwnH 28 4 s Fct.enc B.h h ∧ (s.xs = [] → s.cap = 0)) := by
  refine Fn.of Tryz.func57 rfl Tryz.ntmps57 (by kernel_rfl) (by simp) ?_
  intro e
  have I := Inv.start hB
  refine WP.seq ?_
  refine WP.region ?_
  refine Ops.y (v := .slice _ _ _) (Y.assign rfl) ?_
  refine Ops.nil ?_
  refine WP.seq ?_
  refine WP.seq ?_
  refine WP.region ?_
  refine Ops.y (v := .slice _ _ _) (Y.move rfl) ?_
  refine Ops.y (v := .bool _) (Y.eqnil Tryz.underlying26 rfl rfl) ?_
  refine Ops.nil ?_
  refine WP.cond rfl (fun h => ?_) (fun h => ?_)
  · refine WP.seq ?_
    refine WP.region ?_
    refine Ops.y (v := .slice _ _ _) (Y.assign rfl) ?_
    refine Ops.nil ?_
    have hx : l.xs = [] := by
      cases hx : l.xs with
      | nil => rfl
      | cons a r =>
        have := (hl.el 0 a (by rw [hx]; rfl)).1
        simp only [this, Option.isNone_some] at h; cases h
    refine WP.ret ?_
    repeat (first | refine thenE_ret ?_ | refine blockE_ret ?_)
    exact retQ.mk (vs := [.slice _ _ _]) rfl ⟨rfl, trivial⟩ I.ext_of (⟨⟨none, 0, []⟩, rfl, hx.symm, .inl rfl, fun _ => rfl⟩)
  refine WP.skip ?_
  refine WP.seq ?_
  refine WP.region ?_
  refine Ops.go (O.mkE (α := Fct) Fct.enc I Tryz.underlying26 Tryz.sizeOf28 ?_)
  intro s5 h5 w I le5 e5 c5 a5 o5
  refine Ops.y (v := .slice _ _ _) (Y.move rfl) ?_
  refine Ops.go (O.appendE (α := Fct) I Tryz.underlying26 et_28 (fun _ => rfl) o5 le5 e5 c5 a5 (hl.el.le le5) rfl rfl (by omega) (by have := hl.small; omega) ?_)
  intro r h2 w I le2 hr o2 r0
  refine Ops.y (v := .slice _ _ _) (Y.assign rfl) ?_
  refine Ops.nil ?_
  refine WP.ret ?_
  repeat (first | refine thenE_ret ?_ | refine blockE_ret ?_)
  exact retQ.mk (vs := [.slice _ _ _]) rfl ⟨rfl, trivial⟩ I.ext_of (⟨r, rfl, hr, o2, r0⟩)
end Go.TF
end
section
/- Places of facts, their order; which may be; checks of facts. -/
namespace Go.TF
open Go Go.RowKit Go.Proofs
set_option maxRecDepth 20000

@[reducible] def nEnc (n : Int) : List Value := [.int .i64 n]
/-- A variable that is never written again. -/
structure Known (h : Heap) (b : Nat) (cs : List Value) : Prop where
  rd : RdH h b 0 cs
theorem Known.le {h h' : Heap} {b : Nat} {cs : List Value} (k : Known h b cs) (hl : h.le h') : Known h' b cs := ⟨k.rd.le hl⟩
theorem Inv.settleBox {B : Base} {h : Heap} {M : List SA} {w : World} {b : Nat} {cs : List Value} {T : TypeId} (I : Inv B h (box b cs T :: M) w) : ∃ h', h.le h' ∧ Known h' b cs ∧ Inv B h' M w := by
  have hb := I.at 0 rfl
  obtain ⟨h', hle, hfp, J⟩ := I.settle
  refine ⟨h', hle, ⟨fun j v hv => ?_⟩, J⟩
  have : h' b = some (.cells cs.toArray T (0, 0)) := (hfp b (by simp [box])).trans hb
  simp only [Heap.cell, this, Nat.zero_add]
  simpa using hv
theorem place_ok (B : Base) (hB : B.ok) (x : Fct) (hx : PF x) : Fn Tryz.prog 42 [x.val] B (fun v _ => v = .int .i64 (placeF x)) := by
  obtain ⟨h1, h2, h3, h4, h5, h6⟩ := hx
  refine Fn.of Tryz.func42 rfl Tryz.ntmps42 (by kernel_rfl) (by simp) ?_
  intro e
  have I := Inv.start hB
  refine WP.seq ?_
  refine WP.region ?_
  refine Ops.go (O.box (v := .agg #[_, _, _, _]) I rfl rfl ?_)
  intro b1 w I
  refine Ops.y (v := .int .i64 _) (Y.assign rfl) ?_
  refine Ops.nil ?_
  refine WP.seq ?_
  refine WP.region ?_
  refine Ops.y (v := .pointer (some ⟨_, _, none⟩)) (Y.fa0 fa_28_0 rfl) ?_
  refine Ops.y (v := .int .i64 _) (Y.loadv ty_3 rfl (I.rdbox 0 rfl 0 1) rfl rfl) ?_
  refine Ops.y (v := .int .i64 _) (Y.muli rfl rfl ⟨by omega, by omega⟩) ?_
  refine Ops.y (v := .pointer (some ⟨_, _, none⟩)) (Y.fa fa_28_1 rfl) ?_
  refine Ops.y (v := .int .i64 _) (Y.loadv ty_3 rfl (I.rdbox 0 rfl 1 1) rfl rfl) ?_
  refine Ops.y (v := .int .i64 _) (Y.addi rfl rfl ⟨by omega, by omega⟩) ?_
  refine Ops.y (v := .int .i64 _) (Y.muli rfl rfl ⟨by omega, by omega⟩) ?_
  refine Ops.y (v := .pointer (some ⟨_, _, none⟩)) (Y.fa fa_28_2 rfl) ?_
  refine Ops.y (v := .int .i64 _) (Y.loadv ty_3 rfl (I.rdbox 0 rfl 2 1) rfl rfl) ?_
  refine Ops.y (v := .int .i64 _) (Y.addi rfl rfl ⟨by omega, by omega⟩) ?_
  refine Ops.y (v := .int .i64 _) (Y.assign rfl) ?_
  refine Ops.nil ?_
  refine WP.ret ?_
  repeat (first | refine thenE_ret ?_ | refine blockE_ret ?_)
  exact retQ.mk (vs := [.int .i64 _]) rfl ⟨rfl, trivial⟩ I.ext_of (rfl)
theorem isNaN_ok (B : Base) (hB : B.ok) (a : Int) : Fn Tryz.prog 119 [.int .i64 a] B (fun v _ => v = .bool false) := by
  refine Fn.of Tryz.func119 rfl Tryz.ntmps119 (by kernel_rfl) (by simp) ?_
  intro e
  have I := Inv.start hB
  refine WP.seq ?_
  refine WP.region ?_
  refine Ops.y (v := .bool _) (Y.assign rfl) ?_
  refine Ops.nil ?_
  refine WP.seq ?_
  refine WP.region ?_
  refine Ops.y (v := .int .i64 _) (Y.move rfl) ?_
  refine Ops.y (v := .int .i64 _) (Y.move rfl) ?_
  refine Ops.y (v := .bool (decide _)) (Y.nei rfl rfl) ?_
  refine Ops.y (v := .bool _) (Y.assign rfl) ?_
  refine Ops.nil ?_
  refine WP.ret ?_
  repeat (first | refine thenE_ret ?_ | refine blockE_ret ?_)
  exact retQ.mk (vs := [.bool _]) rfl ⟨rfl, trivial⟩ I.ext_of (by simp only [tup]; simp)
theorem Compare_ok (B : Base) (hB : B.ok) (a b : Int) : Fn Tryz.prog 104 [.int .i64 a, .int .i64 b] B (fun v _ => v = .int .i64 (cmpI a b)) := by
  refine Fn.of Tryz.func104 rfl Tryz.ntmps104 (by kernel_rfl) (by simp) ?_
  intro e
  have I := Inv.start hB
  refine WP.seq ?_
  refine WP.region ?_
  refine Ops.y (v := .int .i64 _) (Y.assign rfl) ?_
  refine Ops.nil ?_
  refine WP.seq ?_
  refine WP.region ?_
  refine Ops.y (v := .int .i64 _) (Y.move rfl) ?_
  refine Ops.go (O.callv I Tryz.call119 (isNaN_ok _ I.base_ok a) rfl ?_)
  intro w I
  refine Ops.y (v := .bool _) (Y.assign rfl) ?_
  refine Ops.nil ?_
  refine WP.seq ?_
  refine WP.region ?_
  refine Ops.y (v := .int .i64 _) (Y.move rfl) ?_
  refine Ops.go (O.callv I Tryz.call119 (isNaN_ok _ I.base_ok b) rfl ?_)
  intro w I
  refine Ops.y (v := .bool _) (Y.assign rfl) ?_
  refine Ops.nil ?_
  refine WP.seq ?_
  refine WP.seq ?_
  refine WP.region ?_
  refine Ops.y (v := .bool _) (Y.move rfl) ?_
  refine Ops.nil ?_
  refine WP.cond_f rfl ?_
  refine WP.skip ?_
  refine WP.seq ?_
  refine WP.seq ?_
  refine WP.region ?_
  refine Ops.y (v := .bool _) (Y.move rfl) ?_
  refine Ops.nil ?_
  refine WP.cond_f rfl ?_
  refine WP.skip ?_
  refine WP.seq ?_
  refine WP.seq ?_
  refine WP.region ?_
  refine Ops.y (v := .int .i64 _) (Y.move rfl) ?_
  refine Ops.y (v := .int .i64 _) (Y.move rfl) ?_
  refine Ops.y (v := .bool (decide _)) (Y.lti rfl rfl) ?_
  refine Ops.nil ?_
  refine WP.cond_dec rfl (fun h1 => ?_) (fun h1 => ?_)
  · refine WP.seq ?_
    refine WP.region ?_
    refine Ops.y (v := .int .i64 _) (Y.assign rfl) ?_
    refine Ops.nil ?_
    refine WP.ret ?_
    repeat (first | refine thenE_ret ?_ | refine blockE_ret ?_)
    exact retQ.mk (vs := [.int .i64 _]) rfl ⟨rfl, trivial⟩ I.ext_of (by simp only [tup, cmpI]; rw [if_pos h1])
  refine WP.skip ?_
  refine WP.seq ?_
  refine WP.seq ?_
  refine WP.region ?_
  refine Ops.y (v := .int .i64 _) (Y.move rfl) ?_
  refine Ops.y (v := .int .i64 _) (Y.move rfl) ?_
  refine Ops.y (v := .bool (decide _)) (Y.gti rfl rfl) ?_
  refine Ops.nil ?_
  refine WP.cond_dec rfl (fun h2 => ?_) (fun h2 => ?_)
  · refine WP.seq ?_
    refine WP.region ?_
    refine Ops.y (v := .int .i64 _) (Y.assign rfl) ?_
    refine Ops.nil ?_
    refine WP.ret ?_
    repeat (first | refine thenE_ret ?_ | refine blockE_ret ?_)
    exact retQ.mk (vs := [.int .i64 _]) rfl ⟨rfl, trivial⟩ I.ext_of (by simp only [tup, cmpI]; rw [if_neg h1, if_pos h2])
  refine WP.skip ?_
  refine WP.seq ?_
  refine WP.region ?_
  refine Ops.y (v := .int .i64 _) (Y.assign rfl) ?_
  refine Ops.nil ?_
  refine WP.ret ?_
  repeat (first | refine thenE_ret ?_ | refine blockE_ret ?_)
  exact retQ.mk (vs := [.int .i64 _]) rfl ⟨rfl, trivial⟩ I.ext_of (by simp only [tup, cmpI]; rw [if_neg h1, if_neg h2])
def orC (xs : List Int) : Int := (xs.find? fun n => decide (n ≠ 0)).getD 0
theorem orC_hit {xs : List Int} {k : Nat} (hk : k < xs.length) (h : ∀ j, j < k → ∀ hj : j < xs.length, xs[j] = 0) (hp : xs[k] ≠ 0) : orC xs = xs[k] := by
  have : xs.find? (fun n => decide (n ≠ 0)) = some xs[k] := List.find?_eq_some_iff_getElem.2 ⟨by simpa using hp, k, hk, rfl, fun j hj => by simpa using h j hj (by omega)⟩
  simp only [orC, this, Option.getD_some]
theorem orC_none {xs : List Int} (h : ∀ j, ∀ hj : j < xs.length, xs[j] = 0) : orC xs = 0 := by
  have : xs.find? (fun n => decide (n ≠ 0)) = none := List.find?_eq_none.2 fun x hx => by
    obtain ⟨j, hj, rfl⟩ := List.getElem_of_mem hx
    simpa using h j hj
  simp only [orC, this, Option.getD_none]
theorem cmpOr_ok (B : Base) (hB : B.ok) (l : Sl Int) (hl : l.Is 1 nEnc B.h) : Fn Tryz.prog 108 [l.val] B (fun v _ => v = .int .i64 (orC l.xs)) := by
  have hsm := hl.small
  refine Fn.of Tryz.func108 rfl Tryz.ntmps108 (by kernel_rfl) (by simp) ?_
  intro e
  have I := Inv.start hB
  refine WP.seq ?_
  refine WP.region ?_
  refine Ops.y (v := .int .i64 _) (Y.assign rfl) ?_
  refine Ops.nil ?_
  refine WP.seq ?_
  refine WP.region ?_
  refine Ops.y (v := .int .i64 _) (Y.assign rfl) ?_
  refine Ops.nil ?_
  refine WP.seq ?_
  refine WP.seq ?_
  refine WP.region ?_
  refine Ops.y (v := .slice _ _ _) (Y.move rfl) ?_
  refine Ops.y (v := .int .i64 _) (Y.lens Tryz.underlying62 rfl) ?_
  refine Ops.y (v := .int .i64 _) (Y.move rfl) ?_
  refine Ops.nil ?_
  refine WP.block ?_
  refine WP.loopE (σ := Nat) (fun k => [(3, .int .i64 0), (6, l.val), (7, .int .i64 l.xs.length), (8, .int .i64 k)]) (fun k w => Inv B B.h [] w ∧ k ≤ l.xs.length ∧ ∀ j, j < k → ∀ hj : j < l.xs.length, l.xs[j] = 0) (fun k => l.xs.length - k)
    ⟨0, ⟨rfl, rfl, rfl, rfl, trivial⟩, I, Nat.zero_le _, fun j hj => by omega⟩ ?_
  rintro k e w ⟨I, hk, hn⟩
  refine WP.seq ?_
  refine WP.region ?_
  refine Ops.y (v := .bool (decide _)) (Y.lti rfl rfl) ?_
  refine Ops.nil ?_
  refine WP.seq ?_
  refine WP.cond_dec rfl (fun h => ?_) (fun h => ?_)
  · have hk' : k < l.xs.length := by omega
    have E1 := hl.at hk'
    refine WP.skip ?_
    refine WP.seq ?_
    refine WP.block ?_
    refine WP.seq ?_
    refine WP.region ?_
    refine Ops.y (v := .pointer (some ⟨_, _, none⟩)) (Y.idxEl E1 Tryz.underlying62 Tryz.sizeOf3 rfl rfl (Int.natCast_nonneg _) rfl) ?_
    refine Ops.y (v := .int .i64 _) (Y.loadv ty_3 rfl (I.rd (E1.rd.part 0 1)) rfl rfl) ?_
    refine Ops.y (v := .int .i64 _) (Y.assign rfl) ?_
    refine Ops.nil ?_
    refine WP.seq ?_
    refine WP.region ?_
    refine Ops.y (v := .int .i64 _) (Y.move rfl) ?_
    refine Ops.y (v := .int .i64 _) (Y.move rfl) ?_
    refine Ops.y (v := .bool (decide _)) (Y.nei rfl rfl) ?_
    refine Ops.nil ?_
    refine WP.cond_dec rfl (fun h5 => ?_) (fun h5 => ?_)
    · refine WP.seq ?_
      refine WP.region ?_
      refine Ops.y (v := .int .i64 _) (Y.move rfl) ?_
      refine Ops.y (v := .int .i64 _) (Y.assign rfl) ?_
      refine Ops.nil ?_
      refine WP.ret ?_
      repeat (first | refine thenE_ret ?_ | refine blockE_ret ?_)
      exact retQ.mk (vs := [.int .i64 _]) rfl ⟨rfl, trivial⟩ I.ext_of (by simp only [tup]; rw [orC_hit hk' hn h5])
    refine WP.skip ?_
    refine WP.region ?_
    refine Ops.y (v := .int .i64 _) (Y.addi rfl rfl ⟨by omega, by omega⟩) ?_
    refine Ops.y (v := .int .i64 _) (Y.move rfl) ?_
    refine Ops.nil ?_
    exact ⟨k + 1, ⟨⟨rfl, rfl, rfl, rfl, trivial⟩, I, by omega, fun j hj hj' => by
      rcases Nat.lt_succ_iff_lt_or_eq.1 hj with h' | rfl
      · exact hn j h' hj'
      · exact Decidable.not_not.1 h5⟩, by omega⟩
  refine WP.exit ?_
  refine WP.seq ?_
  refine WP.region ?_
  refine Ops.y (v := .int .i64 _) (Y.move rfl) ?_
  refine Ops.y (v := .int .i64 _) (Y.assign rfl) ?_
  refine Ops.nil ?_
  refine WP.ret ?_
  repeat (first | refine thenE_ret ?_ | refine blockE_ret ?_)
  exact retQ.mk (vs := [.int .i64 _]) rfl ⟨rfl, trivial⟩ I.ext_of (by simp only [tup]; rw [orC_none fun j hj => hn j (by omega) hj])
theorem orC_three (a b c : Int) : orC [a, b, c] = if a ≠ 0 then a else if b ≠ 0 then b else c := by
  unfold orC
  by_cases ha : a = 0
  · by_cases hb : b = 0
    · by_cases hc : c = 0 <;> simp [ha, hb, hc]
    · simp [ha, hb]
  · simp [ha]
theorem order_ok (B : Base) (hB : B.ok) (x y : Fct) : Fn Tryz.prog 82 [x.val, y.val] B (fun v _ => v = .int .i64 (ordF x y)) := by
  refine Fn.of Tryz.func82 rfl Tryz.ntmps82 (by kernel_rfl) (by simp) ?_
  intro e
  have I := Inv.start hB
  refine WP.seq ?_
  refine WP.region ?_
  refine Ops.go (O.box (v := .agg #[_, _, _, _]) I rfl rfl ?_)
  intro b2 w I
  refine Ops.go (O.box (v := .agg #[_, _, _, _]) I rfl rfl ?_)
  intro b3 w I
  refine Ops.y (v := .int .i64 _) (Y.assign rfl) ?_
  refine Ops.nil ?_
  refine WP.seq ?_
  refine WP.regionF mixed I 18 (by kernel_rfl) ?_
  refine OpsF.y_ (v := .pointer (some ⟨_, _, none⟩)) (fun _ => runs_none _) (fun _ w us hl I => Y.fa0 fa_28_0 rfl) ?_
  refine OpsF.y_ (v := .int .i64 _) (fun _ => runs_none _) (fun _ w us hl I => Y.loadv ty_3 rfl (I.rdbox 1 rfl 0 1) rfl rfl) ?_
  refine OpsF.y_ (v := .pointer (some ⟨_, _, none⟩)) (fun _ => runs_none _) (fun _ w us hl I => Y.fa0 fa_28_0 rfl) ?_
  refine OpsF.y_ (v := .int .i64 _) (fun _ => runs_none _) (fun _ w us hl I => Y.loadv ty_3 rfl (I.rdbox 0 rfl 0 1) rfl rfl) ?_
  refine OpsF.c_ (fun _ => runs_none _) (fun _ w us hl I => O.callv I Tryz.call104 (Compare_ok _ I.base_ok _ _) rfl (fun w' I' => ⟨rfl, I'⟩)) ?_
  refine OpsF.y_ (v := .pointer (some ⟨_, _, none⟩)) (fun _ => runs_none _) (fun _ w us hl I => Y.fa fa_28_1 rfl) ?_
  refine OpsF.y_ (v := .int .i64 _) (fun _ => runs_none _) (fun _ w us hl I => Y.loadv ty_3 rfl (I.rdbox 1 rfl 1 1) rfl rfl) ?_
  refine OpsF.y_ (v := .pointer (some ⟨_, _, none⟩)) (fun _ => runs_none _) (fun _ w us hl I => Y.fa fa_28_1 rfl) ?_
  refine OpsF.y_ (v := .int .i64 _) (fun _ => runs_none _) (fun _ w us hl I => Y.loadv ty_3 rfl (I.rdbox 0 rfl 1 1) rfl rfl) ?_
  refine OpsF.c_ (fun _ => runs_none _) (fun _ w us hl I => O.callv I Tryz.call104 (Compare_ok _ I.base_ok _ _) rfl (fun w' I' => ⟨rfl, I'⟩)) ?_
  refine OpsF.y_ (v := .pointer (some ⟨_, _, none⟩)) (fun _ => runs_none _) (fun _ w us hl I => Y.fa fa_28_2 rfl) ?_
  refine OpsF.y_ (v := .int .i64 _) (fun _ => runs_none _) (fun _ w us hl I => Y.loadv ty_3 rfl (I.rdbox 1 rfl 2 1) rfl rfl) ?_
  refine OpsF.y_ (v := .pointer (some ⟨_, _, none⟩)) (fun _ => runs_none _) (fun _ w us hl I => Y.fa fa_28_2 rfl) ?_
  refine OpsF.y_ (v := .int .i64 _) (fun _ => runs_none _) (fun _ w us hl I => Y.loadv ty_3 rfl (I.rdbox 0 rfl 2 1) rfl rfl) ?_
  refine OpsF.c_ (fun _ => runs_none _) (fun _ w us hl I => O.callv I Tryz.call104 (Compare_ok _ I.base_ok _ _) rfl (fun w' I' => ⟨rfl, I'⟩)) ?_
  refine OpsF.x_ (Φ := SlS 1 nEnc [cmpI x.pred y.pred, cmpI x.a y.a, cmpI x.b y.b]) SlS.mono (fun _ => runs_none _) ?_ ?_
  · intro _ w hl I
    exact O.mksl (xs := [cmpI x.pred y.pred, cmpI x.a y.a, cmpI x.b y.b]) (enc := nEnc) I Tryz.underlying62 Tryz.sizeOf3 Tryz.zeroValue3 rfl (Nat.le_of_ble_eq_true rfl) rfl rfl (by decide) (fun _ => rfl) (fun b h w I le sl => ⟨h, le, I, ⟨⟨some ⟨b, 0, none⟩, _, [cmpI x.pred y.pred, cmpI x.a y.a, cmpI x.b y.b]⟩, rfl, rfl, ⟨sl, by simp⟩⟩⟩)
  refine OpsF.d_ (v := .int .i64 (ordF x y)) (fun _ => runs_none _) ?_ ?_
  · intro _ w hl I u20 q20
    obtain ⟨s, rfl, es, hs⟩ := q20 rfl
    exact O.callv I Tryz.call108 (cmpOr_ok _ I.base_ok s hs) rfl (fun w' I' => ⟨congrArg (Value.int .i64) ((congrArg orC es).trans (orC_three _ _ _)), I'⟩)
  refine OpsF.y_ (v := .int .i64 _) (fun _ => runs_none _) (fun _ w us hl I => Y.assign rfl) ?_
  refine OpsF.nil ?_
  intro _ w hl I u20 q20
  refine Ops.nil ?_
  refine WP.ret ?_
  repeat (first | refine thenE_ret ?_ | refine blockE_ret ?_)
  exact retQ.mk (vs := [.int .i64 _]) rfl ⟨rfl, trivial⟩ I.ext_of (rfl)
def mostA (p : Prd) (n : Int) : Int := if p.arity < n then 0 else 4
theorem Fine1_ok (B : Base) (hB : B.ok) (b : Nat) (p : Prd) (hb : Known B.h b p.enc) (n : Int) : Fn Tryz.prog 84 [.int .i64 n, .pointer (some ⟨b, 0, none⟩)] B (fun v _ => v = .int .i64 (mostA p n)) := by
  refine Fn.of Tryz.func84 rfl Tryz.ntmps84 (by kernel_rfl) (by simp) ?_
  intro e
  have I := Inv.start hB
  refine WP.seq ?_
  refine WP.region ?_
  refine Ops.y (v := .int .i64 _) (Y.assign rfl) ?_
  refine Ops.nil ?_
  refine WP.seq ?_
  refine WP.seq ?_
  refine WP.region ?_
  refine Ops.y (v := .pointer (some ⟨_, _, none⟩)) (Y.fa fa_40_1 rfl) ?_
  refine Ops.y (v := .int .i64 _) (Y.loadv ty_3 rfl (I.rd (hb.rd.part 1 1)) rfl rfl) ?_
  refine Ops.y (v := .int .i64 _) (Y.move rfl) ?_
  refine Ops.y (v := .bool (decide _)) (Y.lti rfl rfl) ?_
  refine Ops.nil ?_
  refine WP.cond_dec rfl (fun h => ?_) (fun h => ?_)
  · refine WP.seq ?_
    refine WP.region ?_
    refine Ops.y (v := .int .i64 _) (Y.assign rfl) ?_
    refine Ops.nil ?_
    refine WP.ret ?_
    repeat (first | refine thenE_ret ?_ | refine blockE_ret ?_)
    exact retQ.mk (vs := [.int .i64 _]) rfl ⟨rfl, trivial⟩ I.ext_of (by simp only [tup, mostA]; rw [if_pos h])
  refine WP.skip ?_
  refine WP.seq ?_
  refine WP.region ?_
  refine Ops.y (v := .int .i64 _) (Y.assign rfl) ?_
  refine Ops.nil ?_
  refine WP.ret ?_
  repeat (first | refine thenE_ret ?_ | refine blockE_ret ?_)
  exact retQ.mk (vs := [.int .i64 _]) rfl ⟨rfl, trivial⟩ I.ext_of (by simp only [tup, mostA]; rw [if_neg h])
theorem fine_code {l : List Prd} {x : Fct} (h : 0 ≤ x.pred ∧ x.pred < l.length) :
    factFine l x = decide (0 ≤ x.a ∧ x.a ≤ mostA (predOf l x.pred) 1 ∧ 0 ≤ x.b ∧ x.b ≤ mostA (predOf l x.pred) 2 ∧ checkVal (predOf l x.pred).kind x.v = 0) := by
  rw [Bool.eq_iff_iff, fine_iff, decide_eq_true_eq]
  unfold mostA VOk
  (repeat' split) <;> omega
theorem Fine_ok (B : Base) (hB : B.ok) (l : Sl Prd) (hl : Prds l B.h) (x : Fct) : Fn Tryz.prog 54 [l.val, x.val] B (fun v _ => v = .bool (factFine l.xs x)) := by
  have hsm := hl.small
  refine Fn.of Tryz.func54 rfl Tryz.ntmps54 (by kernel_rfl) (by simp) ?_
  intro e
  have I := Inv.start hB
  refine WP.seq ?_
  refine WP.region ?_
  refine Ops.go (O.box (v := .agg #[_, _, _, _]) I rfl rfl ?_)
  intro b3 w I
  refine Ops.y (v := .bool _) (Y.assign rfl) ?_
  refine Ops.nil ?_
  refine WP.seq ?_
  refine WP.seq ?_
  by_cases o0 : x.pred < 0
  · refine WP.region ?_
    refine Ops.y (v := .pointer (some ⟨_, _, none⟩)) (Y.fa0 fa_28_0 rfl) ?_
    refine Ops.y (v := .int .i64 _) (Y.loadv ty_3 rfl (I.rdbox 0 rfl 0 1) rfl rfl) ?_
    refine Ops.y (v := .bool true) (Y.dec_t (Y.lti rfl rfl) (o0)) ?_
    refine Ops.y (v := .bool _) (Y.move rfl) ?_
    refine Ops.gf rfl ?_
    refine Ops.gf rfl ?_
    refine Ops.gf rfl ?_
    refine Ops.gf rfl ?_
    refine Ops.gf rfl ?_
    refine Ops.y (v := .bool _) (Y.pick_t rfl rfl) ?_
    refine Ops.nil ?_
    refine WP.cond_t rfl ?_
    refine WP.seq ?_
    refine WP.region ?_
    refine Ops.y (v := .bool _) (Y.assign rfl) ?_
    refine Ops.nil ?_
    refine WP.ret ?_
    repeat (first | refine thenE_ret ?_ | refine blockE_ret ?_)
    exact retQ.mk (vs := [.bool _]) rfl ⟨rfl, trivial⟩ I.ext_of (by simp only [tup]; rw [show factFine l.xs x = false from by rw [Bool.eq_false_iff]; intro hh; have := (fine_iff.1 hh).1; omega])
  by_cases o1 : (l.xs.length : Int) ≤ x.pred
  · refine WP.region ?_
    refine Ops.y (v := .pointer (some ⟨_, _, none⟩)) (Y.fa0 fa_28_0 rfl) ?_
    refine Ops.y (v := .int .i64 _) (Y.loadv ty_3 rfl (I.rdbox 0 rfl 0 1) rfl rfl) ?_
    refine Ops.y (v := .bool false) (Y.dec_f (Y.lti rfl rfl) (o0)) ?_
    refine Ops.y (v := .bool _) (Y.move rfl) ?_
    refine Ops.ygt rfl (v := .pointer (some ⟨_, _, none⟩)) (Y.fa0 fa_28_0 rfl) ?_
    refine Ops.ygt rfl (v := .int .i64 _) (Y.loadv ty_3 rfl (I.rdbox 0 rfl 0 1) rfl rfl) ?_
    refine Ops.ygt rfl (v := .slice _ _ _) (Y.move rfl) ?_
    refine Ops.ygt rfl (v := .int .i64 _) (Y.lens Tryz.underlying22 rfl) ?_
    refine Ops.ygt rfl (v := .bool true) (Y.dec_t (Y.gei rfl rfl) (o1)) ?_
    refine Ops.y (v := .bool _) (Y.pick_f rfl rfl) ?_
    refine Ops.nil ?_
    refine WP.cond_t rfl ?_
    refine WP.seq ?_
    refine WP.region ?_
    refine Ops.y (v := .bool _) (Y.assign rfl) ?_
    refine Ops.nil ?_
    refine WP.ret ?_
    repeat (first | refine thenE_ret ?_ | refine blockE_ret ?_)
    exact retQ.mk (vs := [.bool _]) rfl ⟨rfl, trivial⟩ I.ext_of (by simp only [tup]; rw [show factFine l.xs x = false from by rw [Bool.eq_false_iff]; intro hh; have := (fine_iff.1 hh).1; omega])
  refine WP.region ?_
  refine Ops.y (v := .pointer (some ⟨_, _, none⟩)) (Y.fa0 fa_28_0 rfl) ?_
  refine Ops.y (v := .int .i64 _) (Y.loadv ty_3 rfl (I.rdbox 0 rfl 0 1) rfl rfl) ?_
  refine Ops.y (v := .bool false) (Y.dec_f (Y.lti rfl rfl) (o0)) ?_
  refine Ops.y (v := .bool _) (Y.move rfl) ?_
  refine Ops.ygt rfl (v := .pointer (some ⟨_, _, none⟩)) (Y.fa0 fa_28_0 rfl) ?_
  refine Ops.ygt rfl (v := .int .i64 _) (Y.loadv ty_3 rfl (I.rdbox 0 rfl 0 1) rfl rfl) ?_
  refine Ops.ygt rfl (v := .slice _ _ _) (Y.move rfl) ?_
  refine Ops.ygt rfl (v := .int .i64 _) (Y.lens Tryz.underlying22 rfl) ?_
  refine Ops.ygt rfl (v := .bool false) (Y.dec_f (Y.gei rfl rfl) (o1)) ?_
  refine Ops.y (v := .bool _) (Y.pick_f rfl rfl) ?_
  refine Ops.nil ?_
  refine WP.cond_f rfl ?_
  have hk : x.pred.toNat < l.xs.length := by omega
  have h01 : 0 ≤ x.pred ∧ x.pred < l.xs.length := by omega
  have E1 := hl.at hk
  have hpo : l.xs[x.pred.toNat] = predOf l.xs x.pred := (predOf_getE h01.1 h01.2).symm
  refine WP.skip ?_
  refine WP.seq ?_
  refine WP.region ?_
  refine Ops.y (v := .slice _ _ _) (Y.move rfl) ?_
  refine Ops.y (v := .pointer (some ⟨_, _, none⟩)) (Y.fa0 fa_28_0 rfl) ?_
  refine Ops.y (v := .int .i64 _) (Y.loadv ty_3 rfl (I.rdbox 0 rfl 0 1) rfl rfl) ?_
  refine Ops.y (v := .pointer (some ⟨_, _, none⟩)) (Y.idxEl E1 Tryz.underlying22 Tryz.sizeOf40 rfl rfl h01.1 rfl) ?_
  refine Ops.y (v := .agg #[_, _, _]) (Y.loadv ty_40 rfl (I.rd (E1.rd.part 0 3)) rfl rfl) ?_
  refine Ops.go (O.alloc I Tryz.zeroValue40 rfl ?_)
  intro b5 w I
  refine Ops.go (O.store (v := .agg #[_, _, _]) I ty_40 0 rfl rfl rfl rfl rfl rfl (Nat.le_of_ble_eq_true rfl) rfl ?_)
  intro w I
  refine Ops.nil ?_
  rw [hpo] at I
  obtain ⟨h5, le5, hb5, I⟩ := I.settleBox
  refine WP.seq ?_
  refine WP.region ?_
  refine Ops.y (v := .func _ _ _) (Y.mkfunc rfl rfl) ?_
  refine Ops.y (v := .func _ _ _) (Y.assign rfl) ?_
  refine Ops.nil ?_
  by_cases a0 : 0 ≤ x.a
  case neg =>
    refine WP.seq ?_
    refine WP.regionQ mixed I (by kernel_rfl) ?_
    refine OpsQ.y (v := .pointer (some ⟨_, _, none⟩)) (fun w I => Y.fa fa_28_1 rfl) ?_
    refine OpsQ.y (v := .int .i64 _) (fun w I => Y.loadv ty_3 rfl (I.rdbox 0 rfl 1 1) rfl rfl) ?_
    refine OpsQ.y (v := .bool false) (fun w I => Y.dec_f (Y.gei rfl rfl) (a0)) ?_
    refine OpsQ.y (v := .bool _) (fun w I => Y.move rfl) ?_
    refine OpsQ.gf rfl ?_
    refine OpsQ.gf rfl ?_
    refine OpsQ.gf rfl ?_
    refine OpsQ.gf rfl ?_
    refine OpsQ.gf rfl ?_
    refine OpsQ.y (v := .bool _) (fun w I => Y.pick_f rfl rfl) ?_
    refine OpsQ.y (v := .bool _) (fun w I => Y.move rfl) ?_
    refine OpsQ.gf rfl ?_
    refine OpsQ.gf rfl ?_
    refine OpsQ.gf rfl ?_
    refine OpsQ.y (v := .bool _) (fun w I => Y.pick_f rfl rfl) ?_
    refine OpsQ.y (v := .bool _) (fun w I => Y.move rfl) ?_
    refine OpsQ.gf rfl ?_
    refine OpsQ.gf rfl ?_
    refine OpsQ.gf rfl ?_
    refine OpsQ.gf rfl ?_
    refine OpsQ.gf rfl ?_
    refine OpsQ.y (v := .bool _) (fun w I => Y.pick_f rfl rfl) ?_
    refine OpsQ.y (v := .bool _) (fun w I => Y.move rfl) ?_
    refine OpsQ.gf rfl ?_
    refine OpsQ.gf rfl ?_
    refine OpsQ.gf rfl ?_
    refine OpsQ.gf rfl ?_
    refine OpsQ.gf rfl ?_
    refine OpsQ.gf rfl ?_
    refine OpsQ.y (v := .bool _) (fun w I => Y.pick_f rfl rfl) ?_
    refine OpsQ.y (v := .bool _) (fun w I => Y.assign rfl) ?_
    refine OpsQ.nil ?_
    intro w I
    refine WP.ret ?_
    repeat (first | refine thenE_ret ?_ | refine blockE_ret ?_)
    exact retQ.mk (vs := [.bool _]) rfl ⟨rfl, trivial⟩ I.ext_of (by simp only [tup]; rw [fine_code h01, decide_eq_false (fun hh => a0 hh.1)])
  by_cases a1 : x.a ≤ mostA (predOf l.xs x.pred) 1
  case neg =>
    refine WP.seq ?_
    refine WP.regionQ mixed I (by kernel_rfl) ?_
    refine OpsQ.y (v := .pointer (some ⟨_, _, none⟩)) (fun w I => Y.fa fa_28_1 rfl) ?_
    refine OpsQ.y (v := .int .i64 _) (fun w I => Y.loadv ty_3 rfl (I.rdbox 0 rfl 1 1) rfl rfl) ?_
    refine OpsQ.y (v := .bool true) (fun w I => Y.dec_t (Y.gei rfl rfl) (a0)) ?_
    refine OpsQ.y (v := .bool _) (fun w I => Y.move rfl) ?_
    refine OpsQ.ygt rfl (v := .pointer (some ⟨_, _, none⟩)) (fun w I => Y.fa fa_28_1 rfl) ?_
    refine OpsQ.ygt rfl (v := .int .i64 _) (fun w I => Y.loadv ty_3 rfl (I.rdbox 0 rfl 1 1) rfl rfl) ?_
    refine OpsQ.ygt rfl (v := .func _ _ _) (fun w I => Y.move rfl) ?_
    refine OpsQ.cgt rfl (fun w I => QC.callcv I Tryz.call84 (fs := []) (cs := [.pointer (some ⟨b5, 0, none⟩)]) rfl (Fine1_ok _ I.base_ok b5 _ hb5 1) rfl) ?_
    refine OpsQ.ygt rfl (v := .bool false) (fun w I => Y.dec_f (Y.lei rfl rfl) (a1)) ?_
    refine OpsQ.y (v := .bool _) (fun w I => Y.pick_t rfl rfl) ?_
    refine OpsQ.y (v := .bool _) (fun w I => Y.move rfl) ?_
    refine OpsQ.gf rfl ?_
    refine OpsQ.gf rfl ?_
    refine OpsQ.gf rfl ?_
    refine OpsQ.y (v := .bool _) (fun w I => Y.pick_f rfl rfl) ?_
    refine OpsQ.y (v := .bool _) (fun w I => Y.move rfl) ?_
    refine OpsQ.gf rfl ?_
    refine OpsQ.gf rfl ?_
    refine OpsQ.gf rfl ?_
    refine OpsQ.gf rfl ?_
    refine OpsQ.gf rfl ?_
    refine OpsQ.y (v := .bool _) (fun w I => Y.pick_f rfl rfl) ?_
    refine OpsQ.y (v := .bool _) (fun w I => Y.move rfl) ?_
    refine OpsQ.gf rfl ?_
    refine OpsQ.gf rfl ?_
    refine OpsQ.gf rfl ?_
    refine OpsQ.gf rfl ?_
    refine OpsQ.gf rfl ?_
    refine OpsQ.gf rfl ?_
    refine OpsQ.y (v := .bool _) (fun w I => Y.pick_f rfl rfl) ?_
    refine OpsQ.y (v := .bool _) (fun w I => Y.assign rfl) ?_
    refine OpsQ.nil ?_
    intro w I
    refine WP.ret ?_
    repeat (first | refine thenE_ret ?_ | refine blockE_ret ?_)
    exact retQ.mk (vs := [.bool _]) rfl ⟨rfl, trivial⟩ I.ext_of (by simp only [tup]; rw [fine_code h01, decide_eq_false (fun hh => a1 hh.2.1)])
  by_cases b0 : 0 ≤ x.b
  case neg =>
    refine WP.seq ?_
    refine WP.regionQ mixed I (by kernel_rfl) ?_
    refine OpsQ.y (v := .pointer (some ⟨_, _, none⟩)) (fun w I => Y.fa fa_28_1 rfl) ?_
    refine OpsQ.y (v := .int .i64 _) (fun w I => Y.loadv ty_3 rfl (I.rdbox 0 rfl 1 1) rfl rfl) ?_
    refine OpsQ.y (v := .bool true) (fun w I => Y.dec_t (Y.gei rfl rfl) (a0)) ?_
    refine OpsQ.y (v := .bool _) (fun w I => Y.move rfl) ?_
    refine OpsQ.ygt rfl (v := .pointer (some ⟨_, _, none⟩)) (fun w I => Y.fa fa_28_1 rfl) ?_
    refine OpsQ.ygt rfl (v := .int .i64 _) (fun w I => Y.loadv ty_3 rfl (I.rdbox 0 rfl 1 1) rfl rfl) ?_
    refine OpsQ.ygt rfl (v := .func _ _ _) (fun w I => Y.move rfl) ?_
    refine OpsQ.cgt rfl (fun w I => QC.callcv I Tryz.call84 (fs := []) (cs := [.pointer (some ⟨b5, 0, none⟩)]) rfl (Fine1_ok _ I.base_ok b5 _ hb5 1) rfl) ?_
    refine OpsQ.ygt rfl (v := .bool true) (fun w I => Y.dec_t (Y.lei rfl rfl) (a1)) ?_
    refine OpsQ.y (v := .bool _) (fun w I => Y.pick_t rfl rfl) ?_
    refine OpsQ.y (v := .bool _) (fun w I => Y.move rfl) ?_
    refine OpsQ.ygt rfl (v := .pointer (some ⟨_, _, none⟩)) (fun w I => Y.fa fa_28_2 rfl) ?_
    refine OpsQ.ygt rfl (v := .int .i64 _) (fun w I => Y.loadv ty_3 rfl (I.rdbox 0 rfl 2 1) rfl rfl) ?_
    refine OpsQ.ygt rfl (v := .bool false) (fun w I => Y.dec_f (Y.gei rfl rfl) (b0)) ?_
    refine OpsQ.y (v := .bool _) (fun w I => Y.pick_t rfl rfl) ?_
    refine OpsQ.y (v := .bool _) (fun w I => Y.move rfl) ?_
    refine OpsQ.gf rfl ?_
    refine OpsQ.gf rfl ?_
    refine OpsQ.gf rfl ?_
    refine OpsQ.gf rfl ?_
    refine OpsQ.gf rfl ?_
    refine OpsQ.y (v := .bool _) (fun w I => Y.pick_f rfl rfl) ?_
    refine OpsQ.y (v := .bool _) (fun w I => Y.move rfl) ?_
    refine OpsQ.gf rfl ?_
    refine OpsQ.gf rfl ?_
    refine OpsQ.gf rfl ?_
    refine OpsQ.gf rfl ?_
    refine OpsQ.gf rfl ?_
    refine OpsQ.gf rfl ?_
    refine OpsQ.y (v := .bool _) (fun w I => Y.pick_f rfl rfl) ?_
    refine OpsQ.y (v := .bool _) (fun w I => Y.assign rfl) ?_
    refine OpsQ.nil ?_
    intro w I
    refine WP.ret ?_
    repeat (first | refine thenE_ret ?_ | refine blockE_ret ?_)
    exact retQ.mk (vs := [.bool _]) rfl ⟨rfl, trivial⟩ I.ext_of (by simp only [tup]; rw [fine_code h01, decide_eq_false (fun hh => b0 hh.2.2.1)])
  by_cases b1 : x.b ≤ mostA (predOf l.xs x.pred) 2
  case neg =>
    refine WP.seq ?_
    refine WP.regionQ mixed I (by kernel_rfl) ?_
    refine OpsQ.y (v := .pointer (some ⟨_, _, none⟩)) (fun w I => Y.fa fa_28_1 rfl) ?_
    refine OpsQ.y (v := .int .i64 _) (fun w I => Y.loadv ty_3 rfl (I.rdbox 0 rfl 1 1) rfl rfl) ?_
    refine OpsQ.y (v := .bool true) (fun w I => Y.dec_t (Y.gei rfl rfl) (a0)) ?_
    refine OpsQ.y (v := .bool _) (fun w I => Y.move rfl) ?_
    refine OpsQ.ygt rfl (v := .pointer (some ⟨_, _, none⟩)) (fun w I => Y.fa fa_28_1 rfl) ?_
    refine OpsQ.ygt rfl (v := .int .i64 _) (fun w I => Y.loadv ty_3 rfl (I.rdbox 0 rfl 1 1) rfl rfl) ?_
    refine OpsQ.ygt rfl (v := .func _ _ _) (fun w I => Y.move rfl) ?_
    refine OpsQ.cgt rfl (fun w I => QC.callcv I Tryz.call84 (fs := []) (cs := [.pointer (some ⟨b5, 0, none⟩)]) rfl (Fine1_ok _ I.base_ok b5 _ hb5 1) rfl) ?_
    refine OpsQ.ygt rfl (v := .bool true) (fun w I => Y.dec_t (Y.lei rfl rfl) (a1)) ?_
    refine OpsQ.y (v := .bool _) (fun w I => Y.pick_t rfl rfl) ?_
    refine OpsQ.y (v := .bool _) (fun w I => Y.move rfl) ?_
    refine OpsQ.ygt rfl (v := .pointer (some ⟨_, _, none⟩)) (fun w I => Y.fa fa_28_2 rfl) ?_
    refine OpsQ.ygt rfl (v := .int .i64 _) (fun w I => Y.loadv ty_3 rfl (I.rdbox 0 rfl 2 1) rfl rfl) ?_
    refine OpsQ.ygt rfl (v := .bool true) (fun w I => Y.dec_t (Y.gei rfl rfl) (b0)) ?_
    refine OpsQ.y (v := .bool _) (fun w I => Y.pick_t rfl rfl) ?_
    refine OpsQ.y (v := .bool _) (fun w I => Y.move rfl) ?_
    refine OpsQ.ygt rfl (v := .pointer (some ⟨_, _, none⟩)) (fun w I => Y.fa fa_28_2 rfl) ?_
    refine OpsQ.ygt rfl (v := .int .i64 _) (fun w I => Y.loadv ty_3 rfl (I.rdbox 0 rfl 2 1) rfl rfl) ?_
    refine OpsQ.ygt rfl (v := .func _ _ _) (fun w I => Y.move rfl) ?_
    refine OpsQ.cgt rfl (fun w I => QC.callcv I Tryz.call84 (fs := []) (cs := [.pointer (some ⟨b5, 0, none⟩)]) rfl (Fine1_ok _ I.base_ok b5 _ hb5 2) rfl) ?_
    refine OpsQ.ygt rfl (v := .bool false) (fun w I => Y.dec_f (Y.lei rfl rfl) (b1)) ?_
    refine OpsQ.y (v := .bool _) (fun w I => Y.pick_t rfl rfl) ?_
    refine OpsQ.y (v := .bool _) (fun w I => Y.move rfl) ?_
    refine OpsQ.gf rfl ?_
    refine OpsQ.gf rfl ?_
    refine OpsQ.gf rfl ?_
    refine OpsQ.gf rfl ?_
    refine OpsQ.gf rfl ?_
    refine OpsQ.gf rfl ?_
    refine OpsQ.y (v := .bool _) (fun w I => Y.pick_f rfl rfl) ?_
    refine OpsQ.y (v := .bool _) (fun w I => Y.assign rfl) ?_
    refine OpsQ.nil ?_
    intro w I
    refine WP.ret ?_
    repeat (first | refine thenE_ret ?_ | refine blockE_ret ?_)
    exact retQ.mk (vs := [.bool _]) rfl ⟨rfl, trivial⟩ I.ext_of (by simp only [tup]; rw [fine_code h01, decide_eq_false (fun hh => b1 hh.2.2.2.1)])
  refine WP.seq ?_
  refine WP.regionQ mixed I (by kernel_rfl) ?_
  refine OpsQ.y (v := .pointer (some ⟨_, _, none⟩)) (fun w I => Y.fa fa_28_1 rfl) ?_
  refine OpsQ.y (v := .int .i64 _) (fun w I => Y.loadv ty_3 rfl (I.rdbox 0 rfl 1 1) rfl rfl) ?_
  refine OpsQ.y (v := .bool true) (fun w I => Y.dec_t (Y.gei rfl rfl) (a0)) ?_
  refine OpsQ.y (v := .bool _) (fun w I => Y.move rfl) ?_
  refine OpsQ.ygt rfl (v := .pointer (some ⟨_, _, none⟩)) (fun w I => Y.fa fa_28_1 rfl) ?_
  refine OpsQ.ygt rfl (v := .int .i64 _) (fun w I => Y.loadv ty_3 rfl (I.rdbox 0 rfl 1 1) rfl rfl) ?_
  refine OpsQ.ygt rfl (v := .func _ _ _) (fun w I => Y.move rfl) ?_
  refine OpsQ.cgt rfl (fun w I => QC.callcv I Tryz.call84 (fs := []) (cs := [.pointer (some ⟨b5, 0, none⟩)]) rfl (Fine1_ok _ I.base_ok b5 _ hb5 1) rfl) ?_
  refine OpsQ.ygt rfl (v := .bool true) (fun w I => Y.dec_t (Y.lei rfl rfl) (a1)) ?_
  refine OpsQ.y (v := .bool _) (fun w I => Y.pick_t rfl rfl) ?_
  refine OpsQ.y (v := .bool _) (fun w I => Y.move rfl) ?_
  refine OpsQ.ygt rfl (v := .pointer (some ⟨_, _, none⟩)) (fun w I => Y.fa fa_28_2 rfl) ?_
  refine OpsQ.ygt rfl (v := .int .i64 _) (fun w I => Y.loadv ty_3 rfl (I.rdbox 0 rfl 2 1) rfl rfl) ?_
  refine OpsQ.ygt rfl (v := .bool true) (fun w I => Y.dec_t (Y.gei rfl rfl) (b0)) ?_
  refine OpsQ.y (v := .bool _) (fun w I => Y.pick_t rfl rfl) ?_
  refine OpsQ.y (v := .bool _) (fun w I => Y.move rfl) ?_
  refine OpsQ.ygt rfl (v := .pointer (some ⟨_, _, none⟩)) (fun w I => Y.fa fa_28_2 rfl) ?_
  refine OpsQ.ygt rfl (v := .int .i64 _) (fun w I => Y.loadv ty_3 rfl (I.rdbox 0 rfl 2 1) rfl rfl) ?_
  refine OpsQ.ygt rfl (v := .func _ _ _) (fun w I => Y.move rfl) ?_
  refine OpsQ.cgt rfl (fun w I => QC.callcv I Tryz.call84 (fs := []) (cs := [.pointer (some ⟨b5, 0, none⟩)]) rfl (Fine1_ok _ I.base_ok b5 _ hb5 2) rfl) ?_
  refine OpsQ.ygt rfl (v := .bool true) (fun w I => Y.dec_t (Y.lei rfl rfl) (b1)) ?_
  refine OpsQ.y (v := .bool _) (fun w I => Y.pick_t rfl rfl) ?_
  refine OpsQ.y (v := .bool _) (fun w I => Y.move rfl) ?_
  refine OpsQ.ygt rfl (v := .pointer (some ⟨_, _, none⟩)) (fun w I => Y.fa fa_40_2 rfl) ?_
  refine OpsQ.ygt rfl (v := .int .i64 _) (fun w I => Y.loadv ty_3 rfl (I.rd (hb5.rd.part 2 1)) rfl rfl) ?_
  refine OpsQ.ygt rfl (v := .pointer (some ⟨_, _, none⟩)) (fun w I => Y.fa fa_28_3 rfl) ?_
  refine OpsQ.ygt rfl (v := .int .i64 _) (fun w I => Y.loadv ty_3 rfl (I.rdbox 0 rfl 3 1) rfl rfl) ?_
  refine OpsQ.cgt rfl (fun w I => QC.callv I Tryz.call85 (Check_ok _ I.base_ok _ _) rfl) ?_
  refine OpsQ.ygt rfl (v := .bool (decide _)) (fun w I => Y.eqi rfl rfl) ?_
  refine OpsQ.y (v := .bool _) (fun w I => Y.pick_t rfl rfl) ?_
  refine OpsQ.y (v := .bool _) (fun w I => Y.assign rfl) ?_
  refine OpsQ.nil ?_
  intro w I
  refine WP.ret ?_
  repeat (first | refine thenE_ret ?_ | refine blockE_ret ?_)
  exact retQ.mk (vs := [.bool _]) rfl ⟨rfl, trivial⟩ I.ext_of (by simp only [tup]; rw [fine_code h01]; congr 1; rw [decide_eq_decide]; exact ⟨fun hh => ⟨a0, a1, b0, b1, hh⟩, fun hh => hh.2.2.2.2⟩)
theorem Check1_ok (B : Base) (hB : B.ok) (x : Prd) : Fn Tryz.prog 81 [x.val] B (fun v _ => v = .bool (!predFine x)) := by
  refine Fn.of Tryz.func81 rfl Tryz.ntmps81 (by kernel_rfl) (by simp) ?_
  intro e
  have I := Inv.start hB
  refine WP.seq ?_
  refine WP.region ?_
  refine Ops.go (O.box (v := .agg #[_, _, _]) I rfl rfl ?_)
  intro b1 w I
  refine Ops.y (v := .bool _) (Y.assign rfl) ?_
  refine Ops.nil ?_
  refine WP.seq ?_
  by_cases o0 : x.kind < 0
  · refine WP.region ?_
    refine Ops.y (v := .pointer (some ⟨_, _, none⟩)) (Y.fa fa_40_2 rfl) ?_
    refine Ops.y (v := .int .i64 _) (Y.loadv ty_3 rfl (I.rdbox 0 rfl 2 1) rfl rfl) ?_
    refine Ops.y (v := .bool true) (Y.dec_t (Y.lti rfl rfl) (o0)) ?_
    refine Ops.y (v := .bool _) (Y.move rfl) ?_
    refine Ops.gf rfl ?_
    refine Ops.gf rfl ?_
    refine Ops.gf rfl ?_
    refine Ops.y (v := .bool _) (Y.pick_t rfl rfl) ?_
    refine Ops.y (v := .bool _) (Y.move rfl) ?_
    refine Ops.gf rfl ?_
    refine Ops.gf rfl ?_
    refine Ops.gf rfl ?_
    refine Ops.y (v := .bool _) (Y.pick_t rfl rfl) ?_
    refine Ops.y (v := .bool _) (Y.move rfl) ?_
    refine Ops.gf rfl ?_
    refine Ops.gf rfl ?_
    refine Ops.gf rfl ?_
    refine Ops.y (v := .bool _) (Y.pick_t rfl rfl) ?_
    refine Ops.y (v := .bool _) (Y.assign rfl) ?_
    refine Ops.nil ?_
    refine WP.ret ?_
    repeat (first | refine thenE_ret ?_ | refine blockE_ret ?_)
    exact retQ.mk (vs := [.bool _]) rfl ⟨rfl, trivial⟩ I.ext_of (by simp only [tup]; rw [show predFine x = false from by unfold predFine; rw [decide_eq_false (by omega)]]; rfl)
  by_cases o1 : 3 < x.kind
  · refine WP.region ?_
    refine Ops.y (v := .pointer (some ⟨_, _, none⟩)) (Y.fa fa_40_2 rfl) ?_
    refine Ops.y (v := .int .i64 _) (Y.loadv ty_3 rfl (I.rdbox 0 rfl 2 1) rfl rfl) ?_
    refine Ops.y (v := .bool false) (Y.dec_f (Y.lti rfl rfl) (o0)) ?_
    refine Ops.y (v := .bool _) (Y.move rfl) ?_
    refine Ops.ygt rfl (v := .pointer (some ⟨_, _, none⟩)) (Y.fa fa_40_2 rfl) ?_
    refine Ops.ygt rfl (v := .int .i64 _) (Y.loadv ty_3 rfl (I.rdbox 0 rfl 2 1) rfl rfl) ?_
    refine Ops.ygt rfl (v := .bool true) (Y.dec_t (Y.gti rfl rfl) (o1)) ?_
    refine Ops.y (v := .bool _) (Y.pick_f rfl rfl) ?_
    refine Ops.y (v := .bool _) (Y.move rfl) ?_
    refine Ops.gf rfl ?_
    refine Ops.gf rfl ?_
    refine Ops.gf rfl ?_
    refine Ops.y (v := .bool _) (Y.pick_t rfl rfl) ?_
    refine Ops.y (v := .bool _) (Y.move rfl) ?_
    refine Ops.gf rfl ?_
    refine Ops.gf rfl ?_
    refine Ops.gf rfl ?_
    refine Ops.y (v := .bool _) (Y.pick_t rfl rfl) ?_
    refine Ops.y (v := .bool _) (Y.assign rfl) ?_
    refine Ops.nil ?_
    refine WP.ret ?_
    repeat (first | refine thenE_ret ?_ | refine blockE_ret ?_)
    exact retQ.mk (vs := [.bool _]) rfl ⟨rfl, trivial⟩ I.ext_of (by simp only [tup]; rw [show predFine x = false from by unfold predFine; rw [decide_eq_false (by omega)]]; rfl)
  by_cases o2 : x.arity < 0
  · refine WP.region ?_
    refine Ops.y (v := .pointer (some ⟨_, _, none⟩)) (Y.fa fa_40_2 rfl) ?_
    refine Ops.y (v := .int .i64 _) (Y.loadv ty_3 rfl (I.rdbox 0 rfl 2 1) rfl rfl) ?_
    refine Ops.y (v := .bool false) (Y.dec_f (Y.lti rfl rfl) (o0)) ?_
    refine Ops.y (v := .bool _) (Y.move rfl) ?_
    refine Ops.ygt rfl (v := .pointer (some ⟨_, _, none⟩)) (Y.fa fa_40_2 rfl) ?_
    refine Ops.ygt rfl (v := .int .i64 _) (Y.loadv ty_3 rfl (I.rdbox 0 rfl 2 1) rfl rfl) ?_
    refine Ops.ygt rfl (v := .bool false) (Y.dec_f (Y.gti rfl rfl) (o1)) ?_
    refine Ops.y (v := .bool _) (Y.pick_f rfl rfl) ?_
    refine Ops.y (v := .bool _) (Y.move rfl) ?_
    refine Ops.ygt rfl (v := .pointer (some ⟨_, _, none⟩)) (Y.fa fa_40_1 rfl) ?_
    refine Ops.ygt rfl (v := .int .i64 _) (Y.loadv ty_3 rfl (I.rdbox 0 rfl 1 1) rfl rfl) ?_
    refine Ops.ygt rfl (v := .bool true) (Y.dec_t (Y.lti rfl rfl) (o2)) ?_
    refine Ops.y (v := .bool _) (Y.pick_f rfl rfl) ?_
    refine Ops.y (v := .bool _) (Y.move rfl) ?_
    refine Ops.gf rfl ?_
    refine Ops.gf rfl ?_
    refine Ops.gf rfl ?_
    refine Ops.y (v := .bool _) (Y.pick_t rfl rfl) ?_
    refine Ops.y (v := .bool _) (Y.assign rfl) ?_
    refine Ops.nil ?_
    refine WP.ret ?_
    repeat (first | refine thenE_ret ?_ | refine blockE_ret ?_)
    exact retQ.mk (vs := [.bool _]) rfl ⟨rfl, trivial⟩ I.ext_of (by simp only [tup]; rw [show predFine x = false from by unfold predFine; rw [decide_eq_false (by omega)]]; rfl)
  refine WP.region ?_
  refine Ops.y (v := .pointer (some ⟨_, _, none⟩)) (Y.fa fa_40_2 rfl) ?_
  refine Ops.y (v := .int .i64 _) (Y.loadv ty_3 rfl (I.rdbox 0 rfl 2 1) rfl rfl) ?_
  refine Ops.y (v := .bool false) (Y.dec_f (Y.lti rfl rfl) (o0)) ?_
  refine Ops.y (v := .bool _) (Y.move rfl) ?_
  refine Ops.ygt rfl (v := .pointer (some ⟨_, _, none⟩)) (Y.fa fa_40_2 rfl) ?_
  refine Ops.ygt rfl (v := .int .i64 _) (Y.loadv ty_3 rfl (I.rdbox 0 rfl 2 1) rfl rfl) ?_
  refine Ops.ygt rfl (v := .bool false) (Y.dec_f (Y.gti rfl rfl) (o1)) ?_
  refine Ops.y (v := .bool _) (Y.pick_f rfl rfl) ?_
  refine Ops.y (v := .bool _) (Y.move rfl) ?_
  refine Ops.ygt rfl (v := .pointer (some ⟨_, _, none⟩)) (Y.fa fa_40_1 rfl) ?_
  refine Ops.ygt rfl (v := .int .i64 _) (Y.loadv ty_3 rfl (I.rdbox 0 rfl 1 1) rfl rfl) ?_
  refine Ops.ygt rfl (v := .bool false) (Y.dec_f (Y.lti rfl rfl) (o2)) ?_
  refine Ops.y (v := .bool _) (Y.pick_f rfl rfl) ?_
  refine Ops.y (v := .bool _) (Y.move rfl) ?_
  refine Ops.ygt rfl (v := .pointer (some ⟨_, _, none⟩)) (Y.fa fa_40_1 rfl) ?_
  refine Ops.ygt rfl (v := .int .i64 _) (Y.loadv ty_3 rfl (I.rdbox 0 rfl 1 1) rfl rfl) ?_
  refine Ops.ygt rfl (v := .bool (decide _)) (Y.gti rfl rfl) ?_
  refine Ops.y (v := .bool _) (Y.pick_f rfl rfl) ?_
  refine Ops.y (v := .bool _) (Y.assign rfl) ?_
  refine Ops.nil ?_
  refine WP.ret ?_
  repeat (first | refine thenE_ret ?_ | refine blockE_ret ?_)
  exact retQ.mk (vs := [.bool _]) rfl ⟨rfl, trivial⟩ I.ext_of (by simp only [tup, predFine]; congr 1; rw [← decide_not, decide_eq_decide]; omega)
theorem factsB_good {l : List Prd} {f : List Fct} (h : ∀ k, (hk : k < f.length) → factFine l f[k] = true ∧ (0 < k → placeF f[k - 1] < placeF f[k])) : factsB l f = true := by
  unfold factsB
  rw [Bool.and_eq_true, List.all_eq_true, sorted_iff]
  refine ⟨fun x hx => ?_, sorted_of fun i hi => ?_⟩
  · obtain ⟨j, hj, rfl⟩ := List.getElem_of_mem hx
    exact (h j hj).1
  · have := (h (i + 1) hi).2 (by omega)
    simpa using this
theorem factsB_bad {l : List Prd} {f : List Fct} {k : Nat} (hk : k < f.length) (h : factFine l f[k] = false ∨ 0 < k ∧ ¬ placeF f[k - 1] < placeF f[k]) : factsB l f = false := by
  rw [Bool.eq_false_iff]
  intro hh
  unfold factsB at hh
  rw [Bool.and_eq_true, List.all_eq_true, sorted_iff] at hh
  rcases h with h | ⟨h0, h⟩
  · rw [hh.1 _ (List.getElem_mem hk)] at h; cases h
  · exact h (hh.2.get (by omega) hk)
set_option maxHeartbeats 1000000 in
theorem BCheck_ok (B : Base) (hB : B.ok) (l : Sl Prd) (hl : Prds l B.h) (f : Sl Fct) (hf : Fcts f B.h) : Fn Tryz.prog 51 [l.val, f.val] B (fun v _ => v = .int .i64 (checkFacts l.xs f.xs)) := by
  have hsm := hl.small
  have hsf := hf.small
  refine Fn.of Tryz.func51 rfl Tryz.ntmps51 (by kernel_rfl) (by simp) ?_
  intro e
  have I := Inv.start hB
  refine WP.seq ?_
  refine WP.region ?_
  refine Ops.y (v := .int .i64 _) (Y.assign rfl) ?_
  refine Ops.nil ?_
  by_cases o0 : 5 < (l.xs.length : Int)
  · refine WP.seq ?_
    refine WP.seq ?_
    refine WP.region ?_
    refine Ops.y (v := .slice _ _ _) (Y.move rfl) ?_
    refine Ops.y (v := .int .i64 _) (Y.lens Tryz.underlying22 rfl) ?_
    refine Ops.y (v := .bool true) (Y.dec_t (Y.gti rfl rfl) (o0)) ?_
    refine Ops.y (v := .bool _) (Y.move rfl) ?_
    refine Ops.gf rfl ?_
    refine Ops.gf rfl ?_
    refine Ops.y (v := .bool _) (Y.pick_t rfl rfl) ?_
    refine Ops.nil ?_
    refine WP.cond_t rfl ?_
    refine WP.seq ?_
    refine WP.region ?_
    refine Ops.y (v := .int .i64 _) (Y.assign rfl) ?_
    refine Ops.nil ?_
    refine WP.ret ?_
    repeat (first | refine thenE_ret ?_ | refine blockE_ret ?_)
    exact retQ.mk (vs := [.int .i64 _]) rfl ⟨rfl, trivial⟩ I.ext_of (by simp only [tup, checkFacts]; rw [show predsBad l.xs = true from by unfold predsBad; rw [decide_eq_true (show 5 < l.xs.length by omega), Bool.true_or]]; rfl)
  refine WP.seq ?_
  refine WP.seq ?_
  refine WP.region ?_
  refine Ops.y (v := .slice _ _ _) (Y.move rfl) ?_
  refine Ops.y (v := .int .i64 _) (Y.lens Tryz.underlying22 rfl) ?_
  refine Ops.y (v := .bool false) (Y.dec_f (Y.gti rfl rfl) (o0)) ?_
  refine Ops.y (v := .bool _) (Y.move rfl) ?_
  refine Ops.ygt rfl (v := .slice _ _ _) (Y.move rfl) ?_
  refine Ops.gt rfl (O.callv I Tryz.call60 (ContainsFuncPrd_ok _ I.base_ok l hl 81 Tryz.call81 [] [] (fun p => !predFine p) (fun B' hB' _ x _ => Check1_ok B' hB' x)) rfl ?_)
  intro w I
  refine Ops.y (v := .bool _) (Y.pick_f rfl rfl) ?_
  refine Ops.nil ?_
  refine WP.cond rfl (fun hb => ?_) (fun hb => ?_)
  · refine WP.seq ?_
    refine WP.region ?_
    refine Ops.y (v := .int .i64 _) (Y.assign rfl) ?_
    refine Ops.nil ?_
    refine WP.ret ?_
    repeat (first | refine thenE_ret ?_ | refine blockE_ret ?_)
    exact retQ.mk (vs := [.int .i64 _]) rfl ⟨rfl, trivial⟩ I.ext_of (by simp only [tup, checkFacts]; rw [show predsBad l.xs = true from by unfold predsBad; rw [show l.xs.all predFine = false from by rw [List.all_eq_false]; rw [List.any_eq_true] at hb; simpa using hb]; simp]; rfl)
  have hlen : l.xs.length ≤ 5 := by omega
  have hpb : predsBad l.xs = false := by
    unfold predsBad
    rw [decide_eq_false (by omega), Bool.false_or, Bool.not_eq_false', List.all_eq_true]
    rw [List.any_eq_false] at hb
    intro x hx; simpa using hb x hx
  refine WP.skip ?_
  refine WP.seq ?_
  refine WP.seq ?_
  refine WP.region ?_
  refine Ops.y (v := .slice _ _ _) (Y.move rfl) ?_
  refine Ops.y (v := .int .i64 _) (Y.lens Tryz.underlying26 rfl) ?_
  refine Ops.y (v := .int .i64 _) (Y.move rfl) ?_
  refine Ops.nil ?_
  refine WP.block ?_
  refine WP.loopE (σ := Nat) (fun k => [(0, l.val), (1, f.val), (14, f.val), (15, .int .i64 f.xs.length), (16, .int .i64 k)]) (fun k w => Inv B B.h [] w ∧ k ≤ f.xs.length ∧ ∀ j, j < k → ∀ hj : j < f.xs.length, factFine l.xs f.xs[j] = true ∧ (0 < j → placeF f.xs[j - 1] < placeF f.xs[j])) (fun k => f.xs.length - k)
    ⟨0, ⟨rfl, rfl, rfl, rfl, rfl, trivial⟩, I, Nat.zero_le _, fun j hj => by omega⟩ ?_
  rintro k e w ⟨I, hk, hn⟩
  refine WP.seq ?_
  refine WP.region ?_
  refine Ops.y (v := .bool (decide _)) (Y.lti rfl rfl) ?_
  refine Ops.nil ?_
  refine WP.seq ?_
  refine WP.cond_dec rfl (fun h => ?_) (fun h => ?_)
  · have hk' : k < f.xs.length := by omega
    have E1 := hf.at hk'
    refine WP.skip ?_
    refine WP.seq ?_
    refine WP.block ?_
    refine WP.seq ?_
    refine WP.region ?_
    refine Ops.y (v := .int .i64 _) (Y.move rfl) ?_
    refine Ops.y (v := .pointer (some ⟨_, _, none⟩)) (Y.idxEl E1 Tryz.underlying26 Tryz.sizeOf28 rfl rfl (Int.natCast_nonneg _) rfl) ?_
    refine Ops.y (v := .agg #[_, _, _, _]) (Y.loadv ty_28 rfl (I.rd (E1.rd.part 0 4)) rfl rfl) ?_
    refine Ops.go (O.alloc I Tryz.zeroValue28 rfl ?_)
    intro b6 w I
    refine Ops.y (v := .int .i64 _) (Y.assign rfl) ?_
    refine Ops.go (O.store (v := .agg #[_, _, _, _]) I ty_28 0 rfl rfl rfl rfl rfl rfl (Nat.le_of_ble_eq_true rfl) rfl ?_)
    intro w I
    refine Ops.nil ?_
    cases hff : factFine l.xs f.xs[k]
    · refine WP.seq ?_
      refine WP.regionQ mixed I (by kernel_rfl) ?_
      refine OpsQ.y (v := .slice _ _ _) (fun w I => Y.move rfl) ?_
      refine OpsQ.y (v := .agg #[_, _, _, _]) (fun w I => Y.loadv ty_28 rfl (I.rdbox 0 rfl 0 4) rfl rfl) ?_
      refine OpsQ.c (fun w I => QC.callv I Tryz.call54 (Fine_ok _ I.base_ok l hl _) rfl) ?_
      refine OpsQ.y (v := .bool true) (fun w I => Y.b (Y.not rfl) ((by rw [hff]; rfl))) ?_
      refine OpsQ.y (v := .bool _) (fun w I => Y.move rfl) ?_
      refine OpsQ.gf rfl ?_
      refine OpsQ.gf rfl ?_
      refine OpsQ.gf rfl ?_
      refine OpsQ.gf rfl ?_
      refine OpsQ.gf rfl ?_
      refine OpsQ.gf rfl ?_
      refine OpsQ.gf rfl ?_
      refine OpsQ.gf rfl ?_
      refine OpsQ.gf rfl ?_
      refine OpsQ.gf rfl ?_
      refine OpsQ.gf rfl ?_
      refine OpsQ.gf rfl ?_
      refine OpsQ.y (v := .bool _) (fun w I => Y.pick_t rfl rfl) ?_
      refine OpsQ.nil ?_
      intro w I
      refine WP.cond_t rfl ?_
      refine WP.seq ?_
      refine WP.region ?_
      refine Ops.y (v := .int .i64 _) (Y.assign rfl) ?_
      refine Ops.nil ?_
      refine WP.ret ?_
      repeat (first | refine thenE_ret ?_ | refine blockE_ret ?_)
      exact retQ.mk (vs := [.int .i64 _]) rfl ⟨rfl, trivial⟩ I.ext_of (by simp only [tup, checkFacts, hpb, factsB_bad hk' (Or.inl hff)]; rfl)
    by_cases h0 : 0 < (k : Int)
    · have E0 := hf.at (i := k - 1) (by omega)
      have p0 := fine_pf hlen (hn (k - 1) (by omega) (by omega)).1
      have p1 := fine_pf hlen hff
      refine WP.seq ?_
      refine WP.regionQ mixed I (by kernel_rfl) ?_
      refine OpsQ.y (v := .slice _ _ _) (fun w I => Y.move rfl) ?_
      refine OpsQ.y (v := .agg #[_, _, _, _]) (fun w I => Y.loadv ty_28 rfl (I.rdbox 0 rfl 0 4) rfl rfl) ?_
      refine OpsQ.c (fun w I => QC.callv I Tryz.call54 (Fine_ok _ I.base_ok l hl _) rfl) ?_
      refine OpsQ.y (v := .bool false) (fun w I => Y.b (Y.not rfl) ((by rw [hff]; rfl))) ?_
      refine OpsQ.y (v := .bool _) (fun w I => Y.move rfl) ?_
      refine OpsQ.ygt rfl (v := .int .i64 _) (fun w I => Y.move rfl) ?_
      refine OpsQ.ygt rfl (v := .bool true) (fun w I => Y.dec_t (Y.gti rfl rfl) (h0)) ?_
      refine OpsQ.ygt rfl (v := .bool _) (fun w I => Y.move rfl) ?_
      refine OpsQ.ygt rfl (v := .slice _ _ _) (fun w I => Y.move rfl) ?_
      refine OpsQ.ygt rfl (v := .int .i64 _) (fun w I => Y.move rfl) ?_
      refine OpsQ.ygt rfl (v := .int .i64 _) (fun w I => Y.subi rfl rfl ⟨by omega, by omega⟩) ?_
      refine OpsQ.ygt rfl (v := .pointer (some ⟨_, _, none⟩)) (fun w I => Y.idxEl E0 Tryz.underlying26 Tryz.sizeOf28 rfl rfl (by omega) (by omega)) ?_
      refine OpsQ.ygt rfl (v := .agg #[_, _, _, _]) (fun w I => Y.loadv ty_28 rfl (I.rd (E0.rd.part 0 4)) rfl rfl) ?_
      refine OpsQ.ygt rfl (v := .agg #[_, _, _, _]) (fun w I => Y.loadv ty_28 rfl (I.rdbox 0 rfl 0 4) rfl rfl) ?_
      refine OpsQ.cgt rfl (fun w I => QC.callv I Tryz.call82 (order_ok _ I.base_ok _ _) rfl) ?_
      refine OpsQ.ygt rfl (v := .bool (decide _)) (fun w I => Y.gei rfl rfl) ?_
      refine OpsQ.ygt rfl (v := .bool _) (fun w I => Y.pick_t rfl rfl) ?_
      refine OpsQ.y (v := .bool _) (fun w I => Y.pick_f rfl rfl) ?_
      refine OpsQ.nil ?_
      intro w I
      refine WP.cond_dec rfl (fun h6 => ?_) (fun h6 => ?_)
      · refine WP.seq ?_
        refine WP.region ?_
        refine Ops.y (v := .int .i64 _) (Y.assign rfl) ?_
        refine Ops.nil ?_
        refine WP.ret ?_
        repeat (first | refine thenE_ret ?_ | refine blockE_ret ?_)
        exact retQ.mk (vs := [.int .i64 _]) rfl ⟨rfl, trivial⟩ I.ext_of (by simp only [tup, checkFacts, hpb, factsB_bad hk' (Or.inr ⟨by omega, fun hlt => by have := (ordF_neg p0 p1).2 hlt; omega⟩)]; rfl)
      refine WP.skip ?_
      refine WP.region ?_
      refine Ops.y (v := .int .i64 _) (Y.addi rfl rfl ⟨by omega, by omega⟩) ?_
      refine Ops.y (v := .int .i64 _) (Y.move rfl) ?_
      refine Ops.nil ?_
      exact ⟨k + 1, ⟨⟨rfl, rfl, rfl, rfl, rfl, trivial⟩, I.drop, by omega, fun j hj hj' => by
        rcases Nat.lt_succ_iff_lt_or_eq.1 hj with h' | rfl
        · exact hn j h' hj'
        · exact ⟨hff, fun _ => (ordF_neg p0 p1).1 (by omega)⟩⟩, by omega⟩
    · refine WP.seq ?_
      refine WP.regionQ mixed I (by kernel_rfl) ?_
      refine OpsQ.y (v := .slice _ _ _) (fun w I => Y.move rfl) ?_
      refine OpsQ.y (v := .agg #[_, _, _, _]) (fun w I => Y.loadv ty_28 rfl (I.rdbox 0 rfl 0 4) rfl rfl) ?_
      refine OpsQ.c (fun w I => QC.callv I Tryz.call54 (Fine_ok _ I.base_ok l hl _) rfl) ?_
      refine OpsQ.y (v := .bool false) (fun w I => Y.b (Y.not rfl) ((by rw [hff]; rfl))) ?_
      refine OpsQ.y (v := .bool _) (fun w I => Y.move rfl) ?_
      refine OpsQ.ygt rfl (v := .int .i64 _) (fun w I => Y.move rfl) ?_
      refine OpsQ.ygt rfl (v := .bool false) (fun w I => Y.dec_f (Y.gti rfl rfl) (h0)) ?_
      refine OpsQ.ygt rfl (v := .bool _) (fun w I => Y.move rfl) ?_
      refine OpsQ.gf rfl ?_
      refine OpsQ.gf rfl ?_
      refine OpsQ.gf rfl ?_
      refine OpsQ.gf rfl ?_
      refine OpsQ.gf rfl ?_
      refine OpsQ.gf rfl ?_
      refine OpsQ.gf rfl ?_
      refine OpsQ.gf rfl ?_
      refine OpsQ.ygt rfl (v := .bool _) (fun w I => Y.pick_f rfl rfl) ?_
      refine OpsQ.y (v := .bool _) (fun w I => Y.pick_f rfl rfl) ?_
      refine OpsQ.nil ?_
      intro w I
      refine WP.cond_f rfl ?_
      refine WP.skip ?_
      refine WP.region ?_
      refine Ops.y (v := .int .i64 _) (Y.addi rfl rfl ⟨by omega, by omega⟩) ?_
      refine Ops.y (v := .int .i64 _) (Y.move rfl) ?_
      refine Ops.nil ?_
      exact ⟨k + 1, ⟨⟨rfl, rfl, rfl, rfl, rfl, trivial⟩, I.drop, by omega, fun j hj hj' => by
        rcases Nat.lt_succ_iff_lt_or_eq.1 hj with h' | rfl
        · exact hn j h' hj'
        · exact ⟨hff, fun h2 => by omega⟩⟩, by omega⟩
  refine WP.exit ?_
  refine WP.seq ?_
  refine WP.region ?_
  refine Ops.y (v := .int .i64 _) (Y.assign rfl) ?_
  refine Ops.nil ?_
  refine WP.ret ?_
  repeat (first | refine thenE_ret ?_ | refine blockE_ret ?_)
  exact retQ.mk (vs := [.int .i64 _]) rfl ⟨rfl, trivial⟩ I.ext_of (by simp only [tup, checkFacts, hpb, factsB_good fun j hj => hn j (by omega) hj]; rfl)
set_option maxHeartbeats 1000000 in
theorem RCheckFacts_ok (B : Base) (hB : B.ok) (l : Sl Prd) (hl : Prds l B.h) (f : Sl Fct) (hf : Fcts f B.h) : Fn Tryz.prog 16 [l.val, f.val] B (fun v _ => v = .int .i64 (checkFacts l.xs f.xs)) := by
  have hsm := hl.small
  have hsf := hf.small
  refine Fn.of Tryz.func16 rfl Tryz.ntmps16 (by kernel_rfl) (by simp) ?_
  intro e
  have I := Inv.start hB
  refine WP.seq ?_
  refine WP.region ?_
  refine Ops.y (v := .int .i64 _) (Y.assign rfl) ?_
  refine Ops.nil ?_
  refine WP.seq ?_
  refine WP.seq ?_
  refine WP.region ?_
  refine Ops.y (v := .slice _ _ _) (Y.move rfl) ?_
  refine Ops.y (v := .int .i64 _) (Y.lens Tryz.underlying22 rfl) ?_
  refine Ops.y (v := .bool (decide _)) (Y.gti rfl rfl) ?_
  refine Ops.nil ?_
  refine WP.cond_dec rfl (fun o0 => ?_) (fun o0 => ?_)
  · refine WP.seq ?_
    refine WP.region ?_
    refine Ops.y (v := .int .i64 _) (Y.assign rfl) ?_
    refine Ops.nil ?_
    refine WP.ret ?_
    repeat (first | refine thenE_ret ?_ | refine blockE_ret ?_)
    exact retQ.mk (vs := [.int .i64 _]) rfl ⟨rfl, trivial⟩ I.ext_of (by simp only [tup, checkFacts]; rw [show predsBad l.xs = true from by unfold predsBad; rw [decide_eq_true (show 5 < l.xs.length by omega), Bool.true_or]]; rfl)
  refine WP.skip ?_
  refine WP.seq ?_
  refine WP.seq ?_
  refine WP.region ?_
  refine Ops.y (v := .int .i64 _) (Y.assign rfl) ?_
  refine Ops.nil ?_
  refine WP.cutK (σ := Unit) (fun _ => [(0, l.val), (1, f.val)]) (fun _ w => Inv B B.h [] w ∧ ∀ j, ∀ hj : j < l.xs.length, predFine l.xs[j] = true) ?_ ?_
  · refine WP.block ?_
    refine WP.loopE (σ := Nat) (fun k => [(0, l.val), (1, f.val), (5, .int .i64 k)]) (fun k w => Inv B B.h [] w ∧ k ≤ l.xs.length ∧ ∀ j, j < k → ∀ hj : j < l.xs.length, predFine l.xs[j] = true) (fun k => l.xs.length - k)
      ⟨0, ⟨rfl, rfl, rfl, trivial⟩, I, Nat.zero_le _, fun j hj => by omega⟩ ?_
    rintro k e w ⟨I, hk, hn⟩
    refine WP.seq ?_
    refine WP.seq ?_
    refine WP.region ?_
    refine Ops.y (v := .int .i64 _) (Y.move rfl) ?_
    refine Ops.y (v := .slice _ _ _) (Y.move rfl) ?_
    refine Ops.y (v := .int .i64 _) (Y.lens Tryz.underlying22 rfl) ?_
    refine Ops.y (v := .bool (decide _)) (Y.lti rfl rfl) ?_
    refine Ops.nil ?_
    refine WP.cond_dec rfl (fun h => ?_) (fun h => ?_)
    · have hk' : k < l.xs.length := by omega
      have E1 := hl.at hk'
      by_cases w1 : within l.xs[k].kind 0 3
      · refine WP.skip ?_
        refine WP.seq ?_
        refine WP.block ?_
        refine WP.seq ?_
        refine WP.region ?_
        refine Ops.y (v := .slice _ _ _) (Y.move rfl) ?_
        refine Ops.y (v := .int .i64 _) (Y.move rfl) ?_
        refine Ops.y (v := .pointer (some ⟨_, _, none⟩)) (Y.idxEl E1 Tryz.underlying22 Tryz.sizeOf40 rfl rfl (Int.natCast_nonneg _) rfl) ?_
        refine Ops.y (v := .pointer (some ⟨_, _, none⟩)) (Y.fa fa_40_2 rfl) ?_
        refine Ops.y (v := .int .i64 _) (Y.loadv ty_3 rfl (I.rd (E1.rd.part 2 1)) rfl rfl) ?_
        refine Ops.go (O.callv I Tryz.call37 (within_ok _ I.base_ok _ _ _) rfl ?_)
        intro w I
        refine Ops.y (v := .bool false) (Y.b (Y.not rfl) ((by rw [decide_eq_true w1]; rfl))) ?_
        refine Ops.y (v := .bool _) (Y.move rfl) ?_
        refine Ops.ygt rfl (v := .slice _ _ _) (Y.move rfl) ?_
        refine Ops.ygt rfl (v := .int .i64 _) (Y.move rfl) ?_
        refine Ops.ygt rfl (v := .pointer (some ⟨_, _, none⟩)) (Y.idxEl E1 Tryz.underlying22 Tryz.sizeOf40 rfl rfl (Int.natCast_nonneg _) rfl) ?_
        refine Ops.ygt rfl (v := .pointer (some ⟨_, _, none⟩)) (Y.fa fa_40_1 rfl) ?_
        refine Ops.ygt rfl (v := .int .i64 _) (Y.loadv ty_3 rfl (I.rd (E1.rd.part 1 1)) rfl rfl) ?_
        refine Ops.gt rfl (O.callv I Tryz.call37 (within_ok _ I.base_ok _ _ _) rfl ?_)
        intro w I
        refine Ops.ygt rfl (v := .bool _) (Y.not rfl) ?_
        refine Ops.y (v := .bool _) (Y.pick_f rfl rfl) ?_
        refine Ops.nil ?_
        refine WP.cond rfl (fun hb => ?_) (fun hb => ?_)
        · refine WP.seq ?_
          refine WP.region ?_
          refine Ops.y (v := .int .i64 _) (Y.assign rfl) ?_
          refine Ops.nil ?_
          refine WP.ret ?_
          repeat (first | refine thenE_ret ?_ | refine blockE_ret ?_)
          exact retQ.mk (vs := [.int .i64 _]) rfl ⟨rfl, trivial⟩ I.ext_of (by simp only [tup, checkFacts]; rw [show predsBad l.xs = true from by unfold predsBad; rw [show l.xs.all predFine = false from by rw [List.all_eq_false]; refine ⟨_, List.getElem_mem hk', ?_⟩; simp only [Bool.not_eq_true', decide_eq_false_iff_not] at hb; unfold within at hb; simp only [predFine, decide_eq_true_eq]; omega]; simp]; rfl)
        refine WP.skip ?_
        refine WP.region ?_
        refine Ops.y (v := .int .i64 _) (Y.move rfl) ?_
        refine Ops.y (v := .int .i64 _) (Y.addi rfl rfl ⟨by omega, by omega⟩) ?_
        refine Ops.y (v := .int .i64 _) (Y.assign rfl) ?_
        refine Ops.nil ?_
        exact ⟨k + 1, ⟨⟨rfl, rfl, rfl, trivial⟩, I, by omega, fun j hj hj' => by
          rcases Nat.lt_succ_iff_lt_or_eq.1 hj with h' | rfl
          · exact hn j h' hj'
          · simp only [Bool.not_eq_false', decide_eq_true_eq] at hb; unfold within at hb w1; simp only [predFine, decide_eq_true_eq]; omega⟩, by omega⟩
      · refine WP.skip ?_
        refine WP.seq ?_
        refine WP.block ?_
        refine WP.seq ?_
        refine WP.region ?_
        refine Ops.y (v := .slice _ _ _) (Y.move rfl) ?_
        refine Ops.y (v := .int .i64 _) (Y.move rfl) ?_
        refine Ops.y (v := .pointer (some ⟨_, _, none⟩)) (Y.idxEl E1 Tryz.underlying22 Tryz.sizeOf40 rfl rfl (Int.natCast_nonneg _) rfl) ?_
        refine Ops.y (v := .pointer (some ⟨_, _, none⟩)) (Y.fa fa_40_2 rfl) ?_
        refine Ops.y (v := .int .i64 _) (Y.loadv ty_3 rfl (I.rd (E1.rd.part 2 1)) rfl rfl) ?_
        refine Ops.go (O.callv I Tryz.call37 (within_ok _ I.base_ok _ _ _) rfl ?_)
        intro w I
        refine Ops.y (v := .bool true) (Y.b (Y.not rfl) ((by rw [decide_eq_false w1]; rfl))) ?_
        refine Ops.y (v := .bool _) (Y.move rfl) ?_
        refine Ops.gf rfl ?_
        refine Ops.gf rfl ?_
        refine Ops.gf rfl ?_
        refine Ops.gf rfl ?_
        refine Ops.gf rfl ?_
        refine Ops.gf rfl ?_
        refine Ops.gf rfl ?_
        refine Ops.y (v := .bool _) (Y.pick_t rfl rfl) ?_
        refine Ops.nil ?_
        refine WP.cond_t rfl ?_
        refine WP.seq ?_
        refine WP.region ?_
        refine Ops.y (v := .int .i64 _) (Y.assign rfl) ?_
        refine Ops.nil ?_
        refine WP.ret ?_
        repeat (first | refine thenE_ret ?_ | refine blockE_ret ?_)
        exact retQ.mk (vs := [.int .i64 _]) rfl ⟨rfl, trivial⟩ I.ext_of (by simp only [tup, checkFacts]; rw [show predsBad l.xs = true from by unfold predsBad; rw [show l.xs.all predFine = false from by rw [List.all_eq_false]; refine ⟨_, List.getElem_mem hk', ?_⟩; unfold within at w1; simp only [predFine, decide_eq_true_eq]; omega]; simp]; rfl)
    refine WP.exit ?_
    exact ⟨(), ⟨rfl, rfl, trivial⟩, I, fun j hj => hn j (by omega) hj⟩
  rintro _ e w ⟨I, hpf⟩
  have hlen : l.xs.length ≤ 5 := by omega
  have hpb : predsBad l.xs = false := by
    unfold predsBad
    rw [decide_eq_false (by omega), Bool.false_or, Bool.not_eq_false', List.all_eq_true]
    intro x hx; obtain ⟨j, hj, rfl⟩ := List.getElem_of_mem hx; exact hpf j hj
  refine WP.seq ?_
  refine WP.seq ?_
  refine WP.region ?_
  refine Ops.y (v := .int .i64 _) (Y.assign rfl) ?_
  refine Ops.nil ?_
  refine WP.block ?_
  refine WP.loopE (σ := Nat) (fun k => [(0, l.val), (1, f.val), (6, .int .i64 k)]) (fun k w => Inv B B.h [] w ∧ k ≤ f.xs.length ∧ ∀ j, j < k → ∀ hj : j < f.xs.length, factFine l.xs f.xs[j] = true ∧ (0 < j → placeF f.xs[j - 1] < placeF f.xs[j])) (fun k => f.xs.length - k)
    ⟨0, ⟨rfl, rfl, rfl, trivial⟩, I, Nat.zero_le _, fun j hj => by omega⟩ ?_
  rintro k e w ⟨I, hk, hn⟩
  refine WP.seq ?_
  refine WP.seq ?_
  refine WP.region ?_
  refine Ops.y (v := .int .i64 _) (Y.move rfl) ?_
  refine Ops.y (v := .slice _ _ _) (Y.move rfl) ?_
  refine Ops.y (v := .int .i64 _) (Y.lens Tryz.underlying26 rfl) ?_
  refine Ops.y (v := .bool (decide _)) (Y.lti rfl rfl) ?_
  refine Ops.nil ?_
  refine WP.cond_dec rfl (fun h => ?_) (fun h => ?_)
  · have hk' : k < f.xs.length := by omega
    have E1 := hf.at hk'
    cases hff : factFine l.xs f.xs[k]
    · refine WP.skip ?_
      refine WP.seq ?_
      refine WP.block ?_
      refine WP.seq ?_
      refine WP.regionQ mixed I (by kernel_rfl) ?_
      refine OpsQ.y (v := .slice _ _ _) (fun w I => Y.move rfl) ?_
      refine OpsQ.y (v := .slice _ _ _) (fun w I => Y.move rfl) ?_
      refine OpsQ.y (v := .int .i64 _) (fun w I => Y.move rfl) ?_
      refine OpsQ.y (v := .pointer (some ⟨_, _, none⟩)) (fun w I => Y.idxEl E1 Tryz.underlying26 Tryz.sizeOf28 rfl rfl (Int.natCast_nonneg _) rfl) ?_
      refine OpsQ.y (v := .agg #[_, _, _, _]) (fun w I => Y.loadv ty_28 rfl (I.rd (E1.rd.part 0 4)) rfl rfl) ?_
      refine OpsQ.c (fun w I => QC.callv I Tryz.call36 (FactFine_ok _ I.base_ok l hl _) rfl) ?_
      refine OpsQ.y (v := .bool true) (fun w I => Y.b (Y.not rfl) ((by rw [hff]; rfl))) ?_
      refine OpsQ.y (v := .bool _) (fun w I => Y.move rfl) ?_
      refine OpsQ.gf rfl ?_
      refine OpsQ.gf rfl ?_
      refine OpsQ.gf rfl ?_
      refine OpsQ.gf rfl ?_
      refine OpsQ.gf rfl ?_
      refine OpsQ.gf rfl ?_
      refine OpsQ.gf rfl ?_
      refine OpsQ.gf rfl ?_
      refine OpsQ.gf rfl ?_
      refine OpsQ.gf rfl ?_
      refine OpsQ.gf rfl ?_
      refine OpsQ.gf rfl ?_
      refine OpsQ.gf rfl ?_
      refine OpsQ.gf rfl ?_
      refine OpsQ.gf rfl ?_
      refine OpsQ.gf rfl ?_
      refine OpsQ.y (v := .bool _) (fun w I => Y.pick_t rfl rfl) ?_
      refine OpsQ.nil ?_
      intro w I
      refine WP.cond_t rfl ?_
      refine WP.seq ?_
      refine WP.region ?_
      refine Ops.y (v := .int .i64 _) (Y.assign rfl) ?_
      refine Ops.nil ?_
      refine WP.ret ?_
      repeat (first | refine thenE_ret ?_ | refine blockE_ret ?_)
      exact retQ.mk (vs := [.int .i64 _]) rfl ⟨rfl, trivial⟩ I.ext_of (by simp only [tup, checkFacts, hpb, factsB_bad hk' (Or.inl hff)]; rfl)
    by_cases h0 : 0 < (k : Int)
    · have E0 := hf.at (i := k - 1) (by omega)
      have p0 := fine_pf hlen (hn (k - 1) (by omega) (by omega)).1
      have p1 := fine_pf hlen hff
      refine WP.skip ?_
      refine WP.seq ?_
      refine WP.block ?_
      refine WP.seq ?_
      refine WP.regionQ mixed I (by kernel_rfl) ?_
      refine OpsQ.y (v := .slice _ _ _) (fun w I => Y.move rfl) ?_
      refine OpsQ.y (v := .slice _ _ _) (fun w I => Y.move rfl) ?_
      refine OpsQ.y (v := .int .i64 _) (fun w I => Y.move rfl) ?_
      refine OpsQ.y (v := .pointer (some ⟨_, _, none⟩)) (fun w I => Y.idxEl E1 Tryz.underlying26 Tryz.sizeOf28 rfl rfl (Int.natCast_nonneg _) rfl) ?_
      refine OpsQ.y (v := .agg #[_, _, _, _]) (fun w I => Y.loadv ty_28 rfl (I.rd (E1.rd.part 0 4)) rfl rfl) ?_
      refine OpsQ.c (fun w I => QC.callv I Tryz.call36 (FactFine_ok _ I.base_ok l hl _) rfl) ?_
      refine OpsQ.y (v := .bool false) (fun w I => Y.b (Y.not rfl) ((by rw [hff]; rfl))) ?_
      refine OpsQ.y (v := .bool _) (fun w I => Y.move rfl) ?_
      refine OpsQ.ygt rfl (v := .int .i64 _) (fun w I => Y.move rfl) ?_
      refine OpsQ.ygt rfl (v := .bool true) (fun w I => Y.dec_t (Y.gti rfl rfl) (h0)) ?_
      refine OpsQ.ygt rfl (v := .bool _) (fun w I => Y.move rfl) ?_
      refine OpsQ.ygt rfl (v := .slice _ _ _) (fun w I => Y.move rfl) ?_
      refine OpsQ.ygt rfl (v := .int .i64 _) (fun w I => Y.move rfl) ?_
      refine OpsQ.ygt rfl (v := .int .i64 _) (fun w I => Y.subi rfl rfl ⟨by omega, by omega⟩) ?_
      refine OpsQ.ygt rfl (v := .pointer (some ⟨_, _, none⟩)) (fun w I => Y.idxEl E0 Tryz.underlying26 Tryz.sizeOf28 rfl rfl (by omega) (by omega)) ?_
      refine OpsQ.ygt rfl (v := .agg #[_, _, _, _]) (fun w I => Y.loadv ty_28 rfl (I.rd (E0.rd.part 0 4)) rfl rfl) ?_
      refine OpsQ.cgt rfl (fun w I => QC.callv I Tryz.call42 (place_ok _ I.base_ok _ p0) rfl) ?_
      refine OpsQ.ygt rfl (v := .slice _ _ _) (fun w I => Y.move rfl) ?_
      refine OpsQ.ygt rfl (v := .int .i64 _) (fun w I => Y.move rfl) ?_
      refine OpsQ.ygt rfl (v := .pointer (some ⟨_, _, none⟩)) (fun w I => Y.idxEl E1 Tryz.underlying26 Tryz.sizeOf28 rfl rfl (Int.natCast_nonneg _) rfl) ?_
      refine OpsQ.ygt rfl (v := .agg #[_, _, _, _]) (fun w I => Y.loadv ty_28 rfl (I.rd (E1.rd.part 0 4)) rfl rfl) ?_
      refine OpsQ.cgt rfl (fun w I => QC.callv I Tryz.call42 (place_ok _ I.base_ok _ p1) rfl) ?_
      refine OpsQ.ygt rfl (v := .bool (decide _)) (fun w I => Y.gei rfl rfl) ?_
      refine OpsQ.ygt rfl (v := .bool _) (fun w I => Y.pick_t rfl rfl) ?_
      refine OpsQ.y (v := .bool _) (fun w I => Y.pick_f rfl rfl) ?_
      refine OpsQ.nil ?_
      intro w I
      refine WP.cond_dec rfl (fun h6 => ?_) (fun h6 => ?_)
      · refine WP.seq ?_
        refine WP.region ?_
        refine Ops.y (v := .int .i64 _) (Y.assign rfl) ?_
        refine Ops.nil ?_
        refine WP.ret ?_
        repeat (first | refine thenE_ret ?_ | refine blockE_ret ?_)
        exact retQ.mk (vs := [.int .i64 _]) rfl ⟨rfl, trivial⟩ I.ext_of (by simp only [tup, checkFacts, hpb, factsB_bad hk' (Or.inr ⟨by omega, fun hlt => by omega⟩)]; rfl)
      refine WP.skip ?_
      refine WP.region ?_
      refine Ops.y (v := .int .i64 _) (Y.move rfl) ?_
      refine Ops.y (v := .int .i64 _) (Y.addi rfl rfl ⟨by omega, by omega⟩) ?_
      refine Ops.y (v := .int .i64 _) (Y.assign rfl) ?_
      refine Ops.nil ?_
      exact ⟨k + 1, ⟨⟨rfl, rfl, rfl, trivial⟩, I, by omega, fun j hj hj' => by
        rcases Nat.lt_succ_iff_lt_or_eq.1 hj with h' | rfl
        · exact hn j h' hj'
        · exact ⟨hff, fun _ => by omega⟩⟩, by omega⟩
    · refine WP.skip ?_
      refine WP.seq ?_
      refine WP.block ?_
      refine WP.seq ?_
      refine WP.regionQ mixed I (by kernel_rfl) ?_
      refine OpsQ.y (v := .slice _ _ _) (fun w I => Y.move rfl) ?_
      refine OpsQ.y (v := .slice _ _ _) (fun w I => Y.move rfl) ?_
      refine OpsQ.y (v := .int .i64 _) (fun w I => Y.move rfl) ?_
      refine OpsQ.y (v := .pointer (some ⟨_, _, none⟩)) (fun w I => Y.idxEl E1 Tryz.underlying26 Tryz.sizeOf28 rfl rfl (Int.natCast_nonneg _) rfl) ?_
      refine OpsQ.y (v := .agg #[_, _, _, _]) (fun w I => Y.loadv ty_28 rfl (I.rd (E1.rd.part 0 4)) rfl rfl) ?_
      refine OpsQ.c (fun w I => QC.callv I Tryz.call36 (FactFine_ok _ I.base_ok l hl _) rfl) ?_
      refine OpsQ.y (v := .bool false) (fun w I => Y.b (Y.not rfl) ((by rw [hff]; rfl))) ?_
      refine OpsQ.y (v := .bool _) (fun w I => Y.move rfl) ?_
      refine OpsQ.ygt rfl (v := .int .i64 _) (fun w I => Y.move rfl) ?_
      refine OpsQ.ygt rfl (v := .bool false) (fun w I => Y.dec_f (Y.gti rfl rfl) (h0)) ?_
      refine OpsQ.ygt rfl (v := .bool _) (fun w I => Y.move rfl) ?_
      refine OpsQ.gf rfl ?_
      refine OpsQ.gf rfl ?_
      refine OpsQ.gf rfl ?_
      refine OpsQ.gf rfl ?_
      refine OpsQ.gf rfl ?_
      refine OpsQ.gf rfl ?_
      refine OpsQ.gf rfl ?_
      refine OpsQ.gf rfl ?_
      refine OpsQ.gf rfl ?_
      refine OpsQ.gf rfl ?_
      refine OpsQ.gf rfl ?_
      refine OpsQ.gf rfl ?_
      refine OpsQ.ygt rfl (v := .bool _) (fun w I => Y.pick_f rfl rfl) ?_
      refine OpsQ.y (v := .bool _) (fun w I => Y.pick_f rfl rfl) ?_
      refine OpsQ.nil ?_
      intro w I
      refine WP.cond_f rfl ?_
      refine WP.skip ?_
      refine WP.region ?_
      refine Ops.y (v := .int .i64 _) (Y.move rfl) ?_
      refine Ops.y (v := .int .i64 _) (Y.addi rfl rfl ⟨by omega, by omega⟩) ?_
      refine Ops.y (v := .int .i64 _) (Y.assign rfl) ?_
      refine Ops.nil ?_
      exact ⟨k + 1, ⟨⟨rfl, rfl, rfl, trivial⟩, I, by omega, fun j hj hj' => by
        rcases Nat.lt_succ_iff_lt_or_eq.1 hj with h' | rfl
        · exact hn j h' hj'
        · exact ⟨hff, fun h2 => by omega⟩⟩, by omega⟩
  refine WP.exit ?_
  refine WP.seq ?_
  refine WP.region ?_
  refine Ops.y (v := .int .i64 _) (Y.assign rfl) ?_
  refine Ops.nil ?_
  refine WP.ret ?_
  repeat (first | refine thenE_ret ?_ | refine blockE_ret ?_)
  exact retQ.mk (vs := [.int .i64 _]) rfl ⟨rfl, trivial⟩ I.ext_of (by simp only [tup, checkFacts, hpb, factsB_good fun j hj => hn j (by omega) hj]; rfl)
end Go.TF
end
