/- Texts SpRule SpRule2 SpFact SpBase SpBase2 SpProg SpStrata SpFire SpRound SpRound2 SpNaive Tab Lat Lat2 SlFuncs. -/
import Derived.Test.YtgblgeddpegplaaGreatU1
import Derived.Test.YtgblgeddpegplaaGreatProg
import Derived.KernelRfl
section
/- Predicates, terms, atoms, literals, rules, programs as they lie; what package rule computes: plain. -/
namespace Go.TF
open Go

structure Prd where
  name : ByteArray
  arity : Int
  kind : Int
structure Trm where
  var : Bool
  n : Int
structure Atm where
  pred : Int
  args : Sl Trm
structure Ltl where
  neg : Bool
  atom : Atm
structure Rul where
  head : Atm
  src : Int
  n : Int
  body : Sl Ltl
structure Prg where
  preds : Sl Prd
  rules : Sl Rul
@[reducible] def Prd.enc (x : Prd) : List Value := [.string x.name, .int .i64 x.arity, .int .i64 x.kind]
@[reducible] def Trm.enc (x : Trm) : List Value := [.bool x.var, .int .i64 x.n]
@[reducible] def Atm.enc (x : Atm) : List Value := [.int .i64 x.pred, x.args.val]
@[reducible] def Ltl.enc (x : Ltl) : List Value := [.bool x.neg, .int .i64 x.atom.pred, x.atom.args.val]
@[reducible] def Rul.enc (x : Rul) : List Value := [.int .i64 x.head.pred, x.head.args.val, .int .i64 x.src, .int .i64 x.n, x.body.val]
@[reducible] def Prg.enc (x : Prg) : List Value := [x.preds.val, x.rules.val]
@[reducible] def Prd.val (x : Prd) : Value := .agg #[.string x.name, .int .i64 x.arity, .int .i64 x.kind]
@[reducible] def Trm.val (x : Trm) : Value := .agg #[.bool x.var, .int .i64 x.n]
@[reducible] def Atm.val (x : Atm) : Value := .agg #[.int .i64 x.pred, x.args.val]
@[reducible] def Ltl.val (x : Ltl) : Value := .agg #[.bool x.neg, .int .i64 x.atom.pred, x.atom.args.val]
@[reducible] def Rul.val (x : Rul) : Value := .agg #[.int .i64 x.head.pred, x.head.args.val, .int .i64 x.src, .int .i64 x.n, x.body.val]
@[reducible] def Prg.val (x : Prg) : Value := .agg #[x.preds.val, x.rules.val]

/-- A slice whose elements are known for good, and not too many. -/
structure Sl.Is {α : Type} (s : Sl α) (k : Nat) (enc : α → List Value) (h : Heap) : Prop where
  el : s.In k enc h
  small : s.xs.length ≤ 140737488355328
theorem Sl.Is.le {α : Type} {s : Sl α} {k : Nat} {enc : α → List Value} {h h' : Heap} (hs : s.Is k enc h) (hl : h.le h') : s.Is k enc h' := ⟨hs.el.le hl, hs.small⟩
theorem Sl.Is.at {α : Type} {s : Sl α} {k : Nat} {enc : α → List Value} {h : Heap} (hs : s.Is k enc h) {i : Nat} (hi : i < s.xs.length) : El s k enc h i s.xs[i] := hs.el.el (List.getElem?_eq_getElem hi)
abbrev Prds (l : Sl Prd) (h : Heap) : Prop := l.Is 3 Prd.enc h
abbrev Trms (l : Sl Trm) (h : Heap) : Prop := l.Is 2 Trm.enc h
def Atm.In (a : Atm) (h : Heap) : Prop := Trms a.args h
def Ltl.In (x : Ltl) (h : Heap) : Prop := x.atom.In h
structure Ltls (l : Sl Ltl) (h : Heap) : Prop where
  is : l.Is 3 Ltl.enc h
  each : ∀ x ∈ l.xs, x.In h
structure Rul.In (r : Rul) (h : Heap) : Prop where
  head : r.head.In h
  body : Ltls r.body h
structure Ruls (l : Sl Rul) (h : Heap) : Prop where
  is : l.Is 5 Rul.enc h
  each : ∀ x ∈ l.xs, x.In h
structure Prg.In (p : Prg) (h : Heap) : Prop where
  preds : Prds p.preds h
  rules : Ruls p.rules h
theorem Atm.In.le {a : Atm} {h h' : Heap} (ha : a.In h) (hl : h.le h') : a.In h' := Sl.Is.le ha hl
theorem Ltl.In.le {x : Ltl} {h h' : Heap} (hx : x.In h) (hl : h.le h') : x.In h' := Atm.In.le hx hl
theorem Ltls.le {l : Sl Ltl} {h h' : Heap} (x : Ltls l h) (hl : h.le h') : Ltls l h' := ⟨x.is.le hl, fun y hy => (x.each y hy).le hl⟩
theorem Rul.In.le {r : Rul} {h h' : Heap} (x : r.In h) (hl : h.le h') : r.In h' := ⟨x.head.le hl, x.body.le hl⟩
theorem Ruls.le {l : Sl Rul} {h h' : Heap} (x : Ruls l h) (hl : h.le h') : Ruls l h' := ⟨x.is.le hl, fun y hy => (x.each y hy).le hl⟩
theorem Prg.In.le {p : Prg} {h h' : Heap} (x : p.In h) (hl : h.le h') : p.In h' := ⟨x.preds.le hl, x.rules.le hl⟩

/-! ### What is computed -/
def termOk (t : Trm) : Bool := if t.var then decide (0 ≤ t.n ∧ t.n < 3) else decide (0 ≤ t.n ∧ t.n ≤ 4)
def argsErr (l : List Trm) : Int := if l.all termOk then 0 else 3
instance : Inhabited Prd := ⟨⟨ByteArray.empty, 0, 0⟩⟩
instance : Inhabited Trm := ⟨⟨false, 0⟩⟩
instance {α : Type} : Inhabited (Sl α) := ⟨⟨none, 0, []⟩⟩
instance : Inhabited Atm := ⟨⟨0, default⟩⟩
instance : Inhabited Ltl := ⟨⟨false, default⟩⟩
instance : Inhabited Rul := ⟨⟨default, 0, 0, default⟩⟩
def predOf (l : List Prd) (p : Int) : Prd := l.getD p.toNat default
def checkAtom (l : List Prd) (a : Atm) : Int :=
  if a.pred < 0 ∨ (l.length : Int) ≤ a.pred then 7 else if (a.args.xs.length : Int) ≠ (predOf l a.pred).arity then 1 else argsErr a.args.xs
def standsIn (a : Atm) (v : Int) : Bool := a.args.xs.any fun t => t.var && decide (t.n = v)
def boundIn (r : Rul) (v : Int) : Bool := r.body.xs.any fun x => !x.neg && standsIn x.atom v
def bodyErr (l : List Prd) : List Ltl → Int
  | [] => 0
  | x :: r => if checkAtom l x.atom ≠ 0 then checkAtom l x.atom else bodyErr l r
def freeVar (r : Rul) (v : Int) : Bool := (standsIn r.head v || r.body.xs.any fun x => standsIn x.atom v) && !boundIn r v
def litOf (r : Rul) (k : Int) : Ltl := r.body.xs.getD k.toNat default
def checkRule (l : List Prd) (r : Rul) : Int :=
  if checkAtom l r.head ≠ 0 then checkAtom l r.head
  else if 3 < r.body.xs.length then 2
  else if bodyErr l r.body.xs ≠ 0 then bodyErr l r.body.xs
  else if freeVar r 0 || freeVar r 1 || freeVar r 2 then 9
  else if r.src < -1 ∨ (r.body.xs.length : Int) ≤ r.src then 3
  else if (predOf l r.head.pred).kind = 0 ∧ (r.src ≠ -1 ∨ r.n ≠ 0) then 1
  else if 0 ≤ r.src ∧ ((litOf r r.src).neg = true ∨ (predOf l (litOf r r.src).atom.pred).kind ≠ (predOf l r.head.pred).kind) then 1
  else if r.n < 0 ∨ 15 < r.n then 3
  else 0
theorem predOf_get {l : List Prd} {p : Int} (h0 : 0 ≤ p) (h1 : p < l.length) : l[p.toNat]? = some (predOf l p) := by
  have : p.toNat < l.length := by omega
  simp [predOf, List.getD_eq_getElem?_getD, this]
end Go.TF
end
section
/- How often variables stand in atoms; what a rule's literals are: plain. -/
namespace Go.TF
open Go

theorem bT {p : Prop} [Decidable p] (h : p) : Value.bool true = .bool (decide p) := by rw [decide_eq_true h]
theorem bF {p : Prop} [Decidable p] (h : ¬p) : Value.bool false = .bool (decide p) := by rw [decide_eq_false h]
def cntT (l : List Trm) (v : Int) : Nat := l.countP fun t => t.var && decide (t.n = v)
def cntA : List Atm → Int → Nat
  | [], _ => 0
  | a :: r, v => cntT a.args.xs v + cntA r v
theorem cntA_append (l r : List Atm) (v : Int) : cntA (l ++ r) v = cntA l v + cntA r v := by
  induction l with
  | nil => simp [cntA]
  | cons a l ih => simp only [List.cons_append, cntA, ih]; omega
def CountOf (es : List (Int × Int)) (f : Int → Nat) : Prop := ∀ v, ilook es v = if f v = 0 then none else some (f v : Int)
theorem CountOf.nil : CountOf [] (cntA []) := fun _ => rfl
theorem CountOf.same {es : List (Int × Int)} {f g : Int → Nat} (h : CountOf es f) (hg : ∀ v, g v = f v) : CountOf es g := (funext hg : g = f) ▸ h
theorem CountOf.get {es : List (Int × Int)} {f : Int → Nat} (h : CountOf es f) (v : Int) : (ilook es v).getD 0 = (f v : Int) := by
  rw [h v]; split <;> simp_all
theorem CountOf.put {es : List (Int × Int)} {f g : Int → Nat} (h : CountOf es f) (n : Int) (hg : ∀ v, g v = if v = n then f v + 1 else f v) : CountOf (iset es n ((ilook es n).getD 0 + 1)) g := by
  intro v
  rw [ilook_iset, h.get n, h v, hg v]
  by_cases e : v = n
  · subst e; simp
  · simp [e]
theorem ilook_some_mem {es : List (Int × Int)} {v x : Int} (h : ilook es v = some x) : (v, x) ∈ es := by
  induction es with
  | nil => simp [ilook] at h
  | cons p r ih =>
    obtain ⟨k, w⟩ := p
    simp only [ilook] at h
    split at h
    · rename_i e; subst e; cases h; exact List.mem_cons_self ..
    · exact List.mem_cons_of_mem _ (ih h)
theorem mem_ilook {es : List (Int × Int)} {v x : Int} (h : (v, x) ∈ es) : ilook es v ≠ none := by
  induction es with
  | nil => cases h
  | cons p r ih =>
    obtain ⟨k, w⟩ := p
    simp only [ilook]
    split
    · simp
    · rename_i e
      rcases List.mem_cons.1 h with h | h
      · cases h; exact absurd rfl e
      · exact ih h
theorem cntT_le (l : List Trm) (v : Int) : cntT l v ≤ l.length := List.countP_le_length
theorem cntT_pos {l : List Trm} {v : Int} : cntT l v ≠ 0 ↔ (l.any fun t => t.var && decide (t.n = v)) = true := by
  unfold cntT
  rw [← Nat.pos_iff_ne_zero, List.countP_pos_iff, List.any_eq_true]
theorem cntA_le {l : List Atm} {m : Nat} (h : ∀ a ∈ l, a.args.xs.length ≤ m) (v : Int) : cntA l v ≤ l.length * m := by
  induction l with
  | nil => simp [cntA]
  | cons a r ih =>
    have h1 := cntT_le a.args.xs v
    have h2 := h a (List.mem_cons_self ..)
    have h3 := ih fun b hb => h b (List.mem_cons_of_mem _ hb)
    simp only [cntA, List.length_cons, Nat.add_mul]; omega
theorem cntA_pos {l : List Atm} {v : Int} : cntA l v ≠ 0 ↔ ∃ a ∈ l, standsIn a v = true := by
  induction l with
  | nil => simp [cntA]
  | cons a r ih =>
    have h1 : cntT a.args.xs v ≠ 0 ↔ standsIn a v = true := cntT_pos
    simp only [cntA, List.mem_cons, exists_eq_or_imp, ← ih, ← h1]; omega
theorem cntT_take {l : List Trm} {j : Nat} (hj : j < l.length) (v : Int) : cntT (l.take (j + 1)) v = cntT (l.take j) v + if l[j].var = true ∧ l[j].n = v then 1 else 0 := by
  rw [List.take_succ_eq_append_getElem hj]
  simp only [cntT, List.countP_append, List.countP_singleton, Bool.and_eq_true, decide_eq_true_eq]
theorem cntA_take {l : List Atm} {k : Nat} (hk : k < l.length) (v : Int) : cntA (l.take (k + 1)) v = cntA (l.take k) v + cntT l[k].args.xs v := by
  rw [List.take_succ_eq_append_getElem hk, cntA_append]; simp [cntA]
def negs (l : List Ltl) : List Atm := (l.filter (·.neg)).map (·.atom)
def poss (l : List Ltl) : List Atm := (l.filter fun x => !x.neg).map (·.atom)
theorem negs_take {l : List Ltl} {k : Nat} (hk : k < l.length) : negs (l.take (k + 1)) = negs (l.take k) ++ if l[k].neg = true then [l[k].atom] else [] := by
  rw [List.take_succ_eq_append_getElem hk]
  simp only [negs, List.filter_append, List.map_append]; congr 1; cases h : l[k].neg <;> simp [h]
theorem poss_take {l : List Ltl} {k : Nat} (hk : k < l.length) : poss (l.take (k + 1)) = poss (l.take k) ++ if l[k].neg = true then [] else [l[k].atom] := by
  rw [List.take_succ_eq_append_getElem hk]
  simp only [poss, List.filter_append, List.map_append]; congr 1; cases h : l[k].neg <;> simp [h]
theorem negs_le (l : List Ltl) : (negs l).length ≤ l.length := by unfold negs; rw [List.length_map]; exact List.length_filter_le ..
theorem poss_le (l : List Ltl) : (poss l).length ≤ l.length := by unfold poss; rw [List.length_map]; exact List.length_filter_le ..
theorem mem_negs {l : List Ltl} {a : Atm} : a ∈ negs l ↔ ∃ x ∈ l, x.neg = true ∧ x.atom = a := by simp [negs, and_assoc]
theorem mem_poss {l : List Ltl} {a : Atm} : a ∈ poss l ↔ ∃ x ∈ l, x.neg = false ∧ x.atom = a := by simp [poss, and_assoc]
theorem boundIn_iff {r : Rul} {v : Int} : boundIn r v = true ↔ cntA (poss r.body.xs) v ≠ 0 := by
  rw [cntA_pos]
  simp only [boundIn, List.any_eq_true, Bool.and_eq_true, Bool.not_eq_true', mem_poss]
  constructor
  · rintro ⟨x, hx, hn, hs⟩; exact ⟨_, ⟨x, hx, hn, rfl⟩, hs⟩
  · rintro ⟨_, ⟨x, hx, hn, rfl⟩, hs⟩; exact ⟨x, hx, hn, hs⟩
/-- A variable of the head or of a literal that is Not, and in none that is not. -/
theorem freeVar_iff {r : Rul} {v : Int} : freeVar r v = true ↔ cntA (negs r.body.xs ++ [r.head]) v ≠ 0 ∧ cntA (poss r.body.xs) v = 0 := by
  have hb := boundIn_iff (r := r) (v := v)
  rw [cntA_pos]
  simp only [freeVar, Bool.and_eq_true, Bool.or_eq_true, Bool.not_eq_true', List.any_eq_true, List.mem_append, List.mem_singleton]
  constructor
  · rintro ⟨h1, h2⟩
    have h3 : cntA (poss r.body.xs) v = 0 := Decidable.byContradiction fun h => by rw [hb.2 h] at h2; cases h2
    refine ⟨?_, h3⟩
    rcases h1 with h1 | ⟨x, hx, hs⟩
    · exact ⟨_, .inr rfl, h1⟩
    · cases hn : x.neg
      · have : boundIn r v = true := by rw [boundIn, List.any_eq_true]; exact ⟨x, hx, by simp [hn, hs]⟩
        rw [this] at h2; cases h2
      · exact ⟨_, .inl (mem_negs.2 ⟨x, hx, hn, rfl⟩), hs⟩
  · rintro ⟨⟨a, ha, hs⟩, h3⟩
    refine ⟨?_, ?_⟩
    · rcases ha with ha | rfl
      · obtain ⟨x, hx, _, rfl⟩ := mem_negs.1 ha; exact .inr ⟨x, hx, hs⟩
      · exact .inl hs
    · cases h : boundIn r v
      · rfl
      · exact absurd h3 (hb.1 h)
theorem bodyErr_ne {l : List Prd} {b : List Ltl} : bodyErr l b = 0 ↔ ∀ x ∈ b, checkAtom l x.atom = 0 := by
  induction b with
  | nil => simp [bodyErr]
  | cons x r ih =>
    simp only [bodyErr, List.mem_cons, forall_eq_or_imp]
    by_cases h : checkAtom l x.atom = 0
    · simp [h, ih]
    · simp [h]
theorem bodyErr_at {l : List Prd} {b : List Ltl} {k : Nat} (hk : k < b.length) (h1 : ∀ j, j < k → ∀ hj' : j < b.length, checkAtom l b[j].atom = 0) (h2 : checkAtom l b[k].atom ≠ 0) : bodyErr l b = checkAtom l b[k].atom := by
  induction b generalizing k with
  | nil => simp at hk
  | cons x r ih =>
    cases k with
    | zero => simp only [List.getElem_cons_zero] at h2 ⊢; simp [bodyErr, h2]
    | succ k =>
      have h0 := h1 0 (by omega) (by simp)
      simp only [List.getElem_cons_zero] at h0
      simp only [bodyErr, h0, List.getElem_cons_succ]
      simp only [List.getElem_cons_succ] at h2
      exact ih (by simpa using hk) (fun j _ hj' => by have := h1 (j + 1) (by omega) (by simpa using hj'); simpa using this) h2
theorem standsIn_small {l : List Prd} {a : Atm} (h : checkAtom l a = 0) {v : Int} (hs : standsIn a v = true) : v = 0 ∨ v = 1 ∨ v = 2 := by
  have h1 : argsErr a.args.xs = 0 := by
    unfold checkAtom at h
    split at h
    · cases h
    · split at h
      · cases h
      · exact h
  unfold argsErr at h1
  split at h1
  · rename_i hal
    rw [List.all_eq_true] at hal
    simp only [standsIn, List.any_eq_true, Bool.and_eq_true, decide_eq_true_eq] at hs
    obtain ⟨t, ht, hv, hn⟩ := hs
    have := hal t ht
    unfold termOk at this
    rw [if_pos hv] at this
    simp only [decide_eq_true_eq] at this
    omega
  · cases h1
theorem filter_shorter {α : Type} {p q : α → Bool} {l : List α} {x : α} (hx : x ∈ l) (hp : p x = false) (hq : q x = true) (hpq : ∀ y ∈ l, p y = true → q y = true) : (l.filter p).length < (l.filter q).length := by
  induction l with
  | nil => cases hx
  | cons y r ih =>
    have hle : ∀ s : List α, (∀ z ∈ s, p z = true → q z = true) → (s.filter p).length ≤ (s.filter q).length := by
      intro s hs
      induction s with
      | nil => simp
      | cons z t iht =>
        have i := iht fun u hu => hs u (List.mem_cons_of_mem _ hu)
        have j := hs z (List.mem_cons_self ..)
        simp only [List.filter_cons]
        split <;> split <;> simp_all <;> omega
    rcases List.mem_cons.1 hx with rfl | hx'
    · have := hle r fun z hz => hpq z (List.mem_cons_of_mem _ hz)
      simp only [List.filter_cons, hp, hq, if_true, Bool.false_eq_true, if_false, List.length_cons]; omega
    · have i := ih hx' fun z hz => hpq z (List.mem_cons_of_mem _ hz)
      have j := hpq y (List.mem_cons_self ..)
      simp only [List.filter_cons]
      split <;> split <;> simp_all <;> omega
theorem ents_of {ents : List MapEntry} {clock : Nat} {es : List (Int × Int)} (hi : IMap ents clock es) {q : MapEntry} (hq : q ∈ ents) : ∃ v x, (v, x) ∈ es ∧ q.key = .int .i64 v ∧ q.val = .int .i64 x := by
  have : (q.key, q.val) ∈ ents.map (fun e => (e.key, e.val)) := List.mem_map.2 ⟨q, hq, rfl⟩
  rw [hi.is] at this
  obtain ⟨⟨v, x⟩, hp, he⟩ := List.mem_map.1 this
  simp only [iV, Prod.mk.injEq] at he
  exact ⟨v, x, hp, he.1.symm, he.2.symm⟩
theorem ents_has {ents : List MapEntry} {clock : Nat} {es : List (Int × Int)} (hi : IMap ents clock es) {v x : Int} (hv : (v, x) ∈ es) : ∃ q ∈ ents, q.key = .int .i64 v := by
  have : iV (v, x) ∈ ents.map (fun e => (e.key, e.val)) := by rw [hi.is]; exact List.mem_map.2 ⟨_, hv, rfl⟩
  obtain ⟨q, hq, he⟩ := List.mem_map.1 this
  simp only [iV, Prod.mk.injEq] at he
  exact ⟨q, hq, he.1⟩
theorem nodup_inj {α β : Type} {f : α → β} {l : List α} (h : (l.map f).Nodup) {a b : α} (ha : a ∈ l) (hb : b ∈ l) (hf : f a = f b) : a = b := by
  induction l with
  | nil => cases ha
  | cons x r ih =>
    simp only [List.map_cons, List.nodup_cons, List.mem_map, not_exists, not_and] at h
    rcases List.mem_cons.1 ha with rfl | ha' <;> rcases List.mem_cons.1 hb with rfl | hb'
    · rfl
    · exact absurd hf.symm (h.1 b hb')
    · exact absurd hf (h.1 a ha')
    · exact ih h.2 ha' hb'
end Go.TF
end
section
/- Facts, what variables stand for, what an atom grounded is: plain. -/
namespace Go.TF
open Go

structure Fct where
  pred : Int
  a : Int
  b : Int
  v : Int
deriving DecidableEq
@[reducible] def Fct.enc (x : Fct) : List Value := [.int .i64 x.pred, .int .i64 x.a, .int .i64 x.b, .int .i64 x.v]
@[reducible] def Fct.val (x : Fct) : Value := .agg #[.int .i64 x.pred, .int .i64 x.a, .int .i64 x.b, .int .i64 x.v]
structure Vrs where
  x0 : Int
  x1 : Int
  x2 : Int
deriving DecidableEq
@[reducible] def Vrs.enc (x : Vrs) : List Value := [.int .i64 x.x0, .int .i64 x.x1, .int .i64 x.x2]
@[reducible] def Vrs.val (x : Vrs) : Value := .agg #[.int .i64 x.x0, .int .i64 x.x1, .int .i64 x.x2]
def Vrs.at (x : Vrs) (i : Int) : Int := if i = 0 then x.x0 else if i = 1 then x.x1 else x.x2
structure Stp where
  rule : Int
  vars : Vrs
deriving DecidableEq
@[reducible] def Stp.enc (x : Stp) : List Value := [.int .i64 x.rule, .int .i64 x.vars.x0, .int .i64 x.vars.x1, .int .i64 x.vars.x2]
@[reducible] def Stp.val (x : Stp) : Value := .agg #[.int .i64 x.rule, .int .i64 x.vars.x0, .int .i64 x.vars.x1, .int .i64 x.vars.x2]
instance : Inhabited Fct := ⟨⟨0, 0, 0, 0⟩⟩
instance : Inhabited Vrs := ⟨⟨0, 0, 0⟩⟩
instance : Inhabited Stp := ⟨⟨0, default⟩⟩
abbrev Fcts (l : Sl Fct) (h : Heap) : Prop := l.Is 4 Fct.enc h
abbrev Stps (l : Sl Stp) (h : Heap) : Prop := l.Is 4 Stp.enc h
theorem Rd.one {w : World} {b o : Nat} {cs : List Value} (hr : Rd w b o cs) {i : Nat} {x : Value} (hx : cs[i]? = some x) : Rd w b (o + i) [x] := fun j v e => by
  cases j with
  | zero => simp at e; subst e; exact hr i x hx
  | succ j => simp at e
theorem Rd.vrs {w : World} {b : Nat} {x : Vrs} (hr : Rd w b 0 x.enc) {i : Int} (h0 : 0 ≤ i) (h1 : i < 3) : Rd w b (0 + i.toNat * 1) [.int .i64 (x.at i)] := by
  rw [Nat.mul_one]
  refine hr.one ?_
  have : i = 0 ∨ i = 1 ∨ i = 2 := by omega
  rcases this with rfl | rfl | rfl <;> rfl
def tv (t : Trm) (x : Vrs) : Int := if t.var then x.at t.n else t.n
def argv (a : Atm) (x : Vrs) (i : Nat) : Int := match a.args.xs[i]? with | none => 0 | some t => tv t x
theorem argv_get {a : Atm} {x : Vrs} {i : Nat} (hi : i < a.args.xs.length) : argv a x i = tv a.args.xs[i] x := by simp [argv, hi]
theorem argv_none {a : Atm} {x : Vrs} {i : Nat} (hi : a.args.xs.length ≤ i) : argv a x i = 0 := by simp [argv, hi]
def groundF (a : Atm) (x : Vrs) : Fct := ⟨a.pred, argv a x 0, argv a x 1, 0⟩
theorem argsErr_iff {l : List Trm} : argsErr l = 0 ↔ ∀ t ∈ l, termOk t = true := by
  unfold argsErr
  rw [← List.all_eq_true]
  split <;> simp_all
theorem argsErr_var {l : List Trm} (h : argsErr l = 0) {t : Trm} (ht : t ∈ l) (hv : t.var = true) : 0 ≤ t.n ∧ t.n < 3 := by
  have := argsErr_iff.1 h t ht
  unfold termOk at this
  rw [if_pos hv] at this
  simpa using this
theorem argsErr_con {l : List Trm} (h : argsErr l = 0) {t : Trm} (ht : t ∈ l) (hv : t.var = false) : 0 ≤ t.n ∧ t.n ≤ 4 := by
  have := argsErr_iff.1 h t ht
  unfold termOk at this
  rw [hv] at this
  simpa using this
end Go.TF
end
section
/- Facts: which may be, where each stands, finding, adding, being under: plain. -/
namespace Go.TF
open Go

def predFine (p : Prd) : Bool := decide (0 ≤ p.arity ∧ p.arity ≤ 2 ∧ 0 ≤ p.kind ∧ p.kind ≤ 3)
def factFine (l : List Prd) (x : Fct) : Bool :=
  decide (within x.pred 0 (l.length - 1)) && decide (within x.a 0 4) && decide (within x.b 0 4) && (decide (1 ≤ (predOf l x.pred).arity) || decide (x.a = 0)) && (decide (2 ≤ (predOf l x.pred).arity) || decide (x.b = 0)) &&
    decide (checkVal (predOf l x.pred).kind x.v = 0)

def placeF (x : Fct) : Int := (x.pred * 5 + x.a) * 5 + x.b
structure PF (x : Fct) : Prop where
  p0 : 0 ≤ x.pred
  p1 : x.pred ≤ 4
  a0 : 0 ≤ x.a
  a1 : x.a ≤ 4
  b0 : 0 ≤ x.b
  b1 : x.b ≤ 4
theorem PF.inj {x y : Fct} (hx : PF x) (hy : PF y) (h : placeF x = placeF y) : x.pred = y.pred ∧ x.a = y.a ∧ x.b = y.b := by
  obtain ⟨_, _, _, _, _, _⟩ := hx; obtain ⟨_, _, _, _, _, _⟩ := hy
  unfold placeF at h; omega
theorem PF.place {x : Fct} (hx : PF x) : 0 ≤ placeF x ∧ placeF x < 125 := by
  obtain ⟨_, _, _, _, _, _⟩ := hx
  unfold placeF; omega
theorem PF.lt {x y : Fct} (hx : PF x) (hy : PF y) : placeF x < placeF y ↔ x.pred < y.pred ∨ x.pred = y.pred ∧ (x.a < y.a ∨ x.a = y.a ∧ x.b < y.b) := by
  obtain ⟨_, _, _, _, _, _⟩ := hx; obtain ⟨_, _, _, _, _, _⟩ := hy
  unfold placeF; omega
theorem PF.ext {x y : Fct} (hx : PF x) (hy : PF y) (h : placeF x = placeF y) (hv : x.v = y.v) : x = y := by
  obtain ⟨h1, h2, h3⟩ := hx.inj hy h
  cases x; cases y; simp_all
def cmpI (a b : Int) : Int := if a < b then -1 else if b < a then 1 else 0
def ordF (x y : Fct) : Int := if cmpI x.pred y.pred ≠ 0 then cmpI x.pred y.pred else if cmpI x.a y.a ≠ 0 then cmpI x.a y.a else cmpI x.b y.b
theorem ordF_neg {x y : Fct} (hx : PF x) (hy : PF y) : ordF x y < 0 ↔ placeF x < placeF y := by
  rw [hx.lt hy]; unfold ordF cmpI
  (repeat' split) <;> omega
theorem ordF_zero {x y : Fct} (hx : PF x) (hy : PF y) : ordF x y = 0 ↔ placeF x = placeF y := by
  constructor
  · intro h
    have : x.pred = y.pred ∧ x.a = y.a ∧ x.b = y.b := by
      unfold ordF cmpI at h
      (repeat' split at h) <;> omega
    unfold placeF; omega
  · intro h
    obtain ⟨h1, h2, h3⟩ := hx.inj hy h
    unfold ordF cmpI
    (repeat' split) <;> omega
def sortedB : List Fct → Bool
  | [] => true
  | [_] => true
  | x :: y :: r => decide (placeF x < placeF y) && sortedB (y :: r)
abbrev SrtF (f : List Fct) : Prop := f.Pairwise fun x y => placeF x < placeF y
theorem sorted_iff : ∀ f : List Fct, sortedB f = true ↔ SrtF f
  | [] => by simp [sortedB, SrtF]
  | [x] => by simp [sortedB, SrtF]
  | x :: y :: r => by
    rw [sortedB, Bool.and_eq_true, decide_eq_true_eq, sorted_iff (y :: r)]
    constructor
    · rintro ⟨h, hs⟩
      refine List.pairwise_cons.2 ⟨fun z hz => ?_, hs⟩
      rcases List.mem_cons.1 hz with rfl | hz
      · exact h
      · exact Int.lt_trans h ((List.pairwise_cons.1 hs).1 z hz)
    · intro hs
      obtain ⟨h1, h2⟩ := List.pairwise_cons.1 hs
      exact ⟨h1 y List.mem_cons_self, h2⟩
theorem sorted_of {f : List Fct} (h : ∀ i, (hi : i + 1 < f.length) → placeF f[i] < placeF f[i + 1]) : SrtF f := by
  rw [← sorted_iff]
  induction f with
  | nil => rfl
  | cons x r ih =>
    cases r with
    | nil => rfl
    | cons y r =>
      rw [sortedB, Bool.and_eq_true, decide_eq_true_eq]
      exact ⟨h 0 (by simp), ih fun i hi => h (i + 1) (by simp only [List.length_cons] at hi ⊢; omega)⟩
theorem SrtF.get {f : List Fct} (h : SrtF f) {i j : Nat} (hij : i < j) (hj : j < f.length) : placeF f[i] < placeF f[j] := List.pairwise_iff_getElem.1 h i j (by omega) hj hij
def factsB (l : List Prd) (f : List Fct) : Bool := f.all (factFine l) && sortedB f
def predsBad (l : List Prd) : Bool := decide (5 < l.length) || !(l.all predFine)
def checkFacts (l : List Prd) (f : List Fct) : Int := if predsBad l then 2 else if factsB l f then 0 else 1
/-- Right facts, of right predicates. -/
structure FOk (l : List Prd) (f : List Fct) : Prop where
  len : l.length ≤ 5
  preds : ∀ p ∈ l, predFine p = true
  fine : ∀ x ∈ f, factFine l x = true
  srt : SrtF f
theorem checkFacts_ok {l : List Prd} {f : List Fct} : checkFacts l f = 0 ↔ FOk l f := by
  unfold checkFacts
  cases h : predsBad l <;> cases h2 : factsB l f <;> simp only [if_true, Bool.false_eq_true, if_false]
  · refine ⟨fun h => (by omega), fun h3 => ?_⟩
    have : factsB l f = true := by simp only [factsB, Bool.and_eq_true, List.all_eq_true]; exact ⟨h3.fine, (sorted_iff f).2 h3.srt⟩
    rw [this] at h2; cases h2
  · simp only [predsBad, Bool.or_eq_false_iff, decide_eq_false_iff_not, Bool.not_eq_false', List.all_eq_true] at h
    simp only [factsB, Bool.and_eq_true, List.all_eq_true] at h2
    exact ⟨fun _ => ⟨by omega, h.2, h2.1, (sorted_iff f).1 h2.2⟩, fun _ => trivial⟩
  all_goals
    refine ⟨fun h => (by omega), fun h3 => ?_⟩
    have : predsBad l = false := by simp only [predsBad, Bool.or_eq_false_iff, decide_eq_false_iff_not, Bool.not_eq_false', List.all_eq_true]; exact ⟨by have := h3.len; omega, h3.preds⟩
    rw [this] at h; cases h
theorem fine_iff {l : List Prd} {x : Fct} : factFine l x = true ↔ (0 ≤ x.pred ∧ x.pred < l.length) ∧ (0 ≤ x.a ∧ x.a ≤ 4) ∧ (0 ≤ x.b ∧ x.b ≤ 4) ∧ (1 ≤ (predOf l x.pred).arity ∨ x.a = 0) ∧ (2 ≤ (predOf l x.pred).arity ∨ x.b = 0) ∧ VOk (predOf l x.pred).kind x.v := by
  simp only [factFine, Bool.and_eq_true, Bool.or_eq_true, decide_eq_true_eq]
  unfold within
  constructor
  · rintro ⟨⟨⟨⟨⟨h1, h2⟩, h3⟩, h4⟩, h5⟩, h6⟩; exact ⟨⟨h1.1, by omega⟩, h2, h3, h4, h5, h6⟩
  · rintro ⟨h1, h2, h3, h4, h5, h6⟩; exact ⟨⟨⟨⟨⟨⟨h1.1, by omega⟩, h2⟩, h3⟩, h4⟩, h5⟩, h6⟩
theorem fine_pf {l : List Prd} {x : Fct} (hl : l.length ≤ 5) (h : factFine l x = true) : PF x := by
  obtain ⟨h1, h2, h3, _⟩ := fine_iff.1 h
  exact ⟨h1.1, by omega, h2.1, h2.2, h3.1, h3.2⟩
theorem FOk.pf {l : List Prd} {f : List Fct} (h : FOk l f) : ∀ x ∈ f, PF x := fun x hx => fine_pf h.len (h.fine x hx)
/-! ### What is told at a place -/
def lkF (f : List Fct) (p : Int) : Option Int := (f.find? fun y => decide (placeF y = p)).map (·.v)
theorem lkF_nil (p : Int) : lkF [] p = none := rfl
theorem lkF_cons (y : Fct) (r : List Fct) (p : Int) : lkF (y :: r) p = if placeF y = p then some y.v else lkF r p := by
  unfold lkF; rw [List.find?_cons]
  by_cases h : placeF y = p
  · simp [h]
  · simp [h]
theorem lkF_none {f : List Fct} {p : Int} : lkF f p = none ↔ ∀ y ∈ f, placeF y ≠ p := by
  induction f with
  | nil => simp [lkF_nil]
  | cons y r ih =>
    rw [lkF_cons]
    split
    · rename_i h; simp [h]
    · rename_i h; rw [ih]; simp [h]
theorem lkF_some {f : List Fct} (hs : SrtF f) {p v : Int} : lkF f p = some v ↔ ∃ y ∈ f, placeF y = p ∧ y.v = v := by
  induction f with
  | nil => simp [lkF_nil]
  | cons y r ih =>
    obtain ⟨h1, h2⟩ := List.pairwise_cons.1 hs
    rw [lkF_cons]
    split
    · rename_i h
      constructor
      · intro e; exact ⟨y, List.mem_cons_self, h, by simpa using e⟩
      · rintro ⟨z, hz, e1, e2⟩
        rcases List.mem_cons.1 hz with rfl | hz
        · rw [e2]
        · have := h1 z hz; omega
    · rename_i h
      rw [ih h2]
      constructor
      · rintro ⟨z, hz, e⟩; exact ⟨z, List.mem_cons_of_mem _ hz, e⟩
      · rintro ⟨z, hz, e⟩
        rcases List.mem_cons.1 hz with rfl | hz
        · exact absurd e.1 h
        · exact ⟨z, hz, e⟩
theorem lkF_mem {f : List Fct} {p v : Int} (h : lkF f p = some v) : ∃ y ∈ f, placeF y = p ∧ y.v = v := by
  unfold lkF at h
  cases hf : f.find? fun y => decide (placeF y = p) with
  | none => rw [hf] at h; simp at h
  | some y =>
    rw [hf] at h
    refine ⟨y, List.mem_of_find?_eq_some hf, ?_, by simpa using h⟩
    have := List.find?_some hf
    simpa using this
theorem lkF_of_mem {f : List Fct} (hs : SrtF f) {y : Fct} (hy : y ∈ f) : lkF f (placeF y) = some y.v := (lkF_some hs).2 ⟨y, hy, rfl, rfl⟩
/-- Facts that tell the same are the same. -/
theorem lkF_ext : ∀ {f g : List Fct}, (∀ x ∈ f, PF x) → (∀ x ∈ g, PF x) → SrtF f → SrtF g → (∀ p, lkF f p = lkF g p) → f = g
  | [], [], _, _, _, _, _ => rfl
  | [], y :: r, _, _, _, _, h => by have := h (placeF y); rw [lkF_nil, lkF_cons, if_pos rfl] at this; cases this
  | x :: s, [], _, _, _, _, h => by have := h (placeF x); rw [lkF_nil, lkF_cons, if_pos rfl] at this; cases this
  | x :: s, y :: r, pf, pg, hf, hg, h => by
    obtain ⟨f1, f2⟩ := List.pairwise_cons.1 hf
    obtain ⟨g1, g2⟩ := List.pairwise_cons.1 hg
    have hx := h (placeF x)
    have hy := h (placeF y)
    rw [lkF_cons, if_pos rfl] at hx
    rw [lkF_cons y, if_pos rfl] at hy
    obtain ⟨z, hz, e1, e2⟩ := (lkF_some hg).1 hx.symm
    obtain ⟨z', hz', e1', e2'⟩ := (lkF_some hf).1 hy
    have hp : placeF x = placeF y := by
      rcases List.mem_cons.1 hz with rfl | hz
      · exact e1.symm
      · rcases List.mem_cons.1 hz' with rfl | hz'
        · exact e1'
        · have := g1 z hz; have := f1 z' hz'; omega
    rw [hp, lkF_cons, if_pos rfl] at hx
    have hxy : x = y := (pf x List.mem_cons_self).ext (pg y List.mem_cons_self) hp (by simpa using hx)
    rw [hxy]
    congr 1
    refine lkF_ext (fun z hz => pf z (List.mem_cons_of_mem _ hz)) (fun z hz => pg z (List.mem_cons_of_mem _ hz)) f2 g2 fun p => ?_
    have := h p
    rw [lkF_cons, lkF_cons, hp] at this
    by_cases e : placeF y = p
    · have a : lkF s p = none := lkF_none.2 fun z hz => by have := f1 z hz; omega
      have b : lkF r p = none := lkF_none.2 fun z hz => by have := g1 z hz; omega
      rw [a, b]
    · rwa [if_neg e, if_neg e] at this
/-! ### Adding -/
def addF (k : Int) : List Fct → Fct → List Fct × Bool
  | [], x => ([x], true)
  | y :: r, x => if placeF y = placeF x then (⟨y.pred, y.a, y.b, joinV k y.v x.v⟩ :: r, decide (joinV k y.v x.v ≠ y.v)) else if placeF x < placeF y then (x :: y :: r, true) else (y :: (addF k r x).1, (addF k r x).2)
def newV (k : Int) (o : Option Int) (x : Fct) : Int := match o with | none => x.v | some v => joinV k v x.v
theorem lkF_addF {k : Int} {x : Fct} : ∀ {f : List Fct}, SrtF f → ∀ p, lkF (addF k f x).1 p = if p = placeF x then some (newV k (lkF f p) x) else lkF f p
  | [], _, p => by
    rw [addF, lkF_cons, lkF_nil]
    by_cases h : p = placeF x
    · rw [if_pos h.symm, if_pos h]; rfl
    · rw [if_neg (Ne.symm h), if_neg h]
  | y :: r, hs, p => by
    obtain ⟨h1, h2⟩ := List.pairwise_cons.1 hs
    rw [addF]
    split
    · rename_i he
      show lkF (_ :: r) p = _
      rw [lkF_cons, lkF_cons]
      have hpl : placeF ⟨y.pred, y.a, y.b, joinV k y.v x.v⟩ = placeF y := rfl
      rw [hpl]
      by_cases h : p = placeF x
      · rw [if_pos (he.trans h.symm), if_pos h, if_pos (he.trans h.symm)]; rfl
      · rw [if_neg (by omega), if_neg h, if_neg (by omega)]
    · rename_i he
      split
      · rename_i hlt
        show lkF (x :: y :: r) p = _
        rw [lkF_cons]
        by_cases h : p = placeF x
        · have : lkF (y :: r) p = none := lkF_none.2 fun z hz => by
            rcases List.mem_cons.1 hz with rfl | hz
            · omega
            · have := h1 z hz; omega
          rw [if_pos h.symm, if_pos h, this]; rfl
        · rw [if_neg (Ne.symm h), if_neg h]
      · rename_i hge
        show lkF (y :: (addF k r x).1) p = _
        rw [lkF_cons, lkF_cons, lkF_addF h2]
        by_cases h : p = placeF x
        · rw [if_neg (by omega), if_pos h, if_pos h, if_neg (by omega)]
        · rw [if_neg h, if_neg h]
theorem mem_addF {k : Int} {x z : Fct} : ∀ {f : List Fct}, z ∈ (addF k f x).1 → z ∈ f ∨ z = x ∨ ∃ y ∈ f, placeF y = placeF x ∧ z = ⟨y.pred, y.a, y.b, joinV k y.v x.v⟩
  | [], h => by rw [addF] at h; exact .inr (.inl (by simpa using h))
  | y :: r, h => by
    rw [addF] at h
    split at h
    · rename_i he
      rcases List.mem_cons.1 h with rfl | h
      · exact .inr (.inr ⟨y, List.mem_cons_self, he, rfl⟩)
      · exact .inl (List.mem_cons_of_mem _ h)
    · split at h
      · rcases List.mem_cons.1 h with rfl | h
        · exact .inr (.inl rfl)
        · exact .inl h
      · rcases List.mem_cons.1 h with rfl | h
        · exact .inl List.mem_cons_self
        · rcases mem_addF h with h | h | ⟨y', h1, h2⟩
          · exact .inl (List.mem_cons_of_mem _ h)
          · exact .inr (.inl h)
          · exact .inr (.inr ⟨y', List.mem_cons_of_mem _ h1, h2⟩)
theorem addF_srt {k : Int} {x : Fct} : ∀ {f : List Fct}, SrtF f → SrtF (addF k f x).1
  | [], _ => by rw [addF]; exact List.pairwise_singleton _ _
  | y :: r, hs => by
    obtain ⟨h1, h2⟩ := List.pairwise_cons.1 hs
    rw [addF]
    split
    · exact List.pairwise_cons.2 ⟨fun z hz => h1 z hz, h2⟩
    · rename_i he
      split
      · rename_i hlt
        refine List.pairwise_cons.2 ⟨fun z hz => ?_, hs⟩
        rcases List.mem_cons.1 hz with rfl | hz
        · exact hlt
        · exact Int.lt_trans hlt (h1 z hz)
      · rename_i hge
        refine List.pairwise_cons.2 ⟨fun z hz => ?_, addF_srt h2⟩
        rcases mem_addF hz with hz | rfl | ⟨y', hy', e, rfl⟩
        · exact h1 z hz
        · omega
        · show placeF y < placeF y'
          exact h1 y' hy'
theorem addF_chg {k : Int} {x : Fct} : ∀ {f : List Fct}, SrtF f → (addF k f x).2 = decide (lkF f (placeF x) ≠ some (newV k (lkF f (placeF x)) x))
  | [], _ => by simp [addF, lkF_nil, newV]
  | y :: r, hs => by
    obtain ⟨h1, h2⟩ := List.pairwise_cons.1 hs
    rw [addF, lkF_cons]
    split
    · simp [newV, eq_comm]
    · rename_i he
      split
      · rename_i hlt
        have : lkF r (placeF x) = none := lkF_none.2 fun z hz => by have := h1 z hz; omega
        rw [this]; simp
      · exact addF_chg h2
theorem addF_same {k : Int} {x : Fct} : ∀ {f : List Fct}, (addF k f x).2 = false → (addF k f x).1 = f
  | [], h => by simp [addF] at h
  | y :: r, h => by
    rw [addF] at h ⊢
    split
    · rename_i he
      rw [if_pos he] at h
      have : joinV k y.v x.v = y.v := by simpa using h
      show _ :: r = y :: r
      rw [this]
    · rename_i he
      rw [if_neg he] at h
      split
      · rename_i hlt; rw [if_pos hlt] at h; cases h
      · rename_i hlt
        rw [if_neg hlt] at h
        show y :: _ = y :: r
        rw [addF_same h]
theorem addF_fok {l : List Prd} {f : List Fct} {x : Fct} (h : FOk l f) (hx : factFine l x = true) : FOk l (addF (predOf l x.pred).kind f x).1 := by
  refine ⟨h.len, h.preds, fun z hz => ?_, addF_srt h.srt⟩
  rcases mem_addF hz with hz | rfl | ⟨y, hy, e, rfl⟩
  · exact h.fine z hz
  · exact hx
  · have hpy := (fine_pf h.len (h.fine y hy)).inj (fine_pf h.len hx) e
    have f1 := fine_iff.1 (h.fine y hy)
    have f2 := fine_iff.1 hx
    refine fine_iff.2 ⟨f1.1, f1.2.1, f1.2.2.1, f1.2.2.2.1, f1.2.2.2.2.1, ?_⟩
    show VOk (predOf l y.pred).kind _
    rw [hpy.1]
    exact joinV_ok (by have := f1.2.2.2.2.2; rwa [hpy.1] at this) f2.2.2.2.2.2
/-! ### Where a fact stands -/
def posF (f : List Fct) (x : Fct) : Nat := (f.takeWhile fun y => decide (placeF y < placeF x)).length
theorem posF_of {x : Fct} : ∀ {f : List Fct} {k : Nat}, k ≤ f.length → (∀ m, (h : m < f.length) → m < k → placeF f[m] < placeF x) → (∀ (h : k < f.length), ¬ placeF f[k] < placeF x) → posF f x = k
  | [], k, hk, _, _ => by simp at hk; subst hk; rfl
  | y :: r, 0, _, _, h2 => by
    have := h2 (by simp)
    simp only [List.getElem_cons_zero] at this
    simp [posF, this]
  | y :: r, k + 1, hk, h1, h2 => by
    have h0 := h1 0 (by simp) (by omega)
    simp only [List.getElem_cons_zero] at h0
    have := posF_of (f := r) (x := x) (k := k) (by simpa using hk) (fun m hm hmk => h1 (m + 1) (by simpa using hm) (by omega)) (fun hkl => h2 (by simpa using hkl))
    unfold posF at this ⊢
    rw [List.takeWhile_cons, if_pos (by simpa using h0), List.length_cons, this]
theorem posF_le {f : List Fct} {x : Fct} : posF f x ≤ f.length := by unfold posF; exact (List.takeWhile_sublist _).length_le
theorem posF_cons_lt {y x : Fct} {r : List Fct} (h : placeF y < placeF x) : posF (y :: r) x = posF r x + 1 := by
  unfold posF; rw [List.takeWhile_cons, if_pos (by simpa using h), List.length_cons]
theorem posF_cons_ge {y x : Fct} {r : List Fct} (h : ¬ placeF y < placeF x) : posF (y :: r) x = 0 := by
  unfold posF; rw [List.takeWhile_cons, if_neg (by simpa using h)]; rfl
/-- Is it there? -/
def isF (f : List Fct) (x : Fct) : Bool := (lkF f (placeF x)).isSome
theorem isF_iff {x : Fct} : ∀ {f : List Fct}, SrtF f → (isF f x = true ↔ ∃ h : posF f x < f.length, placeF f[posF f x] = placeF x)
  | [], _ => by simp [isF, lkF_nil]
  | y :: r, hs => by
    obtain ⟨h1, h2⟩ := List.pairwise_cons.1 hs
    unfold isF
    rw [lkF_cons]
    by_cases hlt : placeF y < placeF x
    · rw [if_neg (by omega)]
      have ih := isF_iff (x := x) h2
      unfold isF at ih
      rw [ih]
      simp only [posF_cons_lt hlt, List.length_cons, List.getElem_cons_succ]
      constructor
      · rintro ⟨a, b⟩; exact ⟨by omega, b⟩
      · rintro ⟨a, b⟩; exact ⟨by omega, b⟩
    · simp only [posF_cons_ge hlt, List.length_cons, List.getElem_cons_zero]
      by_cases he : placeF y = placeF x
      · rw [if_pos he]; simp [he]
      · rw [if_neg he]
        have : lkF r (placeF x) = none := lkF_none.2 fun z hz => by have := h1 z hz; omega
        rw [this]; simp [he]
theorem lkF_pos {f : List Fct} {x : Fct} (hs : SrtF f) (h : posF f x < f.length) (he : placeF f[posF f x] = placeF x) : lkF f (placeF x) = some f[posF f x].v :=
  (lkF_some hs).2 ⟨_, List.getElem_mem h, he, rfl⟩
theorem addF_new {k : Int} {x : Fct} : ∀ {f : List Fct}, SrtF f → isF f x = false → addF k f x = (f.take (posF f x) ++ x :: f.drop (posF f x), true)
  | [], _, _ => by simp [addF, posF]
  | y :: r, hs, hi => by
    obtain ⟨h1, h2⟩ := List.pairwise_cons.1 hs
    have hne : placeF y ≠ placeF x := fun e => by simp [isF, lkF_cons, e] at hi
    rw [addF, if_neg hne]
    by_cases hlt : placeF y < placeF x
    · rw [if_neg (by omega), posF_cons_lt hlt, addF_new h2 (by simpa [isF, lkF_cons, hne] using hi)]; rfl
    · rw [if_pos (by omega), posF_cons_ge hlt]; rfl
theorem addF_old {k : Int} {x : Fct} : ∀ {f : List Fct}, SrtF f → ∀ (h : posF f x < f.length), placeF f[posF f x] = placeF x →
    addF k f x = (f.set (posF f x) ⟨f[posF f x].pred, f[posF f x].a, f[posF f x].b, joinV k f[posF f x].v x.v⟩, decide (joinV k f[posF f x].v x.v ≠ f[posF f x].v))
  | [], _, h, _ => by simp at h
  | y :: r, hs, h, he => by
    obtain ⟨h1, h2⟩ := List.pairwise_cons.1 hs
    by_cases hlt : placeF y < placeF x
    · have e := posF_cons_lt (r := r) hlt
      simp only [e, List.length_cons, List.getElem_cons_succ] at h he ⊢
      rw [addF, if_neg (by omega), if_neg (by omega), addF_old h2 (by omega) he]
      simp
    · have e := posF_cons_ge (r := r) hlt
      simp only [e, List.getElem_cons_zero] at he ⊢
      rw [addF, if_pos he]
      simp
/-! ### Being under -/
def underF (l : List Prd) (f g : List Fct) : Bool := f.all fun x => (lkF g (placeF x)).isSome && decide (joinV (predOf l x.pred).kind x.v ((lkF g (placeF x)).getD 0) = (lkF g (placeF x)).getD 0)
def underOf (l : List Prd) (f g : List Fct) : Bool × Int := if checkFacts l f ≠ 0 then (false, checkFacts l f) else if checkFacts l g ≠ 0 then (false, checkFacts l g) else (underF l f g, 0)
theorem underF_iff {l : List Prd} {f g : List Fct} : underF l f g = true ↔ ∀ x ∈ f, ∃ v, lkF g (placeF x) = some v ∧ LeV (predOf l x.pred).kind x.v v := by
  unfold underF
  rw [List.all_eq_true]
  refine forall_congr' fun x => imp_congr_right fun _ => ?_
  cases h : lkF g (placeF x) <;> simp [LeV]
end Go.TF
end
section
/- What holds of adding and being under: plain. -/
namespace Go.TF
open Go

theorem fine_v {l : List Prd} {x : Fct} (h : factFine l x = true) : VOk (predOf l x.pred).kind x.v := (fine_iff.1 h).2.2.2.2.2
theorem same_pred {l : List Prd} {x y : Fct} (hl : l.length ≤ 5) (hx : factFine l x = true) (hy : factFine l y = true) (h : placeF x = placeF y) : x.pred = y.pred := ((fine_pf hl hx).inj (fine_pf hl hy) h).1
theorem FOk.look {l : List Prd} {f : List Fct} (h : FOk l f) {x : Fct} (hx : factFine l x = true) {v : Int} (hv : lkF f (placeF x) = some v) : VOk (predOf l x.pred).kind v := by
  obtain ⟨y, hy, e, rfl⟩ := lkF_mem hv
  have := fine_v (h.fine y hy)
  rwa [same_pred h.len (h.fine y hy) hx e] at this
section
variable {l : List Prd} {f g : List Fct} {x y : Fct}
abbrev addL (l : List Prd) (f : List Fct) (x : Fct) : List Fct := (addF (predOf l x.pred).kind f x).1
theorem lkF_addL (h : FOk l f) (p : Int) : lkF (addL l f x) p = if p = placeF x then some (newV (predOf l x.pred).kind (lkF f p) x) else lkF f p := lkF_addF h.srt p
theorem FOk.ext (hf : FOk l f) (hg : FOk l g) (h : ∀ p, lkF f p = lkF g p) : f = g := lkF_ext hf.pf hg.pf hf.srt hg.srt h
theorem under_add (hf : FOk l f) (hx : factFine l x = true) : underF l f (addL l f x) = true := by
  refine underF_iff.2 fun z hz => ?_
  rw [lkF_addL hf]
  have hzf := hf.fine z hz
  split
  · rename_i e
    rw [lkF_of_mem hf.srt hz]
    refine ⟨_, rfl, ?_⟩
    have := same_pred hf.len hzf hx e
    rw [this]
    have hv := fine_v hzf
    rw [this] at hv
    exact leV_up hv (fine_v hx)
  · exact ⟨z.v, lkF_of_mem hf.srt hz, joinV_idem (fine_v hzf)⟩
theorem under_one (hf : FOk l f) (hx : factFine l x = true) : underF l [x] (addL l f x) = true := by
  refine underF_iff.2 fun z hz => ?_
  obtain rfl : z = x := by simpa using hz
  rw [lkF_addL hf, if_pos rfl]
  refine ⟨_, rfl, ?_⟩
  have hv := fine_v hx
  cases h : lkF f (placeF z) with
  | none => exact joinV_idem hv
  | some v =>
    have := hf.look hx h
    show joinV _ z.v (joinV _ v z.v) = joinV _ v z.v
    rw [joinV_comm this hv]
    exact leV_up hv this
theorem fok_one (hl : l.length ≤ 5) (hp : ∀ p ∈ l, predFine p = true) (hx : factFine l x = true) : FOk l [x] := ⟨hl, hp, fun z hz => by rw [List.mem_singleton.1 hz]; exact hx, List.pairwise_singleton _ _⟩
theorem add_chg (hf : FOk l f) : (addF (predOf l x.pred).kind f x).2 = decide (addL l f x ≠ f) := by
  cases h : (addF (predOf l x.pred).kind f x).2
  · rw [show addL l f x = f from addF_same h]; simp
  · symm; rw [decide_eq_true_eq]; intro e
    rw [addF_chg hf.srt, decide_eq_true_eq] at h
    have := lkF_addL (x := x) hf (placeF x)
    rw [if_pos rfl, e] at this
    exact h this
theorem under_refl (hf : FOk l f) : underF l f f = true := underF_iff.2 fun z hz => ⟨z.v, lkF_of_mem hf.srt hz, joinV_idem (fine_v (hf.fine z hz))⟩
theorem under_trans {k : List Fct} (hf : FOk l f) (hg : FOk l g) (hk : FOk l k) (h1 : underF l f g = true) (h2 : underF l g k = true) : underF l f k = true := underF_iff.2 fun z hz => by
  have hzf := hf.fine z hz
  obtain ⟨v, hv, l1⟩ := underF_iff.1 h1 z hz
  obtain ⟨z', hz', e, rfl⟩ := lkF_mem hv
  obtain ⟨u, hu, l2⟩ := underF_iff.1 h2 z' hz'
  have ep := same_pred hf.len (hg.fine z' hz') hzf e
  rw [e] at hu
  rw [ep] at l2
  have hv' := fine_v (hg.fine z' hz')
  rw [ep] at hv'
  exact ⟨u, hu, leV_trans (fine_v hzf) hv' (hk.look hzf hu) l1 l2⟩
theorem under_anti (hf : FOk l f) (hg : FOk l g) (h1 : underF l f g = true) (h2 : underF l g f = true) : f = g := by
  have key : ∀ {f g : List Fct}, FOk l f → FOk l g → underF l f g = true → underF l g f = true → ∀ p v, lkF f p = some v → lkF g p = some v := fun {f g} hf hg h1 h2 p v hv => by
    obtain ⟨z, hz, rfl, rfl⟩ := lkF_mem hv
    obtain ⟨u, hu, l1⟩ := underF_iff.1 h1 z hz
    obtain ⟨z', hz', e, rfl⟩ := lkF_mem hu
    obtain ⟨t, ht, l2⟩ := underF_iff.1 h2 z' hz'
    rw [e, hv] at ht
    cases ht
    have ep := same_pred hf.len (hg.fine z' hz') (hf.fine z hz) e
    rw [ep] at l2
    have hv' := fine_v (hg.fine z' hz')
    rw [ep] at hv'
    rw [hu, leV_antisymm (fine_v (hf.fine z hz)) hv' l1 l2]
  refine hf.ext hg fun p => ?_
  cases h : lkF f p with
  | some v => exact (key hf hg h1 h2 p v h).symm
  | none =>
    cases h' : lkF g p with
    | none => rfl
    | some v => rw [key hg hf h2 h1 p v h'] at h; cases h
end
end Go.TF
end
section
/- What programs are, wherever they lie; pieces of slices; what is yielded in a region that draws: plain. -/
namespace Go.TF
open Go Go.RowKit

/-! ### The same, laid nowhere -/
def Sl.er {α : Type} (s : Sl α) : Sl α := ⟨none, 0, s.xs⟩
def Atm.er (a : Atm) : Atm := ⟨a.pred, a.args.er⟩
def Ltl.er (x : Ltl) : Ltl := ⟨x.neg, x.atom.er⟩
def Rul.er (r : Rul) : Rul := ⟨r.head.er, r.src, r.n, ⟨none, 0, r.body.xs.map Ltl.er⟩⟩
def Prg.er (p : Prg) : Prg := ⟨p.preds.er, ⟨none, 0, p.rules.xs.map Rul.er⟩⟩
theorem checkAtom_er (l : List Prd) (a : Atm) : checkAtom l a.er = checkAtom l a := rfl
theorem standsIn_er (a : Atm) (v : Int) : standsIn a.er v = standsIn a v := rfl
theorem bodyErr_er (l : List Prd) (b : List Ltl) : bodyErr l (b.map Ltl.er) = bodyErr l b := by
  induction b with
  | nil => rfl
  | cons x r ih => simp only [List.map_cons, bodyErr, ih, Ltl.er, checkAtom_er]
theorem any_er (f : Ltl → Bool) (hf : ∀ x, f x.er = f x) (b : List Ltl) : (b.map Ltl.er).any f = b.any f := by
  rw [List.any_map]; congr 1; funext x; exact hf x
theorem freeVar_er (r : Rul) (v : Int) : freeVar r.er v = freeVar r v := by
  unfold freeVar boundIn Rul.er
  rw [any_er _ (fun x => rfl), any_er _ (fun x => rfl), standsIn_er]
theorem litOf_er {r : Rul} {k : Int} (h0 : 0 ≤ k) (h1 : k < r.body.xs.length) : litOf r.er k = (litOf r k).er := by
  have : k.toNat < r.body.xs.length := by omega
  simp [litOf, Rul.er, List.getD_eq_getElem?_getD, this]
theorem checkRule_er (l : List Prd) (r : Rul) : checkRule l r.er = checkRule l r := by
  have h1 : r.er.head = r.head.er := rfl
  have h2 : r.er.body.xs = r.body.xs.map Ltl.er := rfl
  have h3 : r.er.src = r.src := rfl
  have h4 : r.er.n = r.n := rfl
  have h5 : r.head.er.pred = r.head.pred := rfl
  unfold checkRule
  rw [h1, h2, h3, h4, h5, checkAtom_er, bodyErr_er, freeVar_er, freeVar_er, freeVar_er, List.length_map]
  by_cases c : r.src < -1 ∨ (r.body.xs.length : Int) ≤ r.src
  · simp only [if_pos c]
  · by_cases h0 : 0 ≤ r.src
    · rw [litOf_er h0 (by omega)]; rfl
    · have e : ∀ p : Prop, (0 ≤ r.src ∧ p) ↔ False := fun p => ⟨fun h => h0 h.1, False.elim⟩
      simp only [e]

/-- A piece of a slice. -/
def Sl.cut {α : Type} (s : Sl α) (k l h : Nat) : Sl α := ⟨some (if s.cap = l then ⟨s.blk, s.off, none⟩ else ⟨s.blk, s.off + l * k, none⟩), s.cap - l, (s.xs.take h).drop l⟩
theorem Sl.In.cut {α : Type} {s : Sl α} {k : Nat} {enc : α → List Value} {h : Heap} (hs : s.In k enc h) {l hi : Nat} (hc : s.xs.length ≤ s.cap) : (s.cut k l hi).In k enc h := fun i x hx => by
  simp only [Sl.cut, List.getElem?_drop, List.getElem?_take] at hx
  split at hx
  · have h1 := hs _ _ hx
    have h2 := (List.getElem?_eq_some_iff.1 hx).1
    have hne : s.cap ≠ l := by omega
    refine ⟨by simp [Sl.cut, hne, Sl.blk, Sl.off], ?_⟩
    have e1 : (s.cut k l hi).blk = s.blk := by simp [Sl.cut, hne, Sl.blk]
    have e2 : (s.cut k l hi).off = s.off + l * k := by
      have : (s.cut k l hi).off = ((if s.cap = l then (⟨s.blk, s.off, none⟩ : Addr) else ⟨s.blk, s.off + l * k, none⟩)).off := rfl
      rw [this, if_neg hne]
    rw [e1, e2, show s.off + l * k + i * k = s.off + (l + i) * k by rw [Nat.add_mul]; omega]
    exact h1.2
  · cases hx
theorem Sl.Is.cut {α : Type} {s : Sl α} {k : Nat} {enc : α → List Value} {h : Heap} (hs : s.Is k enc h) {l hi : Nat} (hc : s.xs.length ≤ s.cap) : (s.cut k l hi).Is k enc h :=
  ⟨hs.el.cut hc, by have := hs.small; simp only [Sl.cut, List.length_drop, List.length_take]; omega⟩
theorem Y.cut {P : Program} {e : Env} {w : World} {d : Option Nat} {t : TypeId} {pos : String} {af : Array Edge} {g : Option (Nat × Bool)} {α : Type} {s : Sl α} {x : Operand} {T el ks : TypeId} {lo hi : Option Operand} {l h : Nat} (hT : Und P T (.slice el)) (hk : ∀ w, (sizeOf el).run P w = .ok ks w)
    (ha : s.at_ = some ⟨s.blk, s.off, none⟩) (hc : s.xs.length ≤ s.cap) (hx : ev e x = s.val)
    (hl : lo = none ∧ l = 0 ∨ ∃ q k, lo = some q ∧ ev e q = .int k (l : Int)) (hh : hi = none ∧ h = s.xs.length ∨ ∃ q k, hi = some q ∧ ev e q = .int k (h : Int)) (h1 : l ≤ h) (h2 : h ≤ s.xs.length) :
    Y P ⟨d, .slice T x lo hi none, t, pos, af, g⟩ e w (s.cut ks l h).val := by
  have hx' : ev e x = .slice (some ⟨s.blk, s.off, none⟩) s.xs.length s.cap := by rw [hx, Sl.val, ha]
  refine (Y.slicesl hT hk hx' hl hh h1 (by omega)).is ?_
  simp only [Sl.cut, Sl.val, List.length_drop, List.length_take]
  rw [Nat.min_eq_left h2]

/-! ### What regions that draw their order yield -/
def SlS {α : Type} (k : Nat) (enc : α → List Value) (xs : List α) : Sp := fun u h => ∃ s : Sl α, u = s.val ∧ s.xs = xs ∧ s.Is k enc h
theorem SlS.mono {α : Type} {k : Nat} {enc : α → List Value} {xs : List α} : MonoS (SlS k enc xs) := fun _ _ _ hl ⟨s, a, b, c⟩ => ⟨s, a, b, c.le hl⟩
def AtmS (p : Int) (xs : List Trm) : Sp := fun u h => ∃ a : Atm, u = a.val ∧ a.er = ⟨p, ⟨none, 0, xs⟩⟩ ∧ a.In h
theorem AtmS.mono {p : Int} {xs : List Trm} : MonoS (AtmS p xs) := fun _ _ _ hl ⟨s, a, b, c⟩ => ⟨s, a, b, c.le hl⟩
theorem nilIs {α : Type} {k : Nat} {enc : α → List Value} {h : Heap} : (⟨none, 0, []⟩ : Sl α).Is k enc h := ⟨fun i x hx => by simp at hx, by simp⟩

/-! ### The roads -/
def aT (p : Int) (l : List Trm) : Atm := ⟨p, ⟨none, 0, l⟩⟩
@[reducible] def tV (n : Int) : Trm := ⟨true, n⟩
@[reducible] def tC (n : Int) : Trm := ⟨false, n⟩
def bEdge : ByteArray := ⟨#[101, 100, 103, 101]⟩
def bFar : ByteArray := ⟨#[102, 97, 114]⟩
def bLone : ByteArray := ⟨#[108, 111, 110, 101]⟩
def rT (h : Atm) (src n : Int) (b : List Ltl) : Rul := ⟨h, src, n, ⟨none, 0, b⟩⟩
def roadsC : Prg := ⟨⟨none, 0, [⟨bEdge, 2, 0⟩, ⟨bFar, 2, 2⟩, ⟨bLone, 1, 0⟩]⟩, ⟨none, 0, [
  rT (aT 0 [tC 0, tC 1]) (-1) 0 [], rT (aT 0 [tC 1, tC 2]) (-1) 0 [], rT (aT 0 [tC 2, tC 0]) (-1) 0 [], rT (aT 0 [tC 3, tC 0]) (-1) 0 [],
  rT (aT 1 [tV 0, tV 1]) (-1) 1 [⟨false, aT 0 [tV 0, tV 1]⟩],
  rT (aT 1 [tV 0, tV 2]) 0 1 [⟨false, aT 1 [tV 0, tV 1]⟩, ⟨false, aT 0 [tV 1, tV 2]⟩],
  rT (aT 2 [tV 0]) (-1) 0 [⟨false, aT 0 [tV 0, tV 1]⟩, ⟨true, aT 1 [tV 0, tV 0]⟩]]⟩⟩
structure RoadsAt (p : Prg) (h : Heap) : Prop where
  is : p.In h
  er : p.er = roadsC
  cap : ∀ x ∈ p.rules.xs, x.body.xs.length ≤ x.body.cap
end Go.TF
end
section
/- Strata and needs: plain. -/
namespace Go.TF
open Go

/-- What a program's rules use: which predicate's rule uses which literal. -/
def usesL (rs : List Rul) : List (Int × Ltl) := rs.flatMap fun r => r.body.xs.map fun x => (r.head.pred, x)
def lv (L : List Int) (i : Int) : Int := L.getD i.toNat 0
def ng (x : Ltl) : Int := if x.neg then 1 else 0
def lst (L : List Int) (c : Int × Ltl) : Int := lv L c.2.atom.pred + ng c.2
def SatC (L : List Int) (c : Int × Ltl) : Prop := lst L c ≤ lv L c.1
structure InR (cs : List (Int × Ltl)) (n : Nat) : Prop where
  h : ∀ c ∈ cs, 0 ≤ c.1 ∧ c.1 < n
  b : ∀ c ∈ cs, 0 ≤ c.2.atom.pred ∧ c.2.atom.pred < n
structure Sol (cs : List (Int × Ltl)) (n : Nat) (L : List Int) : Prop where
  len : L.length = n
  pos : ∀ i, 0 ≤ lv L i
  sat : ∀ c ∈ cs, SatC L c
structure Least (cs : List (Int × Ltl)) (n : Nat) (L : List Int) : Prop where
  sol : Sol cs n L
  least : ∀ M, Sol cs n M → ∀ i, lv L i ≤ lv M i
def StrataR (cs : List (Int × Ltl)) (n : Nat) : Option (List Int) → Prop
  | some L => Least cs n L
  | none => ∀ M, ¬ Sol cs n M
theorem lv_get {L : List Int} {i : Nat} (h : i < L.length) : lv L i = L[i] := by simp [lv, List.getD_eq_getElem?_getD, h]
theorem lv_ext {L M : List Int} (hl : L.length = M.length) (h : ∀ i, lv L i = lv M i) : L = M := by
  apply List.ext_getElem hl
  intro i h1 h2
  have := h i
  rwa [lv_get h1, lv_get h2] at this
theorem StrataR.uniq {cs : List (Int × Ltl)} {n : Nat} : ∀ {r r' : Option (List Int)}, StrataR cs n r → StrataR cs n r' → r = r'
  | none, none, _, _ => rfl
  | none, some L, h, h' => (h L h'.sol).elim
  | some L, none, h, h' => (h' L h.sol).elim
  | some L, some M, h, h' => by
    congr 1
    exact lv_ext (h.sol.len.trans h'.sol.len.symm) fun i => Int.le_antisymm (h.least M h'.sol i) (h'.least L h.sol i)
theorem ng_le (x : Ltl) : 0 ≤ ng x ∧ ng x ≤ 1 := by unfold ng; split <;> omega
theorem lv_set {L : List Int} {i : Int} (h0 : 0 ≤ i) (h1 : i < L.length) (v j : Int) (hj : 0 ≤ j) : lv (L.set i.toNat v) j = if j = i then v else lv L j := by
  simp only [lv, List.getD_eq_getElem?_getD, List.getElem?_set]
  by_cases e : j = i
  · subst e; simp [show j.toNat < L.length by omega]
  · rw [if_neg e, if_neg (by omega)]
theorem lv_neg (L : List Int) {j : Int} (hj : j < 0) : lv L j = lv L 0 := by simp [lv, show j.toNat = 0 by omega]
theorem lv_zero (n : Nat) (i : Int) : lv (List.replicate n 0) i = 0 := by
  simp only [lv, List.getD_eq_getElem?_getD, List.getElem?_replicate]; split <;> rfl

/-- How many are less. -/
def rank (M : List Int) (v : Int) : Int := (M.countP fun u => decide (u < v) : Nat)
theorem countP_lt {M : List Int} {u v : Int} (huv : u < v) {i : Nat} (hi : i < M.length) (he : M[i] = u) : (M.countP fun x => decide (x < u)) < M.countP fun x => decide (x < v) := by
  induction M generalizing i with
  | nil => simp at hi
  | cons a M ih =>
    have mono : ∀ l : List Int, (l.countP fun x => decide (x < u)) ≤ l.countP fun x => decide (x < v) := fun l => List.countP_mono_left (fun x _ hx => by simp at hx ⊢; omega)
    cases i with
    | zero =>
      simp at he; subst he
      have := mono M
      simp [huv]; omega
    | succ i =>
      have := ih (by simpa using hi) (by simpa using he)
      simp only [List.countP_cons]
      have h2 : (if decide (a < u) = true then 1 else 0) ≤ (if decide (a < v) = true then 1 else 0) := by
        by_cases h : a < u
        · simp [h, show a < v by omega]
        · simp [h]
      omega
theorem countP_self_lt {M : List Int} {u : Int} {i : Nat} (hi : i < M.length) (he : M[i] = u) : (M.countP fun x => decide (x < u)) < M.length := by
  have h1 : (M.countP fun x => decide (x < u)) ≤ M.length := List.countP_le_length
  rcases Nat.lt_or_ge (M.countP fun x => decide (x < u)) M.length with h | h
  · exact h
  · have h2 : (M.countP fun x => decide (x < u)) = M.length := by omega
    rw [List.countP_eq_length] at h2
    have := h2 M[i] (List.getElem_mem hi)
    simp [he] at this
/-- If there are strata at all, there are such that are less than the number of predicates. -/
theorem Sol.small {cs : List (Int × Ltl)} {n : Nat} {M : List Int} (hr : InR cs n) (h : Sol cs n M) : ∃ M', Sol cs n M' ∧ ∀ i : Int, 0 ≤ i → i < n → lv M' i < n := by
  have hlv : ∀ i : Int, 0 ≤ i → i < n → lv (M.map (rank M)) i = rank M (lv M i) := fun i h0 h1 => by
    have : i.toNat < M.length := by rw [h.len]; omega
    simp [lv, List.getD_eq_getElem?_getD, this]
  refine ⟨M.map (rank M), ⟨by simp [h.len], fun i => ?_, fun c hc => ?_⟩, fun i h0 h1 => ?_⟩
  · simp only [lv, List.getD_eq_getElem?_getD, List.getElem?_map]
    cases M[i.toNat]? with
    | none => simp
    | some v => simp [rank]
  · have hh := hr.h c hc
    have hb := hr.b c hc
    have hs := h.sat c hc
    unfold SatC lst at hs ⊢
    rw [hlv _ hh.1 hh.2, hlv _ hb.1 hb.2]
    have hbl : c.2.atom.pred.toNat < M.length := by rw [h.len]; omega
    have hbe : M[c.2.atom.pred.toNat] = lv M c.2.atom.pred := by simp [lv, List.getD_eq_getElem?_getD, hbl]
    by_cases hlt : lv M c.2.atom.pred < lv M c.1
    · have := countP_lt hlt hbl hbe
      have := ng_le c.2
      simp only [rank]; omega
    · have hz : ng c.2 = 0 := by have := ng_le c.2; omega
      have he : lv M c.2.atom.pred = lv M c.1 := by omega
      rw [he, hz]; omega
  · rw [hlv i h0 h1]
    have hil : i.toNat < M.length := by rw [h.len]; omega
    have hie : M[i.toNat] = lv M i := by simp [lv, List.getD_eq_getElem?_getD, hil]
    have := countP_self_lt hil hie
    rw [h.len] at this
    simp only [rank]; omega

/-- On the way: not above any strata that there are. -/
structure Good (cs : List (Int × Ltl)) (n : Nat) (L : List Int) : Prop where
  len : L.length = n
  pos : ∀ i, 0 ≤ lv L i
  le : ∀ M, Sol cs n M → ∀ i, lv L i ≤ lv M i
theorem Good.zero (cs : List (Int × Ltl)) (n : Nat) : Good cs n (List.replicate n 0) :=
  ⟨by simp, fun i => by rw [lv_zero]; omega, fun M hM i => by rw [lv_zero]; exact hM.pos i⟩
theorem Good.raise {cs : List (Int × Ltl)} {n : Nat} {L : List Int} (hr : InR cs n) (g : Good cs n L) {c : Int × Ltl} (hc : c ∈ cs) : Good cs n (L.set c.1.toNat (lst L c)) := by
  have hh := hr.h c hc
  have hb := hr.b c hc
  have hl : c.1 < L.length := by rw [g.len]; exact hh.2
  refine ⟨by simp [g.len], fun i => ?_, fun M hM i => ?_⟩
  · by_cases hi : 0 ≤ i
    · rw [lv_set hh.1 hl _ _ hi]; split
      · have := g.pos c.2.atom.pred; have := ng_le c.2; unfold lst; omega
      · exact g.pos i
    · rw [lv_neg _ (by omega), lv_set hh.1 hl _ _ (Int.le_refl 0)]; split
      · have := g.pos c.2.atom.pred; have := ng_le c.2; unfold lst; omega
      · exact g.pos 0
  · have key : ∀ i, 0 ≤ i → lv (L.set c.1.toNat (lst L c)) i ≤ lv M i := fun i hi => by
      rw [lv_set hh.1 hl _ _ hi]; split
      · rename_i e; subst e
        have h1 := hM.sat c hc
        have h2 := g.le M hM c.2.atom.pred
        unfold SatC at h1; unfold lst at h1 ⊢; omega
      · exact g.le M hM i
    by_cases hi : 0 ≤ i
    · exact key i hi
    · rw [lv_neg _ (by omega), lv_neg M (by omega)]; exact key 0 (Int.le_refl 0)
theorem Good.done {cs : List (Int × Ltl)} {n : Nat} {L : List Int} (g : Good cs n L) (h : ∀ c ∈ cs, SatC L c) : StrataR cs n (some L) := ⟨⟨g.len, g.pos, h⟩, g.le⟩
theorem Good.fail {cs : List (Int × Ltl)} {n : Nat} {L : List Int} (hr : InR cs n) (g : Good cs n L) {c : Int × Ltl} (hc : c ∈ cs) (hn : n ≤ lst L c) : StrataR cs n none := fun M hM => by
  obtain ⟨M', hM', hlt⟩ := hM.small hr
  have hh := hr.h c hc
  have h1 := hM'.sat c hc
  have h2 := g.le M' hM' c.2.atom.pred
  have h3 := hlt c.1 hh.1 hh.2
  unfold SatC at h1; unfold lst at h1 hn; omega
theorem Good.lt {cs : List (Int × Ltl)} {n : Nat} {L : List Int} (hr : InR cs n) (g : Good cs n L) (hs : ∃ M, Sol cs n M) {i : Int} (h0 : 0 ≤ i) (h1 : i < n) : lv L i < n := by
  obtain ⟨M, hM⟩ := hs
  obtain ⟨M', hM', hlt⟩ := hM.small hr
  exact Int.lt_of_le_of_lt (g.le M' hM' i) (hlt i h0 h1)
/-- How much can be raised still. -/
def pot (n : Nat) (L : List Int) : Nat := (L.map fun v => ((n : Int) - v).toNat).sum
theorem sum_set_lt : ∀ (l : List Nat) (i : Nat) (y : Nat) (h : i < l.length), y < l[i] → (l.set i y).sum < l.sum
  | a :: l, 0, y, _, hy => by simp at hy ⊢; omega
  | a :: l, i + 1, y, h, hy => by
    have := sum_set_lt l i y (by simpa using h) (by simpa using hy)
    simp only [List.set_cons_succ, List.sum_cons]; omega
theorem pot_set_lt {n : Nat} {L : List Int} {i : Int} {v : Int} (h0 : 0 ≤ i) (h1 : i < L.length) (hv : lv L i < v) (hn : lv L i < n) : pot n (L.set i.toNat v) < pot n L := by
  have hi : i.toNat < L.length := by omega
  have he : L[i.toNat] = lv L i := by simp [lv, List.getD_eq_getElem?_getD, hi]
  unfold pot
  rw [List.map_set]
  refine sum_set_lt _ _ _ (by simpa using hi) ?_
  rw [List.getElem_map, he]; omega
/-- Within one pass over all uses. -/
structure Pass (cs : List (Int × Ltl)) (n : Nat) (L : List Int) (same : Bool) (L' : List Int) (done : List (Int × Ltl)) : Prop where
  good : Good cs n L'
  t : same = true → L' = L ∧ ∀ c ∈ done, SatC L c
  f : same = false → (∃ M, Sol cs n M) → pot n L' + 1 ≤ pot n L
theorem Pass.start {cs : List (Int × Ltl)} {n : Nat} {L : List Int} (g : Good cs n L) : Pass cs n L true L [] := ⟨g, fun _ => ⟨rfl, by simp⟩, fun h => by cases h⟩
theorem Pass.raise {cs : List (Int × Ltl)} {n : Nat} {L L' : List Int} {same : Bool} {done : List (Int × Ltl)} (hr : InR cs n) (x : Pass cs n L same L' done) {c : Int × Ltl} (hc : c ∈ cs) (h : lv L' c.1 < lst L' c) : Pass cs n L false (L'.set c.1.toNat (lst L' c)) (done ++ [c]) := by
  have hh := hr.h c hc
  refine ⟨x.good.raise hr hc, (fun h => by cases h), fun _ hs => ?_⟩
  have h1 := pot_set_lt (n := n) hh.1 (by rw [x.good.len]; exact hh.2) h (x.good.lt hr hs hh.1 hh.2)
  cases hsm : same
  · have := x.f hsm hs; omega
  · have := (x.t hsm).1; subst this; omega
/-! ### Needs -/
def Uses (cs : List (Int × Ltl)) (a b : Int) : Prop := ∃ c ∈ cs, c.1 = a ∧ c.2.atom.pred = b
inductive Reach (cs : List (Int × Ltl)) (a : Int) : Int → Prop
  | refl : Reach cs a a
  | step {b c : Int} : Reach cs a b → Uses cs b c → Reach cs a c
def bv (N : List Bool) (i : Int) : Bool := N.getD i.toNat false
structure NeedsR (cs : List (Int × Ltl)) (n : Nat) (p : Int) (N : List Bool) : Prop where
  len : N.length = n
  iff : ∀ i : Int, 0 ≤ i → i < n → (bv N i = true ↔ Reach cs p i)
theorem NeedsR.uniq {cs : List (Int × Ltl)} {n : Nat} {p : Int} {N N' : List Bool} (h : NeedsR cs n p N) (h' : NeedsR cs n p N') : N = N' := by
  apply List.ext_getElem (h.len.trans h'.len.symm)
  intro i h1 h2
  have a := h.iff i (by omega) (by have := h.len; omega)
  have b := h'.iff i (by omega) (by have := h.len; omega)
  have e1 : bv N i = N[i] := by simp [bv, List.getD_eq_getElem?_getD, h1]
  have e2 : bv N' i = N'[i] := by simp [bv, List.getD_eq_getElem?_getD, h2]
  rw [e1] at a; rw [e2] at b
  cases hx : N[i] <;> cases hy : N'[i] <;> simp_all
theorem bv_set {N : List Bool} {i : Int} (h0 : 0 ≤ i) (h1 : i < N.length) (v : Bool) (j : Int) (hj : 0 ≤ j) : bv (N.set i.toNat v) j = if j = i then v else bv N j := by
  simp only [bv, List.getD_eq_getElem?_getD, List.getElem?_set]
  by_cases e : j = i
  · subst e; simp [show j.toNat < N.length by omega]
  · rw [if_neg e, if_neg (by omega)]
theorem bv_none (n : Nat) (i : Int) : bv (List.replicate n false) i = false := by
  simp only [bv, List.getD_eq_getElem?_getD, List.getElem?_replicate]; split <;> rfl
def ClosedN (cs : List (Int × Ltl)) (N : List Bool) : Prop := ∀ c ∈ cs, bv N c.1 = true → bv N c.2.atom.pred = true
theorem NeedsR.of {cs : List (Int × Ltl)} {n : Nat} {p : Int} {N : List Bool} (hl : N.length = n) (hs : ∀ i : Int, 0 ≤ i → i < n → bv N i = true → Reach cs p i) (hp : bv N p = true) (hc : ClosedN cs N) : NeedsR cs n p N := by
  refine ⟨hl, fun i h0 h1 => ⟨hs i h0 h1, fun h => ?_⟩⟩
  clear h0 h1
  induction h with
  | refl => exact hp
  | step _ hu ih => obtain ⟨c, hc1, rfl, rfl⟩ := hu; exact hc c hc1 ih
def trues (N : List Bool) : Nat := N.countP id
theorem trues_set : ∀ (N : List Bool) (i : Nat) (h : i < N.length), N[i] = false → trues (N.set i true) = trues N + 1
  | a :: N, 0, _, hf => by simp at hf; subst hf; simp [trues]
  | a :: N, i + 1, h, hf => by
    have := trues_set N i (by simpa using h) (by simpa using hf)
    unfold trues at this ⊢
    simp only [List.set_cons_succ, List.countP_cons, this]; omega
theorem set_same : ∀ (N : List Bool) (i : Nat) (h : i < N.length), N[i] = true → N.set i true = N
  | a :: N, 0, _, hf => by simp at hf; subst hf; rfl
  | a :: N, i + 1, h, hf => by simp [set_same N i (by simpa using h) (by simpa using hf)]
theorem trues_le (N : List Bool) : trues N ≤ N.length := List.countP_le_length

/-- Within one pass over all uses. -/
structure PassN (cs : List (Int × Ltl)) (n : Nat) (p : Int) (N N1 : List Bool) (done : List (Int × Ltl)) : Prop where
  len : N1.length = n
  snd : ∀ i : Int, 0 ≤ i → i < n → bv N1 i = true → Reach cs p i
  has : bv N1 p = true
  or : (N1 = N ∧ ∀ c ∈ done, bv N c.1 = true → bv N c.2.atom.pred = true) ∨ trues N < trues N1
  closed : ClosedN cs N → N1 = N
theorem PassN.skip {cs : List (Int × Ltl)} {n : Nat} {p : Int} {N N1 : List Bool} {done more : List (Int × Ltl)} (x : PassN cs n p N N1 done) (h : ∀ c ∈ more, bv N1 c.1 = false) : PassN cs n p N N1 (done ++ more) :=
  ⟨x.len, x.snd, x.has, x.or.imp (fun ⟨e, hd⟩ => ⟨e, fun c hc => by
    rcases List.mem_append.1 hc with h1 | h1
    · exact hd c h1
    · intro ht; rw [← e, h c h1] at ht; cases ht⟩) id, x.closed⟩
theorem PassN.put {cs : List (Int × Ltl)} {n : Nat} {p : Int} {N N1 : List Bool} {done : List (Int × Ltl)} (hr : InR cs n) (hp : 0 ≤ p) (x : PassN cs n p N N1 done) {c : Int × Ltl} (hc : c ∈ cs) (ht : bv N1 c.1 = true) : PassN cs n p N (N1.set c.2.atom.pred.toNat true) (done ++ [c]) := by
  have hh := hr.h c hc
  have hb := hr.b c hc
  have hl : c.2.atom.pred < N1.length := by rw [x.len]; exact hb.2
  have hi : c.2.atom.pred.toNat < N1.length := by omega
  have hrc : Reach cs p c.2.atom.pred := .step (x.snd _ hh.1 hh.2 ht) ⟨c, hc, rfl, rfl⟩
  have he : N1[c.2.atom.pred.toNat] = bv N1 c.2.atom.pred := by simp [bv, List.getD_eq_getElem?_getD, hi]
  by_cases hq : bv N1 c.2.atom.pred = true
  · rw [set_same N1 _ hi (by rw [he]; exact hq)]
    exact ⟨x.len, x.snd, x.has, x.or.imp (fun ⟨e, hd⟩ => ⟨e, fun d hd' => by
      rcases List.mem_append.1 hd' with h1 | h1
      · exact hd d h1
      · rw [List.mem_singleton.1 h1]; intro _; rw [← e]; exact hq⟩) id, x.closed⟩
  · have hq' : bv N1 c.2.atom.pred = false := by simpa using hq
    have htr := trues_set N1 _ hi (by rw [he]; exact hq')
    refine ⟨by simp [x.len], fun i h0 h1 h => ?_, ?_, .inr ?_, fun hcl => ?_⟩
    · rw [bv_set hb.1 hl _ _ h0] at h
      split at h
      · rename_i e; rw [e]; exact hrc
      · exact x.snd i h0 h1 h
    · rw [bv_set hb.1 hl _ _ hp]; split
      · rfl
      · exact x.has
    · rcases x.or with ⟨e, _⟩ | h
      · subst e; omega
      · omega
    · have e := x.closed hcl
      subst e
      exact absurd (hcl c hc ht) hq
/-! ### Names -/
def lowB (b : UInt8) : Bool := decide (97 ≤ b.toNat) && decide (b.toNat ≤ 122)
def isName (s : ByteArray) : Bool := decide (1 ≤ s.size) && decide (s.size ≤ 8) && s.data.toList.all lowB
/-! ### Programs -/
def rulesErr (l : List Prd) : List Rul → Int
  | [] => 0
  | r :: rs => if checkRule l r ≠ 0 then checkRule l r else rulesErr l rs
theorem rulesErr_zero {l : List Prd} {rs : List Rul} : rulesErr l rs = 0 ↔ ∀ r ∈ rs, checkRule l r = 0 := by
  induction rs with
  | nil => simp [rulesErr]
  | cons x r ih =>
    simp only [rulesErr, List.mem_cons, forall_eq_or_imp]
    by_cases h : checkRule l x = 0
    · simp [h, ih]
    · simp [h]
theorem rulesErr_at {l : List Prd} {b : List Rul} {k : Nat} (hk : k < b.length) (h1 : ∀ j, j < k → ∀ hj' : j < b.length, checkRule l b[j] = 0) (h2 : checkRule l b[k] ≠ 0) : rulesErr l b = checkRule l b[k] := by
  induction b generalizing k with
  | nil => simp at hk
  | cons x r ih =>
    cases k with
    | zero => simp only [List.getElem_cons_zero] at h2 ⊢; simp [rulesErr, h2]
    | succ k =>
      have h0 := h1 0 (by omega) (by simp)
      simp only [List.getElem_cons_zero] at h0
      simp only [rulesErr, h0, List.getElem_cons_succ]
      simp only [List.getElem_cons_succ] at h2
      exact ih (by simpa using hk) (fun j _ hj' => by have := h1 (j + 1) (by omega) (by simpa using hj'); simpa using this) h2
/-- Does a name stand there twice? -/
def early (l : List Prd) (k : Nat) : Bool := (l.take k).any fun y => decide (y.name = (l.getD k default).name)
def twice (l : List Prd) : Bool := (List.range l.length).any (early l)
def badArity (x : Prd) : Bool := decide (x.arity < 0 ∨ 2 < x.arity)
def badKind (x : Prd) : Bool := decide (x.kind < 0 ∨ 3 < x.kind)
open Classical in
noncomputable def checkProg (p : Prg) : Int :=
  if 5 < p.preds.xs.length ∨ 8 < p.rules.xs.length then 2
  else if p.preds.xs.any (fun x => !isName x.name) then 5
  else if twice p.preds.xs then 6
  else if p.preds.xs.any badArity then 3
  else if p.preds.xs.any badKind then 4
  else if rulesErr p.preds.xs p.rules.xs ≠ 0 then rulesErr p.preds.xs p.rules.xs
  else if ∃ M, Sol (usesL p.rules.xs) p.preds.xs.length M then 0 else 8
theorem checkRule_ok {l : List Prd} {r : Rul} (h : checkRule l r = 0) : checkAtom l r.head = 0 ∧ r.body.xs.length ≤ 3 ∧ ∀ x ∈ r.body.xs, checkAtom l x.atom = 0 := by
  unfold checkRule at h
  split at h
  · rename_i h1; exact absurd h h1
  split at h
  · cases h
  split at h
  · rename_i h1; exact absurd h h1
  rename_i h1 h2 h3
  exact ⟨Decidable.not_not.1 h1, by omega, bodyErr_ne.1 (Decidable.not_not.1 h3)⟩
theorem checkAtom_in' {l : List Prd} {a : Atm} (h : checkAtom l a = 0) : 0 ≤ a.pred ∧ a.pred < l.length := by
  unfold checkAtom at h
  split at h
  · cases h
  · omega
theorem inR_of {l : List Prd} {rs : List Rul} (h : rulesErr l rs = 0) : InR (usesL rs) l.length := by
  have key : ∀ c ∈ usesL rs, ∃ r ∈ rs, ∃ x ∈ r.body.xs, c = (r.head.pred, x) := fun c hc => by
    unfold usesL at hc
    obtain ⟨r, hr, hc⟩ := List.mem_flatMap.1 hc
    obtain ⟨x, hx, rfl⟩ := List.mem_map.1 hc
    exact ⟨r, hr, x, hx, rfl⟩
  refine ⟨fun c hc => ?_, fun c hc => ?_⟩ <;> obtain ⟨r, hr, x, hx, rfl⟩ := key c hc <;> have h1 := checkRule_ok (rulesErr_zero.1 h r hr)
  · exact checkAtom_in' h1.1
  · exact checkAtom_in' (h1.2.2 x hx)
theorem checkProg_ok {p : Prg} (h : checkProg p = 0) : p.preds.xs.length ≤ 5 ∧ p.rules.xs.length ≤ 8 ∧ rulesErr p.preds.xs p.rules.xs = 0 ∧ ∃ M, Sol (usesL p.rules.xs) p.preds.xs.length M := by
  unfold checkProg at h
  split at h
  · cases h
  split at h
  · cases h
  split at h
  · cases h
  split at h
  · cases h
  split at h
  · cases h
  split at h
  · rename_i h1; exact absurd h h1
  split at h
  · rename_i h1 _ _ _ _ h2 h3
    exact ⟨by omega, by omega, Decidable.not_not.1 h2, h3⟩
  · cases h
def Prg.Nm (p : Prg) : Prop := ∀ x ∈ p.preds.xs, x.name.size ≤ 140737488355328
end Go.TF
end
section
/- What a rule that is used tells; the steps that hold, and how facts are laid to literals: plain. -/
namespace Go.TF
open Go

def litOk (f : List Fct) (x : Vrs) (t : Ltl) : Bool := decide (isF f (groundF t.atom x) ≠ t.neg)
def holdsB (f : List Fct) (r : Rul) (x : Vrs) : Bool := r.body.xs.all (litOk f x)
def headV (l : List Prd) (f : List Fct) (r : Rul) (x : Vrs) : Int := if 0 ≤ r.src then liftV (predOf l r.head.pred).kind ((lkF f (placeF (groundF (litOf r r.src).atom x))).getD 0) r.n else r.n
def headF (l : List Prd) (f : List Fct) (r : Rul) (x : Vrs) : Fct := ⟨r.head.pred, argv r.head x 0, argv r.head x 1, headV l f r x⟩
def holdsF (l : List Prd) (f : List Fct) (r : Rul) (x : Vrs) : Bool × Fct := if holdsB f r x then (true, headF l f r x) else (false, default)
structure VsOk (x : Vrs) : Prop where
  h0 : 0 ≤ x.x0 ∧ x.x0 ≤ 4
  h1 : 0 ≤ x.x1 ∧ x.x1 ≤ 4
  h2 : 0 ≤ x.x2 ∧ x.x2 ≤ 4
theorem VsOk.at {x : Vrs} (h : VsOk x) (v : Int) : 0 ≤ x.at v ∧ x.at v ≤ 4 := by
  unfold Vrs.at; (repeat' split) <;> first | exact h.h0 | exact h.h1 | exact h.h2
/-- A rule of a right program. -/
structure ROk (l : List Prd) (r : Rul) : Prop where
  five : l.length ≤ 5
  preds : ∀ p ∈ l, predFine p = true
  head : checkAtom l r.head = 0
  len : r.body.xs.length ≤ 3
  body : ∀ x ∈ r.body.xs, checkAtom l x.atom = 0
  free : ∀ v, v = 0 ∨ v = 1 ∨ v = 2 → freeVar r v = false
  src : -1 ≤ r.src ∧ r.src < r.body.xs.length
  pos : 0 ≤ r.src → (litOf r r.src).neg = false ∧ (predOf l (litOf r r.src).atom.pred).kind = (predOf l r.head.pred).kind
  n : 0 ≤ r.n ∧ r.n ≤ 15
  plain : (predOf l r.head.pred).kind = 0 → r.src = -1 ∧ r.n = 0
theorem rok_of {l : List Prd} {r : Rul} (h5 : l.length ≤ 5) (hp : ∀ p ∈ l, predFine p = true) (h : checkRule l r = 0) : ROk l r := by
  unfold checkRule at h
  split at h
  · rename_i h1; exact absurd h h1
  split at h
  · cases h
  split at h
  · rename_i h1 h2 h3; exact absurd h h3
  split at h
  · cases h
  split at h
  · cases h
  split at h
  · cases h
  split at h
  · cases h
  split at h
  · cases h
  rename_i h1 h2 h3 h4 h5' h6 h7 h8
  simp only [Bool.or_eq_true, not_or, Bool.not_eq_true] at h4
  refine ⟨h5, hp, Decidable.not_not.1 h1, by omega, bodyErr_ne.1 (Decidable.not_not.1 h3), fun v hv => ?_, by omega, fun h0 => ?_, by omega, fun hk => ?_⟩
  · rcases hv with rfl | rfl | rfl
    · exact h4.1.1
    · exact h4.1.2
    · exact h4.2
  · have : ¬ ((litOf r r.src).neg = true ∨ (predOf l (litOf r r.src).atom.pred).kind ≠ (predOf l r.head.pred).kind) := fun hh => h7 ⟨h0, hh⟩
    rw [not_or, Bool.not_eq_true, Decidable.not_not] at this
    exact this
  · have : ¬ (r.src ≠ -1 ∨ r.n ≠ 0) := fun hh => h6 ⟨hk, hh⟩
    omega
structure AOk (l : List Prd) (a : Atm) : Prop where
  pred : 0 ≤ a.pred ∧ a.pred < l.length
  len : a.args.xs.length ≤ 2
  err : argsErr a.args.xs = 0
  arity : (a.args.xs.length : Int) = (predOf l a.pred).arity
theorem predOf_mem {l : List Prd} {p : Int} (h : 0 ≤ p ∧ p < l.length) : predOf l p ∈ l := List.mem_of_getElem? (predOf_get h.1 h.2)
theorem aok_of {l : List Prd} {a : Atm} (hp : ∀ p ∈ l, predFine p = true) (h : checkAtom l a = 0) : AOk l a := by
  unfold checkAtom at h
  split at h
  · cases h
  split at h
  · cases h
  rename_i h1 h2
  have hpr : 0 ≤ a.pred ∧ a.pred < l.length := by omega
  have := hp _ (predOf_mem hpr)
  simp only [predFine, decide_eq_true_eq] at this
  exact ⟨hpr, by omega, h, by omega⟩
theorem AOk.arg {l : List Prd} {a : Atm} (h : AOk l a) {x : Vrs} (hx : VsOk x) (i : Nat) : 0 ≤ argv a x i ∧ argv a x i ≤ 4 := by
  by_cases hi : i < a.args.xs.length
  · rw [argv_get hi]
    unfold tv
    split
    · exact hx.at _
    · rename_i hv
      exact argsErr_con h.err (List.getElem_mem hi) (by simpa using hv)
  · rw [argv_none (by omega)]; omega
theorem AOk.pf {l : List Prd} {a : Atm} (h5 : l.length ≤ 5) (h : AOk l a) {x : Vrs} (hx : VsOk x) (v : Int) : PF ⟨a.pred, argv a x 0, argv a x 1, v⟩ :=
  ⟨h.pred.1, by have := h.pred.2; show a.pred ≤ 4; omega, (h.arg hx 0).1, (h.arg hx 0).2, (h.arg hx 1).1, (h.arg hx 1).2⟩
theorem AOk.var {l : List Prd} {a : Atm} (h : AOk l a) {t : Trm} (ht : t ∈ a.args.xs) (hv : t.var = true) : 0 ≤ t.n ∧ t.n < 3 := argsErr_var h.err ht hv
theorem litOf_mem {r : Rul} {k : Int} (h : 0 ≤ k ∧ k < r.body.xs.length) : litOf r k ∈ r.body.xs := by
  have : k.toNat < r.body.xs.length := by omega
  unfold litOf
  rw [List.getD_eq_getElem?_getD, List.getElem?_eq_getElem this]
  exact List.getElem_mem _
/-- What a rule tells is a fact. -/
theorem headF_fine {l : List Prd} {f : List Fct} {r : Rul} (ok : ROk l r) (okf : FOk l f) {x : Vrs} (hx : VsOk x) (hh : holdsB f r x = true) : factFine l (headF l f r x) = true := by
  have ha := aok_of ok.preds ok.head
  have har := ha.arity
  have hz : ∀ i : Nat, (i : Int) + 1 ≤ (predOf l r.head.pred).arity ∨ argv r.head x i = 0 := fun i => by
    by_cases hi : i < r.head.args.xs.length
    · left; omega
    · right; exact argv_none (by omega)
  refine fine_iff.2 ⟨ha.pred, ha.arg hx 0, ha.arg hx 1, (show 1 ≤ (predOf l r.head.pred).arity ∨ argv r.head x 0 = 0 from by simpa using hz 0), (show 2 ≤ (predOf l r.head.pred).arity ∨ argv r.head x 1 = 0 from by simpa using hz 1), ?_⟩
  show VOk (predOf l r.head.pred).kind (headV l f r x)
  have hk := ok.preds _ (predOf_mem ha.pred)
  simp only [predFine, decide_eq_true_eq] at hk
  unfold headV
  split
  · rename_i h0
    have hm := litOf_mem ⟨h0, ok.src.2⟩
    obtain ⟨hn, hkd⟩ := ok.pos h0
    have hl := List.all_eq_true.1 hh _ hm
    have hb := aok_of ok.preds (ok.body _ hm)
    have pf := hb.pf ok.five hx 0
    unfold litOk at hl
    rw [hn, decide_eq_true_eq] at hl
    have hs : isF f (groundF (litOf r r.src).atom x) = true := by simpa using hl
    unfold isF at hs
    cases hlk : lkF f (placeF (groundF (litOf r r.src).atom x)) with
    | none => rw [hlk] at hs; cases hs
    | some v =>
      obtain ⟨y, hy, e, rfl⟩ := lkF_mem hlk
      have hyf := okf.fine y hy
      have hyp := ((fine_pf ok.five hyf).inj pf e).1
      have hv := fine_v hyf
      rw [show y.pred = (litOf r r.src).atom.pred from hyp, hkd] at hv
      have hrn : VOk (predOf l r.head.pred).kind r.n := by
        rw [vOk_iff]; refine ⟨hk.2.2.1, hk.2.2.2, ok.n.1, ok.n.2, fun h => (ok.plain h).2⟩
      exact liftV_ok hv hrn
  · rw [vOk_iff]; exact ⟨hk.2.2.1, hk.2.2.2, ok.n.1, ok.n.2, fun h => (ok.plain h).2⟩
/-! ### Steps -/
def standsR (r : Rul) (v : Int) : Bool := standsIn r.head v || r.body.xs.any fun x => standsIn x.atom v
def vecs : List Vrs := (List.range 5).flatMap fun (a : Nat) => (List.range 5).flatMap fun (b : Nat) => (List.range 5).map fun (c : Nat) => (⟨(a : Int), (b : Int), (c : Int)⟩ : Vrs)
def stdOk (r : Rul) (x : Vrs) : Bool := (decide (x.x0 = 0) || standsR r 0) && (decide (x.x1 = 0) || standsR r 1) && (decide (x.x2 = 0) || standsR r 2)
def stepsF (f : List Fct) (n : Int) (r : Rul) : List Stp := (vecs.filter fun x => stdOk r x && holdsB f r x).map (Stp.mk n)
def ltV (x y : Vrs) : Prop := x.x0 < y.x0 ∨ x.x0 = y.x0 ∧ (x.x1 < y.x1 ∨ x.x1 = y.x1 ∧ x.x2 < y.x2)
instance (x y : Vrs) : Decidable (ltV x y) := inferInstanceAs (Decidable (_ ∨ _))
theorem ltV_trans {x y z : Vrs} (h1 : ltV x y) (h2 : ltV y z) : ltV x z := by unfold ltV at *; omega
theorem ltV_irrefl (x : Vrs) : ¬ ltV x x := by unfold ltV; omega
theorem ltV_tri (x y : Vrs) : ltV x y ∨ x = y ∨ ltV y x := by
  obtain ⟨a, b, c⟩ := x; obtain ⟨a', b', c'⟩ := y
  unfold ltV; simp only [Vrs.mk.injEq]; omega
theorem vecs_srt : vecs.Pairwise ltV := by decide +kernel
theorem mem_vecs {x : Vrs} : x ∈ vecs ↔ VsOk x := by
  constructor
  · intro h
    simp only [vecs, List.mem_flatMap, List.mem_map, List.mem_range] at h
    obtain ⟨a, ha, b, hb, c, hc, rfl⟩ := h
    exact ⟨⟨by dsimp only; omega, by dsimp only; omega⟩, ⟨by dsimp only; omega, by dsimp only; omega⟩, ⟨by dsimp only; omega, by dsimp only; omega⟩⟩
  · rintro ⟨h0, h1, h2⟩
    simp only [vecs, List.mem_flatMap, List.mem_map, List.mem_range]
    obtain ⟨a, b, c⟩ := x
    dsimp only at h0 h1 h2
    exact ⟨a.toNat, by omega, b.toNat, by omega, c.toNat, by omega, by simp only [Vrs.mk.injEq]; omega⟩
theorem srt_uniq {α : Type} {lt : α → α → Prop} (hi : ∀ x, ¬ lt x x) (ht : ∀ x y z, lt x y → lt y z → lt x z) : ∀ {l m : List α}, l.Pairwise lt → m.Pairwise lt → (∀ x, x ∈ l ↔ x ∈ m) → l = m
  | [], [], _, _, _ => rfl
  | [], y :: m, _, _, h => by have := (h y).2 List.mem_cons_self; cases this
  | x :: l, [], _, _, h => by have := (h x).1 List.mem_cons_self; cases this
  | x :: l, y :: m, hl, hm, h => by
    obtain ⟨l1, l2⟩ := List.pairwise_cons.1 hl
    obtain ⟨m1, m2⟩ := List.pairwise_cons.1 hm
    have hxy : x = y := by
      rcases List.mem_cons.1 ((h x).1 List.mem_cons_self) with h1 | h1
      · exact h1
      · rcases List.mem_cons.1 ((h y).2 List.mem_cons_self) with h2 | h2
        · exact h2.symm
        · exact absurd (ht _ _ _ (m1 x h1) (l1 y h2)) (hi _)
    subst hxy
    congr 1
    refine srt_uniq hi ht l2 m2 fun z => ?_
    constructor
    · intro hz
      rcases List.mem_cons.1 ((h z).1 (List.mem_cons_of_mem _ hz)) with rfl | h1
      · exact absurd (l1 _ hz) (hi _)
      · exact h1
    · intro hz
      rcases List.mem_cons.1 ((h z).2 (List.mem_cons_of_mem _ hz)) with rfl | h1
      · exact absurd (m1 _ hz) (hi _)
      · exact h1
/-! ### Facts laid to literals -/
def Vrs.set (b : Vrs) (v n : Int) : Vrs := if v = 0 then ⟨n, b.x1, b.x2⟩ else if v = 1 then ⟨b.x0, n, b.x2⟩ else ⟨b.x0, b.x1, n⟩
theorem Vrs.at_set {b : Vrs} {v n u : Int} (hv : 0 ≤ v ∧ v < 3) (hu : 0 ≤ u ∧ u < 3) : (b.set v n).at u = if u = v then n else b.at u := by
  have h1 : v = 0 ∨ v = 1 ∨ v = 2 := by omega
  have h2 : u = 0 ∨ u = 1 ∨ u = 2 := by omega
  rcases h1 with rfl | rfl | rfl <;> rcases h2 with rfl | rfl | rfl <;> rfl
def cantF (b : Vrs) (t : Trm) (n : Int) : Prop := (t.var = false ∧ t.n ≠ n) ∨ (t.var = true ∧ 0 ≤ b.at t.n ∧ b.at t.n ≠ n)
instance (b : Vrs) (t : Trm) (n : Int) : Decidable (cantF b t n) := inferInstanceAs (Decidable (_ ∨ _))
def bindF (b : Vrs) (t : Trm) (n : Int) : Vrs := if t.var then b.set t.n n else b
def withL : Vrs → List (Trm × Int) → Option Vrs
  | b, [] => some b
  | b, (t, n) :: r => if cantF b t n then none else withL (bindF b t n) r
def pairF (a : Atm) (x : Fct) : List (Trm × Int) := a.args.xs.zip [x.a, x.b]
def withF (b : Vrs) (a : Atm) (x : Fct) : Option Vrs := if a.pred ≠ x.pred then none else withL b (pairF a x)
def layF (f : List Fct) : List Atm → Vrs → List Vrs
  | [], b => [b]
  | a :: l, b => f.flatMap fun x => match withF b a x with | none => [] | some c => layF f l c
def mx0 (b : Vrs) : Vrs := ⟨max 0 b.x0, max 0 b.x1, max 0 b.x2⟩
theorem mx0_at (b : Vrs) (v : Int) : (mx0 b).at v = max 0 (b.at v) := by unfold Vrs.at mx0; (repeat' split) <;> rfl
def b0 : Vrs := ⟨-1, -1, -1⟩
def outF (f : List Fct) (n : Int) (r : Rul) : List Stp := (((layF f (poss r.body.xs) b0).map mx0).filter (holdsB f r)).map (Stp.mk n)
/-- What is bound is a constant, of a variable that stands somewhere in l. -/
def BOk (l : List Atm) (b : Vrs) : Prop := ∀ v, 0 ≤ v ∧ v < 3 → b.at v = -1 ∨ (0 ≤ b.at v ∧ b.at v ≤ 4 ∧ ∃ a ∈ l, standsIn a v = true)
theorem stands_mem {a : Atm} {t : Trm} (ht : t ∈ a.args.xs) (hv : t.var = true) : standsIn a t.n = true := by
  unfold standsIn; rw [List.any_eq_true]; exact ⟨t, ht, by simp [hv]⟩
theorem withL_bok {l : List Atm} {a : Atm} (ha : a ∈ l) (hv : ∀ t ∈ a.args.xs, t.var = true → 0 ≤ t.n ∧ t.n < 3) : ∀ {ps : List (Trm × Int)} {b c : Vrs}, (∀ p ∈ ps, p.1 ∈ a.args.xs ∧ 0 ≤ p.2 ∧ p.2 ≤ 4) → BOk l b → withL b ps = some c → BOk l c
  | [], b, c, _, hb, h => by simp only [withL, Option.some.injEq] at h; subst h; exact hb
  | (t, n) :: r, b, c, hp, hb, h => by
    rw [withL] at h
    split at h
    · cases h
    refine withL_bok ha hv (fun p hpr => hp p (List.mem_cons_of_mem _ hpr)) ?_ h
    obtain ⟨p1, p2⟩ := hp (t, n) List.mem_cons_self
    dsimp only at p1 p2
    unfold bindF
    split
    · rename_i htv
      intro v hv3
      have := hv t p1 htv
      rw [Vrs.at_set this hv3]
      split
      · rename_i e; subst e; exact .inr ⟨p2.1, p2.2, a, ha, stands_mem p1 htv⟩
      · exact hb v hv3
    · exact hb
theorem pair_mem {a : Atm} {x : Fct} (hx : PF x) : ∀ p ∈ pairF a x, p.1 ∈ a.args.xs ∧ 0 ≤ p.2 ∧ p.2 ≤ 4 := fun p hp => by
  have h1 := (List.of_mem_zip hp).1
  have h2 := (List.of_mem_zip hp).2
  refine ⟨h1, ?_⟩
  simp only [List.mem_cons, List.not_mem_nil, or_false] at h2
  rcases h2 with h2 | h2 <;> rw [h2]
  · exact ⟨hx.a0, hx.a1⟩
  · exact ⟨hx.b0, hx.b1⟩
theorem lay_bok {l : List Atm} {f : List Fct} (hf : ∀ y ∈ f, PF y) : ∀ {ats : List Atm} {b c : Vrs}, (∀ a ∈ ats, a ∈ l ∧ ∀ t ∈ a.args.xs, t.var = true → 0 ≤ t.n ∧ t.n < 3) → BOk l b → c ∈ layF f ats b → BOk l c
  | [], b, c, _, hb, h => by rw [layF, List.mem_singleton] at h; subst h; exact hb
  | a :: ats, b, c, ha, hb, h => by
    rw [layF, List.mem_flatMap] at h
    obtain ⟨y, hy, h⟩ := h
    cases hw : withF b a y with
    | none => rw [hw] at h; cases h
    | some d =>
      rw [hw] at h
      obtain ⟨a1, a2⟩ := ha a List.mem_cons_self
      refine lay_bok hf (fun a' h' => ha a' (List.mem_cons_of_mem _ h')) ?_ h
      unfold withF at hw
      split at hw
      · cases hw
      · exact withL_bok a1 a2 (pair_mem (hf y hy)) hb hw
/-- Bound ats x has it. -/
def Bnd (b x : Vrs) : Prop := ∀ v, 0 ≤ v ∧ v < 3 → b.at v = -1 ∨ b.at v = x.at v
theorem withL_bnd {x : Vrs} : ∀ {ps : List (Trm × Int)} {b : Vrs}, (∀ p ∈ ps, p.2 = tv p.1 x ∧ (p.1.var = true → 0 ≤ p.1.n ∧ p.1.n < 3)) → Bnd b x →
    ∃ c, withL b ps = some c ∧ Bnd c x ∧ (∀ v, 0 ≤ v ∧ v < 3 → b.at v = x.at v → c.at v = x.at v) ∧ (∀ p ∈ ps, p.1.var = true → c.at p.1.n = x.at p.1.n)
  | [], b, _, hb => ⟨b, rfl, hb, fun _ _ h => h, fun p hp => by cases hp⟩
  | (t, n) :: r, b, hp, hb => by
    obtain ⟨p1, p2⟩ := hp (t, n) List.mem_cons_self
    dsimp only at p1 p2
    have hc : ¬ cantF b t n := by
      rintro (⟨h1, h2⟩ | ⟨h1, h2, h3⟩)
      · rw [p1] at h2; simp [tv, h1] at h2
      · have := hb t.n (p2 h1)
        rw [p1] at h3
        simp only [tv, h1, if_true] at h3
        omega
    have hb' : Bnd (bindF b t n) x ∧ (∀ v, 0 ≤ v ∧ v < 3 → b.at v = x.at v → (bindF b t n).at v = x.at v) ∧ (t.var = true → (bindF b t n).at t.n = x.at t.n) := by
      unfold bindF
      cases htv : t.var
      · exact ⟨hb, fun _ _ h => h, fun h => by cases h⟩
      · have htn := p2 htv
        have hn : n = x.at t.n := by rw [p1]; simp [tv, htv]
        rw [if_pos rfl]
        refine ⟨fun v hv => ?_, fun v hv h => ?_, fun _ => ?_⟩
        · rw [Vrs.at_set htn hv]; split
          · rename_i e; subst e; exact .inr hn
          · exact hb v hv
        · rw [Vrs.at_set htn hv]; split
          · rename_i e; subst e; exact hn
          · exact h
        · rw [Vrs.at_set htn htn, if_pos rfl]; exact hn
    obtain ⟨c, hw, c1, c2, c3⟩ := withL_bnd (fun p hpr => hp p (List.mem_cons_of_mem _ hpr)) hb'.1
    refine ⟨c, by rw [withL, if_neg hc]; exact hw, c1, fun v hv h => c2 v hv (hb'.2.1 v hv h), fun p hpm hpv => ?_⟩
    rcases List.mem_cons.1 hpm with rfl | hpm
    · exact c2 _ (p2 hpv) (hb'.2.2 hpv)
    · exact c3 p hpm hpv
theorem pair_is {a : Atm} {x : Vrs} {y : Fct} (h2 : a.args.xs.length ≤ 2) (ha : y.a = argv a x 0) (hb : y.b = argv a x 1) : ∀ p ∈ pairF a y, p.2 = tv p.1 x ∧ p.1 ∈ a.args.xs := by
  unfold pairF
  match hs : a.args.xs, h2 with
  | [], _ => simp
  | [t], _ =>
    intro p hp
    have : p = (t, y.a) := by simpa using hp
    subst this
    exact ⟨by rw [ha]; simp [argv, hs], by simp⟩
  | [t, u], _ =>
    intro p hp
    have : p = (t, y.a) ∨ p = (u, y.b) := by simpa using hp
    rcases this with rfl | rfl
    · exact ⟨by rw [ha]; simp [argv, hs], by simp⟩
    · exact ⟨by rw [hb]; simp [argv, hs], by simp⟩
  | _ :: _ :: _ :: _, h2 => simp at h2
theorem pair_all {a : Atm} {y : Fct} (h2 : a.args.xs.length ≤ 2) {t : Trm} (ht : t ∈ a.args.xs) : ∃ n, (t, n) ∈ pairF a y := by
  unfold pairF
  match hs : a.args.xs, h2 with
  | [], _ => rw [hs] at ht; cases ht
  | [u], _ =>
    rw [hs] at ht
    have : t = u := by simpa using ht
    subst this; exact ⟨y.a, by simp⟩
  | [u, w], _ =>
    rw [hs] at ht
    have : t = u ∨ t = w := by simpa using ht
    rcases this with rfl | rfl
    · exact ⟨y.a, by simp⟩
    · exact ⟨y.b, by simp⟩
  | _ :: _ :: _ :: _, h2 => simp at h2
theorem lay_has {l : List Prd} {f : List Fct} {x : Vrs} (h5 : l.length ≤ 5) (hf : ∀ y ∈ f, PF y) (hx : VsOk x) : ∀ {ats : List Atm} {b : Vrs}, (∀ a ∈ ats, AOk l a ∧ isF f (groundF a x) = true) → Bnd b x →
    ∃ c ∈ layF f ats b, Bnd c x ∧ (∀ v, 0 ≤ v ∧ v < 3 → b.at v = x.at v → c.at v = x.at v) ∧ (∀ a ∈ ats, ∀ v, standsIn a v = true → c.at v = x.at v)
  | [], b, _, hb => ⟨b, by rw [layF]; simp, hb, fun _ _ h => h, fun a ha => by cases ha⟩
  | a :: ats, b, ha, hb => by
    obtain ⟨ao, ai⟩ := ha a List.mem_cons_self
    unfold isF at ai
    cases hlk : lkF f (placeF (groundF a x)) with
    | none => rw [hlk] at ai; cases ai
    | some w =>
      obtain ⟨y, hy, e, _⟩ := lkF_mem hlk
      obtain ⟨e1, e2, e3⟩ := (hf y hy).inj (ao.pf h5 hx 0) e
      dsimp only at e1 e2 e3
      obtain ⟨c, hw, c1, c2, c3⟩ := withL_bnd (x := x) (ps := pairF a y) (b := b) (fun p hp => ⟨(pair_is ao.len e2 e3 p hp).1, fun hv => ao.var (pair_is ao.len e2 e3 p hp).2 hv⟩) hb
      obtain ⟨d, hd, d1, d2, d3⟩ := lay_has h5 hf hx (fun a' h' => ha a' (List.mem_cons_of_mem _ h')) c1
      refine ⟨d, ?_, d1, fun v hv h => d2 v hv (c2 v hv h), fun a' ha' v hs => ?_⟩
      · rw [layF, List.mem_flatMap]
        refine ⟨y, hy, ?_⟩
        have : withF b a y = some c := by unfold withF; rw [if_neg (by simp [e1]), hw]
        rw [this]; exact hd
      · rcases List.mem_cons.1 ha' with rfl | ha'
        · unfold standsIn at hs
          rw [List.any_eq_true] at hs
          obtain ⟨t, ht, hs⟩ := hs
          simp only [Bool.and_eq_true, decide_eq_true_eq] at hs
          obtain ⟨n, hn⟩ := pair_all (y := y) ao.len ht
          have := c3 _ hn hs.1
          dsimp only at this
          rw [hs.2] at this
          exact d2 v (by rw [← hs.2]; exact ao.var ht hs.1) this
        · exact d3 a' ha' v hs
theorem b0_at {v : Int} (hv : 0 ≤ v ∧ v < 3) : b0.at v = -1 := by
  have h : v = 0 ∨ v = 1 ∨ v = 2 := by omega
  rcases h with rfl | rfl | rfl <;> rfl
theorem bound_poss {r : Rul} {v : Int} : boundIn r v = true ↔ ∃ a ∈ poss r.body.xs, standsIn a v = true := by rw [boundIn_iff, cntA_pos]
theorem vrs_ext {x y : Vrs} (h : ∀ v, 0 ≤ v ∧ v < 3 → x.at v = y.at v) : x = y := by
  have h0 := h 0 (by omega); have h1 := h 1 (by omega); have h2 := h 2 (by omega)
  cases x; cases y
  simp only [Vrs.at] at h0 h1 h2
  simp only [Vrs.mk.injEq]
  exact ⟨by simpa using h0, by simpa using h1, by simpa using h2⟩
theorem mem_out {l : List Prd} {f : List Fct} {n : Int} {r : Rul} (ok : ROk l r) (okf : FOk l f) (s : Stp) : s ∈ outF f n r ↔ s ∈ stepsF f n r := by
  unfold outF stepsF
  simp only [List.mem_map, List.mem_filter, Bool.and_eq_true]
  have hpo : ∀ a ∈ poss r.body.xs, AOk l a := fun a ha => by
    obtain ⟨x, hx, _, rfl⟩ := mem_poss.1 ha
    exact aok_of ok.preds (ok.body x hx)
  constructor
  · rintro ⟨x, ⟨⟨b, hb, rfl⟩, hh⟩, rfl⟩
    have hbk := lay_bok (l := poss r.body.xs) okf.pf (fun a ha => ⟨ha, fun t ht hv => (hpo a ha).var ht hv⟩) (b := b0) (fun v hv => .inl (b0_at hv)) hb
    have hv : ∀ v, 0 ≤ v ∧ v < 3 → (0 ≤ (mx0 b).at v ∧ (mx0 b).at v ≤ 4) ∧ ((mx0 b).at v = 0 ∨ standsR r v = true) := fun v hv => by
      rw [mx0_at]
      rcases hbk v hv with h | ⟨h1, h2, a, ha, hs⟩
      · rw [h]; exact ⟨by omega, .inl (by omega)⟩
      · refine ⟨by omega, .inr ?_⟩
        obtain ⟨x, hx, _, rfl⟩ := mem_poss.1 ha
        unfold standsR
        rw [Bool.or_eq_true, List.any_eq_true]
        exact .inr ⟨x, hx, hs⟩
    have q0 := hv 0 (by omega); have q1 := hv 1 (by omega); have q2 := hv 2 (by omega)
    refine ⟨mx0 b, ⟨mem_vecs.2 ⟨q0.1, q1.1, q2.1⟩, ?_, hh⟩, rfl⟩
    simp only [stdOk, Bool.and_eq_true, Bool.or_eq_true, decide_eq_true_eq]
    exact ⟨⟨q0.2, q1.2⟩, q2.2⟩
  · rintro ⟨x, ⟨hx, hst, hh⟩, rfl⟩
    have hxo := mem_vecs.1 hx
    have hbn : Bnd b0 x := fun v hv => .inl (b0_at hv)
    obtain ⟨c, hc, c1, _, c3⟩ := lay_has (l := l) ok.five okf.pf hxo (ats := poss r.body.xs) (b := b0) (fun a ha => ⟨hpo a ha, by
      obtain ⟨y, hy, hn, rfl⟩ := mem_poss.1 ha
      have := List.all_eq_true.1 hh y hy
      unfold litOk at this
      rw [hn, decide_eq_true_eq] at this
      simpa using this⟩) hbn
    have hmx : mx0 c = x := vrs_ext fun v hv => by
      rw [mx0_at]
      have h4 := hxo.at v
      rcases c1 v hv with h | h
      · rw [h]
        by_cases hb : boundIn r v = true
        · obtain ⟨a, ha, hs⟩ := bound_poss.1 hb
          have := c3 a ha v hs
          omega
        · have hv3 : v = 0 ∨ v = 1 ∨ v = 2 := by omega
          have hfr := ok.free v hv3
          have hsr : standsR r v = false := by
            unfold freeVar at hfr
            unfold standsR
            have : boundIn r v = false := by simpa using hb
            rw [this] at hfr
            simpa using hfr
          simp only [stdOk, Bool.and_eq_true, Bool.or_eq_true, decide_eq_true_eq] at hst
          have hz : x.at v = 0 := by
            rcases hv3 with rfl | rfl | rfl
            · rcases hst.1.1 with h | h
              · exact h
              · rw [hsr] at h; cases h
            · rcases hst.1.2 with h | h
              · exact h
              · rw [hsr] at h; cases h
            · rcases hst.2 with h | h
              · exact h
              · rw [hsr] at h; cases h
          omega
      · omega
    exact ⟨x, ⟨⟨c, hc, hmx⟩, hh⟩, rfl⟩
def ltS (x y : Stp) : Prop := ltV x.vars y.vars
theorem stepsF_srt (f : List Fct) (n : Int) (r : Rul) : (stepsF f n r).Pairwise ltS := by
  unfold stepsF
  rw [List.pairwise_map]
  exact (vecs_srt.filter _).imp fun h => h
/-- What is laid, sorted, each once, is the steps. -/
theorem steps_eq {l : List Prd} {f : List Fct} {n : Int} {r : Rul} (ok : ROk l r) (okf : FOk l f) {s : List Stp} (hs : s.Pairwise ltS) (hm : ∀ x, x ∈ s ↔ x ∈ outF f n r) : s = stepsF f n r :=
  srt_uniq (lt := ltS) (fun x => ltV_irrefl x.vars) (fun x y z h1 h2 => ltV_trans (x := x.vars) (y := y.vars) (z := z.vars) h1 h2) hs (stepsF_srt f n r) fun x => (hm x).trans (mem_out ok okf x)
end Go.TF
end
section
/- A round: what is told, and put one behind the other: plain. -/
namespace Go.TF
open Go

/-- The rules of a stratum. -/
def ofQ (p : Prg) (M : List Int) (st : Int) (n : Nat) : Bool := decide (lv M (p.rules.xs.getD n default).head.pred = st)
/-- What the rules that are asked for tell, each step with its fact. -/
def toldN (l : List Prd) (f : List Fct) (rs : List Rul) (q : Nat → Bool) (n : Nat) : List (Stp × Fct) :=
  if q n then (stepsF f n (rs.getD n default)).map fun s => (s, headF l f (rs.getD n default) s.vars) else []
def toldK (l : List Prd) (f : List Fct) (rs : List Rul) (q : Nat → Bool) (k : Nat) : List (Stp × Fct) := (List.range k).flatMap (toldN l f rs q)
abbrev toldL (l : List Prd) (f : List Fct) (rs : List Rul) (q : Nat → Bool) : List (Stp × Fct) := toldK l f rs q rs.length
section
variable {l : List Prd} {f : List Fct} {rs : List Rul} {q : Nat → Bool} {n : Nat}
theorem toldK_succ : toldK l f rs q (n + 1) = toldK l f rs q n ++ toldN l f rs q n := by unfold toldK; rw [List.range_succ, List.flatMap_append]; simp
theorem toldK_get {m k : Nat} (hn : n < m) {x : Stp × Fct} (hk : (toldN l f rs q n)[k]? = some x) : (toldK l f rs q m)[(toldK l f rs q n).length + k]? = some x := by
  obtain ⟨t, ht⟩ : ∃ t, toldK l f rs q m = toldK l f rs q n ++ toldN l f rs q n ++ t := by
    induction m with
    | zero => omega
    | succ m ih =>
      by_cases e : n = m
      · subst e; exact ⟨[], by rw [toldK_succ, List.append_nil]⟩
      · obtain ⟨t, ht⟩ := ih (by omega)
        exact ⟨t ++ toldN l f rs q m, by rw [toldK_succ, ht, List.append_assoc]⟩
  have hl := (List.getElem?_eq_some_iff.1 hk).1
  rw [ht, List.append_assoc, List.getElem?_append_right (by omega), List.getElem?_append_left (by omega)]
  rw [← hk]; congr 1; omega
theorem mem_told {x : Stp × Fct} : x ∈ toldL l f rs q ↔ ∃ n r, rs[n]? = some r ∧ q n = true ∧ x.1 ∈ stepsF f n r ∧ x.2 = headF l f r x.1.vars := by
  unfold toldL toldK
  rw [List.mem_flatMap]
  constructor
  · rintro ⟨n, hn, hx⟩
    have hn' : n < rs.length := List.mem_range.1 hn
    have hr : rs[n]? = some rs[n] := List.getElem?_eq_getElem hn'
    unfold toldN at hx
    rw [List.getD_eq_getElem?_getD, hr] at hx
    simp only [Option.getD_some] at hx
    split at hx
    · rename_i hq
      obtain ⟨s, hs, rfl⟩ := List.mem_map.1 hx
      exact ⟨n, rs[n], hr, hq, hs, rfl⟩
    · cases hx
  · rintro ⟨n, r, hr, hq, hs, he⟩
    refine ⟨n, List.mem_range.2 (List.getElem?_eq_some_iff.1 hr).1, ?_⟩
    unfold toldN
    rw [List.getD_eq_getElem?_getD, hr, if_pos hq]
    simp only [Option.getD_some]
    exact List.mem_map.2 ⟨x.1, hs, by obtain ⟨a, b⟩ := x; dsimp only at he ⊢; rw [he]⟩
end
def putS (l : List Prd) (s : List Fct × Bool) (x : Fct) : List Fct × Bool := ((addF (predOf l x.pred).kind s.1 x).1, s.2 || (addF (predOf l x.pred).kind s.1 x).2)
def turnL (l : List Prd) (f : List Fct) (ts : List (Stp × Fct)) : List Fct × Bool := ts.foldl (fun s t => putS l s t.2) (f, false)
theorem turnL_snoc {l : List Prd} {f : List Fct} {ts : List (Stp × Fct)} {t : Stp × Fct} : turnL l f (ts ++ [t]) = putS l (turnL l f ts) t.2 := by unfold turnL; rw [List.foldl_append]; rfl
theorem turnL_take {l : List Prd} {f : List Fct} {ts : List (Stp × Fct)} {k : Nat} (hk : k < ts.length) : turnL l f (ts.take (k + 1)) = putS l (turnL l f (ts.take k)) ts[k].2 := by
  rw [List.take_succ_eq_append_getElem hk, turnL_snoc]
theorem turn_fok {l : List Prd} {f : List Fct} (okf : FOk l f) {ts : List (Stp × Fct)} (h : ∀ t ∈ ts, factFine l t.2 = true) : FOk l (turnL l f ts).1 := by
  have : ∀ k, k ≤ ts.length → FOk l (turnL l f (ts.take k)).1 := fun k => by
    induction k with
    | zero => intro _; exact okf
    | succ k ih =>
      intro hk
      rw [turnL_take (by omega)]
      exact addF_fok (ih (by omega)) (h _ (List.getElem_mem _))
  have := this ts.length (Nat.le_refl _)
  rwa [List.take_length] at this
theorem steps_holds {f : List Fct} {n : Int} {r : Rul} {s : Stp} (h : s ∈ stepsF f n r) : s.rule = n ∧ VsOk s.vars ∧ holdsB f r s.vars = true := by
  unfold stepsF at h
  obtain ⟨x, hx, rfl⟩ := List.mem_map.1 h
  obtain ⟨h1, h2⟩ := List.mem_filter.1 hx
  rw [Bool.and_eq_true] at h2
  exact ⟨rfl, mem_vecs.1 h1, h2.2⟩
theorem told_fine {l : List Prd} {f : List Fct} {rs : List Rul} {q : Nat → Bool} (ok : ∀ r ∈ rs, ROk l r) (okf : FOk l f) : ∀ t ∈ toldL l f rs q, factFine l t.2 = true := fun t ht => by
  obtain ⟨n, r, hr, _, hs, he⟩ := mem_told.1 ht
  obtain ⟨_, hv, hh⟩ := steps_holds hs
  rw [he]
  exact headF_fine (ok r (List.mem_of_getElem? hr)) okf hv hh
end Go.TF
end
section
/- What is told and put is the least above both; levels; more facts: plain. -/
namespace Go.TF
open Go

section
variable {l : List Prd} {f b : List Fct} {x : Fct}
theorem add_least (hf : FOk l f) (hb : FOk l b) (hx : factFine l x = true) (h1 : underF l f b = true) (h2 : underF l [x] b = true) : underF l (addL l f x) b = true := underF_iff.2 fun z hz => by
  have okA : FOk l (addL l f x) := addF_fok hf hx
  have hzf := okA.fine z hz
  have hlz := lkF_of_mem okA.srt hz
  rw [lkF_addL hf] at hlz
  obtain ⟨v, hv1, hv2⟩ := underF_iff.1 h2 x (List.mem_singleton_self _)
  split at hlz
  · rename_i e
    have hpz := same_pred hf.len hzf hx e
    rw [e] at hlz
    rw [e, hpz]
    refine ⟨v, hv1, ?_⟩
    injection hlz with hlz
    rw [← hlz]
    cases hu : lkF f (placeF x) with
    | none => exact hv2
    | some u =>
      obtain ⟨y, hy, ey, rfl⟩ := lkF_mem hu
      obtain ⟨v', k1, k2⟩ := underF_iff.1 h1 y hy
      rw [ey, hv1] at k1
      injection k1 with k1; subst k1
      have hyp := same_pred hf.len (hf.fine y hy) hx ey
      rw [hyp] at k2
      have hvo := hb.look hx hv1
      have hyo := fine_v (hf.fine y hy); rw [hyp] at hyo
      exact (leV_join_iff hyo (fine_v hx) hvo).2 ⟨k2, hv2⟩
  · obtain ⟨y, hy, ey, e2⟩ := lkF_mem hlz
    obtain ⟨v', k1, k2⟩ := underF_iff.1 h1 y hy
    have hyp := same_pred hf.len (hf.fine y hy) hzf ey
    rw [ey] at k1
    rw [hyp, e2] at k2
    exact ⟨v', k1, k2⟩
theorem under_put (hf : FOk l f) (hx : factFine l x = true) (h : underF l [x] f = true) : addF (predOf l x.pred).kind f x = (f, false) := by
  obtain ⟨v, h1, h2⟩ := underF_iff.1 h x (List.mem_singleton_self _)
  have hv := hf.look hx h1
  have hc : (addF (predOf l x.pred).kind f x).2 = false := by
    rw [addF_chg hf.srt, h1]
    apply decide_eq_false
    intro hh
    apply hh
    show some v = some (joinV _ v x.v)
    rw [joinV_comm hv (fine_v hx), show joinV _ x.v v = v from h2]
  exact Prod.ext (addF_same hc) hc
end
def runL (l : List Prd) (s : List Fct × Bool) (ts : List (Stp × Fct)) : List Fct × Bool := ts.foldl (fun s t => putS l s t.2) s
structure RunUp (l : List Prd) (s r : List Fct × Bool) (ts : List (Stp × Fct)) : Prop where
  fok : FOk l r.1
  up : underF l s.1 r.1 = true
  each : ∀ t ∈ ts, underF l [t.2] r.1 = true
  no : r.2 = false → s.2 = false ∧ r.1 = s.1
  yes : r.2 = true → s.2 = true ∨ r.1 ≠ s.1
theorem run_up {l : List Prd} : ∀ (ts : List (Stp × Fct)) (s : List Fct × Bool), FOk l s.1 → (∀ t ∈ ts, factFine l t.2 = true) → RunUp l s (runL l s ts) ts
  | [], s, hs, _ => ⟨hs, under_refl hs, fun t ht => by simp at ht, fun h => ⟨h, rfl⟩, fun h => .inl h⟩
  | t :: ts, s, hs, hf => by
    have hx := hf t List.mem_cons_self
    have hs' : FOk l (putS l s t.2).1 := addF_fok hs hx
    have ih := run_up ts (putS l s t.2) hs' fun u hu => hf u (List.mem_cons_of_mem _ hu)
    have hr : runL l s (t :: ts) = runL l (putS l s t.2) ts := rfl
    rw [hr]
    have u1 : underF l s.1 (putS l s t.2).1 = true := under_add hs hx
    have u2 : underF l [t.2] (putS l s t.2).1 = true := under_one hs hx
    have hch : (putS l s t.2).2 = (s.2 || decide ((putS l s t.2).1 ≠ s.1)) := by show (s.2 || (addF _ s.1 t.2).2) = _; rw [add_chg hs]; rfl
    refine ⟨ih.fok, under_trans hs hs' ih.fok u1 ih.up, fun u hu => ?_, fun h => ?_, fun h => ?_⟩
    · rcases List.mem_cons.1 hu with rfl | hu
      · exact under_trans (fok_one hs.len hs.preds hx) hs' ih.fok u2 ih.up
      · exact ih.each u hu
    · obtain ⟨h1, h2⟩ := ih.no h
      rw [hch, Bool.or_eq_false_iff, decide_eq_false_iff_not, Decidable.not_not] at h1
      exact ⟨h1.1, h2.trans h1.2⟩
    · have key : (runL l (putS l s t.2) ts).1 = s.1 → (putS l s t.2).1 = s.1 := fun e => by
        have := ih.up
        rw [e] at this
        exact under_anti hs' hs this u1
      rcases ih.yes h with h1 | h1
      · rw [hch, Bool.or_eq_true, decide_eq_true_eq] at h1
        rcases h1 with h1 | h1
        · exact .inl h1
        · exact .inr fun e => h1 (key e)
      · exact .inr fun e => h1 (e.trans (key e).symm)
theorem run_least {l : List Prd} {b : List Fct} (hb : FOk l b) : ∀ (ts : List (Stp × Fct)) (s : List Fct × Bool), FOk l s.1 → (∀ t ∈ ts, factFine l t.2 = true) → underF l s.1 b = true → (∀ t ∈ ts, underF l [t.2] b = true) → underF l (runL l s ts).1 b = true
  | [], s, _, _, h, _ => h
  | t :: ts, s, hs, hf, h, ht => by
    have hx := hf t List.mem_cons_self
    exact run_least hb ts (putS l s t.2) (addF_fok hs hx) (fun u hu => hf u (List.mem_cons_of_mem _ hu)) (add_least hs hb hx h (ht t List.mem_cons_self)) fun u hu => ht u (List.mem_cons_of_mem _ hu)
theorem run_same {l : List Prd} {f : List Fct} (hf : FOk l f) : ∀ (ts : List (Stp × Fct)), (∀ t ∈ ts, factFine l t.2 = true) → (∀ t ∈ ts, underF l [t.2] f = true) → runL l (f, false) ts = (f, false)
  | [], _, _ => rfl
  | t :: ts, h1, h2 => by
    have : putS l (f, false) t.2 = (f, false) := by
      unfold putS
      rw [under_put hf (h1 t List.mem_cons_self) (h2 t List.mem_cons_self)]
      rfl
    show runL l (putS l (f, false) t.2) ts = _
    rw [this]
    exact run_same hf ts (fun u hu => h1 u (List.mem_cons_of_mem _ hu)) fun u hu => h2 u (List.mem_cons_of_mem _ hu)
theorem turn_run (l : List Prd) (f : List Fct) (ts : List (Stp × Fct)) : turnL l f ts = runL l (f, false) ts := rfl
section
variable {l : List Prd} {f : List Fct} {ts : List (Stp × Fct)} (hf : FOk l f) (ht : ∀ t ∈ ts, factFine l t.2 = true)
include hf ht
theorem turn_chg : (turnL l f ts).2 = decide ((turnL l f ts).1 ≠ f) := by
  have r := run_up ts (f, false) hf ht
  rw [turn_run]
  cases h : (runL l (f, false) ts).2
  · exact (decide_eq_false (fun e => e (r.no h).2)).symm
  · rcases r.yes h with h1 | h1
    · cases h1
    · exact (decide_eq_true h1).symm
theorem turn_above : underF l f (turnL l f ts).1 = true := (run_up ts (f, false) hf ht).up
theorem turn_no : (turnL l f ts).2 = false ↔ ∀ t ∈ ts, underF l [t.2] f = true := by
  have r := run_up ts (f, false) hf ht
  constructor
  · intro h t htm
    have := r.each t htm
    rwa [(r.no h).2] at this
  · intro h
    rw [turn_run, run_same hf ts ht h]
end
/-! ### Levels -/
end Go.TF
end
section
/- The model: rounds of each stratum until none changes anything: plain. -/
namespace Go.TF
open Go

/-! ### How often facts can be raised -/
def univ : List Fct := (List.range 5).flatMap fun (p : Nat) => (List.range 5).flatMap fun (a : Nat) => (List.range 5).flatMap fun (b : Nat) => (List.range 16).map fun (v : Nat) => (⟨(p : Int), (a : Int), (b : Int), (v : Int)⟩ : Fct)
theorem univ_len : univ.length = 2000 := by decide +kernel
def potF (l : List Prd) (f : List Fct) : Nat := univ.countP fun x => factFine l x && underF l [x] f
theorem potF_le (l : List Prd) (f : List Fct) : potF l f ≤ 2000 := by
  have : potF l f ≤ univ.length := List.countP_le_length
  rwa [univ_len] at this
theorem mem_univ {l : List Prd} (h5 : l.length ≤ 5) {x : Fct} (hx : factFine l x = true) : x ∈ univ := by
  obtain ⟨h1, h2, h3, _, _, hv⟩ := fine_iff.1 hx
  have h6 := vOk_iff.1 hv
  obtain ⟨p, a, b, v⟩ := x
  dsimp only at h1 h2 h3 h6
  simp only [univ, List.mem_flatMap, List.mem_map, List.mem_range]
  exact ⟨p.toNat, by omega, a.toNat, by omega, b.toNat, by omega, v.toNat, by omega, by simp only [Fct.mk.injEq]; omega⟩
theorem countP_lt2 {α : Type} {p q : α → Bool} : ∀ {l : List α}, (∀ x ∈ l, p x = true → q x = true) → (∃ x ∈ l, p x = false ∧ q x = true) → l.countP p < l.countP q
  | [], _, ⟨x, hx, _⟩ => by simp at hx
  | y :: l, h, ⟨x, hx, h1, h2⟩ => by
    have hl : l.countP p ≤ l.countP q := List.countP_mono_left fun z hz => h z (List.mem_cons_of_mem _ hz)
    rw [List.countP_cons, List.countP_cons]
    rcases List.mem_cons.1 hx with rfl | hx
    · simp only [h1, h2, Bool.false_eq_true, if_false, if_true]; omega
    · have := countP_lt2 (fun z hz => h z (List.mem_cons_of_mem _ hz)) ⟨x, hx, h1, h2⟩
      have hy := h y List.mem_cons_self
      cases hp : p y
      · simp only [Bool.false_eq_true, if_false]; split <;> omega
      · simp only [hy hp, if_true]; omega
theorem under_sing {l : List Prd} {f g : List Fct} : underF l f g = true ↔ ∀ y ∈ f, underF l [y] g = true := by
  rw [underF_iff]
  constructor
  · intro h y hy
    rw [underF_iff]
    intro z hz
    rw [List.mem_singleton.1 hz]
    exact h y hy
  · intro h y hy
    exact underF_iff.1 (h y hy) y (List.mem_singleton_self _)
theorem potF_lt {l : List Prd} {f g : List Fct} (okf : FOk l f) (okg : FOk l g) (hu : underF l f g = true) (hne : g ≠ f) : potF l f < potF l g := by
  refine countP_lt2 (fun x _ hx => ?_) ?_
  · rw [Bool.and_eq_true] at hx ⊢
    exact ⟨hx.1, under_trans (fok_one okf.len okf.preds hx.1) okf okg hx.2 hu⟩
  · by_cases h : ∀ y ∈ g, underF l [y] f = true
    · exact absurd (under_anti okg okf (under_sing.2 h) hu) hne
    · rw [Classical.not_forall] at h
      obtain ⟨y, h⟩ := h
      rw [Classical.not_imp] at h
      obtain ⟨hy, hn⟩ := h
      have hyf := okg.fine y hy
      exact ⟨y, mem_univ okg.len hyf, by rw [hyf, Bool.true_and]; simpa using hn, by rw [hyf, Bool.true_and]; exact under_sing.1 (under_refl okg) y hy⟩
/-! ### Until nothing is changed -/
inductive Clo (T : List Fct → List Fct × Bool) : List Fct → List Fct → Nat → Prop
  | stop {f : List Fct} (h : (T f).2 = false) : Clo T f f 0
  | step {f r : List Fct} {n : Nat} (h : (T f).2 = true) (c : Clo T (T f).1 r n) : Clo T f r (n + 1)
theorem Clo.uniq {T : List Fct → List Fct × Bool} {f r : List Fct} {n : Nat} (h : Clo T f r n) : ∀ {r' : List Fct} {n' : Nat}, Clo T f r' n' → r' = r ∧ n' = n := by
  induction h with
  | stop h =>
    intro r' n' h'
    cases h' with
    | stop _ => exact ⟨rfl, rfl⟩
    | step h2 _ => rw [h] at h2; cases h2
  | step h c ih =>
    intro r' n' h'
    cases h' with
    | stop h2 => rw [h] at h2; cases h2
    | step _ c' => obtain ⟨rfl, rfl⟩ := ih c'; exact ⟨rfl, rfl⟩
theorem Clo.end_ {T : List Fct → List Fct × Bool} {f r : List Fct} {n : Nat} (h : Clo T f r n) : (T r).2 = false := by
  induction h with
  | stop h => exact h
  | step _ _ ih => exact ih
/-- What holds ahead of a round holds behind all of them. -/
theorem Clo.inv {T : List Fct → List Fct × Bool} {J : List Fct → Prop} {f r : List Fct} {n : Nat} (h : Clo T f r n) (j0 : J f) (hs : ∀ g, J g → (T g).2 = true → J (T g).1) : J r := by
  induction h with
  | stop _ => exact j0
  | step h _ ih => exact ih (hs _ j0 h)
def CloB (T : List Fct → List Fct × Bool) (f0 : List Fct) (k : Nat) (f : List Fct) : Prop := ∀ r n, Clo T f r n → Clo T f0 r (k + n)
theorem CloB.zero {T : List Fct → List Fct × Bool} {f : List Fct} : CloB T f 0 f := fun r n h => by rw [Nat.zero_add]; exact h
theorem CloB.next {T : List Fct → List Fct × Bool} {f0 f : List Fct} {k : Nat} (h : CloB T f0 k f) (h2 : (T f).2 = true) : CloB T f0 (k + 1) (T f).1 := fun r n c => by
  have := h r (n + 1) (.step h2 c)
  rwa [show k + (n + 1) = k + 1 + n by omega] at this
theorem CloB.done {T : List Fct → List Fct × Bool} {f0 f : List Fct} {k : Nat} (h : CloB T f0 k f) (h2 : (T f).2 = false) : Clo T f0 f k := h f 0 (.stop h2)
def cloF (T : List Fct → List Fct × Bool) : Nat → List Fct → Option (List Fct × Nat)
  | 0, _ => none
  | k + 1, f => if (T f).2 then (cloF T k (T f).1).map fun r => (r.1, r.2 + 1) else some (f, 0)
theorem cloF_clo {T : List Fct → List Fct × Bool} : ∀ {k : Nat} {f r : List Fct} {n : Nat}, cloF T k f = some (r, n) → Clo T f r n
  | 0, _, _, _, h => by cases h
  | k + 1, f, r, n, h => by
    rw [cloF] at h
    split at h
    · rename_i h2
      cases hc : cloF T k (T f).1 with
      | none => rw [hc] at h; cases h
      | some x =>
        rw [hc] at h
        simp only [Option.map_some, Option.some.injEq, Prod.mk.injEq] at h
        obtain ⟨rfl, rfl⟩ := h
        exact .step h2 (cloF_clo hc)
    · rename_i h2
      simp only [Option.some.injEq, Prod.mk.injEq] at h
      obtain ⟨rfl, rfl⟩ := h
      exact .stop (by simpa using h2)
/-! ### One stratum behind the other -/
def turnT (p : Prg) (M : List Int) (st : Int) (f : List Fct) : List Fct × Bool := turnL p.preds.xs f (toldL p.preds.xs f p.rules.xs (ofQ p M st))
def ModK (p : Prg) (M : List Int) : Nat → List Fct → List Int → Prop
  | 0, f, rs => f = [] ∧ rs = []
  | k + 1, f, rs => ∃ f0 rs0 n, ModK p M k f0 rs0 ∧ Clo (turnT p M k) f0 f n ∧ rs = rs0 ++ [(n : Int)]
theorem ModK.uniq {p : Prg} {M : List Int} : ∀ {k : Nat} {f f' : List Fct} {rs rs' : List Int}, ModK p M k f rs → ModK p M k f' rs' → f' = f ∧ rs' = rs
  | 0, _, _, _, _, ⟨h1, h2⟩, ⟨h3, h4⟩ => ⟨h3.trans h1.symm, h4.trans h2.symm⟩
  | k + 1, _, _, _, _, ⟨f0, r0, n, a, b, c⟩, ⟨f0', r0', n', a', b', c'⟩ => by
    obtain ⟨rfl, rfl⟩ := ModK.uniq a a'
    obtain ⟨rfl, rfl⟩ := b.uniq b'
    exact ⟨rfl, c'.trans c.symm⟩
theorem ModK.len {p : Prg} {M : List Int} : ∀ {k : Nat} {f : List Fct} {rs : List Int}, ModK p M k f rs → rs.length = k
  | 0, _, _, ⟨_, h⟩ => by rw [h]; rfl
  | k + 1, _, _, ⟨_, _, _, a, _, c⟩ => by rw [c, List.length_append, ModK.len a]; rfl
def mostL (l : List Int) : Int := l.foldl max (-1)
theorem foldl_max (l : List Int) : ∀ (a : Int), l.foldl max a = max a (l.foldl max a) ∧ (∀ x ∈ l, x ≤ l.foldl max a) ∧ (l.foldl max a = a ∨ l.foldl max a ∈ l) := by
  induction l with
  | nil => intro a; exact ⟨by simp, fun x hx => by simp at hx, .inl rfl⟩
  | cons y l ih =>
    intro a
    obtain ⟨h1, h2, h3⟩ := ih (max a y)
    rw [List.foldl_cons]
    refine ⟨by omega, fun x hx => ?_, ?_⟩
    · rcases List.mem_cons.1 hx with rfl | hx
      · omega
      · exact h2 x hx
    · rcases h3 with h3 | h3
      · rcases Int.le_total a y with h | h
        · right; rw [h3, Int.max_eq_right h]; exact List.mem_cons_self
        · left; rw [h3, Int.max_eq_left h]
      · exact .inr (List.mem_cons_of_mem _ h3)
theorem mostL_ge (l : List Int) : -1 ≤ mostL l := by have := (foldl_max l (-1)).1; unfold mostL; omega
theorem mostL_mem {l : List Int} {x : Int} (h : x ∈ l) : x ≤ mostL l := (foldl_max l (-1)).2.1 x h
theorem mostL_of (l : List Int) : mostL l = -1 ∨ mostL l ∈ l := (foldl_max l (-1)).2.2
abbrev numS (M : List Int) : Nat := (mostL M + 1).toNat
end Go.TF
end
section
/- Facts on the types of this program, one row each, made by program. -/
namespace Go.TF
open Go Go.RowKit Go.Proofs
theorem mixed : Tryz.prog.follows .mixedOrders = true := by kernel_rfl
theorem ty_3 : Ty Tryz.prog 3 1 false := ⟨Tryz.sizeOf3, Tryz.isAgg3, by decide⟩
theorem ty_4 : Ty Tryz.prog 4 1 false := ⟨Tryz.sizeOf4, Tryz.isAgg4, by decide⟩
theorem ty_9 : Ty Tryz.prog 9 1 false := ⟨Tryz.sizeOf9, Tryz.isAgg9, by decide⟩
theorem ty_22 : Ty Tryz.prog 22 1 false := ⟨Tryz.sizeOf22, Tryz.isAgg22, by decide⟩
theorem ty_23 : Ty Tryz.prog 23 1 false := ⟨Tryz.sizeOf23, Tryz.isAgg23, by decide⟩
theorem ty_25 : Ty Tryz.prog 25 2 true := ⟨Tryz.sizeOf25, Tryz.isAgg25, by decide⟩
theorem fa_25_0 : FA Tryz.prog 25 0 0 := fun a w => by simp [Instr.fieldAt, Tryz.runUnderlying25, Instr.sureAddr, fieldPlace, Tryz.sizeOf22]
theorem fa_25_1 : FA Tryz.prog 25 1 1 := fun a w => by simp [Instr.fieldAt, Tryz.runUnderlying25, Instr.sureAddr, fieldPlace, Tryz.sizeOf23]
theorem pl_25 : Pl Tryz.prog 25 [(0, 1), (1, 1)] := ⟨_, Tryz.underlying25, fun w => by simp [Tryz.sizeOf22, Tryz.sizeOf23]⟩
theorem ty_26 : Ty Tryz.prog 26 1 false := ⟨Tryz.sizeOf26, Tryz.isAgg26, by decide⟩
theorem ty_36 : Ty Tryz.prog 36 1 false := ⟨Tryz.sizeOf36, Tryz.isAgg36, by decide⟩
theorem ty_45 : Ty Tryz.prog 45 1 false := ⟨Tryz.sizeOf45, Tryz.isAgg45, by decide⟩
theorem ty_52 : Ty Tryz.prog 52 4 true := ⟨Tryz.sizeOf52, Tryz.isAgg52, by decide⟩
theorem fa_52_0 : FA Tryz.prog 52 0 0 := fun a w => by simp [Instr.fieldAt, Tryz.runUnderlying52, Instr.sureAddr, fieldPlace, Tryz.sizeOf3]
theorem fa_52_1 : FA Tryz.prog 52 1 1 := fun a w => by simp [Instr.fieldAt, Tryz.runUnderlying52, Instr.sureAddr, fieldPlace, Tryz.sizeOf3]
theorem fa_52_2 : FA Tryz.prog 52 2 2 := fun a w => by simp [Instr.fieldAt, Tryz.runUnderlying52, Instr.sureAddr, fieldPlace, Tryz.sizeOf3]
theorem fa_52_3 : FA Tryz.prog 52 3 3 := fun a w => by simp [Instr.fieldAt, Tryz.runUnderlying52, Instr.sureAddr, fieldPlace, Tryz.sizeOf3]
theorem pl_52 : Pl Tryz.prog 52 [(0, 1), (1, 1), (2, 1), (3, 1)] := ⟨_, Tryz.underlying52, fun w => by simp [Tryz.sizeOf3]⟩
theorem ty_62 : Ty Tryz.prog 62 3 true := ⟨Tryz.sizeOf62, Tryz.isAgg62, by decide⟩
theorem fa_62_0 : FA Tryz.prog 62 0 0 := fun a w => by simp [Instr.fieldAt, Tryz.runUnderlying62, Instr.sureAddr, fieldPlace, Tryz.sizeOf9]
theorem fa_62_1 : FA Tryz.prog 62 1 1 := fun a w => by simp [Instr.fieldAt, Tryz.runUnderlying62, Instr.sureAddr, fieldPlace, Tryz.sizeOf3]
theorem fa_62_2 : FA Tryz.prog 62 2 2 := fun a w => by simp [Instr.fieldAt, Tryz.runUnderlying62, Instr.sureAddr, fieldPlace, Tryz.sizeOf3]
theorem pl_62 : Pl Tryz.prog 62 [(0, 1), (1, 1), (2, 1)] := ⟨_, Tryz.underlying62, fun w => by simp [Tryz.sizeOf3, Tryz.sizeOf9]⟩
theorem ty_63 : Ty Tryz.prog 63 1 false := ⟨Tryz.sizeOf63, Tryz.isAgg63, by decide⟩
theorem ty_65 : Ty Tryz.prog 65 2 true := ⟨Tryz.sizeOf65, Tryz.isAgg65, by decide⟩
theorem fa_65_0 : FA Tryz.prog 65 0 0 := fun a w => by simp [Instr.fieldAt, Tryz.runUnderlying65, Instr.sureAddr, fieldPlace, Tryz.sizeOf3]
theorem fa_65_1 : FA Tryz.prog 65 1 1 := fun a w => by simp [Instr.fieldAt, Tryz.runUnderlying65, Instr.sureAddr, fieldPlace, Tryz.sizeOf63]
theorem pl_65 : Pl Tryz.prog 65 [(0, 1), (1, 1)] := ⟨_, Tryz.underlying65, fun w => by simp [Tryz.sizeOf3, Tryz.sizeOf63]⟩
theorem ty_66 : Ty Tryz.prog 66 1 false := ⟨Tryz.sizeOf66, Tryz.isAgg66, by decide⟩
theorem ty_68 : Ty Tryz.prog 68 5 true := ⟨Tryz.sizeOf68, Tryz.isAgg68, by decide⟩
theorem fa_68_0 : FA Tryz.prog 68 0 0 := fun a w => by simp [Instr.fieldAt, Tryz.runUnderlying68, Instr.sureAddr, fieldPlace, Tryz.sizeOf65]
theorem fa_68_1 : FA Tryz.prog 68 1 2 := fun a w => by simp [Instr.fieldAt, Tryz.runUnderlying68, Instr.sureAddr, fieldPlace, Tryz.sizeOf3]
theorem fa_68_2 : FA Tryz.prog 68 2 3 := fun a w => by simp [Instr.fieldAt, Tryz.runUnderlying68, Instr.sureAddr, fieldPlace, Tryz.sizeOf3]
theorem fa_68_3 : FA Tryz.prog 68 3 4 := fun a w => by simp [Instr.fieldAt, Tryz.runUnderlying68, Instr.sureAddr, fieldPlace, Tryz.sizeOf66]
theorem pl_68 : Pl Tryz.prog 68 [(0, 2), (2, 1), (3, 1), (4, 1)] := ⟨_, Tryz.underlying68, fun w => by simp [Tryz.sizeOf3, Tryz.sizeOf65, Tryz.sizeOf66]⟩
theorem ty_76 : Ty Tryz.prog 76 1 false := ⟨Tryz.sizeOf76, Tryz.isAgg76, by decide⟩
theorem ty_80 : Ty Tryz.prog 80 3 true := ⟨Tryz.sizeOf80, Tryz.isAgg80, by decide⟩
theorem ty_82 : Ty Tryz.prog 82 4 true := ⟨Tryz.sizeOf82, Tryz.isAgg82, by decide⟩
theorem fa_82_0 : FA Tryz.prog 82 0 0 := fun a w => by simp [Instr.fieldAt, Tryz.runUnderlying82, Instr.sureAddr, fieldPlace, Tryz.sizeOf3]
theorem fa_82_1 : FA Tryz.prog 82 1 1 := fun a w => by simp [Instr.fieldAt, Tryz.runUnderlying82, Instr.sureAddr, fieldPlace, Tryz.sizeOf80]
theorem pl_82 : Pl Tryz.prog 82 [(0, 1), (1, 3)] := ⟨_, Tryz.underlying82, fun w => by simp [Tryz.sizeOf3, Tryz.sizeOf80]⟩
theorem ty_91 : Ty Tryz.prog 91 2 true := ⟨Tryz.sizeOf91, Tryz.isAgg91, by decide⟩
theorem fa_91_0 : FA Tryz.prog 91 0 0 := fun a w => by simp [Instr.fieldAt, Tryz.runUnderlying91, Instr.sureAddr, fieldPlace, Tryz.sizeOf4]
theorem fa_91_1 : FA Tryz.prog 91 1 1 := fun a w => by simp [Instr.fieldAt, Tryz.runUnderlying91, Instr.sureAddr, fieldPlace, Tryz.sizeOf3]
theorem pl_91 : Pl Tryz.prog 91 [(0, 1), (1, 1)] := ⟨_, Tryz.underlying91, fun w => by simp [Tryz.sizeOf3, Tryz.sizeOf4]⟩
theorem ty_102 : Ty Tryz.prog 102 1 false := ⟨Tryz.sizeOf102, Tryz.isAgg102, by decide⟩
theorem ty_131 : Ty Tryz.prog 131 3 true := ⟨Tryz.sizeOf131, Tryz.isAgg131, by decide⟩
theorem fa_131_0 : FA Tryz.prog 131 0 0 := fun a w => by simp [Instr.fieldAt, Tryz.runUnderlying131, Instr.sureAddr, fieldPlace, Tryz.sizeOf4]
theorem fa_131_1 : FA Tryz.prog 131 1 1 := fun a w => by simp [Instr.fieldAt, Tryz.runUnderlying131, Instr.sureAddr, fieldPlace, Tryz.sizeOf65]
theorem pl_131 : Pl Tryz.prog 131 [(0, 1), (1, 2)] := ⟨_, Tryz.underlying131, fun w => by simp [Tryz.sizeOf4, Tryz.sizeOf65]⟩
theorem ty_149 : Ty Tryz.prog 149 1 false := ⟨Tryz.sizeOf149, Tryz.isAgg149, by decide⟩
theorem ty_156 : Ty Tryz.prog 156 1 false := ⟨Tryz.sizeOf156, Tryz.isAgg156, by decide⟩
theorem ty_192 : Ty Tryz.prog 192 1 false := ⟨Tryz.sizeOf192, Tryz.isAgg192, by decide⟩
theorem ty_193 : Ty Tryz.prog 193 3 true := ⟨Tryz.sizeOf193, Tryz.isAgg193, by decide⟩
theorem ty_204 : Ty Tryz.prog 204 2 true := ⟨Tryz.sizeOf204, Tryz.isAgg204, by decide⟩
theorem fd_204_0 : Fd Tryz.prog 204 0 76 0 := ⟨_, _, Tryz.underlying204, rfl, rfl, rfl⟩
theorem fd_204_1 : Fd Tryz.prog 204 1 76 1 := ⟨_, _, Tryz.underlying204, rfl, rfl, rfl⟩
theorem pl_204 : Pl Tryz.prog 204 [(0, 1), (1, 1)] := ⟨_, Tryz.underlying204, fun w => by simp [Tryz.sizeOf76]⟩
theorem ty_205 : Ty Tryz.prog 205 8 true := ⟨Tryz.sizeOf205, Tryz.isAgg205, by decide⟩
theorem eq_52 (a0 : Int) (a1 : Int) (a2 : Int) (a3 : Int) (b0 : Int) (b1 : Int) (b2 : Int) (b3 : Int) (w : World) : (Op.equalIn 10000 52 (.agg #[.int .i64 a0, .int .i64 a1, .int .i64 a2, .int .i64 a3]) (.agg #[.int .i64 b0, .int .i64 b1, .int .i64 b2, .int .i64 b3])).run Tryz.prog w = .ok ((a0 == b0) && ((a1 == b1) && ((a2 == b2) && ((a3 == b3) && true)))) w := by
  rw [show 10000 = 9998 + 1 + 1 from rfl, run_equalIn_struct w _ 52 _ _ (by simp only [Program.fieldsOf, Tryz.underlying52]) Tryz.stoodInHeld52]
  simp only [Program.fieldsOf, Tryz.underlying52, Op.eqFields]
  have p : ∀ T, (∀ w, (isAgg T).run Tryz.prog w = .ok false w) → ∀ (cs : Array Value) (o : Nat) v, cs[o]? = some v → (Go.part T cs o).run Tryz.prog w = .ok v w := fun T h cs o v hv => part_leaf h hv w
  cases h0 : (a0 == b0) <;> cases h1 : (a1 == b1) <;> cases h2 : (a2 == b2) <;> cases h3 : (a3 == b3) <;> simp [p 3 Tryz.isAgg3, run_equalIn_int w _ 3 .i64 .i64 _ _ Tryz.underlying3, h0, h1, h2, h3]
theorem et_3 : ElT Tryz.prog 3 1 8 (.int .i64 0) := ⟨by kernel_rfl, rfl, by decide⟩
theorem et_4 : ElT Tryz.prog 4 1 1 (.bool false) := ⟨by kernel_rfl, rfl, by decide⟩
theorem et_52 : ElT Tryz.prog 52 4 32 (.agg #[.int .i64 0, .int .i64 0, .int .i64 0, .int .i64 0]) := ⟨by kernel_rfl, rfl, by decide⟩
theorem et_65 : ElT Tryz.prog 65 2 32 (.agg #[.int .i64 0, .slice none 0 0]) := ⟨by kernel_rfl, rfl, by decide⟩
theorem et_68 : ElT Tryz.prog 68 5 72 (.agg #[.int .i64 0, .slice none 0 0, .int .i64 0, .int .i64 0, .slice none 0 0]) := ⟨by kernel_rfl, rfl, by decide⟩
theorem et_82 : ElT Tryz.prog 82 4 32 (.agg #[.int .i64 0, .int .i64 0, .int .i64 0, .int .i64 0]) := ⟨by kernel_rfl, rfl, by decide⟩
theorem et_91 : ElT Tryz.prog 91 2 16 (.agg #[.bool false, .int .i64 0]) := ⟨by kernel_rfl, rfl, by decide⟩
end Go.TF
end
section
/- The contracts of package lat and of the references beside it: each call returns what the plain functions compute. -/
namespace Go.TF
open Go Go.RowKit Go.Proofs
set_option maxRecDepth 10000

theorem orders1_ok (B : Base) (hB : B.ok) (a b : Int) (h : I64 (a + b)) : Fn Tryz.prog 188 [.int .i64 a, .int .i64 b] B (fun v _ => v = .int .i64 (min (a + b) 15)) := by
  obtain ⟨h1, h2⟩ := h
  refine Fn.of Tryz.func188 rfl Tryz.ntmps188 (by kernel_rfl) (by simp) ?_
  intro e
  have I := Inv.start hB
  refine WP.seq ?_
  refine WP.region ?_
  refine Ops.y (v := .int .i64 _) (Y.assign rfl) ?_
  refine Ops.nil ?_
  refine WP.seq ?_
  refine WP.region ?_
  refine Ops.y (v := .int .i64 _) (Y.move rfl) ?_
  refine Ops.y (v := .int .i64 _) (Y.move rfl) ?_
  refine Ops.y (v := .int .i64 _) (Y.addi rfl rfl ⟨by omega, by omega⟩) ?_
  refine Ops.y (v := .int .i64 _) (Y.min2 rfl rfl) ?_
  refine Ops.y (v := .int .i64 _) (Y.assign rfl) ?_
  refine Ops.nil ?_
  refine WP.ret ?_
  repeat (first | refine thenE_ret ?_ | refine blockE_ret ?_)
  exact retQ.mk (vs := [.int .i64 _]) rfl ⟨rfl, trivial⟩ I.ext_of (rfl)
theorem orders2_ok (B : Base) (hB : B.ok) (a b : Int) : Fn Tryz.prog 189 [.int .i64 a, .int .i64 b] B (fun v _ => v = .int .i64 (orI a b)) := by
  refine Fn.of Tryz.func189 rfl Tryz.ntmps189 (by kernel_rfl) (by simp) ?_
  intro e
  have I := Inv.start hB
  refine WP.seq ?_
  refine WP.region ?_
  refine Ops.y (v := .int .i64 _) (Y.assign rfl) ?_
  refine Ops.nil ?_
  refine WP.seq ?_
  refine WP.region ?_
  refine Ops.y (v := .int .i64 _) (Y.move rfl) ?_
  refine Ops.y (v := .int .i64 _) (Y.move rfl) ?_
  refine Ops.y (v := .int .i64 _) (Y.ori rfl rfl) ?_
  refine Ops.y (v := .int .i64 _) (Y.assign rfl) ?_
  refine Ops.nil ?_
  refine WP.ret ?_
  repeat (first | refine thenE_ret ?_ | refine blockE_ret ?_)
  exact retQ.mk (vs := [.int .i64 _]) rfl ⟨rfl, trivial⟩ I.ext_of (rfl)
theorem orders3_ok (B : Base) (hB : B.ok) (a b : Int) : Fn Tryz.prog 190 [.int .i64 a, .int .i64 b] B (fun v _ => v = .int .i64 0) := by
  refine Fn.of Tryz.func190 rfl Tryz.ntmps190 (by kernel_rfl) (by simp) ?_
  intro e
  have I := Inv.start hB
  refine WP.seq ?_
  refine WP.region ?_
  refine Ops.y (v := .int .i64 _) (Y.assign rfl) ?_
  refine Ops.nil ?_
  refine WP.seq ?_
  refine WP.region ?_
  refine Ops.y (v := .int .i64 _) (Y.assign rfl) ?_
  refine Ops.nil ?_
  refine WP.ret ?_
  repeat (first | refine thenE_ret ?_ | refine blockE_ret ?_)
  exact retQ.mk (vs := [.int .i64 _]) rfl ⟨rfl, trivial⟩ I.ext_of (rfl)
theorem orders4_ok (B : Base) (hB : B.ok) (a b : Int) : Fn Tryz.prog 191 [.int .i64 a, .int .i64 b] B (fun v _ => v = .int .i64 (max a b)) := by
  refine Fn.of Tryz.func191 rfl Tryz.ntmps191 (by kernel_rfl) (by simp) ?_
  intro e
  have I := Inv.start hB
  refine WP.seq ?_
  refine WP.region ?_
  refine Ops.y (v := .int .i64 _) (Y.assign rfl) ?_
  refine Ops.nil ?_
  refine WP.seq ?_
  refine WP.region ?_
  refine Ops.y (v := .int .i64 _) (Y.move rfl) ?_
  refine Ops.y (v := .int .i64 _) (Y.move rfl) ?_
  refine Ops.y (v := .int .i64 _) (Y.max2 rfl rfl) ?_
  refine Ops.y (v := .int .i64 _) (Y.assign rfl) ?_
  refine Ops.nil ?_
  refine WP.ret ?_
  repeat (first | refine thenE_ret ?_ | refine blockE_ret ?_)
  exact retQ.mk (vs := [.int .i64 _]) rfl ⟨rfl, trivial⟩ I.ext_of (rfl)
theorem orders5_ok (B : Base) (hB : B.ok) (a b : Int) : Fn Tryz.prog 192 [.int .i64 a, .int .i64 b] B (fun v _ => v = .int .i64 (min a b)) := by
  refine Fn.of Tryz.func192 rfl Tryz.ntmps192 (by kernel_rfl) (by simp) ?_
  intro e
  have I := Inv.start hB
  refine WP.seq ?_
  refine WP.region ?_
  refine Ops.y (v := .int .i64 _) (Y.assign rfl) ?_
  refine Ops.nil ?_
  refine WP.seq ?_
  refine WP.region ?_
  refine Ops.y (v := .int .i64 _) (Y.move rfl) ?_
  refine Ops.y (v := .int .i64 _) (Y.move rfl) ?_
  refine Ops.y (v := .int .i64 _) (Y.min2 rfl rfl) ?_
  refine Ops.y (v := .int .i64 _) (Y.assign rfl) ?_
  refine Ops.nil ?_
  refine WP.ret ?_
  repeat (first | refine thenE_ret ?_ | refine blockE_ret ?_)
  exact retQ.mk (vs := [.int .i64 _]) rfl ⟨rfl, trivial⟩ I.ext_of (rfl)
def fv (f : Nat) : Value := .func (.func f) #[] #[]
theorem orders_ok (B : Base) (hB : B.ok) : Fn Tryz.prog 178 [] B (fun v _ => v = .agg #[fv 190, fv 190, fv 191, fv 188, fv 192, fv 188, fv 189, fv 189]) := by
  refine Fn.of Tryz.func178 rfl Tryz.ntmps178 (by kernel_rfl) (by simp) ?_
  intro e
  have I := Inv.start hB
  refine WP.seq ?_
  refine WP.region ?_
  refine Ops.go (O.alloc I Tryz.zeroValue205 rfl ?_)
  intro b0 w I
  refine Ops.nil ?_
  refine WP.seq ?_
  refine WP.region ?_
  refine Ops.y (v := .func _ _ _) (Y.assign rfl) ?_
  refine Ops.nil ?_
  refine WP.seq ?_
  refine WP.region ?_
  refine Ops.y (v := .func _ _ _) (Y.assign rfl) ?_
  refine Ops.nil ?_
  refine WP.seq ?_
  refine WP.region ?_
  refine Ops.y (v := .func _ _ _) (Y.assign rfl) ?_
  refine Ops.nil ?_
  refine WP.seq ?_
  refine WP.region ?_
  refine Ops.y (v := .func _ _ _) (Y.move rfl) ?_
  refine Ops.y (v := .func _ _ _) (Y.move rfl) ?_
  refine Ops.y (v := .agg #[.func _ _ _, .func _ _ _]) (Y.build pl_204 Tryz.zeroValue204 rfl rfl) ?_
  refine Ops.y (v := .func _ _ _) (Y.move rfl) ?_
  refine Ops.y (v := .agg #[.func _ _ _, .func _ _ _]) (Y.build pl_204 Tryz.zeroValue204 rfl rfl) ?_
  refine Ops.y (v := .func _ _ _) (Y.move rfl) ?_
  refine Ops.y (v := .agg #[.func _ _ _, .func _ _ _]) (Y.build pl_204 Tryz.zeroValue204 rfl rfl) ?_
  refine Ops.y (v := .func _ _ _) (Y.move rfl) ?_
  refine Ops.y (v := .func _ _ _) (Y.move rfl) ?_
  refine Ops.y (v := .agg #[.func _ _ _, .func _ _ _]) (Y.build pl_204 Tryz.zeroValue204 rfl rfl) ?_
  refine Ops.y (v := .agg #[.func _ _ _, .func _ _ _, .func _ _ _, .func _ _ _, .func _ _ _, .func _ _ _, .func _ _ _, .func _ _ _]) (Y.builda Tryz.underlying205 Tryz.zeroValue205 Tryz.sizeOf204 rfl rfl) ?_
  refine Ops.go (O.store (v := .agg #[_, _, _, _, _, _, _, _]) I ty_205 0 rfl rfl rfl rfl rfl rfl (Nat.le_of_ble_eq_true rfl) rfl ?_)
  intro w I
  refine Ops.nil ?_
  refine WP.ret ?_
  repeat (first | refine thenE_ret ?_ | refine blockE_ret ?_)
  exact retQ.mk (vs := [.agg #[_, _, _, _, _, _, _, _]]) rfl ⟨⟨_, _, _, _, _, rfl, ty_205, I.rdbox 0 rfl 0 8, rfl, rfl⟩, trivial⟩ I.ext_of (rfl)
theorem Check_ok (B : Base) (hB : B.ok) (kind v : Int) : Fn Tryz.prog 157 [.int .i64 kind, .int .i64 v] B (fun r _ => r = .int .i64 (checkVal kind v)) := by
  refine Fn.of Tryz.func157 rfl Tryz.ntmps157 (by kernel_rfl) (by simp) ?_
  intro e
  have I := Inv.start hB
  refine WP.seq ?_
  refine WP.region ?_
  refine Ops.y (v := .int .i64 _) (Y.assign rfl) ?_
  refine Ops.nil ?_
  refine WP.seq ?_
  refine WP.region ?_
  refine Ops.y (v := .int .i64 _) (Y.assign rfl) ?_
  refine Ops.nil ?_
  refine WP.seq ?_
  refine WP.seq ?_
  refine WP.region ?_
  refine Ops.y (v := .int .i64 _) (Y.move rfl) ?_
  refine Ops.nil ?_
  refine WP.cutK (σ := Unit) (fun _ => [(1, .int .i64 v), (5, .int .i64 (if kind = 0 then 0 else 15))]) (fun _ w' => Inv B B.h [] w' ∧ 0 ≤ kind ∧ kind ≤ 3) ?_ ?_
  · refine WP.block ?_
    refine WP.seq ?_
    refine WP.region ?_
    refine Ops.y (v := .bool (decide _)) (Y.eqi rfl rfl) ?_
    refine Ops.y (v := .bool _) (Y.assign rfl) ?_
    refine Ops.nil ?_
    refine WP.cond_dec rfl (fun h0 => ?_) (fun h0 => ?_)
    · refine WP.region ?_
      refine Ops.y (v := .int .i64 _) (Y.assign rfl) ?_
      refine Ops.nil ?_
      exact ⟨(), ⟨rfl, by show Value.int .i64 0 = _; simp [h0], trivial⟩, I, by omega, by omega⟩
    have hz : (if kind = 0 then (0 : Int) else 15) = 15 := by simp [h0]
    refine WP.seq ?_
    refine WP.seq ?_
    refine WP.region ?_
    refine Ops.y (v := .bool (decide _)) (Y.eqi rfl rfl) ?_
    refine Ops.y (v := .bool _) (Y.assign rfl) ?_
    refine Ops.nil ?_
    refine WP.cond_dec rfl (fun h1 => ?_) (fun h1 => ?_)
    · refine WP.skip ?_
      refine WP.cond_decT rfl (h1) ?_
      refine WP.skip ?_
      exact ⟨(), ⟨rfl, by rw [hz]; rfl, trivial⟩, I, by omega, by omega⟩
    refine WP.seq ?_
    refine WP.region ?_
    refine Ops.y (v := .bool (decide _)) (Y.eqi rfl rfl) ?_
    refine Ops.y (v := .bool _) (Y.assign rfl) ?_
    refine Ops.nil ?_
    refine WP.cond_dec rfl (fun h2 => ?_) (fun h2 => ?_)
    · refine WP.skip ?_
      refine WP.cond_decT rfl (h2) ?_
      refine WP.skip ?_
      exact ⟨(), ⟨rfl, by rw [hz]; rfl, trivial⟩, I, by omega, by omega⟩
    refine WP.region ?_
    refine Ops.y (v := .bool (decide _)) (Y.eqi rfl rfl) ?_
    refine Ops.y (v := .bool _) (Y.assign rfl) ?_
    refine Ops.nil ?_
    refine WP.cond_dec rfl (fun h3 => ?_) (fun h3 => ?_)
    · refine WP.skip ?_
      exact ⟨(), ⟨rfl, by rw [hz]; rfl, trivial⟩, I, by omega, by omega⟩
    refine WP.seq ?_
    refine WP.region ?_
    refine Ops.y (v := .int .i64 _) (Y.assign rfl) ?_
    refine Ops.nil ?_
    refine WP.ret ?_
    repeat (first | refine thenE_ret ?_ | refine blockE_ret ?_)
    exact retQ.mk (vs := [.int .i64 _]) rfl ⟨rfl, trivial⟩ I.ext_of (by simp [tup, checkVal]; omega)
  rintro _ e w ⟨I, hk0, hk3⟩
  by_cases hv : v < 0
  · refine WP.seq ?_
    refine WP.seq ?_
    refine WP.region ?_
    refine Ops.y (v := .int .i64 _) (Y.move rfl) ?_
    refine Ops.y (v := .bool true) (Y.dec_t (Y.lti rfl rfl) (hv)) ?_
    refine Ops.y (v := .bool _) (Y.move rfl) ?_
    refine Ops.gf rfl ?_
    refine Ops.gf rfl ?_
    refine Ops.gf rfl ?_
    refine Ops.y (v := .bool _) (Y.pick_t rfl rfl) ?_
    refine Ops.nil ?_
    refine WP.cond_t rfl ?_
    refine WP.seq ?_
    refine WP.region ?_
    refine Ops.y (v := .int .i64 _) (Y.assign rfl) ?_
    refine Ops.nil ?_
    refine WP.ret ?_
    repeat (first | refine thenE_ret ?_ | refine blockE_ret ?_)
    exact retQ.mk (vs := [.int .i64 _]) rfl ⟨rfl, trivial⟩ I.ext_of (by simp [tup, checkVal]; omega)
  refine WP.seq ?_
  refine WP.seq ?_
  refine WP.region ?_
  refine Ops.y (v := .int .i64 _) (Y.move rfl) ?_
  refine Ops.y (v := .bool false) (Y.dec_f (Y.lti rfl rfl) (hv)) ?_
  refine Ops.y (v := .bool _) (Y.move rfl) ?_
  refine Ops.ygt rfl (v := .int .i64 _) (Y.move rfl) ?_
  refine Ops.ygt rfl (v := .int .i64 _) (Y.move rfl) ?_
  refine Ops.ygt rfl (v := .bool (decide _)) (Y.gti rfl rfl) ?_
  refine Ops.y (v := .bool _) (Y.pick_f rfl rfl) ?_
  refine Ops.nil ?_
  refine WP.cond_dec rfl (fun h2 => ?_) (fun h2 => ?_)
  · refine WP.seq ?_
    refine WP.region ?_
    refine Ops.y (v := .int .i64 _) (Y.assign rfl) ?_
    refine Ops.nil ?_
    refine WP.ret ?_
    repeat (first | refine thenE_ret ?_ | refine blockE_ret ?_)
    exact retQ.mk (vs := [.int .i64 _]) rfl ⟨rfl, trivial⟩ I.ext_of (by simp only [tup, checkVal]; split at h2 <;> simp <;> omega)
  refine WP.skip ?_
  refine WP.seq ?_
  refine WP.region ?_
  refine Ops.y (v := .int .i64 _) (Y.assign rfl) ?_
  refine Ops.nil ?_
  refine WP.ret ?_
  repeat (first | refine thenE_ret ?_ | refine blockE_ret ?_)
  exact retQ.mk (vs := [.int .i64 _]) rfl ⟨rfl, trivial⟩ I.ext_of (by simp only [tup, checkVal]; split at h2 <;> simp <;> omega)
theorem kinds4 {k : Int} (h : 0 ≤ k ∧ k ≤ 3) : k = 0 ∨ k = 1 ∨ k = 2 ∨ k = 3 := by omega
theorem Joined_ok (B : Base) (hB : B.ok) (kind a b : Int) (hk : 0 ≤ kind ∧ kind ≤ 3) : Fn Tryz.prog 137 [.int .i64 kind, .int .i64 a, .int .i64 b] B (fun r _ => r = .int .i64 (joinV kind a b)) := by
  refine Fn.of Tryz.func137 rfl Tryz.ntmps137 (by kernel_rfl) (by simp) ?_
  intro e
  have I := Inv.start hB
  refine WP.seq ?_
  refine WP.region ?_
  refine Ops.y (v := .int .i64 _) (Y.assign rfl) ?_
  refine Ops.nil ?_
  rcases kinds4 hk with rfl | rfl | rfl | rfl
  · refine WP.seq ?_
    refine WP.region ?_
    refine Ops.go (O.callv I Tryz.call178 (orders_ok _ I.base_ok) rfl ?_)
    intro w I
    refine Ops.y (v := .int .i64 _) (Y.move rfl) ?_
    refine Ops.y (v := .agg #[_, _]) (Y.idxvv Tryz.underlying205 ty_204 rfl rfl (by decide) (by decide) rfl rfl rfl) ?_
    refine Ops.y (v := .func _ _ _) (Y.field fd_204_0 ty_76 rfl rfl rfl rfl) ?_
    refine Ops.y (v := .int .i64 _) (Y.move rfl) ?_
    refine Ops.y (v := .int .i64 _) (Y.move rfl) ?_
    refine Ops.go (O.callc I Tryz.call190 rfl (orders3_ok _ I.base_ok _ _) rfl ?_)
    rintro _ h w I hle rfl
    refine Ops.y (v := .int .i64 _) (Y.assign rfl) ?_
    refine Ops.nil ?_
    refine WP.ret ?_
    repeat (first | refine thenE_ret ?_ | refine blockE_ret ?_)
    exact retQ.mk (vs := [.int .i64 _]) rfl ⟨rfl, trivial⟩ I.ext_of (rfl)
  · refine WP.seq ?_
    refine WP.region ?_
    refine Ops.go (O.callv I Tryz.call178 (orders_ok _ I.base_ok) rfl ?_)
    intro w I
    refine Ops.y (v := .int .i64 _) (Y.move rfl) ?_
    refine Ops.y (v := .agg #[_, _]) (Y.idxvv Tryz.underlying205 ty_204 rfl rfl (by decide) (by decide) rfl rfl rfl) ?_
    refine Ops.y (v := .func _ _ _) (Y.field fd_204_0 ty_76 rfl rfl rfl rfl) ?_
    refine Ops.y (v := .int .i64 _) (Y.move rfl) ?_
    refine Ops.y (v := .int .i64 _) (Y.move rfl) ?_
    refine Ops.go (O.callc I Tryz.call191 rfl (orders4_ok _ I.base_ok _ _) rfl ?_)
    rintro _ h w I hle rfl
    refine Ops.y (v := .int .i64 _) (Y.assign rfl) ?_
    refine Ops.nil ?_
    refine WP.ret ?_
    repeat (first | refine thenE_ret ?_ | refine blockE_ret ?_)
    exact retQ.mk (vs := [.int .i64 _]) rfl ⟨rfl, trivial⟩ I.ext_of (rfl)
  · refine WP.seq ?_
    refine WP.region ?_
    refine Ops.go (O.callv I Tryz.call178 (orders_ok _ I.base_ok) rfl ?_)
    intro w I
    refine Ops.y (v := .int .i64 _) (Y.move rfl) ?_
    refine Ops.y (v := .agg #[_, _]) (Y.idxvv Tryz.underlying205 ty_204 rfl rfl (by decide) (by decide) rfl rfl rfl) ?_
    refine Ops.y (v := .func _ _ _) (Y.field fd_204_0 ty_76 rfl rfl rfl rfl) ?_
    refine Ops.y (v := .int .i64 _) (Y.move rfl) ?_
    refine Ops.y (v := .int .i64 _) (Y.move rfl) ?_
    refine Ops.go (O.callc I Tryz.call192 rfl (orders5_ok _ I.base_ok _ _) rfl ?_)
    rintro _ h w I hle rfl
    refine Ops.y (v := .int .i64 _) (Y.assign rfl) ?_
    refine Ops.nil ?_
    refine WP.ret ?_
    repeat (first | refine thenE_ret ?_ | refine blockE_ret ?_)
    exact retQ.mk (vs := [.int .i64 _]) rfl ⟨rfl, trivial⟩ I.ext_of (rfl)
  · refine WP.seq ?_
    refine WP.region ?_
    refine Ops.go (O.callv I Tryz.call178 (orders_ok _ I.base_ok) rfl ?_)
    intro w I
    refine Ops.y (v := .int .i64 _) (Y.move rfl) ?_
    refine Ops.y (v := .agg #[_, _]) (Y.idxvv Tryz.underlying205 ty_204 rfl rfl (by decide) (by decide) rfl rfl rfl) ?_
    refine Ops.y (v := .func _ _ _) (Y.field fd_204_0 ty_76 rfl rfl rfl rfl) ?_
    refine Ops.y (v := .int .i64 _) (Y.move rfl) ?_
    refine Ops.y (v := .int .i64 _) (Y.move rfl) ?_
    refine Ops.go (O.callc I Tryz.call189 rfl (orders2_ok _ I.base_ok _ _) rfl ?_)
    rintro _ h w I hle rfl
    refine Ops.y (v := .int .i64 _) (Y.assign rfl) ?_
    refine Ops.nil ?_
    refine WP.ret ?_
    repeat (first | refine thenE_ret ?_ | refine blockE_ret ?_)
    exact retQ.mk (vs := [.int .i64 _]) rfl ⟨rfl, trivial⟩ I.ext_of (rfl)
theorem Lifted_ok (B : Base) (hB : B.ok) (kind a b : Int) (hk : 0 ≤ kind ∧ kind ≤ 3) (hr : I64 (a + b)) : Fn Tryz.prog 150 [.int .i64 kind, .int .i64 a, .int .i64 b] B (fun r _ => r = .int .i64 (liftV kind a b)) := by
  refine Fn.of Tryz.func150 rfl Tryz.ntmps150 (by kernel_rfl) (by simp) ?_
  intro e
  have I := Inv.start hB
  refine WP.seq ?_
  refine WP.region ?_
  refine Ops.y (v := .int .i64 _) (Y.assign rfl) ?_
  refine Ops.nil ?_
  rcases kinds4 hk with rfl | rfl | rfl | rfl
  · refine WP.seq ?_
    refine WP.region ?_
    refine Ops.go (O.callv I Tryz.call178 (orders_ok _ I.base_ok) rfl ?_)
    intro w I
    refine Ops.y (v := .int .i64 _) (Y.move rfl) ?_
    refine Ops.y (v := .agg #[_, _]) (Y.idxvv Tryz.underlying205 ty_204 rfl rfl (by decide) (by decide) rfl rfl rfl) ?_
    refine Ops.y (v := .func _ _ _) (Y.field fd_204_1 ty_76 rfl rfl rfl rfl) ?_
    refine Ops.y (v := .int .i64 _) (Y.move rfl) ?_
    refine Ops.y (v := .int .i64 _) (Y.move rfl) ?_
    refine Ops.go (O.callc I Tryz.call190 rfl (orders3_ok _ I.base_ok _ _) rfl ?_)
    rintro _ h w I hle rfl
    refine Ops.y (v := .int .i64 _) (Y.assign rfl) ?_
    refine Ops.nil ?_
    refine WP.ret ?_
    repeat (first | refine thenE_ret ?_ | refine blockE_ret ?_)
    exact retQ.mk (vs := [.int .i64 _]) rfl ⟨rfl, trivial⟩ I.ext_of (rfl)
  · refine WP.seq ?_
    refine WP.region ?_
    refine Ops.go (O.callv I Tryz.call178 (orders_ok _ I.base_ok) rfl ?_)
    intro w I
    refine Ops.y (v := .int .i64 _) (Y.move rfl) ?_
    refine Ops.y (v := .agg #[_, _]) (Y.idxvv Tryz.underlying205 ty_204 rfl rfl (by decide) (by decide) rfl rfl rfl) ?_
    refine Ops.y (v := .func _ _ _) (Y.field fd_204_1 ty_76 rfl rfl rfl rfl) ?_
    refine Ops.y (v := .int .i64 _) (Y.move rfl) ?_
    refine Ops.y (v := .int .i64 _) (Y.move rfl) ?_
    refine Ops.go (O.callc I Tryz.call188 rfl (orders1_ok _ I.base_ok _ _ hr) rfl ?_)
    rintro _ h w I hle rfl
    refine Ops.y (v := .int .i64 _) (Y.assign rfl) ?_
    refine Ops.nil ?_
    refine WP.ret ?_
    repeat (first | refine thenE_ret ?_ | refine blockE_ret ?_)
    exact retQ.mk (vs := [.int .i64 _]) rfl ⟨rfl, trivial⟩ I.ext_of (rfl)
  · refine WP.seq ?_
    refine WP.region ?_
    refine Ops.go (O.callv I Tryz.call178 (orders_ok _ I.base_ok) rfl ?_)
    intro w I
    refine Ops.y (v := .int .i64 _) (Y.move rfl) ?_
    refine Ops.y (v := .agg #[_, _]) (Y.idxvv Tryz.underlying205 ty_204 rfl rfl (by decide) (by decide) rfl rfl rfl) ?_
    refine Ops.y (v := .func _ _ _) (Y.field fd_204_1 ty_76 rfl rfl rfl rfl) ?_
    refine Ops.y (v := .int .i64 _) (Y.move rfl) ?_
    refine Ops.y (v := .int .i64 _) (Y.move rfl) ?_
    refine Ops.go (O.callc I Tryz.call188 rfl (orders1_ok _ I.base_ok _ _ hr) rfl ?_)
    rintro _ h w I hle rfl
    refine Ops.y (v := .int .i64 _) (Y.assign rfl) ?_
    refine Ops.nil ?_
    refine WP.ret ?_
    repeat (first | refine thenE_ret ?_ | refine blockE_ret ?_)
    exact retQ.mk (vs := [.int .i64 _]) rfl ⟨rfl, trivial⟩ I.ext_of (rfl)
  · refine WP.seq ?_
    refine WP.region ?_
    refine Ops.go (O.callv I Tryz.call178 (orders_ok _ I.base_ok) rfl ?_)
    intro w I
    refine Ops.y (v := .int .i64 _) (Y.move rfl) ?_
    refine Ops.y (v := .agg #[_, _]) (Y.idxvv Tryz.underlying205 ty_204 rfl rfl (by decide) (by decide) rfl rfl rfl) ?_
    refine Ops.y (v := .func _ _ _) (Y.field fd_204_1 ty_76 rfl rfl rfl rfl) ?_
    refine Ops.y (v := .int .i64 _) (Y.move rfl) ?_
    refine Ops.y (v := .int .i64 _) (Y.move rfl) ?_
    refine Ops.go (O.callc I Tryz.call189 rfl (orders2_ok _ I.base_ok _ _) rfl ?_)
    rintro _ h w I hle rfl
    refine Ops.y (v := .int .i64 _) (Y.assign rfl) ?_
    refine Ops.nil ?_
    refine WP.ret ?_
    repeat (first | refine thenE_ret ?_ | refine blockE_ret ?_)
    exact retQ.mk (vs := [.int .i64 _]) rfl ⟨rfl, trivial⟩ I.ext_of (rfl)
end Go.TF
end
section
/- Join, Lift, Leq and the references: contracts. -/
namespace Go.TF
open Go Go.RowKit Go.Proofs
set_option maxRecDepth 10000
end Go.TF
end
section
/- slices.IndexFunc, ContainsFunc at this program's types, at a predicate that keeps nothing. -/
namespace Go.TF
open Go Go.RowKit Go.Proofs
set_option maxRecDepth 10000

/-- A function value that answers p at each element, whatever the world, and keeps nothing. -/
def PredFn {α : Type} (P : Program) (f : FuncId) (fs cs : List Value) (h : Heap) (val : α → Value) (xs : List α) (p : α → Bool) : Prop :=
  ∀ B' : Base, B'.ok → h.le B'.h → ∀ x ∈ xs, Fn P f (fs ++ [val x] ++ cs) B' (fun v _ => v = .bool (p x))
def idxOf {α : Type} (p : α → Bool) (xs : List α) : Int := match xs.findIdx? p with | some i => (i : Int) | none => -1
theorem idxOf_none {α : Type} {p : α → Bool} {xs : List α} (h : ∀ x ∈ xs, p x = false) : idxOf p xs = -1 := by
  have : xs.findIdx? p = none := by rw [List.findIdx?_eq_none_iff]; intro x hx; simpa using h x hx
  simp [idxOf, this]
theorem idxOf_some {α : Type} {p : α → Bool} {xs : List α} {k : Nat} (hk : k < xs.length) (h : ∀ j (hj : j < k), p (xs[j]'(by omega)) = false) (hp : p xs[k] = true) : idxOf p xs = k := by
  have : xs.findIdx? p = some k := by
    rw [List.findIdx?_eq_some_iff_getElem]
    exact ⟨hk, hp, fun j hj => by simp [h j hj]⟩
  simp [idxOf, this]
theorem idxOf_any {α : Type} (p : α → Bool) (xs : List α) : decide (0 ≤ idxOf p xs) = xs.any p := by
  unfold idxOf
  cases h : xs.findIdx? p with
  | none =>
    rw [List.findIdx?_eq_none_iff] at h
    have : xs.any p = false := by rw [List.any_eq_false]; intro x hx; simp [h x hx]
    simp [this]
  | some i =>
    rw [List.findIdx?_eq_some_iff_getElem] at h
    obtain ⟨hi, hp, _⟩ := h
    have : xs.any p = true := List.any_eq_true.2 ⟨_, List.getElem_mem hi, hp⟩
    simp [this]
theorem IndexFuncTrm_ok (B : Base) (hB : B.ok) (l : Sl Trm) (hl : l.Is 2 Trm.enc B.h) (f : FuncId) (ent : Enters Tryz.prog f) (fs cs : List Value) (p : Trm → Bool) (hp : PredFn Tryz.prog f fs cs B.h Trm.val l.xs p) :
    Fn Tryz.prog 193 [l.val, .func (.func f) fs.toArray cs.toArray] B (fun v _ => v = .int .i64 (idxOf p l.xs)) := by
  refine Fn.of Tryz.func193 rfl Tryz.ntmps193 (by kernel_rfl) (by simp) ?_
  intro e
  have I := Inv.start hB
  refine WP.seq ?_
  refine WP.region ?_
  refine Ops.y (v := .int .i64 _) (Y.assign rfl) ?_
  refine Ops.nil ?_
  refine WP.seq ?_
  refine WP.seq ?_
  refine WP.region ?_
  refine Ops.y (v := .slice _ _ _) (Y.move rfl) ?_
  refine Ops.y (v := .int .i64 _) (Y.lens Tryz.underlying63 rfl) ?_
  refine Ops.y (v := .int .i64 _) (Y.move rfl) ?_
  refine Ops.nil ?_
  refine WP.block ?_
  refine WP.loopE (σ := Nat) (fun k => [(0, l.val), (1, .func (.func f) fs.toArray cs.toArray), (7, .int .i64 l.xs.length), (8, .int .i64 k)]) (fun k w => Inv B B.h [] w ∧ k ≤ l.xs.length ∧ ∀ j (hj : j < k) (hj' : j < l.xs.length), p l.xs[j] = false) (fun k => l.xs.length - k)
    ⟨0, ⟨rfl, rfl, rfl, rfl, trivial⟩, I, Nat.zero_le _, fun j hj => (by omega)⟩ ?_
  rintro k e w ⟨I, hk, hn⟩
  have hsm := hl.small
  refine WP.seq ?_
  refine WP.region ?_
  refine Ops.y (v := .bool (decide _)) (Y.lti rfl rfl) ?_
  refine Ops.nil ?_
  refine WP.seq ?_
  refine WP.cond_dec rfl (fun h => ?_) (fun h => ?_)
  · have hk' : k < l.xs.length := by omega
    have E1 := hl.at hk'
    refine WP.skip ?_
    refine WP.seq ?_
    refine WP.block ?_
    refine WP.seq ?_
    refine WP.region ?_
    refine Ops.y (v := .int .i64 _) (Y.move rfl) ?_
    refine Ops.y (v := .int .i64 _) (Y.assign rfl) ?_
    refine Ops.nil ?_
    refine WP.seq ?_
    refine WP.region ?_
    refine Ops.y (v := .func _ _ _) (Y.move rfl) ?_
    refine Ops.y (v := .slice _ _ _) (Y.move rfl) ?_
    refine Ops.y (v := .int .i64 _) (Y.move rfl) ?_
    refine Ops.y (v := .pointer (some ⟨_, _, none⟩)) (Y.idxEl E1 Tryz.underlying63 Tryz.sizeOf91 rfl rfl (Int.natCast_nonneg _) rfl) ?_
    refine Ops.y (v := .agg #[_, _]) (Y.loadv ty_91 rfl (I.rd (E1.rd.part 0 2)) rfl rfl) ?_
    refine Ops.go (O.callcv I ent rfl (hp ⟨w, B.h⟩ I.base_ok (Heap.le.refl _) l.xs[k] (List.getElem_mem hk')) rfl ?_)
    intro w I
    refine Ops.nil ?_
    refine WP.cond rfl (fun hb => ?_) (fun hb => ?_)
    · refine WP.seq ?_
      refine WP.region ?_
      refine Ops.y (v := .int .i64 _) (Y.move rfl) ?_
      refine Ops.y (v := .int .i64 _) (Y.assign rfl) ?_
      refine Ops.nil ?_
      refine WP.ret ?_
      repeat (first | refine thenE_ret ?_ | refine blockE_ret ?_)
      exact retQ.mk (vs := [.int .i64 _]) rfl ⟨rfl, trivial⟩ I.ext_of (by simp only [tup]; rw [idxOf_some hk' (fun j hj => hn j hj (by omega)) hb])
    refine WP.skip ?_
    refine WP.region ?_
    refine Ops.y (v := .int .i64 _) (Y.addi rfl rfl ⟨by omega, by omega⟩) ?_
    refine Ops.y (v := .int .i64 _) (Y.move rfl) ?_
    refine Ops.nil ?_
    exact ⟨k + 1, ⟨⟨rfl, rfl, rfl, rfl, trivial⟩, I, by omega, fun j hj hj' => by
      rcases Nat.lt_succ_iff_lt_or_eq.1 hj with h' | h'
      · exact hn j h' hj'
      · subst h'; exact hb⟩, by omega⟩
  refine WP.exit ?_
  refine WP.seq ?_
  refine WP.region ?_
  refine Ops.y (v := .int .i64 _) (Y.assign rfl) ?_
  refine Ops.nil ?_
  refine WP.ret ?_
  repeat (first | refine thenE_ret ?_ | refine blockE_ret ?_)
  exact retQ.mk (vs := [.int .i64 _]) rfl ⟨rfl, trivial⟩ I.ext_of (by simp only [tup]; rw [idxOf_none]; intro x hx; obtain ⟨j, hj, rfl⟩ := List.getElem_of_mem hx; exact hn j (by omega) hj)
theorem ContainsFuncTrm_ok (B : Base) (hB : B.ok) (l : Sl Trm) (hl : l.Is 2 Trm.enc B.h) (f : FuncId) (ent : Enters Tryz.prog f) (fs cs : List Value) (p : Trm → Bool) (hp : PredFn Tryz.prog f fs cs B.h Trm.val l.xs p) :
    Fn Tryz.prog 181 [l.val, .func (.func f) fs.toArray cs.toArray] B (fun v _ => v = .bool (l.xs.any p)) := by
  refine Fn.of Tryz.func181 rfl Tryz.ntmps181 (by kernel_rfl) (by simp) ?_
  intro e
  have I := Inv.start hB
  refine WP.seq ?_
  refine WP.region ?_
  refine Ops.y (v := .bool _) (Y.assign rfl) ?_
  refine Ops.nil ?_
  refine WP.seq ?_
  refine WP.region ?_
  refine Ops.y (v := .slice _ _ _) (Y.move rfl) ?_
  refine Ops.y (v := .func _ _ _) (Y.move rfl) ?_
  refine Ops.go (O.callv I Tryz.call193 (IndexFuncTrm_ok _ I.base_ok l hl f ent fs cs p hp) rfl ?_)
  intro w I
  refine Ops.y (v := .bool (decide _)) (Y.gei rfl rfl) ?_
  refine Ops.y (v := .bool _) (Y.assign rfl) ?_
  refine Ops.nil ?_
  refine WP.ret ?_
  repeat (first | refine thenE_ret ?_ | refine blockE_ret ?_)
  exact retQ.mk (vs := [.bool _]) rfl ⟨rfl, trivial⟩ I.ext_of (by simp only [tup]; rw [idxOf_any])
theorem IndexFuncPrd_ok (B : Base) (hB : B.ok) (l : Sl Prd) (hl : l.Is 3 Prd.enc B.h) (f : FuncId) (ent : Enters Tryz.prog f) (fs cs : List Value) (p : Prd → Bool) (hp : PredFn Tryz.prog f fs cs B.h Prd.val l.xs p) :
    Fn Tryz.prog 155 [l.val, .func (.func f) fs.toArray cs.toArray] B (fun v _ => v = .int .i64 (idxOf p l.xs)) := by
  refine Fn.of Tryz.func155 rfl Tryz.ntmps155 (by kernel_rfl) (by simp) ?_
  intro e
  have I := Inv.start hB
  refine WP.seq ?_
  refine WP.region ?_
  refine Ops.y (v := .int .i64 _) (Y.assign rfl) ?_
  refine Ops.nil ?_
  refine WP.seq ?_
  refine WP.seq ?_
  refine WP.region ?_
  refine Ops.y (v := .slice _ _ _) (Y.move rfl) ?_
  refine Ops.y (v := .int .i64 _) (Y.lens Tryz.underlying22 rfl) ?_
  refine Ops.y (v := .int .i64 _) (Y.move rfl) ?_
  refine Ops.nil ?_
  refine WP.block ?_
  refine WP.loopE (σ := Nat) (fun k => [(0, l.val), (1, .func (.func f) fs.toArray cs.toArray), (7, .int .i64 l.xs.length), (8, .int .i64 k)]) (fun k w => Inv B B.h [] w ∧ k ≤ l.xs.length ∧ ∀ j (hj : j < k) (hj' : j < l.xs.length), p l.xs[j] = false) (fun k => l.xs.length - k)
    ⟨0, ⟨rfl, rfl, rfl, rfl, trivial⟩, I, Nat.zero_le _, fun j hj => (by omega)⟩ ?_
  rintro k e w ⟨I, hk, hn⟩
  have hsm := hl.small
  refine WP.seq ?_
  refine WP.region ?_
  refine Ops.y (v := .bool (decide _)) (Y.lti rfl rfl) ?_
  refine Ops.nil ?_
  refine WP.seq ?_
  refine WP.cond_dec rfl (fun h => ?_) (fun h => ?_)
  · have hk' : k < l.xs.length := by omega
    have E1 := hl.at hk'
    refine WP.skip ?_
    refine WP.seq ?_
    refine WP.block ?_
    refine WP.seq ?_
    refine WP.region ?_
    refine Ops.y (v := .int .i64 _) (Y.move rfl) ?_
    refine Ops.y (v := .int .i64 _) (Y.assign rfl) ?_
    refine Ops.nil ?_
    refine WP.seq ?_
    refine WP.region ?_
    refine Ops.y (v := .func _ _ _) (Y.move rfl) ?_
    refine Ops.y (v := .slice _ _ _) (Y.move rfl) ?_
    refine Ops.y (v := .int .i64 _) (Y.move rfl) ?_
    refine Ops.y (v := .pointer (some ⟨_, _, none⟩)) (Y.idxEl E1 Tryz.underlying22 Tryz.sizeOf62 rfl rfl (Int.natCast_nonneg _) rfl) ?_
    refine Ops.y (v := .agg #[_, _, _]) (Y.loadv ty_62 rfl (I.rd (E1.rd.part 0 3)) rfl rfl) ?_
    refine Ops.go (O.callcv I ent rfl (hp ⟨w, B.h⟩ I.base_ok (Heap.le.refl _) l.xs[k] (List.getElem_mem hk')) rfl ?_)
    intro w I
    refine Ops.nil ?_
    refine WP.cond rfl (fun hb => ?_) (fun hb => ?_)
    · refine WP.seq ?_
      refine WP.region ?_
      refine Ops.y (v := .int .i64 _) (Y.move rfl) ?_
      refine Ops.y (v := .int .i64 _) (Y.assign rfl) ?_
      refine Ops.nil ?_
      refine WP.ret ?_
      repeat (first | refine thenE_ret ?_ | refine blockE_ret ?_)
      exact retQ.mk (vs := [.int .i64 _]) rfl ⟨rfl, trivial⟩ I.ext_of (by simp only [tup]; rw [idxOf_some hk' (fun j hj => hn j hj (by omega)) hb])
    refine WP.skip ?_
    refine WP.region ?_
    refine Ops.y (v := .int .i64 _) (Y.addi rfl rfl ⟨by omega, by omega⟩) ?_
    refine Ops.y (v := .int .i64 _) (Y.move rfl) ?_
    refine Ops.nil ?_
    exact ⟨k + 1, ⟨⟨rfl, rfl, rfl, rfl, trivial⟩, I, by omega, fun j hj hj' => by
      rcases Nat.lt_succ_iff_lt_or_eq.1 hj with h' | h'
      · exact hn j h' hj'
      · subst h'; exact hb⟩, by omega⟩
  refine WP.exit ?_
  refine WP.seq ?_
  refine WP.region ?_
  refine Ops.y (v := .int .i64 _) (Y.assign rfl) ?_
  refine Ops.nil ?_
  refine WP.ret ?_
  repeat (first | refine thenE_ret ?_ | refine blockE_ret ?_)
  exact retQ.mk (vs := [.int .i64 _]) rfl ⟨rfl, trivial⟩ I.ext_of (by simp only [tup]; rw [idxOf_none]; intro x hx; obtain ⟨j, hj, rfl⟩ := List.getElem_of_mem hx; exact hn j (by omega) hj)
theorem ContainsFuncPrd_ok (B : Base) (hB : B.ok) (l : Sl Prd) (hl : l.Is 3 Prd.enc B.h) (f : FuncId) (ent : Enters Tryz.prog f) (fs cs : List Value) (p : Prd → Bool) (hp : PredFn Tryz.prog f fs cs B.h Prd.val l.xs p) :
    Fn Tryz.prog 104 [l.val, .func (.func f) fs.toArray cs.toArray] B (fun v _ => v = .bool (l.xs.any p)) := by
  refine Fn.of Tryz.func104 rfl Tryz.ntmps104 (by kernel_rfl) (by simp) ?_
  intro e
  have I := Inv.start hB
  refine WP.seq ?_
  refine WP.region ?_
  refine Ops.y (v := .bool _) (Y.assign rfl) ?_
  refine Ops.nil ?_
  refine WP.seq ?_
  refine WP.region ?_
  refine Ops.y (v := .slice _ _ _) (Y.move rfl) ?_
  refine Ops.y (v := .func _ _ _) (Y.move rfl) ?_
  refine Ops.go (O.callv I Tryz.call155 (IndexFuncPrd_ok _ I.base_ok l hl f ent fs cs p hp) rfl ?_)
  intro w I
  refine Ops.y (v := .bool (decide _)) (Y.gei rfl rfl) ?_
  refine Ops.y (v := .bool _) (Y.assign rfl) ?_
  refine Ops.nil ?_
  refine WP.ret ?_
  repeat (first | refine thenE_ret ?_ | refine blockE_ret ?_)
  exact retQ.mk (vs := [.bool _]) rfl ⟨rfl, trivial⟩ I.ext_of (by simp only [tup]; rw [idxOf_any])
theorem IndexFuncFct_ok (B : Base) (hB : B.ok) (l : Sl Fct) (hl : l.Is 4 Fct.enc B.h) (f : FuncId) (ent : Enters Tryz.prog f) (fs cs : List Value) (p : Fct → Bool) (hp : PredFn Tryz.prog f fs cs B.h Fct.val l.xs p) :
    Fn Tryz.prog 138 [l.val, .func (.func f) fs.toArray cs.toArray] B (fun v _ => v = .int .i64 (idxOf p l.xs)) := by
  refine Fn.of Tryz.func138 rfl Tryz.ntmps138 (by kernel_rfl) (by simp) ?_
  intro e
  have I := Inv.start hB
  refine WP.seq ?_
  refine WP.region ?_
  refine Ops.y (v := .int .i64 _) (Y.assign rfl) ?_
  refine Ops.nil ?_
  refine WP.seq ?_
  refine WP.seq ?_
  refine WP.region ?_
  refine Ops.y (v := .slice _ _ _) (Y.move rfl) ?_
  refine Ops.y (v := .int .i64 _) (Y.lens Tryz.underlying26 rfl) ?_
  refine Ops.y (v := .int .i64 _) (Y.move rfl) ?_
  refine Ops.nil ?_
  refine WP.block ?_
  refine WP.loopE (σ := Nat) (fun k => [(0, l.val), (1, .func (.func f) fs.toArray cs.toArray), (7, .int .i64 l.xs.length), (8, .int .i64 k)]) (fun k w => Inv B B.h [] w ∧ k ≤ l.xs.length ∧ ∀ j (hj : j < k) (hj' : j < l.xs.length), p l.xs[j] = false) (fun k => l.xs.length - k)
    ⟨0, ⟨rfl, rfl, rfl, rfl, trivial⟩, I, Nat.zero_le _, fun j hj => (by omega)⟩ ?_
  rintro k e w ⟨I, hk, hn⟩
  have hsm := hl.small
  refine WP.seq ?_
  refine WP.region ?_
  refine Ops.y (v := .bool (decide _)) (Y.lti rfl rfl) ?_
  refine Ops.nil ?_
  refine WP.seq ?_
  refine WP.cond_dec rfl (fun h => ?_) (fun h => ?_)
  · have hk' : k < l.xs.length := by omega
    have E1 := hl.at hk'
    refine WP.skip ?_
    refine WP.seq ?_
    refine WP.block ?_
    refine WP.seq ?_
    refine WP.region ?_
    refine Ops.y (v := .int .i64 _) (Y.move rfl) ?_
    refine Ops.y (v := .int .i64 _) (Y.assign rfl) ?_
    refine Ops.nil ?_
    refine WP.seq ?_
    refine WP.region ?_
    refine Ops.y (v := .func _ _ _) (Y.move rfl) ?_
    refine Ops.y (v := .slice _ _ _) (Y.move rfl) ?_
    refine Ops.y (v := .int .i64 _) (Y.move rfl) ?_
    refine Ops.y (v := .pointer (some ⟨_, _, none⟩)) (Y.idxEl E1 Tryz.underlying26 Tryz.sizeOf52 rfl rfl (Int.natCast_nonneg _) rfl) ?_
    refine Ops.y (v := .agg #[_, _, _, _]) (Y.loadv ty_52 rfl (I.rd (E1.rd.part 0 4)) rfl rfl) ?_
    refine Ops.go (O.callcv I ent rfl (hp ⟨w, B.h⟩ I.base_ok (Heap.le.refl _) l.xs[k] (List.getElem_mem hk')) rfl ?_)
    intro w I
    refine Ops.nil ?_
    refine WP.cond rfl (fun hb => ?_) (fun hb => ?_)
    · refine WP.seq ?_
      refine WP.region ?_
      refine Ops.y (v := .int .i64 _) (Y.move rfl) ?_
      refine Ops.y (v := .int .i64 _) (Y.assign rfl) ?_
      refine Ops.nil ?_
      refine WP.ret ?_
      repeat (first | refine thenE_ret ?_ | refine blockE_ret ?_)
      exact retQ.mk (vs := [.int .i64 _]) rfl ⟨rfl, trivial⟩ I.ext_of (by simp only [tup]; rw [idxOf_some hk' (fun j hj => hn j hj (by omega)) hb])
    refine WP.skip ?_
    refine WP.region ?_
    refine Ops.y (v := .int .i64 _) (Y.addi rfl rfl ⟨by omega, by omega⟩) ?_
    refine Ops.y (v := .int .i64 _) (Y.move rfl) ?_
    refine Ops.nil ?_
    exact ⟨k + 1, ⟨⟨rfl, rfl, rfl, rfl, trivial⟩, I, by omega, fun j hj hj' => by
      rcases Nat.lt_succ_iff_lt_or_eq.1 hj with h' | h'
      · exact hn j h' hj'
      · subst h'; exact hb⟩, by omega⟩
  refine WP.exit ?_
  refine WP.seq ?_
  refine WP.region ?_
  refine Ops.y (v := .int .i64 _) (Y.assign rfl) ?_
  refine Ops.nil ?_
  refine WP.ret ?_
  repeat (first | refine thenE_ret ?_ | refine blockE_ret ?_)
  exact retQ.mk (vs := [.int .i64 _]) rfl ⟨rfl, trivial⟩ I.ext_of (by simp only [tup]; rw [idxOf_none]; intro x hx; obtain ⟨j, hj, rfl⟩ := List.getElem_of_mem hx; exact hn j (by omega) hj)
theorem ContainsFuncFct_ok (B : Base) (hB : B.ok) (l : Sl Fct) (hl : l.Is 4 Fct.enc B.h) (f : FuncId) (ent : Enters Tryz.prog f) (fs cs : List Value) (p : Fct → Bool) (hp : PredFn Tryz.prog f fs cs B.h Fct.val l.xs p) :
    Fn Tryz.prog 153 [l.val, .func (.func f) fs.toArray cs.toArray] B (fun v _ => v = .bool (l.xs.any p)) := by
  refine Fn.of Tryz.func153 rfl Tryz.ntmps153 (by kernel_rfl) (by simp) ?_
  intro e
  have I := Inv.start hB
  refine WP.seq ?_
  refine WP.region ?_
  refine Ops.y (v := .bool _) (Y.assign rfl) ?_
  refine Ops.nil ?_
  refine WP.seq ?_
  refine WP.region ?_
  refine Ops.y (v := .slice _ _ _) (Y.move rfl) ?_
  refine Ops.y (v := .func _ _ _) (Y.move rfl) ?_
  refine Ops.go (O.callv I Tryz.call138 (IndexFuncFct_ok _ I.base_ok l hl f ent fs cs p hp) rfl ?_)
  intro w I
  refine Ops.y (v := .bool (decide _)) (Y.gei rfl rfl) ?_
  refine Ops.y (v := .bool _) (Y.assign rfl) ?_
  refine Ops.nil ?_
  refine WP.ret ?_
  repeat (first | refine thenE_ret ?_ | refine blockE_ret ?_)
  exact retQ.mk (vs := [.bool _]) rfl ⟨rfl, trivial⟩ I.ext_of (by simp only [tup]; rw [idxOf_any])
end Go.TF
end
