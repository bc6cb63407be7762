/- Predicates, terms, atoms, literals, rules, programs as they lie; what package rule computes: plain. -/
import Derived.Test.YtenigglapeajdaaBase9
import Derived.Test.YtenigglapeajdaaSpLat2
namespace Go.TF
open Go

structure Prd where
  name : ByteArray
  arity : Int
  kind : Int
structure Trm where
  var : Bool
  n : Int
structure Atm where
  pred : Int
  args : Sl Trm
structure Ltl where
  neg : Bool
  atom : Atm
structure Rul where
  head : Atm
  src : Int
  n : Int
  body : Sl Ltl
structure Prg where
  preds : Sl Prd
  rules : Sl Rul
@[reducible] def Prd.enc (x : Prd) : List Value := [.string x.name, .int .i64 x.arity, .int .i64 x.kind]
@[reducible] def Trm.enc (x : Trm) : List Value := [.bool x.var, .int .i64 x.n]
@[reducible] def Atm.enc (x : Atm) : List Value := [.int .i64 x.pred, x.args.val]
@[reducible] def Ltl.enc (x : Ltl) : List Value := [.bool x.neg, .int .i64 x.atom.pred, x.atom.args.val]
@[reducible] def Rul.enc (x : Rul) : List Value := [.int .i64 x.head.pred, x.head.args.val, .int .i64 x.src, .int .i64 x.n, x.body.val]
@[reducible] def Prg.enc (x : Prg) : List Value := [x.preds.val, x.rules.val]
@[reducible] def Prd.val (x : Prd) : Value := .agg #[.string x.name, .int .i64 x.arity, .int .i64 x.kind]
@[reducible] def Trm.val (x : Trm) : Value := .agg #[.bool x.var, .int .i64 x.n]
@[reducible] def Atm.val (x : Atm) : Value := .agg #[.int .i64 x.pred, x.args.val]
@[reducible] def Ltl.val (x : Ltl) : Value := .agg #[.bool x.neg, .int .i64 x.atom.pred, x.atom.args.val]
@[reducible] def Rul.val (x : Rul) : Value := .agg #[.int .i64 x.head.pred, x.head.args.val, .int .i64 x.src, .int .i64 x.n, x.body.val]
@[reducible] def Prg.val (x : Prg) : Value := .agg #[x.preds.val, x.rules.val]

/-- A slice whose elements are known for good, and not too many. -/
structure Sl.Is {α : Type} (s : Sl α) (k : Nat) (enc : α → List Value) (h : Heap) : Prop where
  el : s.In k enc h
  small : s.xs.length ≤ 140737488355328
theorem Sl.Is.le {α : Type} {s : Sl α} {k : Nat} {enc : α → List Value} {h h' : Heap} (hs : s.Is k enc h) (hl : h.le h') : s.Is k enc h' := ⟨hs.el.le hl, hs.small⟩
theorem Sl.Is.at {α : Type} {s : Sl α} {k : Nat} {enc : α → List Value} {h : Heap} (hs : s.Is k enc h) {i : Nat} (hi : i < s.xs.length) : El s k enc h i s.xs[i] := hs.el.el (List.getElem?_eq_getElem hi)
abbrev Prds (l : Sl Prd) (h : Heap) : Prop := l.Is 3 Prd.enc h
abbrev Trms (l : Sl Trm) (h : Heap) : Prop := l.Is 2 Trm.enc h
def Atm.In (a : Atm) (h : Heap) : Prop := Trms a.args h
def Ltl.In (x : Ltl) (h : Heap) : Prop := x.atom.In h
structure Ltls (l : Sl Ltl) (h : Heap) : Prop where
  is : l.Is 3 Ltl.enc h
  each : ∀ x ∈ l.xs, x.In h
structure Rul.In (r : Rul) (h : Heap) : Prop where
  head : r.head.In h
  body : Ltls r.body h
structure Ruls (l : Sl Rul) (h : Heap) : Prop where
  is : l.Is 5 Rul.enc h
  each : ∀ x ∈ l.xs, x.In h
structure Prg.In (p : Prg) (h : Heap) : Prop where
  preds : Prds p.preds h
  rules : Ruls p.rules h
theorem Atm.In.le {a : Atm} {h h' : Heap} (ha : a.In h) (hl : h.le h') : a.In h' := Sl.Is.le ha hl
theorem Ltl.In.le {x : Ltl} {h h' : Heap} (hx : x.In h) (hl : h.le h') : x.In h' := Atm.In.le hx hl
theorem Ltls.le {l : Sl Ltl} {h h' : Heap} (x : Ltls l h) (hl : h.le h') : Ltls l h' := ⟨x.is.le hl, fun y hy => (x.each y hy).le hl⟩
theorem Rul.In.le {r : Rul} {h h' : Heap} (x : r.In h) (hl : h.le h') : r.In h' := ⟨x.head.le hl, x.body.le hl⟩
theorem Ruls.le {l : Sl Rul} {h h' : Heap} (x : Ruls l h) (hl : h.le h') : Ruls l h' := ⟨x.is.le hl, fun y hy => (x.each y hy).le hl⟩
theorem Prg.In.le {p : Prg} {h h' : Heap} (x : p.In h) (hl : h.le h') : p.In h' := ⟨x.preds.le hl, x.rules.le hl⟩

/-! ### What is computed -/
def termOk (t : Trm) : Bool := if t.var then decide (0 ≤ t.n ∧ t.n < 3) else decide (0 ≤ t.n ∧ t.n ≤ 4)
theorem termOk_iff (t : Trm) : termOk t = true ↔ within t.n 0 (if t.var = true then 2 else 4) := by
  unfold termOk within; split <;> simp_all <;> omega
def argsErr (l : List Trm) : Int := if l.all termOk then 0 else 3
instance : Inhabited Prd := ⟨⟨ByteArray.empty, 0, 0⟩⟩
instance : Inhabited Trm := ⟨⟨false, 0⟩⟩
instance {α : Type} : Inhabited (Sl α) := ⟨⟨none, 0, []⟩⟩
instance : Inhabited Atm := ⟨⟨0, default⟩⟩
instance : Inhabited Ltl := ⟨⟨false, default⟩⟩
instance : Inhabited Rul := ⟨⟨default, 0, 0, default⟩⟩
def predOf (l : List Prd) (p : Int) : Prd := l.getD p.toNat default
def checkAtom (l : List Prd) (a : Atm) : Int :=
  if a.pred < 0 ∨ (l.length : Int) ≤ a.pred then 7 else if (a.args.xs.length : Int) ≠ (predOf l a.pred).arity then 1 else argsErr a.args.xs
def standsIn (a : Atm) (v : Int) : Bool := a.args.xs.any fun t => t.var && decide (t.n = v)
def boundIn (r : Rul) (v : Int) : Bool := r.body.xs.any fun x => !x.neg && standsIn x.atom v
def bodyErr (l : List Prd) : List Ltl → Int
  | [] => 0
  | x :: r => if checkAtom l x.atom ≠ 0 then checkAtom l x.atom else bodyErr l r
def freeVar (r : Rul) (v : Int) : Bool := (standsIn r.head v || r.body.xs.any fun x => standsIn x.atom v) && !boundIn r v
def litOf (r : Rul) (k : Int) : Ltl := r.body.xs.getD k.toNat default
def checkRule (l : List Prd) (r : Rul) : Int :=
  if checkAtom l r.head ≠ 0 then checkAtom l r.head
  else if 3 < r.body.xs.length then 2
  else if bodyErr l r.body.xs ≠ 0 then bodyErr l r.body.xs
  else if freeVar r 0 || freeVar r 1 || freeVar r 2 then 9
  else if r.src < -1 ∨ (r.body.xs.length : Int) ≤ r.src then 3
  else if (predOf l r.head.pred).kind = 0 ∧ (r.src ≠ -1 ∨ r.n ≠ 0) then 1
  else if 0 ≤ r.src ∧ ((litOf r r.src).neg = true ∨ (predOf l (litOf r r.src).atom.pred).kind ≠ (predOf l r.head.pred).kind) then 1
  else if r.n < 0 ∨ 15 < r.n then 3
  else 0
theorem predOf_get {l : List Prd} {p : Int} (h0 : 0 ≤ p) (h1 : p < l.length) : l[p.toNat]? = some (predOf l p) := by
  have : p.toNat < l.length := by omega
  simp [predOf, List.getD_eq_getElem?_getD, this]
end Go.TF
