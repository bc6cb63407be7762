/- Facts, what variables stand for, what an atom grounded is: plain. -/
import Derived.Test.YtenigglapeajdaaSpRule2
namespace Go.TF
open Go

structure Fct where
  pred : Int
  a : Int
  b : Int
  v : Int
deriving DecidableEq
@[reducible] def Fct.enc (x : Fct) : List Value := [.int .i64 x.pred, .int .i64 x.a, .int .i64 x.b, .int .i64 x.v]
@[reducible] def Fct.val (x : Fct) : Value := .agg #[.int .i64 x.pred, .int .i64 x.a, .int .i64 x.b, .int .i64 x.v]
structure Vrs where
  x0 : Int
  x1 : Int
  x2 : Int
deriving DecidableEq
@[reducible] def Vrs.enc (x : Vrs) : List Value := [.int .i64 x.x0, .int .i64 x.x1, .int .i64 x.x2]
@[reducible] def Vrs.val (x : Vrs) : Value := .agg #[.int .i64 x.x0, .int .i64 x.x1, .int .i64 x.x2]
def Vrs.at (x : Vrs) (i : Int) : Int := if i = 0 then x.x0 else if i = 1 then x.x1 else x.x2
structure Stp where
  rule : Int
  vars : Vrs
deriving DecidableEq
@[reducible] def Stp.enc (x : Stp) : List Value := [.int .i64 x.rule, .int .i64 x.vars.x0, .int .i64 x.vars.x1, .int .i64 x.vars.x2]
@[reducible] def Stp.val (x : Stp) : Value := .agg #[.int .i64 x.rule, .int .i64 x.vars.x0, .int .i64 x.vars.x1, .int .i64 x.vars.x2]
instance : Inhabited Fct := ⟨⟨0, 0, 0, 0⟩⟩
instance : Inhabited Vrs := ⟨⟨0, 0, 0⟩⟩
instance : Inhabited Stp := ⟨⟨0, default⟩⟩
abbrev Fcts (l : Sl Fct) (h : Heap) : Prop := l.Is 4 Fct.enc h
abbrev Stps (l : Sl Stp) (h : Heap) : Prop := l.Is 4 Stp.enc h
theorem Rd.one {w : World} {b o : Nat} {cs : List Value} (hr : Rd w b o cs) {i : Nat} {x : Value} (hx : cs[i]? = some x) : Rd w b (o + i) [x] := fun j v e => by
  cases j with
  | zero => simp at e; subst e; exact hr i x hx
  | succ j => simp at e
theorem Rd.vrs {w : World} {b : Nat} {x : Vrs} (hr : Rd w b 0 x.enc) {i : Int} (h0 : 0 ≤ i) (h1 : i < 3) : Rd w b (0 + i.toNat * 1) [.int .i64 (x.at i)] := by
  rw [Nat.mul_one]
  refine hr.one ?_
  have : i = 0 ∨ i = 1 ∨ i = 2 := by omega
  rcases this with rfl | rfl | rfl <;> rfl
def tv (t : Trm) (x : Vrs) : Int := if t.var then x.at t.n else t.n
def argv (a : Atm) (x : Vrs) (i : Nat) : Int := match a.args.xs[i]? with | none => 0 | some t => tv t x
theorem argv_get {a : Atm} {x : Vrs} {i : Nat} (hi : i < a.args.xs.length) : argv a x i = tv a.args.xs[i] x := by simp [argv, hi]
theorem argv_none {a : Atm} {x : Vrs} {i : Nat} (hi : a.args.xs.length ≤ i) : argv a x i = 0 := by simp [argv, hi]
def groundF (a : Atm) (x : Vrs) : Fct := ⟨a.pred, argv a x 0, argv a x 1, 0⟩
def grBad (a : Atm) (x : Vrs) : Bool := a.args.xs.any fun t => t.var && !decide (within (x.at t.n) 0 4)
def groundOf (a : Atm) (x : Vrs) : Fct × Int :=
  if 2 < a.args.xs.length then (default, 1) else if argsErr a.args.xs ≠ 0 then (default, argsErr a.args.xs) else if grBad a x then (default, 3) else (groundF a x, 0)
theorem argsErr_iff {l : List Trm} : argsErr l = 0 ↔ ∀ t ∈ l, termOk t = true := by
  unfold argsErr
  rw [← List.all_eq_true]
  split <;> simp_all
theorem argsErr_var {l : List Trm} (h : argsErr l = 0) {t : Trm} (ht : t ∈ l) (hv : t.var = true) : 0 ≤ t.n ∧ t.n < 3 := by
  have := argsErr_iff.1 h t ht
  unfold termOk at this
  rw [if_pos hv] at this
  simpa using this
theorem argsErr_con {l : List Trm} (h : argsErr l = 0) {t : Trm} (ht : t ∈ l) (hv : t.var = false) : 0 ≤ t.n ∧ t.n ≤ 4 := by
  have := argsErr_iff.1 h t ht
  unfold termOk at this
  rw [hv] at this
  simpa using this
end Go.TF
