/- What values' functions compute: plain. -/
import Derived.Test.YtenigglapeajdaaBase5
namespace Go.TF
open Go

def within (n lo hi : Int) : Prop := lo ≤ n ∧ n ≤ hi
instance (n lo hi : Int) : Decidable (within n lo hi) := inferInstanceAs (Decidable (_ ∧ _))
def checkVal (kind v : Int) : Int := if kind < 0 ∨ 3 < kind then 4 else if (kind = 0 ∧ v ≠ 0) ∨ v < 0 ∨ 15 < v then 3 else 0
def joinV (kind a b : Int) : Int := if kind = 1 then max a b else if kind = 2 then min a b else if kind = 3 then orI a b else 0
def liftV (kind v n : Int) : Int := if kind = 0 then 0 else if kind = 3 then orI v n else min (v + n) 15
def bothV (kind a b : Int) : Int := if checkVal kind a ≠ 0 then checkVal kind a else checkVal kind b
theorem bothV_ok {kind a b : Int} (h : bothV kind a b = 0) : 0 ≤ kind ∧ kind ≤ 3 ∧ 0 ≤ a ∧ a ≤ 15 ∧ 0 ≤ b ∧ b ≤ 15 ∧ (kind = 0 → a = 0 ∧ b = 0) := by
  unfold bothV checkVal at h
  (repeat' split at h) <;> omega
def joinOf (kind a b : Int) : Int × Int := if bothV kind a b ≠ 0 then (0, bothV kind a b) else (joinV kind a b, 0)
def liftOf (kind a b : Int) : Int × Int := if bothV kind a b ≠ 0 then (0, bothV kind a b) else (liftV kind a b, 0)
def leqOf (kind a b : Int) : Bool × Int := if bothV kind a b ≠ 0 then (false, bothV kind a b) else (decide (joinV kind a b = b), 0)
def vIE (x : Int × Int) : Value := .tuple #[.int .i64 x.1, .int .i64 x.2]
def vBE (x : Bool × Int) : Value := .tuple #[.bool x.1, .int .i64 x.2]
end Go.TF
