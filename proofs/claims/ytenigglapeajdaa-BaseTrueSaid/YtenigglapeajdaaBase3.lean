/- One law for each operation of the walk. -/
import Derived.Test.YtenigglapeajdaaBase2
namespace Go.TF
open Go Go.RowKit

/-! ### Types, as the program's tables tell them -/
structure Ty (P : Program) (T : TypeId) (n : Nat) (ag : Bool) : Prop where
  size : ∀ w, (sizeOf T).run P w = .ok n w
  agg : ∀ w, (isAgg T).run P w = .ok ag w
  one : ag = false → n = 1
def FA (P : Program) (T i off : Nat) : Prop := ∀ (a : Addr) w, (Instr.fieldAt T (.pointer (some a)) i).run P w = .ok (.pointer (some (a.add off))) w
def Und (P : Program) (T : TypeId) (d : TypeDesc) : Prop := P.underlying T = some d
def Zero (P : Program) (T : TypeId) (v : Value) : Prop := ∀ w, (zeroValue T).run P w = .ok v w
def Bld (P : Program) (T : TypeId) (parts : Array (Nat × Value)) (cs : Array Value) : Prop := ∀ w, (Instr.build T parts).run P w = .ok (.agg cs) w

theorem loadVar_run {P : Program} {T : TypeId} {n : Nat} {ag : Bool} (ti : Ty P T n ag) {w : World} {b o : Nat} {cs : List Value} (hr : Rd w b o cs) (hl : cs.length = n) :
    (loadVar T ⟨b, o, none⟩).run P w = .ok (ldv ag cs) w := by
  unfold loadVar
  cases ag with
  | true =>
    have := run_loadCells_list (P := P) (w := w) ⟨b, o, none⟩ cs (fun j v e => by rw [addr_add]; exact hr j v e)
    simp [ti.agg, ti.size, ← hl, this, ldv]
  | false =>
    have := ti.one rfl
    match cs, hl with
    | [c], _ =>
      have hc := hr 0 c rfl
      simp only [Nat.add_zero] at hc
      simp [ti.agg, hc, ldv, load, Sem.run]
    | [], hl => simp at hl; omega
    | _ :: _ :: _, hl => simp at hl; omega

section
variable {P : Program} {e : Env} {w : World} {d : Option Nat} {t : TypeId} {pos : String} {af : Array Edge} {g : Option (Nat × Bool)}
theorem Y.move {x : Operand} {v : Value} (hx : ev e x = v) : Y P ⟨d, .move x, t, pos, af, g⟩ e w v := by simp [Y, execOp, hx, Pure.pure]
theorem Y.assign {x : Operand} {v : Value} (hx : ev e x = v) : Y P ⟨d, .assign x, t, pos, af, g⟩ e w v := by simp [Y, execOp, hx, Pure.pure]
theorem Y.pick_t {c x y : Operand} {v : Value} (hc : ev e c = .bool true) (hx : ev e x = v) : Y P ⟨d, .pick c x y, t, pos, af, g⟩ e w v := by simp [Y, execOp, hc, hx, asBool]
theorem Y.pick_f {c x y : Operand} {v : Value} (hc : ev e c = .bool false) (hx : ev e y = v) : Y P ⟨d, .pick c x y, t, pos, af, g⟩ e w v := by simp [Y, execOp, hc, hx, asBool]
theorem Y.nilp {x : Operand} {a : Addr} (hx : ev e x = .pointer (some a)) : Y P ⟨d, .nilCheck x, t, pos, af, g⟩ e w (.pointer (some a)) := by simp [Y, execOp, hx]
theorem Y.nilf {x : Operand} {f : FuncId} {a b : Array Value} (hx : ev e x = .func (.func f) a b) : Y P ⟨d, .nilCheck x, t, pos, af, g⟩ e w (.func (.func f) a b) := by simp [Y, execOp, hx]
theorem Y.not {x : Operand} {T : TypeId} {b : Bool} (hx : ev e x = .bool b) : Y P ⟨d, .unOp .not T x, t, pos, af, g⟩ e w (.bool !b) := by simp [Y, execOp, hx, Op.unary]
theorem Y.notd {x : Operand} {T : TypeId} {p : Prop} [Decidable p] (hx : ev e x = .bool (decide p)) : Y P ⟨d, .unOp .not T x, t, pos, af, g⟩ e w (.bool (decide ¬p)) := by
  simp [Y, execOp, hx, Op.unary]
theorem Y.eqi {x y : Operand} {T T' : TypeId} {k : IntKind} {a b : Int} (hx : ev e x = .int k a) (hy : ev e y = .int k b) : Y P ⟨d, .binOp .eql T x y T', t, pos, af, g⟩ e w (.bool (decide (a = b))) := by
  simp [Y, execOp, hx, hy, eqGuard, binOp, Op.intCmp, Bool.beq_eq_decide_eq]
theorem Y.nei {x y : Operand} {T T' : TypeId} {k : IntKind} {a b : Int} (hx : ev e x = .int k a) (hy : ev e y = .int k b) : Y P ⟨d, .binOp .neq T x y T', t, pos, af, g⟩ e w (.bool (decide (a ≠ b))) := by
  simp [Y, execOp, hx, hy, eqGuard, binOp, Op.intCmp]
  cases h : a != b <;> simp_all
theorem Y.lti {x y : Operand} {T T' : TypeId} {k : IntKind} {a b : Int} (hx : ev e x = .int k a) (hy : ev e y = .int k b) : Y P ⟨d, .binOp .lss T x y T', t, pos, af, g⟩ e w (.bool (decide (a < b))) := by
  simp [Y, execOp, hx, hy, eqGuard, binOp, Op.intCmp]
theorem Y.lei {x y : Operand} {T T' : TypeId} {k : IntKind} {a b : Int} (hx : ev e x = .int k a) (hy : ev e y = .int k b) : Y P ⟨d, .binOp .leq T x y T', t, pos, af, g⟩ e w (.bool (decide (a ≤ b))) := by
  simp [Y, execOp, hx, hy, eqGuard, binOp, Op.intCmp]
theorem Y.gti {x y : Operand} {T T' : TypeId} {k : IntKind} {a b : Int} (hx : ev e x = .int k a) (hy : ev e y = .int k b) : Y P ⟨d, .binOp .gtr T x y T', t, pos, af, g⟩ e w (.bool (decide (b < a))) := by
  simp [Y, execOp, hx, hy, eqGuard, binOp, Op.intCmp]
theorem Y.gei {x y : Operand} {T T' : TypeId} {k : IntKind} {a b : Int} (hx : ev e x = .int k a) (hy : ev e y = .int k b) : Y P ⟨d, .binOp .geq T x y T', t, pos, af, g⟩ e w (.bool (decide (b ≤ a))) := by
  simp [Y, execOp, hx, hy, eqGuard, binOp, Op.intCmp]
/-- An int that is one. -/
abbrev I64 (a : Int) : Prop := -9223372036854775808 ≤ a ∧ a < 9223372036854775808
theorem wrap_i64 {a : Int} (h : I64 a) : IntKind.i64.wrap a = a := by
  have h64 : IntKind.i64.bits = 64 := rfl
  have hs : IntKind.i64.signed = true := rfl
  unfold IntKind.wrap
  simp only [h64, hs, Bool.true_and, Nat.add_one_sub_one]
  obtain ⟨h1, h2⟩ := h
  simp only [show (2 ^ 64 : Int) = 18446744073709551616 from rfl, show (2 ^ (64 - 1) : Int) = 9223372036854775808 from rfl, ge_iff_le, decide_eq_true_eq]
  split <;> omega
theorem Y.addi {x y : Operand} {T T' : TypeId} {a b : Int} (hx : ev e x = .int .i64 a) (hy : ev e y = .int .i64 b) (hr : I64 (a + b)) : Y P ⟨d, .binOp .add T x y T', t, pos, af, g⟩ e w (.int .i64 (a + b)) := by
  simp [Y, execOp, hx, hy, eqGuard, binOp, Op.intArith, wrap_i64 hr]
theorem Y.subi {x y : Operand} {T T' : TypeId} {a b : Int} (hx : ev e x = .int .i64 a) (hy : ev e y = .int .i64 b) (hr : I64 (a - b)) : Y P ⟨d, .binOp .sub T x y T', t, pos, af, g⟩ e w (.int .i64 (a - b)) := by
  simp [Y, execOp, hx, hy, eqGuard, binOp, Op.intArith, wrap_i64 hr]
theorem Y.muli {x y : Operand} {T T' : TypeId} {a b : Int} (hx : ev e x = .int .i64 a) (hy : ev e y = .int .i64 b) (hr : I64 (a * b)) : Y P ⟨d, .binOp .mul T x y T', t, pos, af, g⟩ e w (.int .i64 (a * b)) := by
  simp [Y, execOp, hx, hy, eqGuard, binOp, Op.intArith, wrap_i64 hr]
theorem Y.negi {x : Operand} {T : TypeId} {a : Int} (hx : ev e x = .int .i64 a) (hr : I64 (-a)) : Y P ⟨d, .unOp .neg T x, t, pos, af, g⟩ e w (.int .i64 (-a)) := by
  simp [Y, execOp, hx, Op.unary, Op.intArith, wrap_i64 hr]
theorem Y.remi {x y : Operand} {T T' : TypeId} {k : IntKind} {a b : Int} (hx : ev e x = .int k a) (hy : ev e y = .int k b) (hb : b ≠ 0) : Y P ⟨d, .binOp .rem T x y T', t, pos, af, g⟩ e w (.int k (a.tmod b)) := by
  simp [Y, execOp, hx, hy, eqGuard, binOp, Op.intDiv, hb]
theorem Y.quoi {x y : Operand} {T T' : TypeId} {a b : Int} (hx : ev e x = .int .i64 a) (hy : ev e y = .int .i64 b) (hb : b ≠ 0) (hr : I64 (a.tdiv b)) : Y P ⟨d, .binOp .quo T x y T', t, pos, af, g⟩ e w (.int .i64 (a.tdiv b)) := by
  simp [Y, execOp, hx, hy, eqGuard, binOp, Op.intDiv, hb, wrap_i64 hr]
/-- Bits of both. -/
def orI (a b : Int) : Int := IntKind.i64.wrap (BitVec.ofInt 64 a ||| BitVec.ofInt 64 b).toNat
theorem Y.ori {x y : Operand} {T T' : TypeId} {a b : Int} (hx : ev e x = .int .i64 a) (hy : ev e y = .int .i64 b) : Y P ⟨d, .binOp .or T x y T', t, pos, af, g⟩ e w (.int .i64 (orI a b)) := by
  simp [Y, execOp, hx, hy, eqGuard, binOp, Op.intBits, orI]; rfl
theorem Y.eqs {x y : Operand} {T T' : TypeId} {a b : ByteArray} (hx : ev e x = .string a) (hy : ev e y = .string b) : Y P ⟨d, .binOp .eql T x y T', t, pos, af, g⟩ e w (.bool (a.toList == b.toList)) := by
  simp [Y, execOp, hx, hy, eqGuard, binOp, Op.stringOp]
theorem Y.nes {x y : Operand} {T T' : TypeId} {a b : ByteArray} (hx : ev e x = .string a) (hy : ev e y = .string b) : Y P ⟨d, .binOp .neq T x y T', t, pos, af, g⟩ e w (.bool !(a.toList == b.toList)) := by
  simp [Y, execOp, hx, hy, eqGuard, binOp, Op.stringOp]
theorem Y.adds {x y : Operand} {T T' : TypeId} {a b : ByteArray} (hx : ev e x = .string a) (hy : ev e y = .string b) (hr : a.size + b.size ≤ 9223372036854775807) : Y P ⟨d, .binOp .add T x y T', t, pos, af, g⟩ e w (.string (a ++ b)) := by
  have h64 : IntKind.i64.max = 9223372036854775807 := rfl
  have : ¬ ((a.size + b.size : Nat) : Int) > 9223372036854775807 := by omega
  simp only [Y, execOp, hx, hy, eqGuard, binOp, Op.stringOp, h64, if_neg this]
  simp
theorem Y.eqb {x y : Operand} {T T' : TypeId} {a b : Bool} (hT : Und P T .bool) (hx : ev e x = .bool a) (hy : ev e y = .bool b) : Y P ⟨d, .binOp .eql T x y T', t, pos, af, g⟩ e w (.bool (decide (a = b))) := by
  have hh : (a == b) = decide (a = b) := by cases a <;> cases b <;> rfl
  simp [Y, execOp, hx, hy, eqGuard, run_eql_bool w T a b hT]
  exact hh
theorem Y.neb {x y : Operand} {T T' : TypeId} {a b : Bool} (hT : Und P T .bool) (hx : ev e x = .bool a) (hy : ev e y = .bool b) : Y P ⟨d, .binOp .neq T x y T', t, pos, af, g⟩ e w (.bool (decide (a ≠ b))) := by
  have hh : (a == b) = decide (a = b) := by cases a <;> cases b <;> rfl
  simp [Y, execOp, hx, hy, eqGuard, run_neq_bool w T a b hT]
  exact hh
theorem Y.lens {x : Operand} {T r : TypeId} {a : Option Addr} {n c : Nat} (hT : Und P T (.slice r)) (hx : ev e x = .slice a n c) :
    Y P ⟨d, .call { callee := .builtin .len, args := #[x], argTypes := #[T] }, t, pos, af, g⟩ e w (.int .i64 n) := by
  simp [Y, execOp, hx, resolve, invoke, builtin, Builtin.len_, run_underlying hT, goInt]
theorem Y.lenstr {x : Operand} {T : TypeId} {s : ByteArray} (hT : Und P T .string) (hx : ev e x = .string s) :
    Y P ⟨d, .call { callee := .builtin .len, args := #[x], argTypes := #[T] }, t, pos, af, g⟩ e w (.int .i64 s.size) := by
  simp [Y, execOp, hx, resolve, invoke, builtin, Builtin.len_, run_underlying hT, goInt]
theorem Y.max2 {x y : Operand} {T T' : TypeId} {k : IntKind} {a b : Int} (hx : ev e x = .int k a) (hy : ev e y = .int k b) :
    Y P ⟨d, .call { callee := .builtin .max, args := #[x, y], argTypes := #[T, T'] }, t, pos, af, g⟩ e w (.int k (max a b)) := by
  have : (if b > a then b else a) = max a b := by omega
  simp [Y, execOp, hx, hy, resolve, invoke, builtin, Builtin.max_, Builtin.max2, this]
theorem Y.min2 {x y : Operand} {T T' : TypeId} {k : IntKind} {a b : Int} (hx : ev e x = .int k a) (hy : ev e y = .int k b) :
    Y P ⟨d, .call { callee := .builtin .min, args := #[x, y], argTypes := #[T, T'] }, t, pos, af, g⟩ e w (.int k (min a b)) := by
  have : (if b < a then b else a) = min a b := by omega
  simp [Y, execOp, hx, hy, resolve, invoke, builtin, Builtin.min_, Builtin.min2, this]
theorem Y.extract {x : Operand} {i : Nat} {vs : List Value} {v : Value} (hx : ev e x = .tuple vs.toArray) (hv : vs[i]? = some v) : Y P ⟨d, .extract x i, t, pos, af, g⟩ e w v := by
  simp [Y, execOp, hx, Instr.extract, hv]
theorem Y.mkfunc {fn : Fn} {first captured : Array Operand} {fs cs : List Value} (hf : first.toList.map (ev e) = fs) (hc : captured.toList.map (ev e) = cs) :
    Y P ⟨d, .makeFunc fn first captured, t, pos, af, g⟩ e w (.func fn fs.toArray cs.toArray) := by
  have h1 : first.map (ev e) = fs.toArray := by rw [← hf]; apply Array.ext'; simp
  have h2 : captured.map (ev e) = cs.toArray := by rw [← hc]; apply Array.ext'; simp
  simp [Y, execOp, Instr.makeFunc, h1, h2]
theorem Y.iface {x : Operand} {T : TypeId} {dd : TypeDesc} {v : Value} (hT : Und P T dd) (hd : ∀ ms, dd ≠ .interface ms) (hx : ev e x = v) : Y P ⟨d, .makeInterface T x, t, pos, af, g⟩ e w (.iface T v) := by
  simp only [Y, execOp, hx, Instr.makeInterface]
  cases dd <;> simp_all [run_underlying hT]
theorem Y.fa {x : Operand} {T i off b o : Nat} (hT : FA P T i off) (hx : ev e x = .pointer (some ⟨b, o, none⟩)) : Y P ⟨d, .fieldAddr T x i, t, pos, af, g⟩ e w (.pointer (some ⟨b, o + off, none⟩)) := by
  simp [Y, execOp, hx, hT _ w, addr_add]
theorem Y.fa0 {x : Operand} {T i b o : Nat} (hT : FA P T i 0) (hx : ev e x = .pointer (some ⟨b, o, none⟩)) : Y P ⟨d, .fieldAddr T x i, t, pos, af, g⟩ e w (.pointer (some ⟨b, o, none⟩)) := by
  simp [Y, execOp, hx, hT _ w, addr_add]
theorem Y.load {x : Operand} {T n b o : Nat} {ag : Bool} {cs : List Value} (hT : Ty P T n ag) (hx : ev e x = .pointer (some ⟨b, o, none⟩)) (hr : Rd w b o cs) (hl : cs.length = n) :
    Y P ⟨d, .load T x, t, pos, af, g⟩ e w (ldv ag cs) := by
  simp [Y, execOp, hx, Instr.loadAt, Instr.sureAddr, loadVar_run hT hr hl]
theorem Y.idx {x ix : Operand} {T el k n c b o : Nat} {ik : IntKind} {i : Int} (hT : Und P T (.slice el)) (hk : ∀ w, (sizeOf el).run P w = .ok k w) (hx : ev e x = .slice (some ⟨b, o, none⟩) n c) (hi : ev e ix = .int ik i)
    (h0 : 0 ≤ i) (h1 : i < n) : Y P ⟨d, .indexAddr T x ix, t, pos, af, g⟩ e w (.pointer (some ⟨b, o + i.toNat * k, none⟩)) := by
  simp [Y, execOp, hx, hi, Instr.indexAt, asIntOf, run_underlying hT, hk, h0, h1, addr_add]
theorem Y.idxa {x ix : Operand} {T el k n b o : Nat} {ik : IntKind} {i : Int} (hT : Und P T (.array n el)) (hk : ∀ w, (sizeOf el).run P w = .ok k w) (hx : ev e x = .pointer (some ⟨b, o, none⟩)) (hi : ev e ix = .int ik i)
    (h0 : 0 ≤ i) (h1 : i < n) : Y P ⟨d, .indexAddr T x ix, t, pos, af, g⟩ e w (.pointer (some ⟨b, o + i.toNat * k, none⟩)) := by
  simp [Y, execOp, hx, hi, Instr.indexAt, Instr.sureAddr, asIntOf, run_underlying hT, hk, h0, h1, addr_add]
/-- A byte of a string. -/
theorem Y.idxs {x ix : Operand} {T : TypeId} {ik : IntKind} {i : Int} {s : ByteArray} {c : UInt8} (hT : Und P T .string) (hx : ev e x = .string s) (hi : ev e ix = .int ik i) (h0 : 0 ≤ i) (hc : s[i.toNat]? = some c) :
    Y P ⟨d, .index T x ix, t, pos, af, g⟩ e w (.int .u8 c.toNat) := by
  simp [Y, execOp, hx, hi, Instr.index, asIntOf, run_underlying hT, h0, hc]
/-- A component of an array that is a value. -/
theorem Y.idxv {x ix : Operand} {T el k n : Nat} {ag : Bool} {ik : IntKind} {i : Int} {cs : List Value} (hT : Und P T (.array n el)) (hk : Ty P el k ag) (hx : ev e x = .agg cs.toArray) (hi : ev e ix = .int ik i) (h0 : 0 ≤ i) (h1 : i < n)
    {part : List Value} (hp : (cs.drop (i.toNat * k)).take k = part) (hl : part.length = k) :
    Y P ⟨d, .index T x ix, t, pos, af, g⟩ e w (ldv ag part) := by
  have hpart : (Go.part el cs.toArray (i.toNat * k)).run P w = .ok (ldv ag part) w := by
    subst hp
    cases ag with
    | true =>
      simp [Go.part, hk.agg, hk.size, ldv]
    | false =>
      have := hk.one rfl
      subst this
      cases hh : cs[i.toNat]? with
      | none => simp [List.drop_eq_nil_of_le (List.getElem?_eq_none_iff.1 hh)] at hl
      | some v =>
        have : (cs.drop i.toNat).take 1 = [v] := by
          obtain ⟨h2, h3⟩ := List.getElem?_eq_some_iff.1 hh
          rw [List.drop_eq_getElem_cons h2, h3]; rfl
        simp [Go.part, hk.agg, hh, ldv, this]
  simp [Y, execOp, hx, hi, Instr.index, asIntOf, run_underlying hT, h0, h1, hk.size, hpart]
/-- A slice of a slice, or of a string. -/
theorem Y.slicestr {x : Operand} {T : TypeId} {lo hi : Option Operand} {s : ByteArray} {l h : Nat} (hT : Und P T .string) (hx : ev e x = .string s)
    (hl : lo = none ∧ l = 0 ∨ ∃ q k, lo = some q ∧ ev e q = .int k (l : Int)) (hh : hi = none ∧ h = s.size ∨ ∃ q k, hi = some q ∧ ev e q = .int k (h : Int)) (h1 : l ≤ h) (h2 : h ≤ s.size) :
    Y P ⟨d, .slice T x lo hi none, t, pos, af, g⟩ e w (.string (s.extract l h)) := by
  have hh' : h ≤ s.size := h2
  rcases hl with ⟨rfl, rfl⟩ | ⟨q, k, rfl, hq⟩ <;> rcases hh with ⟨rfl, rfl⟩ | ⟨q', k', rfl, hq'⟩ <;>
    simp_all [Y, execOp, Instr.sliceAt, Instr.slice, Instr.sliceBounds, Instr.sliceBound, run_underlying hT, asIntOf]
theorem Y.slicesl {x : Operand} {T el k : TypeId} {lo hi : Option Operand} {b o n c l h : Nat} (hT : Und P T (.slice el)) (hk : ∀ w, (sizeOf el).run P w = .ok k w) (hx : ev e x = .slice (some ⟨b, o, none⟩) n c)
    (hl : lo = none ∧ l = 0 ∨ ∃ q k, lo = some q ∧ ev e q = .int k (l : Int)) (hh : hi = none ∧ h = n ∨ ∃ q k, hi = some q ∧ ev e q = .int k (h : Int)) (h1 : l ≤ h) (h2 : h ≤ c) :
    Y P ⟨d, .slice T x lo hi none, t, pos, af, g⟩ e w (.slice (some (if c = l then ⟨b, o, none⟩ else ⟨b, o + l * k, none⟩)) (h - l) (c - l)) := by
  rcases hl with ⟨rfl, rfl⟩ | ⟨q, k, rfl, hq⟩ <;> rcases hh with ⟨rfl, rfl⟩ | ⟨q', k', rfl, hq'⟩ <;>
    simp_all [Y, execOp, Instr.sliceAt, Instr.slice, Instr.sliceBounds, Instr.sliceBound, run_underlying hT, asIntOf, addr_add] <;> (try split) <;> rfl
end
end Go.TF
