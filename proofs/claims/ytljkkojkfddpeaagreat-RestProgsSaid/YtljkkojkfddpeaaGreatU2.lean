/- Texts Tab SpLat Lat Lat2 SpLat2 SpRule SpRule2 SpFact SlFuncs Rule Rule2 Rule5 Rule6. -/
import Derived.Test.YtljkkojkfddpeaaGreatU1
import Derived.Test.YtljkkojkfddpeaaGreatProg
import Derived.KernelRfl
section
/- Facts on the types of this program, one row each, made by program. -/
namespace Go.TF
open Go Go.RowKit Go.Proofs
theorem mixed : Tryz.prog.follows .mixedOrders = true := by kernel_rfl
theorem ty_3 : Ty Tryz.prog 3 1 false := ⟨Tryz.sizeOf3, Tryz.isAgg3, by decide⟩
theorem ty_4 : Ty Tryz.prog 4 1 false := ⟨Tryz.sizeOf4, Tryz.isAgg4, by decide⟩
theorem ty_9 : Ty Tryz.prog 9 1 false := ⟨Tryz.sizeOf9, Tryz.isAgg9, by decide⟩
theorem ty_22 : Ty Tryz.prog 22 1 false := ⟨Tryz.sizeOf22, Tryz.isAgg22, by decide⟩
theorem ty_23 : Ty Tryz.prog 23 1 false := ⟨Tryz.sizeOf23, Tryz.isAgg23, by decide⟩
theorem ty_25 : Ty Tryz.prog 25 2 true := ⟨Tryz.sizeOf25, Tryz.isAgg25, by decide⟩
theorem fa_25_0 : FA Tryz.prog 25 0 0 := fun a w => by simp [Instr.fieldAt, Tryz.runUnderlying25, Instr.sureAddr, fieldPlace, Tryz.sizeOf22]
theorem fd_25_0 : Fd Tryz.prog 25 0 22 0 := ⟨_, _, Tryz.underlying25, rfl, rfl, rfl⟩
theorem fa_25_1 : FA Tryz.prog 25 1 1 := fun a w => by simp [Instr.fieldAt, Tryz.runUnderlying25, Instr.sureAddr, fieldPlace, Tryz.sizeOf23]
theorem pl_25 : Pl Tryz.prog 25 [(0, 1), (1, 1)] := ⟨_, Tryz.underlying25, fun w => by simp [Tryz.sizeOf22, Tryz.sizeOf23]⟩
theorem ty_26 : Ty Tryz.prog 26 1 false := ⟨Tryz.sizeOf26, Tryz.isAgg26, by decide⟩
theorem ty_28 : Ty Tryz.prog 28 4 true := ⟨Tryz.sizeOf28, Tryz.isAgg28, by decide⟩
theorem fa_28_0 : FA Tryz.prog 28 0 0 := fun a w => by simp [Instr.fieldAt, Tryz.runUnderlying28, Instr.sureAddr, fieldPlace, Tryz.sizeOf3]
theorem fa_28_1 : FA Tryz.prog 28 1 1 := fun a w => by simp [Instr.fieldAt, Tryz.runUnderlying28, Instr.sureAddr, fieldPlace, Tryz.sizeOf3]
theorem fa_28_2 : FA Tryz.prog 28 2 2 := fun a w => by simp [Instr.fieldAt, Tryz.runUnderlying28, Instr.sureAddr, fieldPlace, Tryz.sizeOf3]
theorem fa_28_3 : FA Tryz.prog 28 3 3 := fun a w => by simp [Instr.fieldAt, Tryz.runUnderlying28, Instr.sureAddr, fieldPlace, Tryz.sizeOf3]
theorem pl_28 : Pl Tryz.prog 28 [(0, 1), (1, 1), (2, 1), (3, 1)] := ⟨_, Tryz.underlying28, fun w => by simp [Tryz.sizeOf3]⟩
theorem ty_29 : Ty Tryz.prog 29 1 false := ⟨Tryz.sizeOf29, Tryz.isAgg29, by decide⟩
theorem ty_40 : Ty Tryz.prog 40 3 true := ⟨Tryz.sizeOf40, Tryz.isAgg40, by decide⟩
theorem fa_40_0 : FA Tryz.prog 40 0 0 := fun a w => by simp [Instr.fieldAt, Tryz.runUnderlying40, Instr.sureAddr, fieldPlace, Tryz.sizeOf9]
theorem fa_40_1 : FA Tryz.prog 40 1 1 := fun a w => by simp [Instr.fieldAt, Tryz.runUnderlying40, Instr.sureAddr, fieldPlace, Tryz.sizeOf3]
theorem fa_40_2 : FA Tryz.prog 40 2 2 := fun a w => by simp [Instr.fieldAt, Tryz.runUnderlying40, Instr.sureAddr, fieldPlace, Tryz.sizeOf3]
theorem pl_40 : Pl Tryz.prog 40 [(0, 1), (1, 1), (2, 1)] := ⟨_, Tryz.underlying40, fun w => by simp [Tryz.sizeOf3, Tryz.sizeOf9]⟩
theorem ty_41 : Ty Tryz.prog 41 1 false := ⟨Tryz.sizeOf41, Tryz.isAgg41, by decide⟩
theorem ty_43 : Ty Tryz.prog 43 2 true := ⟨Tryz.sizeOf43, Tryz.isAgg43, by decide⟩
theorem fa_43_0 : FA Tryz.prog 43 0 0 := fun a w => by simp [Instr.fieldAt, Tryz.runUnderlying43, Instr.sureAddr, fieldPlace, Tryz.sizeOf3]
theorem fa_43_1 : FA Tryz.prog 43 1 1 := fun a w => by simp [Instr.fieldAt, Tryz.runUnderlying43, Instr.sureAddr, fieldPlace, Tryz.sizeOf41]
theorem pl_43 : Pl Tryz.prog 43 [(0, 1), (1, 1)] := ⟨_, Tryz.underlying43, fun w => by simp [Tryz.sizeOf3, Tryz.sizeOf41]⟩
theorem ty_44 : Ty Tryz.prog 44 1 false := ⟨Tryz.sizeOf44, Tryz.isAgg44, by decide⟩
theorem ty_46 : Ty Tryz.prog 46 5 true := ⟨Tryz.sizeOf46, Tryz.isAgg46, by decide⟩
theorem fa_46_0 : FA Tryz.prog 46 0 0 := fun a w => by simp [Instr.fieldAt, Tryz.runUnderlying46, Instr.sureAddr, fieldPlace, Tryz.sizeOf43]
theorem fa_46_1 : FA Tryz.prog 46 1 2 := fun a w => by simp [Instr.fieldAt, Tryz.runUnderlying46, Instr.sureAddr, fieldPlace, Tryz.sizeOf3]
theorem fa_46_2 : FA Tryz.prog 46 2 3 := fun a w => by simp [Instr.fieldAt, Tryz.runUnderlying46, Instr.sureAddr, fieldPlace, Tryz.sizeOf3]
theorem fa_46_3 : FA Tryz.prog 46 3 4 := fun a w => by simp [Instr.fieldAt, Tryz.runUnderlying46, Instr.sureAddr, fieldPlace, Tryz.sizeOf44]
theorem pl_46 : Pl Tryz.prog 46 [(0, 2), (2, 1), (3, 1), (4, 1)] := ⟨_, Tryz.underlying46, fun w => by simp [Tryz.sizeOf3, Tryz.sizeOf43, Tryz.sizeOf44]⟩
theorem ty_61 : Ty Tryz.prog 61 3 true := ⟨Tryz.sizeOf61, Tryz.isAgg61, by decide⟩
theorem fa_61_0 : FA Tryz.prog 61 0 0 := fun a w => by simp [Instr.fieldAt, Tryz.runUnderlying61, Instr.sureAddr, fieldPlace, Tryz.sizeOf4]
theorem fa_61_1 : FA Tryz.prog 61 1 1 := fun a w => by simp [Instr.fieldAt, Tryz.runUnderlying61, Instr.sureAddr, fieldPlace, Tryz.sizeOf43]
theorem pl_61 : Pl Tryz.prog 61 [(0, 1), (1, 2)] := ⟨_, Tryz.underlying61, fun w => by simp [Tryz.sizeOf4, Tryz.sizeOf43]⟩
theorem ty_62 : Ty Tryz.prog 62 1 false := ⟨Tryz.sizeOf62, Tryz.isAgg62, by decide⟩
theorem ty_66 : Ty Tryz.prog 66 1 false := ⟨Tryz.sizeOf66, Tryz.isAgg66, by decide⟩
theorem ty_74 : Ty Tryz.prog 74 1 false := ⟨Tryz.sizeOf74, Tryz.isAgg74, by decide⟩
theorem ty_78 : Ty Tryz.prog 78 3 true := ⟨Tryz.sizeOf78, Tryz.isAgg78, by decide⟩
theorem ty_80 : Ty Tryz.prog 80 4 true := ⟨Tryz.sizeOf80, Tryz.isAgg80, by decide⟩
theorem fa_80_0 : FA Tryz.prog 80 0 0 := fun a w => by simp [Instr.fieldAt, Tryz.runUnderlying80, Instr.sureAddr, fieldPlace, Tryz.sizeOf3]
theorem fa_80_1 : FA Tryz.prog 80 1 1 := fun a w => by simp [Instr.fieldAt, Tryz.runUnderlying80, Instr.sureAddr, fieldPlace, Tryz.sizeOf78]
theorem pl_80 : Pl Tryz.prog 80 [(0, 1), (1, 3)] := ⟨_, Tryz.underlying80, fun w => by simp [Tryz.sizeOf3, Tryz.sizeOf78]⟩
theorem ty_89 : Ty Tryz.prog 89 2 true := ⟨Tryz.sizeOf89, Tryz.isAgg89, by decide⟩
theorem fa_89_0 : FA Tryz.prog 89 0 0 := fun a w => by simp [Instr.fieldAt, Tryz.runUnderlying89, Instr.sureAddr, fieldPlace, Tryz.sizeOf4]
theorem fa_89_1 : FA Tryz.prog 89 1 1 := fun a w => by simp [Instr.fieldAt, Tryz.runUnderlying89, Instr.sureAddr, fieldPlace, Tryz.sizeOf3]
theorem pl_89 : Pl Tryz.prog 89 [(0, 1), (1, 1)] := ⟨_, Tryz.underlying89, fun w => by simp [Tryz.sizeOf3, Tryz.sizeOf4]⟩
theorem ty_106 : Ty Tryz.prog 106 1 false := ⟨Tryz.sizeOf106, Tryz.isAgg106, by decide⟩
theorem ty_107 : Ty Tryz.prog 107 3 true := ⟨Tryz.sizeOf107, Tryz.isAgg107, by decide⟩
theorem ty_122 : Ty Tryz.prog 122 1 false := ⟨Tryz.sizeOf122, Tryz.isAgg122, by decide⟩
theorem ty_124 : Ty Tryz.prog 124 2 true := ⟨Tryz.sizeOf124, Tryz.isAgg124, by decide⟩
theorem fd_124_0 : Fd Tryz.prog 124 0 122 0 := ⟨_, _, Tryz.underlying124, rfl, rfl, rfl⟩
theorem fd_124_1 : Fd Tryz.prog 124 1 122 1 := ⟨_, _, Tryz.underlying124, rfl, rfl, rfl⟩
theorem pl_124 : Pl Tryz.prog 124 [(0, 1), (1, 1)] := ⟨_, Tryz.underlying124, fun w => by simp [Tryz.sizeOf122]⟩
theorem ty_125 : Ty Tryz.prog 125 8 true := ⟨Tryz.sizeOf125, Tryz.isAgg125, by decide⟩
theorem ty_136 : Ty Tryz.prog 136 1 false := ⟨Tryz.sizeOf136, Tryz.isAgg136, by decide⟩
theorem ty_137 : Ty Tryz.prog 137 3 true := ⟨Tryz.sizeOf137, Tryz.isAgg137, by decide⟩
theorem eq_28 (a0 : Int) (a1 : Int) (a2 : Int) (a3 : Int) (b0 : Int) (b1 : Int) (b2 : Int) (b3 : Int) (w : World) : (Op.equalIn 10000 28 (.agg #[.int .i64 a0, .int .i64 a1, .int .i64 a2, .int .i64 a3]) (.agg #[.int .i64 b0, .int .i64 b1, .int .i64 b2, .int .i64 b3])).run Tryz.prog w = .ok ((a0 == b0) && ((a1 == b1) && ((a2 == b2) && ((a3 == b3) && true)))) w := by
  rw [show 10000 = 9998 + 1 + 1 from rfl, run_equalIn_struct w _ 28 _ _ (by simp only [Program.fieldsOf, Tryz.underlying28]) Tryz.stoodInHeld28]
  simp only [Program.fieldsOf, Tryz.underlying28, Op.eqFields]
  have p : ∀ T, (∀ w, (isAgg T).run Tryz.prog w = .ok false w) → ∀ (cs : Array Value) (o : Nat) v, cs[o]? = some v → (Go.part T cs o).run Tryz.prog w = .ok v w := fun T h cs o v hv => part_leaf h hv w
  cases h0 : (a0 == b0) <;> cases h1 : (a1 == b1) <;> cases h2 : (a2 == b2) <;> cases h3 : (a3 == b3) <;> simp [p 3 Tryz.isAgg3, run_equalIn_int w _ 3 .i64 .i64 _ _ Tryz.underlying3, h0, h1, h2, h3]
theorem eq_40 (a0 : ByteArray) (a1 : Int) (a2 : Int) (b0 : ByteArray) (b1 : Int) (b2 : Int) (w : World) : (Op.equalIn 10000 40 (.agg #[.string a0, .int .i64 a1, .int .i64 a2]) (.agg #[.string b0, .int .i64 b1, .int .i64 b2])).run Tryz.prog w = .ok ((a0.toList == b0.toList) && ((a1 == b1) && ((a2 == b2) && true))) w := by
  rw [show 10000 = 9998 + 1 + 1 from rfl, run_equalIn_struct w _ 40 _ _ (by simp only [Program.fieldsOf, Tryz.underlying40]) Tryz.stoodInHeld40]
  simp only [Program.fieldsOf, Tryz.underlying40, Op.eqFields]
  have p : ∀ T, (∀ w, (isAgg T).run Tryz.prog w = .ok false w) → ∀ (cs : Array Value) (o : Nat) v, cs[o]? = some v → (Go.part T cs o).run Tryz.prog w = .ok v w := fun T h cs o v hv => part_leaf h hv w
  cases h0 : (a0.toList == b0.toList) <;> cases h1 : (a1 == b1) <;> cases h2 : (a2 == b2) <;> simp [p 3 Tryz.isAgg3, p 9 Tryz.isAgg9, run_equalIn_int w _ 3 .i64 .i64 _ _ Tryz.underlying3, run_equalIn_string w _ 9 _ _ Tryz.underlying9, h0, h1, h2]
theorem eq_89 (a0 : Bool) (a1 : Int) (b0 : Bool) (b1 : Int) (w : World) : (Op.equalIn 10000 89 (.agg #[.bool a0, .int .i64 a1]) (.agg #[.bool b0, .int .i64 b1])).run Tryz.prog w = .ok ((a0 == b0) && ((a1 == b1) && true)) w := by
  rw [show 10000 = 9998 + 1 + 1 from rfl, run_equalIn_struct w _ 89 _ _ (by simp only [Program.fieldsOf, Tryz.underlying89]) Tryz.stoodInHeld89]
  simp only [Program.fieldsOf, Tryz.underlying89, Op.eqFields]
  have p : ∀ T, (∀ w, (isAgg T).run Tryz.prog w = .ok false w) → ∀ (cs : Array Value) (o : Nat) v, cs[o]? = some v → (Go.part T cs o).run Tryz.prog w = .ok v w := fun T h cs o v hv => part_leaf h hv w
  cases h0 : (a0 == b0) <;> cases h1 : (a1 == b1) <;> simp [p 3 Tryz.isAgg3, p 4 Tryz.isAgg4, run_equalIn_bool' w _ 4 _ _ Tryz.underlying4, run_equalIn_int w _ 3 .i64 .i64 _ _ Tryz.underlying3, h0, h1]
theorem et_3 : ElT Tryz.prog 3 1 8 (.int .i64 0) := ⟨by kernel_rfl, rfl, by decide⟩
theorem et_28 : ElT Tryz.prog 28 4 32 (.agg #[.int .i64 0, .int .i64 0, .int .i64 0, .int .i64 0]) := ⟨by kernel_rfl, rfl, by decide⟩
theorem et_40 : ElT Tryz.prog 40 3 32 (.agg #[.string ByteArray.empty, .int .i64 0, .int .i64 0]) := ⟨by kernel_rfl, rfl, by decide⟩
theorem et_43 : ElT Tryz.prog 43 2 32 (.agg #[.int .i64 0, .slice none 0 0]) := ⟨by kernel_rfl, rfl, by decide⟩
theorem et_46 : ElT Tryz.prog 46 5 72 (.agg #[.int .i64 0, .slice none 0 0, .int .i64 0, .int .i64 0, .slice none 0 0]) := ⟨by kernel_rfl, rfl, by decide⟩
theorem et_80 : ElT Tryz.prog 80 4 32 (.agg #[.int .i64 0, .int .i64 0, .int .i64 0, .int .i64 0]) := ⟨by kernel_rfl, rfl, by decide⟩
end Go.TF
end
section
/- What values' functions compute: plain. -/
namespace Go.TF
open Go

def within (n lo hi : Int) : Prop := lo ≤ n ∧ n ≤ hi
instance (n lo hi : Int) : Decidable (within n lo hi) := inferInstanceAs (Decidable (_ ∧ _))
def checkVal (kind v : Int) : Int := if kind < 0 ∨ 3 < kind then 4 else if (kind = 0 ∧ v ≠ 0) ∨ v < 0 ∨ 15 < v then 3 else 0
def joinV (kind a b : Int) : Int := if kind = 1 then max a b else if kind = 2 then min a b else if kind = 3 then orI a b else 0
def liftV (kind v n : Int) : Int := if kind = 0 then 0 else if kind = 3 then orI v n else min (v + n) 15
def vBE (x : Bool × Int) : Value := .tuple #[.bool x.1, .int .i64 x.2]
end Go.TF
end
section
/- The contracts of package lat and of the references beside it: each call returns what the plain functions compute. -/
namespace Go.TF
open Go Go.RowKit Go.Proofs
set_option maxRecDepth 10000

theorem orders1_ok (B : Base) (hB : B.ok) (a b : Int) (h : I64 (a + b)) : Fn Tryz.prog 110 [.int .i64 a, .int .i64 b] B (fun v _ => v = .int .i64 (min (a + b) 15)) := by
  obtain ⟨h1, h2⟩ := h
  refine Fn.of Tryz.func110 rfl Tryz.ntmps110 (by kernel_rfl) (by simp) ?_
  intro e
  have I := Inv.start hB
  refine WP.seq ?_
  refine WP.region ?_
  refine Ops.y (v := .int .i64 _) (Y.assign rfl) ?_
  refine Ops.nil ?_
  refine WP.seq ?_
  refine WP.region ?_
  refine Ops.y (v := .int .i64 _) (Y.move rfl) ?_
  refine Ops.y (v := .int .i64 _) (Y.move rfl) ?_
  refine Ops.y (v := .int .i64 _) (Y.addi rfl rfl ⟨by omega, by omega⟩) ?_
  refine Ops.y (v := .int .i64 _) (Y.min2 rfl rfl) ?_
  refine Ops.y (v := .int .i64 _) (Y.assign rfl) ?_
  refine Ops.nil ?_
  refine WP.ret ?_
  repeat (first | refine thenE_ret ?_ | refine blockE_ret ?_)
  exact retQ.mk (vs := [.int .i64 _]) rfl ⟨rfl, trivial⟩ I.ext_of (rfl)
theorem orders2_ok (B : Base) (hB : B.ok) (a b : Int) : Fn Tryz.prog 111 [.int .i64 a, .int .i64 b] B (fun v _ => v = .int .i64 (orI a b)) := by
  refine Fn.of Tryz.func111 rfl Tryz.ntmps111 (by kernel_rfl) (by simp) ?_
  intro e
  have I := Inv.start hB
  refine WP.seq ?_
  refine WP.region ?_
  refine Ops.y (v := .int .i64 _) (Y.assign rfl) ?_
  refine Ops.nil ?_
  refine WP.seq ?_
  refine WP.region ?_
  refine Ops.y (v := .int .i64 _) (Y.move rfl) ?_
  refine Ops.y (v := .int .i64 _) (Y.move rfl) ?_
  refine Ops.y (v := .int .i64 _) (Y.ori rfl rfl) ?_
  refine Ops.y (v := .int .i64 _) (Y.assign rfl) ?_
  refine Ops.nil ?_
  refine WP.ret ?_
  repeat (first | refine thenE_ret ?_ | refine blockE_ret ?_)
  exact retQ.mk (vs := [.int .i64 _]) rfl ⟨rfl, trivial⟩ I.ext_of (rfl)
theorem orders3_ok (B : Base) (hB : B.ok) (a b : Int) : Fn Tryz.prog 112 [.int .i64 a, .int .i64 b] B (fun v _ => v = .int .i64 0) := by
  refine Fn.of Tryz.func112 rfl Tryz.ntmps112 (by kernel_rfl) (by simp) ?_
  intro e
  have I := Inv.start hB
  refine WP.seq ?_
  refine WP.region ?_
  refine Ops.y (v := .int .i64 _) (Y.assign rfl) ?_
  refine Ops.nil ?_
  refine WP.seq ?_
  refine WP.region ?_
  refine Ops.y (v := .int .i64 _) (Y.assign rfl) ?_
  refine Ops.nil ?_
  refine WP.ret ?_
  repeat (first | refine thenE_ret ?_ | refine blockE_ret ?_)
  exact retQ.mk (vs := [.int .i64 _]) rfl ⟨rfl, trivial⟩ I.ext_of (rfl)
theorem orders4_ok (B : Base) (hB : B.ok) (a b : Int) : Fn Tryz.prog 113 [.int .i64 a, .int .i64 b] B (fun v _ => v = .int .i64 (max a b)) := by
  refine Fn.of Tryz.func113 rfl Tryz.ntmps113 (by kernel_rfl) (by simp) ?_
  intro e
  have I := Inv.start hB
  refine WP.seq ?_
  refine WP.region ?_
  refine Ops.y (v := .int .i64 _) (Y.assign rfl) ?_
  refine Ops.nil ?_
  refine WP.seq ?_
  refine WP.region ?_
  refine Ops.y (v := .int .i64 _) (Y.move rfl) ?_
  refine Ops.y (v := .int .i64 _) (Y.move rfl) ?_
  refine Ops.y (v := .int .i64 _) (Y.max2 rfl rfl) ?_
  refine Ops.y (v := .int .i64 _) (Y.assign rfl) ?_
  refine Ops.nil ?_
  refine WP.ret ?_
  repeat (first | refine thenE_ret ?_ | refine blockE_ret ?_)
  exact retQ.mk (vs := [.int .i64 _]) rfl ⟨rfl, trivial⟩ I.ext_of (rfl)
theorem orders5_ok (B : Base) (hB : B.ok) (a b : Int) : Fn Tryz.prog 114 [.int .i64 a, .int .i64 b] B (fun v _ => v = .int .i64 (min a b)) := by
  refine Fn.of Tryz.func114 rfl Tryz.ntmps114 (by kernel_rfl) (by simp) ?_
  intro e
  have I := Inv.start hB
  refine WP.seq ?_
  refine WP.region ?_
  refine Ops.y (v := .int .i64 _) (Y.assign rfl) ?_
  refine Ops.nil ?_
  refine WP.seq ?_
  refine WP.region ?_
  refine Ops.y (v := .int .i64 _) (Y.move rfl) ?_
  refine Ops.y (v := .int .i64 _) (Y.move rfl) ?_
  refine Ops.y (v := .int .i64 _) (Y.min2 rfl rfl) ?_
  refine Ops.y (v := .int .i64 _) (Y.assign rfl) ?_
  refine Ops.nil ?_
  refine WP.ret ?_
  repeat (first | refine thenE_ret ?_ | refine blockE_ret ?_)
  exact retQ.mk (vs := [.int .i64 _]) rfl ⟨rfl, trivial⟩ I.ext_of (rfl)
def fv (f : Nat) : Value := .func (.func f) #[] #[]
theorem orders_ok (B : Base) (hB : B.ok) : Fn Tryz.prog 89 [] B (fun v _ => v = .agg #[fv 112, fv 112, fv 113, fv 110, fv 114, fv 110, fv 111, fv 111]) := by
  refine Fn.of Tryz.func89 rfl Tryz.ntmps89 (by kernel_rfl) (by simp) ?_
  intro e
  have I := Inv.start hB
  refine WP.seq ?_
  refine WP.region ?_
  refine Ops.go (O.alloc I Tryz.zeroValue125 rfl ?_)
  intro b0 w I
  refine Ops.nil ?_
  refine WP.seq ?_
  refine WP.region ?_
  refine Ops.y (v := .func _ _ _) (Y.assign rfl) ?_
  refine Ops.nil ?_
  refine WP.seq ?_
  refine WP.region ?_
  refine Ops.y (v := .func _ _ _) (Y.assign rfl) ?_
  refine Ops.nil ?_
  refine WP.seq ?_
  refine WP.region ?_
  refine Ops.y (v := .func _ _ _) (Y.assign rfl) ?_
  refine Ops.nil ?_
  refine WP.seq ?_
  refine WP.region ?_
  refine Ops.y (v := .func _ _ _) (Y.move rfl) ?_
  refine Ops.y (v := .func _ _ _) (Y.move rfl) ?_
  refine Ops.y (v := .agg #[.func _ _ _, .func _ _ _]) (Y.build pl_124 Tryz.zeroValue124 rfl rfl) ?_
  refine Ops.y (v := .func _ _ _) (Y.move rfl) ?_
  refine Ops.y (v := .agg #[.func _ _ _, .func _ _ _]) (Y.build pl_124 Tryz.zeroValue124 rfl rfl) ?_
  refine Ops.y (v := .func _ _ _) (Y.move rfl) ?_
  refine Ops.y (v := .agg #[.func _ _ _, .func _ _ _]) (Y.build pl_124 Tryz.zeroValue124 rfl rfl) ?_
  refine Ops.y (v := .func _ _ _) (Y.move rfl) ?_
  refine Ops.y (v := .func _ _ _) (Y.move rfl) ?_
  refine Ops.y (v := .agg #[.func _ _ _, .func _ _ _]) (Y.build pl_124 Tryz.zeroValue124 rfl rfl) ?_
  refine Ops.y (v := .agg #[.func _ _ _, .func _ _ _, .func _ _ _, .func _ _ _, .func _ _ _, .func _ _ _, .func _ _ _, .func _ _ _]) (Y.builda Tryz.underlying125 Tryz.zeroValue125 Tryz.sizeOf124 rfl rfl) ?_
  refine Ops.go (O.store (v := .agg #[_, _, _, _, _, _, _, _]) I ty_125 0 rfl rfl rfl rfl rfl rfl (Nat.le_of_ble_eq_true rfl) rfl ?_)
  intro w I
  refine Ops.nil ?_
  refine WP.ret ?_
  repeat (first | refine thenE_ret ?_ | refine blockE_ret ?_)
  exact retQ.mk (vs := [.agg #[_, _, _, _, _, _, _, _]]) rfl ⟨⟨_, _, _, _, _, rfl, ty_125, I.rdbox 0 rfl 0 8, rfl, rfl⟩, trivial⟩ I.ext_of (rfl)
theorem within_ok (B : Base) (hB : B.ok) (n lo hi : Int) : Fn Tryz.prog 37 [.int .i64 n, .int .i64 lo, .int .i64 hi] B (fun v _ => v = .bool (decide (within n lo hi))) := by
  by_cases h1 : lo ≤ n
  · refine Fn.of Tryz.func37 rfl Tryz.ntmps37 (by kernel_rfl) (by simp) ?_
    intro e
    have I := Inv.start hB
    refine WP.seq ?_
    refine WP.region ?_
    refine Ops.y (v := .bool _) (Y.assign rfl) ?_
    refine Ops.nil ?_
    refine WP.seq ?_
    refine WP.region ?_
    refine Ops.y (v := .int .i64 _) (Y.move rfl) ?_
    refine Ops.y (v := .int .i64 _) (Y.move rfl) ?_
    refine Ops.y (v := .bool true) (Y.dec_t (Y.gei rfl rfl) (h1)) ?_
    refine Ops.y (v := .bool _) (Y.move rfl) ?_
    refine Ops.ygt rfl (v := .int .i64 _) (Y.move rfl) ?_
    refine Ops.ygt rfl (v := .int .i64 _) (Y.move rfl) ?_
    refine Ops.ygt rfl (v := .bool (decide _)) (Y.lei rfl rfl) ?_
    refine Ops.y (v := .bool _) (Y.pick_t rfl rfl) ?_
    refine Ops.y (v := .bool _) (Y.assign rfl) ?_
    refine Ops.nil ?_
    refine WP.ret ?_
    repeat (first | refine thenE_ret ?_ | refine blockE_ret ?_)
    exact retQ.mk (vs := [.bool _]) rfl ⟨rfl, trivial⟩ I.ext_of (by simp [tup, within, h1])
  · refine Fn.of Tryz.func37 rfl Tryz.ntmps37 (by kernel_rfl) (by simp) ?_
    intro e
    have I := Inv.start hB
    refine WP.seq ?_
    refine WP.region ?_
    refine Ops.y (v := .bool _) (Y.assign rfl) ?_
    refine Ops.nil ?_
    refine WP.seq ?_
    refine WP.region ?_
    refine Ops.y (v := .int .i64 _) (Y.move rfl) ?_
    refine Ops.y (v := .int .i64 _) (Y.move rfl) ?_
    refine Ops.y (v := .bool false) (Y.dec_f (Y.gei rfl rfl) (h1)) ?_
    refine Ops.y (v := .bool _) (Y.move rfl) ?_
    refine Ops.gf rfl ?_
    refine Ops.gf rfl ?_
    refine Ops.gf rfl ?_
    refine Ops.y (v := .bool _) (Y.pick_f rfl rfl) ?_
    refine Ops.y (v := .bool _) (Y.assign rfl) ?_
    refine Ops.nil ?_
    refine WP.ret ?_
    repeat (first | refine thenE_ret ?_ | refine blockE_ret ?_)
    exact retQ.mk (vs := [.bool _]) rfl ⟨rfl, trivial⟩ I.ext_of (by simp [tup, within, h1])
theorem Check_ok (B : Base) (hB : B.ok) (kind v : Int) : Fn Tryz.prog 85 [.int .i64 kind, .int .i64 v] B (fun r _ => r = .int .i64 (checkVal kind v)) := by
  refine Fn.of Tryz.func85 rfl Tryz.ntmps85 (by kernel_rfl) (by simp) ?_
  intro e
  have I := Inv.start hB
  refine WP.seq ?_
  refine WP.region ?_
  refine Ops.y (v := .int .i64 _) (Y.assign rfl) ?_
  refine Ops.nil ?_
  refine WP.seq ?_
  refine WP.region ?_
  refine Ops.y (v := .int .i64 _) (Y.assign rfl) ?_
  refine Ops.nil ?_
  refine WP.seq ?_
  refine WP.seq ?_
  refine WP.region ?_
  refine Ops.y (v := .int .i64 _) (Y.move rfl) ?_
  refine Ops.nil ?_
  refine WP.cutK (σ := Unit) (fun _ => [(1, .int .i64 v), (5, .int .i64 (if kind = 0 then 0 else 15))]) (fun _ w' => Inv B B.h [] w' ∧ 0 ≤ kind ∧ kind ≤ 3) ?_ ?_
  · refine WP.block ?_
    refine WP.seq ?_
    refine WP.region ?_
    refine Ops.y (v := .bool (decide _)) (Y.eqi rfl rfl) ?_
    refine Ops.y (v := .bool _) (Y.assign rfl) ?_
    refine Ops.nil ?_
    refine WP.cond_dec rfl (fun h0 => ?_) (fun h0 => ?_)
    · refine WP.region ?_
      refine Ops.y (v := .int .i64 _) (Y.assign rfl) ?_
      refine Ops.nil ?_
      exact ⟨(), ⟨rfl, by show Value.int .i64 0 = _; simp [h0], trivial⟩, I, by omega, by omega⟩
    have hz : (if kind = 0 then (0 : Int) else 15) = 15 := by simp [h0]
    refine WP.seq ?_
    refine WP.seq ?_
    refine WP.region ?_
    refine Ops.y (v := .bool (decide _)) (Y.eqi rfl rfl) ?_
    refine Ops.y (v := .bool _) (Y.assign rfl) ?_
    refine Ops.nil ?_
    refine WP.cond_dec rfl (fun h1 => ?_) (fun h1 => ?_)
    · refine WP.skip ?_
      refine WP.cond_decT rfl (h1) ?_
      refine WP.skip ?_
      exact ⟨(), ⟨rfl, by rw [hz]; rfl, trivial⟩, I, by omega, by omega⟩
    refine WP.seq ?_
    refine WP.region ?_
    refine Ops.y (v := .bool (decide _)) (Y.eqi rfl rfl) ?_
    refine Ops.y (v := .bool _) (Y.assign rfl) ?_
    refine Ops.nil ?_
    refine WP.cond_dec rfl (fun h2 => ?_) (fun h2 => ?_)
    · refine WP.skip ?_
      refine WP.cond_decT rfl (h2) ?_
      refine WP.skip ?_
      exact ⟨(), ⟨rfl, by rw [hz]; rfl, trivial⟩, I, by omega, by omega⟩
    refine WP.region ?_
    refine Ops.y (v := .bool (decide _)) (Y.eqi rfl rfl) ?_
    refine Ops.y (v := .bool _) (Y.assign rfl) ?_
    refine Ops.nil ?_
    refine WP.cond_dec rfl (fun h3 => ?_) (fun h3 => ?_)
    · refine WP.skip ?_
      exact ⟨(), ⟨rfl, by rw [hz]; rfl, trivial⟩, I, by omega, by omega⟩
    refine WP.seq ?_
    refine WP.region ?_
    refine Ops.y (v := .int .i64 _) (Y.assign rfl) ?_
    refine Ops.nil ?_
    refine WP.ret ?_
    repeat (first | refine thenE_ret ?_ | refine blockE_ret ?_)
    exact retQ.mk (vs := [.int .i64 _]) rfl ⟨rfl, trivial⟩ I.ext_of (by simp [tup, checkVal]; omega)
  rintro _ e w ⟨I, hk0, hk3⟩
  by_cases hv : v < 0
  · refine WP.seq ?_
    refine WP.seq ?_
    refine WP.region ?_
    refine Ops.y (v := .int .i64 _) (Y.move rfl) ?_
    refine Ops.y (v := .bool true) (Y.dec_t (Y.lti rfl rfl) (hv)) ?_
    refine Ops.y (v := .bool _) (Y.move rfl) ?_
    refine Ops.gf rfl ?_
    refine Ops.gf rfl ?_
    refine Ops.gf rfl ?_
    refine Ops.y (v := .bool _) (Y.pick_t rfl rfl) ?_
    refine Ops.nil ?_
    refine WP.cond_t rfl ?_
    refine WP.seq ?_
    refine WP.region ?_
    refine Ops.y (v := .int .i64 _) (Y.assign rfl) ?_
    refine Ops.nil ?_
    refine WP.ret ?_
    repeat (first | refine thenE_ret ?_ | refine blockE_ret ?_)
    exact retQ.mk (vs := [.int .i64 _]) rfl ⟨rfl, trivial⟩ I.ext_of (by simp [tup, checkVal]; omega)
  refine WP.seq ?_
  refine WP.seq ?_
  refine WP.region ?_
  refine Ops.y (v := .int .i64 _) (Y.move rfl) ?_
  refine Ops.y (v := .bool false) (Y.dec_f (Y.lti rfl rfl) (hv)) ?_
  refine Ops.y (v := .bool _) (Y.move rfl) ?_
  refine Ops.ygt rfl (v := .int .i64 _) (Y.move rfl) ?_
  refine Ops.ygt rfl (v := .int .i64 _) (Y.move rfl) ?_
  refine Ops.ygt rfl (v := .bool (decide _)) (Y.gti rfl rfl) ?_
  refine Ops.y (v := .bool _) (Y.pick_f rfl rfl) ?_
  refine Ops.nil ?_
  refine WP.cond_dec rfl (fun h2 => ?_) (fun h2 => ?_)
  · refine WP.seq ?_
    refine WP.region ?_
    refine Ops.y (v := .int .i64 _) (Y.assign rfl) ?_
    refine Ops.nil ?_
    refine WP.ret ?_
    repeat (first | refine thenE_ret ?_ | refine blockE_ret ?_)
    exact retQ.mk (vs := [.int .i64 _]) rfl ⟨rfl, trivial⟩ I.ext_of (by simp only [tup, checkVal]; split at h2 <;> simp <;> omega)
  refine WP.skip ?_
  refine WP.seq ?_
  refine WP.region ?_
  refine Ops.y (v := .int .i64 _) (Y.assign rfl) ?_
  refine Ops.nil ?_
  refine WP.ret ?_
  repeat (first | refine thenE_ret ?_ | refine blockE_ret ?_)
  exact retQ.mk (vs := [.int .i64 _]) rfl ⟨rfl, trivial⟩ I.ext_of (by simp only [tup, checkVal]; split at h2 <;> simp <;> omega)
theorem CheckVal_ok (B : Base) (hB : B.ok) (kind v : Int) : Fn Tryz.prog 72 [.int .i64 kind, .int .i64 v] B (fun r _ => r = .int .i64 (checkVal kind v)) := by
  refine Fn.of Tryz.func72 rfl Tryz.ntmps72 (by kernel_rfl) (by simp) ?_
  intro e
  have I := Inv.start hB
  refine WP.seq ?_
  refine WP.region ?_
  refine Ops.y (v := .int .i64 _) (Y.assign rfl) ?_
  refine Ops.nil ?_
  refine WP.seq ?_
  refine WP.seq ?_
  refine WP.region ?_
  refine Ops.y (v := .int .i64 _) (Y.move rfl) ?_
  refine Ops.go (O.callv I Tryz.call37 (within_ok _ I.base_ok _ _ _) rfl ?_)
  intro w I
  refine Ops.y (v := .bool (decide _)) (Y.notd rfl) ?_
  refine Ops.nil ?_
  refine WP.cond_dec rfl (fun h1 => ?_) (fun h1 => ?_)
  · refine WP.seq ?_
    refine WP.region ?_
    refine Ops.y (v := .int .i64 _) (Y.assign rfl) ?_
    refine Ops.nil ?_
    refine WP.ret ?_
    repeat (first | refine thenE_ret ?_ | refine blockE_ret ?_)
    exact retQ.mk (vs := [.int .i64 _]) rfl ⟨rfl, trivial⟩ I.ext_of (by simp only [tup, checkVal, within] at *; rw [if_pos (by omega)])
  simp only [within] at h1
  by_cases h2 : kind = 0
  · by_cases h3 : v = 0
    · refine WP.skip ?_
      refine WP.seq ?_
      refine WP.seq ?_
      refine WP.region ?_
      refine Ops.y (v := .int .i64 _) (Y.move rfl) ?_
      refine Ops.y (v := .bool true) (Y.dec_t (Y.eqi rfl rfl) (h2)) ?_
      refine Ops.y (v := .bool _) (Y.move rfl) ?_
      refine Ops.ygt rfl (v := .int .i64 _) (Y.move rfl) ?_
      refine Ops.ygt rfl (v := .bool false) (Y.dec_f (Y.nei rfl rfl) ((by simpa using h3))) ?_
      refine Ops.y (v := .bool _) (Y.pick_t rfl rfl) ?_
      refine Ops.y (v := .bool _) (Y.move rfl) ?_
      refine Ops.ygt rfl (v := .int .i64 _) (Y.move rfl) ?_
      refine Ops.gt rfl (O.callv I Tryz.call37 (within_ok _ I.base_ok _ _ _) rfl ?_)
      intro w I
      refine Ops.ygt rfl (v := .bool (decide _)) (Y.notd rfl) ?_
      refine Ops.y (v := .bool _) (Y.pick_f rfl rfl) ?_
      refine Ops.nil ?_
      refine WP.cond_dec rfl (fun h4 => ?_) (fun h4 => ?_)
      · refine WP.seq ?_
        refine WP.region ?_
        refine Ops.y (v := .int .i64 _) (Y.assign rfl) ?_
        refine Ops.nil ?_
        refine WP.ret ?_
        repeat (first | refine thenE_ret ?_ | refine blockE_ret ?_)
        exact retQ.mk (vs := [.int .i64 _]) rfl ⟨rfl, trivial⟩ I.ext_of (by simp only [tup, checkVal, within] at *; omega)
      refine WP.skip ?_
      refine WP.seq ?_
      refine WP.region ?_
      refine Ops.y (v := .int .i64 _) (Y.assign rfl) ?_
      refine Ops.nil ?_
      refine WP.ret ?_
      repeat (first | refine thenE_ret ?_ | refine blockE_ret ?_)
      exact retQ.mk (vs := [.int .i64 _]) rfl ⟨rfl, trivial⟩ I.ext_of (by simp only [tup, checkVal, within] at *; rw [if_neg (by omega), if_neg (by omega)])
    · refine WP.skip ?_
      refine WP.seq ?_
      refine WP.seq ?_
      refine WP.region ?_
      refine Ops.y (v := .int .i64 _) (Y.move rfl) ?_
      refine Ops.y (v := .bool true) (Y.dec_t (Y.eqi rfl rfl) (h2)) ?_
      refine Ops.y (v := .bool _) (Y.move rfl) ?_
      refine Ops.ygt rfl (v := .int .i64 _) (Y.move rfl) ?_
      refine Ops.ygt rfl (v := .bool true) (Y.dec_t (Y.nei rfl rfl) (h3)) ?_
      refine Ops.y (v := .bool _) (Y.pick_t rfl rfl) ?_
      refine Ops.y (v := .bool _) (Y.move rfl) ?_
      refine Ops.gf rfl ?_
      refine Ops.gf rfl ?_
      refine Ops.gf rfl ?_
      refine Ops.y (v := .bool _) (Y.pick_t rfl rfl) ?_
      refine Ops.nil ?_
      refine WP.cond_t rfl ?_
      refine WP.seq ?_
      refine WP.region ?_
      refine Ops.y (v := .int .i64 _) (Y.assign rfl) ?_
      refine Ops.nil ?_
      refine WP.ret ?_
      repeat (first | refine thenE_ret ?_ | refine blockE_ret ?_)
      exact retQ.mk (vs := [.int .i64 _]) rfl ⟨rfl, trivial⟩ I.ext_of (by simp only [tup, checkVal]; rw [if_neg (by omega), if_pos (by omega)])
  · refine WP.skip ?_
    refine WP.seq ?_
    refine WP.seq ?_
    refine WP.region ?_
    refine Ops.y (v := .int .i64 _) (Y.move rfl) ?_
    refine Ops.y (v := .bool false) (Y.dec_f (Y.eqi rfl rfl) (h2)) ?_
    refine Ops.y (v := .bool _) (Y.move rfl) ?_
    refine Ops.gf rfl ?_
    refine Ops.gf rfl ?_
    refine Ops.y (v := .bool _) (Y.pick_f rfl rfl) ?_
    refine Ops.y (v := .bool _) (Y.move rfl) ?_
    refine Ops.ygt rfl (v := .int .i64 _) (Y.move rfl) ?_
    refine Ops.gt rfl (O.callv I Tryz.call37 (within_ok _ I.base_ok _ _ _) rfl ?_)
    intro w I
    refine Ops.ygt rfl (v := .bool (decide _)) (Y.notd rfl) ?_
    refine Ops.y (v := .bool _) (Y.pick_f rfl rfl) ?_
    refine Ops.nil ?_
    refine WP.cond_dec rfl (fun h4 => ?_) (fun h4 => ?_)
    · refine WP.seq ?_
      refine WP.region ?_
      refine Ops.y (v := .int .i64 _) (Y.assign rfl) ?_
      refine Ops.nil ?_
      refine WP.ret ?_
      repeat (first | refine thenE_ret ?_ | refine blockE_ret ?_)
      exact retQ.mk (vs := [.int .i64 _]) rfl ⟨rfl, trivial⟩ I.ext_of (by simp only [tup, checkVal, within] at *; rw [if_neg (by omega), if_pos (by omega)])
    refine WP.skip ?_
    refine WP.seq ?_
    refine WP.region ?_
    refine Ops.y (v := .int .i64 _) (Y.assign rfl) ?_
    refine Ops.nil ?_
    refine WP.ret ?_
    repeat (first | refine thenE_ret ?_ | refine blockE_ret ?_)
    exact retQ.mk (vs := [.int .i64 _]) rfl ⟨rfl, trivial⟩ I.ext_of (by simp only [tup, checkVal, within] at *; rw [if_neg (by omega), if_neg (by omega)])
theorem joinR_ok (B : Base) (hB : B.ok) (kind a b : Int) : Fn Tryz.prog 71 [.int .i64 kind, .int .i64 a, .int .i64 b] B (fun r _ => r = .int .i64 (joinV kind a b)) := by
  by_cases h1 : kind = 1
  · by_cases h2 : b < a
    · refine Fn.of Tryz.func71 rfl Tryz.ntmps71 (by kernel_rfl) (by simp) ?_
      intro e
      have I := Inv.start hB
      refine WP.seq ?_
      refine WP.region ?_
      refine Ops.y (v := .int .i64 _) (Y.assign rfl) ?_
      refine Ops.nil ?_
      refine WP.seq ?_
      refine WP.block ?_
      refine WP.seq ?_
      refine WP.seq ?_
      refine WP.region ?_
      refine Ops.y (v := .int .i64 _) (Y.move rfl) ?_
      refine Ops.y (v := .bool true) (Y.dec_t (Y.eqi rfl rfl) (h1)) ?_
      refine Ops.y (v := .bool _) (Y.move rfl) ?_
      refine Ops.ygt rfl (v := .int .i64 _) (Y.move rfl) ?_
      refine Ops.ygt rfl (v := .int .i64 _) (Y.move rfl) ?_
      refine Ops.ygt rfl (v := .bool true) (Y.dec_t (Y.gti rfl rfl) (h2)) ?_
      refine Ops.y (v := .bool _) (Y.pick_t rfl rfl) ?_
      refine Ops.y (v := .bool _) (Y.assign rfl) ?_
      refine Ops.nil ?_
      refine WP.cond_t rfl ?_
      refine WP.skip ?_
      refine WP.cond_t rfl ?_
      refine WP.seq ?_
      refine WP.region ?_
      refine Ops.y (v := .int .i64 _) (Y.move rfl) ?_
      refine Ops.y (v := .int .i64 _) (Y.assign rfl) ?_
      refine Ops.nil ?_
      refine WP.ret ?_
      repeat (first | refine thenE_ret ?_ | refine blockE_ret ?_)
      exact retQ.mk (vs := [.int .i64 _]) rfl ⟨rfl, trivial⟩ I.ext_of (by simp only [tup, joinV, h1]; simp; omega)
    · refine Fn.of Tryz.func71 rfl Tryz.ntmps71 (by kernel_rfl) (by simp) ?_
      intro e
      have I := Inv.start hB
      refine WP.seq ?_
      refine WP.region ?_
      refine Ops.y (v := .int .i64 _) (Y.assign rfl) ?_
      refine Ops.nil ?_
      refine WP.seq ?_
      refine WP.block ?_
      refine WP.seq ?_
      refine WP.seq ?_
      refine WP.region ?_
      refine Ops.y (v := .int .i64 _) (Y.move rfl) ?_
      refine Ops.y (v := .bool true) (Y.dec_t (Y.eqi rfl rfl) (h1)) ?_
      refine Ops.y (v := .bool _) (Y.move rfl) ?_
      refine Ops.ygt rfl (v := .int .i64 _) (Y.move rfl) ?_
      refine Ops.ygt rfl (v := .int .i64 _) (Y.move rfl) ?_
      refine Ops.ygt rfl (v := .bool false) (Y.dec_f (Y.gti rfl rfl) (h2)) ?_
      refine Ops.y (v := .bool _) (Y.pick_t rfl rfl) ?_
      refine Ops.y (v := .bool _) (Y.assign rfl) ?_
      refine Ops.nil ?_
      refine WP.cond_f rfl ?_
      refine WP.region ?_
      refine Ops.y (v := .int .i64 _) (Y.move rfl) ?_
      refine Ops.y (v := .bool false) (Y.dec_f (Y.eqi rfl rfl) ((by omega))) ?_
      refine Ops.y (v := .bool _) (Y.move rfl) ?_
      refine Ops.gf rfl ?_
      refine Ops.gf rfl ?_
      refine Ops.gf rfl ?_
      refine Ops.y (v := .bool _) (Y.pick_f rfl rfl) ?_
      refine Ops.y (v := .bool _) (Y.assign rfl) ?_
      refine Ops.nil ?_
      refine WP.cond_f rfl ?_
      refine WP.seq ?_
      refine WP.seq ?_
      refine WP.region ?_
      refine Ops.y (v := .int .i64 _) (Y.move rfl) ?_
      refine Ops.y (v := .bool (decide _)) (Y.eqi rfl rfl) ?_
      refine Ops.y (v := .bool _) (Y.assign rfl) ?_
      refine Ops.nil ?_
      refine WP.cond_decT rfl (h1) ?_
      refine WP.skip ?_
      refine WP.cond_decT rfl (h1) ?_
      refine WP.seq ?_
      refine WP.region ?_
      refine Ops.y (v := .int .i64 _) (Y.move rfl) ?_
      refine Ops.y (v := .int .i64 _) (Y.assign rfl) ?_
      refine Ops.nil ?_
      refine WP.ret ?_
      repeat (first | refine thenE_ret ?_ | refine blockE_ret ?_)
      exact retQ.mk (vs := [.int .i64 _]) rfl ⟨rfl, trivial⟩ I.ext_of (by simp only [tup, joinV, h1]; simp; omega)
  · by_cases h2 : kind = 2
    · by_cases h3 : a < b
      · refine Fn.of Tryz.func71 rfl Tryz.ntmps71 (by kernel_rfl) (by simp) ?_
        intro e
        have I := Inv.start hB
        refine WP.seq ?_
        refine WP.region ?_
        refine Ops.y (v := .int .i64 _) (Y.assign rfl) ?_
        refine Ops.nil ?_
        refine WP.seq ?_
        refine WP.block ?_
        refine WP.seq ?_
        refine WP.seq ?_
        refine WP.region ?_
        refine Ops.y (v := .int .i64 _) (Y.move rfl) ?_
        refine Ops.y (v := .bool false) (Y.dec_f (Y.eqi rfl rfl) (h1)) ?_
        refine Ops.y (v := .bool _) (Y.move rfl) ?_
        refine Ops.gf rfl ?_
        refine Ops.gf rfl ?_
        refine Ops.gf rfl ?_
        refine Ops.y (v := .bool _) (Y.pick_f rfl rfl) ?_
        refine Ops.y (v := .bool _) (Y.assign rfl) ?_
        refine Ops.nil ?_
        refine WP.cond_f rfl ?_
        refine WP.region ?_
        refine Ops.y (v := .int .i64 _) (Y.move rfl) ?_
        refine Ops.y (v := .bool true) (Y.dec_t (Y.eqi rfl rfl) (h2)) ?_
        refine Ops.y (v := .bool _) (Y.move rfl) ?_
        refine Ops.ygt rfl (v := .int .i64 _) (Y.move rfl) ?_
        refine Ops.ygt rfl (v := .int .i64 _) (Y.move rfl) ?_
        refine Ops.ygt rfl (v := .bool true) (Y.dec_t (Y.lti rfl rfl) (h3)) ?_
        refine Ops.y (v := .bool _) (Y.pick_t rfl rfl) ?_
        refine Ops.y (v := .bool _) (Y.assign rfl) ?_
        refine Ops.nil ?_
        refine WP.cond_t rfl ?_
        refine WP.seq ?_
        refine WP.region ?_
        refine Ops.y (v := .int .i64 _) (Y.move rfl) ?_
        refine Ops.y (v := .int .i64 _) (Y.assign rfl) ?_
        refine Ops.nil ?_
        refine WP.ret ?_
        repeat (first | refine thenE_ret ?_ | refine blockE_ret ?_)
        exact retQ.mk (vs := [.int .i64 _]) rfl ⟨rfl, trivial⟩ I.ext_of (by simp only [tup, joinV, h2]; simp; omega)
      · refine Fn.of Tryz.func71 rfl Tryz.ntmps71 (by kernel_rfl) (by simp) ?_
        intro e
        have I := Inv.start hB
        refine WP.seq ?_
        refine WP.region ?_
        refine Ops.y (v := .int .i64 _) (Y.assign rfl) ?_
        refine Ops.nil ?_
        refine WP.seq ?_
        refine WP.block ?_
        refine WP.seq ?_
        refine WP.seq ?_
        refine WP.region ?_
        refine Ops.y (v := .int .i64 _) (Y.move rfl) ?_
        refine Ops.y (v := .bool false) (Y.dec_f (Y.eqi rfl rfl) (h1)) ?_
        refine Ops.y (v := .bool _) (Y.move rfl) ?_
        refine Ops.gf rfl ?_
        refine Ops.gf rfl ?_
        refine Ops.gf rfl ?_
        refine Ops.y (v := .bool _) (Y.pick_f rfl rfl) ?_
        refine Ops.y (v := .bool _) (Y.assign rfl) ?_
        refine Ops.nil ?_
        refine WP.cond_f rfl ?_
        refine WP.region ?_
        refine Ops.y (v := .int .i64 _) (Y.move rfl) ?_
        refine Ops.y (v := .bool true) (Y.dec_t (Y.eqi rfl rfl) (h2)) ?_
        refine Ops.y (v := .bool _) (Y.move rfl) ?_
        refine Ops.ygt rfl (v := .int .i64 _) (Y.move rfl) ?_
        refine Ops.ygt rfl (v := .int .i64 _) (Y.move rfl) ?_
        refine Ops.ygt rfl (v := .bool false) (Y.dec_f (Y.lti rfl rfl) (h3)) ?_
        refine Ops.y (v := .bool _) (Y.pick_t rfl rfl) ?_
        refine Ops.y (v := .bool _) (Y.assign rfl) ?_
        refine Ops.nil ?_
        refine WP.cond_f rfl ?_
        refine WP.seq ?_
        refine WP.seq ?_
        refine WP.region ?_
        refine Ops.y (v := .int .i64 _) (Y.move rfl) ?_
        refine Ops.y (v := .bool (decide _)) (Y.eqi rfl rfl) ?_
        refine Ops.y (v := .bool _) (Y.assign rfl) ?_
        refine Ops.nil ?_
        refine WP.cond_decF rfl (h1) ?_
        refine WP.region ?_
        refine Ops.y (v := .int .i64 _) (Y.move rfl) ?_
        refine Ops.y (v := .bool (decide _)) (Y.eqi rfl rfl) ?_
        refine Ops.y (v := .bool _) (Y.assign rfl) ?_
        refine Ops.nil ?_
        refine WP.cond_decT rfl (h2) ?_
        refine WP.seq ?_
        refine WP.region ?_
        refine Ops.y (v := .int .i64 _) (Y.move rfl) ?_
        refine Ops.y (v := .int .i64 _) (Y.assign rfl) ?_
        refine Ops.nil ?_
        refine WP.ret ?_
        repeat (first | refine thenE_ret ?_ | refine blockE_ret ?_)
        exact retQ.mk (vs := [.int .i64 _]) rfl ⟨rfl, trivial⟩ I.ext_of (by simp only [tup, joinV, h2]; simp; omega)
    · refine Fn.of Tryz.func71 rfl Tryz.ntmps71 (by kernel_rfl) (by simp) ?_
      intro e
      have I := Inv.start hB
      refine WP.seq ?_
      refine WP.region ?_
      refine Ops.y (v := .int .i64 _) (Y.assign rfl) ?_
      refine Ops.nil ?_
      refine WP.seq ?_
      refine WP.block ?_
      refine WP.seq ?_
      refine WP.seq ?_
      refine WP.region ?_
      refine Ops.y (v := .int .i64 _) (Y.move rfl) ?_
      refine Ops.y (v := .bool false) (Y.dec_f (Y.eqi rfl rfl) (h1)) ?_
      refine Ops.y (v := .bool _) (Y.move rfl) ?_
      refine Ops.gf rfl ?_
      refine Ops.gf rfl ?_
      refine Ops.gf rfl ?_
      refine Ops.y (v := .bool _) (Y.pick_f rfl rfl) ?_
      refine Ops.y (v := .bool _) (Y.assign rfl) ?_
      refine Ops.nil ?_
      refine WP.cond_f rfl ?_
      refine WP.region ?_
      refine Ops.y (v := .int .i64 _) (Y.move rfl) ?_
      refine Ops.y (v := .bool false) (Y.dec_f (Y.eqi rfl rfl) (h2)) ?_
      refine Ops.y (v := .bool _) (Y.move rfl) ?_
      refine Ops.gf rfl ?_
      refine Ops.gf rfl ?_
      refine Ops.gf rfl ?_
      refine Ops.y (v := .bool _) (Y.pick_f rfl rfl) ?_
      refine Ops.y (v := .bool _) (Y.assign rfl) ?_
      refine Ops.nil ?_
      refine WP.cond_f rfl ?_
      refine WP.seq ?_
      refine WP.seq ?_
      refine WP.region ?_
      refine Ops.y (v := .int .i64 _) (Y.move rfl) ?_
      refine Ops.y (v := .bool (decide _)) (Y.eqi rfl rfl) ?_
      refine Ops.y (v := .bool _) (Y.assign rfl) ?_
      refine Ops.nil ?_
      refine WP.cond_decF rfl (h1) ?_
      refine WP.region ?_
      refine Ops.y (v := .int .i64 _) (Y.move rfl) ?_
      refine Ops.y (v := .bool (decide _)) (Y.eqi rfl rfl) ?_
      refine Ops.y (v := .bool _) (Y.assign rfl) ?_
      refine Ops.nil ?_
      refine WP.cond_decF rfl (h2) ?_
      refine WP.seq ?_
      refine WP.region ?_
      refine Ops.y (v := .int .i64 _) (Y.move rfl) ?_
      refine Ops.y (v := .bool (decide _)) (Y.eqi rfl rfl) ?_
      refine Ops.y (v := .bool _) (Y.assign rfl) ?_
      refine Ops.nil ?_
      refine WP.cond_dec rfl (fun h3 => ?_) (fun h3 => ?_)
      · refine WP.seq ?_
        refine WP.region ?_
        refine Ops.y (v := .int .i64 _) (Y.move rfl) ?_
        refine Ops.y (v := .int .i64 _) (Y.move rfl) ?_
        refine Ops.y (v := .int .i64 _) (Y.ori rfl rfl) ?_
        refine Ops.y (v := .int .i64 _) (Y.assign rfl) ?_
        refine Ops.nil ?_
        refine WP.ret ?_
        repeat (first | refine thenE_ret ?_ | refine blockE_ret ?_)
        exact retQ.mk (vs := [.int .i64 _]) rfl ⟨rfl, trivial⟩ I.ext_of (by simp [tup, joinV, h3])
      refine WP.skip ?_
      refine WP.seq ?_
      refine WP.region ?_
      refine Ops.y (v := .int .i64 _) (Y.assign rfl) ?_
      refine Ops.nil ?_
      refine WP.ret ?_
      repeat (first | refine thenE_ret ?_ | refine blockE_ret ?_)
      exact retQ.mk (vs := [.int .i64 _]) rfl ⟨rfl, trivial⟩ I.ext_of (by simp [tup, joinV, h1, h2, h3])
theorem liftR_ok (B : Base) (hB : B.ok) (kind a b : Int) (hr : I64 (a + b)) : Fn Tryz.prog 70 [.int .i64 kind, .int .i64 a, .int .i64 b] B (fun r _ => r = .int .i64 (liftV kind a b)) := by
  obtain ⟨hr1, hr2⟩ := hr
  refine Fn.of Tryz.func70 rfl Tryz.ntmps70 (by kernel_rfl) (by simp) ?_
  intro e
  have I := Inv.start hB
  refine WP.seq ?_
  refine WP.region ?_
  refine Ops.y (v := .int .i64 _) (Y.assign rfl) ?_
  refine Ops.nil ?_
  refine WP.seq ?_
  refine WP.block ?_
  refine WP.seq ?_
  refine WP.region ?_
  refine Ops.y (v := .int .i64 _) (Y.move rfl) ?_
  refine Ops.y (v := .bool (decide _)) (Y.eqi rfl rfl) ?_
  refine Ops.y (v := .bool _) (Y.assign rfl) ?_
  refine Ops.nil ?_
  refine WP.cond_dec rfl (fun h1 => ?_) (fun h1 => ?_)
  · refine WP.seq ?_
    refine WP.region ?_
    refine Ops.y (v := .int .i64 _) (Y.assign rfl) ?_
    refine Ops.nil ?_
    refine WP.ret ?_
    repeat (first | refine thenE_ret ?_ | refine blockE_ret ?_)
    exact retQ.mk (vs := [.int .i64 _]) rfl ⟨rfl, trivial⟩ I.ext_of (by simp [tup, liftV, h1])
  refine WP.seq ?_
  refine WP.region ?_
  refine Ops.y (v := .int .i64 _) (Y.move rfl) ?_
  refine Ops.y (v := .bool (decide _)) (Y.eqi rfl rfl) ?_
  refine Ops.y (v := .bool _) (Y.assign rfl) ?_
  refine Ops.nil ?_
  refine WP.cond_dec rfl (fun h2 => ?_) (fun h2 => ?_)
  · refine WP.seq ?_
    refine WP.region ?_
    refine Ops.y (v := .int .i64 _) (Y.move rfl) ?_
    refine Ops.y (v := .int .i64 _) (Y.move rfl) ?_
    refine Ops.y (v := .int .i64 _) (Y.ori rfl rfl) ?_
    refine Ops.y (v := .int .i64 _) (Y.assign rfl) ?_
    refine Ops.nil ?_
    refine WP.ret ?_
    repeat (first | refine thenE_ret ?_ | refine blockE_ret ?_)
    exact retQ.mk (vs := [.int .i64 _]) rfl ⟨rfl, trivial⟩ I.ext_of (by simp [tup, liftV, h2])
  refine WP.seq ?_
  refine WP.region ?_
  refine Ops.y (v := .int .i64 _) (Y.move rfl) ?_
  refine Ops.y (v := .int .i64 _) (Y.move rfl) ?_
  refine Ops.y (v := .int .i64 _) (Y.addi rfl rfl ⟨by omega, by omega⟩) ?_
  refine Ops.y (v := .bool (decide _)) (Y.gti rfl rfl) ?_
  refine Ops.y (v := .bool _) (Y.assign rfl) ?_
  refine Ops.nil ?_
  refine WP.cond_dec rfl (fun h3 => ?_) (fun h3 => ?_)
  · refine WP.seq ?_
    refine WP.region ?_
    refine Ops.y (v := .int .i64 _) (Y.assign rfl) ?_
    refine Ops.nil ?_
    refine WP.ret ?_
    repeat (first | refine thenE_ret ?_ | refine blockE_ret ?_)
    exact retQ.mk (vs := [.int .i64 _]) rfl ⟨rfl, trivial⟩ I.ext_of (by simp only [tup, liftV, h1, h2]; simp; omega)
  refine WP.skip ?_
  refine WP.seq ?_
  refine WP.region ?_
  refine Ops.y (v := .int .i64 _) (Y.move rfl) ?_
  refine Ops.y (v := .int .i64 _) (Y.move rfl) ?_
  refine Ops.y (v := .int .i64 _) (Y.addi rfl rfl ⟨by omega, by omega⟩) ?_
  refine Ops.y (v := .int .i64 _) (Y.assign rfl) ?_
  refine Ops.nil ?_
  refine WP.ret ?_
  repeat (first | refine thenE_ret ?_ | refine blockE_ret ?_)
  exact retQ.mk (vs := [.int .i64 _]) rfl ⟨rfl, trivial⟩ I.ext_of (by simp only [tup, liftV, h1, h2]; simp; omega)
theorem kinds4 {k : Int} (h : 0 ≤ k ∧ k ≤ 3) : k = 0 ∨ k = 1 ∨ k = 2 ∨ k = 3 := by omega
theorem Joined_ok (B : Base) (hB : B.ok) (kind a b : Int) (hk : 0 ≤ kind ∧ kind ≤ 3) : Fn Tryz.prog 58 [.int .i64 kind, .int .i64 a, .int .i64 b] B (fun r _ => r = .int .i64 (joinV kind a b)) := by
  refine Fn.of Tryz.func58 rfl Tryz.ntmps58 (by kernel_rfl) (by simp) ?_
  intro e
  have I := Inv.start hB
  refine WP.seq ?_
  refine WP.region ?_
  refine Ops.y (v := .int .i64 _) (Y.assign rfl) ?_
  refine Ops.nil ?_
  rcases kinds4 hk with rfl | rfl | rfl | rfl
  · refine WP.seq ?_
    refine WP.region ?_
    refine Ops.go (O.callv I Tryz.call89 (orders_ok _ I.base_ok) rfl ?_)
    intro w I
    refine Ops.y (v := .int .i64 _) (Y.move rfl) ?_
    refine Ops.y (v := .agg #[_, _]) (Y.idxvv Tryz.underlying125 ty_124 rfl rfl (by decide) (by decide) rfl rfl rfl) ?_
    refine Ops.y (v := .func _ _ _) (Y.field fd_124_0 ty_122 rfl rfl rfl rfl) ?_
    refine Ops.y (v := .int .i64 _) (Y.move rfl) ?_
    refine Ops.y (v := .int .i64 _) (Y.move rfl) ?_
    refine Ops.go (O.callc I Tryz.call112 rfl (orders3_ok _ I.base_ok _ _) rfl ?_)
    rintro _ h w I hle rfl
    refine Ops.y (v := .int .i64 _) (Y.assign rfl) ?_
    refine Ops.nil ?_
    refine WP.ret ?_
    repeat (first | refine thenE_ret ?_ | refine blockE_ret ?_)
    exact retQ.mk (vs := [.int .i64 _]) rfl ⟨rfl, trivial⟩ I.ext_of (rfl)
  · refine WP.seq ?_
    refine WP.region ?_
    refine Ops.go (O.callv I Tryz.call89 (orders_ok _ I.base_ok) rfl ?_)
    intro w I
    refine Ops.y (v := .int .i64 _) (Y.move rfl) ?_
    refine Ops.y (v := .agg #[_, _]) (Y.idxvv Tryz.underlying125 ty_124 rfl rfl (by decide) (by decide) rfl rfl rfl) ?_
    refine Ops.y (v := .func _ _ _) (Y.field fd_124_0 ty_122 rfl rfl rfl rfl) ?_
    refine Ops.y (v := .int .i64 _) (Y.move rfl) ?_
    refine Ops.y (v := .int .i64 _) (Y.move rfl) ?_
    refine Ops.go (O.callc I Tryz.call113 rfl (orders4_ok _ I.base_ok _ _) rfl ?_)
    rintro _ h w I hle rfl
    refine Ops.y (v := .int .i64 _) (Y.assign rfl) ?_
    refine Ops.nil ?_
    refine WP.ret ?_
    repeat (first | refine thenE_ret ?_ | refine blockE_ret ?_)
    exact retQ.mk (vs := [.int .i64 _]) rfl ⟨rfl, trivial⟩ I.ext_of (rfl)
  · refine WP.seq ?_
    refine WP.region ?_
    refine Ops.go (O.callv I Tryz.call89 (orders_ok _ I.base_ok) rfl ?_)
    intro w I
    refine Ops.y (v := .int .i64 _) (Y.move rfl) ?_
    refine Ops.y (v := .agg #[_, _]) (Y.idxvv Tryz.underlying125 ty_124 rfl rfl (by decide) (by decide) rfl rfl rfl) ?_
    refine Ops.y (v := .func _ _ _) (Y.field fd_124_0 ty_122 rfl rfl rfl rfl) ?_
    refine Ops.y (v := .int .i64 _) (Y.move rfl) ?_
    refine Ops.y (v := .int .i64 _) (Y.move rfl) ?_
    refine Ops.go (O.callc I Tryz.call114 rfl (orders5_ok _ I.base_ok _ _) rfl ?_)
    rintro _ h w I hle rfl
    refine Ops.y (v := .int .i64 _) (Y.assign rfl) ?_
    refine Ops.nil ?_
    refine WP.ret ?_
    repeat (first | refine thenE_ret ?_ | refine blockE_ret ?_)
    exact retQ.mk (vs := [.int .i64 _]) rfl ⟨rfl, trivial⟩ I.ext_of (rfl)
  · refine WP.seq ?_
    refine WP.region ?_
    refine Ops.go (O.callv I Tryz.call89 (orders_ok _ I.base_ok) rfl ?_)
    intro w I
    refine Ops.y (v := .int .i64 _) (Y.move rfl) ?_
    refine Ops.y (v := .agg #[_, _]) (Y.idxvv Tryz.underlying125 ty_124 rfl rfl (by decide) (by decide) rfl rfl rfl) ?_
    refine Ops.y (v := .func _ _ _) (Y.field fd_124_0 ty_122 rfl rfl rfl rfl) ?_
    refine Ops.y (v := .int .i64 _) (Y.move rfl) ?_
    refine Ops.y (v := .int .i64 _) (Y.move rfl) ?_
    refine Ops.go (O.callc I Tryz.call111 rfl (orders2_ok _ I.base_ok _ _) rfl ?_)
    rintro _ h w I hle rfl
    refine Ops.y (v := .int .i64 _) (Y.assign rfl) ?_
    refine Ops.nil ?_
    refine WP.ret ?_
    repeat (first | refine thenE_ret ?_ | refine blockE_ret ?_)
    exact retQ.mk (vs := [.int .i64 _]) rfl ⟨rfl, trivial⟩ I.ext_of (rfl)
theorem Lifted_ok (B : Base) (hB : B.ok) (kind a b : Int) (hk : 0 ≤ kind ∧ kind ≤ 3) (hr : I64 (a + b)) : Fn Tryz.prog 106 [.int .i64 kind, .int .i64 a, .int .i64 b] B (fun r _ => r = .int .i64 (liftV kind a b)) := by
  refine Fn.of Tryz.func106 rfl Tryz.ntmps106 (by kernel_rfl) (by simp) ?_
  intro e
  have I := Inv.start hB
  refine WP.seq ?_
  refine WP.region ?_
  refine Ops.y (v := .int .i64 _) (Y.assign rfl) ?_
  refine Ops.nil ?_
  rcases kinds4 hk with rfl | rfl | rfl | rfl
  · refine WP.seq ?_
    refine WP.region ?_
    refine Ops.go (O.callv I Tryz.call89 (orders_ok _ I.base_ok) rfl ?_)
    intro w I
    refine Ops.y (v := .int .i64 _) (Y.move rfl) ?_
    refine Ops.y (v := .agg #[_, _]) (Y.idxvv Tryz.underlying125 ty_124 rfl rfl (by decide) (by decide) rfl rfl rfl) ?_
    refine Ops.y (v := .func _ _ _) (Y.field fd_124_1 ty_122 rfl rfl rfl rfl) ?_
    refine Ops.y (v := .int .i64 _) (Y.move rfl) ?_
    refine Ops.y (v := .int .i64 _) (Y.move rfl) ?_
    refine Ops.go (O.callc I Tryz.call112 rfl (orders3_ok _ I.base_ok _ _) rfl ?_)
    rintro _ h w I hle rfl
    refine Ops.y (v := .int .i64 _) (Y.assign rfl) ?_
    refine Ops.nil ?_
    refine WP.ret ?_
    repeat (first | refine thenE_ret ?_ | refine blockE_ret ?_)
    exact retQ.mk (vs := [.int .i64 _]) rfl ⟨rfl, trivial⟩ I.ext_of (rfl)
  · refine WP.seq ?_
    refine WP.region ?_
    refine Ops.go (O.callv I Tryz.call89 (orders_ok _ I.base_ok) rfl ?_)
    intro w I
    refine Ops.y (v := .int .i64 _) (Y.move rfl) ?_
    refine Ops.y (v := .agg #[_, _]) (Y.idxvv Tryz.underlying125 ty_124 rfl rfl (by decide) (by decide) rfl rfl rfl) ?_
    refine Ops.y (v := .func _ _ _) (Y.field fd_124_1 ty_122 rfl rfl rfl rfl) ?_
    refine Ops.y (v := .int .i64 _) (Y.move rfl) ?_
    refine Ops.y (v := .int .i64 _) (Y.move rfl) ?_
    refine Ops.go (O.callc I Tryz.call110 rfl (orders1_ok _ I.base_ok _ _ hr) rfl ?_)
    rintro _ h w I hle rfl
    refine Ops.y (v := .int .i64 _) (Y.assign rfl) ?_
    refine Ops.nil ?_
    refine WP.ret ?_
    repeat (first | refine thenE_ret ?_ | refine blockE_ret ?_)
    exact retQ.mk (vs := [.int .i64 _]) rfl ⟨rfl, trivial⟩ I.ext_of (rfl)
  · refine WP.seq ?_
    refine WP.region ?_
    refine Ops.go (O.callv I Tryz.call89 (orders_ok _ I.base_ok) rfl ?_)
    intro w I
    refine Ops.y (v := .int .i64 _) (Y.move rfl) ?_
    refine Ops.y (v := .agg #[_, _]) (Y.idxvv Tryz.underlying125 ty_124 rfl rfl (by decide) (by decide) rfl rfl rfl) ?_
    refine Ops.y (v := .func _ _ _) (Y.field fd_124_1 ty_122 rfl rfl rfl rfl) ?_
    refine Ops.y (v := .int .i64 _) (Y.move rfl) ?_
    refine Ops.y (v := .int .i64 _) (Y.move rfl) ?_
    refine Ops.go (O.callc I Tryz.call110 rfl (orders1_ok _ I.base_ok _ _ hr) rfl ?_)
    rintro _ h w I hle rfl
    refine Ops.y (v := .int .i64 _) (Y.assign rfl) ?_
    refine Ops.nil ?_
    refine WP.ret ?_
    repeat (first | refine thenE_ret ?_ | refine blockE_ret ?_)
    exact retQ.mk (vs := [.int .i64 _]) rfl ⟨rfl, trivial⟩ I.ext_of (rfl)
  · refine WP.seq ?_
    refine WP.region ?_
    refine Ops.go (O.callv I Tryz.call89 (orders_ok _ I.base_ok) rfl ?_)
    intro w I
    refine Ops.y (v := .int .i64 _) (Y.move rfl) ?_
    refine Ops.y (v := .agg #[_, _]) (Y.idxvv Tryz.underlying125 ty_124 rfl rfl (by decide) (by decide) rfl rfl rfl) ?_
    refine Ops.y (v := .func _ _ _) (Y.field fd_124_1 ty_122 rfl rfl rfl rfl) ?_
    refine Ops.y (v := .int .i64 _) (Y.move rfl) ?_
    refine Ops.y (v := .int .i64 _) (Y.move rfl) ?_
    refine Ops.go (O.callc I Tryz.call111 rfl (orders2_ok _ I.base_ok _ _) rfl ?_)
    rintro _ h w I hle rfl
    refine Ops.y (v := .int .i64 _) (Y.assign rfl) ?_
    refine Ops.nil ?_
    refine WP.ret ?_
    repeat (first | refine thenE_ret ?_ | refine blockE_ret ?_)
    exact retQ.mk (vs := [.int .i64 _]) rfl ⟨rfl, trivial⟩ I.ext_of (rfl)
end Go.TF
end
section
/- Join, Lift, Leq and the references: contracts. -/
namespace Go.TF
open Go Go.RowKit Go.Proofs
set_option maxRecDepth 10000
end Go.TF
end
section
/- Values in plain Lean: joining is commutative, associative, idempotent; what is below is below, lifted too. -/
namespace Go.TF
open Go

abbrev VOk (kind v : Int) : Prop := checkVal kind v = 0
theorem vOk_iff {kind v : Int} : VOk kind v ↔ 0 ≤ kind ∧ kind ≤ 3 ∧ 0 ≤ v ∧ v ≤ 15 ∧ (kind = 0 → v = 0) := by
  unfold VOk checkVal; (repeat' split) <;> omega
theorem orI_all : ∀ x, x < 16 → ∀ y, y < 16 → orI (x : Nat) (y : Nat) = ((x ||| y : Nat) : Int) ∧ x ||| y < 16 := by decide +kernel
theorem orI_nat {x y : Nat} (hx : x < 16) (hy : y < 16) : orI x y = ((x ||| y : Nat) : Int) := (orI_all x hx y hy).1
theorem toNat16 {a : Int} (h : 0 ≤ a ∧ a ≤ 15) : ∃ x : Nat, a = x ∧ x < 16 := ⟨a.toNat, by omega, by omega⟩
theorem joinV_ok {k a b : Int} (ha : VOk k a) (hb : VOk k b) : VOk k (joinV k a b) := by
  rw [vOk_iff] at *
  obtain ⟨h1, h2, h3, h4, h5⟩ := ha; obtain ⟨_, _, h6, h7, h8⟩ := hb
  obtain ⟨x, rfl, hx⟩ := toNat16 ⟨h3, h4⟩; obtain ⟨y, rfl, hy⟩ := toNat16 ⟨h6, h7⟩
  have ho := orI_all x hx y hy
  unfold joinV
  refine ⟨h1, h2, ?_, ?_, ?_⟩ <;> (repeat' split) <;> (try rw [ho.1]) <;> omega
theorem liftV_ok {k a b : Int} (ha : VOk k a) (hb : VOk k b) : VOk k (liftV k a b) := by
  rw [vOk_iff] at *
  obtain ⟨h1, h2, h3, h4, h5⟩ := ha; obtain ⟨_, _, h6, h7, h8⟩ := hb
  obtain ⟨x, rfl, hx⟩ := toNat16 ⟨h3, h4⟩; obtain ⟨y, rfl, hy⟩ := toNat16 ⟨h6, h7⟩
  have ho := orI_all x hx y hy
  unfold liftV
  refine ⟨h1, h2, ?_, ?_, ?_⟩ <;> (repeat' split) <;> (try rw [ho.1]) <;> omega
theorem joinV_comm {k a b : Int} (ha : VOk k a) (hb : VOk k b) : joinV k a b = joinV k b a := by
  rw [vOk_iff] at *
  obtain ⟨h1, h2, h3, h4, h5⟩ := ha; obtain ⟨_, _, h6, h7, h8⟩ := hb
  obtain ⟨x, rfl, hx⟩ := toNat16 ⟨h3, h4⟩; obtain ⟨y, rfl, hy⟩ := toNat16 ⟨h6, h7⟩
  unfold joinV
  rw [orI_nat hx hy, orI_nat hy hx, Nat.or_comm]
  (repeat' split) <;> omega
theorem joinV_assoc {k a b c : Int} (ha : VOk k a) (hb : VOk k b) (hc : VOk k c) : joinV k (joinV k a b) c = joinV k a (joinV k b c) := by
  rw [vOk_iff] at *
  obtain ⟨h1, h2, h3, h4, h5⟩ := ha; obtain ⟨_, _, h6, h7, h8⟩ := hb; obtain ⟨_, _, h9, h10, h11⟩ := hc
  obtain ⟨x, rfl, hx⟩ := toNat16 ⟨h3, h4⟩; obtain ⟨y, rfl, hy⟩ := toNat16 ⟨h6, h7⟩; obtain ⟨z, rfl, hz⟩ := toNat16 ⟨h9, h10⟩
  have h12 := orI_all x hx y hy; have h13 := orI_all y hy z hz
  unfold joinV
  by_cases k1 : k = 1
  · simp [k1, Int.max_assoc]
  by_cases k2 : k = 2
  · simp [k2, Int.min_assoc]
  by_cases k3 : k = 3
  · simp only [k3]; simp [h12.1, h13.1, orI_nat h12.2 hz, orI_nat hx h13.2, Nat.or_assoc]
  · simp [k1, k2, k3]
theorem joinV_idem {k a : Int} (ha : VOk k a) : joinV k a a = a := by
  rw [vOk_iff] at *
  obtain ⟨h1, h2, h3, h4, h5⟩ := ha
  obtain ⟨x, rfl, hx⟩ := toNat16 ⟨h3, h4⟩
  unfold joinV
  rw [orI_nat hx hx, Nat.or_self]
  (repeat' split) <;> omega
/-- Not above. -/
abbrev LeV (k a b : Int) : Prop := joinV k a b = b
theorem leV_up {k a b : Int} (ha : VOk k a) (hb : VOk k b) : LeV k a (joinV k a b) := by unfold LeV; rw [← joinV_assoc ha ha hb, joinV_idem ha]
theorem leV_trans {k a b c : Int} (ha : VOk k a) (hb : VOk k b) (hc : VOk k c) (h1 : LeV k a b) (h2 : LeV k b c) : LeV k a c := by
  unfold LeV at *
  have : joinV k a (joinV k b c) = joinV k b c := by rw [← joinV_assoc ha hb hc, h1]
  rwa [h2] at this
theorem leV_antisymm {k a b : Int} (ha : VOk k a) (hb : VOk k b) (h1 : LeV k a b) (h2 : LeV k b a) : a = b := by
  unfold LeV at *; rw [joinV_comm hb ha] at h2; exact h2.symm.trans h1
theorem leV_join_iff {k a b c : Int} (ha : VOk k a) (hb : VOk k b) (hc : VOk k c) : LeV k (joinV k a b) c ↔ LeV k a c ∧ LeV k b c := by
  constructor
  · intro h
    refine ⟨leV_trans ha (joinV_ok ha hb) hc (leV_up ha hb) h, leV_trans hb (joinV_ok ha hb) hc ?_ h⟩
    rw [joinV_comm ha hb]; exact leV_up hb ha
  · rintro ⟨h1, h2⟩
    unfold LeV at *
    rw [joinV_assoc ha hb hc, h2, h1]
end Go.TF
end
section
/- Predicates, terms, atoms, literals, rules, programs as they lie; what package rule computes: plain. -/
namespace Go.TF
open Go

structure Prd where
  name : ByteArray
  arity : Int
  kind : Int
structure Trm where
  var : Bool
  n : Int
structure Atm where
  pred : Int
  args : Sl Trm
structure Ltl where
  neg : Bool
  atom : Atm
structure Rul where
  head : Atm
  src : Int
  n : Int
  body : Sl Ltl
structure Prg where
  preds : Sl Prd
  rules : Sl Rul
@[reducible] def Prd.enc (x : Prd) : List Value := [.string x.name, .int .i64 x.arity, .int .i64 x.kind]
@[reducible] def Trm.enc (x : Trm) : List Value := [.bool x.var, .int .i64 x.n]
@[reducible] def Atm.enc (x : Atm) : List Value := [.int .i64 x.pred, x.args.val]
@[reducible] def Ltl.enc (x : Ltl) : List Value := [.bool x.neg, .int .i64 x.atom.pred, x.atom.args.val]
@[reducible] def Rul.enc (x : Rul) : List Value := [.int .i64 x.head.pred, x.head.args.val, .int .i64 x.src, .int .i64 x.n, x.body.val]
@[reducible] def Prg.enc (x : Prg) : List Value := [x.preds.val, x.rules.val]
@[reducible] def Prd.val (x : Prd) : Value := .agg #[.string x.name, .int .i64 x.arity, .int .i64 x.kind]
@[reducible] def Trm.val (x : Trm) : Value := .agg #[.bool x.var, .int .i64 x.n]
@[reducible] def Atm.val (x : Atm) : Value := .agg #[.int .i64 x.pred, x.args.val]
@[reducible] def Ltl.val (x : Ltl) : Value := .agg #[.bool x.neg, .int .i64 x.atom.pred, x.atom.args.val]
@[reducible] def Rul.val (x : Rul) : Value := .agg #[.int .i64 x.head.pred, x.head.args.val, .int .i64 x.src, .int .i64 x.n, x.body.val]
@[reducible] def Prg.val (x : Prg) : Value := .agg #[x.preds.val, x.rules.val]

/-- A slice whose elements are known for good, and not too many. -/
structure Sl.Is {α : Type} (s : Sl α) (k : Nat) (enc : α → List Value) (h : Heap) : Prop where
  el : s.In k enc h
  small : s.xs.length ≤ 140737488355328
theorem Sl.Is.le {α : Type} {s : Sl α} {k : Nat} {enc : α → List Value} {h h' : Heap} (hs : s.Is k enc h) (hl : h.le h') : s.Is k enc h' := ⟨hs.el.le hl, hs.small⟩
theorem Sl.Is.at {α : Type} {s : Sl α} {k : Nat} {enc : α → List Value} {h : Heap} (hs : s.Is k enc h) {i : Nat} (hi : i < s.xs.length) : El s k enc h i s.xs[i] := hs.el.el (List.getElem?_eq_getElem hi)
abbrev Prds (l : Sl Prd) (h : Heap) : Prop := l.Is 3 Prd.enc h
abbrev Trms (l : Sl Trm) (h : Heap) : Prop := l.Is 2 Trm.enc h
def Atm.In (a : Atm) (h : Heap) : Prop := Trms a.args h
def Ltl.In (x : Ltl) (h : Heap) : Prop := x.atom.In h
structure Ltls (l : Sl Ltl) (h : Heap) : Prop where
  is : l.Is 3 Ltl.enc h
  each : ∀ x ∈ l.xs, x.In h
structure Rul.In (r : Rul) (h : Heap) : Prop where
  head : r.head.In h
  body : Ltls r.body h
structure Ruls (l : Sl Rul) (h : Heap) : Prop where
  is : l.Is 5 Rul.enc h
  each : ∀ x ∈ l.xs, x.In h
structure Prg.In (p : Prg) (h : Heap) : Prop where
  preds : Prds p.preds h
  rules : Ruls p.rules h
theorem Atm.In.le {a : Atm} {h h' : Heap} (ha : a.In h) (hl : h.le h') : a.In h' := Sl.Is.le ha hl
theorem Ltl.In.le {x : Ltl} {h h' : Heap} (hx : x.In h) (hl : h.le h') : x.In h' := Atm.In.le hx hl
theorem Ltls.le {l : Sl Ltl} {h h' : Heap} (x : Ltls l h) (hl : h.le h') : Ltls l h' := ⟨x.is.le hl, fun y hy => (x.each y hy).le hl⟩
theorem Rul.In.le {r : Rul} {h h' : Heap} (x : r.In h) (hl : h.le h') : r.In h' := ⟨x.head.le hl, x.body.le hl⟩
theorem Ruls.le {l : Sl Rul} {h h' : Heap} (x : Ruls l h) (hl : h.le h') : Ruls l h' := ⟨x.is.le hl, fun y hy => (x.each y hy).le hl⟩
theorem Prg.In.le {p : Prg} {h h' : Heap} (x : p.In h) (hl : h.le h') : p.In h' := ⟨x.preds.le hl, x.rules.le hl⟩

/-! ### What is computed -/
def termOk (t : Trm) : Bool := if t.var then decide (0 ≤ t.n ∧ t.n < 3) else decide (0 ≤ t.n ∧ t.n ≤ 4)
theorem termOk_iff (t : Trm) : termOk t = true ↔ within t.n 0 (if t.var = true then 2 else 4) := by
  unfold termOk within; split <;> simp_all <;> omega
def argsErr (l : List Trm) : Int := if l.all termOk then 0 else 3
instance : Inhabited Prd := ⟨⟨ByteArray.empty, 0, 0⟩⟩
instance : Inhabited Trm := ⟨⟨false, 0⟩⟩
instance {α : Type} : Inhabited (Sl α) := ⟨⟨none, 0, []⟩⟩
instance : Inhabited Atm := ⟨⟨0, default⟩⟩
instance : Inhabited Ltl := ⟨⟨false, default⟩⟩
instance : Inhabited Rul := ⟨⟨default, 0, 0, default⟩⟩
def predOf (l : List Prd) (p : Int) : Prd := l.getD p.toNat default
def checkAtom (l : List Prd) (a : Atm) : Int :=
  if a.pred < 0 ∨ (l.length : Int) ≤ a.pred then 7 else if (a.args.xs.length : Int) ≠ (predOf l a.pred).arity then 1 else argsErr a.args.xs
def standsIn (a : Atm) (v : Int) : Bool := a.args.xs.any fun t => t.var && decide (t.n = v)
def boundIn (r : Rul) (v : Int) : Bool := r.body.xs.any fun x => !x.neg && standsIn x.atom v
def bodyErr (l : List Prd) : List Ltl → Int
  | [] => 0
  | x :: r => if checkAtom l x.atom ≠ 0 then checkAtom l x.atom else bodyErr l r
def freeVar (r : Rul) (v : Int) : Bool := (standsIn r.head v || r.body.xs.any fun x => standsIn x.atom v) && !boundIn r v
def litOf (r : Rul) (k : Int) : Ltl := r.body.xs.getD k.toNat default
def checkRule (l : List Prd) (r : Rul) : Int :=
  if checkAtom l r.head ≠ 0 then checkAtom l r.head
  else if 3 < r.body.xs.length then 2
  else if bodyErr l r.body.xs ≠ 0 then bodyErr l r.body.xs
  else if freeVar r 0 || freeVar r 1 || freeVar r 2 then 9
  else if r.src < -1 ∨ (r.body.xs.length : Int) ≤ r.src then 3
  else if (predOf l r.head.pred).kind = 0 ∧ (r.src ≠ -1 ∨ r.n ≠ 0) then 1
  else if 0 ≤ r.src ∧ ((litOf r r.src).neg = true ∨ (predOf l (litOf r r.src).atom.pred).kind ≠ (predOf l r.head.pred).kind) then 1
  else if r.n < 0 ∨ 15 < r.n then 3
  else 0
theorem predOf_get {l : List Prd} {p : Int} (h0 : 0 ≤ p) (h1 : p < l.length) : l[p.toNat]? = some (predOf l p) := by
  have : p.toNat < l.length := by omega
  simp [predOf, List.getD_eq_getElem?_getD, this]
end Go.TF
end
section
/- How often variables stand in atoms; what a rule's literals are: plain. -/
namespace Go.TF
open Go

theorem bT {p : Prop} [Decidable p] (h : p) : Value.bool true = .bool (decide p) := by rw [decide_eq_true h]
theorem bF {p : Prop} [Decidable p] (h : ¬p) : Value.bool false = .bool (decide p) := by rw [decide_eq_false h]
def cntT (l : List Trm) (v : Int) : Nat := l.countP fun t => t.var && decide (t.n = v)
def cntA : List Atm → Int → Nat
  | [], _ => 0
  | a :: r, v => cntT a.args.xs v + cntA r v
theorem cntA_append (l r : List Atm) (v : Int) : cntA (l ++ r) v = cntA l v + cntA r v := by
  induction l with
  | nil => simp [cntA]
  | cons a l ih => simp only [List.cons_append, cntA, ih]; omega
def CountOf (es : List (Int × Int)) (f : Int → Nat) : Prop := ∀ v, ilook es v = if f v = 0 then none else some (f v : Int)
theorem CountOf.nil : CountOf [] (cntA []) := fun _ => rfl
theorem CountOf.same {es : List (Int × Int)} {f g : Int → Nat} (h : CountOf es f) (hg : ∀ v, g v = f v) : CountOf es g := (funext hg : g = f) ▸ h
theorem CountOf.get {es : List (Int × Int)} {f : Int → Nat} (h : CountOf es f) (v : Int) : (ilook es v).getD 0 = (f v : Int) := by
  rw [h v]; split <;> simp_all
theorem CountOf.put {es : List (Int × Int)} {f g : Int → Nat} (h : CountOf es f) (n : Int) (hg : ∀ v, g v = if v = n then f v + 1 else f v) : CountOf (iset es n ((ilook es n).getD 0 + 1)) g := by
  intro v
  rw [ilook_iset, h.get n, h v, hg v]
  by_cases e : v = n
  · subst e; simp
  · simp [e]
theorem ilook_some_mem {es : List (Int × Int)} {v x : Int} (h : ilook es v = some x) : (v, x) ∈ es := by
  induction es with
  | nil => simp [ilook] at h
  | cons p r ih =>
    obtain ⟨k, w⟩ := p
    simp only [ilook] at h
    split at h
    · rename_i e; subst e; cases h; exact List.mem_cons_self ..
    · exact List.mem_cons_of_mem _ (ih h)
theorem mem_ilook {es : List (Int × Int)} {v x : Int} (h : (v, x) ∈ es) : ilook es v ≠ none := by
  induction es with
  | nil => cases h
  | cons p r ih =>
    obtain ⟨k, w⟩ := p
    simp only [ilook]
    split
    · simp
    · rename_i e
      rcases List.mem_cons.1 h with h | h
      · cases h; exact absurd rfl e
      · exact ih h
theorem cntT_le (l : List Trm) (v : Int) : cntT l v ≤ l.length := List.countP_le_length
theorem cntT_pos {l : List Trm} {v : Int} : cntT l v ≠ 0 ↔ (l.any fun t => t.var && decide (t.n = v)) = true := by
  unfold cntT
  rw [← Nat.pos_iff_ne_zero, List.countP_pos_iff, List.any_eq_true]
theorem cntA_le {l : List Atm} {m : Nat} (h : ∀ a ∈ l, a.args.xs.length ≤ m) (v : Int) : cntA l v ≤ l.length * m := by
  induction l with
  | nil => simp [cntA]
  | cons a r ih =>
    have h1 := cntT_le a.args.xs v
    have h2 := h a (List.mem_cons_self ..)
    have h3 := ih fun b hb => h b (List.mem_cons_of_mem _ hb)
    simp only [cntA, List.length_cons, Nat.add_mul]; omega
theorem cntA_pos {l : List Atm} {v : Int} : cntA l v ≠ 0 ↔ ∃ a ∈ l, standsIn a v = true := by
  induction l with
  | nil => simp [cntA]
  | cons a r ih =>
    have h1 : cntT a.args.xs v ≠ 0 ↔ standsIn a v = true := cntT_pos
    simp only [cntA, List.mem_cons, exists_eq_or_imp, ← ih, ← h1]; omega
theorem cntT_take {l : List Trm} {j : Nat} (hj : j < l.length) (v : Int) : cntT (l.take (j + 1)) v = cntT (l.take j) v + if l[j].var = true ∧ l[j].n = v then 1 else 0 := by
  rw [List.take_succ_eq_append_getElem hj]
  simp only [cntT, List.countP_append, List.countP_singleton, Bool.and_eq_true, decide_eq_true_eq]
theorem cntA_take {l : List Atm} {k : Nat} (hk : k < l.length) (v : Int) : cntA (l.take (k + 1)) v = cntA (l.take k) v + cntT l[k].args.xs v := by
  rw [List.take_succ_eq_append_getElem hk, cntA_append]; simp [cntA]
def negs (l : List Ltl) : List Atm := (l.filter (·.neg)).map (·.atom)
def poss (l : List Ltl) : List Atm := (l.filter fun x => !x.neg).map (·.atom)
theorem negs_take {l : List Ltl} {k : Nat} (hk : k < l.length) : negs (l.take (k + 1)) = negs (l.take k) ++ if l[k].neg = true then [l[k].atom] else [] := by
  rw [List.take_succ_eq_append_getElem hk]
  simp only [negs, List.filter_append, List.map_append]; congr 1; cases h : l[k].neg <;> simp [h]
theorem poss_take {l : List Ltl} {k : Nat} (hk : k < l.length) : poss (l.take (k + 1)) = poss (l.take k) ++ if l[k].neg = true then [] else [l[k].atom] := by
  rw [List.take_succ_eq_append_getElem hk]
  simp only [poss, List.filter_append, List.map_append]; congr 1; cases h : l[k].neg <;> simp [h]
theorem negs_le (l : List Ltl) : (negs l).length ≤ l.length := by unfold negs; rw [List.length_map]; exact List.length_filter_le ..
theorem poss_le (l : List Ltl) : (poss l).length ≤ l.length := by unfold poss; rw [List.length_map]; exact List.length_filter_le ..
theorem mem_negs {l : List Ltl} {a : Atm} : a ∈ negs l ↔ ∃ x ∈ l, x.neg = true ∧ x.atom = a := by simp [negs, and_assoc]
theorem mem_poss {l : List Ltl} {a : Atm} : a ∈ poss l ↔ ∃ x ∈ l, x.neg = false ∧ x.atom = a := by simp [poss, and_assoc]
theorem boundIn_iff {r : Rul} {v : Int} : boundIn r v = true ↔ cntA (poss r.body.xs) v ≠ 0 := by
  rw [cntA_pos]
  simp only [boundIn, List.any_eq_true, Bool.and_eq_true, Bool.not_eq_true', mem_poss]
  constructor
  · rintro ⟨x, hx, hn, hs⟩; exact ⟨_, ⟨x, hx, hn, rfl⟩, hs⟩
  · rintro ⟨_, ⟨x, hx, hn, rfl⟩, hs⟩; exact ⟨x, hx, hn, hs⟩
/-- A variable of the head or of a literal that is Not, and in none that is not. -/
theorem freeVar_iff {r : Rul} {v : Int} : freeVar r v = true ↔ cntA (negs r.body.xs ++ [r.head]) v ≠ 0 ∧ cntA (poss r.body.xs) v = 0 := by
  have hb := boundIn_iff (r := r) (v := v)
  rw [cntA_pos]
  simp only [freeVar, Bool.and_eq_true, Bool.or_eq_true, Bool.not_eq_true', List.any_eq_true, List.mem_append, List.mem_singleton]
  constructor
  · rintro ⟨h1, h2⟩
    have h3 : cntA (poss r.body.xs) v = 0 := Decidable.byContradiction fun h => by rw [hb.2 h] at h2; cases h2
    refine ⟨?_, h3⟩
    rcases h1 with h1 | ⟨x, hx, hs⟩
    · exact ⟨_, .inr rfl, h1⟩
    · cases hn : x.neg
      · have : boundIn r v = true := by rw [boundIn, List.any_eq_true]; exact ⟨x, hx, by simp [hn, hs]⟩
        rw [this] at h2; cases h2
      · exact ⟨_, .inl (mem_negs.2 ⟨x, hx, hn, rfl⟩), hs⟩
  · rintro ⟨⟨a, ha, hs⟩, h3⟩
    refine ⟨?_, ?_⟩
    · rcases ha with ha | rfl
      · obtain ⟨x, hx, _, rfl⟩ := mem_negs.1 ha; exact .inr ⟨x, hx, hs⟩
      · exact .inl hs
    · cases h : boundIn r v
      · rfl
      · exact absurd h3 (hb.1 h)
theorem bodyErr_ne {l : List Prd} {b : List Ltl} : bodyErr l b = 0 ↔ ∀ x ∈ b, checkAtom l x.atom = 0 := by
  induction b with
  | nil => simp [bodyErr]
  | cons x r ih =>
    simp only [bodyErr, List.mem_cons, forall_eq_or_imp]
    by_cases h : checkAtom l x.atom = 0
    · simp [h, ih]
    · simp [h]
theorem bodyErr_at {l : List Prd} {b : List Ltl} {k : Nat} (hk : k < b.length) (h1 : ∀ j, j < k → ∀ hj' : j < b.length, checkAtom l b[j].atom = 0) (h2 : checkAtom l b[k].atom ≠ 0) : bodyErr l b = checkAtom l b[k].atom := by
  induction b generalizing k with
  | nil => simp at hk
  | cons x r ih =>
    cases k with
    | zero => simp only [List.getElem_cons_zero] at h2 ⊢; simp [bodyErr, h2]
    | succ k =>
      have h0 := h1 0 (by omega) (by simp)
      simp only [List.getElem_cons_zero] at h0
      simp only [bodyErr, h0, List.getElem_cons_succ]
      simp only [List.getElem_cons_succ] at h2
      exact ih (by simpa using hk) (fun j _ hj' => by have := h1 (j + 1) (by omega) (by simpa using hj'); simpa using this) h2
theorem standsIn_small {l : List Prd} {a : Atm} (h : checkAtom l a = 0) {v : Int} (hs : standsIn a v = true) : v = 0 ∨ v = 1 ∨ v = 2 := by
  have h1 : argsErr a.args.xs = 0 := by
    unfold checkAtom at h
    split at h
    · cases h
    · split at h
      · cases h
      · exact h
  unfold argsErr at h1
  split at h1
  · rename_i hal
    rw [List.all_eq_true] at hal
    simp only [standsIn, List.any_eq_true, Bool.and_eq_true, decide_eq_true_eq] at hs
    obtain ⟨t, ht, hv, hn⟩ := hs
    have := hal t ht
    unfold termOk at this
    rw [if_pos hv] at this
    simp only [decide_eq_true_eq] at this
    omega
  · cases h1
theorem filter_shorter {α : Type} {p q : α → Bool} {l : List α} {x : α} (hx : x ∈ l) (hp : p x = false) (hq : q x = true) (hpq : ∀ y ∈ l, p y = true → q y = true) : (l.filter p).length < (l.filter q).length := by
  induction l with
  | nil => cases hx
  | cons y r ih =>
    have hle : ∀ s : List α, (∀ z ∈ s, p z = true → q z = true) → (s.filter p).length ≤ (s.filter q).length := by
      intro s hs
      induction s with
      | nil => simp
      | cons z t iht =>
        have i := iht fun u hu => hs u (List.mem_cons_of_mem _ hu)
        have j := hs z (List.mem_cons_self ..)
        simp only [List.filter_cons]
        split <;> split <;> simp_all <;> omega
    rcases List.mem_cons.1 hx with rfl | hx'
    · have := hle r fun z hz => hpq z (List.mem_cons_of_mem _ hz)
      simp only [List.filter_cons, hp, hq, if_true, Bool.false_eq_true, if_false, List.length_cons]; omega
    · have i := ih hx' fun z hz => hpq z (List.mem_cons_of_mem _ hz)
      have j := hpq y (List.mem_cons_self ..)
      simp only [List.filter_cons]
      split <;> split <;> simp_all <;> omega
theorem ents_of {ents : List MapEntry} {clock : Nat} {es : List (Int × Int)} (hi : IMap ents clock es) {q : MapEntry} (hq : q ∈ ents) : ∃ v x, (v, x) ∈ es ∧ q.key = .int .i64 v ∧ q.val = .int .i64 x := by
  have : (q.key, q.val) ∈ ents.map (fun e => (e.key, e.val)) := List.mem_map.2 ⟨q, hq, rfl⟩
  rw [hi.is] at this
  obtain ⟨⟨v, x⟩, hp, he⟩ := List.mem_map.1 this
  simp only [iV, Prod.mk.injEq] at he
  exact ⟨v, x, hp, he.1.symm, he.2.symm⟩
theorem ents_has {ents : List MapEntry} {clock : Nat} {es : List (Int × Int)} (hi : IMap ents clock es) {v x : Int} (hv : (v, x) ∈ es) : ∃ q ∈ ents, q.key = .int .i64 v := by
  have : iV (v, x) ∈ ents.map (fun e => (e.key, e.val)) := by rw [hi.is]; exact List.mem_map.2 ⟨_, hv, rfl⟩
  obtain ⟨q, hq, he⟩ := List.mem_map.1 this
  simp only [iV, Prod.mk.injEq] at he
  exact ⟨q, hq, he.1⟩
theorem nodup_inj {α β : Type} {f : α → β} {l : List α} (h : (l.map f).Nodup) {a b : α} (ha : a ∈ l) (hb : b ∈ l) (hf : f a = f b) : a = b := by
  induction l with
  | nil => cases ha
  | cons x r ih =>
    simp only [List.map_cons, List.nodup_cons, List.mem_map, not_exists, not_and] at h
    rcases List.mem_cons.1 ha with rfl | ha' <;> rcases List.mem_cons.1 hb with rfl | hb'
    · rfl
    · exact absurd hf.symm (h.1 b hb')
    · exact absurd hf (h.1 a ha')
    · exact ih h.2 ha' hb'
end Go.TF
end
section
/- Facts, what variables stand for, what an atom grounded is: plain. -/
namespace Go.TF
open Go

structure Fct where
  pred : Int
  a : Int
  b : Int
  v : Int
deriving DecidableEq
@[reducible] def Fct.enc (x : Fct) : List Value := [.int .i64 x.pred, .int .i64 x.a, .int .i64 x.b, .int .i64 x.v]
@[reducible] def Fct.val (x : Fct) : Value := .agg #[.int .i64 x.pred, .int .i64 x.a, .int .i64 x.b, .int .i64 x.v]
structure Vrs where
  x0 : Int
  x1 : Int
  x2 : Int
deriving DecidableEq
@[reducible] def Vrs.enc (x : Vrs) : List Value := [.int .i64 x.x0, .int .i64 x.x1, .int .i64 x.x2]
@[reducible] def Vrs.val (x : Vrs) : Value := .agg #[.int .i64 x.x0, .int .i64 x.x1, .int .i64 x.x2]
def Vrs.at (x : Vrs) (i : Int) : Int := if i = 0 then x.x0 else if i = 1 then x.x1 else x.x2
structure Stp where
  rule : Int
  vars : Vrs
deriving DecidableEq
@[reducible] def Stp.enc (x : Stp) : List Value := [.int .i64 x.rule, .int .i64 x.vars.x0, .int .i64 x.vars.x1, .int .i64 x.vars.x2]
@[reducible] def Stp.val (x : Stp) : Value := .agg #[.int .i64 x.rule, .int .i64 x.vars.x0, .int .i64 x.vars.x1, .int .i64 x.vars.x2]
instance : Inhabited Fct := ⟨⟨0, 0, 0, 0⟩⟩
instance : Inhabited Vrs := ⟨⟨0, 0, 0⟩⟩
instance : Inhabited Stp := ⟨⟨0, default⟩⟩
abbrev Fcts (l : Sl Fct) (h : Heap) : Prop := l.Is 4 Fct.enc h
abbrev Stps (l : Sl Stp) (h : Heap) : Prop := l.Is 4 Stp.enc h
theorem Rd.one {w : World} {b o : Nat} {cs : List Value} (hr : Rd w b o cs) {i : Nat} {x : Value} (hx : cs[i]? = some x) : Rd w b (o + i) [x] := fun j v e => by
  cases j with
  | zero => simp at e; subst e; exact hr i x hx
  | succ j => simp at e
theorem Rd.vrs {w : World} {b : Nat} {x : Vrs} (hr : Rd w b 0 x.enc) {i : Int} (h0 : 0 ≤ i) (h1 : i < 3) : Rd w b (0 + i.toNat * 1) [.int .i64 (x.at i)] := by
  rw [Nat.mul_one]
  refine hr.one ?_
  have : i = 0 ∨ i = 1 ∨ i = 2 := by omega
  rcases this with rfl | rfl | rfl <;> rfl
def tv (t : Trm) (x : Vrs) : Int := if t.var then x.at t.n else t.n
def argv (a : Atm) (x : Vrs) (i : Nat) : Int := match a.args.xs[i]? with | none => 0 | some t => tv t x
theorem argv_get {a : Atm} {x : Vrs} {i : Nat} (hi : i < a.args.xs.length) : argv a x i = tv a.args.xs[i] x := by simp [argv, hi]
theorem argv_none {a : Atm} {x : Vrs} {i : Nat} (hi : a.args.xs.length ≤ i) : argv a x i = 0 := by simp [argv, hi]
def groundF (a : Atm) (x : Vrs) : Fct := ⟨a.pred, argv a x 0, argv a x 1, 0⟩
theorem argsErr_iff {l : List Trm} : argsErr l = 0 ↔ ∀ t ∈ l, termOk t = true := by
  unfold argsErr
  rw [← List.all_eq_true]
  split <;> simp_all
theorem argsErr_var {l : List Trm} (h : argsErr l = 0) {t : Trm} (ht : t ∈ l) (hv : t.var = true) : 0 ≤ t.n ∧ t.n < 3 := by
  have := argsErr_iff.1 h t ht
  unfold termOk at this
  rw [if_pos hv] at this
  simpa using this
theorem argsErr_con {l : List Trm} (h : argsErr l = 0) {t : Trm} (ht : t ∈ l) (hv : t.var = false) : 0 ≤ t.n ∧ t.n ≤ 4 := by
  have := argsErr_iff.1 h t ht
  unfold termOk at this
  rw [hv] at this
  simpa using this
end Go.TF
end
section
/- slices.IndexFunc, ContainsFunc at this program's types, at a predicate that keeps nothing. -/
namespace Go.TF
open Go Go.RowKit Go.Proofs
set_option maxRecDepth 10000

/-- A function value that answers p at each element, whatever the world, and keeps nothing. -/
def PredFn {α : Type} (P : Program) (f : FuncId) (fs cs : List Value) (h : Heap) (val : α → Value) (xs : List α) (p : α → Bool) : Prop :=
  ∀ B' : Base, B'.ok → h.le B'.h → ∀ x ∈ xs, Fn P f (fs ++ [val x] ++ cs) B' (fun v _ => v = .bool (p x))
def idxOf {α : Type} (p : α → Bool) (xs : List α) : Int := match xs.findIdx? p with | some i => (i : Int) | none => -1
theorem idxOf_none {α : Type} {p : α → Bool} {xs : List α} (h : ∀ x ∈ xs, p x = false) : idxOf p xs = -1 := by
  have : xs.findIdx? p = none := by rw [List.findIdx?_eq_none_iff]; intro x hx; simpa using h x hx
  simp [idxOf, this]
theorem idxOf_some {α : Type} {p : α → Bool} {xs : List α} {k : Nat} (hk : k < xs.length) (h : ∀ j (hj : j < k), p (xs[j]'(by omega)) = false) (hp : p xs[k] = true) : idxOf p xs = k := by
  have : xs.findIdx? p = some k := by
    rw [List.findIdx?_eq_some_iff_getElem]
    exact ⟨hk, hp, fun j hj => by simp [h j hj]⟩
  simp [idxOf, this]
theorem idxOf_any {α : Type} (p : α → Bool) (xs : List α) : decide (0 ≤ idxOf p xs) = xs.any p := by
  unfold idxOf
  cases h : xs.findIdx? p with
  | none =>
    rw [List.findIdx?_eq_none_iff] at h
    have : xs.any p = false := by rw [List.any_eq_false]; intro x hx; simp [h x hx]
    simp [this]
  | some i =>
    rw [List.findIdx?_eq_some_iff_getElem] at h
    obtain ⟨hi, hp, _⟩ := h
    have : xs.any p = true := List.any_eq_true.2 ⟨_, List.getElem_mem hi, hp⟩
    simp [this]
theorem IndexFuncTrm_ok (B : Base) (hB : B.ok) (l : Sl Trm) (hl : l.Is 2 Trm.enc B.h) (f : FuncId) (ent : Enters Tryz.prog f) (fs cs : List Value) (p : Trm → Bool) (hp : PredFn Tryz.prog f fs cs B.h Trm.val l.xs p) :
    Fn Tryz.prog 135 [l.val, .func (.func f) fs.toArray cs.toArray] B (fun v _ => v = .int .i64 (idxOf p l.xs)) := by
  refine Fn.of Tryz.func135 rfl Tryz.ntmps135 (by kernel_rfl) (by simp) ?_
  intro e
  have I := Inv.start hB
  refine WP.seq ?_
  refine WP.region ?_
  refine Ops.y (v := .int .i64 _) (Y.assign rfl) ?_
  refine Ops.nil ?_
  refine WP.seq ?_
  refine WP.seq ?_
  refine WP.region ?_
  refine Ops.y (v := .slice _ _ _) (Y.move rfl) ?_
  refine Ops.y (v := .int .i64 _) (Y.lens Tryz.underlying41 rfl) ?_
  refine Ops.y (v := .int .i64 _) (Y.move rfl) ?_
  refine Ops.nil ?_
  refine WP.block ?_
  refine WP.loopE (σ := Nat) (fun k => [(0, l.val), (1, .func (.func f) fs.toArray cs.toArray), (7, .int .i64 l.xs.length), (8, .int .i64 k)]) (fun k w => Inv B B.h [] w ∧ k ≤ l.xs.length ∧ ∀ j (hj : j < k) (hj' : j < l.xs.length), p l.xs[j] = false) (fun k => l.xs.length - k)
    ⟨0, ⟨rfl, rfl, rfl, rfl, trivial⟩, I, Nat.zero_le _, fun j hj => (by omega)⟩ ?_
  rintro k e w ⟨I, hk, hn⟩
  have hsm := hl.small
  refine WP.seq ?_
  refine WP.region ?_
  refine Ops.y (v := .bool (decide _)) (Y.lti rfl rfl) ?_
  refine Ops.nil ?_
  refine WP.seq ?_
  refine WP.cond_dec rfl (fun h => ?_) (fun h => ?_)
  · have hk' : k < l.xs.length := by omega
    have E1 := hl.at hk'
    refine WP.skip ?_
    refine WP.seq ?_
    refine WP.block ?_
    refine WP.seq ?_
    refine WP.region ?_
    refine Ops.y (v := .int .i64 _) (Y.move rfl) ?_
    refine Ops.y (v := .int .i64 _) (Y.assign rfl) ?_
    refine Ops.nil ?_
    refine WP.seq ?_
    refine WP.region ?_
    refine Ops.y (v := .func _ _ _) (Y.move rfl) ?_
    refine Ops.y (v := .slice _ _ _) (Y.move rfl) ?_
    refine Ops.y (v := .int .i64 _) (Y.move rfl) ?_
    refine Ops.y (v := .pointer (some ⟨_, _, none⟩)) (Y.idxEl E1 Tryz.underlying41 Tryz.sizeOf89 rfl rfl (Int.natCast_nonneg _) rfl) ?_
    refine Ops.y (v := .agg #[_, _]) (Y.loadv ty_89 rfl (I.rd (E1.rd.part 0 2)) rfl rfl) ?_
    refine Ops.go (O.callcv I ent rfl (hp ⟨w, B.h⟩ I.base_ok (Heap.le.refl _) l.xs[k] (List.getElem_mem hk')) rfl ?_)
    intro w I
    refine Ops.nil ?_
    refine WP.cond rfl (fun hb => ?_) (fun hb => ?_)
    · refine WP.seq ?_
      refine WP.region ?_
      refine Ops.y (v := .int .i64 _) (Y.move rfl) ?_
      refine Ops.y (v := .int .i64 _) (Y.assign rfl) ?_
      refine Ops.nil ?_
      refine WP.ret ?_
      repeat (first | refine thenE_ret ?_ | refine blockE_ret ?_)
      exact retQ.mk (vs := [.int .i64 _]) rfl ⟨rfl, trivial⟩ I.ext_of (by simp only [tup]; rw [idxOf_some hk' (fun j hj => hn j hj (by omega)) hb])
    refine WP.skip ?_
    refine WP.region ?_
    refine Ops.y (v := .int .i64 _) (Y.addi rfl rfl ⟨by omega, by omega⟩) ?_
    refine Ops.y (v := .int .i64 _) (Y.move rfl) ?_
    refine Ops.nil ?_
    exact ⟨k + 1, ⟨⟨rfl, rfl, rfl, rfl, trivial⟩, I, by omega, fun j hj hj' => by
      rcases Nat.lt_succ_iff_lt_or_eq.1 hj with h' | h'
      · exact hn j h' hj'
      · subst h'; exact hb⟩, by omega⟩
  refine WP.exit ?_
  refine WP.seq ?_
  refine WP.region ?_
  refine Ops.y (v := .int .i64 _) (Y.assign rfl) ?_
  refine Ops.nil ?_
  refine WP.ret ?_
  repeat (first | refine thenE_ret ?_ | refine blockE_ret ?_)
  exact retQ.mk (vs := [.int .i64 _]) rfl ⟨rfl, trivial⟩ I.ext_of (by simp only [tup]; rw [idxOf_none]; intro x hx; obtain ⟨j, hj, rfl⟩ := List.getElem_of_mem hx; exact hn j (by omega) hj)
theorem ContainsFuncTrm_ok (B : Base) (hB : B.ok) (l : Sl Trm) (hl : l.Is 2 Trm.enc B.h) (f : FuncId) (ent : Enters Tryz.prog f) (fs cs : List Value) (p : Trm → Bool) (hp : PredFn Tryz.prog f fs cs B.h Trm.val l.xs p) :
    Fn Tryz.prog 122 [l.val, .func (.func f) fs.toArray cs.toArray] B (fun v _ => v = .bool (l.xs.any p)) := by
  refine Fn.of Tryz.func122 rfl Tryz.ntmps122 (by kernel_rfl) (by simp) ?_
  intro e
  have I := Inv.start hB
  refine WP.seq ?_
  refine WP.region ?_
  refine Ops.y (v := .bool _) (Y.assign rfl) ?_
  refine Ops.nil ?_
  refine WP.seq ?_
  refine WP.region ?_
  refine Ops.y (v := .slice _ _ _) (Y.move rfl) ?_
  refine Ops.y (v := .func _ _ _) (Y.move rfl) ?_
  refine Ops.go (O.callv I Tryz.call135 (IndexFuncTrm_ok _ I.base_ok l hl f ent fs cs p hp) rfl ?_)
  intro w I
  refine Ops.y (v := .bool (decide _)) (Y.gei rfl rfl) ?_
  refine Ops.y (v := .bool _) (Y.assign rfl) ?_
  refine Ops.nil ?_
  refine WP.ret ?_
  repeat (first | refine thenE_ret ?_ | refine blockE_ret ?_)
  exact retQ.mk (vs := [.bool _]) rfl ⟨rfl, trivial⟩ I.ext_of (by simp only [tup]; rw [idxOf_any])
theorem IndexFuncPrd_ok (B : Base) (hB : B.ok) (l : Sl Prd) (hl : l.Is 3 Prd.enc B.h) (f : FuncId) (ent : Enters Tryz.prog f) (fs cs : List Value) (p : Prd → Bool) (hp : PredFn Tryz.prog f fs cs B.h Prd.val l.xs p) :
    Fn Tryz.prog 90 [l.val, .func (.func f) fs.toArray cs.toArray] B (fun v _ => v = .int .i64 (idxOf p l.xs)) := by
  refine Fn.of Tryz.func90 rfl Tryz.ntmps90 (by kernel_rfl) (by simp) ?_
  intro e
  have I := Inv.start hB
  refine WP.seq ?_
  refine WP.region ?_
  refine Ops.y (v := .int .i64 _) (Y.assign rfl) ?_
  refine Ops.nil ?_
  refine WP.seq ?_
  refine WP.seq ?_
  refine WP.region ?_
  refine Ops.y (v := .slice _ _ _) (Y.move rfl) ?_
  refine Ops.y (v := .int .i64 _) (Y.lens Tryz.underlying22 rfl) ?_
  refine Ops.y (v := .int .i64 _) (Y.move rfl) ?_
  refine Ops.nil ?_
  refine WP.block ?_
  refine WP.loopE (σ := Nat) (fun k => [(0, l.val), (1, .func (.func f) fs.toArray cs.toArray), (7, .int .i64 l.xs.length), (8, .int .i64 k)]) (fun k w => Inv B B.h [] w ∧ k ≤ l.xs.length ∧ ∀ j (hj : j < k) (hj' : j < l.xs.length), p l.xs[j] = false) (fun k => l.xs.length - k)
    ⟨0, ⟨rfl, rfl, rfl, rfl, trivial⟩, I, Nat.zero_le _, fun j hj => (by omega)⟩ ?_
  rintro k e w ⟨I, hk, hn⟩
  have hsm := hl.small
  refine WP.seq ?_
  refine WP.region ?_
  refine Ops.y (v := .bool (decide _)) (Y.lti rfl rfl) ?_
  refine Ops.nil ?_
  refine WP.seq ?_
  refine WP.cond_dec rfl (fun h => ?_) (fun h => ?_)
  · have hk' : k < l.xs.length := by omega
    have E1 := hl.at hk'
    refine WP.skip ?_
    refine WP.seq ?_
    refine WP.block ?_
    refine WP.seq ?_
    refine WP.region ?_
    refine Ops.y (v := .int .i64 _) (Y.move rfl) ?_
    refine Ops.y (v := .int .i64 _) (Y.assign rfl) ?_
    refine Ops.nil ?_
    refine WP.seq ?_
    refine WP.region ?_
    refine Ops.y (v := .func _ _ _) (Y.move rfl) ?_
    refine Ops.y (v := .slice _ _ _) (Y.move rfl) ?_
    refine Ops.y (v := .int .i64 _) (Y.move rfl) ?_
    refine Ops.y (v := .pointer (some ⟨_, _, none⟩)) (Y.idxEl E1 Tryz.underlying22 Tryz.sizeOf40 rfl rfl (Int.natCast_nonneg _) rfl) ?_
    refine Ops.y (v := .agg #[_, _, _]) (Y.loadv ty_40 rfl (I.rd (E1.rd.part 0 3)) rfl rfl) ?_
    refine Ops.go (O.callcv I ent rfl (hp ⟨w, B.h⟩ I.base_ok (Heap.le.refl _) l.xs[k] (List.getElem_mem hk')) rfl ?_)
    intro w I
    refine Ops.nil ?_
    refine WP.cond rfl (fun hb => ?_) (fun hb => ?_)
    · refine WP.seq ?_
      refine WP.region ?_
      refine Ops.y (v := .int .i64 _) (Y.move rfl) ?_
      refine Ops.y (v := .int .i64 _) (Y.assign rfl) ?_
      refine Ops.nil ?_
      refine WP.ret ?_
      repeat (first | refine thenE_ret ?_ | refine blockE_ret ?_)
      exact retQ.mk (vs := [.int .i64 _]) rfl ⟨rfl, trivial⟩ I.ext_of (by simp only [tup]; rw [idxOf_some hk' (fun j hj => hn j hj (by omega)) hb])
    refine WP.skip ?_
    refine WP.region ?_
    refine Ops.y (v := .int .i64 _) (Y.addi rfl rfl ⟨by omega, by omega⟩) ?_
    refine Ops.y (v := .int .i64 _) (Y.move rfl) ?_
    refine Ops.nil ?_
    exact ⟨k + 1, ⟨⟨rfl, rfl, rfl, rfl, trivial⟩, I, by omega, fun j hj hj' => by
      rcases Nat.lt_succ_iff_lt_or_eq.1 hj with h' | h'
      · exact hn j h' hj'
      · subst h'; exact hb⟩, by omega⟩
  refine WP.exit ?_
  refine WP.seq ?_
  refine WP.region ?_
  refine Ops.y (v := .int .i64 _) (Y.assign rfl) ?_
  refine Ops.nil ?_
  refine WP.ret ?_
  repeat (first | refine thenE_ret ?_ | refine blockE_ret ?_)
  exact retQ.mk (vs := [.int .i64 _]) rfl ⟨rfl, trivial⟩ I.ext_of (by simp only [tup]; rw [idxOf_none]; intro x hx; obtain ⟨j, hj, rfl⟩ := List.getElem_of_mem hx; exact hn j (by omega) hj)
theorem ContainsFuncPrd_ok (B : Base) (hB : B.ok) (l : Sl Prd) (hl : l.Is 3 Prd.enc B.h) (f : FuncId) (ent : Enters Tryz.prog f) (fs cs : List Value) (p : Prd → Bool) (hp : PredFn Tryz.prog f fs cs B.h Prd.val l.xs p) :
    Fn Tryz.prog 60 [l.val, .func (.func f) fs.toArray cs.toArray] B (fun v _ => v = .bool (l.xs.any p)) := by
  refine Fn.of Tryz.func60 rfl Tryz.ntmps60 (by kernel_rfl) (by simp) ?_
  intro e
  have I := Inv.start hB
  refine WP.seq ?_
  refine WP.region ?_
  refine Ops.y (v := .bool _) (Y.assign rfl) ?_
  refine Ops.nil ?_
  refine WP.seq ?_
  refine WP.region ?_
  refine Ops.y (v := .slice _ _ _) (Y.move rfl) ?_
  refine Ops.y (v := .func _ _ _) (Y.move rfl) ?_
  refine Ops.go (O.callv I Tryz.call90 (IndexFuncPrd_ok _ I.base_ok l hl f ent fs cs p hp) rfl ?_)
  intro w I
  refine Ops.y (v := .bool (decide _)) (Y.gei rfl rfl) ?_
  refine Ops.y (v := .bool _) (Y.assign rfl) ?_
  refine Ops.nil ?_
  refine WP.ret ?_
  repeat (first | refine thenE_ret ?_ | refine blockE_ret ?_)
  exact retQ.mk (vs := [.bool _]) rfl ⟨rfl, trivial⟩ I.ext_of (by simp only [tup]; rw [idxOf_any])
theorem IndexFuncFct_ok (B : Base) (hB : B.ok) (l : Sl Fct) (hl : l.Is 4 Fct.enc B.h) (f : FuncId) (ent : Enters Tryz.prog f) (fs cs : List Value) (p : Fct → Bool) (hp : PredFn Tryz.prog f fs cs B.h Fct.val l.xs p) :
    Fn Tryz.prog 107 [l.val, .func (.func f) fs.toArray cs.toArray] B (fun v _ => v = .int .i64 (idxOf p l.xs)) := by
  refine Fn.of Tryz.func107 rfl Tryz.ntmps107 (by kernel_rfl) (by simp) ?_
  intro e
  have I := Inv.start hB
  refine WP.seq ?_
  refine WP.region ?_
  refine Ops.y (v := .int .i64 _) (Y.assign rfl) ?_
  refine Ops.nil ?_
  refine WP.seq ?_
  refine WP.seq ?_
  refine WP.region ?_
  refine Ops.y (v := .slice _ _ _) (Y.move rfl) ?_
  refine Ops.y (v := .int .i64 _) (Y.lens Tryz.underlying26 rfl) ?_
  refine Ops.y (v := .int .i64 _) (Y.move rfl) ?_
  refine Ops.nil ?_
  refine WP.block ?_
  refine WP.loopE (σ := Nat) (fun k => [(0, l.val), (1, .func (.func f) fs.toArray cs.toArray), (7, .int .i64 l.xs.length), (8, .int .i64 k)]) (fun k w => Inv B B.h [] w ∧ k ≤ l.xs.length ∧ ∀ j (hj : j < k) (hj' : j < l.xs.length), p l.xs[j] = false) (fun k => l.xs.length - k)
    ⟨0, ⟨rfl, rfl, rfl, rfl, trivial⟩, I, Nat.zero_le _, fun j hj => (by omega)⟩ ?_
  rintro k e w ⟨I, hk, hn⟩
  have hsm := hl.small
  refine WP.seq ?_
  refine WP.region ?_
  refine Ops.y (v := .bool (decide _)) (Y.lti rfl rfl) ?_
  refine Ops.nil ?_
  refine WP.seq ?_
  refine WP.cond_dec rfl (fun h => ?_) (fun h => ?_)
  · have hk' : k < l.xs.length := by omega
    have E1 := hl.at hk'
    refine WP.skip ?_
    refine WP.seq ?_
    refine WP.block ?_
    refine WP.seq ?_
    refine WP.region ?_
    refine Ops.y (v := .int .i64 _) (Y.move rfl) ?_
    refine Ops.y (v := .int .i64 _) (Y.assign rfl) ?_
    refine Ops.nil ?_
    refine WP.seq ?_
    refine WP.region ?_
    refine Ops.y (v := .func _ _ _) (Y.move rfl) ?_
    refine Ops.y (v := .slice _ _ _) (Y.move rfl) ?_
    refine Ops.y (v := .int .i64 _) (Y.move rfl) ?_
    refine Ops.y (v := .pointer (some ⟨_, _, none⟩)) (Y.idxEl E1 Tryz.underlying26 Tryz.sizeOf28 rfl rfl (Int.natCast_nonneg _) rfl) ?_
    refine Ops.y (v := .agg #[_, _, _, _]) (Y.loadv ty_28 rfl (I.rd (E1.rd.part 0 4)) rfl rfl) ?_
    refine Ops.go (O.callcv I ent rfl (hp ⟨w, B.h⟩ I.base_ok (Heap.le.refl _) l.xs[k] (List.getElem_mem hk')) rfl ?_)
    intro w I
    refine Ops.nil ?_
    refine WP.cond rfl (fun hb => ?_) (fun hb => ?_)
    · refine WP.seq ?_
      refine WP.region ?_
      refine Ops.y (v := .int .i64 _) (Y.move rfl) ?_
      refine Ops.y (v := .int .i64 _) (Y.assign rfl) ?_
      refine Ops.nil ?_
      refine WP.ret ?_
      repeat (first | refine thenE_ret ?_ | refine blockE_ret ?_)
      exact retQ.mk (vs := [.int .i64 _]) rfl ⟨rfl, trivial⟩ I.ext_of (by simp only [tup]; rw [idxOf_some hk' (fun j hj => hn j hj (by omega)) hb])
    refine WP.skip ?_
    refine WP.region ?_
    refine Ops.y (v := .int .i64 _) (Y.addi rfl rfl ⟨by omega, by omega⟩) ?_
    refine Ops.y (v := .int .i64 _) (Y.move rfl) ?_
    refine Ops.nil ?_
    exact ⟨k + 1, ⟨⟨rfl, rfl, rfl, rfl, trivial⟩, I, by omega, fun j hj hj' => by
      rcases Nat.lt_succ_iff_lt_or_eq.1 hj with h' | h'
      · exact hn j h' hj'
      · subst h'; exact hb⟩, by omega⟩
  refine WP.exit ?_
  refine WP.seq ?_
  refine WP.region ?_
  refine Ops.y (v := .int .i64 _) (Y.assign rfl) ?_
  refine Ops.nil ?_
  refine WP.ret ?_
  repeat (first | refine thenE_ret ?_ | refine blockE_ret ?_)
  exact retQ.mk (vs := [.int .i64 _]) rfl ⟨rfl, trivial⟩ I.ext_of (by simp only [tup]; rw [idxOf_none]; intro x hx; obtain ⟨j, hj, rfl⟩ := List.getElem_of_mem hx; exact hn j (by omega) hj)
theorem ContainsFuncFct_ok (B : Base) (hB : B.ok) (l : Sl Fct) (hl : l.Is 4 Fct.enc B.h) (f : FuncId) (ent : Enters Tryz.prog f) (fs cs : List Value) (p : Fct → Bool) (hp : PredFn Tryz.prog f fs cs B.h Fct.val l.xs p) :
    Fn Tryz.prog 79 [l.val, .func (.func f) fs.toArray cs.toArray] B (fun v _ => v = .bool (l.xs.any p)) := by
  refine Fn.of Tryz.func79 rfl Tryz.ntmps79 (by kernel_rfl) (by simp) ?_
  intro e
  have I := Inv.start hB
  refine WP.seq ?_
  refine WP.region ?_
  refine Ops.y (v := .bool _) (Y.assign rfl) ?_
  refine Ops.nil ?_
  refine WP.seq ?_
  refine WP.region ?_
  refine Ops.y (v := .slice _ _ _) (Y.move rfl) ?_
  refine Ops.y (v := .func _ _ _) (Y.move rfl) ?_
  refine Ops.go (O.callv I Tryz.call107 (IndexFuncFct_ok _ I.base_ok l hl f ent fs cs p hp) rfl ?_)
  intro w I
  refine Ops.y (v := .bool (decide _)) (Y.gei rfl rfl) ?_
  refine Ops.y (v := .bool _) (Y.assign rfl) ?_
  refine Ops.nil ?_
  refine WP.ret ?_
  repeat (first | refine thenE_ret ?_ | refine blockE_ret ?_)
  exact retQ.mk (vs := [.bool _]) rfl ⟨rfl, trivial⟩ I.ext_of (by simp only [tup]; rw [idxOf_any])
end Go.TF
end
section
/- The contracts of package rule and of the references beside it. -/
namespace Go.TF
open Go Go.RowKit Go.Proofs
set_option maxRecDepth 10000

theorem term_ok (B : Base) (hB : B.ok) (t : Trm) : Fn Tryz.prog 124 [t.val] B (fun v _ => v = .bool (termOk t)) := by
  refine Fn.of Tryz.func124 rfl Tryz.ntmps124 (by kernel_rfl) (by simp) ?_
  intro e
  have I := Inv.start hB
  refine WP.seq ?_
  refine WP.region ?_
  refine Ops.go (O.box (v := .agg #[_, _]) I rfl rfl ?_)
  intro b1 w I
  refine Ops.y (v := .bool _) (Y.assign rfl) ?_
  refine Ops.nil ?_
  refine WP.seq ?_
  refine WP.seq ?_
  refine WP.region ?_
  refine Ops.y (v := .pointer (some ⟨_, _, none⟩)) (Y.fa0 fa_89_0 rfl) ?_
  refine Ops.y (v := .bool _) (Y.loadv ty_4 rfl (I.rdbox 0 rfl 0 1) rfl rfl) ?_
  refine Ops.nil ?_
  by_cases h1 : 0 ≤ t.n
  · refine WP.cond rfl (fun hv => ?_) (fun hv => ?_)
    · refine WP.seq ?_
      refine WP.region ?_
      refine Ops.y (v := .pointer (some ⟨_, _, none⟩)) (Y.fa fa_89_1 rfl) ?_
      refine Ops.y (v := .int .i64 _) (Y.loadv ty_3 rfl (I.rdbox 0 rfl 1 1) rfl rfl) ?_
      refine Ops.y (v := .bool true) (Y.dec_t (Y.gei rfl rfl) (h1)) ?_
      refine Ops.y (v := .bool _) (Y.move rfl) ?_
      refine Ops.ygt rfl (v := .pointer (some ⟨_, _, none⟩)) (Y.fa fa_89_1 rfl) ?_
      refine Ops.ygt rfl (v := .int .i64 _) (Y.loadv ty_3 rfl (I.rdbox 0 rfl 1 1) rfl rfl) ?_
      refine Ops.ygt rfl (v := .bool (decide _)) (Y.lti rfl rfl) ?_
      refine Ops.y (v := .bool _) (Y.pick_t rfl rfl) ?_
      refine Ops.y (v := .bool _) (Y.assign rfl) ?_
      refine Ops.nil ?_
      refine WP.ret ?_
      repeat (first | refine thenE_ret ?_ | refine blockE_ret ?_)
      exact retQ.mk (vs := [.bool _]) rfl ⟨rfl, trivial⟩ I.ext_of (by simp [tup, termOk, hv, h1])
    refine WP.skip ?_
    refine WP.seq ?_
    refine WP.region ?_
    refine Ops.y (v := .pointer (some ⟨_, _, none⟩)) (Y.fa fa_89_1 rfl) ?_
    refine Ops.y (v := .int .i64 _) (Y.loadv ty_3 rfl (I.rdbox 0 rfl 1 1) rfl rfl) ?_
    refine Ops.y (v := .bool true) (Y.dec_t (Y.gei rfl rfl) (h1)) ?_
    refine Ops.y (v := .bool _) (Y.move rfl) ?_
    refine Ops.ygt rfl (v := .pointer (some ⟨_, _, none⟩)) (Y.fa fa_89_1 rfl) ?_
    refine Ops.ygt rfl (v := .int .i64 _) (Y.loadv ty_3 rfl (I.rdbox 0 rfl 1 1) rfl rfl) ?_
    refine Ops.ygt rfl (v := .bool (decide _)) (Y.lei rfl rfl) ?_
    refine Ops.y (v := .bool _) (Y.pick_t rfl rfl) ?_
    refine Ops.y (v := .bool _) (Y.assign rfl) ?_
    refine Ops.nil ?_
    refine WP.ret ?_
    repeat (first | refine thenE_ret ?_ | refine blockE_ret ?_)
    exact retQ.mk (vs := [.bool _]) rfl ⟨rfl, trivial⟩ I.ext_of (by simp [tup, termOk, hv, h1])
  · refine WP.cond rfl (fun hv => ?_) (fun hv => ?_)
    · refine WP.seq ?_
      refine WP.region ?_
      refine Ops.y (v := .pointer (some ⟨_, _, none⟩)) (Y.fa fa_89_1 rfl) ?_
      refine Ops.y (v := .int .i64 _) (Y.loadv ty_3 rfl (I.rdbox 0 rfl 1 1) rfl rfl) ?_
      refine Ops.y (v := .bool false) (Y.dec_f (Y.gei rfl rfl) (h1)) ?_
      refine Ops.y (v := .bool _) (Y.move rfl) ?_
      refine Ops.gf rfl ?_
      refine Ops.gf rfl ?_
      refine Ops.gf rfl ?_
      refine Ops.y (v := .bool _) (Y.pick_f rfl rfl) ?_
      refine Ops.y (v := .bool _) (Y.assign rfl) ?_
      refine Ops.nil ?_
      refine WP.ret ?_
      repeat (first | refine thenE_ret ?_ | refine blockE_ret ?_)
      exact retQ.mk (vs := [.bool _]) rfl ⟨rfl, trivial⟩ I.ext_of (by simp [tup, termOk, hv, h1])
    refine WP.skip ?_
    refine WP.seq ?_
    refine WP.region ?_
    refine Ops.y (v := .pointer (some ⟨_, _, none⟩)) (Y.fa fa_89_1 rfl) ?_
    refine Ops.y (v := .int .i64 _) (Y.loadv ty_3 rfl (I.rdbox 0 rfl 1 1) rfl rfl) ?_
    refine Ops.y (v := .bool false) (Y.dec_f (Y.gei rfl rfl) (h1)) ?_
    refine Ops.y (v := .bool _) (Y.move rfl) ?_
    refine Ops.gf rfl ?_
    refine Ops.gf rfl ?_
    refine Ops.gf rfl ?_
    refine Ops.y (v := .bool _) (Y.pick_f rfl rfl) ?_
    refine Ops.y (v := .bool _) (Y.assign rfl) ?_
    refine Ops.nil ?_
    refine WP.ret ?_
    repeat (first | refine thenE_ret ?_ | refine blockE_ret ?_)
    exact retQ.mk (vs := [.bool _]) rfl ⟨rfl, trivial⟩ I.ext_of (by simp [tup, termOk, hv, h1])
theorem args1_ok (B : Base) (hB : B.ok) (t : Trm) : Fn Tryz.prog 123 [t.val] B (fun v _ => v = .bool !(termOk t)) := by
  refine Fn.of Tryz.func123 rfl Tryz.ntmps123 (by kernel_rfl) (by simp) ?_
  intro e
  have I := Inv.start hB
  refine WP.seq ?_
  refine WP.region ?_
  refine Ops.go (O.box (v := .agg #[_, _]) I rfl rfl ?_)
  intro b1 w I
  refine Ops.y (v := .bool _) (Y.assign rfl) ?_
  refine Ops.nil ?_
  refine WP.seq ?_
  refine WP.region ?_
  refine Ops.y (v := .agg #[_, _]) (Y.loadv ty_89 rfl (I.rdbox 0 rfl 0 2) rfl rfl) ?_
  refine Ops.go (O.callv I Tryz.call124 (term_ok _ I.base_ok t) rfl ?_)
  intro w I
  refine Ops.y (v := .bool _) (Y.not rfl) ?_
  refine Ops.y (v := .bool _) (Y.assign rfl) ?_
  refine Ops.nil ?_
  refine WP.ret ?_
  repeat (first | refine thenE_ret ?_ | refine blockE_ret ?_)
  exact retQ.mk (vs := [.bool _]) rfl ⟨rfl, trivial⟩ I.ext_of (rfl)
theorem args_ok (B : Base) (hB : B.ok) (l : Sl Trm) (hl : Trms l B.h) : Fn Tryz.prog 116 [l.val] B (fun v _ => v = .int .i64 (argsErr l.xs)) := by
  refine Fn.of Tryz.func116 rfl Tryz.ntmps116 (by kernel_rfl) (by simp) ?_
  intro e
  have I := Inv.start hB
  refine WP.seq ?_
  refine WP.region ?_
  refine Ops.y (v := .int .i64 _) (Y.assign rfl) ?_
  refine Ops.nil ?_
  refine WP.seq ?_
  refine WP.seq ?_
  refine WP.region ?_
  refine Ops.y (v := .slice _ _ _) (Y.move rfl) ?_
  refine Ops.go (O.callv I Tryz.call122 (ContainsFuncTrm_ok _ I.base_ok l hl 123 Tryz.call123 [] [] (fun t => !termOk t) (fun B' hB' _ t _ => args1_ok B' hB' t)) rfl ?_)
  intro w I
  refine Ops.nil ?_
  refine WP.cond rfl (fun h => ?_) (fun h => ?_)
  · refine WP.seq ?_
    refine WP.region ?_
    refine Ops.y (v := .int .i64 _) (Y.assign rfl) ?_
    refine Ops.nil ?_
    refine WP.ret ?_
    repeat (first | refine thenE_ret ?_ | refine blockE_ret ?_)
    exact retQ.mk (vs := [.int .i64 _]) rfl ⟨rfl, trivial⟩ I.ext_of (by simp only [tup, argsErr]; rw [if_neg]; intro h2; simp only [List.any_eq_true, List.all_eq_true] at h h2; obtain ⟨x, hx, h3⟩ := h; simp [h2 x hx] at h3)
  refine WP.skip ?_
  refine WP.seq ?_
  refine WP.region ?_
  refine Ops.y (v := .int .i64 _) (Y.assign rfl) ?_
  refine Ops.nil ?_
  refine WP.ret ?_
  repeat (first | refine thenE_ret ?_ | refine blockE_ret ?_)
  exact retQ.mk (vs := [.int .i64 _]) rfl ⟨rfl, trivial⟩ I.ext_of (by simp only [tup, argsErr]; rw [if_pos]; simp only [List.any_eq_false, List.all_eq_true] at h ⊢; intro x hx; simpa using h x hx)
theorem argsError_ok (B : Base) (hB : B.ok) (l : Sl Trm) (hl : Trms l B.h) : Fn Tryz.prog 96 [l.val] B (fun v _ => v = .int .i64 (argsErr l.xs)) := by
  refine Fn.of Tryz.func96 rfl Tryz.ntmps96 (by kernel_rfl) (by simp) ?_
  intro e
  have I := Inv.start hB
  refine WP.seq ?_
  refine WP.region ?_
  refine Ops.y (v := .int .i64 _) (Y.assign rfl) ?_
  refine Ops.nil ?_
  refine WP.seq ?_
  refine WP.seq ?_
  refine WP.region ?_
  refine Ops.y (v := .int .i64 _) (Y.assign rfl) ?_
  refine Ops.nil ?_
  refine WP.block ?_
  refine WP.loopE (σ := Nat) (fun k => [(0, l.val), (3, .int .i64 k)]) (fun k w => Inv B B.h [] w ∧ k ≤ l.xs.length ∧ ∀ j (hj : j < k) (hj' : j < l.xs.length), termOk l.xs[j] = true) (fun k => l.xs.length - k)
    ⟨0, ⟨rfl, rfl, trivial⟩, I, Nat.zero_le _, fun j hj => (by omega)⟩ ?_
  rintro k e w ⟨I, hk, hn⟩
  have hsm := hl.small
  refine WP.seq ?_
  refine WP.seq ?_
  refine WP.region ?_
  refine Ops.y (v := .int .i64 _) (Y.move rfl) ?_
  refine Ops.y (v := .slice _ _ _) (Y.move rfl) ?_
  refine Ops.y (v := .int .i64 _) (Y.lens Tryz.underlying41 rfl) ?_
  refine Ops.y (v := .bool (decide _)) (Y.lti rfl rfl) ?_
  refine Ops.nil ?_
  refine WP.cond_dec rfl (fun h => ?_) (fun h => ?_)
  · have hk' : k < l.xs.length := by omega
    have E1 := hl.at hk'
    refine WP.skip ?_
    refine WP.seq ?_
    refine WP.block ?_
    refine WP.seq ?_
    refine WP.region ?_
    refine Ops.y (v := .int .i64 _) (Y.assign rfl) ?_
    refine Ops.nil ?_
    refine WP.seq ?_
    refine WP.seq ?_
    refine WP.region ?_
    refine Ops.y (v := .slice _ _ _) (Y.move rfl) ?_
    refine Ops.y (v := .int .i64 _) (Y.move rfl) ?_
    refine Ops.y (v := .pointer (some ⟨_, _, none⟩)) (Y.idxEl E1 Tryz.underlying41 Tryz.sizeOf89 rfl rfl (Int.natCast_nonneg _) rfl) ?_
    refine Ops.y (v := .pointer (some ⟨_, _, none⟩)) (Y.fa0 fa_89_0 rfl) ?_
    refine Ops.y (v := .bool _) (Y.loadv ty_4 rfl (I.rd (E1.rd.part 0 1)) rfl rfl) ?_
    refine Ops.nil ?_
    refine WP.cutK (σ := Unit) (fun _ => [(0, l.val), (3, .int .i64 k), (4, .int .i64 (if l.xs[k].var then 2 else 4))]) (fun _ w => Inv B B.h [] w) ?_ ?_
    · refine WP.cond rfl (fun hv => ?_) (fun hv => ?_)
      · refine WP.region ?_
        refine Ops.y (v := .int .i64 _) (Y.assign rfl) ?_
        refine Ops.nil ?_
        exact ⟨(), ⟨rfl, rfl, by simp [hv]; rfl, trivial⟩, I⟩
      refine WP.skip ?_
      exact ⟨(), ⟨rfl, rfl, by simp [hv]; rfl, trivial⟩, I⟩
    rintro _ e w I
    refine WP.seq ?_
    refine WP.region ?_
    refine Ops.y (v := .slice _ _ _) (Y.move rfl) ?_
    refine Ops.y (v := .int .i64 _) (Y.move rfl) ?_
    refine Ops.y (v := .pointer (some ⟨_, _, none⟩)) (Y.idxEl E1 Tryz.underlying41 Tryz.sizeOf89 rfl rfl (Int.natCast_nonneg _) rfl) ?_
    refine Ops.y (v := .pointer (some ⟨_, _, none⟩)) (Y.fa fa_89_1 rfl) ?_
    refine Ops.y (v := .int .i64 _) (Y.loadv ty_3 rfl (I.rd (E1.rd.part 1 1)) rfl rfl) ?_
    refine Ops.y (v := .int .i64 _) (Y.move rfl) ?_
    refine Ops.go (O.callv I Tryz.call37 (within_ok _ I.base_ok _ _ _) rfl ?_)
    intro w I
    refine Ops.y (v := .bool (decide _)) (Y.notd rfl) ?_
    refine Ops.nil ?_
    refine WP.cond_dec rfl (fun hw => ?_) (fun hw => ?_)
    · refine WP.seq ?_
      refine WP.region ?_
      refine Ops.y (v := .int .i64 _) (Y.assign rfl) ?_
      refine Ops.nil ?_
      refine WP.ret ?_
      repeat (first | refine thenE_ret ?_ | refine blockE_ret ?_)
      exact retQ.mk (vs := [.int .i64 _]) rfl ⟨rfl, trivial⟩ I.ext_of (by simp only [tup, argsErr]; rw [if_neg]; intro h2; exact hw ((termOk_iff _).1 (List.all_eq_true.1 h2 _ (List.getElem_mem hk'))))
    refine WP.skip ?_
    refine WP.region ?_
    refine Ops.y (v := .int .i64 _) (Y.move rfl) ?_
    refine Ops.y (v := .int .i64 _) (Y.addi rfl rfl ⟨by omega, by omega⟩) ?_
    refine Ops.y (v := .int .i64 _) (Y.assign rfl) ?_
    refine Ops.nil ?_
    exact ⟨k + 1, ⟨⟨rfl, rfl, trivial⟩, I, by omega, fun j hj hj' => by
      rcases Nat.lt_succ_iff_lt_or_eq.1 hj with h' | h'
      · exact hn j h' hj'
      · subst h'; exact (termOk_iff _).2 (Decidable.not_not.1 hw)⟩, by omega⟩
  refine WP.exit ?_
  refine WP.seq ?_
  refine WP.region ?_
  refine Ops.y (v := .int .i64 _) (Y.assign rfl) ?_
  refine Ops.nil ?_
  refine WP.ret ?_
  repeat (first | refine thenE_ret ?_ | refine blockE_ret ?_)
  exact retQ.mk (vs := [.int .i64 _]) rfl ⟨rfl, trivial⟩ I.ext_of (by simp only [tup, argsErr]; rw [if_pos]; rw [List.all_eq_true]; intro x hx; obtain ⟨j, hj, rfl⟩ := List.getElem_of_mem hx; exact hn j (by omega) hj)
theorem Atom_ok (B : Base) (hB : B.ok) (l : Sl Prd) (hl : Prds l B.h) (a : Atm) (ha : a.In B.h) : Fn Tryz.prog 93 [l.val, a.val] B (fun v _ => v = .int .i64 (checkAtom l.xs a)) := by
  refine Fn.of Tryz.func93 rfl Tryz.ntmps93 (by kernel_rfl) (by simp) ?_
  intro e
  have I := Inv.start hB
  refine WP.seq ?_
  refine WP.region ?_
  refine Ops.go (O.box (v := .agg #[_, _]) I rfl rfl ?_)
  intro b3 w I
  refine Ops.y (v := .int .i64 _) (Y.assign rfl) ?_
  refine Ops.nil ?_
  have hsm := hl.small
  by_cases h1 : a.pred < 0
  · refine WP.seq ?_
    refine WP.seq ?_
    refine WP.region ?_
    refine Ops.y (v := .pointer (some ⟨_, _, none⟩)) (Y.fa0 fa_43_0 rfl) ?_
    refine Ops.y (v := .int .i64 _) (Y.loadv ty_3 rfl (I.rdbox 0 rfl 0 1) rfl rfl) ?_
    refine Ops.y (v := .bool true) (Y.dec_t (Y.lti rfl rfl) (h1)) ?_
    refine Ops.y (v := .bool _) (Y.move rfl) ?_
    refine Ops.gf rfl ?_
    refine Ops.gf rfl ?_
    refine Ops.gf rfl ?_
    refine Ops.gf rfl ?_
    refine Ops.gf rfl ?_
    refine Ops.y (v := .bool _) (Y.pick_t rfl rfl) ?_
    refine Ops.nil ?_
    refine WP.cond_t rfl ?_
    refine WP.seq ?_
    refine WP.region ?_
    refine Ops.y (v := .int .i64 _) (Y.assign rfl) ?_
    refine Ops.nil ?_
    refine WP.ret ?_
    repeat (first | refine thenE_ret ?_ | refine blockE_ret ?_)
    exact retQ.mk (vs := [.int .i64 _]) rfl ⟨rfl, trivial⟩ I.ext_of (by simp [tup, checkAtom, h1])
  refine WP.seq ?_
  refine WP.seq ?_
  refine WP.region ?_
  refine Ops.y (v := .pointer (some ⟨_, _, none⟩)) (Y.fa0 fa_43_0 rfl) ?_
  refine Ops.y (v := .int .i64 _) (Y.loadv ty_3 rfl (I.rdbox 0 rfl 0 1) rfl rfl) ?_
  refine Ops.y (v := .bool false) (Y.dec_f (Y.lti rfl rfl) (h1)) ?_
  refine Ops.y (v := .bool _) (Y.move rfl) ?_
  refine Ops.ygt rfl (v := .pointer (some ⟨_, _, none⟩)) (Y.fa0 fa_43_0 rfl) ?_
  refine Ops.ygt rfl (v := .int .i64 _) (Y.loadv ty_3 rfl (I.rdbox 0 rfl 0 1) rfl rfl) ?_
  refine Ops.ygt rfl (v := .slice _ _ _) (Y.move rfl) ?_
  refine Ops.ygt rfl (v := .int .i64 _) (Y.lens Tryz.underlying22 rfl) ?_
  refine Ops.ygt rfl (v := .bool (decide _)) (Y.gei rfl rfl) ?_
  refine Ops.y (v := .bool _) (Y.pick_f rfl rfl) ?_
  refine Ops.nil ?_
  refine WP.cond_dec rfl (fun h2 => ?_) (fun h2 => ?_)
  · refine WP.seq ?_
    refine WP.region ?_
    refine Ops.y (v := .int .i64 _) (Y.assign rfl) ?_
    refine Ops.nil ?_
    refine WP.ret ?_
    repeat (first | refine thenE_ret ?_ | refine blockE_ret ?_)
    exact retQ.mk (vs := [.int .i64 _]) rfl ⟨rfl, trivial⟩ I.ext_of (by simp [tup, checkAtom, h2])
  have hp : 0 ≤ a.pred := by omega
  have E1 := hl.at (i := a.pred.toNat) (by omega)
  have hE : predOf l.xs a.pred = l.xs[a.pred.toNat]'(by omega) := by have := predOf_get hp (by omega : a.pred < l.xs.length); rw [List.getElem?_eq_getElem (by omega)] at this; exact (Option.some.inj this).symm
  refine WP.skip ?_
  refine WP.seq ?_
  refine WP.seq ?_
  refine WP.regionQ mixed I (by kernel_rfl) ?_
  refine OpsQ.y (v := .pointer (some ⟨_, _, none⟩)) (fun w I => Y.fa fa_43_1 rfl) ?_
  refine OpsQ.y (v := .slice _ _ _) (fun w I => Y.loadv ty_41 rfl (I.rdbox 0 rfl 1 1) rfl rfl) ?_
  refine OpsQ.y (v := .int .i64 _) (fun w I => Y.lens Tryz.underlying41 rfl) ?_
  refine OpsQ.y (v := .slice _ _ _) (fun w I => Y.move rfl) ?_
  refine OpsQ.y (v := .pointer (some ⟨_, _, none⟩)) (fun w I => Y.fa0 fa_43_0 rfl) ?_
  refine OpsQ.y (v := .int .i64 _) (fun w I => Y.loadv ty_3 rfl (I.rdbox 0 rfl 0 1) rfl rfl) ?_
  refine OpsQ.y (v := .pointer (some ⟨_, _, none⟩)) (fun w I => Y.idxEl E1 Tryz.underlying22 Tryz.sizeOf40 rfl rfl hp rfl) ?_
  refine OpsQ.y (v := .pointer (some ⟨_, _, none⟩)) (fun w I => Y.fa fa_40_1 rfl) ?_
  refine OpsQ.y (v := .int .i64 _) (fun w I => Y.loadv ty_3 rfl (I.rd (E1.rd.part 1 1)) rfl rfl) ?_
  refine OpsQ.y (v := .bool (decide _)) (fun w I => Y.nei rfl rfl) ?_
  refine OpsQ.nil ?_
  intro w I
  refine WP.cond_dec rfl (fun h3 => ?_) (fun h3 => ?_)
  · refine WP.seq ?_
    refine WP.region ?_
    refine Ops.y (v := .int .i64 _) (Y.assign rfl) ?_
    refine Ops.nil ?_
    refine WP.ret ?_
    repeat (first | refine thenE_ret ?_ | refine blockE_ret ?_)
    exact retQ.mk (vs := [.int .i64 _]) rfl ⟨rfl, trivial⟩ I.ext_of (by simp only [tup, checkAtom, hE]; rw [if_neg (by omega), if_pos h3])
  refine WP.skip ?_
  refine WP.seq ?_
  refine WP.region ?_
  refine Ops.y (v := .pointer (some ⟨_, _, none⟩)) (Y.fa fa_43_1 rfl) ?_
  refine Ops.y (v := .slice _ _ _) (Y.loadv ty_41 rfl (I.rdbox 0 rfl 1 1) rfl rfl) ?_
  refine Ops.go (O.callv I Tryz.call116 (args_ok _ I.base_ok a.args ha) rfl ?_)
  intro w I
  refine Ops.y (v := .int .i64 _) (Y.assign rfl) ?_
  refine Ops.nil ?_
  refine WP.ret ?_
  repeat (first | refine thenE_ret ?_ | refine blockE_ret ?_)
  exact retQ.mk (vs := [.int .i64 _]) rfl ⟨rfl, trivial⟩ I.ext_of (by simp only [tup, checkAtom, hE]; rw [if_neg (by omega), if_neg h3])
theorem CheckAtom_ok (B : Base) (hB : B.ok) (l : Sl Prd) (hl : Prds l B.h) (a : Atm) (ha : a.In B.h) : Fn Tryz.prog 73 [l.val, a.val] B (fun v _ => v = .int .i64 (checkAtom l.xs a)) := by
  have hsm := hl.small
  refine Fn.of Tryz.func73 rfl Tryz.ntmps73 (by kernel_rfl) (by simp) ?_
  intro e
  have I := Inv.start hB
  refine WP.seq ?_
  refine WP.region ?_
  refine Ops.go (O.box (v := .agg #[_, _]) I rfl rfl ?_)
  intro b3 w I
  refine Ops.y (v := .int .i64 _) (Y.assign rfl) ?_
  refine Ops.nil ?_
  refine WP.seq ?_
  refine WP.seq ?_
  refine WP.region ?_
  refine Ops.y (v := .pointer (some ⟨_, _, none⟩)) (Y.fa0 fa_43_0 rfl) ?_
  refine Ops.y (v := .int .i64 _) (Y.loadv ty_3 rfl (I.rdbox 0 rfl 0 1) rfl rfl) ?_
  refine Ops.y (v := .slice _ _ _) (Y.move rfl) ?_
  refine Ops.y (v := .int .i64 _) (Y.lens Tryz.underlying22 rfl) ?_
  refine Ops.y (v := .int .i64 _) (Y.subi rfl rfl ⟨by omega, by omega⟩) ?_
  refine Ops.go (O.callv I Tryz.call37 (within_ok _ I.base_ok _ _ _) rfl ?_)
  intro w I
  refine Ops.y (v := .bool (decide _)) (Y.notd rfl) ?_
  refine Ops.nil ?_
  refine WP.cond_dec rfl (fun h1 => ?_) (fun h1 => ?_)
  · refine WP.seq ?_
    refine WP.region ?_
    refine Ops.y (v := .int .i64 _) (Y.assign rfl) ?_
    refine Ops.nil ?_
    refine WP.ret ?_
    repeat (first | refine thenE_ret ?_ | refine blockE_ret ?_)
    exact retQ.mk (vs := [.int .i64 _]) rfl ⟨rfl, trivial⟩ I.ext_of (by simp only [tup, checkAtom, within] at *; rw [if_pos (by omega)])
  have h1' : ¬ (a.pred < 0 ∨ (l.xs.length : Int) ≤ a.pred) := by simp only [within, Decidable.not_not] at h1; omega
  have hp : 0 ≤ a.pred := by omega
  have E1 := hl.at (i := a.pred.toNat) (by omega)
  have hE : predOf l.xs a.pred = l.xs[a.pred.toNat]'(by omega) := by have := predOf_get hp (by omega : a.pred < l.xs.length); rw [List.getElem?_eq_getElem (by omega)] at this; exact (Option.some.inj this).symm
  refine WP.skip ?_
  refine WP.seq ?_
  refine WP.seq ?_
  refine WP.regionQ mixed I (by kernel_rfl) ?_
  refine OpsQ.y (v := .pointer (some ⟨_, _, none⟩)) (fun w I => Y.fa fa_43_1 rfl) ?_
  refine OpsQ.y (v := .slice _ _ _) (fun w I => Y.loadv ty_41 rfl (I.rdbox 0 rfl 1 1) rfl rfl) ?_
  refine OpsQ.y (v := .int .i64 _) (fun w I => Y.lens Tryz.underlying41 rfl) ?_
  refine OpsQ.y (v := .slice _ _ _) (fun w I => Y.move rfl) ?_
  refine OpsQ.y (v := .pointer (some ⟨_, _, none⟩)) (fun w I => Y.fa0 fa_43_0 rfl) ?_
  refine OpsQ.y (v := .int .i64 _) (fun w I => Y.loadv ty_3 rfl (I.rdbox 0 rfl 0 1) rfl rfl) ?_
  refine OpsQ.y (v := .pointer (some ⟨_, _, none⟩)) (fun w I => Y.idxEl E1 Tryz.underlying22 Tryz.sizeOf40 rfl rfl hp rfl) ?_
  refine OpsQ.y (v := .pointer (some ⟨_, _, none⟩)) (fun w I => Y.fa fa_40_1 rfl) ?_
  refine OpsQ.y (v := .int .i64 _) (fun w I => Y.loadv ty_3 rfl (I.rd (E1.rd.part 1 1)) rfl rfl) ?_
  refine OpsQ.y (v := .bool (decide _)) (fun w I => Y.nei rfl rfl) ?_
  refine OpsQ.nil ?_
  intro w I
  refine WP.cond_dec rfl (fun h3 => ?_) (fun h3 => ?_)
  · refine WP.seq ?_
    refine WP.region ?_
    refine Ops.y (v := .int .i64 _) (Y.assign rfl) ?_
    refine Ops.nil ?_
    refine WP.ret ?_
    repeat (first | refine thenE_ret ?_ | refine blockE_ret ?_)
    exact retQ.mk (vs := [.int .i64 _]) rfl ⟨rfl, trivial⟩ I.ext_of (by simp only [tup, checkAtom, hE]; rw [if_neg h1', if_pos h3])
  refine WP.skip ?_
  refine WP.seq ?_
  refine WP.region ?_
  refine Ops.y (v := .pointer (some ⟨_, _, none⟩)) (Y.fa fa_43_1 rfl) ?_
  refine Ops.y (v := .slice _ _ _) (Y.loadv ty_41 rfl (I.rdbox 0 rfl 1 1) rfl rfl) ?_
  refine Ops.go (O.callv I Tryz.call96 (argsError_ok _ I.base_ok a.args ha) rfl ?_)
  intro w I
  refine Ops.y (v := .int .i64 _) (Y.assign rfl) ?_
  refine Ops.nil ?_
  refine WP.ret ?_
  repeat (first | refine thenE_ret ?_ | refine blockE_ret ?_)
  exact retQ.mk (vs := [.int .i64 _]) rfl ⟨rfl, trivial⟩ I.ext_of (by simp only [tup, checkAtom, hE]; rw [if_neg h1', if_neg h3])
theorem standsR_ok (B : Base) (hB : B.ok) (a : Atm) (ha : a.In B.h) (v : Int) : Fn Tryz.prog 74 [a.val, .int .i64 v] B (fun r _ => r = .bool (standsIn a v)) := by
  have hsm : a.args.xs.length ≤ 140737488355328 := Sl.Is.small ha
  refine Fn.of Tryz.func74 rfl Tryz.ntmps74 (by kernel_rfl) (by simp) ?_
  intro e
  have I := Inv.start hB
  refine WP.seq ?_
  refine WP.region ?_
  refine Ops.go (O.box (v := .agg #[_, _]) I rfl rfl ?_)
  intro b2 w I
  refine Ops.y (v := .bool _) (Y.assign rfl) ?_
  refine Ops.nil ?_
  refine WP.seq ?_
  refine WP.seq ?_
  refine WP.region ?_
  refine Ops.y (v := .int .i64 _) (Y.assign rfl) ?_
  refine Ops.nil ?_
  refine WP.block ?_
  refine WP.loopE (σ := Nat) (fun k => [(1, .int .i64 v), (2, .pointer (some ⟨b2, 0, none⟩)), (5, .int .i64 k)]) (fun k w => Inv B B.h [box b2 a.enc 43] w ∧ k ≤ a.args.xs.length ∧ ∀ j (hj : j < k) (hj' : j < a.args.xs.length), (a.args.xs[j].var && decide (a.args.xs[j].n = v)) = false) (fun k => a.args.xs.length - k)
    ⟨0, ⟨rfl, rfl, rfl, trivial⟩, I, Nat.zero_le _, fun j hj => (by omega)⟩ ?_
  rintro k e w ⟨I, hk, hn⟩
  refine WP.seq ?_
  refine WP.seq ?_
  refine WP.region ?_
  refine Ops.y (v := .int .i64 _) (Y.move rfl) ?_
  refine Ops.y (v := .pointer (some ⟨_, _, none⟩)) (Y.fa fa_43_1 rfl) ?_
  refine Ops.y (v := .slice _ _ _) (Y.loadv ty_41 rfl (I.rdbox 0 rfl 1 1) rfl rfl) ?_
  refine Ops.y (v := .int .i64 _) (Y.lens Tryz.underlying41 rfl) ?_
  refine Ops.y (v := .bool (decide _)) (Y.lti rfl rfl) ?_
  refine Ops.nil ?_
  refine WP.cond_dec rfl (fun h => ?_) (fun h => ?_)
  · have hk' : k < a.args.xs.length := by omega
    have E1 := Sl.Is.at ha hk'
    have step : (a.args.xs[k].var && decide (a.args.xs[k].n = v)) = false → ∀ j (hj : j < k + 1) (hj' : j < a.args.xs.length), (a.args.xs[j].var && decide (a.args.xs[j].n = v)) = false := fun hb j hj hj' => by
      rcases Nat.lt_succ_iff_lt_or_eq.1 hj with h' | h'
      · exact hn j h' hj'
      · subst h'; exact hb
    by_cases hv : a.args.xs[k].var = true
    · refine WP.skip ?_
      refine WP.seq ?_
      refine WP.block ?_
      refine WP.seq ?_
      refine WP.region ?_
      refine Ops.y (v := .pointer (some ⟨_, _, none⟩)) (Y.fa fa_43_1 rfl) ?_
      refine Ops.y (v := .slice _ _ _) (Y.loadv ty_41 rfl (I.rdbox 0 rfl 1 1) rfl rfl) ?_
      refine Ops.y (v := .int .i64 _) (Y.move rfl) ?_
      refine Ops.y (v := .pointer (some ⟨_, _, none⟩)) (Y.idxEl E1 Tryz.underlying41 Tryz.sizeOf89 rfl rfl (Int.natCast_nonneg _) rfl) ?_
      refine Ops.y (v := .pointer (some ⟨_, _, none⟩)) (Y.fa0 fa_89_0 rfl) ?_
      refine Ops.y (v := .bool true) (Y.b (Y.loadv ty_4 rfl (I.rd (E1.rd.part 0 1)) rfl rfl) (hv)) ?_
      refine Ops.y (v := .bool _) (Y.move rfl) ?_
      refine Ops.ygt rfl (v := .pointer (some ⟨_, _, none⟩)) (Y.fa fa_43_1 rfl) ?_
      refine Ops.ygt rfl (v := .slice _ _ _) (Y.loadv ty_41 rfl (I.rdbox 0 rfl 1 1) rfl rfl) ?_
      refine Ops.ygt rfl (v := .int .i64 _) (Y.move rfl) ?_
      refine Ops.ygt rfl (v := .pointer (some ⟨_, _, none⟩)) (Y.idxEl E1 Tryz.underlying41 Tryz.sizeOf89 rfl rfl (Int.natCast_nonneg _) rfl) ?_
      refine Ops.ygt rfl (v := .pointer (some ⟨_, _, none⟩)) (Y.fa fa_89_1 rfl) ?_
      refine Ops.ygt rfl (v := .int .i64 _) (Y.loadv ty_3 rfl (I.rd (E1.rd.part 1 1)) rfl rfl) ?_
      refine Ops.ygt rfl (v := .int .i64 _) (Y.move rfl) ?_
      refine Ops.ygt rfl (v := .bool (decide _)) (Y.eqi rfl rfl) ?_
      refine Ops.y (v := .bool _) (Y.pick_t rfl rfl) ?_
      refine Ops.nil ?_
      refine WP.cond_dec rfl (fun hb => ?_) (fun hb => ?_)
      · refine WP.seq ?_
        refine WP.region ?_
        refine Ops.y (v := .bool _) (Y.assign rfl) ?_
        refine Ops.nil ?_
        refine WP.ret ?_
        repeat (first | refine thenE_ret ?_ | refine blockE_ret ?_)
        exact retQ.mk (vs := [.bool _]) rfl ⟨rfl, trivial⟩ I.ext_of (by simp only [tup, standsIn]; rw [List.any_eq_true.2 ⟨_, List.getElem_mem hk', by simp [hv, hb]⟩])
      refine WP.skip ?_
      refine WP.region ?_
      refine Ops.y (v := .int .i64 _) (Y.move rfl) ?_
      refine Ops.y (v := .int .i64 _) (Y.addi rfl rfl ⟨by omega, by omega⟩) ?_
      refine Ops.y (v := .int .i64 _) (Y.assign rfl) ?_
      refine Ops.nil ?_
      exact ⟨k + 1, ⟨⟨rfl, rfl, rfl, trivial⟩, I, by omega, step (by simp [hb])⟩, by omega⟩
    · refine WP.skip ?_
      refine WP.seq ?_
      refine WP.block ?_
      refine WP.seq ?_
      refine WP.region ?_
      refine Ops.y (v := .pointer (some ⟨_, _, none⟩)) (Y.fa fa_43_1 rfl) ?_
      refine Ops.y (v := .slice _ _ _) (Y.loadv ty_41 rfl (I.rdbox 0 rfl 1 1) rfl rfl) ?_
      refine Ops.y (v := .int .i64 _) (Y.move rfl) ?_
      refine Ops.y (v := .pointer (some ⟨_, _, none⟩)) (Y.idxEl E1 Tryz.underlying41 Tryz.sizeOf89 rfl rfl (Int.natCast_nonneg _) rfl) ?_
      refine Ops.y (v := .pointer (some ⟨_, _, none⟩)) (Y.fa0 fa_89_0 rfl) ?_
      refine Ops.y (v := .bool false) (Y.b (Y.loadv ty_4 rfl (I.rd (E1.rd.part 0 1)) rfl rfl) ((by simpa using hv))) ?_
      refine Ops.y (v := .bool _) (Y.move rfl) ?_
      refine Ops.gf rfl ?_
      refine Ops.gf rfl ?_
      refine Ops.gf rfl ?_
      refine Ops.gf rfl ?_
      refine Ops.gf rfl ?_
      refine Ops.gf rfl ?_
      refine Ops.gf rfl ?_
      refine Ops.gf rfl ?_
      refine Ops.y (v := .bool _) (Y.pick_f rfl rfl) ?_
      refine Ops.nil ?_
      refine WP.cond_f rfl ?_
      refine WP.skip ?_
      refine WP.region ?_
      refine Ops.y (v := .int .i64 _) (Y.move rfl) ?_
      refine Ops.y (v := .int .i64 _) (Y.addi rfl rfl ⟨by omega, by omega⟩) ?_
      refine Ops.y (v := .int .i64 _) (Y.assign rfl) ?_
      refine Ops.nil ?_
      exact ⟨k + 1, ⟨⟨rfl, rfl, rfl, trivial⟩, I, by omega, step (by simp [hv])⟩, by omega⟩
  refine WP.exit ?_
  refine WP.seq ?_
  refine WP.region ?_
  refine Ops.y (v := .bool _) (Y.assign rfl) ?_
  refine Ops.nil ?_
  refine WP.ret ?_
  repeat (first | refine thenE_ret ?_ | refine blockE_ret ?_)
  exact retQ.mk (vs := [.bool _]) rfl ⟨rfl, trivial⟩ I.ext_of (by simp only [tup, standsIn]; rw [List.any_eq_false.2]; intro x hx; obtain ⟨j, hj, rfl⟩ := List.getElem_of_mem hx; simpa using hn j (by omega) hj)
theorem boundR_ok (B : Base) (hB : B.ok) (r : Rul) (hr : Ltls r.body B.h) (v : Int) : Fn Tryz.prog 75 [r.val, .int .i64 v] B (fun x _ => x = .bool (boundIn r v)) := by
  have hsm := hr.is.small
  refine Fn.of Tryz.func75 rfl Tryz.ntmps75 (by kernel_rfl) (by simp) ?_
  intro e
  have I := Inv.start hB
  refine WP.seq ?_
  refine WP.region ?_
  refine Ops.go (O.box (v := .agg #[_, _, _, _, _]) I rfl rfl ?_)
  intro b2 w I
  refine Ops.y (v := .bool _) (Y.assign rfl) ?_
  refine Ops.nil ?_
  refine WP.seq ?_
  refine WP.seq ?_
  refine WP.region ?_
  refine Ops.y (v := .int .i64 _) (Y.assign rfl) ?_
  refine Ops.nil ?_
  refine WP.block ?_
  refine WP.loopE (σ := Nat) (fun k => [(1, .int .i64 v), (2, .pointer (some ⟨b2, 0, none⟩)), (5, .int .i64 k)]) (fun k w => Inv B B.h [box b2 r.enc 46] w ∧ k ≤ r.body.xs.length ∧ ∀ j (hj : j < k) (hj' : j < r.body.xs.length), (!r.body.xs[j].neg && standsIn r.body.xs[j].atom v) = false) (fun k => r.body.xs.length - k)
    ⟨0, ⟨rfl, rfl, rfl, trivial⟩, I, Nat.zero_le _, fun j hj => (by omega)⟩ ?_
  rintro k e w ⟨I, hk, hn⟩
  refine WP.seq ?_
  refine WP.seq ?_
  refine WP.region ?_
  refine Ops.y (v := .int .i64 _) (Y.move rfl) ?_
  refine Ops.y (v := .pointer (some ⟨_, _, none⟩)) (Y.fa fa_46_3 rfl) ?_
  refine Ops.y (v := .slice _ _ _) (Y.loadv ty_44 rfl (I.rdbox 0 rfl 4 1) rfl rfl) ?_
  refine Ops.y (v := .int .i64 _) (Y.lens Tryz.underlying44 rfl) ?_
  refine Ops.y (v := .bool (decide _)) (Y.lti rfl rfl) ?_
  refine Ops.nil ?_
  refine WP.cond_dec rfl (fun h => ?_) (fun h => ?_)
  · have hk' : k < r.body.xs.length := by omega
    have E1 := hr.is.at hk'
    have step : (!r.body.xs[k].neg && standsIn r.body.xs[k].atom v) = false → ∀ j (hj : j < k + 1) (hj' : j < r.body.xs.length), (!r.body.xs[j].neg && standsIn r.body.xs[j].atom v) = false := fun hb j hj hj' => by
      rcases Nat.lt_succ_iff_lt_or_eq.1 hj with h' | h'
      · exact hn j h' hj'
      · subst h'; exact hb
    cases hv : r.body.xs[k].neg
    · refine WP.skip ?_
      refine WP.seq ?_
      refine WP.block ?_
      refine WP.seq ?_
      refine WP.region ?_
      refine Ops.y (v := .pointer (some ⟨_, _, none⟩)) (Y.fa fa_46_3 rfl) ?_
      refine Ops.y (v := .slice _ _ _) (Y.loadv ty_44 rfl (I.rdbox 0 rfl 4 1) rfl rfl) ?_
      refine Ops.y (v := .int .i64 _) (Y.move rfl) ?_
      refine Ops.y (v := .pointer (some ⟨_, _, none⟩)) (Y.idxEl E1 Tryz.underlying44 Tryz.sizeOf61 rfl rfl (Int.natCast_nonneg _) rfl) ?_
      refine Ops.y (v := .pointer (some ⟨_, _, none⟩)) (Y.fa0 fa_61_0 rfl) ?_
      refine Ops.y (v := .bool false) (Y.b (Y.loadv ty_4 rfl (I.rd (E1.rd.part 0 1)) rfl rfl) (hv)) ?_
      refine Ops.y (v := .bool true) (Y.not (b := false) rfl) ?_
      refine Ops.y (v := .bool _) (Y.move rfl) ?_
      refine Ops.ygt rfl (v := .pointer (some ⟨_, _, none⟩)) (Y.fa fa_46_3 rfl) ?_
      refine Ops.ygt rfl (v := .slice _ _ _) (Y.loadv ty_44 rfl (I.rdbox 0 rfl 4 1) rfl rfl) ?_
      refine Ops.ygt rfl (v := .int .i64 _) (Y.move rfl) ?_
      refine Ops.ygt rfl (v := .pointer (some ⟨_, _, none⟩)) (Y.idxEl E1 Tryz.underlying44 Tryz.sizeOf61 rfl rfl (Int.natCast_nonneg _) rfl) ?_
      refine Ops.ygt rfl (v := .pointer (some ⟨_, _, none⟩)) (Y.fa fa_61_1 rfl) ?_
      refine Ops.ygt rfl (v := .agg #[_, _]) (Y.loadv ty_43 rfl (I.rd (E1.rd.part 1 2)) rfl rfl) ?_
      refine Ops.ygt rfl (v := .int .i64 _) (Y.move rfl) ?_
      refine Ops.gt rfl (O.callv I Tryz.call74 (standsR_ok _ I.base_ok r.body.xs[k].atom (hr.each _ (List.getElem_mem hk')) v) rfl ?_)
      intro w I
      refine Ops.y (v := .bool _) (Y.pick_t rfl rfl) ?_
      refine Ops.nil ?_
      refine WP.cond rfl (fun hb => ?_) (fun hb => ?_)
      · refine WP.seq ?_
        refine WP.region ?_
        refine Ops.y (v := .bool _) (Y.assign rfl) ?_
        refine Ops.nil ?_
        refine WP.ret ?_
        repeat (first | refine thenE_ret ?_ | refine blockE_ret ?_)
        exact retQ.mk (vs := [.bool _]) rfl ⟨rfl, trivial⟩ I.ext_of (by simp only [tup, boundIn]; rw [List.any_eq_true.2 ⟨_, List.getElem_mem hk', by simp [hv, hb]⟩])
      refine WP.skip ?_
      refine WP.region ?_
      refine Ops.y (v := .int .i64 _) (Y.move rfl) ?_
      refine Ops.y (v := .int .i64 _) (Y.addi rfl rfl ⟨by omega, by omega⟩) ?_
      refine Ops.y (v := .int .i64 _) (Y.assign rfl) ?_
      refine Ops.nil ?_
      exact ⟨k + 1, ⟨⟨rfl, rfl, rfl, trivial⟩, I, by omega, step (by simp [hb])⟩, by omega⟩
    · refine WP.skip ?_
      refine WP.seq ?_
      refine WP.block ?_
      refine WP.seq ?_
      refine WP.region ?_
      refine Ops.y (v := .pointer (some ⟨_, _, none⟩)) (Y.fa fa_46_3 rfl) ?_
      refine Ops.y (v := .slice _ _ _) (Y.loadv ty_44 rfl (I.rdbox 0 rfl 4 1) rfl rfl) ?_
      refine Ops.y (v := .int .i64 _) (Y.move rfl) ?_
      refine Ops.y (v := .pointer (some ⟨_, _, none⟩)) (Y.idxEl E1 Tryz.underlying44 Tryz.sizeOf61 rfl rfl (Int.natCast_nonneg _) rfl) ?_
      refine Ops.y (v := .pointer (some ⟨_, _, none⟩)) (Y.fa0 fa_61_0 rfl) ?_
      refine Ops.y (v := .bool true) (Y.b (Y.loadv ty_4 rfl (I.rd (E1.rd.part 0 1)) rfl rfl) (hv)) ?_
      refine Ops.y (v := .bool false) (Y.not (b := true) rfl) ?_
      refine Ops.y (v := .bool _) (Y.move rfl) ?_
      refine Ops.gf rfl ?_
      refine Ops.gf rfl ?_
      refine Ops.gf rfl ?_
      refine Ops.gf rfl ?_
      refine Ops.gf rfl ?_
      refine Ops.gf rfl ?_
      refine Ops.gf rfl ?_
      refine Ops.gf rfl ?_
      refine Ops.y (v := .bool _) (Y.pick_f rfl rfl) ?_
      refine Ops.nil ?_
      refine WP.cond_f rfl ?_
      refine WP.skip ?_
      refine WP.region ?_
      refine Ops.y (v := .int .i64 _) (Y.move rfl) ?_
      refine Ops.y (v := .int .i64 _) (Y.addi rfl rfl ⟨by omega, by omega⟩) ?_
      refine Ops.y (v := .int .i64 _) (Y.assign rfl) ?_
      refine Ops.nil ?_
      exact ⟨k + 1, ⟨⟨rfl, rfl, rfl, trivial⟩, I, by omega, step (by simp [hv])⟩, by omega⟩
  refine WP.exit ?_
  refine WP.seq ?_
  refine WP.region ?_
  refine Ops.y (v := .bool _) (Y.assign rfl) ?_
  refine Ops.nil ?_
  refine WP.ret ?_
  repeat (first | refine thenE_ret ?_ | refine blockE_ret ?_)
  exact retQ.mk (vs := [.bool _]) rfl ⟨rfl, trivial⟩ I.ext_of (by simp only [tup, boundIn]; rw [List.any_eq_false.2]; intro x hx; obtain ⟨j, hj, rfl⟩ := List.getElem_of_mem hx; simpa using hn j (by omega) hj)
end Go.TF
end
section
/- The contracts of package rule, on: Vars, Atoms. -/
namespace Go.TF
open Go Go.RowKit Go.Proofs
set_option maxRecDepth 10000

theorem Vars_ok (B : Base) (hB : B.ok) (l : Sl Atm) (hl : l.Is 2 Atm.enc B.h) (he : ∀ a ∈ l.xs, a.In B.h) (hn : l.xs.length ≤ 4) :
    FnM Tryz.prog 95 [l.val] B (fun v _ M => ∃ b es, v = .map (some b) ∧ M = [imap b es] ∧ CountOf es (cntA l.xs)) := by
  refine FnM.of Tryz.func95 rfl Tryz.ntmps95 (by kernel_rfl) (by simp) ?_
  intro e
  have I := Inv.start hB
  refine WP.seq ?_
  refine WP.region ?_
  refine Ops.y (v := .map _) (Y.assign rfl) ?_
  refine Ops.nil ?_
  refine WP.seq ?_
  refine WP.region ?_
  refine Ops.go (O.mkmap I ?_)
  intro b8 w I
  refine Ops.y (v := .map _) (Y.assign rfl) ?_
  refine Ops.nil ?_
  refine WP.seq ?_
  refine WP.seq ?_
  refine WP.region ?_
  refine Ops.y (v := .slice _ _ _) (Y.move rfl) ?_
  refine Ops.y (v := .int .i64 _) (Y.lens Tryz.underlying130 rfl) ?_
  refine Ops.y (v := .int .i64 _) (Y.move rfl) ?_
  refine Ops.nil ?_
  refine WP.block ?_
  refine WP.loopE (σ := Nat × List (Int × Int)) (fun s => [(3, .map (some b8)), (9, l.val), (10, .int .i64 l.xs.length), (11, .int .i64 s.1)]) (fun s w => Inv B B.h [imap b8 s.2] w ∧ s.1 ≤ l.xs.length ∧ CountOf s.2 (cntA (l.xs.take s.1))) (fun s => l.xs.length - s.1)
    ⟨(0, []), ⟨rfl, rfl, rfl, rfl, trivial⟩, I, Nat.zero_le _, CountOf.nil⟩ ?_
  rintro ⟨k, es⟩ e w ⟨I, hk, hc⟩
  dsimp only at I hk hc ⊢
  refine WP.seq ?_
  refine WP.region ?_
  refine Ops.y (v := .bool (decide _)) (Y.lti rfl rfl) ?_
  refine Ops.nil ?_
  refine WP.seq ?_
  refine WP.cond_dec rfl (fun h => ?_) (fun h => ?_)
  · have hk' : k < l.xs.length := by omega
    have E1 := hl.at hk'
    have ha := he _ (List.getElem_mem hk')
    have hsm : l.xs[k].args.xs.length ≤ 140737488355328 := Sl.Is.small ha
    refine WP.skip ?_
    refine WP.seq ?_
    refine WP.block ?_
    refine WP.seq ?_
    refine WP.region ?_
    refine Ops.y (v := .pointer (some ⟨_, _, none⟩)) (Y.idxEl E1 Tryz.underlying130 Tryz.sizeOf43 rfl rfl (Int.natCast_nonneg _) rfl) ?_
    refine Ops.y (v := .agg #[_, _]) (Y.loadv ty_43 rfl (I.rd (E1.rd.part 0 2)) rfl rfl) ?_
    refine Ops.go (O.alloc I Tryz.zeroValue43 rfl ?_)
    intro b5 w I
    refine Ops.go (O.store (v := .agg #[_, _]) I ty_43 0 rfl rfl rfl rfl rfl rfl (Nat.le_of_ble_eq_true rfl) rfl ?_)
    intro w I
    refine Ops.nil ?_
    refine WP.seq ?_
    refine WP.region ?_
    refine Ops.y (v := .pointer (some ⟨_, _, none⟩)) (Y.fa fa_43_1 rfl) ?_
    refine Ops.y (v := .slice _ _ _) (Y.loadv ty_41 rfl (I.rdbox 0 rfl 1 1) rfl rfl) ?_
    refine Ops.y (v := .int .i64 _) (Y.lens Tryz.underlying41 rfl) ?_
    refine Ops.y (v := .int .i64 _) (Y.move rfl) ?_
    refine Ops.nil ?_
    refine WP.block ?_
    refine WP.loopE (σ := Nat × List (Int × Int)) (fun s => [(3, .map (some b8)), (9, l.val), (10, .int .i64 l.xs.length), (11, .int .i64 k), (16, l.xs[k].args.val), (17, .int .i64 l.xs[k].args.xs.length), (18, .int .i64 s.1)]) (fun s w => Inv B B.h [imap b8 s.2] w ∧ s.1 ≤ l.xs[k].args.xs.length ∧ CountOf s.2 (fun v => cntA (l.xs.take k) v + cntT (l.xs[k].args.xs.take s.1) v)) (fun s => l.xs[k].args.xs.length - s.1)
      ⟨(0, es), ⟨rfl, rfl, rfl, rfl, rfl, rfl, rfl, trivial⟩, I.drop, Nat.zero_le _, hc⟩ ?_
    rintro ⟨j, es⟩ e w ⟨I, hj, hc⟩
    dsimp only at I hj hc ⊢
    refine WP.seq ?_
    refine WP.region ?_
    refine Ops.y (v := .bool (decide _)) (Y.lti rfl rfl) ?_
    refine Ops.nil ?_
    refine WP.seq ?_
    refine WP.cond_dec rfl (fun h2 => ?_) (fun h2 => ?_)
    · have hj' : j < l.xs[k].args.xs.length := by omega
      have E2 := Sl.Is.at ha hj'
      have hcg := hc.get l.xs[k].args.xs[j].n
      have hb1 := cntA_le (l := l.xs.take k) (m := 140737488355328) (fun a hm => Sl.Is.small (he a (List.mem_of_mem_take hm))) l.xs[k].args.xs[j].n
      have hb2 := cntT_le (l.xs[k].args.xs.take j) l.xs[k].args.xs[j].n
      simp only [List.length_take] at hb1 hb2
      have hb3 : min k l.xs.length * 140737488355328 ≤ 4 * 140737488355328 := Nat.mul_le_mul_right _ (by omega)
      refine WP.skip ?_
      refine WP.seq ?_
      refine WP.block ?_
      refine WP.seq ?_
      refine WP.region ?_
      refine Ops.y (v := .pointer (some ⟨_, _, none⟩)) (Y.idxEl E2 Tryz.underlying41 Tryz.sizeOf89 rfl rfl (Int.natCast_nonneg _) rfl) ?_
      refine Ops.y (v := .agg #[_, _]) (Y.loadv ty_89 rfl (I.rd (E2.rd.part 0 2)) rfl rfl) ?_
      refine Ops.go (O.alloc I Tryz.zeroValue89 rfl ?_)
      intro b7 w I
      refine Ops.go (O.store (v := .agg #[_, _]) I ty_89 0 rfl rfl rfl rfl rfl rfl (Nat.le_of_ble_eq_true rfl) rfl ?_)
      intro w I
      refine Ops.nil ?_
      refine WP.seq ?_
      refine WP.region ?_
      refine Ops.y (v := .pointer (some ⟨_, _, none⟩)) (Y.fa0 fa_89_0 rfl) ?_
      refine Ops.y (v := .bool _) (Y.loadv ty_4 rfl (I.rdbox 0 rfl 0 1) rfl rfl) ?_
      refine Ops.nil ?_
      refine WP.cutL (σ := List (Int × Int)) (fun _ => [(3, .map (some b8)), (9, l.val), (10, .int .i64 l.xs.length), (11, .int .i64 k), (16, l.xs[k].args.val), (17, .int .i64 l.xs[k].args.xs.length), (18, .int .i64 j)]) (fun es w => Inv B B.h [imap b8 es] w ∧ CountOf es (fun v => cntA (l.xs.take k) v + cntT (l.xs[k].args.xs.take (j + 1)) v)) ?_ ?_
      · refine WP.cond rfl (fun hv => ?_) (fun hv => ?_)
        · refine WP.region ?_
          refine Ops.y (v := .map _) (Y.move rfl) ?_
          refine Ops.y (v := .pointer (some ⟨_, _, none⟩)) (Y.fa fa_89_1 rfl) ?_
          refine Ops.y (v := .int .i64 _) (Y.loadv ty_3 rfl (I.rdbox 0 rfl 1 1) rfl rfl) ?_
          refine Ops.y (v := .int .i64 _) (Y.lookup I Tryz.underlying133 Tryz.underlying3 Tryz.zeroValue3 1 rfl rfl rfl) ?_
          refine Ops.y (v := .int .i64 _) (Y.addi rfl rfl ⟨by omega, by omega⟩) ?_
          refine Ops.go (O.mapset I Tryz.underlying133 Tryz.underlying3 1 rfl rfl rfl rfl ?_)
          intro w I
          refine Ops.nil ?_
          exact ⟨_, ⟨rfl, rfl, rfl, rfl, rfl, rfl, rfl, trivial⟩, I.drop, hc.put _ fun v => by rw [cntT_take hj']; simp only [hv, true_and]; by_cases e : v = l.xs[k].args.xs[j].n <;> simp [e, Ne.symm] <;> omega⟩
        refine WP.skip ?_
        exact ⟨es, ⟨rfl, rfl, rfl, rfl, rfl, rfl, rfl, trivial⟩, I.drop, hc.same fun v => by rw [cntT_take hj']; simp [hv]⟩
      rintro es e w ⟨I, hc⟩
      refine WP.region ?_
      refine Ops.y (v := .int .i64 _) (Y.addi rfl rfl ⟨by omega, by omega⟩) ?_
      refine Ops.y (v := .int .i64 _) (Y.move rfl) ?_
      refine Ops.nil ?_
      exact ⟨(j + 1, es), ⟨⟨rfl, rfl, rfl, rfl, rfl, rfl, rfl, trivial⟩, I, by dsimp only; omega, hc⟩, by dsimp only; omega⟩
    refine WP.exit ?_
    refine WP.region ?_
    refine Ops.y (v := .int .i64 _) (Y.addi rfl rfl ⟨by omega, by omega⟩) ?_
    refine Ops.y (v := .int .i64 _) (Y.move rfl) ?_
    refine Ops.nil ?_
    have hj0 : j = l.xs[k].args.xs.length := by omega
    exact ⟨(k + 1, es), ⟨⟨rfl, rfl, rfl, rfl, trivial⟩, I, by dsimp only; omega, fun v => by rw [cntA_take hk']; have := hc v; rw [hj0, List.take_length] at this; exact this⟩, by dsimp only; omega⟩
  refine WP.exit ?_
  refine WP.seq ?_
  refine WP.region ?_
  refine Ops.y (v := .map _) (Y.move rfl) ?_
  refine Ops.y (v := .map _) (Y.assign rfl) ?_
  refine Ops.nil ?_
  have hk0 : k = l.xs.length := by omega
  refine WP.ret ?_
  repeat (first | refine thenE_ret ?_ | refine blockE_ret ?_)
  exact retM.mk (vs := [_]) rfl ⟨rfl, trivial⟩ (I) (⟨b8, es, rfl, rfl, by rw [hk0, List.take_length] at hc; exact hc⟩)
/-- What Atoms hands on. -/
def AtomsR (b : Sl Ltl) (v : Value) (_ : Heap) (M : List SA) : Prop := ∃ u1 u2, v = .tuple #[u1, u2] ∧ M = [ownSl 43 2 u1 (negs b.xs).length ((negs b.xs).flatMap Atm.enc), ownSl 43 2 u2 (poss b.xs).length ((poss b.xs).flatMap Atm.enc)]
theorem Atoms_ok (B : Base) (hB : B.ok) (r : Rul) (hr : Ltls r.body B.h) (hn : r.body.xs.length ≤ 3) : FnM Tryz.prog 94 [r.val] B (AtomsR r.body) := by
  refine FnM.of Tryz.func94 rfl Tryz.ntmps94 (by kernel_rfl) (by simp) ?_
  intro e
  have I := Inv.start hB
  refine WP.seq ?_
  refine WP.region ?_
  refine Ops.go (O.box (v := .agg #[_, _, _, _, _]) I rfl rfl ?_)
  intro b1 w I
  refine Ops.y (v := .slice _ _ _) (Y.assign rfl) ?_
  refine Ops.y (v := .slice _ _ _) (Y.assign rfl) ?_
  refine Ops.nil ?_
  refine WP.seq ?_
  refine WP.seq ?_
  refine WP.region ?_
  refine Ops.y (v := .pointer (some ⟨_, _, none⟩)) (Y.fa fa_46_3 rfl) ?_
  refine Ops.y (v := .slice _ _ _) (Y.loadv ty_44 rfl (I.rdbox 0 rfl 4 1) rfl rfl) ?_
  refine Ops.y (v := .int .i64 _) (Y.lens Tryz.underlying44 rfl) ?_
  refine Ops.y (v := .int .i64 _) (Y.move rfl) ?_
  refine Ops.nil ?_
  refine WP.block ?_
  have In1 := I.nilSl 43 2
  have In2 := In1.nilSl 43 2
  refine WP.loopE (σ := Nat × Value × Value × Heap) (fun s => [(1, .pointer (some ⟨b1, 0, none⟩)), (2, s.2.1), (3, s.2.2.1), (7, r.body.val), (8, .int .i64 r.body.xs.length), (9, .int .i64 s.1)])
    (fun s w => Inv B s.2.2.2 [ownSl 43 2 s.2.1 (negs (r.body.xs.take s.1)).length ((negs (r.body.xs.take s.1)).flatMap Atm.enc), ownSl 43 2 s.2.2.1 (poss (r.body.xs.take s.1)).length ((poss (r.body.xs.take s.1)).flatMap Atm.enc)] w ∧ s.1 ≤ r.body.xs.length ∧ B.h.le s.2.2.2) (fun s => r.body.xs.length - s.1)
    ⟨(0, .slice none 0 0, .slice none 0 0, B.h), ⟨rfl, rfl, rfl, rfl, rfl, rfl, trivial⟩, In2.weak (by simp [negs, poss]), Nat.zero_le _, Heap.le.refl _⟩ ?_
  rintro ⟨k, u1, u2, h⟩ e w ⟨I, hk, hle⟩
  dsimp only at I hk hle ⊢
  refine WP.seq ?_
  refine WP.region ?_
  refine Ops.y (v := .bool (decide _)) (Y.lti rfl rfl) ?_
  refine Ops.nil ?_
  refine WP.seq ?_
  refine WP.cond_dec rfl (fun h1 => ?_) (fun h1 => ?_)
  · have hk' : k < r.body.xs.length := by omega
    have E1 := (hr.is.at hk').le hle
    have l1 := negs_le (r.body.xs.take k)
    have l2 := poss_le (r.body.xs.take k)
    simp only [List.length_take] at l1 l2
    refine WP.skip ?_
    refine WP.seq ?_
    refine WP.block ?_
    refine WP.seq ?_
    refine WP.region ?_
    refine Ops.y (v := .pointer (some ⟨_, _, none⟩)) (Y.idxEl E1 Tryz.underlying44 Tryz.sizeOf61 rfl rfl (Int.natCast_nonneg _) rfl) ?_
    refine Ops.y (v := .agg #[_, _, _]) (Y.loadv ty_61 rfl (I.rd (E1.rd.part 0 3)) rfl rfl) ?_
    refine Ops.go (O.alloc I Tryz.zeroValue61 rfl ?_)
    intro b5 w I
    refine Ops.go (O.store (v := .agg #[_, _, _]) I ty_61 0 rfl rfl rfl rfl rfl rfl (Nat.le_of_ble_eq_true rfl) rfl ?_)
    intro w I
    refine Ops.nil ?_
    refine WP.seq ?_
    refine WP.region ?_
    refine Ops.y (v := .pointer (some ⟨_, _, none⟩)) (Y.fa0 fa_61_0 rfl) ?_
    refine Ops.y (v := .bool _) (Y.loadv ty_4 rfl (I.rdbox 0 rfl 0 1) rfl rfl) ?_
    refine Ops.nil ?_
    refine WP.cond rfl (fun hv => ?_) (fun hv => ?_)
    · refine WP.region ?_
      refine Ops.y (v := u1) (Y.move rfl) ?_
      refine Ops.y (v := .pointer (some ⟨_, _, none⟩)) (Y.fa fa_61_1 rfl) ?_
      refine Ops.y (v := .agg #[_, _]) (Y.loadv ty_43 rfl (I.rdbox 0 rfl 1 2) rfl rfl) ?_
      refine Ops.go (O.mksl (xs := [r.body.xs[k].atom]) (enc := Atm.enc) I Tryz.underlying130 Tryz.sizeOf43 Tryz.zeroValue43 rfl (Nat.le_of_ble_eq_true rfl) rfl rfl (by decide) (fun _ => rfl) ?_)
      intro b18 h18 w I le18 sl18
      refine Ops.go (O.append I Tryz.underlying130 et_43 1 rfl rfl rfl (I.rd (sl18 0 _ rfl).2) rfl rfl (by decide) (by omega) (by omega) ?_)
      intro b19 c19 w I
      refine Ops.y (v := .slice _ _ _) (Y.assign rfl) ?_
      refine Ops.nil ?_
      refine WP.region ?_
      refine Ops.y (v := .int .i64 _) (Y.addi rfl rfl ⟨by omega, by omega⟩) ?_
      refine Ops.y (v := .int .i64 _) (Y.move rfl) ?_
      refine Ops.nil ?_
      refine ⟨(k + 1, _, u2, h18), ⟨⟨rfl, rfl, rfl, rfl, rfl, rfl, trivial⟩, ?_, by dsimp only; omega, hle.trans le18⟩, by dsimp only; omega⟩
      have J := I.drop
      simpa [negs_take hk', poss_take hk', hv] using J
    refine WP.region ?_
    refine Ops.y (v := u2) (Y.move rfl) ?_
    refine Ops.y (v := .pointer (some ⟨_, _, none⟩)) (Y.fa fa_61_1 rfl) ?_
    refine Ops.y (v := .agg #[_, _]) (Y.loadv ty_43 rfl (I.rdbox 0 rfl 1 2) rfl rfl) ?_
    refine Ops.go (O.mksl (xs := [r.body.xs[k].atom]) (enc := Atm.enc) I Tryz.underlying130 Tryz.sizeOf43 Tryz.zeroValue43 rfl (Nat.le_of_ble_eq_true rfl) rfl rfl (by decide) (fun _ => rfl) ?_)
    intro b23 h23 w I le23 sl23
    refine Ops.go (O.append I Tryz.underlying130 et_43 2 rfl rfl rfl (I.rd (sl23 0 _ rfl).2) rfl rfl (by decide) (by omega) (by omega) ?_)
    intro b24 c24 w I
    refine Ops.y (v := .slice _ _ _) (Y.assign rfl) ?_
    refine Ops.nil ?_
    refine WP.region ?_
    refine Ops.y (v := .int .i64 _) (Y.addi rfl rfl ⟨by omega, by omega⟩) ?_
    refine Ops.y (v := .int .i64 _) (Y.move rfl) ?_
    refine Ops.nil ?_
    refine ⟨(k + 1, u1, _, h23), ⟨⟨rfl, rfl, rfl, rfl, rfl, rfl, trivial⟩, ?_, by dsimp only; omega, hle.trans le23⟩, by dsimp only; omega⟩
    have J := I.drop
    simpa [negs_take hk', poss_take hk', hv] using J
  refine WP.exit ?_
  refine WP.seq ?_
  refine WP.region ?_
  refine Ops.y (v := u1) (Y.move rfl) ?_
  refine Ops.y (v := u2) (Y.move rfl) ?_
  refine Ops.y (v := u1) (Y.assign rfl) ?_
  refine Ops.y (v := u2) (Y.assign rfl) ?_
  refine Ops.nil ?_
  have hk0 : k = r.body.xs.length := by omega
  refine WP.ret ?_
  repeat (first | refine thenE_ret ?_ | refine blockE_ret ?_)
  exact retM.mk (vs := [u1, u2]) rfl ⟨rfl, rfl, trivial⟩ (I) (⟨_, _, rfl, by rw [hk0, List.take_length]⟩)
end Go.TF
end
section
/- The contracts on grounding. -/
namespace Go.TF
open Go Go.RowKit Go.Proofs
set_option maxRecDepth 10000

theorem Of_ok (B : Base) (hB : B.ok) (a : Atm) (ha : a.In B.h) (x : Vrs) (hn : a.args.xs.length ≤ 2) (hok : argsErr a.args.xs = 0) : Fn Tryz.prog 105 [a.val, x.val] B (fun v _ => v = (groundF a x).val) := by
  refine Fn.of Tryz.func105 rfl Tryz.ntmps105 (by kernel_rfl) (by simp) ?_
  intro e
  have I := Inv.start hB
  refine WP.seq ?_
  refine WP.region ?_
  refine Ops.go (O.box (v := .agg #[_, _]) I rfl rfl ?_)
  intro b2 w I
  refine Ops.go (O.box (v := .agg #[_, _, _]) I rfl rfl ?_)
  intro b3 w I
  refine Ops.go (O.alloc I Tryz.zeroValue28 rfl ?_)
  intro b4 w I
  refine Ops.nil ?_
  refine WP.seq ?_
  refine WP.region ?_
  refine Ops.go (O.alloc I Tryz.zeroValue149 rfl ?_)
  intro b5 w I
  refine Ops.nil ?_
  refine WP.seq ?_
  refine WP.seq ?_
  refine WP.region ?_
  refine Ops.y (v := .pointer (some ⟨_, _, none⟩)) (Y.fa fa_43_1 rfl) ?_
  refine Ops.y (v := .slice _ _ _) (Y.loadv ty_41 rfl (I.rdbox 3 rfl 1 1) rfl rfl) ?_
  refine Ops.y (v := .int .i64 _) (Y.lens Tryz.underlying41 rfl) ?_
  refine Ops.y (v := .int .i64 _) (Y.move rfl) ?_
  refine Ops.nil ?_
  refine WP.block ?_
  refine WP.loopE (σ := Nat) (fun k => [(2, .pointer (some ⟨b2, 0, none⟩)), (3, .pointer (some ⟨b3, 0, none⟩)), (4, .pointer (some ⟨b4, 0, none⟩)), (5, .pointer (some ⟨b5, 0, none⟩)), (9, a.args.val), (10, .int .i64 a.args.xs.length), (11, .int .i64 k)])
    (fun k w => Inv B B.h [box b5 [.int .i64 (if 0 < k then argv a x 0 else 0), .int .i64 (if 1 < k then argv a x 1 else 0)] 149, box b4 (Fct.enc default) 28, box b3 x.enc 78, box b2 a.enc 43] w ∧ k ≤ a.args.xs.length) (fun k => a.args.xs.length - k)
    ⟨0, ⟨rfl, rfl, rfl, rfl, rfl, rfl, rfl, trivial⟩, I, Nat.zero_le _⟩ ?_
  rintro k e w ⟨I, hk⟩
  refine WP.seq ?_
  refine WP.region ?_
  refine Ops.y (v := .bool (decide _)) (Y.lti rfl rfl) ?_
  refine Ops.nil ?_
  refine WP.seq ?_
  refine WP.cond_dec rfl (fun h => ?_) (fun h => ?_)
  · have hk' : k < a.args.xs.length := by omega
    have E1 := Sl.Is.at ha hk'
    have hvv := argsErr_var hok (List.getElem_mem hk')
    have hav := argv_get (x := x) hk'
    have hk2 : k = 0 ∨ k = 1 := by omega
    have hv1 : a.args.xs[k].var = true → tv a.args.xs[k] x = x.at a.args.xs[k].n := fun h => by simp [tv, h]
    have hv0 : a.args.xs[k].var = false → tv a.args.xs[k] x = a.args.xs[k].n := fun h => by simp [tv, h]
    rcases hk2 with rfl | rfl
    · refine WP.skip ?_
      refine WP.seq ?_
      refine WP.block ?_
      refine WP.seq ?_
      refine WP.region ?_
      refine Ops.y (v := .int .i64 _) (Y.move rfl) ?_
      refine Ops.y (v := .pointer (some ⟨_, _, none⟩)) (Y.idxEl E1 Tryz.underlying41 Tryz.sizeOf89 rfl rfl (Int.natCast_nonneg _) rfl) ?_
      refine Ops.y (v := .agg #[_, _]) (Y.loadv ty_89 rfl (I.rd (E1.rd.part 0 2)) rfl rfl) ?_
      refine Ops.go (O.alloc I Tryz.zeroValue89 rfl ?_)
      intro b7 w I
      refine Ops.y (v := .int .i64 _) (Y.assign rfl) ?_
      refine Ops.go (O.store (v := .agg #[_, _]) I ty_89 0 rfl rfl rfl rfl rfl rfl (Nat.le_of_ble_eq_true rfl) rfl ?_)
      intro w I
      refine Ops.nil ?_
      refine WP.seq ?_
      refine WP.region ?_
      refine Ops.y (v := .int .i64 _) (Y.move rfl) ?_
      refine Ops.y (v := .pointer (some ⟨_, _, none⟩)) (Y.fa fa_89_1 rfl) ?_
      refine Ops.y (v := .int .i64 _) (Y.loadv ty_3 rfl (I.rdbox 0 rfl 1 1) rfl rfl) ?_
      refine Ops.y (v := .pointer (some ⟨_, _, none⟩)) (Y.idxa Tryz.underlying149 Tryz.sizeOf3 rfl rfl (by omega) (by omega)) ?_
      refine Ops.go (O.store (v := .int .i64 _) I ty_3 1 rfl rfl rfl rfl rfl rfl (Nat.le_of_ble_eq_true rfl) rfl ?_)
      intro w I
      refine Ops.nil ?_
      cases hv : a.args.xs[0].var
      · refine WP.seq ?_
        refine WP.region ?_
        refine Ops.y (v := .pointer (some ⟨_, _, none⟩)) (Y.fa0 fa_89_0 rfl) ?_
        refine Ops.y (v := .bool false) (Y.b (Y.loadv ty_4 rfl (I.rdbox 0 rfl 0 1) rfl rfl) (hv)) ?_
        refine Ops.nil ?_
        refine WP.cond_f rfl ?_
        refine WP.skip ?_
        refine WP.region ?_
        refine Ops.y (v := .int .i64 _) (Y.addi rfl rfl ⟨by omega, by omega⟩) ?_
        refine Ops.y (v := .int .i64 _) (Y.move rfl) ?_
        refine Ops.nil ?_
        refine ⟨1, ⟨⟨rfl, rfl, rfl, rfl, rfl, rfl, rfl, trivial⟩, ?_, by omega⟩, by omega⟩
        have J := I.drop
        simpa [putAt, hav, hv0 hv] using J
      · refine WP.seq ?_
        refine WP.region ?_
        refine Ops.y (v := .pointer (some ⟨_, _, none⟩)) (Y.fa0 fa_89_0 rfl) ?_
        refine Ops.y (v := .bool true) (Y.b (Y.loadv ty_4 rfl (I.rdbox 0 rfl 0 1) rfl rfl) (hv)) ?_
        refine Ops.nil ?_
        refine WP.cond_t rfl ?_
        refine WP.region ?_
        refine Ops.y (v := .int .i64 _) (Y.move rfl) ?_
        refine Ops.y (v := .pointer (some ⟨_, _, none⟩)) (Y.fa fa_89_1 rfl) ?_
        refine Ops.y (v := .int .i64 _) (Y.loadv ty_3 rfl (I.rdbox 0 rfl 1 1) rfl rfl) ?_
        refine Ops.y (v := .pointer (some ⟨_, _, none⟩)) (Y.idxa Tryz.underlying78 Tryz.sizeOf3 rfl rfl (hvv hv).1 (hvv hv).2) ?_
        refine Ops.y (v := .int .i64 _) (Y.loadv ty_3 rfl (Rd.vrs (I.rdbox 3 rfl 0 3) (hvv hv).1 (hvv hv).2) rfl rfl) ?_
        refine Ops.y (v := .pointer (some ⟨_, _, none⟩)) (Y.idxa Tryz.underlying149 Tryz.sizeOf3 rfl rfl (by omega) (by omega)) ?_
        refine Ops.go (O.store (v := .int .i64 _) I ty_3 1 rfl rfl rfl rfl rfl rfl (Nat.le_of_ble_eq_true rfl) rfl ?_)
        intro w I
        refine Ops.nil ?_
        refine WP.region ?_
        refine Ops.y (v := .int .i64 _) (Y.addi rfl rfl ⟨by omega, by omega⟩) ?_
        refine Ops.y (v := .int .i64 _) (Y.move rfl) ?_
        refine Ops.nil ?_
        refine ⟨1, ⟨⟨rfl, rfl, rfl, rfl, rfl, rfl, rfl, trivial⟩, ?_, by omega⟩, by omega⟩
        have J := I.drop
        simpa [putAt, hav, hv1 hv] using J
    · refine WP.skip ?_
      refine WP.seq ?_
      refine WP.block ?_
      refine WP.seq ?_
      refine WP.region ?_
      refine Ops.y (v := .int .i64 _) (Y.move rfl) ?_
      refine Ops.y (v := .pointer (some ⟨_, _, none⟩)) (Y.idxEl E1 Tryz.underlying41 Tryz.sizeOf89 rfl rfl (Int.natCast_nonneg _) rfl) ?_
      refine Ops.y (v := .agg #[_, _]) (Y.loadv ty_89 rfl (I.rd (E1.rd.part 0 2)) rfl rfl) ?_
      refine Ops.go (O.alloc I Tryz.zeroValue89 rfl ?_)
      intro b7 w I
      refine Ops.y (v := .int .i64 _) (Y.assign rfl) ?_
      refine Ops.go (O.store (v := .agg #[_, _]) I ty_89 0 rfl rfl rfl rfl rfl rfl (Nat.le_of_ble_eq_true rfl) rfl ?_)
      intro w I
      refine Ops.nil ?_
      refine WP.seq ?_
      refine WP.region ?_
      refine Ops.y (v := .int .i64 _) (Y.move rfl) ?_
      refine Ops.y (v := .pointer (some ⟨_, _, none⟩)) (Y.fa fa_89_1 rfl) ?_
      refine Ops.y (v := .int .i64 _) (Y.loadv ty_3 rfl (I.rdbox 0 rfl 1 1) rfl rfl) ?_
      refine Ops.y (v := .pointer (some ⟨_, _, none⟩)) (Y.idxa Tryz.underlying149 Tryz.sizeOf3 rfl rfl (by omega) (by omega)) ?_
      refine Ops.go (O.store (v := .int .i64 _) I ty_3 1 rfl rfl rfl rfl rfl rfl (Nat.le_of_ble_eq_true rfl) rfl ?_)
      intro w I
      refine Ops.nil ?_
      cases hv : a.args.xs[1].var
      · refine WP.seq ?_
        refine WP.region ?_
        refine Ops.y (v := .pointer (some ⟨_, _, none⟩)) (Y.fa0 fa_89_0 rfl) ?_
        refine Ops.y (v := .bool false) (Y.b (Y.loadv ty_4 rfl (I.rdbox 0 rfl 0 1) rfl rfl) (hv)) ?_
        refine Ops.nil ?_
        refine WP.cond_f rfl ?_
        refine WP.skip ?_
        refine WP.region ?_
        refine Ops.y (v := .int .i64 _) (Y.addi rfl rfl ⟨by omega, by omega⟩) ?_
        refine Ops.y (v := .int .i64 _) (Y.move rfl) ?_
        refine Ops.nil ?_
        refine ⟨2, ⟨⟨rfl, rfl, rfl, rfl, rfl, rfl, rfl, trivial⟩, ?_, by omega⟩, by omega⟩
        have J := I.drop
        simpa [putAt, hav, hv0 hv] using J
      · refine WP.seq ?_
        refine WP.region ?_
        refine Ops.y (v := .pointer (some ⟨_, _, none⟩)) (Y.fa0 fa_89_0 rfl) ?_
        refine Ops.y (v := .bool true) (Y.b (Y.loadv ty_4 rfl (I.rdbox 0 rfl 0 1) rfl rfl) (hv)) ?_
        refine Ops.nil ?_
        refine WP.cond_t rfl ?_
        refine WP.region ?_
        refine Ops.y (v := .int .i64 _) (Y.move rfl) ?_
        refine Ops.y (v := .pointer (some ⟨_, _, none⟩)) (Y.fa fa_89_1 rfl) ?_
        refine Ops.y (v := .int .i64 _) (Y.loadv ty_3 rfl (I.rdbox 0 rfl 1 1) rfl rfl) ?_
        refine Ops.y (v := .pointer (some ⟨_, _, none⟩)) (Y.idxa Tryz.underlying78 Tryz.sizeOf3 rfl rfl (hvv hv).1 (hvv hv).2) ?_
        refine Ops.y (v := .int .i64 _) (Y.loadv ty_3 rfl (Rd.vrs (I.rdbox 3 rfl 0 3) (hvv hv).1 (hvv hv).2) rfl rfl) ?_
        refine Ops.y (v := .pointer (some ⟨_, _, none⟩)) (Y.idxa Tryz.underlying149 Tryz.sizeOf3 rfl rfl (by omega) (by omega)) ?_
        refine Ops.go (O.store (v := .int .i64 _) I ty_3 1 rfl rfl rfl rfl rfl rfl (Nat.le_of_ble_eq_true rfl) rfl ?_)
        intro w I
        refine Ops.nil ?_
        refine WP.region ?_
        refine Ops.y (v := .int .i64 _) (Y.addi rfl rfl ⟨by omega, by omega⟩) ?_
        refine Ops.y (v := .int .i64 _) (Y.move rfl) ?_
        refine Ops.nil ?_
        refine ⟨2, ⟨⟨rfl, rfl, rfl, rfl, rfl, rfl, rfl, trivial⟩, ?_, by omega⟩, by omega⟩
        have J := I.drop
        simpa [putAt, hav, hv1 hv] using J
  refine WP.exit ?_
  refine WP.seq ?_
  refine WP.region ?_
  refine Ops.y (v := .pointer (some ⟨_, _, none⟩)) (Y.fa0 fa_43_0 rfl) ?_
  refine Ops.y (v := .int .i64 _) (Y.loadv ty_3 rfl (I.rdbox 3 rfl 0 1) rfl rfl) ?_
  refine Ops.y (v := .pointer (some ⟨_, _, none⟩)) (Y.idxa Tryz.underlying149 Tryz.sizeOf3 rfl rfl (by omega) (by omega)) ?_
  refine Ops.y (v := .int .i64 _) (Y.loadv ty_3 rfl (I.rdbox 0 rfl 0 1) rfl rfl) ?_
  refine Ops.y (v := .pointer (some ⟨_, _, none⟩)) (Y.idxa Tryz.underlying149 Tryz.sizeOf3 rfl rfl (by omega) (by omega)) ?_
  refine Ops.y (v := .int .i64 _) (Y.loadv ty_3 rfl (I.rdbox 0 rfl 1 1) rfl rfl) ?_
  refine Ops.y (v := .agg #[.int .i64 _, .int .i64 _, .int .i64 _, .int .i64 _]) (Y.build pl_28 Tryz.zeroValue28 rfl rfl) ?_
  refine Ops.go (O.store (v := .agg #[_, _, _, _]) I ty_28 1 rfl rfl rfl rfl rfl rfl (Nat.le_of_ble_eq_true rfl) rfl ?_)
  intro w I
  refine Ops.nil ?_
  have h0 : (if 0 < k then argv a x 0 else 0) = argv a x 0 := by split; rfl; exact (argv_none (by omega)).symm
  have h1 : (if 1 < k then argv a x 1 else 0) = argv a x 1 := by split; rfl; exact (argv_none (by omega)).symm
  refine WP.ret ?_
  repeat (first | refine thenE_ret ?_ | refine blockE_ret ?_)
  exact retQ.mk (vs := [.agg #[_, _, _, _]]) rfl ⟨⟨_, _, _, _, _, rfl, ty_28, I.rdbox 1 rfl 0 4, rfl, rfl⟩, trivial⟩ I.ext_of (by simp only [tup, groundF, h0, h1])
theorem ground_ok (B : Base) (hB : B.ok) (a : Atm) (ha : a.In B.h) (x : Vrs) (hn : a.args.xs.length ≤ 2) (hok : argsErr a.args.xs = 0) : Fn Tryz.prog 68 [a.val, x.val] B (fun v _ => v = (groundF a x).val) := by
  refine Fn.of Tryz.func68 rfl Tryz.ntmps68 (by kernel_rfl) (by simp) ?_
  intro e
  have I := Inv.start hB
  refine WP.seq ?_
  refine WP.region ?_
  refine Ops.go (O.box (v := .agg #[_, _]) I rfl rfl ?_)
  intro b2 w I
  refine Ops.go (O.box (v := .agg #[_, _, _]) I rfl rfl ?_)
  intro b3 w I
  refine Ops.go (O.alloc I Tryz.zeroValue28 rfl ?_)
  intro b4 w I
  refine Ops.nil ?_
  refine WP.seq ?_
  refine WP.region ?_
  refine Ops.y (v := .pointer (some ⟨_, _, none⟩)) (Y.fa0 fa_43_0 rfl) ?_
  refine Ops.y (v := .int .i64 _) (Y.loadv ty_3 rfl (I.rdbox 2 rfl 0 1) rfl rfl) ?_
  refine Ops.y (v := .agg #[.int .i64 _, .int .i64 _, .int .i64 _, .int .i64 _]) (Y.build pl_28 Tryz.zeroValue28 rfl rfl) ?_
  refine Ops.go (O.alloc I Tryz.zeroValue28 rfl ?_)
  intro b5 w I
  refine Ops.go (O.store (v := .agg #[_, _, _, _]) I ty_28 0 rfl rfl rfl rfl rfl rfl (Nat.le_of_ble_eq_true rfl) rfl ?_)
  intro w I
  refine Ops.nil ?_
  refine WP.seq ?_
  refine WP.seq ?_
  refine WP.region ?_
  refine Ops.y (v := .int .i64 _) (Y.assign rfl) ?_
  refine Ops.nil ?_
  refine WP.block ?_
  refine WP.loopE (σ := Nat) (fun k => [(2, .pointer (some ⟨b2, 0, none⟩)), (3, .pointer (some ⟨b3, 0, none⟩)), (4, .pointer (some ⟨b4, 0, none⟩)), (5, .pointer (some ⟨b5, 0, none⟩)), (6, .int .i64 k)])
    (fun k w => Inv B B.h [box b5 [.int .i64 a.pred, .int .i64 (if 0 < k then argv a x 0 else 0), .int .i64 (if 1 < k then argv a x 1 else 0), .int .i64 0] 28, box b4 (Fct.enc default) 28, box b3 x.enc 78, box b2 a.enc 43] w ∧ k ≤ a.args.xs.length) (fun k => a.args.xs.length - k)
    ⟨0, ⟨rfl, rfl, rfl, rfl, rfl, trivial⟩, I, Nat.zero_le _⟩ ?_
  rintro k e w ⟨I, hk⟩
  refine WP.seq ?_
  refine WP.seq ?_
  refine WP.region ?_
  refine Ops.y (v := .int .i64 _) (Y.move rfl) ?_
  refine Ops.y (v := .pointer (some ⟨_, _, none⟩)) (Y.fa fa_43_1 rfl) ?_
  refine Ops.y (v := .slice _ _ _) (Y.loadv ty_41 rfl (I.rdbox 3 rfl 1 1) rfl rfl) ?_
  refine Ops.y (v := .int .i64 _) (Y.lens Tryz.underlying41 rfl) ?_
  refine Ops.y (v := .bool (decide _)) (Y.lti rfl rfl) ?_
  refine Ops.nil ?_
  refine WP.cond_dec rfl (fun h => ?_) (fun h => ?_)
  · have hk' : k < a.args.xs.length := by omega
    have E1 := Sl.Is.at ha hk'
    have hvv := argsErr_var hok (List.getElem_mem hk')
    have hav := argv_get (x := x) hk'
    have hk2 : k = 0 ∨ k = 1 := by omega
    refine WP.skip ?_
    refine WP.seq ?_
    refine WP.block ?_
    refine WP.seq ?_
    refine WP.region ?_
    refine Ops.y (v := .pointer (some ⟨_, _, none⟩)) (Y.fa fa_43_1 rfl) ?_
    refine Ops.y (v := .slice _ _ _) (Y.loadv ty_41 rfl (I.rdbox 3 rfl 1 1) rfl rfl) ?_
    refine Ops.y (v := .int .i64 _) (Y.move rfl) ?_
    refine Ops.y (v := .pointer (some ⟨_, _, none⟩)) (Y.idxEl E1 Tryz.underlying41 Tryz.sizeOf89 rfl rfl (Int.natCast_nonneg _) rfl) ?_
    refine Ops.y (v := .pointer (some ⟨_, _, none⟩)) (Y.fa fa_89_1 rfl) ?_
    refine Ops.y (v := .int .i64 _) (Y.loadv ty_3 rfl (I.rd (E1.rd.part 1 1)) rfl rfl) ?_
    refine Ops.y (v := .int .i64 _) (Y.assign rfl) ?_
    refine Ops.nil ?_
    refine WP.seq ?_
    refine WP.seq ?_
    refine WP.cutL (σ := Unit) (fun _ => [(2, .pointer (some ⟨b2, 0, none⟩)), (3, .pointer (some ⟨b3, 0, none⟩)), (4, .pointer (some ⟨b4, 0, none⟩)), (5, .pointer (some ⟨b5, 0, none⟩)), (6, .int .i64 k), (7, .int .i64 a.args.xs[k].n), (29, .bool a.args.xs[k].var)]) (fun _ w => Inv B B.h [box b5 [.int .i64 a.pred, .int .i64 (if 0 < k then argv a x 0 else 0), .int .i64 (if 1 < k then argv a x 1 else 0), .int .i64 0] 28, box b4 (Fct.enc default) 28, box b3 x.enc 78, box b2 a.enc 43] w) ?_ ?_
    · refine WP.region ?_
      refine Ops.y (v := .pointer (some ⟨_, _, none⟩)) (Y.fa fa_43_1 rfl) ?_
      refine Ops.y (v := .slice _ _ _) (Y.loadv ty_41 rfl (I.rdbox 3 rfl 1 1) rfl rfl) ?_
      refine Ops.y (v := .int .i64 _) (Y.move rfl) ?_
      refine Ops.y (v := .pointer (some ⟨_, _, none⟩)) (Y.idxEl E1 Tryz.underlying41 Tryz.sizeOf89 rfl rfl (Int.natCast_nonneg _) rfl) ?_
      refine Ops.y (v := .pointer (some ⟨_, _, none⟩)) (Y.fa0 fa_89_0 rfl) ?_
      refine Ops.y (v := .bool _) (Y.loadv ty_4 rfl (I.rd (E1.rd.part 0 1)) rfl rfl) ?_
      refine Ops.nil ?_
      exact ⟨(), ⟨rfl, rfl, rfl, rfl, rfl, rfl, rfl, trivial⟩, I⟩
    rintro _ e w I
    refine WP.cutL (σ := Unit) (fun _ => [(2, .pointer (some ⟨b2, 0, none⟩)), (3, .pointer (some ⟨b3, 0, none⟩)), (4, .pointer (some ⟨b4, 0, none⟩)), (5, .pointer (some ⟨b5, 0, none⟩)), (6, .int .i64 k), (7, .int .i64 (tv a.args.xs[k] x))]) (fun _ w => Inv B B.h [box b5 [.int .i64 a.pred, .int .i64 (if 0 < k then argv a x 0 else 0), .int .i64 (if 1 < k then argv a x 1 else 0), .int .i64 0] 28, box b4 (Fct.enc default) 28, box b3 x.enc 78, box b2 a.enc 43] w) ?_ ?_
    · refine WP.cond rfl (fun hv => ?_) (fun hv => ?_)
      · refine WP.region ?_
        refine Ops.y (v := .int .i64 _) (Y.move rfl) ?_
        refine Ops.y (v := .pointer (some ⟨_, _, none⟩)) (Y.idxa Tryz.underlying78 Tryz.sizeOf3 rfl rfl (hvv hv).1 (hvv hv).2) ?_
        refine Ops.y (v := .int .i64 _) (Y.loadv ty_3 rfl (Rd.vrs (I.rdbox 2 rfl 0 3) (hvv hv).1 (hvv hv).2) rfl rfl) ?_
        refine Ops.y (v := .int .i64 _) (Y.assign rfl) ?_
        refine Ops.nil ?_
        exact ⟨(), ⟨rfl, rfl, rfl, rfl, rfl, by simp [tv, hv]; rfl, trivial⟩, I⟩
      refine WP.skip ?_
      exact ⟨(), ⟨rfl, rfl, rfl, rfl, rfl, by simp [tv, hv]; rfl, trivial⟩, I⟩
    rintro _ e w I
    rcases hk2 with rfl | rfl
    · refine WP.seq ?_
      refine WP.region ?_
      refine Ops.y (v := .int .i64 _) (Y.move rfl) ?_
      refine Ops.y (v := .bool true) (Y.dec_t (Y.eqi rfl rfl) (rfl)) ?_
      refine Ops.nil ?_
      refine WP.cond_t rfl ?_
      refine WP.region ?_
      refine Ops.y (v := .int .i64 _) (Y.move rfl) ?_
      refine Ops.y (v := .pointer (some ⟨_, _, none⟩)) (Y.fa fa_28_1 rfl) ?_
      refine Ops.go (O.store (v := .int .i64 _) I ty_3 0 rfl rfl rfl rfl rfl rfl (Nat.le_of_ble_eq_true rfl) rfl ?_)
      intro w I
      refine Ops.nil ?_
      refine WP.region ?_
      refine Ops.y (v := .int .i64 _) (Y.move rfl) ?_
      refine Ops.y (v := .int .i64 _) (Y.addi rfl rfl ⟨by omega, by omega⟩) ?_
      refine Ops.y (v := .int .i64 _) (Y.assign rfl) ?_
      refine Ops.nil ?_
      refine ⟨1, ⟨⟨rfl, rfl, rfl, rfl, rfl, trivial⟩, ?_, by omega⟩, by omega⟩
      simpa [putAt, hav] using I
    · refine WP.seq ?_
      refine WP.region ?_
      refine Ops.y (v := .int .i64 _) (Y.move rfl) ?_
      refine Ops.y (v := .bool false) (Y.dec_f (Y.eqi rfl rfl) ((by decide))) ?_
      refine Ops.nil ?_
      refine WP.cond_f rfl ?_
      refine WP.region ?_
      refine Ops.y (v := .int .i64 _) (Y.move rfl) ?_
      refine Ops.y (v := .pointer (some ⟨_, _, none⟩)) (Y.fa fa_28_2 rfl) ?_
      refine Ops.go (O.store (v := .int .i64 _) I ty_3 0 rfl rfl rfl rfl rfl rfl (Nat.le_of_ble_eq_true rfl) rfl ?_)
      intro w I
      refine Ops.nil ?_
      refine WP.region ?_
      refine Ops.y (v := .int .i64 _) (Y.move rfl) ?_
      refine Ops.y (v := .int .i64 _) (Y.addi rfl rfl ⟨by omega, by omega⟩) ?_
      refine Ops.y (v := .int .i64 _) (Y.assign rfl) ?_
      refine Ops.nil ?_
      refine ⟨2, ⟨⟨rfl, rfl, rfl, rfl, rfl, trivial⟩, ?_, by omega⟩, by omega⟩
      simpa [putAt, hav] using I
  refine WP.exit ?_
  refine WP.seq ?_
  refine WP.region ?_
  refine Ops.y (v := .agg #[_, _, _, _]) (Y.loadv ty_28 rfl (I.rdbox 0 rfl 0 4) rfl rfl) ?_
  refine Ops.go (O.store (v := .agg #[_, _, _, _]) I ty_28 1 rfl rfl rfl rfl rfl rfl (Nat.le_of_ble_eq_true rfl) rfl ?_)
  intro w I
  refine Ops.nil ?_
  have h0 : (if 0 < k then argv a x 0 else 0) = argv a x 0 := by split; rfl; exact (argv_none (by omega)).symm
  have h1 : (if 1 < k then argv a x 1 else 0) = argv a x 1 := by split; rfl; exact (argv_none (by omega)).symm
  refine WP.ret ?_
  repeat (first | refine thenE_ret ?_ | refine blockE_ret ?_)
  exact retQ.mk (vs := [.agg #[_, _, _, _]]) rfl ⟨⟨_, _, _, _, _, rfl, ty_28, I.rdbox 1 rfl 0 4, rfl, rfl⟩, trivial⟩ I.ext_of (by simp only [tup, groundF, h0, h1])
end Go.TF
end
section
/- The contracts on grounding, on. -/
namespace Go.TF
open Go Go.RowKit Go.Proofs
set_option maxRecDepth 10000

end Go.TF
end
