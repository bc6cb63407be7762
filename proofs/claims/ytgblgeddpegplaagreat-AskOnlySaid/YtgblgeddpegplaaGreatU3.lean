/- Texts Lat Lat2 SlFuncs Rule Rule2 Rule5 Rule6 Rule3. -/
import Derived.Test.YtgblgeddpegplaaGreatU2
import Derived.Test.YtgblgeddpegplaaGreatU1
section
/- The contracts of package lat and of the references beside it: each call returns what the plain functions compute. -/
namespace Go.TF
open Go Go.RowKit Go.Proofs
set_option maxRecDepth 10000

theorem orders1_ok (B : Base) (hB : B.ok) (a b : Int) (h : I64 (a + b)) : Fn Tryz.prog 188 [.int .i64 a, .int .i64 b] B (fun v _ => v = .int .i64 (min (a + b) 15)) := by
  obtain ⟨h1, h2⟩ := h
  refine Fn.of Tryz.func188 rfl Tryz.ntmps188 (by kernel_rfl) (by simp) ?_
  intro e
  have I := Inv.start hB
  refine WP.seq ?_
  refine WP.region ?_
  refine Ops.y (v := .int .i64 _) (Y.assign rfl) ?_
  refine Ops.nil ?_
  refine WP.seq ?_
  refine WP.region ?_
  refine Ops.y (v := .int .i64 _) (Y.move rfl) ?_
  refine Ops.y (v := .int .i64 _) (Y.move rfl) ?_
  refine Ops.y (v := .int .i64 _) (Y.addi rfl rfl ⟨by omega, by omega⟩) ?_
  refine Ops.y (v := .int .i64 _) (Y.min2 rfl rfl) ?_
  refine Ops.y (v := .int .i64 _) (Y.assign rfl) ?_
  refine Ops.nil ?_
  refine WP.ret ?_
  repeat (first | refine thenE_ret ?_ | refine blockE_ret ?_)
  exact retQ.mk (vs := [.int .i64 _]) rfl ⟨rfl, trivial⟩ I.ext_of (rfl)
theorem orders2_ok (B : Base) (hB : B.ok) (a b : Int) : Fn Tryz.prog 189 [.int .i64 a, .int .i64 b] B (fun v _ => v = .int .i64 (orI a b)) := by
  refine Fn.of Tryz.func189 rfl Tryz.ntmps189 (by kernel_rfl) (by simp) ?_
  intro e
  have I := Inv.start hB
  refine WP.seq ?_
  refine WP.region ?_
  refine Ops.y (v := .int .i64 _) (Y.assign rfl) ?_
  refine Ops.nil ?_
  refine WP.seq ?_
  refine WP.region ?_
  refine Ops.y (v := .int .i64 _) (Y.move rfl) ?_
  refine Ops.y (v := .int .i64 _) (Y.move rfl) ?_
  refine Ops.y (v := .int .i64 _) (Y.ori rfl rfl) ?_
  refine Ops.y (v := .int .i64 _) (Y.assign rfl) ?_
  refine Ops.nil ?_
  refine WP.ret ?_
  repeat (first | refine thenE_ret ?_ | refine blockE_ret ?_)
  exact retQ.mk (vs := [.int .i64 _]) rfl ⟨rfl, trivial⟩ I.ext_of (rfl)
theorem orders3_ok (B : Base) (hB : B.ok) (a b : Int) : Fn Tryz.prog 190 [.int .i64 a, .int .i64 b] B (fun v _ => v = .int .i64 0) := by
  refine Fn.of Tryz.func190 rfl Tryz.ntmps190 (by kernel_rfl) (by simp) ?_
  intro e
  have I := Inv.start hB
  refine WP.seq ?_
  refine WP.region ?_
  refine Ops.y (v := .int .i64 _) (Y.assign rfl) ?_
  refine Ops.nil ?_
  refine WP.seq ?_
  refine WP.region ?_
  refine Ops.y (v := .int .i64 _) (Y.assign rfl) ?_
  refine Ops.nil ?_
  refine WP.ret ?_
  repeat (first | refine thenE_ret ?_ | refine blockE_ret ?_)
  exact retQ.mk (vs := [.int .i64 _]) rfl ⟨rfl, trivial⟩ I.ext_of (rfl)
theorem orders4_ok (B : Base) (hB : B.ok) (a b : Int) : Fn Tryz.prog 191 [.int .i64 a, .int .i64 b] B (fun v _ => v = .int .i64 (max a b)) := by
  refine Fn.of Tryz.func191 rfl Tryz.ntmps191 (by kernel_rfl) (by simp) ?_
  intro e
  have I := Inv.start hB
  refine WP.seq ?_
  refine WP.region ?_
  refine Ops.y (v := .int .i64 _) (Y.assign rfl) ?_
  refine Ops.nil ?_
  refine WP.seq ?_
  refine WP.region ?_
  refine Ops.y (v := .int .i64 _) (Y.move rfl) ?_
  refine Ops.y (v := .int .i64 _) (Y.move rfl) ?_
  refine Ops.y (v := .int .i64 _) (Y.max2 rfl rfl) ?_
  refine Ops.y (v := .int .i64 _) (Y.assign rfl) ?_
  refine Ops.nil ?_
  refine WP.ret ?_
  repeat (first | refine thenE_ret ?_ | refine blockE_ret ?_)
  exact retQ.mk (vs := [.int .i64 _]) rfl ⟨rfl, trivial⟩ I.ext_of (rfl)
theorem orders5_ok (B : Base) (hB : B.ok) (a b : Int) : Fn Tryz.prog 192 [.int .i64 a, .int .i64 b] B (fun v _ => v = .int .i64 (min a b)) := by
  refine Fn.of Tryz.func192 rfl Tryz.ntmps192 (by kernel_rfl) (by simp) ?_
  intro e
  have I := Inv.start hB
  refine WP.seq ?_
  refine WP.region ?_
  refine Ops.y (v := .int .i64 _) (Y.assign rfl) ?_
  refine Ops.nil ?_
  refine WP.seq ?_
  refine WP.region ?_
  refine Ops.y (v := .int .i64 _) (Y.move rfl) ?_
  refine Ops.y (v := .int .i64 _) (Y.move rfl) ?_
  refine Ops.y (v := .int .i64 _) (Y.min2 rfl rfl) ?_
  refine Ops.y (v := .int .i64 _) (Y.assign rfl) ?_
  refine Ops.nil ?_
  refine WP.ret ?_
  repeat (first | refine thenE_ret ?_ | refine blockE_ret ?_)
  exact retQ.mk (vs := [.int .i64 _]) rfl ⟨rfl, trivial⟩ I.ext_of (rfl)
def fv (f : Nat) : Value := .func (.func f) #[] #[]
theorem orders_ok (B : Base) (hB : B.ok) : Fn Tryz.prog 178 [] B (fun v _ => v = .agg #[fv 190, fv 190, fv 191, fv 188, fv 192, fv 188, fv 189, fv 189]) := by
  refine Fn.of Tryz.func178 rfl Tryz.ntmps178 (by kernel_rfl) (by simp) ?_
  intro e
  have I := Inv.start hB
  refine WP.seq ?_
  refine WP.region ?_
  refine Ops.go (O.alloc I Tryz.zeroValue205 rfl ?_)
  intro b0 w I
  refine Ops.nil ?_
  refine WP.seq ?_
  refine WP.region ?_
  refine Ops.y (v := .func _ _ _) (Y.assign rfl) ?_
  refine Ops.nil ?_
  refine WP.seq ?_
  refine WP.region ?_
  refine Ops.y (v := .func _ _ _) (Y.assign rfl) ?_
  refine Ops.nil ?_
  refine WP.seq ?_
  refine WP.region ?_
  refine Ops.y (v := .func _ _ _) (Y.assign rfl) ?_
  refine Ops.nil ?_
  refine WP.seq ?_
  refine WP.region ?_
  refine Ops.y (v := .func _ _ _) (Y.move rfl) ?_
  refine Ops.y (v := .func _ _ _) (Y.move rfl) ?_
  refine Ops.y (v := .agg #[.func _ _ _, .func _ _ _]) (Y.build pl_204 Tryz.zeroValue204 rfl rfl) ?_
  refine Ops.y (v := .func _ _ _) (Y.move rfl) ?_
  refine Ops.y (v := .agg #[.func _ _ _, .func _ _ _]) (Y.build pl_204 Tryz.zeroValue204 rfl rfl) ?_
  refine Ops.y (v := .func _ _ _) (Y.move rfl) ?_
  refine Ops.y (v := .agg #[.func _ _ _, .func _ _ _]) (Y.build pl_204 Tryz.zeroValue204 rfl rfl) ?_
  refine Ops.y (v := .func _ _ _) (Y.move rfl) ?_
  refine Ops.y (v := .func _ _ _) (Y.move rfl) ?_
  refine Ops.y (v := .agg #[.func _ _ _, .func _ _ _]) (Y.build pl_204 Tryz.zeroValue204 rfl rfl) ?_
  refine Ops.y (v := .agg #[.func _ _ _, .func _ _ _, .func _ _ _, .func _ _ _, .func _ _ _, .func _ _ _, .func _ _ _, .func _ _ _]) (Y.builda Tryz.underlying205 Tryz.zeroValue205 Tryz.sizeOf204 rfl rfl) ?_
  refine Ops.go (O.store (v := .agg #[_, _, _, _, _, _, _, _]) I ty_205 0 rfl rfl rfl rfl rfl rfl (Nat.le_of_ble_eq_true rfl) rfl ?_)
  intro w I
  refine Ops.nil ?_
  refine WP.ret ?_
  repeat (first | refine thenE_ret ?_ | refine blockE_ret ?_)
  exact retQ.mk (vs := [.agg #[_, _, _, _, _, _, _, _]]) rfl ⟨⟨_, _, _, _, _, rfl, ty_205, I.rdbox 0 rfl 0 8, rfl, rfl⟩, trivial⟩ I.ext_of (rfl)
theorem within_ok (B : Base) (hB : B.ok) (n lo hi : Int) : Fn Tryz.prog 72 [.int .i64 n, .int .i64 lo, .int .i64 hi] B (fun v _ => v = .bool (decide (within n lo hi))) := by
  by_cases h1 : lo ≤ n
  · refine Fn.of Tryz.func72 rfl Tryz.ntmps72 (by kernel_rfl) (by simp) ?_
    intro e
    have I := Inv.start hB
    refine WP.seq ?_
    refine WP.region ?_
    refine Ops.y (v := .bool _) (Y.assign rfl) ?_
    refine Ops.nil ?_
    refine WP.seq ?_
    refine WP.region ?_
    refine Ops.y (v := .int .i64 _) (Y.move rfl) ?_
    refine Ops.y (v := .int .i64 _) (Y.move rfl) ?_
    refine Ops.y (v := .bool true) (Y.dec_t (Y.gei rfl rfl) (h1)) ?_
    refine Ops.y (v := .bool _) (Y.move rfl) ?_
    refine Ops.ygt rfl (v := .int .i64 _) (Y.move rfl) ?_
    refine Ops.ygt rfl (v := .int .i64 _) (Y.move rfl) ?_
    refine Ops.ygt rfl (v := .bool (decide _)) (Y.lei rfl rfl) ?_
    refine Ops.y (v := .bool _) (Y.pick_t rfl rfl) ?_
    refine Ops.y (v := .bool _) (Y.assign rfl) ?_
    refine Ops.nil ?_
    refine WP.ret ?_
    repeat (first | refine thenE_ret ?_ | refine blockE_ret ?_)
    exact retQ.mk (vs := [.bool _]) rfl ⟨rfl, trivial⟩ I.ext_of (by simp [tup, within, h1])
  · refine Fn.of Tryz.func72 rfl Tryz.ntmps72 (by kernel_rfl) (by simp) ?_
    intro e
    have I := Inv.start hB
    refine WP.seq ?_
    refine WP.region ?_
    refine Ops.y (v := .bool _) (Y.assign rfl) ?_
    refine Ops.nil ?_
    refine WP.seq ?_
    refine WP.region ?_
    refine Ops.y (v := .int .i64 _) (Y.move rfl) ?_
    refine Ops.y (v := .int .i64 _) (Y.move rfl) ?_
    refine Ops.y (v := .bool false) (Y.dec_f (Y.gei rfl rfl) (h1)) ?_
    refine Ops.y (v := .bool _) (Y.move rfl) ?_
    refine Ops.gf rfl ?_
    refine Ops.gf rfl ?_
    refine Ops.gf rfl ?_
    refine Ops.y (v := .bool _) (Y.pick_f rfl rfl) ?_
    refine Ops.y (v := .bool _) (Y.assign rfl) ?_
    refine Ops.nil ?_
    refine WP.ret ?_
    repeat (first | refine thenE_ret ?_ | refine blockE_ret ?_)
    exact retQ.mk (vs := [.bool _]) rfl ⟨rfl, trivial⟩ I.ext_of (by simp [tup, within, h1])
theorem Check_ok (B : Base) (hB : B.ok) (kind v : Int) : Fn Tryz.prog 157 [.int .i64 kind, .int .i64 v] B (fun r _ => r = .int .i64 (checkVal kind v)) := by
  refine Fn.of Tryz.func157 rfl Tryz.ntmps157 (by kernel_rfl) (by simp) ?_
  intro e
  have I := Inv.start hB
  refine WP.seq ?_
  refine WP.region ?_
  refine Ops.y (v := .int .i64 _) (Y.assign rfl) ?_
  refine Ops.nil ?_
  refine WP.seq ?_
  refine WP.region ?_
  refine Ops.y (v := .int .i64 _) (Y.assign rfl) ?_
  refine Ops.nil ?_
  refine WP.seq ?_
  refine WP.seq ?_
  refine WP.region ?_
  refine Ops.y (v := .int .i64 _) (Y.move rfl) ?_
  refine Ops.nil ?_
  refine WP.cutK (σ := Unit) (fun _ => [(1, .int .i64 v), (5, .int .i64 (if kind = 0 then 0 else 15))]) (fun _ w' => Inv B B.h [] w' ∧ 0 ≤ kind ∧ kind ≤ 3) ?_ ?_
  · refine WP.block ?_
    refine WP.seq ?_
    refine WP.region ?_
    refine Ops.y (v := .bool (decide _)) (Y.eqi rfl rfl) ?_
    refine Ops.y (v := .bool _) (Y.assign rfl) ?_
    refine Ops.nil ?_
    refine WP.cond_dec rfl (fun h0 => ?_) (fun h0 => ?_)
    · refine WP.region ?_
      refine Ops.y (v := .int .i64 _) (Y.assign rfl) ?_
      refine Ops.nil ?_
      exact ⟨(), ⟨rfl, by show Value.int .i64 0 = _; simp [h0], trivial⟩, I, by omega, by omega⟩
    have hz : (if kind = 0 then (0 : Int) else 15) = 15 := by simp [h0]
    refine WP.seq ?_
    refine WP.seq ?_
    refine WP.region ?_
    refine Ops.y (v := .bool (decide _)) (Y.eqi rfl rfl) ?_
    refine Ops.y (v := .bool _) (Y.assign rfl) ?_
    refine Ops.nil ?_
    refine WP.cond_dec rfl (fun h1 => ?_) (fun h1 => ?_)
    · refine WP.skip ?_
      refine WP.cond_decT rfl (h1) ?_
      refine WP.skip ?_
      exact ⟨(), ⟨rfl, by rw [hz]; rfl, trivial⟩, I, by omega, by omega⟩
    refine WP.seq ?_
    refine WP.region ?_
    refine Ops.y (v := .bool (decide _)) (Y.eqi rfl rfl) ?_
    refine Ops.y (v := .bool _) (Y.assign rfl) ?_
    refine Ops.nil ?_
    refine WP.cond_dec rfl (fun h2 => ?_) (fun h2 => ?_)
    · refine WP.skip ?_
      refine WP.cond_decT rfl (h2) ?_
      refine WP.skip ?_
      exact ⟨(), ⟨rfl, by rw [hz]; rfl, trivial⟩, I, by omega, by omega⟩
    refine WP.region ?_
    refine Ops.y (v := .bool (decide _)) (Y.eqi rfl rfl) ?_
    refine Ops.y (v := .bool _) (Y.assign rfl) ?_
    refine Ops.nil ?_
    refine WP.cond_dec rfl (fun h3 => ?_) (fun h3 => ?_)
    · refine WP.skip ?_
      exact ⟨(), ⟨rfl, by rw [hz]; rfl, trivial⟩, I, by omega, by omega⟩
    refine WP.seq ?_
    refine WP.region ?_
    refine Ops.y (v := .int .i64 _) (Y.assign rfl) ?_
    refine Ops.nil ?_
    refine WP.ret ?_
    repeat (first | refine thenE_ret ?_ | refine blockE_ret ?_)
    exact retQ.mk (vs := [.int .i64 _]) rfl ⟨rfl, trivial⟩ I.ext_of (by simp [tup, checkVal]; omega)
  rintro _ e w ⟨I, hk0, hk3⟩
  by_cases hv : v < 0
  · refine WP.seq ?_
    refine WP.seq ?_
    refine WP.region ?_
    refine Ops.y (v := .int .i64 _) (Y.move rfl) ?_
    refine Ops.y (v := .bool true) (Y.dec_t (Y.lti rfl rfl) (hv)) ?_
    refine Ops.y (v := .bool _) (Y.move rfl) ?_
    refine Ops.gf rfl ?_
    refine Ops.gf rfl ?_
    refine Ops.gf rfl ?_
    refine Ops.y (v := .bool _) (Y.pick_t rfl rfl) ?_
    refine Ops.nil ?_
    refine WP.cond_t rfl ?_
    refine WP.seq ?_
    refine WP.region ?_
    refine Ops.y (v := .int .i64 _) (Y.assign rfl) ?_
    refine Ops.nil ?_
    refine WP.ret ?_
    repeat (first | refine thenE_ret ?_ | refine blockE_ret ?_)
    exact retQ.mk (vs := [.int .i64 _]) rfl ⟨rfl, trivial⟩ I.ext_of (by simp [tup, checkVal]; omega)
  refine WP.seq ?_
  refine WP.seq ?_
  refine WP.region ?_
  refine Ops.y (v := .int .i64 _) (Y.move rfl) ?_
  refine Ops.y (v := .bool false) (Y.dec_f (Y.lti rfl rfl) (hv)) ?_
  refine Ops.y (v := .bool _) (Y.move rfl) ?_
  refine Ops.ygt rfl (v := .int .i64 _) (Y.move rfl) ?_
  refine Ops.ygt rfl (v := .int .i64 _) (Y.move rfl) ?_
  refine Ops.ygt rfl (v := .bool (decide _)) (Y.gti rfl rfl) ?_
  refine Ops.y (v := .bool _) (Y.pick_f rfl rfl) ?_
  refine Ops.nil ?_
  refine WP.cond_dec rfl (fun h2 => ?_) (fun h2 => ?_)
  · refine WP.seq ?_
    refine WP.region ?_
    refine Ops.y (v := .int .i64 _) (Y.assign rfl) ?_
    refine Ops.nil ?_
    refine WP.ret ?_
    repeat (first | refine thenE_ret ?_ | refine blockE_ret ?_)
    exact retQ.mk (vs := [.int .i64 _]) rfl ⟨rfl, trivial⟩ I.ext_of (by simp only [tup, checkVal]; split at h2 <;> simp <;> omega)
  refine WP.skip ?_
  refine WP.seq ?_
  refine WP.region ?_
  refine Ops.y (v := .int .i64 _) (Y.assign rfl) ?_
  refine Ops.nil ?_
  refine WP.ret ?_
  repeat (first | refine thenE_ret ?_ | refine blockE_ret ?_)
  exact retQ.mk (vs := [.int .i64 _]) rfl ⟨rfl, trivial⟩ I.ext_of (by simp only [tup, checkVal]; split at h2 <;> simp <;> omega)
theorem CheckVal_ok (B : Base) (hB : B.ok) (kind v : Int) : Fn Tryz.prog 152 [.int .i64 kind, .int .i64 v] B (fun r _ => r = .int .i64 (checkVal kind v)) := by
  refine Fn.of Tryz.func152 rfl Tryz.ntmps152 (by kernel_rfl) (by simp) ?_
  intro e
  have I := Inv.start hB
  refine WP.seq ?_
  refine WP.region ?_
  refine Ops.y (v := .int .i64 _) (Y.assign rfl) ?_
  refine Ops.nil ?_
  refine WP.seq ?_
  refine WP.seq ?_
  refine WP.region ?_
  refine Ops.y (v := .int .i64 _) (Y.move rfl) ?_
  refine Ops.go (O.callv I Tryz.call72 (within_ok _ I.base_ok _ _ _) rfl ?_)
  intro w I
  refine Ops.y (v := .bool (decide _)) (Y.notd rfl) ?_
  refine Ops.nil ?_
  refine WP.cond_dec rfl (fun h1 => ?_) (fun h1 => ?_)
  · refine WP.seq ?_
    refine WP.region ?_
    refine Ops.y (v := .int .i64 _) (Y.assign rfl) ?_
    refine Ops.nil ?_
    refine WP.ret ?_
    repeat (first | refine thenE_ret ?_ | refine blockE_ret ?_)
    exact retQ.mk (vs := [.int .i64 _]) rfl ⟨rfl, trivial⟩ I.ext_of (by simp only [tup, checkVal, within] at *; rw [if_pos (by omega)])
  simp only [within] at h1
  by_cases h2 : kind = 0
  · by_cases h3 : v = 0
    · refine WP.skip ?_
      refine WP.seq ?_
      refine WP.seq ?_
      refine WP.region ?_
      refine Ops.y (v := .int .i64 _) (Y.move rfl) ?_
      refine Ops.y (v := .bool true) (Y.dec_t (Y.eqi rfl rfl) (h2)) ?_
      refine Ops.y (v := .bool _) (Y.move rfl) ?_
      refine Ops.ygt rfl (v := .int .i64 _) (Y.move rfl) ?_
      refine Ops.ygt rfl (v := .bool false) (Y.dec_f (Y.nei rfl rfl) ((by simpa using h3))) ?_
      refine Ops.y (v := .bool _) (Y.pick_t rfl rfl) ?_
      refine Ops.y (v := .bool _) (Y.move rfl) ?_
      refine Ops.ygt rfl (v := .int .i64 _) (Y.move rfl) ?_
      refine Ops.gt rfl (O.callv I Tryz.call72 (within_ok _ I.base_ok _ _ _) rfl ?_)
      intro w I
      refine Ops.ygt rfl (v := .bool (decide _)) (Y.notd rfl) ?_
      refine Ops.y (v := .bool _) (Y.pick_f rfl rfl) ?_
      refine Ops.nil ?_
      refine WP.cond_dec rfl (fun h4 => ?_) (fun h4 => ?_)
      · refine WP.seq ?_
        refine WP.region ?_
        refine Ops.y (v := .int .i64 _) (Y.assign rfl) ?_
        refine Ops.nil ?_
        refine WP.ret ?_
        repeat (first | refine thenE_ret ?_ | refine blockE_ret ?_)
        exact retQ.mk (vs := [.int .i64 _]) rfl ⟨rfl, trivial⟩ I.ext_of (by simp only [tup, checkVal, within] at *; omega)
      refine WP.skip ?_
      refine WP.seq ?_
      refine WP.region ?_
      refine Ops.y (v := .int .i64 _) (Y.assign rfl) ?_
      refine Ops.nil ?_
      refine WP.ret ?_
      repeat (first | refine thenE_ret ?_ | refine blockE_ret ?_)
      exact retQ.mk (vs := [.int .i64 _]) rfl ⟨rfl, trivial⟩ I.ext_of (by simp only [tup, checkVal, within] at *; rw [if_neg (by omega), if_neg (by omega)])
    · refine WP.skip ?_
      refine WP.seq ?_
      refine WP.seq ?_
      refine WP.region ?_
      refine Ops.y (v := .int .i64 _) (Y.move rfl) ?_
      refine Ops.y (v := .bool true) (Y.dec_t (Y.eqi rfl rfl) (h2)) ?_
      refine Ops.y (v := .bool _) (Y.move rfl) ?_
      refine Ops.ygt rfl (v := .int .i64 _) (Y.move rfl) ?_
      refine Ops.ygt rfl (v := .bool true) (Y.dec_t (Y.nei rfl rfl) (h3)) ?_
      refine Ops.y (v := .bool _) (Y.pick_t rfl rfl) ?_
      refine Ops.y (v := .bool _) (Y.move rfl) ?_
      refine Ops.gf rfl ?_
      refine Ops.gf rfl ?_
      refine Ops.gf rfl ?_
      refine Ops.y (v := .bool _) (Y.pick_t rfl rfl) ?_
      refine Ops.nil ?_
      refine WP.cond_t rfl ?_
      refine WP.seq ?_
      refine WP.region ?_
      refine Ops.y (v := .int .i64 _) (Y.assign rfl) ?_
      refine Ops.nil ?_
      refine WP.ret ?_
      repeat (first | refine thenE_ret ?_ | refine blockE_ret ?_)
      exact retQ.mk (vs := [.int .i64 _]) rfl ⟨rfl, trivial⟩ I.ext_of (by simp only [tup, checkVal]; rw [if_neg (by omega), if_pos (by omega)])
  · refine WP.skip ?_
    refine WP.seq ?_
    refine WP.seq ?_
    refine WP.region ?_
    refine Ops.y (v := .int .i64 _) (Y.move rfl) ?_
    refine Ops.y (v := .bool false) (Y.dec_f (Y.eqi rfl rfl) (h2)) ?_
    refine Ops.y (v := .bool _) (Y.move rfl) ?_
    refine Ops.gf rfl ?_
    refine Ops.gf rfl ?_
    refine Ops.y (v := .bool _) (Y.pick_f rfl rfl) ?_
    refine Ops.y (v := .bool _) (Y.move rfl) ?_
    refine Ops.ygt rfl (v := .int .i64 _) (Y.move rfl) ?_
    refine Ops.gt rfl (O.callv I Tryz.call72 (within_ok _ I.base_ok _ _ _) rfl ?_)
    intro w I
    refine Ops.ygt rfl (v := .bool (decide _)) (Y.notd rfl) ?_
    refine Ops.y (v := .bool _) (Y.pick_f rfl rfl) ?_
    refine Ops.nil ?_
    refine WP.cond_dec rfl (fun h4 => ?_) (fun h4 => ?_)
    · refine WP.seq ?_
      refine WP.region ?_
      refine Ops.y (v := .int .i64 _) (Y.assign rfl) ?_
      refine Ops.nil ?_
      refine WP.ret ?_
      repeat (first | refine thenE_ret ?_ | refine blockE_ret ?_)
      exact retQ.mk (vs := [.int .i64 _]) rfl ⟨rfl, trivial⟩ I.ext_of (by simp only [tup, checkVal, within] at *; rw [if_neg (by omega), if_pos (by omega)])
    refine WP.skip ?_
    refine WP.seq ?_
    refine WP.region ?_
    refine Ops.y (v := .int .i64 _) (Y.assign rfl) ?_
    refine Ops.nil ?_
    refine WP.ret ?_
    repeat (first | refine thenE_ret ?_ | refine blockE_ret ?_)
    exact retQ.mk (vs := [.int .i64 _]) rfl ⟨rfl, trivial⟩ I.ext_of (by simp only [tup, checkVal, within] at *; rw [if_neg (by omega), if_neg (by omega)])
theorem joinR_ok (B : Base) (hB : B.ok) (kind a b : Int) : Fn Tryz.prog 145 [.int .i64 kind, .int .i64 a, .int .i64 b] B (fun r _ => r = .int .i64 (joinV kind a b)) := by
  by_cases h1 : kind = 1
  · by_cases h2 : b < a
    · refine Fn.of Tryz.func145 rfl Tryz.ntmps145 (by kernel_rfl) (by simp) ?_
      intro e
      have I := Inv.start hB
      refine WP.seq ?_
      refine WP.region ?_
      refine Ops.y (v := .int .i64 _) (Y.assign rfl) ?_
      refine Ops.nil ?_
      refine WP.seq ?_
      refine WP.block ?_
      refine WP.seq ?_
      refine WP.seq ?_
      refine WP.region ?_
      refine Ops.y (v := .int .i64 _) (Y.move rfl) ?_
      refine Ops.y (v := .bool true) (Y.dec_t (Y.eqi rfl rfl) (h1)) ?_
      refine Ops.y (v := .bool _) (Y.move rfl) ?_
      refine Ops.ygt rfl (v := .int .i64 _) (Y.move rfl) ?_
      refine Ops.ygt rfl (v := .int .i64 _) (Y.move rfl) ?_
      refine Ops.ygt rfl (v := .bool true) (Y.dec_t (Y.gti rfl rfl) (h2)) ?_
      refine Ops.y (v := .bool _) (Y.pick_t rfl rfl) ?_
      refine Ops.y (v := .bool _) (Y.assign rfl) ?_
      refine Ops.nil ?_
      refine WP.cond_t rfl ?_
      refine WP.skip ?_
      refine WP.cond_t rfl ?_
      refine WP.seq ?_
      refine WP.region ?_
      refine Ops.y (v := .int .i64 _) (Y.move rfl) ?_
      refine Ops.y (v := .int .i64 _) (Y.assign rfl) ?_
      refine Ops.nil ?_
      refine WP.ret ?_
      repeat (first | refine thenE_ret ?_ | refine blockE_ret ?_)
      exact retQ.mk (vs := [.int .i64 _]) rfl ⟨rfl, trivial⟩ I.ext_of (by simp only [tup, joinV, h1]; simp; omega)
    · refine Fn.of Tryz.func145 rfl Tryz.ntmps145 (by kernel_rfl) (by simp) ?_
      intro e
      have I := Inv.start hB
      refine WP.seq ?_
      refine WP.region ?_
      refine Ops.y (v := .int .i64 _) (Y.assign rfl) ?_
      refine Ops.nil ?_
      refine WP.seq ?_
      refine WP.block ?_
      refine WP.seq ?_
      refine WP.seq ?_
      refine WP.region ?_
      refine Ops.y (v := .int .i64 _) (Y.move rfl) ?_
      refine Ops.y (v := .bool true) (Y.dec_t (Y.eqi rfl rfl) (h1)) ?_
      refine Ops.y (v := .bool _) (Y.move rfl) ?_
      refine Ops.ygt rfl (v := .int .i64 _) (Y.move rfl) ?_
      refine Ops.ygt rfl (v := .int .i64 _) (Y.move rfl) ?_
      refine Ops.ygt rfl (v := .bool false) (Y.dec_f (Y.gti rfl rfl) (h2)) ?_
      refine Ops.y (v := .bool _) (Y.pick_t rfl rfl) ?_
      refine Ops.y (v := .bool _) (Y.assign rfl) ?_
      refine Ops.nil ?_
      refine WP.cond_f rfl ?_
      refine WP.region ?_
      refine Ops.y (v := .int .i64 _) (Y.move rfl) ?_
      refine Ops.y (v := .bool false) (Y.dec_f (Y.eqi rfl rfl) ((by omega))) ?_
      refine Ops.y (v := .bool _) (Y.move rfl) ?_
      refine Ops.gf rfl ?_
      refine Ops.gf rfl ?_
      refine Ops.gf rfl ?_
      refine Ops.y (v := .bool _) (Y.pick_f rfl rfl) ?_
      refine Ops.y (v := .bool _) (Y.assign rfl) ?_
      refine Ops.nil ?_
      refine WP.cond_f rfl ?_
      refine WP.seq ?_
      refine WP.seq ?_
      refine WP.region ?_
      refine Ops.y (v := .int .i64 _) (Y.move rfl) ?_
      refine Ops.y (v := .bool (decide _)) (Y.eqi rfl rfl) ?_
      refine Ops.y (v := .bool _) (Y.assign rfl) ?_
      refine Ops.nil ?_
      refine WP.cond_decT rfl (h1) ?_
      refine WP.skip ?_
      refine WP.cond_decT rfl (h1) ?_
      refine WP.seq ?_
      refine WP.region ?_
      refine Ops.y (v := .int .i64 _) (Y.move rfl) ?_
      refine Ops.y (v := .int .i64 _) (Y.assign rfl) ?_
      refine Ops.nil ?_
      refine WP.ret ?_
      repeat (first | refine thenE_ret ?_ | refine blockE_ret ?_)
      exact retQ.mk (vs := [.int .i64 _]) rfl ⟨rfl, trivial⟩ I.ext_of (by simp only [tup, joinV, h1]; simp; omega)
  · by_cases h2 : kind = 2
    · by_cases h3 : a < b
      · refine Fn.of Tryz.func145 rfl Tryz.ntmps145 (by kernel_rfl) (by simp) ?_
        intro e
        have I := Inv.start hB
        refine WP.seq ?_
        refine WP.region ?_
        refine Ops.y (v := .int .i64 _) (Y.assign rfl) ?_
        refine Ops.nil ?_
        refine WP.seq ?_
        refine WP.block ?_
        refine WP.seq ?_
        refine WP.seq ?_
        refine WP.region ?_
        refine Ops.y (v := .int .i64 _) (Y.move rfl) ?_
        refine Ops.y (v := .bool false) (Y.dec_f (Y.eqi rfl rfl) (h1)) ?_
        refine Ops.y (v := .bool _) (Y.move rfl) ?_
        refine Ops.gf rfl ?_
        refine Ops.gf rfl ?_
        refine Ops.gf rfl ?_
        refine Ops.y (v := .bool _) (Y.pick_f rfl rfl) ?_
        refine Ops.y (v := .bool _) (Y.assign rfl) ?_
        refine Ops.nil ?_
        refine WP.cond_f rfl ?_
        refine WP.region ?_
        refine Ops.y (v := .int .i64 _) (Y.move rfl) ?_
        refine Ops.y (v := .bool true) (Y.dec_t (Y.eqi rfl rfl) (h2)) ?_
        refine Ops.y (v := .bool _) (Y.move rfl) ?_
        refine Ops.ygt rfl (v := .int .i64 _) (Y.move rfl) ?_
        refine Ops.ygt rfl (v := .int .i64 _) (Y.move rfl) ?_
        refine Ops.ygt rfl (v := .bool true) (Y.dec_t (Y.lti rfl rfl) (h3)) ?_
        refine Ops.y (v := .bool _) (Y.pick_t rfl rfl) ?_
        refine Ops.y (v := .bool _) (Y.assign rfl) ?_
        refine Ops.nil ?_
        refine WP.cond_t rfl ?_
        refine WP.seq ?_
        refine WP.region ?_
        refine Ops.y (v := .int .i64 _) (Y.move rfl) ?_
        refine Ops.y (v := .int .i64 _) (Y.assign rfl) ?_
        refine Ops.nil ?_
        refine WP.ret ?_
        repeat (first | refine thenE_ret ?_ | refine blockE_ret ?_)
        exact retQ.mk (vs := [.int .i64 _]) rfl ⟨rfl, trivial⟩ I.ext_of (by simp only [tup, joinV, h2]; simp; omega)
      · refine Fn.of Tryz.func145 rfl Tryz.ntmps145 (by kernel_rfl) (by simp) ?_
        intro e
        have I := Inv.start hB
        refine WP.seq ?_
        refine WP.region ?_
        refine Ops.y (v := .int .i64 _) (Y.assign rfl) ?_
        refine Ops.nil ?_
        refine WP.seq ?_
        refine WP.block ?_
        refine WP.seq ?_
        refine WP.seq ?_
        refine WP.region ?_
        refine Ops.y (v := .int .i64 _) (Y.move rfl) ?_
        refine Ops.y (v := .bool false) (Y.dec_f (Y.eqi rfl rfl) (h1)) ?_
        refine Ops.y (v := .bool _) (Y.move rfl) ?_
        refine Ops.gf rfl ?_
        refine Ops.gf rfl ?_
        refine Ops.gf rfl ?_
        refine Ops.y (v := .bool _) (Y.pick_f rfl rfl) ?_
        refine Ops.y (v := .bool _) (Y.assign rfl) ?_
        refine Ops.nil ?_
        refine WP.cond_f rfl ?_
        refine WP.region ?_
        refine Ops.y (v := .int .i64 _) (Y.move rfl) ?_
        refine Ops.y (v := .bool true) (Y.dec_t (Y.eqi rfl rfl) (h2)) ?_
        refine Ops.y (v := .bool _) (Y.move rfl) ?_
        refine Ops.ygt rfl (v := .int .i64 _) (Y.move rfl) ?_
        refine Ops.ygt rfl (v := .int .i64 _) (Y.move rfl) ?_
        refine Ops.ygt rfl (v := .bool false) (Y.dec_f (Y.lti rfl rfl) (h3)) ?_
        refine Ops.y (v := .bool _) (Y.pick_t rfl rfl) ?_
        refine Ops.y (v := .bool _) (Y.assign rfl) ?_
        refine Ops.nil ?_
        refine WP.cond_f rfl ?_
        refine WP.seq ?_
        refine WP.seq ?_
        refine WP.region ?_
        refine Ops.y (v := .int .i64 _) (Y.move rfl) ?_
        refine Ops.y (v := .bool (decide _)) (Y.eqi rfl rfl) ?_
        refine Ops.y (v := .bool _) (Y.assign rfl) ?_
        refine Ops.nil ?_
        refine WP.cond_decF rfl (h1) ?_
        refine WP.region ?_
        refine Ops.y (v := .int .i64 _) (Y.move rfl) ?_
        refine Ops.y (v := .bool (decide _)) (Y.eqi rfl rfl) ?_
        refine Ops.y (v := .bool _) (Y.assign rfl) ?_
        refine Ops.nil ?_
        refine WP.cond_decT rfl (h2) ?_
        refine WP.seq ?_
        refine WP.region ?_
        refine Ops.y (v := .int .i64 _) (Y.move rfl) ?_
        refine Ops.y (v := .int .i64 _) (Y.assign rfl) ?_
        refine Ops.nil ?_
        refine WP.ret ?_
        repeat (first | refine thenE_ret ?_ | refine blockE_ret ?_)
        exact retQ.mk (vs := [.int .i64 _]) rfl ⟨rfl, trivial⟩ I.ext_of (by simp only [tup, joinV, h2]; simp; omega)
    · refine Fn.of Tryz.func145 rfl Tryz.ntmps145 (by kernel_rfl) (by simp) ?_
      intro e
      have I := Inv.start hB
      refine WP.seq ?_
      refine WP.region ?_
      refine Ops.y (v := .int .i64 _) (Y.assign rfl) ?_
      refine Ops.nil ?_
      refine WP.seq ?_
      refine WP.block ?_
      refine WP.seq ?_
      refine WP.seq ?_
      refine WP.region ?_
      refine Ops.y (v := .int .i64 _) (Y.move rfl) ?_
      refine Ops.y (v := .bool false) (Y.dec_f (Y.eqi rfl rfl) (h1)) ?_
      refine Ops.y (v := .bool _) (Y.move rfl) ?_
      refine Ops.gf rfl ?_
      refine Ops.gf rfl ?_
      refine Ops.gf rfl ?_
      refine Ops.y (v := .bool _) (Y.pick_f rfl rfl) ?_
      refine Ops.y (v := .bool _) (Y.assign rfl) ?_
      refine Ops.nil ?_
      refine WP.cond_f rfl ?_
      refine WP.region ?_
      refine Ops.y (v := .int .i64 _) (Y.move rfl) ?_
      refine Ops.y (v := .bool false) (Y.dec_f (Y.eqi rfl rfl) (h2)) ?_
      refine Ops.y (v := .bool _) (Y.move rfl) ?_
      refine Ops.gf rfl ?_
      refine Ops.gf rfl ?_
      refine Ops.gf rfl ?_
      refine Ops.y (v := .bool _) (Y.pick_f rfl rfl) ?_
      refine Ops.y (v := .bool _) (Y.assign rfl) ?_
      refine Ops.nil ?_
      refine WP.cond_f rfl ?_
      refine WP.seq ?_
      refine WP.seq ?_
      refine WP.region ?_
      refine Ops.y (v := .int .i64 _) (Y.move rfl) ?_
      refine Ops.y (v := .bool (decide _)) (Y.eqi rfl rfl) ?_
      refine Ops.y (v := .bool _) (Y.assign rfl) ?_
      refine Ops.nil ?_
      refine WP.cond_decF rfl (h1) ?_
      refine WP.region ?_
      refine Ops.y (v := .int .i64 _) (Y.move rfl) ?_
      refine Ops.y (v := .bool (decide _)) (Y.eqi rfl rfl) ?_
      refine Ops.y (v := .bool _) (Y.assign rfl) ?_
      refine Ops.nil ?_
      refine WP.cond_decF rfl (h2) ?_
      refine WP.seq ?_
      refine WP.region ?_
      refine Ops.y (v := .int .i64 _) (Y.move rfl) ?_
      refine Ops.y (v := .bool (decide _)) (Y.eqi rfl rfl) ?_
      refine Ops.y (v := .bool _) (Y.assign rfl) ?_
      refine Ops.nil ?_
      refine WP.cond_dec rfl (fun h3 => ?_) (fun h3 => ?_)
      · refine WP.seq ?_
        refine WP.region ?_
        refine Ops.y (v := .int .i64 _) (Y.move rfl) ?_
        refine Ops.y (v := .int .i64 _) (Y.move rfl) ?_
        refine Ops.y (v := .int .i64 _) (Y.ori rfl rfl) ?_
        refine Ops.y (v := .int .i64 _) (Y.assign rfl) ?_
        refine Ops.nil ?_
        refine WP.ret ?_
        repeat (first | refine thenE_ret ?_ | refine blockE_ret ?_)
        exact retQ.mk (vs := [.int .i64 _]) rfl ⟨rfl, trivial⟩ I.ext_of (by simp [tup, joinV, h3])
      refine WP.skip ?_
      refine WP.seq ?_
      refine WP.region ?_
      refine Ops.y (v := .int .i64 _) (Y.assign rfl) ?_
      refine Ops.nil ?_
      refine WP.ret ?_
      repeat (first | refine thenE_ret ?_ | refine blockE_ret ?_)
      exact retQ.mk (vs := [.int .i64 _]) rfl ⟨rfl, trivial⟩ I.ext_of (by simp [tup, joinV, h1, h2, h3])
theorem liftR_ok (B : Base) (hB : B.ok) (kind a b : Int) (hr : I64 (a + b)) : Fn Tryz.prog 143 [.int .i64 kind, .int .i64 a, .int .i64 b] B (fun r _ => r = .int .i64 (liftV kind a b)) := by
  obtain ⟨hr1, hr2⟩ := hr
  refine Fn.of Tryz.func143 rfl Tryz.ntmps143 (by kernel_rfl) (by simp) ?_
  intro e
  have I := Inv.start hB
  refine WP.seq ?_
  refine WP.region ?_
  refine Ops.y (v := .int .i64 _) (Y.assign rfl) ?_
  refine Ops.nil ?_
  refine WP.seq ?_
  refine WP.block ?_
  refine WP.seq ?_
  refine WP.region ?_
  refine Ops.y (v := .int .i64 _) (Y.move rfl) ?_
  refine Ops.y (v := .bool (decide _)) (Y.eqi rfl rfl) ?_
  refine Ops.y (v := .bool _) (Y.assign rfl) ?_
  refine Ops.nil ?_
  refine WP.cond_dec rfl (fun h1 => ?_) (fun h1 => ?_)
  · refine WP.seq ?_
    refine WP.region ?_
    refine Ops.y (v := .int .i64 _) (Y.assign rfl) ?_
    refine Ops.nil ?_
    refine WP.ret ?_
    repeat (first | refine thenE_ret ?_ | refine blockE_ret ?_)
    exact retQ.mk (vs := [.int .i64 _]) rfl ⟨rfl, trivial⟩ I.ext_of (by simp [tup, liftV, h1])
  refine WP.seq ?_
  refine WP.region ?_
  refine Ops.y (v := .int .i64 _) (Y.move rfl) ?_
  refine Ops.y (v := .bool (decide _)) (Y.eqi rfl rfl) ?_
  refine Ops.y (v := .bool _) (Y.assign rfl) ?_
  refine Ops.nil ?_
  refine WP.cond_dec rfl (fun h2 => ?_) (fun h2 => ?_)
  · refine WP.seq ?_
    refine WP.region ?_
    refine Ops.y (v := .int .i64 _) (Y.move rfl) ?_
    refine Ops.y (v := .int .i64 _) (Y.move rfl) ?_
    refine Ops.y (v := .int .i64 _) (Y.ori rfl rfl) ?_
    refine Ops.y (v := .int .i64 _) (Y.assign rfl) ?_
    refine Ops.nil ?_
    refine WP.ret ?_
    repeat (first | refine thenE_ret ?_ | refine blockE_ret ?_)
    exact retQ.mk (vs := [.int .i64 _]) rfl ⟨rfl, trivial⟩ I.ext_of (by simp [tup, liftV, h2])
  refine WP.seq ?_
  refine WP.region ?_
  refine Ops.y (v := .int .i64 _) (Y.move rfl) ?_
  refine Ops.y (v := .int .i64 _) (Y.move rfl) ?_
  refine Ops.y (v := .int .i64 _) (Y.addi rfl rfl ⟨by omega, by omega⟩) ?_
  refine Ops.y (v := .bool (decide _)) (Y.gti rfl rfl) ?_
  refine Ops.y (v := .bool _) (Y.assign rfl) ?_
  refine Ops.nil ?_
  refine WP.cond_dec rfl (fun h3 => ?_) (fun h3 => ?_)
  · refine WP.seq ?_
    refine WP.region ?_
    refine Ops.y (v := .int .i64 _) (Y.assign rfl) ?_
    refine Ops.nil ?_
    refine WP.ret ?_
    repeat (first | refine thenE_ret ?_ | refine blockE_ret ?_)
    exact retQ.mk (vs := [.int .i64 _]) rfl ⟨rfl, trivial⟩ I.ext_of (by simp only [tup, liftV, h1, h2]; simp; omega)
  refine WP.skip ?_
  refine WP.seq ?_
  refine WP.region ?_
  refine Ops.y (v := .int .i64 _) (Y.move rfl) ?_
  refine Ops.y (v := .int .i64 _) (Y.move rfl) ?_
  refine Ops.y (v := .int .i64 _) (Y.addi rfl rfl ⟨by omega, by omega⟩) ?_
  refine Ops.y (v := .int .i64 _) (Y.assign rfl) ?_
  refine Ops.nil ?_
  refine WP.ret ?_
  repeat (first | refine thenE_ret ?_ | refine blockE_ret ?_)
  exact retQ.mk (vs := [.int .i64 _]) rfl ⟨rfl, trivial⟩ I.ext_of (by simp only [tup, liftV, h1, h2]; simp; omega)
theorem kinds4 {k : Int} (h : 0 ≤ k ∧ k ≤ 3) : k = 0 ∨ k = 1 ∨ k = 2 ∨ k = 3 := by omega
theorem Joined_ok (B : Base) (hB : B.ok) (kind a b : Int) (hk : 0 ≤ kind ∧ kind ≤ 3) : Fn Tryz.prog 137 [.int .i64 kind, .int .i64 a, .int .i64 b] B (fun r _ => r = .int .i64 (joinV kind a b)) := by
  refine Fn.of Tryz.func137 rfl Tryz.ntmps137 (by kernel_rfl) (by simp) ?_
  intro e
  have I := Inv.start hB
  refine WP.seq ?_
  refine WP.region ?_
  refine Ops.y (v := .int .i64 _) (Y.assign rfl) ?_
  refine Ops.nil ?_
  rcases kinds4 hk with rfl | rfl | rfl | rfl
  · refine WP.seq ?_
    refine WP.region ?_
    refine Ops.go (O.callv I Tryz.call178 (orders_ok _ I.base_ok) rfl ?_)
    intro w I
    refine Ops.y (v := .int .i64 _) (Y.move rfl) ?_
    refine Ops.y (v := .agg #[_, _]) (Y.idxvv Tryz.underlying205 ty_204 rfl rfl (by decide) (by decide) rfl rfl rfl) ?_
    refine Ops.y (v := .func _ _ _) (Y.field fd_204_0 ty_76 rfl rfl rfl rfl) ?_
    refine Ops.y (v := .int .i64 _) (Y.move rfl) ?_
    refine Ops.y (v := .int .i64 _) (Y.move rfl) ?_
    refine Ops.go (O.callc I Tryz.call190 rfl (orders3_ok _ I.base_ok _ _) rfl ?_)
    rintro _ h w I hle rfl
    refine Ops.y (v := .int .i64 _) (Y.assign rfl) ?_
    refine Ops.nil ?_
    refine WP.ret ?_
    repeat (first | refine thenE_ret ?_ | refine blockE_ret ?_)
    exact retQ.mk (vs := [.int .i64 _]) rfl ⟨rfl, trivial⟩ I.ext_of (rfl)
  · refine WP.seq ?_
    refine WP.region ?_
    refine Ops.go (O.callv I Tryz.call178 (orders_ok _ I.base_ok) rfl ?_)
    intro w I
    refine Ops.y (v := .int .i64 _) (Y.move rfl) ?_
    refine Ops.y (v := .agg #[_, _]) (Y.idxvv Tryz.underlying205 ty_204 rfl rfl (by decide) (by decide) rfl rfl rfl) ?_
    refine Ops.y (v := .func _ _ _) (Y.field fd_204_0 ty_76 rfl rfl rfl rfl) ?_
    refine Ops.y (v := .int .i64 _) (Y.move rfl) ?_
    refine Ops.y (v := .int .i64 _) (Y.move rfl) ?_
    refine Ops.go (O.callc I Tryz.call191 rfl (orders4_ok _ I.base_ok _ _) rfl ?_)
    rintro _ h w I hle rfl
    refine Ops.y (v := .int .i64 _) (Y.assign rfl) ?_
    refine Ops.nil ?_
    refine WP.ret ?_
    repeat (first | refine thenE_ret ?_ | refine blockE_ret ?_)
    exact retQ.mk (vs := [.int .i64 _]) rfl ⟨rfl, trivial⟩ I.ext_of (rfl)
  · refine WP.seq ?_
    refine WP.region ?_
    refine Ops.go (O.callv I Tryz.call178 (orders_ok _ I.base_ok) rfl ?_)
    intro w I
    refine Ops.y (v := .int .i64 _) (Y.move rfl) ?_
    refine Ops.y (v := .agg #[_, _]) (Y.idxvv Tryz.underlying205 ty_204 rfl rfl (by decide) (by decide) rfl rfl rfl) ?_
    refine Ops.y (v := .func _ _ _) (Y.field fd_204_0 ty_76 rfl rfl rfl rfl) ?_
    refine Ops.y (v := .int .i64 _) (Y.move rfl) ?_
    refine Ops.y (v := .int .i64 _) (Y.move rfl) ?_
    refine Ops.go (O.callc I Tryz.call192 rfl (orders5_ok _ I.base_ok _ _) rfl ?_)
    rintro _ h w I hle rfl
    refine Ops.y (v := .int .i64 _) (Y.assign rfl) ?_
    refine Ops.nil ?_
    refine WP.ret ?_
    repeat (first | refine thenE_ret ?_ | refine blockE_ret ?_)
    exact retQ.mk (vs := [.int .i64 _]) rfl ⟨rfl, trivial⟩ I.ext_of (rfl)
  · refine WP.seq ?_
    refine WP.region ?_
    refine Ops.go (O.callv I Tryz.call178 (orders_ok _ I.base_ok) rfl ?_)
    intro w I
    refine Ops.y (v := .int .i64 _) (Y.move rfl) ?_
    refine Ops.y (v := .agg #[_, _]) (Y.idxvv Tryz.underlying205 ty_204 rfl rfl (by decide) (by decide) rfl rfl rfl) ?_
    refine Ops.y (v := .func _ _ _) (Y.field fd_204_0 ty_76 rfl rfl rfl rfl) ?_
    refine Ops.y (v := .int .i64 _) (Y.move rfl) ?_
    refine Ops.y (v := .int .i64 _) (Y.move rfl) ?_
    refine Ops.go (O.callc I Tryz.call189 rfl (orders2_ok _ I.base_ok _ _) rfl ?_)
    rintro _ h w I hle rfl
    refine Ops.y (v := .int .i64 _) (Y.assign rfl) ?_
    refine Ops.nil ?_
    refine WP.ret ?_
    repeat (first | refine thenE_ret ?_ | refine blockE_ret ?_)
    exact retQ.mk (vs := [.int .i64 _]) rfl ⟨rfl, trivial⟩ I.ext_of (rfl)
theorem Lifted_ok (B : Base) (hB : B.ok) (kind a b : Int) (hk : 0 ≤ kind ∧ kind ≤ 3) (hr : I64 (a + b)) : Fn Tryz.prog 150 [.int .i64 kind, .int .i64 a, .int .i64 b] B (fun r _ => r = .int .i64 (liftV kind a b)) := by
  refine Fn.of Tryz.func150 rfl Tryz.ntmps150 (by kernel_rfl) (by simp) ?_
  intro e
  have I := Inv.start hB
  refine WP.seq ?_
  refine WP.region ?_
  refine Ops.y (v := .int .i64 _) (Y.assign rfl) ?_
  refine Ops.nil ?_
  rcases kinds4 hk with rfl | rfl | rfl | rfl
  · refine WP.seq ?_
    refine WP.region ?_
    refine Ops.go (O.callv I Tryz.call178 (orders_ok _ I.base_ok) rfl ?_)
    intro w I
    refine Ops.y (v := .int .i64 _) (Y.move rfl) ?_
    refine Ops.y (v := .agg #[_, _]) (Y.idxvv Tryz.underlying205 ty_204 rfl rfl (by decide) (by decide) rfl rfl rfl) ?_
    refine Ops.y (v := .func _ _ _) (Y.field fd_204_1 ty_76 rfl rfl rfl rfl) ?_
    refine Ops.y (v := .int .i64 _) (Y.move rfl) ?_
    refine Ops.y (v := .int .i64 _) (Y.move rfl) ?_
    refine Ops.go (O.callc I Tryz.call190 rfl (orders3_ok _ I.base_ok _ _) rfl ?_)
    rintro _ h w I hle rfl
    refine Ops.y (v := .int .i64 _) (Y.assign rfl) ?_
    refine Ops.nil ?_
    refine WP.ret ?_
    repeat (first | refine thenE_ret ?_ | refine blockE_ret ?_)
    exact retQ.mk (vs := [.int .i64 _]) rfl ⟨rfl, trivial⟩ I.ext_of (rfl)
  · refine WP.seq ?_
    refine WP.region ?_
    refine Ops.go (O.callv I Tryz.call178 (orders_ok _ I.base_ok) rfl ?_)
    intro w I
    refine Ops.y (v := .int .i64 _) (Y.move rfl) ?_
    refine Ops.y (v := .agg #[_, _]) (Y.idxvv Tryz.underlying205 ty_204 rfl rfl (by decide) (by decide) rfl rfl rfl) ?_
    refine Ops.y (v := .func _ _ _) (Y.field fd_204_1 ty_76 rfl rfl rfl rfl) ?_
    refine Ops.y (v := .int .i64 _) (Y.move rfl) ?_
    refine Ops.y (v := .int .i64 _) (Y.move rfl) ?_
    refine Ops.go (O.callc I Tryz.call188 rfl (orders1_ok _ I.base_ok _ _ hr) rfl ?_)
    rintro _ h w I hle rfl
    refine Ops.y (v := .int .i64 _) (Y.assign rfl) ?_
    refine Ops.nil ?_
    refine WP.ret ?_
    repeat (first | refine thenE_ret ?_ | refine blockE_ret ?_)
    exact retQ.mk (vs := [.int .i64 _]) rfl ⟨rfl, trivial⟩ I.ext_of (rfl)
  · refine WP.seq ?_
    refine WP.region ?_
    refine Ops.go (O.callv I Tryz.call178 (orders_ok _ I.base_ok) rfl ?_)
    intro w I
    refine Ops.y (v := .int .i64 _) (Y.move rfl) ?_
    refine Ops.y (v := .agg #[_, _]) (Y.idxvv Tryz.underlying205 ty_204 rfl rfl (by decide) (by decide) rfl rfl rfl) ?_
    refine Ops.y (v := .func _ _ _) (Y.field fd_204_1 ty_76 rfl rfl rfl rfl) ?_
    refine Ops.y (v := .int .i64 _) (Y.move rfl) ?_
    refine Ops.y (v := .int .i64 _) (Y.move rfl) ?_
    refine Ops.go (O.callc I Tryz.call188 rfl (orders1_ok _ I.base_ok _ _ hr) rfl ?_)
    rintro _ h w I hle rfl
    refine Ops.y (v := .int .i64 _) (Y.assign rfl) ?_
    refine Ops.nil ?_
    refine WP.ret ?_
    repeat (first | refine thenE_ret ?_ | refine blockE_ret ?_)
    exact retQ.mk (vs := [.int .i64 _]) rfl ⟨rfl, trivial⟩ I.ext_of (rfl)
  · refine WP.seq ?_
    refine WP.region ?_
    refine Ops.go (O.callv I Tryz.call178 (orders_ok _ I.base_ok) rfl ?_)
    intro w I
    refine Ops.y (v := .int .i64 _) (Y.move rfl) ?_
    refine Ops.y (v := .agg #[_, _]) (Y.idxvv Tryz.underlying205 ty_204 rfl rfl (by decide) (by decide) rfl rfl rfl) ?_
    refine Ops.y (v := .func _ _ _) (Y.field fd_204_1 ty_76 rfl rfl rfl rfl) ?_
    refine Ops.y (v := .int .i64 _) (Y.move rfl) ?_
    refine Ops.y (v := .int .i64 _) (Y.move rfl) ?_
    refine Ops.go (O.callc I Tryz.call189 rfl (orders2_ok _ I.base_ok _ _) rfl ?_)
    rintro _ h w I hle rfl
    refine Ops.y (v := .int .i64 _) (Y.assign rfl) ?_
    refine Ops.nil ?_
    refine WP.ret ?_
    repeat (first | refine thenE_ret ?_ | refine blockE_ret ?_)
    exact retQ.mk (vs := [.int .i64 _]) rfl ⟨rfl, trivial⟩ I.ext_of (rfl)
end Go.TF
end
section
/- Join, Lift, Leq and the references: contracts. -/
namespace Go.TF
open Go Go.RowKit Go.Proofs
set_option maxRecDepth 10000
end Go.TF
end
section
/- slices.IndexFunc, ContainsFunc at this program's types, at a predicate that keeps nothing. -/
namespace Go.TF
open Go Go.RowKit Go.Proofs
set_option maxRecDepth 10000

/-- A function value that answers p at each element, whatever the world, and keeps nothing. -/
def PredFn {α : Type} (P : Program) (f : FuncId) (fs cs : List Value) (h : Heap) (val : α → Value) (xs : List α) (p : α → Bool) : Prop :=
  ∀ B' : Base, B'.ok → h.le B'.h → ∀ x ∈ xs, Fn P f (fs ++ [val x] ++ cs) B' (fun v _ => v = .bool (p x))
def idxOf {α : Type} (p : α → Bool) (xs : List α) : Int := match xs.findIdx? p with | some i => (i : Int) | none => -1
theorem idxOf_none {α : Type} {p : α → Bool} {xs : List α} (h : ∀ x ∈ xs, p x = false) : idxOf p xs = -1 := by
  have : xs.findIdx? p = none := by rw [List.findIdx?_eq_none_iff]; intro x hx; simpa using h x hx
  simp [idxOf, this]
theorem idxOf_some {α : Type} {p : α → Bool} {xs : List α} {k : Nat} (hk : k < xs.length) (h : ∀ j (hj : j < k), p (xs[j]'(by omega)) = false) (hp : p xs[k] = true) : idxOf p xs = k := by
  have : xs.findIdx? p = some k := by
    rw [List.findIdx?_eq_some_iff_getElem]
    exact ⟨hk, hp, fun j hj => by simp [h j hj]⟩
  simp [idxOf, this]
theorem idxOf_any {α : Type} (p : α → Bool) (xs : List α) : decide (0 ≤ idxOf p xs) = xs.any p := by
  unfold idxOf
  cases h : xs.findIdx? p with
  | none =>
    rw [List.findIdx?_eq_none_iff] at h
    have : xs.any p = false := by rw [List.any_eq_false]; intro x hx; simp [h x hx]
    simp [this]
  | some i =>
    rw [List.findIdx?_eq_some_iff_getElem] at h
    obtain ⟨hi, hp, _⟩ := h
    have : xs.any p = true := List.any_eq_true.2 ⟨_, List.getElem_mem hi, hp⟩
    simp [this]
theorem IndexFuncTrm_ok (B : Base) (hB : B.ok) (l : Sl Trm) (hl : l.Is 2 Trm.enc B.h) (f : FuncId) (ent : Enters Tryz.prog f) (fs cs : List Value) (p : Trm → Bool) (hp : PredFn Tryz.prog f fs cs B.h Trm.val l.xs p) :
    Fn Tryz.prog 193 [l.val, .func (.func f) fs.toArray cs.toArray] B (fun v _ => v = .int .i64 (idxOf p l.xs)) := by
  refine Fn.of Tryz.func193 rfl Tryz.ntmps193 (by kernel_rfl) (by simp) ?_
  intro e
  have I := Inv.start hB
  refine WP.seq ?_
  refine WP.region ?_
  refine Ops.y (v := .int .i64 _) (Y.assign rfl) ?_
  refine Ops.nil ?_
  refine WP.seq ?_
  refine WP.seq ?_
  refine WP.region ?_
  refine Ops.y (v := .slice _ _ _) (Y.move rfl) ?_
  refine Ops.y (v := .int .i64 _) (Y.lens Tryz.underlying63 rfl) ?_
  refine Ops.y (v := .int .i64 _) (Y.move rfl) ?_
  refine Ops.nil ?_
  refine WP.block ?_
  refine WP.loopE (σ := Nat) (fun k => [(0, l.val), (1, .func (.func f) fs.toArray cs.toArray), (7, .int .i64 l.xs.length), (8, .int .i64 k)]) (fun k w => Inv B B.h [] w ∧ k ≤ l.xs.length ∧ ∀ j (hj : j < k) (hj' : j < l.xs.length), p l.xs[j] = false) (fun k => l.xs.length - k)
    ⟨0, ⟨rfl, rfl, rfl, rfl, trivial⟩, I, Nat.zero_le _, fun j hj => (by omega)⟩ ?_
  rintro k e w ⟨I, hk, hn⟩
  have hsm := hl.small
  refine WP.seq ?_
  refine WP.region ?_
  refine Ops.y (v := .bool (decide _)) (Y.lti rfl rfl) ?_
  refine Ops.nil ?_
  refine WP.seq ?_
  refine WP.cond_dec rfl (fun h => ?_) (fun h => ?_)
  · have hk' : k < l.xs.length := by omega
    have E1 := hl.at hk'
    refine WP.skip ?_
    refine WP.seq ?_
    refine WP.block ?_
    refine WP.seq ?_
    refine WP.region ?_
    refine Ops.y (v := .int .i64 _) (Y.move rfl) ?_
    refine Ops.y (v := .int .i64 _) (Y.assign rfl) ?_
    refine Ops.nil ?_
    refine WP.seq ?_
    refine WP.region ?_
    refine Ops.y (v := .func _ _ _) (Y.move rfl) ?_
    refine Ops.y (v := .slice _ _ _) (Y.move rfl) ?_
    refine Ops.y (v := .int .i64 _) (Y.move rfl) ?_
    refine Ops.y (v := .pointer (some ⟨_, _, none⟩)) (Y.idxEl E1 Tryz.underlying63 Tryz.sizeOf91 rfl rfl (Int.natCast_nonneg _) rfl) ?_
    refine Ops.y (v := .agg #[_, _]) (Y.loadv ty_91 rfl (I.rd (E1.rd.part 0 2)) rfl rfl) ?_
    refine Ops.go (O.callcv I ent rfl (hp ⟨w, B.h⟩ I.base_ok (Heap.le.refl _) l.xs[k] (List.getElem_mem hk')) rfl ?_)
    intro w I
    refine Ops.nil ?_
    refine WP.cond rfl (fun hb => ?_) (fun hb => ?_)
    · refine WP.seq ?_
      refine WP.region ?_
      refine Ops.y (v := .int .i64 _) (Y.move rfl) ?_
      refine Ops.y (v := .int .i64 _) (Y.assign rfl) ?_
      refine Ops.nil ?_
      refine WP.ret ?_
      repeat (first | refine thenE_ret ?_ | refine blockE_ret ?_)
      exact retQ.mk (vs := [.int .i64 _]) rfl ⟨rfl, trivial⟩ I.ext_of (by simp only [tup]; rw [idxOf_some hk' (fun j hj => hn j hj (by omega)) hb])
    refine WP.skip ?_
    refine WP.region ?_
    refine Ops.y (v := .int .i64 _) (Y.addi rfl rfl ⟨by omega, by omega⟩) ?_
    refine Ops.y (v := .int .i64 _) (Y.move rfl) ?_
    refine Ops.nil ?_
    exact ⟨k + 1, ⟨⟨rfl, rfl, rfl, rfl, trivial⟩, I, by omega, fun j hj hj' => by
      rcases Nat.lt_succ_iff_lt_or_eq.1 hj with h' | h'
      · exact hn j h' hj'
      · subst h'; exact hb⟩, by omega⟩
  refine WP.exit ?_
  refine WP.seq ?_
  refine WP.region ?_
  refine Ops.y (v := .int .i64 _) (Y.assign rfl) ?_
  refine Ops.nil ?_
  refine WP.ret ?_
  repeat (first | refine thenE_ret ?_ | refine blockE_ret ?_)
  exact retQ.mk (vs := [.int .i64 _]) rfl ⟨rfl, trivial⟩ I.ext_of (by simp only [tup]; rw [idxOf_none]; intro x hx; obtain ⟨j, hj, rfl⟩ := List.getElem_of_mem hx; exact hn j (by omega) hj)
theorem ContainsFuncTrm_ok (B : Base) (hB : B.ok) (l : Sl Trm) (hl : l.Is 2 Trm.enc B.h) (f : FuncId) (ent : Enters Tryz.prog f) (fs cs : List Value) (p : Trm → Bool) (hp : PredFn Tryz.prog f fs cs B.h Trm.val l.xs p) :
    Fn Tryz.prog 181 [l.val, .func (.func f) fs.toArray cs.toArray] B (fun v _ => v = .bool (l.xs.any p)) := by
  refine Fn.of Tryz.func181 rfl Tryz.ntmps181 (by kernel_rfl) (by simp) ?_
  intro e
  have I := Inv.start hB
  refine WP.seq ?_
  refine WP.region ?_
  refine Ops.y (v := .bool _) (Y.assign rfl) ?_
  refine Ops.nil ?_
  refine WP.seq ?_
  refine WP.region ?_
  refine Ops.y (v := .slice _ _ _) (Y.move rfl) ?_
  refine Ops.y (v := .func _ _ _) (Y.move rfl) ?_
  refine Ops.go (O.callv I Tryz.call193 (IndexFuncTrm_ok _ I.base_ok l hl f ent fs cs p hp) rfl ?_)
  intro w I
  refine Ops.y (v := .bool (decide _)) (Y.gei rfl rfl) ?_
  refine Ops.y (v := .bool _) (Y.assign rfl) ?_
  refine Ops.nil ?_
  refine WP.ret ?_
  repeat (first | refine thenE_ret ?_ | refine blockE_ret ?_)
  exact retQ.mk (vs := [.bool _]) rfl ⟨rfl, trivial⟩ I.ext_of (by simp only [tup]; rw [idxOf_any])
theorem IndexFuncPrd_ok (B : Base) (hB : B.ok) (l : Sl Prd) (hl : l.Is 3 Prd.enc B.h) (f : FuncId) (ent : Enters Tryz.prog f) (fs cs : List Value) (p : Prd → Bool) (hp : PredFn Tryz.prog f fs cs B.h Prd.val l.xs p) :
    Fn Tryz.prog 155 [l.val, .func (.func f) fs.toArray cs.toArray] B (fun v _ => v = .int .i64 (idxOf p l.xs)) := by
  refine Fn.of Tryz.func155 rfl Tryz.ntmps155 (by kernel_rfl) (by simp) ?_
  intro e
  have I := Inv.start hB
  refine WP.seq ?_
  refine WP.region ?_
  refine Ops.y (v := .int .i64 _) (Y.assign rfl) ?_
  refine Ops.nil ?_
  refine WP.seq ?_
  refine WP.seq ?_
  refine WP.region ?_
  refine Ops.y (v := .slice _ _ _) (Y.move rfl) ?_
  refine Ops.y (v := .int .i64 _) (Y.lens Tryz.underlying22 rfl) ?_
  refine Ops.y (v := .int .i64 _) (Y.move rfl) ?_
  refine Ops.nil ?_
  refine WP.block ?_
  refine WP.loopE (σ := Nat) (fun k => [(0, l.val), (1, .func (.func f) fs.toArray cs.toArray), (7, .int .i64 l.xs.length), (8, .int .i64 k)]) (fun k w => Inv B B.h [] w ∧ k ≤ l.xs.length ∧ ∀ j (hj : j < k) (hj' : j < l.xs.length), p l.xs[j] = false) (fun k => l.xs.length - k)
    ⟨0, ⟨rfl, rfl, rfl, rfl, trivial⟩, I, Nat.zero_le _, fun j hj => (by omega)⟩ ?_
  rintro k e w ⟨I, hk, hn⟩
  have hsm := hl.small
  refine WP.seq ?_
  refine WP.region ?_
  refine Ops.y (v := .bool (decide _)) (Y.lti rfl rfl) ?_
  refine Ops.nil ?_
  refine WP.seq ?_
  refine WP.cond_dec rfl (fun h => ?_) (fun h => ?_)
  · have hk' : k < l.xs.length := by omega
    have E1 := hl.at hk'
    refine WP.skip ?_
    refine WP.seq ?_
    refine WP.block ?_
    refine WP.seq ?_
    refine WP.region ?_
    refine Ops.y (v := .int .i64 _) (Y.move rfl) ?_
    refine Ops.y (v := .int .i64 _) (Y.assign rfl) ?_
    refine Ops.nil ?_
    refine WP.seq ?_
    refine WP.region ?_
    refine Ops.y (v := .func _ _ _) (Y.move rfl) ?_
    refine Ops.y (v := .slice _ _ _) (Y.move rfl) ?_
    refine Ops.y (v := .int .i64 _) (Y.move rfl) ?_
    refine Ops.y (v := .pointer (some ⟨_, _, none⟩)) (Y.idxEl E1 Tryz.underlying22 Tryz.sizeOf62 rfl rfl (Int.natCast_nonneg _) rfl) ?_
    refine Ops.y (v := .agg #[_, _, _]) (Y.loadv ty_62 rfl (I.rd (E1.rd.part 0 3)) rfl rfl) ?_
    refine Ops.go (O.callcv I ent rfl (hp ⟨w, B.h⟩ I.base_ok (Heap.le.refl _) l.xs[k] (List.getElem_mem hk')) rfl ?_)
    intro w I
    refine Ops.nil ?_
    refine WP.cond rfl (fun hb => ?_) (fun hb => ?_)
    · refine WP.seq ?_
      refine WP.region ?_
      refine Ops.y (v := .int .i64 _) (Y.move rfl) ?_
      refine Ops.y (v := .int .i64 _) (Y.assign rfl) ?_
      refine Ops.nil ?_
      refine WP.ret ?_
      repeat (first | refine thenE_ret ?_ | refine blockE_ret ?_)
      exact retQ.mk (vs := [.int .i64 _]) rfl ⟨rfl, trivial⟩ I.ext_of (by simp only [tup]; rw [idxOf_some hk' (fun j hj => hn j hj (by omega)) hb])
    refine WP.skip ?_
    refine WP.region ?_
    refine Ops.y (v := .int .i64 _) (Y.addi rfl rfl ⟨by omega, by omega⟩) ?_
    refine Ops.y (v := .int .i64 _) (Y.move rfl) ?_
    refine Ops.nil ?_
    exact ⟨k + 1, ⟨⟨rfl, rfl, rfl, rfl, trivial⟩, I, by omega, fun j hj hj' => by
      rcases Nat.lt_succ_iff_lt_or_eq.1 hj with h' | h'
      · exact hn j h' hj'
      · subst h'; exact hb⟩, by omega⟩
  refine WP.exit ?_
  refine WP.seq ?_
  refine WP.region ?_
  refine Ops.y (v := .int .i64 _) (Y.assign rfl) ?_
  refine Ops.nil ?_
  refine WP.ret ?_
  repeat (first | refine thenE_ret ?_ | refine blockE_ret ?_)
  exact retQ.mk (vs := [.int .i64 _]) rfl ⟨rfl, trivial⟩ I.ext_of (by simp only [tup]; rw [idxOf_none]; intro x hx; obtain ⟨j, hj, rfl⟩ := List.getElem_of_mem hx; exact hn j (by omega) hj)
theorem ContainsFuncPrd_ok (B : Base) (hB : B.ok) (l : Sl Prd) (hl : l.Is 3 Prd.enc B.h) (f : FuncId) (ent : Enters Tryz.prog f) (fs cs : List Value) (p : Prd → Bool) (hp : PredFn Tryz.prog f fs cs B.h Prd.val l.xs p) :
    Fn Tryz.prog 104 [l.val, .func (.func f) fs.toArray cs.toArray] B (fun v _ => v = .bool (l.xs.any p)) := by
  refine Fn.of Tryz.func104 rfl Tryz.ntmps104 (by kernel_rfl) (by simp) ?_
  intro e
  have I := Inv.start hB
  refine WP.seq ?_
  refine WP.region ?_
  refine Ops.y (v := .bool _) (Y.assign rfl) ?_
  refine Ops.nil ?_
  refine WP.seq ?_
  refine WP.region ?_
  refine Ops.y (v := .slice _ _ _) (Y.move rfl) ?_
  refine Ops.y (v := .func _ _ _) (Y.move rfl) ?_
  refine Ops.go (O.callv I Tryz.call155 (IndexFuncPrd_ok _ I.base_ok l hl f ent fs cs p hp) rfl ?_)
  intro w I
  refine Ops.y (v := .bool (decide _)) (Y.gei rfl rfl) ?_
  refine Ops.y (v := .bool _) (Y.assign rfl) ?_
  refine Ops.nil ?_
  refine WP.ret ?_
  repeat (first | refine thenE_ret ?_ | refine blockE_ret ?_)
  exact retQ.mk (vs := [.bool _]) rfl ⟨rfl, trivial⟩ I.ext_of (by simp only [tup]; rw [idxOf_any])
theorem IndexFuncFct_ok (B : Base) (hB : B.ok) (l : Sl Fct) (hl : l.Is 4 Fct.enc B.h) (f : FuncId) (ent : Enters Tryz.prog f) (fs cs : List Value) (p : Fct → Bool) (hp : PredFn Tryz.prog f fs cs B.h Fct.val l.xs p) :
    Fn Tryz.prog 138 [l.val, .func (.func f) fs.toArray cs.toArray] B (fun v _ => v = .int .i64 (idxOf p l.xs)) := by
  refine Fn.of Tryz.func138 rfl Tryz.ntmps138 (by kernel_rfl) (by simp) ?_
  intro e
  have I := Inv.start hB
  refine WP.seq ?_
  refine WP.region ?_
  refine Ops.y (v := .int .i64 _) (Y.assign rfl) ?_
  refine Ops.nil ?_
  refine WP.seq ?_
  refine WP.seq ?_
  refine WP.region ?_
  refine Ops.y (v := .slice _ _ _) (Y.move rfl) ?_
  refine Ops.y (v := .int .i64 _) (Y.lens Tryz.underlying26 rfl) ?_
  refine Ops.y (v := .int .i64 _) (Y.move rfl) ?_
  refine Ops.nil ?_
  refine WP.block ?_
  refine WP.loopE (σ := Nat) (fun k => [(0, l.val), (1, .func (.func f) fs.toArray cs.toArray), (7, .int .i64 l.xs.length), (8, .int .i64 k)]) (fun k w => Inv B B.h [] w ∧ k ≤ l.xs.length ∧ ∀ j (hj : j < k) (hj' : j < l.xs.length), p l.xs[j] = false) (fun k => l.xs.length - k)
    ⟨0, ⟨rfl, rfl, rfl, rfl, trivial⟩, I, Nat.zero_le _, fun j hj => (by omega)⟩ ?_
  rintro k e w ⟨I, hk, hn⟩
  have hsm := hl.small
  refine WP.seq ?_
  refine WP.region ?_
  refine Ops.y (v := .bool (decide _)) (Y.lti rfl rfl) ?_
  refine Ops.nil ?_
  refine WP.seq ?_
  refine WP.cond_dec rfl (fun h => ?_) (fun h => ?_)
  · have hk' : k < l.xs.length := by omega
    have E1 := hl.at hk'
    refine WP.skip ?_
    refine WP.seq ?_
    refine WP.block ?_
    refine WP.seq ?_
    refine WP.region ?_
    refine Ops.y (v := .int .i64 _) (Y.move rfl) ?_
    refine Ops.y (v := .int .i64 _) (Y.assign rfl) ?_
    refine Ops.nil ?_
    refine WP.seq ?_
    refine WP.region ?_
    refine Ops.y (v := .func _ _ _) (Y.move rfl) ?_
    refine Ops.y (v := .slice _ _ _) (Y.move rfl) ?_
    refine Ops.y (v := .int .i64 _) (Y.move rfl) ?_
    refine Ops.y (v := .pointer (some ⟨_, _, none⟩)) (Y.idxEl E1 Tryz.underlying26 Tryz.sizeOf52 rfl rfl (Int.natCast_nonneg _) rfl) ?_
    refine Ops.y (v := .agg #[_, _, _, _]) (Y.loadv ty_52 rfl (I.rd (E1.rd.part 0 4)) rfl rfl) ?_
    refine Ops.go (O.callcv I ent rfl (hp ⟨w, B.h⟩ I.base_ok (Heap.le.refl _) l.xs[k] (List.getElem_mem hk')) rfl ?_)
    intro w I
    refine Ops.nil ?_
    refine WP.cond rfl (fun hb => ?_) (fun hb => ?_)
    · refine WP.seq ?_
      refine WP.region ?_
      refine Ops.y (v := .int .i64 _) (Y.move rfl) ?_
      refine Ops.y (v := .int .i64 _) (Y.assign rfl) ?_
      refine Ops.nil ?_
      refine WP.ret ?_
      repeat (first | refine thenE_ret ?_ | refine blockE_ret ?_)
      exact retQ.mk (vs := [.int .i64 _]) rfl ⟨rfl, trivial⟩ I.ext_of (by simp only [tup]; rw [idxOf_some hk' (fun j hj => hn j hj (by omega)) hb])
    refine WP.skip ?_
    refine WP.region ?_
    refine Ops.y (v := .int .i64 _) (Y.addi rfl rfl ⟨by omega, by omega⟩) ?_
    refine Ops.y (v := .int .i64 _) (Y.move rfl) ?_
    refine Ops.nil ?_
    exact ⟨k + 1, ⟨⟨rfl, rfl, rfl, rfl, trivial⟩, I, by omega, fun j hj hj' => by
      rcases Nat.lt_succ_iff_lt_or_eq.1 hj with h' | h'
      · exact hn j h' hj'
      · subst h'; exact hb⟩, by omega⟩
  refine WP.exit ?_
  refine WP.seq ?_
  refine WP.region ?_
  refine Ops.y (v := .int .i64 _) (Y.assign rfl) ?_
  refine Ops.nil ?_
  refine WP.ret ?_
  repeat (first | refine thenE_ret ?_ | refine blockE_ret ?_)
  exact retQ.mk (vs := [.int .i64 _]) rfl ⟨rfl, trivial⟩ I.ext_of (by simp only [tup]; rw [idxOf_none]; intro x hx; obtain ⟨j, hj, rfl⟩ := List.getElem_of_mem hx; exact hn j (by omega) hj)
end Go.TF
end
section
/- The contracts of package rule and of the references beside it. -/
namespace Go.TF
open Go Go.RowKit Go.Proofs
set_option maxRecDepth 10000

theorem term_ok (B : Base) (hB : B.ok) (t : Trm) : Fn Tryz.prog 183 [t.val] B (fun v _ => v = .bool (termOk t)) := by
  refine Fn.of Tryz.func183 rfl Tryz.ntmps183 (by kernel_rfl) (by simp) ?_
  intro e
  have I := Inv.start hB
  refine WP.seq ?_
  refine WP.region ?_
  refine Ops.go (O.box (v := .agg #[_, _]) I rfl rfl ?_)
  intro b1 w I
  refine Ops.y (v := .bool _) (Y.assign rfl) ?_
  refine Ops.nil ?_
  refine WP.seq ?_
  refine WP.seq ?_
  refine WP.region ?_
  refine Ops.y (v := .pointer (some ⟨_, _, none⟩)) (Y.fa0 fa_91_0 rfl) ?_
  refine Ops.y (v := .bool _) (Y.loadv ty_4 rfl (I.rdbox 0 rfl 0 1) rfl rfl) ?_
  refine Ops.nil ?_
  by_cases h1 : 0 ≤ t.n
  · refine WP.cond rfl (fun hv => ?_) (fun hv => ?_)
    · refine WP.seq ?_
      refine WP.region ?_
      refine Ops.y (v := .pointer (some ⟨_, _, none⟩)) (Y.fa fa_91_1 rfl) ?_
      refine Ops.y (v := .int .i64 _) (Y.loadv ty_3 rfl (I.rdbox 0 rfl 1 1) rfl rfl) ?_
      refine Ops.y (v := .bool true) (Y.dec_t (Y.gei rfl rfl) (h1)) ?_
      refine Ops.y (v := .bool _) (Y.move rfl) ?_
      refine Ops.ygt rfl (v := .pointer (some ⟨_, _, none⟩)) (Y.fa fa_91_1 rfl) ?_
      refine Ops.ygt rfl (v := .int .i64 _) (Y.loadv ty_3 rfl (I.rdbox 0 rfl 1 1) rfl rfl) ?_
      refine Ops.ygt rfl (v := .bool (decide _)) (Y.lti rfl rfl) ?_
      refine Ops.y (v := .bool _) (Y.pick_t rfl rfl) ?_
      refine Ops.y (v := .bool _) (Y.assign rfl) ?_
      refine Ops.nil ?_
      refine WP.ret ?_
      repeat (first | refine thenE_ret ?_ | refine blockE_ret ?_)
      exact retQ.mk (vs := [.bool _]) rfl ⟨rfl, trivial⟩ I.ext_of (by simp [tup, termOk, hv, h1])
    refine WP.skip ?_
    refine WP.seq ?_
    refine WP.region ?_
    refine Ops.y (v := .pointer (some ⟨_, _, none⟩)) (Y.fa fa_91_1 rfl) ?_
    refine Ops.y (v := .int .i64 _) (Y.loadv ty_3 rfl (I.rdbox 0 rfl 1 1) rfl rfl) ?_
    refine Ops.y (v := .bool true) (Y.dec_t (Y.gei rfl rfl) (h1)) ?_
    refine Ops.y (v := .bool _) (Y.move rfl) ?_
    refine Ops.ygt rfl (v := .pointer (some ⟨_, _, none⟩)) (Y.fa fa_91_1 rfl) ?_
    refine Ops.ygt rfl (v := .int .i64 _) (Y.loadv ty_3 rfl (I.rdbox 0 rfl 1 1) rfl rfl) ?_
    refine Ops.ygt rfl (v := .bool (decide _)) (Y.lei rfl rfl) ?_
    refine Ops.y (v := .bool _) (Y.pick_t rfl rfl) ?_
    refine Ops.y (v := .bool _) (Y.assign rfl) ?_
    refine Ops.nil ?_
    refine WP.ret ?_
    repeat (first | refine thenE_ret ?_ | refine blockE_ret ?_)
    exact retQ.mk (vs := [.bool _]) rfl ⟨rfl, trivial⟩ I.ext_of (by simp [tup, termOk, hv, h1])
  · refine WP.cond rfl (fun hv => ?_) (fun hv => ?_)
    · refine WP.seq ?_
      refine WP.region ?_
      refine Ops.y (v := .pointer (some ⟨_, _, none⟩)) (Y.fa fa_91_1 rfl) ?_
      refine Ops.y (v := .int .i64 _) (Y.loadv ty_3 rfl (I.rdbox 0 rfl 1 1) rfl rfl) ?_
      refine Ops.y (v := .bool false) (Y.dec_f (Y.gei rfl rfl) (h1)) ?_
      refine Ops.y (v := .bool _) (Y.move rfl) ?_
      refine Ops.gf rfl ?_
      refine Ops.gf rfl ?_
      refine Ops.gf rfl ?_
      refine Ops.y (v := .bool _) (Y.pick_f rfl rfl) ?_
      refine Ops.y (v := .bool _) (Y.assign rfl) ?_
      refine Ops.nil ?_
      refine WP.ret ?_
      repeat (first | refine thenE_ret ?_ | refine blockE_ret ?_)
      exact retQ.mk (vs := [.bool _]) rfl ⟨rfl, trivial⟩ I.ext_of (by simp [tup, termOk, hv, h1])
    refine WP.skip ?_
    refine WP.seq ?_
    refine WP.region ?_
    refine Ops.y (v := .pointer (some ⟨_, _, none⟩)) (Y.fa fa_91_1 rfl) ?_
    refine Ops.y (v := .int .i64 _) (Y.loadv ty_3 rfl (I.rdbox 0 rfl 1 1) rfl rfl) ?_
    refine Ops.y (v := .bool false) (Y.dec_f (Y.gei rfl rfl) (h1)) ?_
    refine Ops.y (v := .bool _) (Y.move rfl) ?_
    refine Ops.gf rfl ?_
    refine Ops.gf rfl ?_
    refine Ops.gf rfl ?_
    refine Ops.y (v := .bool _) (Y.pick_f rfl rfl) ?_
    refine Ops.y (v := .bool _) (Y.assign rfl) ?_
    refine Ops.nil ?_
    refine WP.ret ?_
    repeat (first | refine thenE_ret ?_ | refine blockE_ret ?_)
    exact retQ.mk (vs := [.bool _]) rfl ⟨rfl, trivial⟩ I.ext_of (by simp [tup, termOk, hv, h1])
theorem args1_ok (B : Base) (hB : B.ok) (t : Trm) : Fn Tryz.prog 182 [t.val] B (fun v _ => v = .bool !(termOk t)) := by
  refine Fn.of Tryz.func182 rfl Tryz.ntmps182 (by kernel_rfl) (by simp) ?_
  intro e
  have I := Inv.start hB
  refine WP.seq ?_
  refine WP.region ?_
  refine Ops.go (O.box (v := .agg #[_, _]) I rfl rfl ?_)
  intro b1 w I
  refine Ops.y (v := .bool _) (Y.assign rfl) ?_
  refine Ops.nil ?_
  refine WP.seq ?_
  refine WP.region ?_
  refine Ops.y (v := .agg #[_, _]) (Y.loadv ty_91 rfl (I.rdbox 0 rfl 0 2) rfl rfl) ?_
  refine Ops.go (O.callv I Tryz.call183 (term_ok _ I.base_ok t) rfl ?_)
  intro w I
  refine Ops.y (v := .bool _) (Y.not rfl) ?_
  refine Ops.y (v := .bool _) (Y.assign rfl) ?_
  refine Ops.nil ?_
  refine WP.ret ?_
  repeat (first | refine thenE_ret ?_ | refine blockE_ret ?_)
  exact retQ.mk (vs := [.bool _]) rfl ⟨rfl, trivial⟩ I.ext_of (rfl)
theorem args_ok (B : Base) (hB : B.ok) (l : Sl Trm) (hl : Trms l B.h) : Fn Tryz.prog 160 [l.val] B (fun v _ => v = .int .i64 (argsErr l.xs)) := by
  refine Fn.of Tryz.func160 rfl Tryz.ntmps160 (by kernel_rfl) (by simp) ?_
  intro e
  have I := Inv.start hB
  refine WP.seq ?_
  refine WP.region ?_
  refine Ops.y (v := .int .i64 _) (Y.assign rfl) ?_
  refine Ops.nil ?_
  refine WP.seq ?_
  refine WP.seq ?_
  refine WP.region ?_
  refine Ops.y (v := .slice _ _ _) (Y.move rfl) ?_
  refine Ops.go (O.callv I Tryz.call181 (ContainsFuncTrm_ok _ I.base_ok l hl 182 Tryz.call182 [] [] (fun t => !termOk t) (fun B' hB' _ t _ => args1_ok B' hB' t)) rfl ?_)
  intro w I
  refine Ops.nil ?_
  refine WP.cond rfl (fun h => ?_) (fun h => ?_)
  · refine WP.seq ?_
    refine WP.region ?_
    refine Ops.y (v := .int .i64 _) (Y.assign rfl) ?_
    refine Ops.nil ?_
    refine WP.ret ?_
    repeat (first | refine thenE_ret ?_ | refine blockE_ret ?_)
    exact retQ.mk (vs := [.int .i64 _]) rfl ⟨rfl, trivial⟩ I.ext_of (by simp only [tup, argsErr]; rw [if_neg]; intro h2; simp only [List.any_eq_true, List.all_eq_true] at h h2; obtain ⟨x, hx, h3⟩ := h; simp [h2 x hx] at h3)
  refine WP.skip ?_
  refine WP.seq ?_
  refine WP.region ?_
  refine Ops.y (v := .int .i64 _) (Y.assign rfl) ?_
  refine Ops.nil ?_
  refine WP.ret ?_
  repeat (first | refine thenE_ret ?_ | refine blockE_ret ?_)
  exact retQ.mk (vs := [.int .i64 _]) rfl ⟨rfl, trivial⟩ I.ext_of (by simp only [tup, argsErr]; rw [if_pos]; simp only [List.any_eq_false, List.all_eq_true] at h ⊢; intro x hx; simpa using h x hx)
theorem argsError_ok (B : Base) (hB : B.ok) (l : Sl Trm) (hl : Trms l B.h) : Fn Tryz.prog 161 [l.val] B (fun v _ => v = .int .i64 (argsErr l.xs)) := by
  refine Fn.of Tryz.func161 rfl Tryz.ntmps161 (by kernel_rfl) (by simp) ?_
  intro e
  have I := Inv.start hB
  refine WP.seq ?_
  refine WP.region ?_
  refine Ops.y (v := .int .i64 _) (Y.assign rfl) ?_
  refine Ops.nil ?_
  refine WP.seq ?_
  refine WP.seq ?_
  refine WP.region ?_
  refine Ops.y (v := .int .i64 _) (Y.assign rfl) ?_
  refine Ops.nil ?_
  refine WP.block ?_
  refine WP.loopE (σ := Nat) (fun k => [(0, l.val), (3, .int .i64 k)]) (fun k w => Inv B B.h [] w ∧ k ≤ l.xs.length ∧ ∀ j (hj : j < k) (hj' : j < l.xs.length), termOk l.xs[j] = true) (fun k => l.xs.length - k)
    ⟨0, ⟨rfl, rfl, trivial⟩, I, Nat.zero_le _, fun j hj => (by omega)⟩ ?_
  rintro k e w ⟨I, hk, hn⟩
  have hsm := hl.small
  refine WP.seq ?_
  refine WP.seq ?_
  refine WP.region ?_
  refine Ops.y (v := .int .i64 _) (Y.move rfl) ?_
  refine Ops.y (v := .slice _ _ _) (Y.move rfl) ?_
  refine Ops.y (v := .int .i64 _) (Y.lens Tryz.underlying63 rfl) ?_
  refine Ops.y (v := .bool (decide _)) (Y.lti rfl rfl) ?_
  refine Ops.nil ?_
  refine WP.cond_dec rfl (fun h => ?_) (fun h => ?_)
  · have hk' : k < l.xs.length := by omega
    have E1 := hl.at hk'
    refine WP.skip ?_
    refine WP.seq ?_
    refine WP.block ?_
    refine WP.seq ?_
    refine WP.region ?_
    refine Ops.y (v := .int .i64 _) (Y.assign rfl) ?_
    refine Ops.nil ?_
    refine WP.seq ?_
    refine WP.seq ?_
    refine WP.region ?_
    refine Ops.y (v := .slice _ _ _) (Y.move rfl) ?_
    refine Ops.y (v := .int .i64 _) (Y.move rfl) ?_
    refine Ops.y (v := .pointer (some ⟨_, _, none⟩)) (Y.idxEl E1 Tryz.underlying63 Tryz.sizeOf91 rfl rfl (Int.natCast_nonneg _) rfl) ?_
    refine Ops.y (v := .pointer (some ⟨_, _, none⟩)) (Y.fa0 fa_91_0 rfl) ?_
    refine Ops.y (v := .bool _) (Y.loadv ty_4 rfl (I.rd (E1.rd.part 0 1)) rfl rfl) ?_
    refine Ops.nil ?_
    refine WP.cutK (σ := Unit) (fun _ => [(0, l.val), (3, .int .i64 k), (4, .int .i64 (if l.xs[k].var then 2 else 4))]) (fun _ w => Inv B B.h [] w) ?_ ?_
    · refine WP.cond rfl (fun hv => ?_) (fun hv => ?_)
      · refine WP.region ?_
        refine Ops.y (v := .int .i64 _) (Y.assign rfl) ?_
        refine Ops.nil ?_
        exact ⟨(), ⟨rfl, rfl, by simp [hv]; rfl, trivial⟩, I⟩
      refine WP.skip ?_
      exact ⟨(), ⟨rfl, rfl, by simp [hv]; rfl, trivial⟩, I⟩
    rintro _ e w I
    refine WP.seq ?_
    refine WP.region ?_
    refine Ops.y (v := .slice _ _ _) (Y.move rfl) ?_
    refine Ops.y (v := .int .i64 _) (Y.move rfl) ?_
    refine Ops.y (v := .pointer (some ⟨_, _, none⟩)) (Y.idxEl E1 Tryz.underlying63 Tryz.sizeOf91 rfl rfl (Int.natCast_nonneg _) rfl) ?_
    refine Ops.y (v := .pointer (some ⟨_, _, none⟩)) (Y.fa fa_91_1 rfl) ?_
    refine Ops.y (v := .int .i64 _) (Y.loadv ty_3 rfl (I.rd (E1.rd.part 1 1)) rfl rfl) ?_
    refine Ops.y (v := .int .i64 _) (Y.move rfl) ?_
    refine Ops.go (O.callv I Tryz.call72 (within_ok _ I.base_ok _ _ _) rfl ?_)
    intro w I
    refine Ops.y (v := .bool (decide _)) (Y.notd rfl) ?_
    refine Ops.nil ?_
    refine WP.cond_dec rfl (fun hw => ?_) (fun hw => ?_)
    · refine WP.seq ?_
      refine WP.region ?_
      refine Ops.y (v := .int .i64 _) (Y.assign rfl) ?_
      refine Ops.nil ?_
      refine WP.ret ?_
      repeat (first | refine thenE_ret ?_ | refine blockE_ret ?_)
      exact retQ.mk (vs := [.int .i64 _]) rfl ⟨rfl, trivial⟩ I.ext_of (by simp only [tup, argsErr]; rw [if_neg]; intro h2; exact hw ((termOk_iff _).1 (List.all_eq_true.1 h2 _ (List.getElem_mem hk'))))
    refine WP.skip ?_
    refine WP.region ?_
    refine Ops.y (v := .int .i64 _) (Y.move rfl) ?_
    refine Ops.y (v := .int .i64 _) (Y.addi rfl rfl ⟨by omega, by omega⟩) ?_
    refine Ops.y (v := .int .i64 _) (Y.assign rfl) ?_
    refine Ops.nil ?_
    exact ⟨k + 1, ⟨⟨rfl, rfl, trivial⟩, I, by omega, fun j hj hj' => by
      rcases Nat.lt_succ_iff_lt_or_eq.1 hj with h' | h'
      · exact hn j h' hj'
      · subst h'; exact (termOk_iff _).2 (Decidable.not_not.1 hw)⟩, by omega⟩
  refine WP.exit ?_
  refine WP.seq ?_
  refine WP.region ?_
  refine Ops.y (v := .int .i64 _) (Y.assign rfl) ?_
  refine Ops.nil ?_
  refine WP.ret ?_
  repeat (first | refine thenE_ret ?_ | refine blockE_ret ?_)
  exact retQ.mk (vs := [.int .i64 _]) rfl ⟨rfl, trivial⟩ I.ext_of (by simp only [tup, argsErr]; rw [if_pos]; rw [List.all_eq_true]; intro x hx; obtain ⟨j, hj, rfl⟩ := List.getElem_of_mem hx; exact hn j (by omega) hj)
theorem Atom_ok (B : Base) (hB : B.ok) (l : Sl Prd) (hl : Prds l B.h) (a : Atm) (ha : a.In B.h) : Fn Tryz.prog 110 [l.val, a.val] B (fun v _ => v = .int .i64 (checkAtom l.xs a)) := by
  refine Fn.of Tryz.func110 rfl Tryz.ntmps110 (by kernel_rfl) (by simp) ?_
  intro e
  have I := Inv.start hB
  refine WP.seq ?_
  refine WP.region ?_
  refine Ops.go (O.box (v := .agg #[_, _]) I rfl rfl ?_)
  intro b3 w I
  refine Ops.y (v := .int .i64 _) (Y.assign rfl) ?_
  refine Ops.nil ?_
  have hsm := hl.small
  by_cases h1 : a.pred < 0
  · refine WP.seq ?_
    refine WP.seq ?_
    refine WP.region ?_
    refine Ops.y (v := .pointer (some ⟨_, _, none⟩)) (Y.fa0 fa_65_0 rfl) ?_
    refine Ops.y (v := .int .i64 _) (Y.loadv ty_3 rfl (I.rdbox 0 rfl 0 1) rfl rfl) ?_
    refine Ops.y (v := .bool true) (Y.dec_t (Y.lti rfl rfl) (h1)) ?_
    refine Ops.y (v := .bool _) (Y.move rfl) ?_
    refine Ops.gf rfl ?_
    refine Ops.gf rfl ?_
    refine Ops.gf rfl ?_
    refine Ops.gf rfl ?_
    refine Ops.gf rfl ?_
    refine Ops.y (v := .bool _) (Y.pick_t rfl rfl) ?_
    refine Ops.nil ?_
    refine WP.cond_t rfl ?_
    refine WP.seq ?_
    refine WP.region ?_
    refine Ops.y (v := .int .i64 _) (Y.assign rfl) ?_
    refine Ops.nil ?_
    refine WP.ret ?_
    repeat (first | refine thenE_ret ?_ | refine blockE_ret ?_)
    exact retQ.mk (vs := [.int .i64 _]) rfl ⟨rfl, trivial⟩ I.ext_of (by simp [tup, checkAtom, h1])
  refine WP.seq ?_
  refine WP.seq ?_
  refine WP.region ?_
  refine Ops.y (v := .pointer (some ⟨_, _, none⟩)) (Y.fa0 fa_65_0 rfl) ?_
  refine Ops.y (v := .int .i64 _) (Y.loadv ty_3 rfl (I.rdbox 0 rfl 0 1) rfl rfl) ?_
  refine Ops.y (v := .bool false) (Y.dec_f (Y.lti rfl rfl) (h1)) ?_
  refine Ops.y (v := .bool _) (Y.move rfl) ?_
  refine Ops.ygt rfl (v := .pointer (some ⟨_, _, none⟩)) (Y.fa0 fa_65_0 rfl) ?_
  refine Ops.ygt rfl (v := .int .i64 _) (Y.loadv ty_3 rfl (I.rdbox 0 rfl 0 1) rfl rfl) ?_
  refine Ops.ygt rfl (v := .slice _ _ _) (Y.move rfl) ?_
  refine Ops.ygt rfl (v := .int .i64 _) (Y.lens Tryz.underlying22 rfl) ?_
  refine Ops.ygt rfl (v := .bool (decide _)) (Y.gei rfl rfl) ?_
  refine Ops.y (v := .bool _) (Y.pick_f rfl rfl) ?_
  refine Ops.nil ?_
  refine WP.cond_dec rfl (fun h2 => ?_) (fun h2 => ?_)
  · refine WP.seq ?_
    refine WP.region ?_
    refine Ops.y (v := .int .i64 _) (Y.assign rfl) ?_
    refine Ops.nil ?_
    refine WP.ret ?_
    repeat (first | refine thenE_ret ?_ | refine blockE_ret ?_)
    exact retQ.mk (vs := [.int .i64 _]) rfl ⟨rfl, trivial⟩ I.ext_of (by simp [tup, checkAtom, h2])
  have hp : 0 ≤ a.pred := by omega
  have E1 := hl.at (i := a.pred.toNat) (by omega)
  have hE : predOf l.xs a.pred = l.xs[a.pred.toNat]'(by omega) := by have := predOf_get hp (by omega : a.pred < l.xs.length); rw [List.getElem?_eq_getElem (by omega)] at this; exact (Option.some.inj this).symm
  refine WP.skip ?_
  refine WP.seq ?_
  refine WP.seq ?_
  refine WP.regionQ mixed I (by kernel_rfl) ?_
  refine OpsQ.y (v := .pointer (some ⟨_, _, none⟩)) (fun w I => Y.fa fa_65_1 rfl) ?_
  refine OpsQ.y (v := .slice _ _ _) (fun w I => Y.loadv ty_63 rfl (I.rdbox 0 rfl 1 1) rfl rfl) ?_
  refine OpsQ.y (v := .int .i64 _) (fun w I => Y.lens Tryz.underlying63 rfl) ?_
  refine OpsQ.y (v := .slice _ _ _) (fun w I => Y.move rfl) ?_
  refine OpsQ.y (v := .pointer (some ⟨_, _, none⟩)) (fun w I => Y.fa0 fa_65_0 rfl) ?_
  refine OpsQ.y (v := .int .i64 _) (fun w I => Y.loadv ty_3 rfl (I.rdbox 0 rfl 0 1) rfl rfl) ?_
  refine OpsQ.y (v := .pointer (some ⟨_, _, none⟩)) (fun w I => Y.idxEl E1 Tryz.underlying22 Tryz.sizeOf62 rfl rfl hp rfl) ?_
  refine OpsQ.y (v := .pointer (some ⟨_, _, none⟩)) (fun w I => Y.fa fa_62_1 rfl) ?_
  refine OpsQ.y (v := .int .i64 _) (fun w I => Y.loadv ty_3 rfl (I.rd (E1.rd.part 1 1)) rfl rfl) ?_
  refine OpsQ.y (v := .bool (decide _)) (fun w I => Y.nei rfl rfl) ?_
  refine OpsQ.nil ?_
  intro w I
  refine WP.cond_dec rfl (fun h3 => ?_) (fun h3 => ?_)
  · refine WP.seq ?_
    refine WP.region ?_
    refine Ops.y (v := .int .i64 _) (Y.assign rfl) ?_
    refine Ops.nil ?_
    refine WP.ret ?_
    repeat (first | refine thenE_ret ?_ | refine blockE_ret ?_)
    exact retQ.mk (vs := [.int .i64 _]) rfl ⟨rfl, trivial⟩ I.ext_of (by simp only [tup, checkAtom, hE]; rw [if_neg (by omega), if_pos h3])
  refine WP.skip ?_
  refine WP.seq ?_
  refine WP.region ?_
  refine Ops.y (v := .pointer (some ⟨_, _, none⟩)) (Y.fa fa_65_1 rfl) ?_
  refine Ops.y (v := .slice _ _ _) (Y.loadv ty_63 rfl (I.rdbox 0 rfl 1 1) rfl rfl) ?_
  refine Ops.go (O.callv I Tryz.call160 (args_ok _ I.base_ok a.args ha) rfl ?_)
  intro w I
  refine Ops.y (v := .int .i64 _) (Y.assign rfl) ?_
  refine Ops.nil ?_
  refine WP.ret ?_
  repeat (first | refine thenE_ret ?_ | refine blockE_ret ?_)
  exact retQ.mk (vs := [.int .i64 _]) rfl ⟨rfl, trivial⟩ I.ext_of (by simp only [tup, checkAtom, hE]; rw [if_neg (by omega), if_neg h3])
theorem CheckAtom_ok (B : Base) (hB : B.ok) (l : Sl Prd) (hl : Prds l B.h) (a : Atm) (ha : a.In B.h) : Fn Tryz.prog 113 [l.val, a.val] B (fun v _ => v = .int .i64 (checkAtom l.xs a)) := by
  have hsm := hl.small
  refine Fn.of Tryz.func113 rfl Tryz.ntmps113 (by kernel_rfl) (by simp) ?_
  intro e
  have I := Inv.start hB
  refine WP.seq ?_
  refine WP.region ?_
  refine Ops.go (O.box (v := .agg #[_, _]) I rfl rfl ?_)
  intro b3 w I
  refine Ops.y (v := .int .i64 _) (Y.assign rfl) ?_
  refine Ops.nil ?_
  refine WP.seq ?_
  refine WP.seq ?_
  refine WP.region ?_
  refine Ops.y (v := .pointer (some ⟨_, _, none⟩)) (Y.fa0 fa_65_0 rfl) ?_
  refine Ops.y (v := .int .i64 _) (Y.loadv ty_3 rfl (I.rdbox 0 rfl 0 1) rfl rfl) ?_
  refine Ops.y (v := .slice _ _ _) (Y.move rfl) ?_
  refine Ops.y (v := .int .i64 _) (Y.lens Tryz.underlying22 rfl) ?_
  refine Ops.y (v := .int .i64 _) (Y.subi rfl rfl ⟨by omega, by omega⟩) ?_
  refine Ops.go (O.callv I Tryz.call72 (within_ok _ I.base_ok _ _ _) rfl ?_)
  intro w I
  refine Ops.y (v := .bool (decide _)) (Y.notd rfl) ?_
  refine Ops.nil ?_
  refine WP.cond_dec rfl (fun h1 => ?_) (fun h1 => ?_)
  · refine WP.seq ?_
    refine WP.region ?_
    refine Ops.y (v := .int .i64 _) (Y.assign rfl) ?_
    refine Ops.nil ?_
    refine WP.ret ?_
    repeat (first | refine thenE_ret ?_ | refine blockE_ret ?_)
    exact retQ.mk (vs := [.int .i64 _]) rfl ⟨rfl, trivial⟩ I.ext_of (by simp only [tup, checkAtom, within] at *; rw [if_pos (by omega)])
  have h1' : ¬ (a.pred < 0 ∨ (l.xs.length : Int) ≤ a.pred) := by simp only [within, Decidable.not_not] at h1; omega
  have hp : 0 ≤ a.pred := by omega
  have E1 := hl.at (i := a.pred.toNat) (by omega)
  have hE : predOf l.xs a.pred = l.xs[a.pred.toNat]'(by omega) := by have := predOf_get hp (by omega : a.pred < l.xs.length); rw [List.getElem?_eq_getElem (by omega)] at this; exact (Option.some.inj this).symm
  refine WP.skip ?_
  refine WP.seq ?_
  refine WP.seq ?_
  refine WP.regionQ mixed I (by kernel_rfl) ?_
  refine OpsQ.y (v := .pointer (some ⟨_, _, none⟩)) (fun w I => Y.fa fa_65_1 rfl) ?_
  refine OpsQ.y (v := .slice _ _ _) (fun w I => Y.loadv ty_63 rfl (I.rdbox 0 rfl 1 1) rfl rfl) ?_
  refine OpsQ.y (v := .int .i64 _) (fun w I => Y.lens Tryz.underlying63 rfl) ?_
  refine OpsQ.y (v := .slice _ _ _) (fun w I => Y.move rfl) ?_
  refine OpsQ.y (v := .pointer (some ⟨_, _, none⟩)) (fun w I => Y.fa0 fa_65_0 rfl) ?_
  refine OpsQ.y (v := .int .i64 _) (fun w I => Y.loadv ty_3 rfl (I.rdbox 0 rfl 0 1) rfl rfl) ?_
  refine OpsQ.y (v := .pointer (some ⟨_, _, none⟩)) (fun w I => Y.idxEl E1 Tryz.underlying22 Tryz.sizeOf62 rfl rfl hp rfl) ?_
  refine OpsQ.y (v := .pointer (some ⟨_, _, none⟩)) (fun w I => Y.fa fa_62_1 rfl) ?_
  refine OpsQ.y (v := .int .i64 _) (fun w I => Y.loadv ty_3 rfl (I.rd (E1.rd.part 1 1)) rfl rfl) ?_
  refine OpsQ.y (v := .bool (decide _)) (fun w I => Y.nei rfl rfl) ?_
  refine OpsQ.nil ?_
  intro w I
  refine WP.cond_dec rfl (fun h3 => ?_) (fun h3 => ?_)
  · refine WP.seq ?_
    refine WP.region ?_
    refine Ops.y (v := .int .i64 _) (Y.assign rfl) ?_
    refine Ops.nil ?_
    refine WP.ret ?_
    repeat (first | refine thenE_ret ?_ | refine blockE_ret ?_)
    exact retQ.mk (vs := [.int .i64 _]) rfl ⟨rfl, trivial⟩ I.ext_of (by simp only [tup, checkAtom, hE]; rw [if_neg h1', if_pos h3])
  refine WP.skip ?_
  refine WP.seq ?_
  refine WP.region ?_
  refine Ops.y (v := .pointer (some ⟨_, _, none⟩)) (Y.fa fa_65_1 rfl) ?_
  refine Ops.y (v := .slice _ _ _) (Y.loadv ty_63 rfl (I.rdbox 0 rfl 1 1) rfl rfl) ?_
  refine Ops.go (O.callv I Tryz.call161 (argsError_ok _ I.base_ok a.args ha) rfl ?_)
  intro w I
  refine Ops.y (v := .int .i64 _) (Y.assign rfl) ?_
  refine Ops.nil ?_
  refine WP.ret ?_
  repeat (first | refine thenE_ret ?_ | refine blockE_ret ?_)
  exact retQ.mk (vs := [.int .i64 _]) rfl ⟨rfl, trivial⟩ I.ext_of (by simp only [tup, checkAtom, hE]; rw [if_neg h1', if_neg h3])
theorem standsR_ok (B : Base) (hB : B.ok) (a : Atm) (ha : a.In B.h) (v : Int) : Fn Tryz.prog 140 [a.val, .int .i64 v] B (fun r _ => r = .bool (standsIn a v)) := by
  have hsm : a.args.xs.length ≤ 140737488355328 := Sl.Is.small ha
  refine Fn.of Tryz.func140 rfl Tryz.ntmps140 (by kernel_rfl) (by simp) ?_
  intro e
  have I := Inv.start hB
  refine WP.seq ?_
  refine WP.region ?_
  refine Ops.go (O.box (v := .agg #[_, _]) I rfl rfl ?_)
  intro b2 w I
  refine Ops.y (v := .bool _) (Y.assign rfl) ?_
  refine Ops.nil ?_
  refine WP.seq ?_
  refine WP.seq ?_
  refine WP.region ?_
  refine Ops.y (v := .int .i64 _) (Y.assign rfl) ?_
  refine Ops.nil ?_
  refine WP.block ?_
  refine WP.loopE (σ := Nat) (fun k => [(1, .int .i64 v), (2, .pointer (some ⟨b2, 0, none⟩)), (5, .int .i64 k)]) (fun k w => Inv B B.h [box b2 a.enc 65] w ∧ k ≤ a.args.xs.length ∧ ∀ j (hj : j < k) (hj' : j < a.args.xs.length), (a.args.xs[j].var && decide (a.args.xs[j].n = v)) = false) (fun k => a.args.xs.length - k)
    ⟨0, ⟨rfl, rfl, rfl, trivial⟩, I, Nat.zero_le _, fun j hj => (by omega)⟩ ?_
  rintro k e w ⟨I, hk, hn⟩
  refine WP.seq ?_
  refine WP.seq ?_
  refine WP.region ?_
  refine Ops.y (v := .int .i64 _) (Y.move rfl) ?_
  refine Ops.y (v := .pointer (some ⟨_, _, none⟩)) (Y.fa fa_65_1 rfl) ?_
  refine Ops.y (v := .slice _ _ _) (Y.loadv ty_63 rfl (I.rdbox 0 rfl 1 1) rfl rfl) ?_
  refine Ops.y (v := .int .i64 _) (Y.lens Tryz.underlying63 rfl) ?_
  refine Ops.y (v := .bool (decide _)) (Y.lti rfl rfl) ?_
  refine Ops.nil ?_
  refine WP.cond_dec rfl (fun h => ?_) (fun h => ?_)
  · have hk' : k < a.args.xs.length := by omega
    have E1 := Sl.Is.at ha hk'
    have step : (a.args.xs[k].var && decide (a.args.xs[k].n = v)) = false → ∀ j (hj : j < k + 1) (hj' : j < a.args.xs.length), (a.args.xs[j].var && decide (a.args.xs[j].n = v)) = false := fun hb j hj hj' => by
      rcases Nat.lt_succ_iff_lt_or_eq.1 hj with h' | h'
      · exact hn j h' hj'
      · subst h'; exact hb
    by_cases hv : a.args.xs[k].var = true
    · refine WP.skip ?_
      refine WP.seq ?_
      refine WP.block ?_
      refine WP.seq ?_
      refine WP.region ?_
      refine Ops.y (v := .pointer (some ⟨_, _, none⟩)) (Y.fa fa_65_1 rfl) ?_
      refine Ops.y (v := .slice _ _ _) (Y.loadv ty_63 rfl (I.rdbox 0 rfl 1 1) rfl rfl) ?_
      refine Ops.y (v := .int .i64 _) (Y.move rfl) ?_
      refine Ops.y (v := .pointer (some ⟨_, _, none⟩)) (Y.idxEl E1 Tryz.underlying63 Tryz.sizeOf91 rfl rfl (Int.natCast_nonneg _) rfl) ?_
      refine Ops.y (v := .pointer (some ⟨_, _, none⟩)) (Y.fa0 fa_91_0 rfl) ?_
      refine Ops.y (v := .bool true) (Y.b (Y.loadv ty_4 rfl (I.rd (E1.rd.part 0 1)) rfl rfl) (hv)) ?_
      refine Ops.y (v := .bool _) (Y.move rfl) ?_
      refine Ops.ygt rfl (v := .pointer (some ⟨_, _, none⟩)) (Y.fa fa_65_1 rfl) ?_
      refine Ops.ygt rfl (v := .slice _ _ _) (Y.loadv ty_63 rfl (I.rdbox 0 rfl 1 1) rfl rfl) ?_
      refine Ops.ygt rfl (v := .int .i64 _) (Y.move rfl) ?_
      refine Ops.ygt rfl (v := .pointer (some ⟨_, _, none⟩)) (Y.idxEl E1 Tryz.underlying63 Tryz.sizeOf91 rfl rfl (Int.natCast_nonneg _) rfl) ?_
      refine Ops.ygt rfl (v := .pointer (some ⟨_, _, none⟩)) (Y.fa fa_91_1 rfl) ?_
      refine Ops.ygt rfl (v := .int .i64 _) (Y.loadv ty_3 rfl (I.rd (E1.rd.part 1 1)) rfl rfl) ?_
      refine Ops.ygt rfl (v := .int .i64 _) (Y.move rfl) ?_
      refine Ops.ygt rfl (v := .bool (decide _)) (Y.eqi rfl rfl) ?_
      refine Ops.y (v := .bool _) (Y.pick_t rfl rfl) ?_
      refine Ops.nil ?_
      refine WP.cond_dec rfl (fun hb => ?_) (fun hb => ?_)
      · refine WP.seq ?_
        refine WP.region ?_
        refine Ops.y (v := .bool _) (Y.assign rfl) ?_
        refine Ops.nil ?_
        refine WP.ret ?_
        repeat (first | refine thenE_ret ?_ | refine blockE_ret ?_)
        exact retQ.mk (vs := [.bool _]) rfl ⟨rfl, trivial⟩ I.ext_of (by simp only [tup, standsIn]; rw [List.any_eq_true.2 ⟨_, List.getElem_mem hk', by simp [hv, hb]⟩])
      refine WP.skip ?_
      refine WP.region ?_
      refine Ops.y (v := .int .i64 _) (Y.move rfl) ?_
      refine Ops.y (v := .int .i64 _) (Y.addi rfl rfl ⟨by omega, by omega⟩) ?_
      refine Ops.y (v := .int .i64 _) (Y.assign rfl) ?_
      refine Ops.nil ?_
      exact ⟨k + 1, ⟨⟨rfl, rfl, rfl, trivial⟩, I, by omega, step (by simp [hb])⟩, by omega⟩
    · refine WP.skip ?_
      refine WP.seq ?_
      refine WP.block ?_
      refine WP.seq ?_
      refine WP.region ?_
      refine Ops.y (v := .pointer (some ⟨_, _, none⟩)) (Y.fa fa_65_1 rfl) ?_
      refine Ops.y (v := .slice _ _ _) (Y.loadv ty_63 rfl (I.rdbox 0 rfl 1 1) rfl rfl) ?_
      refine Ops.y (v := .int .i64 _) (Y.move rfl) ?_
      refine Ops.y (v := .pointer (some ⟨_, _, none⟩)) (Y.idxEl E1 Tryz.underlying63 Tryz.sizeOf91 rfl rfl (Int.natCast_nonneg _) rfl) ?_
      refine Ops.y (v := .pointer (some ⟨_, _, none⟩)) (Y.fa0 fa_91_0 rfl) ?_
      refine Ops.y (v := .bool false) (Y.b (Y.loadv ty_4 rfl (I.rd (E1.rd.part 0 1)) rfl rfl) ((by simpa using hv))) ?_
      refine Ops.y (v := .bool _) (Y.move rfl) ?_
      refine Ops.gf rfl ?_
      refine Ops.gf rfl ?_
      refine Ops.gf rfl ?_
      refine Ops.gf rfl ?_
      refine Ops.gf rfl ?_
      refine Ops.gf rfl ?_
      refine Ops.gf rfl ?_
      refine Ops.gf rfl ?_
      refine Ops.y (v := .bool _) (Y.pick_f rfl rfl) ?_
      refine Ops.nil ?_
      refine WP.cond_f rfl ?_
      refine WP.skip ?_
      refine WP.region ?_
      refine Ops.y (v := .int .i64 _) (Y.move rfl) ?_
      refine Ops.y (v := .int .i64 _) (Y.addi rfl rfl ⟨by omega, by omega⟩) ?_
      refine Ops.y (v := .int .i64 _) (Y.assign rfl) ?_
      refine Ops.nil ?_
      exact ⟨k + 1, ⟨⟨rfl, rfl, rfl, trivial⟩, I, by omega, step (by simp [hv])⟩, by omega⟩
  refine WP.exit ?_
  refine WP.seq ?_
  refine WP.region ?_
  refine Ops.y (v := .bool _) (Y.assign rfl) ?_
  refine Ops.nil ?_
  refine WP.ret ?_
  repeat (first | refine thenE_ret ?_ | refine blockE_ret ?_)
  exact retQ.mk (vs := [.bool _]) rfl ⟨rfl, trivial⟩ I.ext_of (by simp only [tup, standsIn]; rw [List.any_eq_false.2]; intro x hx; obtain ⟨j, hj, rfl⟩ := List.getElem_of_mem hx; simpa using hn j (by omega) hj)
theorem boundR_ok (B : Base) (hB : B.ok) (r : Rul) (hr : Ltls r.body B.h) (v : Int) : Fn Tryz.prog 141 [r.val, .int .i64 v] B (fun x _ => x = .bool (boundIn r v)) := by
  have hsm := hr.is.small
  refine Fn.of Tryz.func141 rfl Tryz.ntmps141 (by kernel_rfl) (by simp) ?_
  intro e
  have I := Inv.start hB
  refine WP.seq ?_
  refine WP.region ?_
  refine Ops.go (O.box (v := .agg #[_, _, _, _, _]) I rfl rfl ?_)
  intro b2 w I
  refine Ops.y (v := .bool _) (Y.assign rfl) ?_
  refine Ops.nil ?_
  refine WP.seq ?_
  refine WP.seq ?_
  refine WP.region ?_
  refine Ops.y (v := .int .i64 _) (Y.assign rfl) ?_
  refine Ops.nil ?_
  refine WP.block ?_
  refine WP.loopE (σ := Nat) (fun k => [(1, .int .i64 v), (2, .pointer (some ⟨b2, 0, none⟩)), (5, .int .i64 k)]) (fun k w => Inv B B.h [box b2 r.enc 68] w ∧ k ≤ r.body.xs.length ∧ ∀ j (hj : j < k) (hj' : j < r.body.xs.length), (!r.body.xs[j].neg && standsIn r.body.xs[j].atom v) = false) (fun k => r.body.xs.length - k)
    ⟨0, ⟨rfl, rfl, rfl, trivial⟩, I, Nat.zero_le _, fun j hj => (by omega)⟩ ?_
  rintro k e w ⟨I, hk, hn⟩
  refine WP.seq ?_
  refine WP.seq ?_
  refine WP.region ?_
  refine Ops.y (v := .int .i64 _) (Y.move rfl) ?_
  refine Ops.y (v := .pointer (some ⟨_, _, none⟩)) (Y.fa fa_68_3 rfl) ?_
  refine Ops.y (v := .slice _ _ _) (Y.loadv ty_66 rfl (I.rdbox 0 rfl 4 1) rfl rfl) ?_
  refine Ops.y (v := .int .i64 _) (Y.lens Tryz.underlying66 rfl) ?_
  refine Ops.y (v := .bool (decide _)) (Y.lti rfl rfl) ?_
  refine Ops.nil ?_
  refine WP.cond_dec rfl (fun h => ?_) (fun h => ?_)
  · have hk' : k < r.body.xs.length := by omega
    have E1 := hr.is.at hk'
    have step : (!r.body.xs[k].neg && standsIn r.body.xs[k].atom v) = false → ∀ j (hj : j < k + 1) (hj' : j < r.body.xs.length), (!r.body.xs[j].neg && standsIn r.body.xs[j].atom v) = false := fun hb j hj hj' => by
      rcases Nat.lt_succ_iff_lt_or_eq.1 hj with h' | h'
      · exact hn j h' hj'
      · subst h'; exact hb
    cases hv : r.body.xs[k].neg
    · refine WP.skip ?_
      refine WP.seq ?_
      refine WP.block ?_
      refine WP.seq ?_
      refine WP.region ?_
      refine Ops.y (v := .pointer (some ⟨_, _, none⟩)) (Y.fa fa_68_3 rfl) ?_
      refine Ops.y (v := .slice _ _ _) (Y.loadv ty_66 rfl (I.rdbox 0 rfl 4 1) rfl rfl) ?_
      refine Ops.y (v := .int .i64 _) (Y.move rfl) ?_
      refine Ops.y (v := .pointer (some ⟨_, _, none⟩)) (Y.idxEl E1 Tryz.underlying66 Tryz.sizeOf131 rfl rfl (Int.natCast_nonneg _) rfl) ?_
      refine Ops.y (v := .pointer (some ⟨_, _, none⟩)) (Y.fa0 fa_131_0 rfl) ?_
      refine Ops.y (v := .bool false) (Y.b (Y.loadv ty_4 rfl (I.rd (E1.rd.part 0 1)) rfl rfl) (hv)) ?_
      refine Ops.y (v := .bool true) (Y.not (b := false) rfl) ?_
      refine Ops.y (v := .bool _) (Y.move rfl) ?_
      refine Ops.ygt rfl (v := .pointer (some ⟨_, _, none⟩)) (Y.fa fa_68_3 rfl) ?_
      refine Ops.ygt rfl (v := .slice _ _ _) (Y.loadv ty_66 rfl (I.rdbox 0 rfl 4 1) rfl rfl) ?_
      refine Ops.ygt rfl (v := .int .i64 _) (Y.move rfl) ?_
      refine Ops.ygt rfl (v := .pointer (some ⟨_, _, none⟩)) (Y.idxEl E1 Tryz.underlying66 Tryz.sizeOf131 rfl rfl (Int.natCast_nonneg _) rfl) ?_
      refine Ops.ygt rfl (v := .pointer (some ⟨_, _, none⟩)) (Y.fa fa_131_1 rfl) ?_
      refine Ops.ygt rfl (v := .agg #[_, _]) (Y.loadv ty_65 rfl (I.rd (E1.rd.part 1 2)) rfl rfl) ?_
      refine Ops.ygt rfl (v := .int .i64 _) (Y.move rfl) ?_
      refine Ops.gt rfl (O.callv I Tryz.call140 (standsR_ok _ I.base_ok r.body.xs[k].atom (hr.each _ (List.getElem_mem hk')) v) rfl ?_)
      intro w I
      refine Ops.y (v := .bool _) (Y.pick_t rfl rfl) ?_
      refine Ops.nil ?_
      refine WP.cond rfl (fun hb => ?_) (fun hb => ?_)
      · refine WP.seq ?_
        refine WP.region ?_
        refine Ops.y (v := .bool _) (Y.assign rfl) ?_
        refine Ops.nil ?_
        refine WP.ret ?_
        repeat (first | refine thenE_ret ?_ | refine blockE_ret ?_)
        exact retQ.mk (vs := [.bool _]) rfl ⟨rfl, trivial⟩ I.ext_of (by simp only [tup, boundIn]; rw [List.any_eq_true.2 ⟨_, List.getElem_mem hk', by simp [hv, hb]⟩])
      refine WP.skip ?_
      refine WP.region ?_
      refine Ops.y (v := .int .i64 _) (Y.move rfl) ?_
      refine Ops.y (v := .int .i64 _) (Y.addi rfl rfl ⟨by omega, by omega⟩) ?_
      refine Ops.y (v := .int .i64 _) (Y.assign rfl) ?_
      refine Ops.nil ?_
      exact ⟨k + 1, ⟨⟨rfl, rfl, rfl, trivial⟩, I, by omega, step (by simp [hb])⟩, by omega⟩
    · refine WP.skip ?_
      refine WP.seq ?_
      refine WP.block ?_
      refine WP.seq ?_
      refine WP.region ?_
      refine Ops.y (v := .pointer (some ⟨_, _, none⟩)) (Y.fa fa_68_3 rfl) ?_
      refine Ops.y (v := .slice _ _ _) (Y.loadv ty_66 rfl (I.rdbox 0 rfl 4 1) rfl rfl) ?_
      refine Ops.y (v := .int .i64 _) (Y.move rfl) ?_
      refine Ops.y (v := .pointer (some ⟨_, _, none⟩)) (Y.idxEl E1 Tryz.underlying66 Tryz.sizeOf131 rfl rfl (Int.natCast_nonneg _) rfl) ?_
      refine Ops.y (v := .pointer (some ⟨_, _, none⟩)) (Y.fa0 fa_131_0 rfl) ?_
      refine Ops.y (v := .bool true) (Y.b (Y.loadv ty_4 rfl (I.rd (E1.rd.part 0 1)) rfl rfl) (hv)) ?_
      refine Ops.y (v := .bool false) (Y.not (b := true) rfl) ?_
      refine Ops.y (v := .bool _) (Y.move rfl) ?_
      refine Ops.gf rfl ?_
      refine Ops.gf rfl ?_
      refine Ops.gf rfl ?_
      refine Ops.gf rfl ?_
      refine Ops.gf rfl ?_
      refine Ops.gf rfl ?_
      refine Ops.gf rfl ?_
      refine Ops.gf rfl ?_
      refine Ops.y (v := .bool _) (Y.pick_f rfl rfl) ?_
      refine Ops.nil ?_
      refine WP.cond_f rfl ?_
      refine WP.skip ?_
      refine WP.region ?_
      refine Ops.y (v := .int .i64 _) (Y.move rfl) ?_
      refine Ops.y (v := .int .i64 _) (Y.addi rfl rfl ⟨by omega, by omega⟩) ?_
      refine Ops.y (v := .int .i64 _) (Y.assign rfl) ?_
      refine Ops.nil ?_
      exact ⟨k + 1, ⟨⟨rfl, rfl, rfl, trivial⟩, I, by omega, step (by simp [hv])⟩, by omega⟩
  refine WP.exit ?_
  refine WP.seq ?_
  refine WP.region ?_
  refine Ops.y (v := .bool _) (Y.assign rfl) ?_
  refine Ops.nil ?_
  refine WP.ret ?_
  repeat (first | refine thenE_ret ?_ | refine blockE_ret ?_)
  exact retQ.mk (vs := [.bool _]) rfl ⟨rfl, trivial⟩ I.ext_of (by simp only [tup, boundIn]; rw [List.any_eq_false.2]; intro x hx; obtain ⟨j, hj, rfl⟩ := List.getElem_of_mem hx; simpa using hn j (by omega) hj)
end Go.TF
end
section
/- The contracts of package rule, on: Vars, Atoms. -/
namespace Go.TF
open Go Go.RowKit Go.Proofs
set_option maxRecDepth 10000

theorem Vars_ok (B : Base) (hB : B.ok) (l : Sl Atm) (hl : l.Is 2 Atm.enc B.h) (he : ∀ a ∈ l.xs, a.In B.h) (hn : l.xs.length ≤ 4) :
    FnM Tryz.prog 166 [l.val] B (fun v _ M => ∃ b es, v = .map (some b) ∧ M = [imap b es] ∧ CountOf es (cntA l.xs)) := by
  refine FnM.of Tryz.func166 rfl Tryz.ntmps166 (by kernel_rfl) (by simp) ?_
  intro e
  have I := Inv.start hB
  refine WP.seq ?_
  refine WP.region ?_
  refine Ops.y (v := .map _) (Y.assign rfl) ?_
  refine Ops.nil ?_
  refine WP.seq ?_
  refine WP.region ?_
  refine Ops.go (O.mkmap I ?_)
  intro b8 w I
  refine Ops.y (v := .map _) (Y.assign rfl) ?_
  refine Ops.nil ?_
  refine WP.seq ?_
  refine WP.seq ?_
  refine WP.region ?_
  refine Ops.y (v := .slice _ _ _) (Y.move rfl) ?_
  refine Ops.y (v := .int .i64 _) (Y.lens Tryz.underlying186 rfl) ?_
  refine Ops.y (v := .int .i64 _) (Y.move rfl) ?_
  refine Ops.nil ?_
  refine WP.block ?_
  refine WP.loopE (σ := Nat × List (Int × Int)) (fun s => [(3, .map (some b8)), (9, l.val), (10, .int .i64 l.xs.length), (11, .int .i64 s.1)]) (fun s w => Inv B B.h [imap b8 s.2] w ∧ s.1 ≤ l.xs.length ∧ CountOf s.2 (cntA (l.xs.take s.1))) (fun s => l.xs.length - s.1)
    ⟨(0, []), ⟨rfl, rfl, rfl, rfl, trivial⟩, I, Nat.zero_le _, CountOf.nil⟩ ?_
  rintro ⟨k, es⟩ e w ⟨I, hk, hc⟩
  dsimp only at I hk hc ⊢
  refine WP.seq ?_
  refine WP.region ?_
  refine Ops.y (v := .bool (decide _)) (Y.lti rfl rfl) ?_
  refine Ops.nil ?_
  refine WP.seq ?_
  refine WP.cond_dec rfl (fun h => ?_) (fun h => ?_)
  · have hk' : k < l.xs.length := by omega
    have E1 := hl.at hk'
    have ha := he _ (List.getElem_mem hk')
    have hsm : l.xs[k].args.xs.length ≤ 140737488355328 := Sl.Is.small ha
    refine WP.skip ?_
    refine WP.seq ?_
    refine WP.block ?_
    refine WP.seq ?_
    refine WP.region ?_
    refine Ops.y (v := .pointer (some ⟨_, _, none⟩)) (Y.idxEl E1 Tryz.underlying186 Tryz.sizeOf65 rfl rfl (Int.natCast_nonneg _) rfl) ?_
    refine Ops.y (v := .agg #[_, _]) (Y.loadv ty_65 rfl (I.rd (E1.rd.part 0 2)) rfl rfl) ?_
    refine Ops.go (O.alloc I Tryz.zeroValue65 rfl ?_)
    intro b5 w I
    refine Ops.go (O.store (v := .agg #[_, _]) I ty_65 0 rfl rfl rfl rfl rfl rfl (Nat.le_of_ble_eq_true rfl) rfl ?_)
    intro w I
    refine Ops.nil ?_
    refine WP.seq ?_
    refine WP.region ?_
    refine Ops.y (v := .pointer (some ⟨_, _, none⟩)) (Y.fa fa_65_1 rfl) ?_
    refine Ops.y (v := .slice _ _ _) (Y.loadv ty_63 rfl (I.rdbox 0 rfl 1 1) rfl rfl) ?_
    refine Ops.y (v := .int .i64 _) (Y.lens Tryz.underlying63 rfl) ?_
    refine Ops.y (v := .int .i64 _) (Y.move rfl) ?_
    refine Ops.nil ?_
    refine WP.block ?_
    refine WP.loopE (σ := Nat × List (Int × Int)) (fun s => [(3, .map (some b8)), (9, l.val), (10, .int .i64 l.xs.length), (11, .int .i64 k), (16, l.xs[k].args.val), (17, .int .i64 l.xs[k].args.xs.length), (18, .int .i64 s.1)]) (fun s w => Inv B B.h [imap b8 s.2] w ∧ s.1 ≤ l.xs[k].args.xs.length ∧ CountOf s.2 (fun v => cntA (l.xs.take k) v + cntT (l.xs[k].args.xs.take s.1) v)) (fun s => l.xs[k].args.xs.length - s.1)
      ⟨(0, es), ⟨rfl, rfl, rfl, rfl, rfl, rfl, rfl, trivial⟩, I.drop, Nat.zero_le _, hc⟩ ?_
    rintro ⟨j, es⟩ e w ⟨I, hj, hc⟩
    dsimp only at I hj hc ⊢
    refine WP.seq ?_
    refine WP.region ?_
    refine Ops.y (v := .bool (decide _)) (Y.lti rfl rfl) ?_
    refine Ops.nil ?_
    refine WP.seq ?_
    refine WP.cond_dec rfl (fun h2 => ?_) (fun h2 => ?_)
    · have hj' : j < l.xs[k].args.xs.length := by omega
      have E2 := Sl.Is.at ha hj'
      have hcg := hc.get l.xs[k].args.xs[j].n
      have hb1 := cntA_le (l := l.xs.take k) (m := 140737488355328) (fun a hm => Sl.Is.small (he a (List.mem_of_mem_take hm))) l.xs[k].args.xs[j].n
      have hb2 := cntT_le (l.xs[k].args.xs.take j) l.xs[k].args.xs[j].n
      simp only [List.length_take] at hb1 hb2
      have hb3 : min k l.xs.length * 140737488355328 ≤ 4 * 140737488355328 := Nat.mul_le_mul_right _ (by omega)
      refine WP.skip ?_
      refine WP.seq ?_
      refine WP.block ?_
      refine WP.seq ?_
      refine WP.region ?_
      refine Ops.y (v := .pointer (some ⟨_, _, none⟩)) (Y.idxEl E2 Tryz.underlying63 Tryz.sizeOf91 rfl rfl (Int.natCast_nonneg _) rfl) ?_
      refine Ops.y (v := .agg #[_, _]) (Y.loadv ty_91 rfl (I.rd (E2.rd.part 0 2)) rfl rfl) ?_
      refine Ops.go (O.alloc I Tryz.zeroValue91 rfl ?_)
      intro b7 w I
      refine Ops.go (O.store (v := .agg #[_, _]) I ty_91 0 rfl rfl rfl rfl rfl rfl (Nat.le_of_ble_eq_true rfl) rfl ?_)
      intro w I
      refine Ops.nil ?_
      refine WP.seq ?_
      refine WP.region ?_
      refine Ops.y (v := .pointer (some ⟨_, _, none⟩)) (Y.fa0 fa_91_0 rfl) ?_
      refine Ops.y (v := .bool _) (Y.loadv ty_4 rfl (I.rdbox 0 rfl 0 1) rfl rfl) ?_
      refine Ops.nil ?_
      refine WP.cutL (σ := List (Int × Int)) (fun _ => [(3, .map (some b8)), (9, l.val), (10, .int .i64 l.xs.length), (11, .int .i64 k), (16, l.xs[k].args.val), (17, .int .i64 l.xs[k].args.xs.length), (18, .int .i64 j)]) (fun es w => Inv B B.h [imap b8 es] w ∧ CountOf es (fun v => cntA (l.xs.take k) v + cntT (l.xs[k].args.xs.take (j + 1)) v)) ?_ ?_
      · refine WP.cond rfl (fun hv => ?_) (fun hv => ?_)
        · refine WP.region ?_
          refine Ops.y (v := .map _) (Y.move rfl) ?_
          refine Ops.y (v := .pointer (some ⟨_, _, none⟩)) (Y.fa fa_91_1 rfl) ?_
          refine Ops.y (v := .int .i64 _) (Y.loadv ty_3 rfl (I.rdbox 0 rfl 1 1) rfl rfl) ?_
          refine Ops.y (v := .int .i64 _) (Y.lookup I Tryz.underlying181 Tryz.underlying3 Tryz.zeroValue3 1 rfl rfl rfl) ?_
          refine Ops.y (v := .int .i64 _) (Y.addi rfl rfl ⟨by omega, by omega⟩) ?_
          refine Ops.go (O.mapset I Tryz.underlying181 Tryz.underlying3 1 rfl rfl rfl rfl ?_)
          intro w I
          refine Ops.nil ?_
          exact ⟨_, ⟨rfl, rfl, rfl, rfl, rfl, rfl, rfl, trivial⟩, I.drop, hc.put _ fun v => by rw [cntT_take hj']; simp only [hv, true_and]; by_cases e : v = l.xs[k].args.xs[j].n <;> simp [e, Ne.symm] <;> omega⟩
        refine WP.skip ?_
        exact ⟨es, ⟨rfl, rfl, rfl, rfl, rfl, rfl, rfl, trivial⟩, I.drop, hc.same fun v => by rw [cntT_take hj']; simp [hv]⟩
      rintro es e w ⟨I, hc⟩
      refine WP.region ?_
      refine Ops.y (v := .int .i64 _) (Y.addi rfl rfl ⟨by omega, by omega⟩) ?_
      refine Ops.y (v := .int .i64 _) (Y.move rfl) ?_
      refine Ops.nil ?_
      exact ⟨(j + 1, es), ⟨⟨rfl, rfl, rfl, rfl, rfl, rfl, rfl, trivial⟩, I, by dsimp only; omega, hc⟩, by dsimp only; omega⟩
    refine WP.exit ?_
    refine WP.region ?_
    refine Ops.y (v := .int .i64 _) (Y.addi rfl rfl ⟨by omega, by omega⟩) ?_
    refine Ops.y (v := .int .i64 _) (Y.move rfl) ?_
    refine Ops.nil ?_
    have hj0 : j = l.xs[k].args.xs.length := by omega
    exact ⟨(k + 1, es), ⟨⟨rfl, rfl, rfl, rfl, trivial⟩, I, by dsimp only; omega, fun v => by rw [cntA_take hk']; have := hc v; rw [hj0, List.take_length] at this; exact this⟩, by dsimp only; omega⟩
  refine WP.exit ?_
  refine WP.seq ?_
  refine WP.region ?_
  refine Ops.y (v := .map _) (Y.move rfl) ?_
  refine Ops.y (v := .map _) (Y.assign rfl) ?_
  refine Ops.nil ?_
  have hk0 : k = l.xs.length := by omega
  refine WP.ret ?_
  repeat (first | refine thenE_ret ?_ | refine blockE_ret ?_)
  exact retM.mk (vs := [_]) rfl ⟨rfl, trivial⟩ (I) (⟨b8, es, rfl, rfl, by rw [hk0, List.take_length] at hc; exact hc⟩)
/-- What Atoms hands on. -/
def AtomsR (b : Sl Ltl) (v : Value) (_ : Heap) (M : List SA) : Prop := ∃ u1 u2, v = .tuple #[u1, u2] ∧ M = [ownSl 65 2 u1 (negs b.xs).length ((negs b.xs).flatMap Atm.enc), ownSl 65 2 u2 (poss b.xs).length ((poss b.xs).flatMap Atm.enc)]
theorem Atoms_ok (B : Base) (hB : B.ok) (r : Rul) (hr : Ltls r.body B.h) (hn : r.body.xs.length ≤ 3) : FnM Tryz.prog 165 [r.val] B (AtomsR r.body) := by
  refine FnM.of Tryz.func165 rfl Tryz.ntmps165 (by kernel_rfl) (by simp) ?_
  intro e
  have I := Inv.start hB
  refine WP.seq ?_
  refine WP.region ?_
  refine Ops.go (O.box (v := .agg #[_, _, _, _, _]) I rfl rfl ?_)
  intro b1 w I
  refine Ops.y (v := .slice _ _ _) (Y.assign rfl) ?_
  refine Ops.y (v := .slice _ _ _) (Y.assign rfl) ?_
  refine Ops.nil ?_
  refine WP.seq ?_
  refine WP.seq ?_
  refine WP.region ?_
  refine Ops.y (v := .pointer (some ⟨_, _, none⟩)) (Y.fa fa_68_3 rfl) ?_
  refine Ops.y (v := .slice _ _ _) (Y.loadv ty_66 rfl (I.rdbox 0 rfl 4 1) rfl rfl) ?_
  refine Ops.y (v := .int .i64 _) (Y.lens Tryz.underlying66 rfl) ?_
  refine Ops.y (v := .int .i64 _) (Y.move rfl) ?_
  refine Ops.nil ?_
  refine WP.block ?_
  have In1 := I.nilSl 65 2
  have In2 := In1.nilSl 65 2
  refine WP.loopE (σ := Nat × Value × Value × Heap) (fun s => [(1, .pointer (some ⟨b1, 0, none⟩)), (2, s.2.1), (3, s.2.2.1), (7, r.body.val), (8, .int .i64 r.body.xs.length), (9, .int .i64 s.1)])
    (fun s w => Inv B s.2.2.2 [ownSl 65 2 s.2.1 (negs (r.body.xs.take s.1)).length ((negs (r.body.xs.take s.1)).flatMap Atm.enc), ownSl 65 2 s.2.2.1 (poss (r.body.xs.take s.1)).length ((poss (r.body.xs.take s.1)).flatMap Atm.enc)] w ∧ s.1 ≤ r.body.xs.length ∧ B.h.le s.2.2.2) (fun s => r.body.xs.length - s.1)
    ⟨(0, .slice none 0 0, .slice none 0 0, B.h), ⟨rfl, rfl, rfl, rfl, rfl, rfl, trivial⟩, In2.weak (by simp [negs, poss]), Nat.zero_le _, Heap.le.refl _⟩ ?_
  rintro ⟨k, u1, u2, h⟩ e w ⟨I, hk, hle⟩
  dsimp only at I hk hle ⊢
  refine WP.seq ?_
  refine WP.region ?_
  refine Ops.y (v := .bool (decide _)) (Y.lti rfl rfl) ?_
  refine Ops.nil ?_
  refine WP.seq ?_
  refine WP.cond_dec rfl (fun h1 => ?_) (fun h1 => ?_)
  · have hk' : k < r.body.xs.length := by omega
    have E1 := (hr.is.at hk').le hle
    have l1 := negs_le (r.body.xs.take k)
    have l2 := poss_le (r.body.xs.take k)
    simp only [List.length_take] at l1 l2
    refine WP.skip ?_
    refine WP.seq ?_
    refine WP.block ?_
    refine WP.seq ?_
    refine WP.region ?_
    refine Ops.y (v := .pointer (some ⟨_, _, none⟩)) (Y.idxEl E1 Tryz.underlying66 Tryz.sizeOf131 rfl rfl (Int.natCast_nonneg _) rfl) ?_
    refine Ops.y (v := .agg #[_, _, _]) (Y.loadv ty_131 rfl (I.rd (E1.rd.part 0 3)) rfl rfl) ?_
    refine Ops.go (O.alloc I Tryz.zeroValue131 rfl ?_)
    intro b5 w I
    refine Ops.go (O.store (v := .agg #[_, _, _]) I ty_131 0 rfl rfl rfl rfl rfl rfl (Nat.le_of_ble_eq_true rfl) rfl ?_)
    intro w I
    refine Ops.nil ?_
    refine WP.seq ?_
    refine WP.region ?_
    refine Ops.y (v := .pointer (some ⟨_, _, none⟩)) (Y.fa0 fa_131_0 rfl) ?_
    refine Ops.y (v := .bool _) (Y.loadv ty_4 rfl (I.rdbox 0 rfl 0 1) rfl rfl) ?_
    refine Ops.nil ?_
    refine WP.cond rfl (fun hv => ?_) (fun hv => ?_)
    · refine WP.region ?_
      refine Ops.y (v := u1) (Y.move rfl) ?_
      refine Ops.y (v := .pointer (some ⟨_, _, none⟩)) (Y.fa fa_131_1 rfl) ?_
      refine Ops.y (v := .agg #[_, _]) (Y.loadv ty_65 rfl (I.rdbox 0 rfl 1 2) rfl rfl) ?_
      refine Ops.go (O.mksl (xs := [r.body.xs[k].atom]) (enc := Atm.enc) I Tryz.underlying186 Tryz.sizeOf65 Tryz.zeroValue65 rfl (Nat.le_of_ble_eq_true rfl) rfl rfl (by decide) (fun _ => rfl) ?_)
      intro b18 h18 w I le18 sl18
      refine Ops.go (O.append I Tryz.underlying186 et_65 1 rfl rfl rfl (I.rd (sl18 0 _ rfl).2) rfl rfl (by decide) (by omega) (by omega) ?_)
      intro b19 c19 w I
      refine Ops.y (v := .slice _ _ _) (Y.assign rfl) ?_
      refine Ops.nil ?_
      refine WP.region ?_
      refine Ops.y (v := .int .i64 _) (Y.addi rfl rfl ⟨by omega, by omega⟩) ?_
      refine Ops.y (v := .int .i64 _) (Y.move rfl) ?_
      refine Ops.nil ?_
      refine ⟨(k + 1, _, u2, h18), ⟨⟨rfl, rfl, rfl, rfl, rfl, rfl, trivial⟩, ?_, by dsimp only; omega, hle.trans le18⟩, by dsimp only; omega⟩
      have J := I.drop
      simpa [negs_take hk', poss_take hk', hv] using J
    refine WP.region ?_
    refine Ops.y (v := u2) (Y.move rfl) ?_
    refine Ops.y (v := .pointer (some ⟨_, _, none⟩)) (Y.fa fa_131_1 rfl) ?_
    refine Ops.y (v := .agg #[_, _]) (Y.loadv ty_65 rfl (I.rdbox 0 rfl 1 2) rfl rfl) ?_
    refine Ops.go (O.mksl (xs := [r.body.xs[k].atom]) (enc := Atm.enc) I Tryz.underlying186 Tryz.sizeOf65 Tryz.zeroValue65 rfl (Nat.le_of_ble_eq_true rfl) rfl rfl (by decide) (fun _ => rfl) ?_)
    intro b23 h23 w I le23 sl23
    refine Ops.go (O.append I Tryz.underlying186 et_65 2 rfl rfl rfl (I.rd (sl23 0 _ rfl).2) rfl rfl (by decide) (by omega) (by omega) ?_)
    intro b24 c24 w I
    refine Ops.y (v := .slice _ _ _) (Y.assign rfl) ?_
    refine Ops.nil ?_
    refine WP.region ?_
    refine Ops.y (v := .int .i64 _) (Y.addi rfl rfl ⟨by omega, by omega⟩) ?_
    refine Ops.y (v := .int .i64 _) (Y.move rfl) ?_
    refine Ops.nil ?_
    refine ⟨(k + 1, u1, _, h23), ⟨⟨rfl, rfl, rfl, rfl, rfl, rfl, trivial⟩, ?_, by dsimp only; omega, hle.trans le23⟩, by dsimp only; omega⟩
    have J := I.drop
    simpa [negs_take hk', poss_take hk', hv] using J
  refine WP.exit ?_
  refine WP.seq ?_
  refine WP.region ?_
  refine Ops.y (v := u1) (Y.move rfl) ?_
  refine Ops.y (v := u2) (Y.move rfl) ?_
  refine Ops.y (v := u1) (Y.assign rfl) ?_
  refine Ops.y (v := u2) (Y.assign rfl) ?_
  refine Ops.nil ?_
  have hk0 : k = r.body.xs.length := by omega
  refine WP.ret ?_
  repeat (first | refine thenE_ret ?_ | refine blockE_ret ?_)
  exact retM.mk (vs := [u1, u2]) rfl ⟨rfl, rfl, trivial⟩ (I) (⟨_, _, rfl, by rw [hk0, List.take_length]⟩)
end Go.TF
end
section
/- The contracts on grounding. -/
namespace Go.TF
open Go Go.RowKit Go.Proofs
set_option maxRecDepth 10000

theorem Of_ok (B : Base) (hB : B.ok) (a : Atm) (ha : a.In B.h) (x : Vrs) (hn : a.args.xs.length ≤ 2) (hok : argsErr a.args.xs = 0) : Fn Tryz.prog 135 [a.val, x.val] B (fun v _ => v = (groundF a x).val) := by
  refine Fn.of Tryz.func135 rfl Tryz.ntmps135 (by kernel_rfl) (by simp) ?_
  intro e
  have I := Inv.start hB
  refine WP.seq ?_
  refine WP.region ?_
  refine Ops.go (O.box (v := .agg #[_, _]) I rfl rfl ?_)
  intro b2 w I
  refine Ops.go (O.box (v := .agg #[_, _, _]) I rfl rfl ?_)
  intro b3 w I
  refine Ops.go (O.alloc I Tryz.zeroValue52 rfl ?_)
  intro b4 w I
  refine Ops.nil ?_
  refine WP.seq ?_
  refine WP.region ?_
  refine Ops.go (O.alloc I Tryz.zeroValue182 rfl ?_)
  intro b5 w I
  refine Ops.nil ?_
  refine WP.seq ?_
  refine WP.seq ?_
  refine WP.region ?_
  refine Ops.y (v := .pointer (some ⟨_, _, none⟩)) (Y.fa fa_65_1 rfl) ?_
  refine Ops.y (v := .slice _ _ _) (Y.loadv ty_63 rfl (I.rdbox 3 rfl 1 1) rfl rfl) ?_
  refine Ops.y (v := .int .i64 _) (Y.lens Tryz.underlying63 rfl) ?_
  refine Ops.y (v := .int .i64 _) (Y.move rfl) ?_
  refine Ops.nil ?_
  refine WP.block ?_
  refine WP.loopE (σ := Nat) (fun k => [(2, .pointer (some ⟨b2, 0, none⟩)), (3, .pointer (some ⟨b3, 0, none⟩)), (4, .pointer (some ⟨b4, 0, none⟩)), (5, .pointer (some ⟨b5, 0, none⟩)), (9, a.args.val), (10, .int .i64 a.args.xs.length), (11, .int .i64 k)])
    (fun k w => Inv B B.h [box b5 [.int .i64 (if 0 < k then argv a x 0 else 0), .int .i64 (if 1 < k then argv a x 1 else 0)] 182, box b4 (Fct.enc default) 52, box b3 x.enc 80, box b2 a.enc 65] w ∧ k ≤ a.args.xs.length) (fun k => a.args.xs.length - k)
    ⟨0, ⟨rfl, rfl, rfl, rfl, rfl, rfl, rfl, trivial⟩, I, Nat.zero_le _⟩ ?_
  rintro k e w ⟨I, hk⟩
  refine WP.seq ?_
  refine WP.region ?_
  refine Ops.y (v := .bool (decide _)) (Y.lti rfl rfl) ?_
  refine Ops.nil ?_
  refine WP.seq ?_
  refine WP.cond_dec rfl (fun h => ?_) (fun h => ?_)
  · have hk' : k < a.args.xs.length := by omega
    have E1 := Sl.Is.at ha hk'
    have hvv := argsErr_var hok (List.getElem_mem hk')
    have hav := argv_get (x := x) hk'
    have hk2 : k = 0 ∨ k = 1 := by omega
    have hv1 : a.args.xs[k].var = true → tv a.args.xs[k] x = x.at a.args.xs[k].n := fun h => by simp [tv, h]
    have hv0 : a.args.xs[k].var = false → tv a.args.xs[k] x = a.args.xs[k].n := fun h => by simp [tv, h]
    rcases hk2 with rfl | rfl
    · refine WP.skip ?_
      refine WP.seq ?_
      refine WP.block ?_
      refine WP.seq ?_
      refine WP.region ?_
      refine Ops.y (v := .int .i64 _) (Y.move rfl) ?_
      refine Ops.y (v := .pointer (some ⟨_, _, none⟩)) (Y.idxEl E1 Tryz.underlying63 Tryz.sizeOf91 rfl rfl (Int.natCast_nonneg _) rfl) ?_
      refine Ops.y (v := .agg #[_, _]) (Y.loadv ty_91 rfl (I.rd (E1.rd.part 0 2)) rfl rfl) ?_
      refine Ops.go (O.alloc I Tryz.zeroValue91 rfl ?_)
      intro b7 w I
      refine Ops.y (v := .int .i64 _) (Y.assign rfl) ?_
      refine Ops.go (O.store (v := .agg #[_, _]) I ty_91 0 rfl rfl rfl rfl rfl rfl (Nat.le_of_ble_eq_true rfl) rfl ?_)
      intro w I
      refine Ops.nil ?_
      refine WP.seq ?_
      refine WP.region ?_
      refine Ops.y (v := .int .i64 _) (Y.move rfl) ?_
      refine Ops.y (v := .pointer (some ⟨_, _, none⟩)) (Y.fa fa_91_1 rfl) ?_
      refine Ops.y (v := .int .i64 _) (Y.loadv ty_3 rfl (I.rdbox 0 rfl 1 1) rfl rfl) ?_
      refine Ops.y (v := .pointer (some ⟨_, _, none⟩)) (Y.idxa Tryz.underlying182 Tryz.sizeOf3 rfl rfl (by omega) (by omega)) ?_
      refine Ops.go (O.store (v := .int .i64 _) I ty_3 1 rfl rfl rfl rfl rfl rfl (Nat.le_of_ble_eq_true rfl) rfl ?_)
      intro w I
      refine Ops.nil ?_
      cases hv : a.args.xs[0].var
      · refine WP.seq ?_
        refine WP.region ?_
        refine Ops.y (v := .pointer (some ⟨_, _, none⟩)) (Y.fa0 fa_91_0 rfl) ?_
        refine Ops.y (v := .bool false) (Y.b (Y.loadv ty_4 rfl (I.rdbox 0 rfl 0 1) rfl rfl) (hv)) ?_
        refine Ops.nil ?_
        refine WP.cond_f rfl ?_
        refine WP.skip ?_
        refine WP.region ?_
        refine Ops.y (v := .int .i64 _) (Y.addi rfl rfl ⟨by omega, by omega⟩) ?_
        refine Ops.y (v := .int .i64 _) (Y.move rfl) ?_
        refine Ops.nil ?_
        refine ⟨1, ⟨⟨rfl, rfl, rfl, rfl, rfl, rfl, rfl, trivial⟩, ?_, by omega⟩, by omega⟩
        have J := I.drop
        simpa [putAt, hav, hv0 hv] using J
      · refine WP.seq ?_
        refine WP.region ?_
        refine Ops.y (v := .pointer (some ⟨_, _, none⟩)) (Y.fa0 fa_91_0 rfl) ?_
        refine Ops.y (v := .bool true) (Y.b (Y.loadv ty_4 rfl (I.rdbox 0 rfl 0 1) rfl rfl) (hv)) ?_
        refine Ops.nil ?_
        refine WP.cond_t rfl ?_
        refine WP.region ?_
        refine Ops.y (v := .int .i64 _) (Y.move rfl) ?_
        refine Ops.y (v := .pointer (some ⟨_, _, none⟩)) (Y.fa fa_91_1 rfl) ?_
        refine Ops.y (v := .int .i64 _) (Y.loadv ty_3 rfl (I.rdbox 0 rfl 1 1) rfl rfl) ?_
        refine Ops.y (v := .pointer (some ⟨_, _, none⟩)) (Y.idxa Tryz.underlying80 Tryz.sizeOf3 rfl rfl (hvv hv).1 (hvv hv).2) ?_
        refine Ops.y (v := .int .i64 _) (Y.loadv ty_3 rfl (Rd.vrs (I.rdbox 3 rfl 0 3) (hvv hv).1 (hvv hv).2) rfl rfl) ?_
        refine Ops.y (v := .pointer (some ⟨_, _, none⟩)) (Y.idxa Tryz.underlying182 Tryz.sizeOf3 rfl rfl (by omega) (by omega)) ?_
        refine Ops.go (O.store (v := .int .i64 _) I ty_3 1 rfl rfl rfl rfl rfl rfl (Nat.le_of_ble_eq_true rfl) rfl ?_)
        intro w I
        refine Ops.nil ?_
        refine WP.region ?_
        refine Ops.y (v := .int .i64 _) (Y.addi rfl rfl ⟨by omega, by omega⟩) ?_
        refine Ops.y (v := .int .i64 _) (Y.move rfl) ?_
        refine Ops.nil ?_
        refine ⟨1, ⟨⟨rfl, rfl, rfl, rfl, rfl, rfl, rfl, trivial⟩, ?_, by omega⟩, by omega⟩
        have J := I.drop
        simpa [putAt, hav, hv1 hv] using J
    · refine WP.skip ?_
      refine WP.seq ?_
      refine WP.block ?_
      refine WP.seq ?_
      refine WP.region ?_
      refine Ops.y (v := .int .i64 _) (Y.move rfl) ?_
      refine Ops.y (v := .pointer (some ⟨_, _, none⟩)) (Y.idxEl E1 Tryz.underlying63 Tryz.sizeOf91 rfl rfl (Int.natCast_nonneg _) rfl) ?_
      refine Ops.y (v := .agg #[_, _]) (Y.loadv ty_91 rfl (I.rd (E1.rd.part 0 2)) rfl rfl) ?_
      refine Ops.go (O.alloc I Tryz.zeroValue91 rfl ?_)
      intro b7 w I
      refine Ops.y (v := .int .i64 _) (Y.assign rfl) ?_
      refine Ops.go (O.store (v := .agg #[_, _]) I ty_91 0 rfl rfl rfl rfl rfl rfl (Nat.le_of_ble_eq_true rfl) rfl ?_)
      intro w I
      refine Ops.nil ?_
      refine WP.seq ?_
      refine WP.region ?_
      refine Ops.y (v := .int .i64 _) (Y.move rfl) ?_
      refine Ops.y (v := .pointer (some ⟨_, _, none⟩)) (Y.fa fa_91_1 rfl) ?_
      refine Ops.y (v := .int .i64 _) (Y.loadv ty_3 rfl (I.rdbox 0 rfl 1 1) rfl rfl) ?_
      refine Ops.y (v := .pointer (some ⟨_, _, none⟩)) (Y.idxa Tryz.underlying182 Tryz.sizeOf3 rfl rfl (by omega) (by omega)) ?_
      refine Ops.go (O.store (v := .int .i64 _) I ty_3 1 rfl rfl rfl rfl rfl rfl (Nat.le_of_ble_eq_true rfl) rfl ?_)
      intro w I
      refine Ops.nil ?_
      cases hv : a.args.xs[1].var
      · refine WP.seq ?_
        refine WP.region ?_
        refine Ops.y (v := .pointer (some ⟨_, _, none⟩)) (Y.fa0 fa_91_0 rfl) ?_
        refine Ops.y (v := .bool false) (Y.b (Y.loadv ty_4 rfl (I.rdbox 0 rfl 0 1) rfl rfl) (hv)) ?_
        refine Ops.nil ?_
        refine WP.cond_f rfl ?_
        refine WP.skip ?_
        refine WP.region ?_
        refine Ops.y (v := .int .i64 _) (Y.addi rfl rfl ⟨by omega, by omega⟩) ?_
        refine Ops.y (v := .int .i64 _) (Y.move rfl) ?_
        refine Ops.nil ?_
        refine ⟨2, ⟨⟨rfl, rfl, rfl, rfl, rfl, rfl, rfl, trivial⟩, ?_, by omega⟩, by omega⟩
        have J := I.drop
        simpa [putAt, hav, hv0 hv] using J
      · refine WP.seq ?_
        refine WP.region ?_
        refine Ops.y (v := .pointer (some ⟨_, _, none⟩)) (Y.fa0 fa_91_0 rfl) ?_
        refine Ops.y (v := .bool true) (Y.b (Y.loadv ty_4 rfl (I.rdbox 0 rfl 0 1) rfl rfl) (hv)) ?_
        refine Ops.nil ?_
        refine WP.cond_t rfl ?_
        refine WP.region ?_
        refine Ops.y (v := .int .i64 _) (Y.move rfl) ?_
        refine Ops.y (v := .pointer (some ⟨_, _, none⟩)) (Y.fa fa_91_1 rfl) ?_
        refine Ops.y (v := .int .i64 _) (Y.loadv ty_3 rfl (I.rdbox 0 rfl 1 1) rfl rfl) ?_
        refine Ops.y (v := .pointer (some ⟨_, _, none⟩)) (Y.idxa Tryz.underlying80 Tryz.sizeOf3 rfl rfl (hvv hv).1 (hvv hv).2) ?_
        refine Ops.y (v := .int .i64 _) (Y.loadv ty_3 rfl (Rd.vrs (I.rdbox 3 rfl 0 3) (hvv hv).1 (hvv hv).2) rfl rfl) ?_
        refine Ops.y (v := .pointer (some ⟨_, _, none⟩)) (Y.idxa Tryz.underlying182 Tryz.sizeOf3 rfl rfl (by omega) (by omega)) ?_
        refine Ops.go (O.store (v := .int .i64 _) I ty_3 1 rfl rfl rfl rfl rfl rfl (Nat.le_of_ble_eq_true rfl) rfl ?_)
        intro w I
        refine Ops.nil ?_
        refine WP.region ?_
        refine Ops.y (v := .int .i64 _) (Y.addi rfl rfl ⟨by omega, by omega⟩) ?_
        refine Ops.y (v := .int .i64 _) (Y.move rfl) ?_
        refine Ops.nil ?_
        refine ⟨2, ⟨⟨rfl, rfl, rfl, rfl, rfl, rfl, rfl, trivial⟩, ?_, by omega⟩, by omega⟩
        have J := I.drop
        simpa [putAt, hav, hv1 hv] using J
  refine WP.exit ?_
  refine WP.seq ?_
  refine WP.region ?_
  refine Ops.y (v := .pointer (some ⟨_, _, none⟩)) (Y.fa0 fa_65_0 rfl) ?_
  refine Ops.y (v := .int .i64 _) (Y.loadv ty_3 rfl (I.rdbox 3 rfl 0 1) rfl rfl) ?_
  refine Ops.y (v := .pointer (some ⟨_, _, none⟩)) (Y.idxa Tryz.underlying182 Tryz.sizeOf3 rfl rfl (by omega) (by omega)) ?_
  refine Ops.y (v := .int .i64 _) (Y.loadv ty_3 rfl (I.rdbox 0 rfl 0 1) rfl rfl) ?_
  refine Ops.y (v := .pointer (some ⟨_, _, none⟩)) (Y.idxa Tryz.underlying182 Tryz.sizeOf3 rfl rfl (by omega) (by omega)) ?_
  refine Ops.y (v := .int .i64 _) (Y.loadv ty_3 rfl (I.rdbox 0 rfl 1 1) rfl rfl) ?_
  refine Ops.y (v := .agg #[.int .i64 _, .int .i64 _, .int .i64 _, .int .i64 _]) (Y.build pl_52 Tryz.zeroValue52 rfl rfl) ?_
  refine Ops.go (O.store (v := .agg #[_, _, _, _]) I ty_52 1 rfl rfl rfl rfl rfl rfl (Nat.le_of_ble_eq_true rfl) rfl ?_)
  intro w I
  refine Ops.nil ?_
  have h0 : (if 0 < k then argv a x 0 else 0) = argv a x 0 := by split; rfl; exact (argv_none (by omega)).symm
  have h1 : (if 1 < k then argv a x 1 else 0) = argv a x 1 := by split; rfl; exact (argv_none (by omega)).symm
  refine WP.ret ?_
  repeat (first | refine thenE_ret ?_ | refine blockE_ret ?_)
  exact retQ.mk (vs := [.agg #[_, _, _, _]]) rfl ⟨⟨_, _, _, _, _, rfl, ty_52, I.rdbox 1 rfl 0 4, rfl, rfl⟩, trivial⟩ I.ext_of (by simp only [tup, groundF, h0, h1])
theorem ground_ok (B : Base) (hB : B.ok) (a : Atm) (ha : a.In B.h) (x : Vrs) (hn : a.args.xs.length ≤ 2) (hok : argsErr a.args.xs = 0) : Fn Tryz.prog 142 [a.val, x.val] B (fun v _ => v = (groundF a x).val) := by
  refine Fn.of Tryz.func142 rfl Tryz.ntmps142 (by kernel_rfl) (by simp) ?_
  intro e
  have I := Inv.start hB
  refine WP.seq ?_
  refine WP.region ?_
  refine Ops.go (O.box (v := .agg #[_, _]) I rfl rfl ?_)
  intro b2 w I
  refine Ops.go (O.box (v := .agg #[_, _, _]) I rfl rfl ?_)
  intro b3 w I
  refine Ops.go (O.alloc I Tryz.zeroValue52 rfl ?_)
  intro b4 w I
  refine Ops.nil ?_
  refine WP.seq ?_
  refine WP.region ?_
  refine Ops.y (v := .pointer (some ⟨_, _, none⟩)) (Y.fa0 fa_65_0 rfl) ?_
  refine Ops.y (v := .int .i64 _) (Y.loadv ty_3 rfl (I.rdbox 2 rfl 0 1) rfl rfl) ?_
  refine Ops.y (v := .agg #[.int .i64 _, .int .i64 _, .int .i64 _, .int .i64 _]) (Y.build pl_52 Tryz.zeroValue52 rfl rfl) ?_
  refine Ops.go (O.alloc I Tryz.zeroValue52 rfl ?_)
  intro b5 w I
  refine Ops.go (O.store (v := .agg #[_, _, _, _]) I ty_52 0 rfl rfl rfl rfl rfl rfl (Nat.le_of_ble_eq_true rfl) rfl ?_)
  intro w I
  refine Ops.nil ?_
  refine WP.seq ?_
  refine WP.seq ?_
  refine WP.region ?_
  refine Ops.y (v := .int .i64 _) (Y.assign rfl) ?_
  refine Ops.nil ?_
  refine WP.block ?_
  refine WP.loopE (σ := Nat) (fun k => [(2, .pointer (some ⟨b2, 0, none⟩)), (3, .pointer (some ⟨b3, 0, none⟩)), (4, .pointer (some ⟨b4, 0, none⟩)), (5, .pointer (some ⟨b5, 0, none⟩)), (6, .int .i64 k)])
    (fun k w => Inv B B.h [box b5 [.int .i64 a.pred, .int .i64 (if 0 < k then argv a x 0 else 0), .int .i64 (if 1 < k then argv a x 1 else 0), .int .i64 0] 52, box b4 (Fct.enc default) 52, box b3 x.enc 80, box b2 a.enc 65] w ∧ k ≤ a.args.xs.length) (fun k => a.args.xs.length - k)
    ⟨0, ⟨rfl, rfl, rfl, rfl, rfl, trivial⟩, I, Nat.zero_le _⟩ ?_
  rintro k e w ⟨I, hk⟩
  refine WP.seq ?_
  refine WP.seq ?_
  refine WP.region ?_
  refine Ops.y (v := .int .i64 _) (Y.move rfl) ?_
  refine Ops.y (v := .pointer (some ⟨_, _, none⟩)) (Y.fa fa_65_1 rfl) ?_
  refine Ops.y (v := .slice _ _ _) (Y.loadv ty_63 rfl (I.rdbox 3 rfl 1 1) rfl rfl) ?_
  refine Ops.y (v := .int .i64 _) (Y.lens Tryz.underlying63 rfl) ?_
  refine Ops.y (v := .bool (decide _)) (Y.lti rfl rfl) ?_
  refine Ops.nil ?_
  refine WP.cond_dec rfl (fun h => ?_) (fun h => ?_)
  · have hk' : k < a.args.xs.length := by omega
    have E1 := Sl.Is.at ha hk'
    have hvv := argsErr_var hok (List.getElem_mem hk')
    have hav := argv_get (x := x) hk'
    have hk2 : k = 0 ∨ k = 1 := by omega
    refine WP.skip ?_
    refine WP.seq ?_
    refine WP.block ?_
    refine WP.seq ?_
    refine WP.region ?_
    refine Ops.y (v := .pointer (some ⟨_, _, none⟩)) (Y.fa fa_65_1 rfl) ?_
    refine Ops.y (v := .slice _ _ _) (Y.loadv ty_63 rfl (I.rdbox 3 rfl 1 1) rfl rfl) ?_
    refine Ops.y (v := .int .i64 _) (Y.move rfl) ?_
    refine Ops.y (v := .pointer (some ⟨_, _, none⟩)) (Y.idxEl E1 Tryz.underlying63 Tryz.sizeOf91 rfl rfl (Int.natCast_nonneg _) rfl) ?_
    refine Ops.y (v := .pointer (some ⟨_, _, none⟩)) (Y.fa fa_91_1 rfl) ?_
    refine Ops.y (v := .int .i64 _) (Y.loadv ty_3 rfl (I.rd (E1.rd.part 1 1)) rfl rfl) ?_
    refine Ops.y (v := .int .i64 _) (Y.assign rfl) ?_
    refine Ops.nil ?_
    refine WP.seq ?_
    refine WP.seq ?_
    refine WP.cutL (σ := Unit) (fun _ => [(2, .pointer (some ⟨b2, 0, none⟩)), (3, .pointer (some ⟨b3, 0, none⟩)), (4, .pointer (some ⟨b4, 0, none⟩)), (5, .pointer (some ⟨b5, 0, none⟩)), (6, .int .i64 k), (7, .int .i64 a.args.xs[k].n), (29, .bool a.args.xs[k].var)]) (fun _ w => Inv B B.h [box b5 [.int .i64 a.pred, .int .i64 (if 0 < k then argv a x 0 else 0), .int .i64 (if 1 < k then argv a x 1 else 0), .int .i64 0] 52, box b4 (Fct.enc default) 52, box b3 x.enc 80, box b2 a.enc 65] w) ?_ ?_
    · refine WP.region ?_
      refine Ops.y (v := .pointer (some ⟨_, _, none⟩)) (Y.fa fa_65_1 rfl) ?_
      refine Ops.y (v := .slice _ _ _) (Y.loadv ty_63 rfl (I.rdbox 3 rfl 1 1) rfl rfl) ?_
      refine Ops.y (v := .int .i64 _) (Y.move rfl) ?_
      refine Ops.y (v := .pointer (some ⟨_, _, none⟩)) (Y.idxEl E1 Tryz.underlying63 Tryz.sizeOf91 rfl rfl (Int.natCast_nonneg _) rfl) ?_
      refine Ops.y (v := .pointer (some ⟨_, _, none⟩)) (Y.fa0 fa_91_0 rfl) ?_
      refine Ops.y (v := .bool _) (Y.loadv ty_4 rfl (I.rd (E1.rd.part 0 1)) rfl rfl) ?_
      refine Ops.nil ?_
      exact ⟨(), ⟨rfl, rfl, rfl, rfl, rfl, rfl, rfl, trivial⟩, I⟩
    rintro _ e w I
    refine WP.cutL (σ := Unit) (fun _ => [(2, .pointer (some ⟨b2, 0, none⟩)), (3, .pointer (some ⟨b3, 0, none⟩)), (4, .pointer (some ⟨b4, 0, none⟩)), (5, .pointer (some ⟨b5, 0, none⟩)), (6, .int .i64 k), (7, .int .i64 (tv a.args.xs[k] x))]) (fun _ w => Inv B B.h [box b5 [.int .i64 a.pred, .int .i64 (if 0 < k then argv a x 0 else 0), .int .i64 (if 1 < k then argv a x 1 else 0), .int .i64 0] 52, box b4 (Fct.enc default) 52, box b3 x.enc 80, box b2 a.enc 65] w) ?_ ?_
    · refine WP.cond rfl (fun hv => ?_) (fun hv => ?_)
      · refine WP.region ?_
        refine Ops.y (v := .int .i64 _) (Y.move rfl) ?_
        refine Ops.y (v := .pointer (some ⟨_, _, none⟩)) (Y.idxa Tryz.underlying80 Tryz.sizeOf3 rfl rfl (hvv hv).1 (hvv hv).2) ?_
        refine Ops.y (v := .int .i64 _) (Y.loadv ty_3 rfl (Rd.vrs (I.rdbox 2 rfl 0 3) (hvv hv).1 (hvv hv).2) rfl rfl) ?_
        refine Ops.y (v := .int .i64 _) (Y.assign rfl) ?_
        refine Ops.nil ?_
        exact ⟨(), ⟨rfl, rfl, rfl, rfl, rfl, by simp [tv, hv]; rfl, trivial⟩, I⟩
      refine WP.skip ?_
      exact ⟨(), ⟨rfl, rfl, rfl, rfl, rfl, by simp [tv, hv]; rfl, trivial⟩, I⟩
    rintro _ e w I
    rcases hk2 with rfl | rfl
    · refine WP.seq ?_
      refine WP.region ?_
      refine Ops.y (v := .int .i64 _) (Y.move rfl) ?_
      refine Ops.y (v := .bool true) (Y.dec_t (Y.eqi rfl rfl) (rfl)) ?_
      refine Ops.nil ?_
      refine WP.cond_t rfl ?_
      refine WP.region ?_
      refine Ops.y (v := .int .i64 _) (Y.move rfl) ?_
      refine Ops.y (v := .pointer (some ⟨_, _, none⟩)) (Y.fa fa_52_1 rfl) ?_
      refine Ops.go (O.store (v := .int .i64 _) I ty_3 0 rfl rfl rfl rfl rfl rfl (Nat.le_of_ble_eq_true rfl) rfl ?_)
      intro w I
      refine Ops.nil ?_
      refine WP.region ?_
      refine Ops.y (v := .int .i64 _) (Y.move rfl) ?_
      refine Ops.y (v := .int .i64 _) (Y.addi rfl rfl ⟨by omega, by omega⟩) ?_
      refine Ops.y (v := .int .i64 _) (Y.assign rfl) ?_
      refine Ops.nil ?_
      refine ⟨1, ⟨⟨rfl, rfl, rfl, rfl, rfl, trivial⟩, ?_, by omega⟩, by omega⟩
      simpa [putAt, hav] using I
    · refine WP.seq ?_
      refine WP.region ?_
      refine Ops.y (v := .int .i64 _) (Y.move rfl) ?_
      refine Ops.y (v := .bool false) (Y.dec_f (Y.eqi rfl rfl) ((by decide))) ?_
      refine Ops.nil ?_
      refine WP.cond_f rfl ?_
      refine WP.region ?_
      refine Ops.y (v := .int .i64 _) (Y.move rfl) ?_
      refine Ops.y (v := .pointer (some ⟨_, _, none⟩)) (Y.fa fa_52_2 rfl) ?_
      refine Ops.go (O.store (v := .int .i64 _) I ty_3 0 rfl rfl rfl rfl rfl rfl (Nat.le_of_ble_eq_true rfl) rfl ?_)
      intro w I
      refine Ops.nil ?_
      refine WP.region ?_
      refine Ops.y (v := .int .i64 _) (Y.move rfl) ?_
      refine Ops.y (v := .int .i64 _) (Y.addi rfl rfl ⟨by omega, by omega⟩) ?_
      refine Ops.y (v := .int .i64 _) (Y.assign rfl) ?_
      refine Ops.nil ?_
      refine ⟨2, ⟨⟨rfl, rfl, rfl, rfl, rfl, trivial⟩, ?_, by omega⟩, by omega⟩
      simpa [putAt, hav] using I
  refine WP.exit ?_
  refine WP.seq ?_
  refine WP.region ?_
  refine Ops.y (v := .agg #[_, _, _, _]) (Y.loadv ty_52 rfl (I.rdbox 0 rfl 0 4) rfl rfl) ?_
  refine Ops.go (O.store (v := .agg #[_, _, _, _]) I ty_52 1 rfl rfl rfl rfl rfl rfl (Nat.le_of_ble_eq_true rfl) rfl ?_)
  intro w I
  refine Ops.nil ?_
  have h0 : (if 0 < k then argv a x 0 else 0) = argv a x 0 := by split; rfl; exact (argv_none (by omega)).symm
  have h1 : (if 1 < k then argv a x 1 else 0) = argv a x 1 := by split; rfl; exact (argv_none (by omega)).symm
  refine WP.ret ?_
  repeat (first | refine thenE_ret ?_ | refine blockE_ret ?_)
  exact retQ.mk (vs := [.agg #[_, _, _, _]]) rfl ⟨⟨_, _, _, _, _, rfl, ty_52, I.rdbox 1 rfl 0 4, rfl, rfl⟩, trivial⟩ I.ext_of (by simp only [tup, groundF, h0, h1])
end Go.TF
end
section
/- The contracts on grounding, on. -/
namespace Go.TF
open Go Go.RowKit Go.Proofs
set_option maxRecDepth 10000

end Go.TF
end
section
/- The contract of rule.Check. -/
namespace Go.TF
open Go Go.RowKit Go.Proofs
set_option maxRecDepth 10000

theorem checkAtom_in {l : List Prd} {a : Atm} (h : checkAtom l a = 0) : 0 ≤ a.pred ∧ a.pred < l.length := by
  unfold checkAtom at h
  split at h
  · cases h
  · omega
theorem free_any {l : List Prd} {r : Rul} {v : Int} (h : freeVar r v = true) (h0 : checkAtom l r.head = 0) (h1 : bodyErr l r.body.xs = 0) : (freeVar r 0 || freeVar r 1 || freeVar r 2) = true := by
  have hv : v = 0 ∨ v = 1 ∨ v = 2 := by
    have := h
    simp only [freeVar, Bool.and_eq_true, Bool.or_eq_true, List.any_eq_true] at this
    rcases this.1 with hs | ⟨x, hx, hs⟩
    · exact standsIn_small h0 hs
    · exact standsIn_small (bodyErr_ne.1 h1 x hx) hs
  rcases hv with rfl | rfl | rfl <;> simp [h]
theorem free_none {r : Rul} (h : ∀ v, cntA (negs r.body.xs ++ [r.head]) v ≠ 0 → cntA (poss r.body.xs) v ≠ 0) : (freeVar r 0 || freeVar r 1 || freeVar r 2) = false := by
  have : ∀ v, freeVar r v = false := fun v => by
    cases hf : freeVar r v
    · rfl
    · have := freeVar_iff.1 hf; exact absurd this.2 (h v this.1)
  simp [this]
theorem litOf_get {r : Rul} {k : Int} (h0 : 0 ≤ k) (h1 : k < r.body.xs.length) : litOf r k = r.body.xs[k.toNat]'(by omega) := by
  simp [litOf, List.getD_eq_getElem?_getD, show k.toNat < r.body.xs.length by omega]
theorem predOf_getE {l : List Prd} {p : Int} (h0 : 0 ≤ p) (h1 : p < l.length) : predOf l p = l[p.toNat]'(by omega) := by
  simp [predOf, List.getD_eq_getElem?_getD, show p.toNat < l.length by omega]
set_option maxHeartbeats 1000000 in
theorem RCheck_ok (B : Base) (hB : B.ok) (l : Sl Prd) (hl : Prds l B.h) (r : Rul) (hr : r.In B.h) : Fn Tryz.prog 127 [l.val, r.val] B (fun v _ => v = .int .i64 (checkRule l.xs r)) := by
  have hsm := hl.small
  have hsb := hr.body.is.small
  refine Fn.of Tryz.func127 rfl Tryz.ntmps127 (by kernel_rfl) (by simp) ?_
  intro e
  have I := Inv.start hB
  refine WP.seq ?_
  refine WP.region ?_
  refine Ops.go (O.box (v := .agg #[_, _, _, _, _]) I rfl rfl ?_)
  intro b3 w I
  refine Ops.y (v := .int .i64 _) (Y.assign rfl) ?_
  refine Ops.nil ?_
  refine WP.seq ?_
  refine WP.seq ?_
  refine WP.region ?_
  refine Ops.y (v := .slice _ _ _) (Y.move rfl) ?_
  refine Ops.y (v := .pointer (some ⟨_, _, none⟩)) (Y.fa0 fa_68_0 rfl) ?_
  refine Ops.y (v := .agg #[_, _]) (Y.loadv ty_65 rfl (I.rdbox 0 rfl 0 2) rfl rfl) ?_
  refine Ops.go (O.callv I Tryz.call110 (Atom_ok _ I.base_ok l hl r.head hr.head) rfl ?_)
  intro w I
  refine Ops.y (v := .int .i64 _) (Y.assign rfl) ?_
  refine Ops.nil ?_
  refine WP.seq ?_
  refine WP.region ?_
  refine Ops.y (v := .int .i64 _) (Y.move rfl) ?_
  refine Ops.y (v := .bool (decide _)) (Y.nei rfl rfl) ?_
  refine Ops.nil ?_
  refine WP.cond_dec rfl (fun h1 => ?_) (fun h1 => ?_)
  · refine WP.seq ?_
    refine WP.region ?_
    refine Ops.y (v := .int .i64 _) (Y.move rfl) ?_
    refine Ops.y (v := .int .i64 _) (Y.assign rfl) ?_
    refine Ops.nil ?_
    refine WP.ret ?_
    repeat (first | refine thenE_ret ?_ | refine blockE_ret ?_)
    exact retQ.mk (vs := [.int .i64 _]) rfl ⟨rfl, trivial⟩ I.ext_of (by simp only [tup, checkRule]; rw [if_pos h1])
  have h1 := Decidable.not_not.1 h1
  have hh := checkAtom_in h1
  refine WP.skip ?_
  refine WP.seq ?_
  refine WP.seq ?_
  refine WP.region ?_
  refine Ops.y (v := .pointer (some ⟨_, _, none⟩)) (Y.fa fa_68_3 rfl) ?_
  refine Ops.y (v := .slice _ _ _) (Y.loadv ty_66 rfl (I.rdbox 0 rfl 4 1) rfl rfl) ?_
  refine Ops.y (v := .int .i64 _) (Y.lens Tryz.underlying66 rfl) ?_
  refine Ops.y (v := .bool (decide _)) (Y.gti rfl rfl) ?_
  refine Ops.nil ?_
  refine WP.cond_dec rfl (fun h2 => ?_) (fun h2 => ?_)
  · refine WP.seq ?_
    refine WP.region ?_
    refine Ops.y (v := .int .i64 _) (Y.assign rfl) ?_
    refine Ops.nil ?_
    refine WP.ret ?_
    repeat (first | refine thenE_ret ?_ | refine blockE_ret ?_)
    exact retQ.mk (vs := [.int .i64 _]) rfl ⟨rfl, trivial⟩ I.ext_of (by simp only [tup, checkRule]; rw [if_neg (by simp [h1]), if_pos (by omega)])
  refine WP.skip ?_
  refine WP.seq ?_
  refine WP.seq ?_
  refine WP.region ?_
  refine Ops.y (v := .pointer (some ⟨_, _, none⟩)) (Y.fa fa_68_3 rfl) ?_
  refine Ops.y (v := .slice _ _ _) (Y.loadv ty_66 rfl (I.rdbox 0 rfl 4 1) rfl rfl) ?_
  refine Ops.y (v := .int .i64 _) (Y.lens Tryz.underlying66 rfl) ?_
  refine Ops.y (v := .int .i64 _) (Y.move rfl) ?_
  refine Ops.nil ?_
  refine WP.block ?_
  refine WP.loopE (σ := Nat) (fun k => [(0, l.val), (3, .pointer (some ⟨b3, 0, none⟩)), (26, r.body.val), (27, .int .i64 r.body.xs.length), (28, .int .i64 k)]) (fun k w => Inv B B.h [box b3 r.enc 68] w ∧ k ≤ r.body.xs.length ∧ ∀ j, j < k → ∀ hj' : j < r.body.xs.length, checkAtom l.xs r.body.xs[j].atom = 0) (fun k => r.body.xs.length - k)
    ⟨0, ⟨rfl, rfl, rfl, rfl, rfl, trivial⟩, I, Nat.zero_le _, fun j hj => (by omega)⟩ ?_
  rintro k e w ⟨I, hk, hn⟩
  refine WP.seq ?_
  refine WP.region ?_
  refine Ops.y (v := .bool (decide _)) (Y.lti rfl rfl) ?_
  refine Ops.nil ?_
  refine WP.seq ?_
  refine WP.cond_dec rfl (fun h3 => ?_) (fun h3 => ?_)
  · have hk' : k < r.body.xs.length := by omega
    have E1 := hr.body.is.at hk'
    refine WP.skip ?_
    refine WP.seq ?_
    refine WP.block ?_
    refine WP.seq ?_
    refine WP.region ?_
    refine Ops.y (v := .pointer (some ⟨_, _, none⟩)) (Y.idxEl E1 Tryz.underlying66 Tryz.sizeOf131 rfl rfl (Int.natCast_nonneg _) rfl) ?_
    refine Ops.y (v := .agg #[_, _, _]) (Y.loadv ty_131 rfl (I.rd (E1.rd.part 0 3)) rfl rfl) ?_
    refine Ops.go (O.alloc I Tryz.zeroValue131 rfl ?_)
    intro b7 w I
    refine Ops.go (O.store (v := .agg #[_, _, _]) I ty_131 0 rfl rfl rfl rfl rfl rfl (Nat.le_of_ble_eq_true rfl) rfl ?_)
    intro w I
    refine Ops.nil ?_
    refine WP.seq ?_
    refine WP.region ?_
    refine Ops.y (v := .slice _ _ _) (Y.move rfl) ?_
    refine Ops.y (v := .pointer (some ⟨_, _, none⟩)) (Y.fa fa_131_1 rfl) ?_
    refine Ops.y (v := .agg #[_, _]) (Y.loadv ty_65 rfl (I.rdbox 0 rfl 1 2) rfl rfl) ?_
    refine Ops.go (O.callv I Tryz.call110 (Atom_ok _ I.base_ok l hl r.body.xs[k].atom (hr.body.each _ (List.getElem_mem hk'))) rfl ?_)
    intro w I
    refine Ops.y (v := .int .i64 _) (Y.assign rfl) ?_
    refine Ops.nil ?_
    refine WP.seq ?_
    refine WP.region ?_
    refine Ops.y (v := .int .i64 _) (Y.move rfl) ?_
    refine Ops.y (v := .bool (decide _)) (Y.nei rfl rfl) ?_
    refine Ops.nil ?_
    refine WP.cond_dec rfl (fun h4 => ?_) (fun h4 => ?_)
    · refine WP.seq ?_
      refine WP.region ?_
      refine Ops.y (v := .int .i64 _) (Y.move rfl) ?_
      refine Ops.y (v := .int .i64 _) (Y.assign rfl) ?_
      refine Ops.nil ?_
      refine WP.ret ?_
      repeat (first | refine thenE_ret ?_ | refine blockE_ret ?_)
      exact retQ.mk (vs := [.int .i64 _]) rfl ⟨rfl, trivial⟩ I.ext_of (by simp only [tup, checkRule]; rw [if_neg (by simp [h1]), if_neg (by omega), if_pos (by rw [bodyErr_at hk' hn h4]; exact h4), bodyErr_at hk' hn h4])
    refine WP.skip ?_
    refine WP.region ?_
    refine Ops.y (v := .int .i64 _) (Y.addi rfl rfl ⟨by omega, by omega⟩) ?_
    refine Ops.y (v := .int .i64 _) (Y.move rfl) ?_
    refine Ops.nil ?_
    exact ⟨k + 1, ⟨⟨rfl, rfl, rfl, rfl, rfl, trivial⟩, I.drop, by omega, fun j hj hj' => by
      rcases Nat.lt_succ_iff_lt_or_eq.1 hj with h' | h'
      · exact hn j h' hj'
      · subst h'; exact Decidable.not_not.1 h4⟩, by omega⟩
  have hb0 : bodyErr l.xs r.body.xs = 0 := bodyErr_ne.2 fun x hx => by obtain ⟨j, hj, rfl⟩ := List.getElem_of_mem hx; exact hn j (by omega) hj
  have hb3 : r.body.xs.length ≤ 3 := by omega
  have n1 := negs_le r.body.xs
  have n2 := poss_le r.body.xs
  clear hn hk h3
  refine WP.exit ?_
  refine WP.seq ?_
  refine WP.region ?_
  refine Ops.y (v := .agg #[_, _, _, _, _]) (Y.loadv ty_68 rfl (I.rdbox 0 rfl 0 5) rfl rfl) ?_
  refine Ops.go (O.callM I Tryz.call165 (Atoms_ok _ I.base_ok r hr.body hb3) rfl ?_)
  rintro _ h1' _ w I le1 ⟨u1, u2, rfl, rfl⟩
  try simp only [List.cons_append, List.nil_append] at I
  refine Ops.y (v := .tuple #[_, _]) (Y.move rfl) ?_
  refine Ops.y (v := u1) (Y.extract rfl rfl) ?_
  refine Ops.y (v := u2) (Y.extract rfl rfl) ?_
  refine Ops.y (v := u1) (Y.assign rfl) ?_
  refine Ops.y (v := u2) (Y.assign rfl) ?_
  refine Ops.nil ?_
  have If := I.front 1 rfl
  obtain ⟨h2', sI, le2, hv2, hx2, hs2, I2⟩ := If.settleSl (fun _ => rfl) rfl
  simp only [List.eraseIdx_cons_succ, List.eraseIdx_zero, List.tail_cons] at I2
  clear If
  subst hv2
  have I := I2
  have le12 := le1.trans le2
  have q1 : ∀ a ∈ sI.xs, a.In h2' := fun a ha => by
    rw [hx2] at ha
    obtain ⟨x, hx, _, rfl⟩ := mem_poss.1 ha
    exact (hr.body.each x hx).le le12
  refine WP.seq ?_
  refine WP.region ?_
  refine Ops.y (v := .slice _ _ _) (Y.move rfl) ?_
  refine Ops.go (O.callM I Tryz.call166 (Vars_ok _ I.base_ok sI ⟨hs2, by rw [hx2]; omega⟩ q1 (by rw [hx2]; omega)) rfl ?_)
  rintro _ h3' _ w I le3 ⟨bm, es, rfl, rfl, hc⟩
  try simp only [List.cons_append, List.nil_append] at I
  refine Ops.y (v := .map _) (Y.assign rfl) ?_
  refine Ops.nil ?_
  refine WP.seq ?_
  refine WP.seq ?_
  refine WP.region ?_
  refine Ops.y (v := u1) (Y.move rfl) ?_
  refine Ops.y (v := .pointer (some ⟨_, _, none⟩)) (Y.fa0 fa_68_0 rfl) ?_
  refine Ops.y (v := .agg #[_, _]) (Y.loadv ty_65 rfl (I.rdbox 2 rfl 0 2) rfl rfl) ?_
  refine Ops.go (O.mksl (xs := [r.head]) (enc := Atm.enc) I Tryz.underlying186 Tryz.sizeOf65 Tryz.zeroValue65 rfl (Nat.le_of_ble_eq_true rfl) rfl rfl (by decide) (fun _ => rfl) ?_)
  intro b50 h50 w I le50 sl50
  refine Ops.go (O.append I Tryz.underlying186 et_65 1 rfl rfl rfl (I.rd (sl50 0 _ rfl).2) rfl rfl (by decide) (by omega) (by omega) ?_)
  intro b51 c51 w I
  have If := I.front 1 rfl
  have e0 : (negs r.body.xs).flatMap Atm.enc ++ Atm.enc r.head = (negs r.body.xs ++ [r.head]).flatMap Atm.enc := by simp
  rw [e0] at If
  obtain ⟨h5, sN, le5, hv5, hx5, hs5, I⟩ := If.settleSl (fun _ => rfl) (by simp)
  have le25 : B.h.le h5 := le12.trans (le3.trans (le50.trans le5))
  have V := Vars_ok _ I.base_ok sN ⟨hs5, by rw [hx5, List.length_append, List.length_singleton]; omega⟩ (fun a ha => by rw [hx5] at ha; rcases List.mem_append.1 ha with ha | ha; (obtain ⟨x, hx, _, rfl⟩ := mem_negs.1 ha; exact (hr.body.each x hx).le le25); (rw [List.mem_singleton.1 ha]; exact hr.head.le le25)) (by rw [hx5, List.length_append, List.length_singleton]; omega)
  rw [hv5] at V
  refine Ops.go (O.callM I Tryz.call166 (V) rfl ?_)
  rintro _ h6 _ w I le6 ⟨bn, en, rfl, rfl, hcn⟩
  try simp only [List.cons_append, List.nil_append] at I
  obtain ⟨h7, ents, clock, le7, hm7, hi7, I⟩ := I.settleMap
  refine Ops.go (O.range I Tryz.underlying181 rfl hm7 ?_)
  intro b53 w I
  refine Ops.nil ?_
  have hle : B.h.le h7 := le25.trans (le6.trans le7)
  rw [hx5] at hcn
  rw [hx2] at hc
  refine WP.block ?_
  refine WP.loopE (σ := List Nat) (fun _ => [(0, l.val), (3, .pointer (some ⟨b3, 0, none⟩)), (11, .map (some bm)), (53, .pointer (some ⟨b53, 0, none⟩))]) (fun done w => Inv B h7 [mit b53 bn clock done, imap bm es, box b3 r.enc 68] w ∧ ∀ q ∈ ents, q.born ∈ done → ∀ v, q.key = .int .i64 v → cntA (poss r.body.xs) v ≠ 0) (fun done => (ents.filter fun q => decide (q.born ∉ done)).length)
    ⟨[], ⟨rfl, rfl, rfl, rfl, trivial⟩, I, fun q _ hq => by cases hq⟩ ?_
  rintro done e w ⟨I, hd⟩
  refine WP.seq ?_
  refine WP.region ?_
  refine Ops.go (O.next I 0 rfl rfl hm7 hi7 ?_ ?_)
  · intro hall
    refine Ops.y (v := .bool _) (Y.extract rfl rfl) ?_
    refine Ops.nil ?_
    refine WP.seq ?_
    refine WP.cond_f rfl ?_
    have hfr : (freeVar r 0 || freeVar r 1 || freeVar r 2) = false := free_none fun v hv => by
      have h8 := hcn v
      rw [if_neg hv] at h8
      obtain ⟨q, hq, hk⟩ := ents_has hi7 (ilook_some_mem h8)
      exact hd q hq (hall q hq) v hk
    clear hd hall
    have I := I.drop.drop
    refine WP.exit ?_
    refine WP.seq ?_
    refine WP.seq ?_
    by_cases o0 : r.src < -1
    · refine WP.region ?_
      refine Ops.y (v := .pointer (some ⟨_, _, none⟩)) (Y.fa fa_68_1 rfl) ?_
      refine Ops.y (v := .int .i64 _) (Y.loadv ty_3 rfl (I.rdbox 0 rfl 2 1) rfl rfl) ?_
      refine Ops.y (v := .bool true) (Y.dec_t (Y.lti rfl rfl) (o0)) ?_
      refine Ops.y (v := .bool _) (Y.move rfl) ?_
      refine Ops.gf rfl ?_
      refine Ops.gf rfl ?_
      refine Ops.gf rfl ?_
      refine Ops.gf rfl ?_
      refine Ops.gf rfl ?_
      refine Ops.gf rfl ?_
      refine Ops.y (v := .bool _) (Y.pick_t rfl rfl) ?_
      refine Ops.nil ?_
      refine WP.cond_t rfl ?_
      refine WP.seq ?_
      refine WP.region ?_
      refine Ops.y (v := .int .i64 _) (Y.assign rfl) ?_
      refine Ops.nil ?_
      refine WP.ret ?_
      repeat (first | refine thenE_ret ?_ | refine blockE_ret ?_)
      exact retQ.mk (vs := [.int .i64 _]) rfl ⟨rfl, trivial⟩ I.ext_of (by simp only [tup, checkRule]; rw [if_neg (by simp [h1]), if_neg (by omega), if_neg (by simp [hb0]), hfr, if_neg (by simp), if_pos (by omega)])
    by_cases o1 : (r.body.xs.length : Int) ≤ r.src
    · refine WP.region ?_
      refine Ops.y (v := .pointer (some ⟨_, _, none⟩)) (Y.fa fa_68_1 rfl) ?_
      refine Ops.y (v := .int .i64 _) (Y.loadv ty_3 rfl (I.rdbox 0 rfl 2 1) rfl rfl) ?_
      refine Ops.y (v := .bool false) (Y.dec_f (Y.lti rfl rfl) (o0)) ?_
      refine Ops.y (v := .bool _) (Y.move rfl) ?_
      refine Ops.ygt rfl (v := .pointer (some ⟨_, _, none⟩)) (Y.fa fa_68_1 rfl) ?_
      refine Ops.ygt rfl (v := .int .i64 _) (Y.loadv ty_3 rfl (I.rdbox 0 rfl 2 1) rfl rfl) ?_
      refine Ops.ygt rfl (v := .pointer (some ⟨_, _, none⟩)) (Y.fa fa_68_3 rfl) ?_
      refine Ops.ygt rfl (v := .slice _ _ _) (Y.loadv ty_66 rfl (I.rdbox 0 rfl 4 1) rfl rfl) ?_
      refine Ops.ygt rfl (v := .int .i64 _) (Y.lens Tryz.underlying66 rfl) ?_
      refine Ops.ygt rfl (v := .bool true) (Y.dec_t (Y.gei rfl rfl) (o1)) ?_
      refine Ops.y (v := .bool _) (Y.pick_f rfl rfl) ?_
      refine Ops.nil ?_
      refine WP.cond_t rfl ?_
      refine WP.seq ?_
      refine WP.region ?_
      refine Ops.y (v := .int .i64 _) (Y.assign rfl) ?_
      refine Ops.nil ?_
      refine WP.ret ?_
      repeat (first | refine thenE_ret ?_ | refine blockE_ret ?_)
      exact retQ.mk (vs := [.int .i64 _]) rfl ⟨rfl, trivial⟩ I.ext_of (by simp only [tup, checkRule]; rw [if_neg (by simp [h1]), if_neg (by omega), if_neg (by simp [hb0]), hfr, if_neg (by simp), if_pos (by omega)])
    refine WP.region ?_
    refine Ops.y (v := .pointer (some ⟨_, _, none⟩)) (Y.fa fa_68_1 rfl) ?_
    refine Ops.y (v := .int .i64 _) (Y.loadv ty_3 rfl (I.rdbox 0 rfl 2 1) rfl rfl) ?_
    refine Ops.y (v := .bool false) (Y.dec_f (Y.lti rfl rfl) (o0)) ?_
    refine Ops.y (v := .bool _) (Y.move rfl) ?_
    refine Ops.ygt rfl (v := .pointer (some ⟨_, _, none⟩)) (Y.fa fa_68_1 rfl) ?_
    refine Ops.ygt rfl (v := .int .i64 _) (Y.loadv ty_3 rfl (I.rdbox 0 rfl 2 1) rfl rfl) ?_
    refine Ops.ygt rfl (v := .pointer (some ⟨_, _, none⟩)) (Y.fa fa_68_3 rfl) ?_
    refine Ops.ygt rfl (v := .slice _ _ _) (Y.loadv ty_66 rfl (I.rdbox 0 rfl 4 1) rfl rfl) ?_
    refine Ops.ygt rfl (v := .int .i64 _) (Y.lens Tryz.underlying66 rfl) ?_
    refine Ops.ygt rfl (v := .bool false) (Y.dec_f (Y.gei rfl rfl) (o1)) ?_
    refine Ops.y (v := .bool _) (Y.pick_f rfl rfl) ?_
    refine Ops.nil ?_
    refine WP.cond_f rfl ?_
    have hle' := hle
    have EH := (hl.at (i := r.head.pred.toNat) (by omega)).le hle
    have eH := predOf_getE hh.1 hh.2
    refine WP.skip ?_
    refine WP.seq ?_
    refine WP.region ?_
    refine Ops.y (v := .slice _ _ _) (Y.move rfl) ?_
    refine Ops.y (v := .pointer (some ⟨_, _, none⟩)) (Y.fa0 fa_68_0 rfl) ?_
    refine Ops.y (v := .pointer (some ⟨_, _, none⟩)) (Y.fa0 fa_65_0 rfl) ?_
    refine Ops.y (v := .int .i64 _) (Y.loadv ty_3 rfl (I.rdbox 0 rfl 0 1) rfl rfl) ?_
    refine Ops.y (v := .pointer (some ⟨_, _, none⟩)) (Y.idxEl EH Tryz.underlying22 Tryz.sizeOf62 rfl rfl hh.1 rfl) ?_
    refine Ops.y (v := .pointer (some ⟨_, _, none⟩)) (Y.fa fa_62_2 rfl) ?_
    refine Ops.y (v := .int .i64 _) (Y.loadv ty_3 rfl (I.rd (EH.rd.part 2 1)) rfl rfl) ?_
    refine Ops.y (v := .int .i64 _) (Y.assign rfl) ?_
    refine Ops.nil ?_
    refine WP.seq ?_
    refine WP.block ?_
    refine WP.seq ?_
    refine WP.cutL (σ := Unit) (fun _ => [(0, l.val), (3, .pointer (some ⟨b3, 0, none⟩)), (13, .int .i64 (predOf l.xs r.head.pred).kind), (80, .bool (decide ((predOf l.xs r.head.pred).kind = 0 ∧ (r.src ≠ -1 ∨ r.n ≠ 0))))]) (fun _ w => Inv B h7 [box b3 r.enc 68] w) ?_ ?_
    · rw [eH]
      by_cases c1 : (l.xs[r.head.pred.toNat]'(by omega)).kind = 0
      · by_cases c2 : r.src ≠ -1
        · refine WP.region ?_
          refine Ops.y (v := .int .i64 _) (Y.move rfl) ?_
          refine Ops.y (v := .bool true) (Y.dec_t (Y.eqi rfl rfl) (c1)) ?_
          refine Ops.y (v := .bool _) (Y.move rfl) ?_
          refine Ops.ygt rfl (v := .pointer (some ⟨_, _, none⟩)) (Y.fa fa_68_1 rfl) ?_
          refine Ops.ygt rfl (v := .int .i64 _) (Y.loadv ty_3 rfl (I.rdbox 0 rfl 2 1) rfl rfl) ?_
          refine Ops.ygt rfl (v := .bool true) (Y.dec_t (Y.nei rfl rfl) (c2)) ?_
          refine Ops.ygt rfl (v := .bool _) (Y.move rfl) ?_
          refine Ops.gf rfl ?_
          refine Ops.gf rfl ?_
          refine Ops.gf rfl ?_
          refine Ops.ygt rfl (v := .bool _) (Y.pick_t rfl rfl) ?_
          refine Ops.y (v := .bool _) (Y.pick_t rfl rfl) ?_
          refine Ops.y (v := .bool _) (Y.assign rfl) ?_
          refine Ops.nil ?_
          exact ⟨(), ⟨rfl, rfl, rfl, bT ⟨c1, .inl c2⟩, trivial⟩, I⟩
        · by_cases c3 : r.n ≠ 0
          · refine WP.region ?_
            refine Ops.y (v := .int .i64 _) (Y.move rfl) ?_
            refine Ops.y (v := .bool true) (Y.dec_t (Y.eqi rfl rfl) (c1)) ?_
            refine Ops.y (v := .bool _) (Y.move rfl) ?_
            refine Ops.ygt rfl (v := .pointer (some ⟨_, _, none⟩)) (Y.fa fa_68_1 rfl) ?_
            refine Ops.ygt rfl (v := .int .i64 _) (Y.loadv ty_3 rfl (I.rdbox 0 rfl 2 1) rfl rfl) ?_
            refine Ops.ygt rfl (v := .bool false) (Y.dec_f (Y.nei rfl rfl) (c2)) ?_
            refine Ops.ygt rfl (v := .bool _) (Y.move rfl) ?_
            refine Ops.ygt rfl (v := .pointer (some ⟨_, _, none⟩)) (Y.fa fa_68_2 rfl) ?_
            refine Ops.ygt rfl (v := .int .i64 _) (Y.loadv ty_3 rfl (I.rdbox 0 rfl 3 1) rfl rfl) ?_
            refine Ops.ygt rfl (v := .bool true) (Y.dec_t (Y.nei rfl rfl) (c3)) ?_
            refine Ops.ygt rfl (v := .bool _) (Y.pick_f rfl rfl) ?_
            refine Ops.y (v := .bool _) (Y.pick_t rfl rfl) ?_
            refine Ops.y (v := .bool _) (Y.assign rfl) ?_
            refine Ops.nil ?_
            exact ⟨(), ⟨rfl, rfl, rfl, bT ⟨c1, .inr c3⟩, trivial⟩, I⟩
          · refine WP.region ?_
            refine Ops.y (v := .int .i64 _) (Y.move rfl) ?_
            refine Ops.y (v := .bool true) (Y.dec_t (Y.eqi rfl rfl) (c1)) ?_
            refine Ops.y (v := .bool _) (Y.move rfl) ?_
            refine Ops.ygt rfl (v := .pointer (some ⟨_, _, none⟩)) (Y.fa fa_68_1 rfl) ?_
            refine Ops.ygt rfl (v := .int .i64 _) (Y.loadv ty_3 rfl (I.rdbox 0 rfl 2 1) rfl rfl) ?_
            refine Ops.ygt rfl (v := .bool false) (Y.dec_f (Y.nei rfl rfl) (c2)) ?_
            refine Ops.ygt rfl (v := .bool _) (Y.move rfl) ?_
            refine Ops.ygt rfl (v := .pointer (some ⟨_, _, none⟩)) (Y.fa fa_68_2 rfl) ?_
            refine Ops.ygt rfl (v := .int .i64 _) (Y.loadv ty_3 rfl (I.rdbox 0 rfl 3 1) rfl rfl) ?_
            refine Ops.ygt rfl (v := .bool false) (Y.dec_f (Y.nei rfl rfl) (c3)) ?_
            refine Ops.ygt rfl (v := .bool _) (Y.pick_f rfl rfl) ?_
            refine Ops.y (v := .bool _) (Y.pick_t rfl rfl) ?_
            refine Ops.y (v := .bool _) (Y.assign rfl) ?_
            refine Ops.nil ?_
            exact ⟨(), ⟨rfl, rfl, rfl, bF (fun h => h.2.elim c2 c3), trivial⟩, I⟩
      · refine WP.region ?_
        refine Ops.y (v := .int .i64 _) (Y.move rfl) ?_
        refine Ops.y (v := .bool false) (Y.dec_f (Y.eqi rfl rfl) (c1)) ?_
        refine Ops.y (v := .bool _) (Y.move rfl) ?_
        refine Ops.gf rfl ?_
        refine Ops.gf rfl ?_
        refine Ops.gf rfl ?_
        refine Ops.gf rfl ?_
        refine Ops.gf rfl ?_
        refine Ops.gf rfl ?_
        refine Ops.gf rfl ?_
        refine Ops.gf rfl ?_
        refine Ops.y (v := .bool _) (Y.pick_f rfl rfl) ?_
        refine Ops.y (v := .bool _) (Y.assign rfl) ?_
        refine Ops.nil ?_
        exact ⟨(), ⟨rfl, rfl, rfl, bF (fun h => c1 h.1), trivial⟩, I⟩
    rintro _ e w I
    refine WP.cond_dec rfl (fun d1 => ?_) (fun d1 => ?_)
    · refine WP.seq ?_
      refine WP.region ?_
      refine Ops.y (v := .int .i64 _) (Y.assign rfl) ?_
      refine Ops.nil ?_
      refine WP.ret ?_
      repeat (first | refine thenE_ret ?_ | refine blockE_ret ?_)
      exact retQ.mk (vs := [.int .i64 _]) rfl ⟨rfl, trivial⟩ I.ext_of (by simp only [tup, checkRule]; rw [if_neg (by simp [h1]), if_neg (by omega), if_neg (by simp [hb0]), hfr, if_neg (by simp), if_neg (by omega), if_pos d1])
    refine WP.seq ?_
    refine WP.cutL (σ := Unit) (fun _ => [(3, .pointer (some ⟨b3, 0, none⟩)), (93, .bool (decide (0 ≤ r.src ∧ ((litOf r r.src).neg = true ∨ (predOf l.xs (litOf r r.src).atom.pred).kind ≠ (predOf l.xs r.head.pred).kind))))]) (fun _ w => Inv B h7 [box b3 r.enc 68] w) ?_ ?_
    · by_cases c1 : 0 ≤ r.src
      · have hs1 : r.src.toNat < r.body.xs.length := by omega
        have EB := (hr.body.is.at hs1).le hle
        rw [litOf_get c1 (by omega)]
        have hap := checkAtom_in (bodyErr_ne.1 hb0 _ (List.getElem_mem hs1))
        have EP := (hl.at (i := (r.body.xs[r.src.toNat]'hs1).atom.pred.toNat) (by omega)).le hle
        rw [predOf_getE hap.1 hap.2]
        by_cases c2 : (r.body.xs[r.src.toNat]'hs1).neg = true
        · refine WP.region ?_
          refine Ops.y (v := .pointer (some ⟨_, _, none⟩)) (Y.fa fa_68_1 rfl) ?_
          refine Ops.y (v := .int .i64 _) (Y.loadv ty_3 rfl (I.rdbox 0 rfl 2 1) rfl rfl) ?_
          refine Ops.y (v := .bool true) (Y.dec_t (Y.gei rfl rfl) (c1)) ?_
          refine Ops.y (v := .bool _) (Y.move rfl) ?_
          refine Ops.ygt rfl (v := .pointer (some ⟨_, _, none⟩)) (Y.fa fa_68_3 rfl) ?_
          refine Ops.ygt rfl (v := .slice _ _ _) (Y.loadv ty_66 rfl (I.rdbox 0 rfl 4 1) rfl rfl) ?_
          refine Ops.ygt rfl (v := .pointer (some ⟨_, _, none⟩)) (Y.fa fa_68_1 rfl) ?_
          refine Ops.ygt rfl (v := .int .i64 _) (Y.loadv ty_3 rfl (I.rdbox 0 rfl 2 1) rfl rfl) ?_
          refine Ops.ygt rfl (v := .pointer (some ⟨_, _, none⟩)) (Y.idxEl EB Tryz.underlying66 Tryz.sizeOf131 rfl rfl c1 rfl) ?_
          refine Ops.ygt rfl (v := .pointer (some ⟨_, _, none⟩)) (Y.fa0 fa_131_0 rfl) ?_
          refine Ops.ygt rfl (v := .bool true) (Y.b (Y.loadv ty_4 rfl (I.rd (EB.rd.part 0 1)) rfl rfl) (c2)) ?_
          refine Ops.ygt rfl (v := .bool _) (Y.move rfl) ?_
          refine Ops.gf rfl ?_
          refine Ops.gf rfl ?_
          refine Ops.gf rfl ?_
          refine Ops.gf rfl ?_
          refine Ops.gf rfl ?_
          refine Ops.gf rfl ?_
          refine Ops.gf rfl ?_
          refine Ops.gf rfl ?_
          refine Ops.gf rfl ?_
          refine Ops.gf rfl ?_
          refine Ops.gf rfl ?_
          refine Ops.gf rfl ?_
          refine Ops.gf rfl ?_
          refine Ops.gf rfl ?_
          refine Ops.ygt rfl (v := .bool _) (Y.pick_t rfl rfl) ?_
          refine Ops.y (v := .bool _) (Y.pick_t rfl rfl) ?_
          refine Ops.y (v := .bool _) (Y.assign rfl) ?_
          refine Ops.nil ?_
          exact ⟨(), ⟨rfl, bT ⟨c1, .inl c2⟩, trivial⟩, I⟩
        · by_cases c3 : (l.xs[(r.body.xs[r.src.toNat]'hs1).atom.pred.toNat]'(by omega)).kind ≠ (predOf l.xs r.head.pred).kind
          · refine WP.region ?_
            refine Ops.y (v := .pointer (some ⟨_, _, none⟩)) (Y.fa fa_68_1 rfl) ?_
            refine Ops.y (v := .int .i64 _) (Y.loadv ty_3 rfl (I.rdbox 0 rfl 2 1) rfl rfl) ?_
            refine Ops.y (v := .bool true) (Y.dec_t (Y.gei rfl rfl) (c1)) ?_
            refine Ops.y (v := .bool _) (Y.move rfl) ?_
            refine Ops.ygt rfl (v := .pointer (some ⟨_, _, none⟩)) (Y.fa fa_68_3 rfl) ?_
            refine Ops.ygt rfl (v := .slice _ _ _) (Y.loadv ty_66 rfl (I.rdbox 0 rfl 4 1) rfl rfl) ?_
            refine Ops.ygt rfl (v := .pointer (some ⟨_, _, none⟩)) (Y.fa fa_68_1 rfl) ?_
            refine Ops.ygt rfl (v := .int .i64 _) (Y.loadv ty_3 rfl (I.rdbox 0 rfl 2 1) rfl rfl) ?_
            refine Ops.ygt rfl (v := .pointer (some ⟨_, _, none⟩)) (Y.idxEl EB Tryz.underlying66 Tryz.sizeOf131 rfl rfl c1 rfl) ?_
            refine Ops.ygt rfl (v := .pointer (some ⟨_, _, none⟩)) (Y.fa0 fa_131_0 rfl) ?_
            refine Ops.ygt rfl (v := .bool false) (Y.b (Y.loadv ty_4 rfl (I.rd (EB.rd.part 0 1)) rfl rfl) ((by simpa using c2))) ?_
            refine Ops.ygt rfl (v := .bool _) (Y.move rfl) ?_
            refine Ops.ygt rfl (v := .slice _ _ _) (Y.move rfl) ?_
            refine Ops.ygt rfl (v := .pointer (some ⟨_, _, none⟩)) (Y.fa fa_68_3 rfl) ?_
            refine Ops.ygt rfl (v := .slice _ _ _) (Y.loadv ty_66 rfl (I.rdbox 0 rfl 4 1) rfl rfl) ?_
            refine Ops.ygt rfl (v := .pointer (some ⟨_, _, none⟩)) (Y.fa fa_68_1 rfl) ?_
            refine Ops.ygt rfl (v := .int .i64 _) (Y.loadv ty_3 rfl (I.rdbox 0 rfl 2 1) rfl rfl) ?_
            refine Ops.ygt rfl (v := .pointer (some ⟨_, _, none⟩)) (Y.idxEl EB Tryz.underlying66 Tryz.sizeOf131 rfl rfl c1 rfl) ?_
            refine Ops.ygt rfl (v := .pointer (some ⟨_, _, none⟩)) (Y.fa fa_131_1 rfl) ?_
            refine Ops.ygt rfl (v := .pointer (some ⟨_, _, none⟩)) (Y.fa0 fa_65_0 rfl) ?_
            refine Ops.ygt rfl (v := .int .i64 _) (Y.loadv ty_3 rfl (I.rd (EB.rd.part 1 1)) rfl rfl) ?_
            refine Ops.ygt rfl (v := .pointer (some ⟨_, _, none⟩)) (Y.idxEl EP Tryz.underlying22 Tryz.sizeOf62 rfl rfl hap.1 rfl) ?_
            refine Ops.ygt rfl (v := .pointer (some ⟨_, _, none⟩)) (Y.fa fa_62_2 rfl) ?_
            refine Ops.ygt rfl (v := .int .i64 _) (Y.loadv ty_3 rfl (I.rd (EP.rd.part 2 1)) rfl rfl) ?_
            refine Ops.ygt rfl (v := .int .i64 _) (Y.move rfl) ?_
            refine Ops.ygt rfl (v := .bool true) (Y.dec_t (Y.nei rfl rfl) (c3)) ?_
            refine Ops.ygt rfl (v := .bool _) (Y.pick_f rfl rfl) ?_
            refine Ops.y (v := .bool _) (Y.pick_t rfl rfl) ?_
            refine Ops.y (v := .bool _) (Y.assign rfl) ?_
            refine Ops.nil ?_
            exact ⟨(), ⟨rfl, bT ⟨c1, .inr c3⟩, trivial⟩, I⟩
          · refine WP.region ?_
            refine Ops.y (v := .pointer (some ⟨_, _, none⟩)) (Y.fa fa_68_1 rfl) ?_
            refine Ops.y (v := .int .i64 _) (Y.loadv ty_3 rfl (I.rdbox 0 rfl 2 1) rfl rfl) ?_
            refine Ops.y (v := .bool true) (Y.dec_t (Y.gei rfl rfl) (c1)) ?_
            refine Ops.y (v := .bool _) (Y.move rfl) ?_
            refine Ops.ygt rfl (v := .pointer (some ⟨_, _, none⟩)) (Y.fa fa_68_3 rfl) ?_
            refine Ops.ygt rfl (v := .slice _ _ _) (Y.loadv ty_66 rfl (I.rdbox 0 rfl 4 1) rfl rfl) ?_
            refine Ops.ygt rfl (v := .pointer (some ⟨_, _, none⟩)) (Y.fa fa_68_1 rfl) ?_
            refine Ops.ygt rfl (v := .int .i64 _) (Y.loadv ty_3 rfl (I.rdbox 0 rfl 2 1) rfl rfl) ?_
            refine Ops.ygt rfl (v := .pointer (some ⟨_, _, none⟩)) (Y.idxEl EB Tryz.underlying66 Tryz.sizeOf131 rfl rfl c1 rfl) ?_
            refine Ops.ygt rfl (v := .pointer (some ⟨_, _, none⟩)) (Y.fa0 fa_131_0 rfl) ?_
            refine Ops.ygt rfl (v := .bool false) (Y.b (Y.loadv ty_4 rfl (I.rd (EB.rd.part 0 1)) rfl rfl) ((by simpa using c2))) ?_
            refine Ops.ygt rfl (v := .bool _) (Y.move rfl) ?_
            refine Ops.ygt rfl (v := .slice _ _ _) (Y.move rfl) ?_
            refine Ops.ygt rfl (v := .pointer (some ⟨_, _, none⟩)) (Y.fa fa_68_3 rfl) ?_
            refine Ops.ygt rfl (v := .slice _ _ _) (Y.loadv ty_66 rfl (I.rdbox 0 rfl 4 1) rfl rfl) ?_
            refine Ops.ygt rfl (v := .pointer (some ⟨_, _, none⟩)) (Y.fa fa_68_1 rfl) ?_
            refine Ops.ygt rfl (v := .int .i64 _) (Y.loadv ty_3 rfl (I.rdbox 0 rfl 2 1) rfl rfl) ?_
            refine Ops.ygt rfl (v := .pointer (some ⟨_, _, none⟩)) (Y.idxEl EB Tryz.underlying66 Tryz.sizeOf131 rfl rfl c1 rfl) ?_
            refine Ops.ygt rfl (v := .pointer (some ⟨_, _, none⟩)) (Y.fa fa_131_1 rfl) ?_
            refine Ops.ygt rfl (v := .pointer (some ⟨_, _, none⟩)) (Y.fa0 fa_65_0 rfl) ?_
            refine Ops.ygt rfl (v := .int .i64 _) (Y.loadv ty_3 rfl (I.rd (EB.rd.part 1 1)) rfl rfl) ?_
            refine Ops.ygt rfl (v := .pointer (some ⟨_, _, none⟩)) (Y.idxEl EP Tryz.underlying22 Tryz.sizeOf62 rfl rfl hap.1 rfl) ?_
            refine Ops.ygt rfl (v := .pointer (some ⟨_, _, none⟩)) (Y.fa fa_62_2 rfl) ?_
            refine Ops.ygt rfl (v := .int .i64 _) (Y.loadv ty_3 rfl (I.rd (EP.rd.part 2 1)) rfl rfl) ?_
            refine Ops.ygt rfl (v := .int .i64 _) (Y.move rfl) ?_
            refine Ops.ygt rfl (v := .bool false) (Y.dec_f (Y.nei rfl rfl) (c3)) ?_
            refine Ops.ygt rfl (v := .bool _) (Y.pick_f rfl rfl) ?_
            refine Ops.y (v := .bool _) (Y.pick_t rfl rfl) ?_
            refine Ops.y (v := .bool _) (Y.assign rfl) ?_
            refine Ops.nil ?_
            exact ⟨(), ⟨rfl, bF (fun h => h.2.elim c2 c3), trivial⟩, I⟩
      · refine WP.region ?_
        refine Ops.y (v := .pointer (some ⟨_, _, none⟩)) (Y.fa fa_68_1 rfl) ?_
        refine Ops.y (v := .int .i64 _) (Y.loadv ty_3 rfl (I.rdbox 0 rfl 2 1) rfl rfl) ?_
        refine Ops.y (v := .bool false) (Y.dec_f (Y.gei rfl rfl) (c1)) ?_
        refine Ops.y (v := .bool _) (Y.move rfl) ?_
        refine Ops.gf rfl ?_
        refine Ops.gf rfl ?_
        refine Ops.gf rfl ?_
        refine Ops.gf rfl ?_
        refine Ops.gf rfl ?_
        refine Ops.gf rfl ?_
        refine Ops.gf rfl ?_
        refine Ops.gf rfl ?_
        refine Ops.gf rfl ?_
        refine Ops.gf rfl ?_
        refine Ops.gf rfl ?_
        refine Ops.gf rfl ?_
        refine Ops.gf rfl ?_
        refine Ops.gf rfl ?_
        refine Ops.gf rfl ?_
        refine Ops.gf rfl ?_
        refine Ops.gf rfl ?_
        refine Ops.gf rfl ?_
        refine Ops.gf rfl ?_
        refine Ops.gf rfl ?_
        refine Ops.gf rfl ?_
        refine Ops.gf rfl ?_
        refine Ops.gf rfl ?_
        refine Ops.y (v := .bool _) (Y.pick_f rfl rfl) ?_
        refine Ops.y (v := .bool _) (Y.assign rfl) ?_
        refine Ops.nil ?_
        exact ⟨(), ⟨rfl, bF (fun h => c1 h.1), trivial⟩, I⟩
    rintro _ e w I
    refine WP.cond_dec rfl (fun d2 => ?_) (fun d2 => ?_)
    · refine WP.seq ?_
      refine WP.region ?_
      refine Ops.y (v := .int .i64 _) (Y.assign rfl) ?_
      refine Ops.nil ?_
      refine WP.ret ?_
      repeat (first | refine thenE_ret ?_ | refine blockE_ret ?_)
      exact retQ.mk (vs := [.int .i64 _]) rfl ⟨rfl, trivial⟩ I.ext_of (by simp only [tup, checkRule]; rw [if_neg (by simp [h1]), if_neg (by omega), if_neg (by simp [hb0]), hfr, if_neg (by simp), if_neg (by omega), if_neg d1, if_pos d2])
    refine WP.seq ?_
    by_cases o0 : r.n < 0
    · refine WP.region ?_
      refine Ops.y (v := .pointer (some ⟨_, _, none⟩)) (Y.fa fa_68_2 rfl) ?_
      refine Ops.y (v := .int .i64 _) (Y.loadv ty_3 rfl (I.rdbox 0 rfl 3 1) rfl rfl) ?_
      refine Ops.y (v := .bool true) (Y.dec_t (Y.lti rfl rfl) (o0)) ?_
      refine Ops.y (v := .bool _) (Y.move rfl) ?_
      refine Ops.gf rfl ?_
      refine Ops.gf rfl ?_
      refine Ops.gf rfl ?_
      refine Ops.y (v := .bool _) (Y.pick_t rfl rfl) ?_
      refine Ops.y (v := .bool _) (Y.assign rfl) ?_
      refine Ops.nil ?_
      refine WP.cond_t rfl ?_
      refine WP.seq ?_
      refine WP.region ?_
      refine Ops.y (v := .int .i64 _) (Y.assign rfl) ?_
      refine Ops.nil ?_
      refine WP.ret ?_
      repeat (first | refine thenE_ret ?_ | refine blockE_ret ?_)
      exact retQ.mk (vs := [.int .i64 _]) rfl ⟨rfl, trivial⟩ I.ext_of (by simp only [tup, checkRule]; rw [if_neg (by simp [h1]), if_neg (by omega), if_neg (by simp [hb0]), hfr, if_neg (by simp), if_neg (by omega), if_neg d1, if_neg d2, if_pos (by omega)])
    by_cases o1 : 15 < r.n
    · refine WP.region ?_
      refine Ops.y (v := .pointer (some ⟨_, _, none⟩)) (Y.fa fa_68_2 rfl) ?_
      refine Ops.y (v := .int .i64 _) (Y.loadv ty_3 rfl (I.rdbox 0 rfl 3 1) rfl rfl) ?_
      refine Ops.y (v := .bool false) (Y.dec_f (Y.lti rfl rfl) (o0)) ?_
      refine Ops.y (v := .bool _) (Y.move rfl) ?_
      refine Ops.ygt rfl (v := .pointer (some ⟨_, _, none⟩)) (Y.fa fa_68_2 rfl) ?_
      refine Ops.ygt rfl (v := .int .i64 _) (Y.loadv ty_3 rfl (I.rdbox 0 rfl 3 1) rfl rfl) ?_
      refine Ops.ygt rfl (v := .bool true) (Y.dec_t (Y.gti rfl rfl) (o1)) ?_
      refine Ops.y (v := .bool _) (Y.pick_f rfl rfl) ?_
      refine Ops.y (v := .bool _) (Y.assign rfl) ?_
      refine Ops.nil ?_
      refine WP.cond_t rfl ?_
      refine WP.seq ?_
      refine WP.region ?_
      refine Ops.y (v := .int .i64 _) (Y.assign rfl) ?_
      refine Ops.nil ?_
      refine WP.ret ?_
      repeat (first | refine thenE_ret ?_ | refine blockE_ret ?_)
      exact retQ.mk (vs := [.int .i64 _]) rfl ⟨rfl, trivial⟩ I.ext_of (by simp only [tup, checkRule]; rw [if_neg (by simp [h1]), if_neg (by omega), if_neg (by simp [hb0]), hfr, if_neg (by simp), if_neg (by omega), if_neg d1, if_neg d2, if_pos (by omega)])
    refine WP.region ?_
    refine Ops.y (v := .pointer (some ⟨_, _, none⟩)) (Y.fa fa_68_2 rfl) ?_
    refine Ops.y (v := .int .i64 _) (Y.loadv ty_3 rfl (I.rdbox 0 rfl 3 1) rfl rfl) ?_
    refine Ops.y (v := .bool false) (Y.dec_f (Y.lti rfl rfl) (o0)) ?_
    refine Ops.y (v := .bool _) (Y.move rfl) ?_
    refine Ops.ygt rfl (v := .pointer (some ⟨_, _, none⟩)) (Y.fa fa_68_2 rfl) ?_
    refine Ops.ygt rfl (v := .int .i64 _) (Y.loadv ty_3 rfl (I.rdbox 0 rfl 3 1) rfl rfl) ?_
    refine Ops.ygt rfl (v := .bool false) (Y.dec_f (Y.gti rfl rfl) (o1)) ?_
    refine Ops.y (v := .bool _) (Y.pick_f rfl rfl) ?_
    refine Ops.y (v := .bool _) (Y.assign rfl) ?_
    refine Ops.nil ?_
    refine WP.cond_f rfl ?_
    refine WP.skip ?_
    refine WP.seq ?_
    refine WP.region ?_
    refine Ops.y (v := .int .i64 _) (Y.assign rfl) ?_
    refine Ops.nil ?_
    refine WP.ret ?_
    repeat (first | refine thenE_ret ?_ | refine blockE_ret ?_)
    exact retQ.mk (vs := [.int .i64 _]) rfl ⟨rfl, trivial⟩ I.ext_of (by simp only [tup, checkRule]; rw [if_neg (by simp [h1]), if_neg (by omega), if_neg (by simp [hb0]), hfr, if_neg (by simp), if_neg (by omega), if_neg d1, if_neg d2, if_neg (by omega)])
  · intro q w hq hnd I
    refine Ops.y (v := .bool _) (Y.extract rfl rfl) ?_
    refine Ops.nil ?_
    refine WP.seq ?_
    refine WP.cond_t rfl ?_
    obtain ⟨v, x, hvx, hkq, hvq⟩ := ents_of hi7 hq
    refine WP.skip ?_
    refine WP.block ?_
    refine WP.seq ?_
    refine WP.region ?_
    refine Ops.y (v := .tuple #[.int .i64 v, .int .i64 x]) (hkq ▸ hvq ▸ Y.entry I 0 rfl rfl hm7 hi7 hq) ?_
    refine Ops.y (v := .int .i64 _) (Y.extract rfl rfl) ?_
    refine Ops.y (v := .int .i64 _) (Y.assign rfl) ?_
    refine Ops.nil ?_
    refine WP.seq ?_
    refine WP.region ?_
    refine Ops.y (v := .map _) (Y.move rfl) ?_
    refine Ops.y (v := .int .i64 _) (Y.move rfl) ?_
    refine Ops.y (v := .int .i64 _) (Y.lookup I Tryz.underlying181 Tryz.underlying3 Tryz.zeroValue3 1 rfl rfl rfl) ?_
    refine Ops.y (v := .bool (decide _)) (Y.eqi rfl rfl) ?_
    refine Ops.nil ?_
    refine WP.cond_dec rfl (fun hz => ?_) (fun hz => ?_)
    · refine WP.seq ?_
      refine WP.region ?_
      refine Ops.y (v := .int .i64 _) (Y.assign rfl) ?_
      refine Ops.nil ?_
      have hz' : cntA (poss r.body.xs) v = 0 := by rw [hc.get v] at hz; omega
      have hnz : cntA (negs r.body.xs ++ [r.head]) v ≠ 0 := fun h0 => mem_ilook hvx (by rw [hcn v, if_pos h0])
      refine WP.ret ?_
      repeat (first | refine thenE_ret ?_ | refine blockE_ret ?_)
      exact retQ.mk (vs := [.int .i64 _]) rfl ⟨rfl, trivial⟩ I.ext_of (by simp only [tup, checkRule]; rw [if_neg (by simp [h1]), if_neg (by omega), if_neg (by simp [hb0]), if_pos (free_any (freeVar_iff.2 ⟨hnz, hz'⟩) h1 hb0)])
    refine WP.skip ?_
    refine ⟨done ++ [q.born], ⟨⟨rfl, rfl, rfl, rfl, trivial⟩, I, fun q' hq' hb' v' hv' => ?_⟩, filter_shorter hq (by simp) (by simpa using hnd) (fun y _ hy => by simp at hy ⊢; exact hy.1)⟩
    rcases List.mem_append.1 hb' with h8 | h8
    · exact hd q' hq' h8 v' hv'
    · have : q' = q := nodup_inj hi7.nodup hq' hq (List.mem_singleton.1 h8)
      subst this
      rw [hkq] at hv'
      cases hv'
      rw [hc.get v] at hz
      omega
end Go.TF
end
