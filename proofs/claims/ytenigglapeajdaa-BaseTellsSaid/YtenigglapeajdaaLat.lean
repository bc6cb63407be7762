/- The contracts of package lat and of the references beside it: each call returns what the plain functions compute. -/
import Derived.Test.YtenigglapeajdaaTab
import Derived.Test.YtenigglapeajdaaSpLat
namespace Go.TF
open Go Go.RowKit Go.Proofs
set_option maxRecDepth 10000

theorem orders1_ok (B : Base) (hB : B.ok) (a b : Int) (h : I64 (a + b)) : Fn Try.prog 96 [.int .i64 a, .int .i64 b] B (fun v _ => v = .int .i64 (min (a + b) 15)) := by
  obtain ⟨h1, h2⟩ := h
  refine Fn.of Try.func96 rfl Try.ntmps96 (by kernel_rfl) (by simp) ?_
  intro e
  have I := Inv.start hB
  refine WP.seq ?_
  refine WP.region ?_
  refine Ops.y (v := .int .i64 _) (Y.assign rfl) ?_
  refine Ops.nil ?_
  refine WP.seq ?_
  refine WP.region ?_
  refine Ops.y (v := .int .i64 _) (Y.move rfl) ?_
  refine Ops.y (v := .int .i64 _) (Y.move rfl) ?_
  refine Ops.y (v := .int .i64 _) (Y.addi rfl rfl ⟨by omega, by omega⟩) ?_
  refine Ops.y (v := .int .i64 _) (Y.min2 rfl rfl) ?_
  refine Ops.y (v := .int .i64 _) (Y.assign rfl) ?_
  refine Ops.nil ?_
  refine WP.ret ?_
  repeat (first | refine thenE_ret ?_ | refine blockE_ret ?_)
  exact retQ.mk (vs := [.int .i64 _]) rfl ⟨rfl, trivial⟩ I.ext_of (rfl)
theorem orders2_ok (B : Base) (hB : B.ok) (a b : Int) : Fn Try.prog 97 [.int .i64 a, .int .i64 b] B (fun v _ => v = .int .i64 (orI a b)) := by
  refine Fn.of Try.func97 rfl Try.ntmps97 (by kernel_rfl) (by simp) ?_
  intro e
  have I := Inv.start hB
  refine WP.seq ?_
  refine WP.region ?_
  refine Ops.y (v := .int .i64 _) (Y.assign rfl) ?_
  refine Ops.nil ?_
  refine WP.seq ?_
  refine WP.region ?_
  refine Ops.y (v := .int .i64 _) (Y.move rfl) ?_
  refine Ops.y (v := .int .i64 _) (Y.move rfl) ?_
  refine Ops.y (v := .int .i64 _) (Y.ori rfl rfl) ?_
  refine Ops.y (v := .int .i64 _) (Y.assign rfl) ?_
  refine Ops.nil ?_
  refine WP.ret ?_
  repeat (first | refine thenE_ret ?_ | refine blockE_ret ?_)
  exact retQ.mk (vs := [.int .i64 _]) rfl ⟨rfl, trivial⟩ I.ext_of (rfl)
theorem orders3_ok (B : Base) (hB : B.ok) (a b : Int) : Fn Try.prog 98 [.int .i64 a, .int .i64 b] B (fun v _ => v = .int .i64 0) := by
  refine Fn.of Try.func98 rfl Try.ntmps98 (by kernel_rfl) (by simp) ?_
  intro e
  have I := Inv.start hB
  refine WP.seq ?_
  refine WP.region ?_
  refine Ops.y (v := .int .i64 _) (Y.assign rfl) ?_
  refine Ops.nil ?_
  refine WP.seq ?_
  refine WP.region ?_
  refine Ops.y (v := .int .i64 _) (Y.assign rfl) ?_
  refine Ops.nil ?_
  refine WP.ret ?_
  repeat (first | refine thenE_ret ?_ | refine blockE_ret ?_)
  exact retQ.mk (vs := [.int .i64 _]) rfl ⟨rfl, trivial⟩ I.ext_of (rfl)
theorem orders4_ok (B : Base) (hB : B.ok) (a b : Int) : Fn Try.prog 99 [.int .i64 a, .int .i64 b] B (fun v _ => v = .int .i64 (max a b)) := by
  refine Fn.of Try.func99 rfl Try.ntmps99 (by kernel_rfl) (by simp) ?_
  intro e
  have I := Inv.start hB
  refine WP.seq ?_
  refine WP.region ?_
  refine Ops.y (v := .int .i64 _) (Y.assign rfl) ?_
  refine Ops.nil ?_
  refine WP.seq ?_
  refine WP.region ?_
  refine Ops.y (v := .int .i64 _) (Y.move rfl) ?_
  refine Ops.y (v := .int .i64 _) (Y.move rfl) ?_
  refine Ops.y (v := .int .i64 _) (Y.max2 rfl rfl) ?_
  refine Ops.y (v := .int .i64 _) (Y.assign rfl) ?_
  refine Ops.nil ?_
  refine WP.ret ?_
  repeat (first | refine thenE_ret ?_ | refine blockE_ret ?_)
  exact retQ.mk (vs := [.int .i64 _]) rfl ⟨rfl, trivial⟩ I.ext_of (rfl)
theorem orders5_ok (B : Base) (hB : B.ok) (a b : Int) : Fn Try.prog 100 [.int .i64 a, .int .i64 b] B (fun v _ => v = .int .i64 (min a b)) := by
  refine Fn.of Try.func100 rfl Try.ntmps100 (by kernel_rfl) (by simp) ?_
  intro e
  have I := Inv.start hB
  refine WP.seq ?_
  refine WP.region ?_
  refine Ops.y (v := .int .i64 _) (Y.assign rfl) ?_
  refine Ops.nil ?_
  refine WP.seq ?_
  refine WP.region ?_
  refine Ops.y (v := .int .i64 _) (Y.move rfl) ?_
  refine Ops.y (v := .int .i64 _) (Y.move rfl) ?_
  refine Ops.y (v := .int .i64 _) (Y.min2 rfl rfl) ?_
  refine Ops.y (v := .int .i64 _) (Y.assign rfl) ?_
  refine Ops.nil ?_
  refine WP.ret ?_
  repeat (first | refine thenE_ret ?_ | refine blockE_ret ?_)
  exact retQ.mk (vs := [.int .i64 _]) rfl ⟨rfl, trivial⟩ I.ext_of (rfl)
def fv (f : Nat) : Value := .func (.func f) #[] #[]
theorem orders_ok (B : Base) (hB : B.ok) : Fn Try.prog 89 [] B (fun v _ => v = .agg #[fv 98, fv 98, fv 99, fv 96, fv 100, fv 96, fv 97, fv 97]) := by
  refine Fn.of Try.func89 rfl Try.ntmps89 (by kernel_rfl) (by simp) ?_
  intro e
  have I := Inv.start hB
  refine WP.seq ?_
  refine WP.region ?_
  refine Ops.go (O.alloc I Try.zeroValue122 rfl ?_)
  intro b0 w I
  refine Ops.nil ?_
  refine WP.seq ?_
  refine WP.region ?_
  refine Ops.y (v := .func _ _ _) (Y.assign rfl) ?_
  refine Ops.nil ?_
  refine WP.seq ?_
  refine WP.region ?_
  refine Ops.y (v := .func _ _ _) (Y.assign rfl) ?_
  refine Ops.nil ?_
  refine WP.seq ?_
  refine WP.region ?_
  refine Ops.y (v := .func _ _ _) (Y.assign rfl) ?_
  refine Ops.nil ?_
  refine WP.seq ?_
  refine WP.region ?_
  refine Ops.y (v := .func _ _ _) (Y.move rfl) ?_
  refine Ops.y (v := .func _ _ _) (Y.move rfl) ?_
  refine Ops.y (v := .agg #[.func _ _ _, .func _ _ _]) (Y.build pl_121 Try.zeroValue121 rfl rfl) ?_
  refine Ops.y (v := .func _ _ _) (Y.move rfl) ?_
  refine Ops.y (v := .agg #[.func _ _ _, .func _ _ _]) (Y.build pl_121 Try.zeroValue121 rfl rfl) ?_
  refine Ops.y (v := .func _ _ _) (Y.move rfl) ?_
  refine Ops.y (v := .agg #[.func _ _ _, .func _ _ _]) (Y.build pl_121 Try.zeroValue121 rfl rfl) ?_
  refine Ops.y (v := .func _ _ _) (Y.move rfl) ?_
  refine Ops.y (v := .func _ _ _) (Y.move rfl) ?_
  refine Ops.y (v := .agg #[.func _ _ _, .func _ _ _]) (Y.build pl_121 Try.zeroValue121 rfl rfl) ?_
  refine Ops.y (v := .agg #[.func _ _ _, .func _ _ _, .func _ _ _, .func _ _ _, .func _ _ _, .func _ _ _, .func _ _ _, .func _ _ _]) (Y.builda Try.underlying122 Try.zeroValue122 Try.sizeOf121 rfl rfl) ?_
  refine Ops.go (O.store (v := .agg #[_, _, _, _, _, _, _, _]) I ty_122 0 rfl rfl rfl rfl rfl rfl (Nat.le_of_ble_eq_true rfl) rfl ?_)
  intro w I
  refine Ops.nil ?_
  refine WP.ret ?_
  repeat (first | refine thenE_ret ?_ | refine blockE_ret ?_)
  exact retQ.mk (vs := [.agg #[_, _, _, _, _, _, _, _]]) rfl ⟨⟨_, _, _, _, _, rfl, ty_122, I.rdbox 0 rfl 0 8, rfl, rfl⟩, trivial⟩ I.ext_of (rfl)
theorem within_ok (B : Base) (hB : B.ok) (n lo hi : Int) : Fn Try.prog 30 [.int .i64 n, .int .i64 lo, .int .i64 hi] B (fun v _ => v = .bool (decide (within n lo hi))) := by
  by_cases h1 : lo ≤ n
  · refine Fn.of Try.func30 rfl Try.ntmps30 (by kernel_rfl) (by simp) ?_
    intro e
    have I := Inv.start hB
    refine WP.seq ?_
    refine WP.region ?_
    refine Ops.y (v := .bool _) (Y.assign rfl) ?_
    refine Ops.nil ?_
    refine WP.seq ?_
    refine WP.region ?_
    refine Ops.y (v := .int .i64 _) (Y.move rfl) ?_
    refine Ops.y (v := .int .i64 _) (Y.move rfl) ?_
    refine Ops.y (v := .bool true) (Y.dec_t (Y.gei rfl rfl) (h1)) ?_
    refine Ops.y (v := .bool _) (Y.move rfl) ?_
    refine Ops.ygt rfl (v := .int .i64 _) (Y.move rfl) ?_
    refine Ops.ygt rfl (v := .int .i64 _) (Y.move rfl) ?_
    refine Ops.ygt rfl (v := .bool (decide _)) (Y.lei rfl rfl) ?_
    refine Ops.y (v := .bool _) (Y.pick_t rfl rfl) ?_
    refine Ops.y (v := .bool _) (Y.assign rfl) ?_
    refine Ops.nil ?_
    refine WP.ret ?_
    repeat (first | refine thenE_ret ?_ | refine blockE_ret ?_)
    exact retQ.mk (vs := [.bool _]) rfl ⟨rfl, trivial⟩ I.ext_of (by simp [tup, within, h1])
  · refine Fn.of Try.func30 rfl Try.ntmps30 (by kernel_rfl) (by simp) ?_
    intro e
    have I := Inv.start hB
    refine WP.seq ?_
    refine WP.region ?_
    refine Ops.y (v := .bool _) (Y.assign rfl) ?_
    refine Ops.nil ?_
    refine WP.seq ?_
    refine WP.region ?_
    refine Ops.y (v := .int .i64 _) (Y.move rfl) ?_
    refine Ops.y (v := .int .i64 _) (Y.move rfl) ?_
    refine Ops.y (v := .bool false) (Y.dec_f (Y.gei rfl rfl) (h1)) ?_
    refine Ops.y (v := .bool _) (Y.move rfl) ?_
    refine Ops.gf rfl ?_
    refine Ops.gf rfl ?_
    refine Ops.gf rfl ?_
    refine Ops.y (v := .bool _) (Y.pick_f rfl rfl) ?_
    refine Ops.y (v := .bool _) (Y.assign rfl) ?_
    refine Ops.nil ?_
    refine WP.ret ?_
    repeat (first | refine thenE_ret ?_ | refine blockE_ret ?_)
    exact retQ.mk (vs := [.bool _]) rfl ⟨rfl, trivial⟩ I.ext_of (by simp [tup, within, h1])
theorem Check_ok (B : Base) (hB : B.ok) (kind v : Int) : Fn Try.prog 68 [.int .i64 kind, .int .i64 v] B (fun r _ => r = .int .i64 (checkVal kind v)) := by
  refine Fn.of Try.func68 rfl Try.ntmps68 (by kernel_rfl) (by simp) ?_
  intro e
  have I := Inv.start hB
  refine WP.seq ?_
  refine WP.region ?_
  refine Ops.y (v := .int .i64 _) (Y.assign rfl) ?_
  refine Ops.nil ?_
  refine WP.seq ?_
  refine WP.region ?_
  refine Ops.y (v := .int .i64 _) (Y.assign rfl) ?_
  refine Ops.nil ?_
  refine WP.seq ?_
  refine WP.seq ?_
  refine WP.region ?_
  refine Ops.y (v := .int .i64 _) (Y.move rfl) ?_
  refine Ops.nil ?_
  refine WP.cutK (σ := Unit) (fun _ => [(1, .int .i64 v), (5, .int .i64 (if kind = 0 then 0 else 15))]) (fun _ w' => Inv B B.h [] w' ∧ 0 ≤ kind ∧ kind ≤ 3) ?_ ?_
  · refine WP.block ?_
    refine WP.seq ?_
    refine WP.region ?_
    refine Ops.y (v := .bool (decide _)) (Y.eqi rfl rfl) ?_
    refine Ops.y (v := .bool _) (Y.assign rfl) ?_
    refine Ops.nil ?_
    refine WP.cond_dec rfl (fun h0 => ?_) (fun h0 => ?_)
    · refine WP.region ?_
      refine Ops.y (v := .int .i64 _) (Y.assign rfl) ?_
      refine Ops.nil ?_
      exact ⟨(), ⟨rfl, by show Value.int .i64 0 = _; simp [h0], trivial⟩, I, by omega, by omega⟩
    have hz : (if kind = 0 then (0 : Int) else 15) = 15 := by simp [h0]
    refine WP.seq ?_
    refine WP.seq ?_
    refine WP.region ?_
    refine Ops.y (v := .bool (decide _)) (Y.eqi rfl rfl) ?_
    refine Ops.y (v := .bool _) (Y.assign rfl) ?_
    refine Ops.nil ?_
    refine WP.cond_dec rfl (fun h1 => ?_) (fun h1 => ?_)
    · refine WP.skip ?_
      refine WP.cond_decT rfl (h1) ?_
      refine WP.skip ?_
      exact ⟨(), ⟨rfl, by rw [hz]; rfl, trivial⟩, I, by omega, by omega⟩
    refine WP.seq ?_
    refine WP.region ?_
    refine Ops.y (v := .bool (decide _)) (Y.eqi rfl rfl) ?_
    refine Ops.y (v := .bool _) (Y.assign rfl) ?_
    refine Ops.nil ?_
    refine WP.cond_dec rfl (fun h2 => ?_) (fun h2 => ?_)
    · refine WP.skip ?_
      refine WP.cond_decT rfl (h2) ?_
      refine WP.skip ?_
      exact ⟨(), ⟨rfl, by rw [hz]; rfl, trivial⟩, I, by omega, by omega⟩
    refine WP.region ?_
    refine Ops.y (v := .bool (decide _)) (Y.eqi rfl rfl) ?_
    refine Ops.y (v := .bool _) (Y.assign rfl) ?_
    refine Ops.nil ?_
    refine WP.cond_dec rfl (fun h3 => ?_) (fun h3 => ?_)
    · refine WP.skip ?_
      exact ⟨(), ⟨rfl, by rw [hz]; rfl, trivial⟩, I, by omega, by omega⟩
    refine WP.seq ?_
    refine WP.region ?_
    refine Ops.y (v := .int .i64 _) (Y.assign rfl) ?_
    refine Ops.nil ?_
    refine WP.ret ?_
    repeat (first | refine thenE_ret ?_ | refine blockE_ret ?_)
    exact retQ.mk (vs := [.int .i64 _]) rfl ⟨rfl, trivial⟩ I.ext_of (by simp [tup, checkVal]; omega)
  rintro _ e w ⟨I, hk0, hk3⟩
  by_cases hv : v < 0
  · refine WP.seq ?_
    refine WP.seq ?_
    refine WP.region ?_
    refine Ops.y (v := .int .i64 _) (Y.move rfl) ?_
    refine Ops.y (v := .bool true) (Y.dec_t (Y.lti rfl rfl) (hv)) ?_
    refine Ops.y (v := .bool _) (Y.move rfl) ?_
    refine Ops.gf rfl ?_
    refine Ops.gf rfl ?_
    refine Ops.gf rfl ?_
    refine Ops.y (v := .bool _) (Y.pick_t rfl rfl) ?_
    refine Ops.nil ?_
    refine WP.cond_t rfl ?_
    refine WP.seq ?_
    refine WP.region ?_
    refine Ops.y (v := .int .i64 _) (Y.assign rfl) ?_
    refine Ops.nil ?_
    refine WP.ret ?_
    repeat (first | refine thenE_ret ?_ | refine blockE_ret ?_)
    exact retQ.mk (vs := [.int .i64 _]) rfl ⟨rfl, trivial⟩ I.ext_of (by simp [tup, checkVal]; omega)
  refine WP.seq ?_
  refine WP.seq ?_
  refine WP.region ?_
  refine Ops.y (v := .int .i64 _) (Y.move rfl) ?_
  refine Ops.y (v := .bool false) (Y.dec_f (Y.lti rfl rfl) (hv)) ?_
  refine Ops.y (v := .bool _) (Y.move rfl) ?_
  refine Ops.ygt rfl (v := .int .i64 _) (Y.move rfl) ?_
  refine Ops.ygt rfl (v := .int .i64 _) (Y.move rfl) ?_
  refine Ops.ygt rfl (v := .bool (decide _)) (Y.gti rfl rfl) ?_
  refine Ops.y (v := .bool _) (Y.pick_f rfl rfl) ?_
  refine Ops.nil ?_
  refine WP.cond_dec rfl (fun h2 => ?_) (fun h2 => ?_)
  · refine WP.seq ?_
    refine WP.region ?_
    refine Ops.y (v := .int .i64 _) (Y.assign rfl) ?_
    refine Ops.nil ?_
    refine WP.ret ?_
    repeat (first | refine thenE_ret ?_ | refine blockE_ret ?_)
    exact retQ.mk (vs := [.int .i64 _]) rfl ⟨rfl, trivial⟩ I.ext_of (by simp only [tup, checkVal]; split at h2 <;> simp <;> omega)
  refine WP.skip ?_
  refine WP.seq ?_
  refine WP.region ?_
  refine Ops.y (v := .int .i64 _) (Y.assign rfl) ?_
  refine Ops.nil ?_
  refine WP.ret ?_
  repeat (first | refine thenE_ret ?_ | refine blockE_ret ?_)
  exact retQ.mk (vs := [.int .i64 _]) rfl ⟨rfl, trivial⟩ I.ext_of (by simp only [tup, checkVal]; split at h2 <;> simp <;> omega)
theorem CheckVal_ok (B : Base) (hB : B.ok) (kind v : Int) : Fn Try.prog 65 [.int .i64 kind, .int .i64 v] B (fun r _ => r = .int .i64 (checkVal kind v)) := by
  refine Fn.of Try.func65 rfl Try.ntmps65 (by kernel_rfl) (by simp) ?_
  intro e
  have I := Inv.start hB
  refine WP.seq ?_
  refine WP.region ?_
  refine Ops.y (v := .int .i64 _) (Y.assign rfl) ?_
  refine Ops.nil ?_
  refine WP.seq ?_
  refine WP.seq ?_
  refine WP.region ?_
  refine Ops.y (v := .int .i64 _) (Y.move rfl) ?_
  refine Ops.go (O.callv I Try.call30 (within_ok _ I.base_ok _ _ _) rfl ?_)
  intro w I
  refine Ops.y (v := .bool (decide _)) (Y.notd rfl) ?_
  refine Ops.nil ?_
  refine WP.cond_dec rfl (fun h1 => ?_) (fun h1 => ?_)
  · refine WP.seq ?_
    refine WP.region ?_
    refine Ops.y (v := .int .i64 _) (Y.assign rfl) ?_
    refine Ops.nil ?_
    refine WP.ret ?_
    repeat (first | refine thenE_ret ?_ | refine blockE_ret ?_)
    exact retQ.mk (vs := [.int .i64 _]) rfl ⟨rfl, trivial⟩ I.ext_of (by simp only [tup, checkVal, within] at *; rw [if_pos (by omega)])
  simp only [within] at h1
  by_cases h2 : kind = 0
  · by_cases h3 : v = 0
    · refine WP.skip ?_
      refine WP.seq ?_
      refine WP.seq ?_
      refine WP.region ?_
      refine Ops.y (v := .int .i64 _) (Y.move rfl) ?_
      refine Ops.y (v := .bool true) (Y.dec_t (Y.eqi rfl rfl) (h2)) ?_
      refine Ops.y (v := .bool _) (Y.move rfl) ?_
      refine Ops.ygt rfl (v := .int .i64 _) (Y.move rfl) ?_
      refine Ops.ygt rfl (v := .bool false) (Y.dec_f (Y.nei rfl rfl) ((by simpa using h3))) ?_
      refine Ops.y (v := .bool _) (Y.pick_t rfl rfl) ?_
      refine Ops.y (v := .bool _) (Y.move rfl) ?_
      refine Ops.ygt rfl (v := .int .i64 _) (Y.move rfl) ?_
      refine Ops.gt rfl (O.callv I Try.call30 (within_ok _ I.base_ok _ _ _) rfl ?_)
      intro w I
      refine Ops.ygt rfl (v := .bool (decide _)) (Y.notd rfl) ?_
      refine Ops.y (v := .bool _) (Y.pick_f rfl rfl) ?_
      refine Ops.nil ?_
      refine WP.cond_dec rfl (fun h4 => ?_) (fun h4 => ?_)
      · refine WP.seq ?_
        refine WP.region ?_
        refine Ops.y (v := .int .i64 _) (Y.assign rfl) ?_
        refine Ops.nil ?_
        refine WP.ret ?_
        repeat (first | refine thenE_ret ?_ | refine blockE_ret ?_)
        exact retQ.mk (vs := [.int .i64 _]) rfl ⟨rfl, trivial⟩ I.ext_of (by simp only [tup, checkVal, within] at *; omega)
      refine WP.skip ?_
      refine WP.seq ?_
      refine WP.region ?_
      refine Ops.y (v := .int .i64 _) (Y.assign rfl) ?_
      refine Ops.nil ?_
      refine WP.ret ?_
      repeat (first | refine thenE_ret ?_ | refine blockE_ret ?_)
      exact retQ.mk (vs := [.int .i64 _]) rfl ⟨rfl, trivial⟩ I.ext_of (by simp only [tup, checkVal, within] at *; rw [if_neg (by omega), if_neg (by omega)])
    · refine WP.skip ?_
      refine WP.seq ?_
      refine WP.seq ?_
      refine WP.region ?_
      refine Ops.y (v := .int .i64 _) (Y.move rfl) ?_
      refine Ops.y (v := .bool true) (Y.dec_t (Y.eqi rfl rfl) (h2)) ?_
      refine Ops.y (v := .bool _) (Y.move rfl) ?_
      refine Ops.ygt rfl (v := .int .i64 _) (Y.move rfl) ?_
      refine Ops.ygt rfl (v := .bool true) (Y.dec_t (Y.nei rfl rfl) (h3)) ?_
      refine Ops.y (v := .bool _) (Y.pick_t rfl rfl) ?_
      refine Ops.y (v := .bool _) (Y.move rfl) ?_
      refine Ops.gf rfl ?_
      refine Ops.gf rfl ?_
      refine Ops.gf rfl ?_
      refine Ops.y (v := .bool _) (Y.pick_t rfl rfl) ?_
      refine Ops.nil ?_
      refine WP.cond_t rfl ?_
      refine WP.seq ?_
      refine WP.region ?_
      refine Ops.y (v := .int .i64 _) (Y.assign rfl) ?_
      refine Ops.nil ?_
      refine WP.ret ?_
      repeat (first | refine thenE_ret ?_ | refine blockE_ret ?_)
      exact retQ.mk (vs := [.int .i64 _]) rfl ⟨rfl, trivial⟩ I.ext_of (by simp only [tup, checkVal]; rw [if_neg (by omega), if_pos (by omega)])
  · refine WP.skip ?_
    refine WP.seq ?_
    refine WP.seq ?_
    refine WP.region ?_
    refine Ops.y (v := .int .i64 _) (Y.move rfl) ?_
    refine Ops.y (v := .bool false) (Y.dec_f (Y.eqi rfl rfl) (h2)) ?_
    refine Ops.y (v := .bool _) (Y.move rfl) ?_
    refine Ops.gf rfl ?_
    refine Ops.gf rfl ?_
    refine Ops.y (v := .bool _) (Y.pick_f rfl rfl) ?_
    refine Ops.y (v := .bool _) (Y.move rfl) ?_
    refine Ops.ygt rfl (v := .int .i64 _) (Y.move rfl) ?_
    refine Ops.gt rfl (O.callv I Try.call30 (within_ok _ I.base_ok _ _ _) rfl ?_)
    intro w I
    refine Ops.ygt rfl (v := .bool (decide _)) (Y.notd rfl) ?_
    refine Ops.y (v := .bool _) (Y.pick_f rfl rfl) ?_
    refine Ops.nil ?_
    refine WP.cond_dec rfl (fun h4 => ?_) (fun h4 => ?_)
    · refine WP.seq ?_
      refine WP.region ?_
      refine Ops.y (v := .int .i64 _) (Y.assign rfl) ?_
      refine Ops.nil ?_
      refine WP.ret ?_
      repeat (first | refine thenE_ret ?_ | refine blockE_ret ?_)
      exact retQ.mk (vs := [.int .i64 _]) rfl ⟨rfl, trivial⟩ I.ext_of (by simp only [tup, checkVal, within] at *; rw [if_neg (by omega), if_pos (by omega)])
    refine WP.skip ?_
    refine WP.seq ?_
    refine WP.region ?_
    refine Ops.y (v := .int .i64 _) (Y.assign rfl) ?_
    refine Ops.nil ?_
    refine WP.ret ?_
    repeat (first | refine thenE_ret ?_ | refine blockE_ret ?_)
    exact retQ.mk (vs := [.int .i64 _]) rfl ⟨rfl, trivial⟩ I.ext_of (by simp only [tup, checkVal, within] at *; rw [if_neg (by omega), if_neg (by omega)])
theorem joinR_ok (B : Base) (hB : B.ok) (kind a b : Int) : Fn Try.prog 76 [.int .i64 kind, .int .i64 a, .int .i64 b] B (fun r _ => r = .int .i64 (joinV kind a b)) := by
  by_cases h1 : kind = 1
  · by_cases h2 : b < a
    · refine Fn.of Try.func76 rfl Try.ntmps76 (by kernel_rfl) (by simp) ?_
      intro e
      have I := Inv.start hB
      refine WP.seq ?_
      refine WP.region ?_
      refine Ops.y (v := .int .i64 _) (Y.assign rfl) ?_
      refine Ops.nil ?_
      refine WP.seq ?_
      refine WP.block ?_
      refine WP.seq ?_
      refine WP.seq ?_
      refine WP.region ?_
      refine Ops.y (v := .int .i64 _) (Y.move rfl) ?_
      refine Ops.y (v := .bool true) (Y.dec_t (Y.eqi rfl rfl) (h1)) ?_
      refine Ops.y (v := .bool _) (Y.move rfl) ?_
      refine Ops.ygt rfl (v := .int .i64 _) (Y.move rfl) ?_
      refine Ops.ygt rfl (v := .int .i64 _) (Y.move rfl) ?_
      refine Ops.ygt rfl (v := .bool true) (Y.dec_t (Y.gti rfl rfl) (h2)) ?_
      refine Ops.y (v := .bool _) (Y.pick_t rfl rfl) ?_
      refine Ops.y (v := .bool _) (Y.assign rfl) ?_
      refine Ops.nil ?_
      refine WP.cond_t rfl ?_
      refine WP.skip ?_
      refine WP.cond_t rfl ?_
      refine WP.seq ?_
      refine WP.region ?_
      refine Ops.y (v := .int .i64 _) (Y.move rfl) ?_
      refine Ops.y (v := .int .i64 _) (Y.assign rfl) ?_
      refine Ops.nil ?_
      refine WP.ret ?_
      repeat (first | refine thenE_ret ?_ | refine blockE_ret ?_)
      exact retQ.mk (vs := [.int .i64 _]) rfl ⟨rfl, trivial⟩ I.ext_of (by simp only [tup, joinV, h1]; simp; omega)
    · refine Fn.of Try.func76 rfl Try.ntmps76 (by kernel_rfl) (by simp) ?_
      intro e
      have I := Inv.start hB
      refine WP.seq ?_
      refine WP.region ?_
      refine Ops.y (v := .int .i64 _) (Y.assign rfl) ?_
      refine Ops.nil ?_
      refine WP.seq ?_
      refine WP.block ?_
      refine WP.seq ?_
      refine WP.seq ?_
      refine WP.region ?_
      refine Ops.y (v := .int .i64 _) (Y.move rfl) ?_
      refine Ops.y (v := .bool true) (Y.dec_t (Y.eqi rfl rfl) (h1)) ?_
      refine Ops.y (v := .bool _) (Y.move rfl) ?_
      refine Ops.ygt rfl (v := .int .i64 _) (Y.move rfl) ?_
      refine Ops.ygt rfl (v := .int .i64 _) (Y.move rfl) ?_
      refine Ops.ygt rfl (v := .bool false) (Y.dec_f (Y.gti rfl rfl) (h2)) ?_
      refine Ops.y (v := .bool _) (Y.pick_t rfl rfl) ?_
      refine Ops.y (v := .bool _) (Y.assign rfl) ?_
      refine Ops.nil ?_
      refine WP.cond_f rfl ?_
      refine WP.region ?_
      refine Ops.y (v := .int .i64 _) (Y.move rfl) ?_
      refine Ops.y (v := .bool false) (Y.dec_f (Y.eqi rfl rfl) ((by omega))) ?_
      refine Ops.y (v := .bool _) (Y.move rfl) ?_
      refine Ops.gf rfl ?_
      refine Ops.gf rfl ?_
      refine Ops.gf rfl ?_
      refine Ops.y (v := .bool _) (Y.pick_f rfl rfl) ?_
      refine Ops.y (v := .bool _) (Y.assign rfl) ?_
      refine Ops.nil ?_
      refine WP.cond_f rfl ?_
      refine WP.seq ?_
      refine WP.seq ?_
      refine WP.region ?_
      refine Ops.y (v := .int .i64 _) (Y.move rfl) ?_
      refine Ops.y (v := .bool (decide _)) (Y.eqi rfl rfl) ?_
      refine Ops.y (v := .bool _) (Y.assign rfl) ?_
      refine Ops.nil ?_
      refine WP.cond_decT rfl (h1) ?_
      refine WP.skip ?_
      refine WP.cond_decT rfl (h1) ?_
      refine WP.seq ?_
      refine WP.region ?_
      refine Ops.y (v := .int .i64 _) (Y.move rfl) ?_
      refine Ops.y (v := .int .i64 _) (Y.assign rfl) ?_
      refine Ops.nil ?_
      refine WP.ret ?_
      repeat (first | refine thenE_ret ?_ | refine blockE_ret ?_)
      exact retQ.mk (vs := [.int .i64 _]) rfl ⟨rfl, trivial⟩ I.ext_of (by simp only [tup, joinV, h1]; simp; omega)
  · by_cases h2 : kind = 2
    · by_cases h3 : a < b
      · refine Fn.of Try.func76 rfl Try.ntmps76 (by kernel_rfl) (by simp) ?_
        intro e
        have I := Inv.start hB
        refine WP.seq ?_
        refine WP.region ?_
        refine Ops.y (v := .int .i64 _) (Y.assign rfl) ?_
        refine Ops.nil ?_
        refine WP.seq ?_
        refine WP.block ?_
        refine WP.seq ?_
        refine WP.seq ?_
        refine WP.region ?_
        refine Ops.y (v := .int .i64 _) (Y.move rfl) ?_
        refine Ops.y (v := .bool false) (Y.dec_f (Y.eqi rfl rfl) (h1)) ?_
        refine Ops.y (v := .bool _) (Y.move rfl) ?_
        refine Ops.gf rfl ?_
        refine Ops.gf rfl ?_
        refine Ops.gf rfl ?_
        refine Ops.y (v := .bool _) (Y.pick_f rfl rfl) ?_
        refine Ops.y (v := .bool _) (Y.assign rfl) ?_
        refine Ops.nil ?_
        refine WP.cond_f rfl ?_
        refine WP.region ?_
        refine Ops.y (v := .int .i64 _) (Y.move rfl) ?_
        refine Ops.y (v := .bool true) (Y.dec_t (Y.eqi rfl rfl) (h2)) ?_
        refine Ops.y (v := .bool _) (Y.move rfl) ?_
        refine Ops.ygt rfl (v := .int .i64 _) (Y.move rfl) ?_
        refine Ops.ygt rfl (v := .int .i64 _) (Y.move rfl) ?_
        refine Ops.ygt rfl (v := .bool true) (Y.dec_t (Y.lti rfl rfl) (h3)) ?_
        refine Ops.y (v := .bool _) (Y.pick_t rfl rfl) ?_
        refine Ops.y (v := .bool _) (Y.assign rfl) ?_
        refine Ops.nil ?_
        refine WP.cond_t rfl ?_
        refine WP.seq ?_
        refine WP.region ?_
        refine Ops.y (v := .int .i64 _) (Y.move rfl) ?_
        refine Ops.y (v := .int .i64 _) (Y.assign rfl) ?_
        refine Ops.nil ?_
        refine WP.ret ?_
        repeat (first | refine thenE_ret ?_ | refine blockE_ret ?_)
        exact retQ.mk (vs := [.int .i64 _]) rfl ⟨rfl, trivial⟩ I.ext_of (by simp only [tup, joinV, h2]; simp; omega)
      · refine Fn.of Try.func76 rfl Try.ntmps76 (by kernel_rfl) (by simp) ?_
        intro e
        have I := Inv.start hB
        refine WP.seq ?_
        refine WP.region ?_
        refine Ops.y (v := .int .i64 _) (Y.assign rfl) ?_
        refine Ops.nil ?_
        refine WP.seq ?_
        refine WP.block ?_
        refine WP.seq ?_
        refine WP.seq ?_
        refine WP.region ?_
        refine Ops.y (v := .int .i64 _) (Y.move rfl) ?_
        refine Ops.y (v := .bool false) (Y.dec_f (Y.eqi rfl rfl) (h1)) ?_
        refine Ops.y (v := .bool _) (Y.move rfl) ?_
        refine Ops.gf rfl ?_
        refine Ops.gf rfl ?_
        refine Ops.gf rfl ?_
        refine Ops.y (v := .bool _) (Y.pick_f rfl rfl) ?_
        refine Ops.y (v := .bool _) (Y.assign rfl) ?_
        refine Ops.nil ?_
        refine WP.cond_f rfl ?_
        refine WP.region ?_
        refine Ops.y (v := .int .i64 _) (Y.move rfl) ?_
        refine Ops.y (v := .bool true) (Y.dec_t (Y.eqi rfl rfl) (h2)) ?_
        refine Ops.y (v := .bool _) (Y.move rfl) ?_
        refine Ops.ygt rfl (v := .int .i64 _) (Y.move rfl) ?_
        refine Ops.ygt rfl (v := .int .i64 _) (Y.move rfl) ?_
        refine Ops.ygt rfl (v := .bool false) (Y.dec_f (Y.lti rfl rfl) (h3)) ?_
        refine Ops.y (v := .bool _) (Y.pick_t rfl rfl) ?_
        refine Ops.y (v := .bool _) (Y.assign rfl) ?_
        refine Ops.nil ?_
        refine WP.cond_f rfl ?_
        refine WP.seq ?_
        refine WP.seq ?_
        refine WP.region ?_
        refine Ops.y (v := .int .i64 _) (Y.move rfl) ?_
        refine Ops.y (v := .bool (decide _)) (Y.eqi rfl rfl) ?_
        refine Ops.y (v := .bool _) (Y.assign rfl) ?_
        refine Ops.nil ?_
        refine WP.cond_decF rfl (h1) ?_
        refine WP.region ?_
        refine Ops.y (v := .int .i64 _) (Y.move rfl) ?_
        refine Ops.y (v := .bool (decide _)) (Y.eqi rfl rfl) ?_
        refine Ops.y (v := .bool _) (Y.assign rfl) ?_
        refine Ops.nil ?_
        refine WP.cond_decT rfl (h2) ?_
        refine WP.seq ?_
        refine WP.region ?_
        refine Ops.y (v := .int .i64 _) (Y.move rfl) ?_
        refine Ops.y (v := .int .i64 _) (Y.assign rfl) ?_
        refine Ops.nil ?_
        refine WP.ret ?_
        repeat (first | refine thenE_ret ?_ | refine blockE_ret ?_)
        exact retQ.mk (vs := [.int .i64 _]) rfl ⟨rfl, trivial⟩ I.ext_of (by simp only [tup, joinV, h2]; simp; omega)
    · refine Fn.of Try.func76 rfl Try.ntmps76 (by kernel_rfl) (by simp) ?_
      intro e
      have I := Inv.start hB
      refine WP.seq ?_
      refine WP.region ?_
      refine Ops.y (v := .int .i64 _) (Y.assign rfl) ?_
      refine Ops.nil ?_
      refine WP.seq ?_
      refine WP.block ?_
      refine WP.seq ?_
      refine WP.seq ?_
      refine WP.region ?_
      refine Ops.y (v := .int .i64 _) (Y.move rfl) ?_
      refine Ops.y (v := .bool false) (Y.dec_f (Y.eqi rfl rfl) (h1)) ?_
      refine Ops.y (v := .bool _) (Y.move rfl) ?_
      refine Ops.gf rfl ?_
      refine Ops.gf rfl ?_
      refine Ops.gf rfl ?_
      refine Ops.y (v := .bool _) (Y.pick_f rfl rfl) ?_
      refine Ops.y (v := .bool _) (Y.assign rfl) ?_
      refine Ops.nil ?_
      refine WP.cond_f rfl ?_
      refine WP.region ?_
      refine Ops.y (v := .int .i64 _) (Y.move rfl) ?_
      refine Ops.y (v := .bool false) (Y.dec_f (Y.eqi rfl rfl) (h2)) ?_
      refine Ops.y (v := .bool _) (Y.move rfl) ?_
      refine Ops.gf rfl ?_
      refine Ops.gf rfl ?_
      refine Ops.gf rfl ?_
      refine Ops.y (v := .bool _) (Y.pick_f rfl rfl) ?_
      refine Ops.y (v := .bool _) (Y.assign rfl) ?_
      refine Ops.nil ?_
      refine WP.cond_f rfl ?_
      refine WP.seq ?_
      refine WP.seq ?_
      refine WP.region ?_
      refine Ops.y (v := .int .i64 _) (Y.move rfl) ?_
      refine Ops.y (v := .bool (decide _)) (Y.eqi rfl rfl) ?_
      refine Ops.y (v := .bool _) (Y.assign rfl) ?_
      refine Ops.nil ?_
      refine WP.cond_decF rfl (h1) ?_
      refine WP.region ?_
      refine Ops.y (v := .int .i64 _) (Y.move rfl) ?_
      refine Ops.y (v := .bool (decide _)) (Y.eqi rfl rfl) ?_
      refine Ops.y (v := .bool _) (Y.assign rfl) ?_
      refine Ops.nil ?_
      refine WP.cond_decF rfl (h2) ?_
      refine WP.seq ?_
      refine WP.region ?_
      refine Ops.y (v := .int .i64 _) (Y.move rfl) ?_
      refine Ops.y (v := .bool (decide _)) (Y.eqi rfl rfl) ?_
      refine Ops.y (v := .bool _) (Y.assign rfl) ?_
      refine Ops.nil ?_
      refine WP.cond_dec rfl (fun h3 => ?_) (fun h3 => ?_)
      · refine WP.seq ?_
        refine WP.region ?_
        refine Ops.y (v := .int .i64 _) (Y.move rfl) ?_
        refine Ops.y (v := .int .i64 _) (Y.move rfl) ?_
        refine Ops.y (v := .int .i64 _) (Y.ori rfl rfl) ?_
        refine Ops.y (v := .int .i64 _) (Y.assign rfl) ?_
        refine Ops.nil ?_
        refine WP.ret ?_
        repeat (first | refine thenE_ret ?_ | refine blockE_ret ?_)
        exact retQ.mk (vs := [.int .i64 _]) rfl ⟨rfl, trivial⟩ I.ext_of (by simp [tup, joinV, h3])
      refine WP.skip ?_
      refine WP.seq ?_
      refine WP.region ?_
      refine Ops.y (v := .int .i64 _) (Y.assign rfl) ?_
      refine Ops.nil ?_
      refine WP.ret ?_
      repeat (first | refine thenE_ret ?_ | refine blockE_ret ?_)
      exact retQ.mk (vs := [.int .i64 _]) rfl ⟨rfl, trivial⟩ I.ext_of (by simp [tup, joinV, h1, h2, h3])
theorem kinds4 {k : Int} (h : 0 ≤ k ∧ k ≤ 3) : k = 0 ∨ k = 1 ∨ k = 2 ∨ k = 3 := by omega
theorem Joined_ok (B : Base) (hB : B.ok) (kind a b : Int) (hk : 0 ≤ kind ∧ kind ≤ 3) : Fn Try.prog 73 [.int .i64 kind, .int .i64 a, .int .i64 b] B (fun r _ => r = .int .i64 (joinV kind a b)) := by
  refine Fn.of Try.func73 rfl Try.ntmps73 (by kernel_rfl) (by simp) ?_
  intro e
  have I := Inv.start hB
  refine WP.seq ?_
  refine WP.region ?_
  refine Ops.y (v := .int .i64 _) (Y.assign rfl) ?_
  refine Ops.nil ?_
  rcases kinds4 hk with rfl | rfl | rfl | rfl
  · refine WP.seq ?_
    refine WP.region ?_
    refine Ops.go (O.callv I Try.call89 (orders_ok _ I.base_ok) rfl ?_)
    intro w I
    refine Ops.y (v := .int .i64 _) (Y.move rfl) ?_
    refine Ops.y (v := .agg #[_, _]) (Y.idxvv Try.underlying122 ty_121 rfl rfl (by decide) (by decide) rfl rfl rfl) ?_
    refine Ops.y (v := .func _ _ _) (Y.field fd_121_0 ty_99 rfl rfl rfl rfl) ?_
    refine Ops.y (v := .int .i64 _) (Y.move rfl) ?_
    refine Ops.y (v := .int .i64 _) (Y.move rfl) ?_
    refine Ops.go (O.callc I Try.call98 rfl (orders3_ok _ I.base_ok _ _) rfl ?_)
    rintro _ h w I hle rfl
    refine Ops.y (v := .int .i64 _) (Y.assign rfl) ?_
    refine Ops.nil ?_
    refine WP.ret ?_
    repeat (first | refine thenE_ret ?_ | refine blockE_ret ?_)
    exact retQ.mk (vs := [.int .i64 _]) rfl ⟨rfl, trivial⟩ I.ext_of (rfl)
  · refine WP.seq ?_
    refine WP.region ?_
    refine Ops.go (O.callv I Try.call89 (orders_ok _ I.base_ok) rfl ?_)
    intro w I
    refine Ops.y (v := .int .i64 _) (Y.move rfl) ?_
    refine Ops.y (v := .agg #[_, _]) (Y.idxvv Try.underlying122 ty_121 rfl rfl (by decide) (by decide) rfl rfl rfl) ?_
    refine Ops.y (v := .func _ _ _) (Y.field fd_121_0 ty_99 rfl rfl rfl rfl) ?_
    refine Ops.y (v := .int .i64 _) (Y.move rfl) ?_
    refine Ops.y (v := .int .i64 _) (Y.move rfl) ?_
    refine Ops.go (O.callc I Try.call99 rfl (orders4_ok _ I.base_ok _ _) rfl ?_)
    rintro _ h w I hle rfl
    refine Ops.y (v := .int .i64 _) (Y.assign rfl) ?_
    refine Ops.nil ?_
    refine WP.ret ?_
    repeat (first | refine thenE_ret ?_ | refine blockE_ret ?_)
    exact retQ.mk (vs := [.int .i64 _]) rfl ⟨rfl, trivial⟩ I.ext_of (rfl)
  · refine WP.seq ?_
    refine WP.region ?_
    refine Ops.go (O.callv I Try.call89 (orders_ok _ I.base_ok) rfl ?_)
    intro w I
    refine Ops.y (v := .int .i64 _) (Y.move rfl) ?_
    refine Ops.y (v := .agg #[_, _]) (Y.idxvv Try.underlying122 ty_121 rfl rfl (by decide) (by decide) rfl rfl rfl) ?_
    refine Ops.y (v := .func _ _ _) (Y.field fd_121_0 ty_99 rfl rfl rfl rfl) ?_
    refine Ops.y (v := .int .i64 _) (Y.move rfl) ?_
    refine Ops.y (v := .int .i64 _) (Y.move rfl) ?_
    refine Ops.go (O.callc I Try.call100 rfl (orders5_ok _ I.base_ok _ _) rfl ?_)
    rintro _ h w I hle rfl
    refine Ops.y (v := .int .i64 _) (Y.assign rfl) ?_
    refine Ops.nil ?_
    refine WP.ret ?_
    repeat (first | refine thenE_ret ?_ | refine blockE_ret ?_)
    exact retQ.mk (vs := [.int .i64 _]) rfl ⟨rfl, trivial⟩ I.ext_of (rfl)
  · refine WP.seq ?_
    refine WP.region ?_
    refine Ops.go (O.callv I Try.call89 (orders_ok _ I.base_ok) rfl ?_)
    intro w I
    refine Ops.y (v := .int .i64 _) (Y.move rfl) ?_
    refine Ops.y (v := .agg #[_, _]) (Y.idxvv Try.underlying122 ty_121 rfl rfl (by decide) (by decide) rfl rfl rfl) ?_
    refine Ops.y (v := .func _ _ _) (Y.field fd_121_0 ty_99 rfl rfl rfl rfl) ?_
    refine Ops.y (v := .int .i64 _) (Y.move rfl) ?_
    refine Ops.y (v := .int .i64 _) (Y.move rfl) ?_
    refine Ops.go (O.callc I Try.call97 rfl (orders2_ok _ I.base_ok _ _) rfl ?_)
    rintro _ h w I hle rfl
    refine Ops.y (v := .int .i64 _) (Y.assign rfl) ?_
    refine Ops.nil ?_
    refine WP.ret ?_
    repeat (first | refine thenE_ret ?_ | refine blockE_ret ?_)
    exact retQ.mk (vs := [.int .i64 _]) rfl ⟨rfl, trivial⟩ I.ext_of (rfl)
