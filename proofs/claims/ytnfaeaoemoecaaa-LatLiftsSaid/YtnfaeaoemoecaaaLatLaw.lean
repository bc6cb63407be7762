/- The four laws of chapter 1: each returns true. -/
import Derived.Test.YtnfaeaoemoecaaaLat2
import Derived.Test.YtnfaeaoemoecaaaSpLat2
namespace Go.TF
open Go Go.RowKit Go.Proofs
set_option maxRecDepth 10000
theorem latBegun_ok (B : Base) (hB : B.ok) : Fn Try.prog 16 [] B (fun r _ => r = .bool true) := by
  refine Fn.of Try.func16 rfl Try.ntmps16 (by kernel_rfl) (by simp) ?_
  intro e
  have I := Inv.start hB
  refine WP.seq ?_
  refine WP.region ?_
  refine Ops.y (v := .bool _) (Y.assign rfl) ?_
  refine Ops.nil ?_
  refine WP.seq ?_
  refine WP.region ?_
  refine Ops.go (O.callv I Try.call14 (Join_ok _ I.base_ok 2 3 7) rfl ?_)
  intro w I
  refine Ops.y (v := .tuple #[_, _]) (Y.move rfl) ?_
  refine Ops.y (v := .int .i64 _) (Y.extract rfl rfl) ?_
  refine Ops.y (v := .int .i64 _) (Y.extract rfl rfl) ?_
  refine Ops.y (v := .int .i64 _) (Y.assign rfl) ?_
  refine Ops.y (v := .int .i64 _) (Y.assign rfl) ?_
  refine Ops.nil ?_
  refine WP.seq ?_
  refine WP.region ?_
  refine Ops.go (O.callv I Try.call19 (Lift_ok _ I.base_ok 1 9 9) rfl ?_)
  intro w I
  refine Ops.y (v := .tuple #[_, _]) (Y.move rfl) ?_
  refine Ops.y (v := .int .i64 _) (Y.extract rfl rfl) ?_
  refine Ops.y (v := .int .i64 _) (Y.extract rfl rfl) ?_
  refine Ops.y (v := .int .i64 _) (Y.assign rfl) ?_
  refine Ops.y (v := .int .i64 _) (Y.assign rfl) ?_
  refine Ops.nil ?_
  refine WP.seq ?_
  refine WP.region ?_
  refine Ops.go (O.callv I Try.call14 (Join_ok _ I.base_ok 3 5 3) rfl ?_)
  intro w I
  refine Ops.y (v := .tuple #[_, _]) (Y.move rfl) ?_
  refine Ops.y (v := .int .i64 _) (Y.extract rfl rfl) ?_
  refine Ops.y (v := .int .i64 _) (Y.extract rfl rfl) ?_
  refine Ops.y (v := .int .i64 _) (Y.assign rfl) ?_
  refine Ops.y (v := .int .i64 _) (Y.assign rfl) ?_
  refine Ops.nil ?_
  refine WP.seq ?_
  refine WP.region ?_
  refine Ops.go (O.callv I Try.call20 (Leq_ok _ I.base_ok 2 7 3) rfl ?_)
  intro w I
  refine Ops.y (v := .tuple #[_, _]) (Y.move rfl) ?_
  refine Ops.y (v := .bool _) (Y.extract rfl rfl) ?_
  refine Ops.y (v := .int .i64 _) (Y.extract rfl rfl) ?_
  refine Ops.y (v := .bool _) (Y.assign rfl) ?_
  refine Ops.y (v := .int .i64 _) (Y.assign rfl) ?_
  refine Ops.nil ?_
  refine WP.seq ?_
  refine WP.region ?_
  refine Ops.go (O.callv I Try.call14 (Join_ok _ I.base_ok 0 0 1) rfl ?_)
  intro w I
  refine Ops.y (v := .tuple #[_, _]) (Y.move rfl) ?_
  refine Ops.y (v := .int .i64 _) (Y.extract rfl rfl) ?_
  refine Ops.y (v := .int .i64 _) (Y.extract rfl rfl) ?_
  refine Ops.y (v := .int .i64 _) (Y.assign rfl) ?_
  refine Ops.y (v := .int .i64 _) (Y.assign rfl) ?_
  refine Ops.nil ?_
  refine WP.seq ?_
  refine WP.region ?_
  refine Ops.y (v := .int .i64 _) (Y.move rfl) ?_
  refine Ops.y (v := .bool true) (Y.dec_t (Y.eqi rfl rfl) ((by decide))) ?_
  refine Ops.y (v := .bool _) (Y.move rfl) ?_
  refine Ops.ygt rfl (v := .int .i64 _) (Y.move rfl) ?_
  refine Ops.ygt rfl (v := .bool true) (Y.dec_t (Y.eqi rfl rfl) ((by decide))) ?_
  refine Ops.y (v := .bool _) (Y.pick_t rfl rfl) ?_
  refine Ops.y (v := .bool _) (Y.move rfl) ?_
  refine Ops.ygt rfl (v := .int .i64 _) (Y.move rfl) ?_
  refine Ops.ygt rfl (v := .bool true) (Y.dec_t (Y.eqi rfl rfl) ((by decide))) ?_
  refine Ops.y (v := .bool _) (Y.pick_t rfl rfl) ?_
  refine Ops.y (v := .bool _) (Y.move rfl) ?_
  refine Ops.ygt rfl (v := .int .i64 _) (Y.move rfl) ?_
  refine Ops.ygt rfl (v := .bool true) (Y.dec_t (Y.eqi rfl rfl) ((by decide))) ?_
  refine Ops.y (v := .bool _) (Y.pick_t rfl rfl) ?_
  refine Ops.y (v := .bool _) (Y.move rfl) ?_
  refine Ops.ygt rfl (v := .int .i64 _) (Y.move rfl) ?_
  refine Ops.ygt rfl (v := .bool true) (Y.dec_t (Y.eqi rfl rfl) ((by decide))) ?_
  refine Ops.y (v := .bool _) (Y.pick_t rfl rfl) ?_
  refine Ops.y (v := .bool _) (Y.move rfl) ?_
  refine Ops.ygt rfl (v := .int .i64 _) (Y.move rfl) ?_
  refine Ops.ygt rfl (v := .bool true) (Y.dec_t (Y.eqi rfl rfl) ((by decide))) ?_
  refine Ops.y (v := .bool _) (Y.pick_t rfl rfl) ?_
  refine Ops.y (v := .bool _) (Y.move rfl) ?_
  refine Ops.ygt rfl (v := .int .i64 _) (Y.move rfl) ?_
  refine Ops.ygt rfl (v := .bool true) (Y.dec_t (Y.eqi rfl rfl) ((by decide))) ?_
  refine Ops.y (v := .bool _) (Y.pick_t rfl rfl) ?_
  refine Ops.y (v := .bool _) (Y.move rfl) ?_
  refine Ops.ygt rfl (v := .int .i64 _) (Y.move rfl) ?_
  refine Ops.ygt rfl (v := .bool true) (Y.dec_t (Y.eqi rfl rfl) ((by decide))) ?_
  refine Ops.y (v := .bool _) (Y.pick_t rfl rfl) ?_
  refine Ops.y (v := .bool _) (Y.move rfl) ?_
  refine Ops.ygt rfl (v := .bool _) (Y.move rfl) ?_
  refine Ops.y (v := .bool _) (Y.pick_t rfl rfl) ?_
  refine Ops.y (v := .bool _) (Y.move rfl) ?_
  refine Ops.gt rfl (O.callv I Try.call17 (Check_ok _ I.base_ok 4 0) rfl ?_)
  intro w I
  refine Ops.ygt rfl (v := .bool true) (Y.dec_t (Y.eqi rfl rfl) ((by decide))) ?_
  refine Ops.y (v := .bool _) (Y.pick_t rfl rfl) ?_
  refine Ops.y (v := .bool _) (Y.move rfl) ?_
  refine Ops.gt rfl (O.callv I Try.call17 (Check_ok _ I.base_ok 1 16) rfl ?_)
  intro w I
  refine Ops.ygt rfl (v := .bool true) (Y.dec_t (Y.eqi rfl rfl) ((by decide))) ?_
  refine Ops.y (v := .bool _) (Y.pick_t rfl rfl) ?_
  refine Ops.y (v := .bool _) (Y.assign rfl) ?_
  refine Ops.nil ?_
  refine WP.ret ?_
  repeat (first | refine thenE_ret ?_ | refine blockE_ret ?_)
  exact retQ.mk (vs := [.bool _]) rfl ⟨rfl, trivial⟩ I.ext_of (rfl)
theorem LatTells_ok (B : Base) (hB : B.ok) (kind a b : Int) : Fn Try.prog 3 [.int .i64 kind, .int .i64 a, .int .i64 b] B (fun r _ => r = .bool true) := by
  refine Fn.of Try.func3 rfl Try.ntmps3 (by kernel_rfl) (by simp) ?_
  intro e
  have I := Inv.start hB
  refine WP.seq ?_
  refine WP.region ?_
  refine Ops.y (v := .bool _) (Y.assign rfl) ?_
  refine Ops.nil ?_
  refine WP.seq ?_
  refine WP.region ?_
  refine Ops.y (v := .int .i64 _) (Y.move rfl) ?_
  refine Ops.y (v := .int .i64 _) (Y.move rfl) ?_
  refine Ops.y (v := .int .i64 _) (Y.move rfl) ?_
  refine Ops.go (O.callv I Try.call14 (Join_ok _ I.base_ok _ _ _) rfl ?_)
  intro w I
  refine Ops.y (v := .tuple #[_, _]) (Y.move rfl) ?_
  refine Ops.y (v := .int .i64 _) (Y.extract rfl rfl) ?_
  refine Ops.y (v := .int .i64 _) (Y.extract rfl rfl) ?_
  refine Ops.y (v := .int .i64 _) (Y.assign rfl) ?_
  refine Ops.y (v := .int .i64 _) (Y.assign rfl) ?_
  refine Ops.nil ?_
  refine WP.seq ?_
  refine WP.region ?_
  refine Ops.y (v := .int .i64 _) (Y.move rfl) ?_
  refine Ops.y (v := .int .i64 _) (Y.move rfl) ?_
  refine Ops.y (v := .int .i64 _) (Y.move rfl) ?_
  refine Ops.go (O.callv I Try.call15 (JoinOf_ok _ I.base_ok _ _ _) rfl ?_)
  intro w I
  refine Ops.y (v := .tuple #[_, _]) (Y.move rfl) ?_
  refine Ops.y (v := .int .i64 _) (Y.extract rfl rfl) ?_
  refine Ops.y (v := .int .i64 _) (Y.extract rfl rfl) ?_
  refine Ops.y (v := .int .i64 _) (Y.assign rfl) ?_
  refine Ops.y (v := .int .i64 _) (Y.assign rfl) ?_
  refine Ops.nil ?_
  refine WP.seq ?_
  refine WP.region ?_
  refine Ops.go (O.callv I Try.call16 (latBegun_ok _ I.base_ok) rfl ?_)
  intro w I
  refine Ops.y (v := .bool _) (Y.move rfl) ?_
  refine Ops.ygt rfl (v := .int .i64 _) (Y.move rfl) ?_
  refine Ops.ygt rfl (v := .int .i64 _) (Y.move rfl) ?_
  refine Ops.gt rfl (O.callv I Try.call17 (Check_ok _ I.base_ok _ _) rfl ?_)
  intro w I
  refine Ops.ygt rfl (v := .int .i64 _) (Y.move rfl) ?_
  refine Ops.ygt rfl (v := .int .i64 _) (Y.move rfl) ?_
  refine Ops.gt rfl (O.callv I Try.call18 (CheckVal_ok _ I.base_ok _ _) rfl ?_)
  intro w I
  refine Ops.ygt rfl (v := .bool true) (Y.dec_t (Y.eqi rfl rfl) (rfl)) ?_
  refine Ops.y (v := .bool _) (Y.pick_t rfl rfl) ?_
  refine Ops.y (v := .bool _) (Y.move rfl) ?_
  refine Ops.ygt rfl (v := .int .i64 _) (Y.move rfl) ?_
  refine Ops.ygt rfl (v := .int .i64 _) (Y.move rfl) ?_
  refine Ops.ygt rfl (v := .bool true) (Y.dec_t (Y.eqi rfl rfl) (rfl)) ?_
  refine Ops.y (v := .bool _) (Y.pick_t rfl rfl) ?_
  refine Ops.y (v := .bool _) (Y.move rfl) ?_
  refine Ops.ygt rfl (v := .int .i64 _) (Y.move rfl) ?_
  refine Ops.ygt rfl (v := .int .i64 _) (Y.move rfl) ?_
  refine Ops.ygt rfl (v := .bool true) (Y.dec_t (Y.eqi rfl rfl) (rfl)) ?_
  refine Ops.y (v := .bool _) (Y.pick_t rfl rfl) ?_
  refine Ops.y (v := .bool _) (Y.assign rfl) ?_
  refine Ops.nil ?_
  refine WP.ret ?_
  repeat (first | refine thenE_ret ?_ | refine blockE_ret ?_)
  exact retQ.mk (vs := [.bool _]) rfl ⟨rfl, trivial⟩ I.ext_of (rfl)
theorem LatLifts_ok (B : Base) (hB : B.ok) (kind a b : Int) : Fn Try.prog 4 [.int .i64 kind, .int .i64 a, .int .i64 b] B (fun r _ => r = .bool true) := by
  refine Fn.of Try.func4 rfl Try.ntmps4 (by kernel_rfl) (by simp) ?_
  intro e
  have I := Inv.start hB
  refine WP.seq ?_
  refine WP.region ?_
  refine Ops.y (v := .bool _) (Y.assign rfl) ?_
  refine Ops.nil ?_
  refine WP.seq ?_
  refine WP.region ?_
  refine Ops.y (v := .int .i64 _) (Y.move rfl) ?_
  refine Ops.y (v := .int .i64 _) (Y.move rfl) ?_
  refine Ops.y (v := .int .i64 _) (Y.move rfl) ?_
  refine Ops.go (O.callv I Try.call19 (Lift_ok _ I.base_ok _ _ _) rfl ?_)
  intro w I
  refine Ops.y (v := .tuple #[_, _]) (Y.move rfl) ?_
  refine Ops.y (v := .int .i64 _) (Y.extract rfl rfl) ?_
  refine Ops.y (v := .int .i64 _) (Y.extract rfl rfl) ?_
  refine Ops.y (v := .int .i64 _) (Y.assign rfl) ?_
  refine Ops.y (v := .int .i64 _) (Y.assign rfl) ?_
  refine Ops.nil ?_
  refine WP.seq ?_
  refine WP.region ?_
  refine Ops.y (v := .int .i64 _) (Y.move rfl) ?_
  refine Ops.y (v := .int .i64 _) (Y.move rfl) ?_
  refine Ops.y (v := .int .i64 _) (Y.move rfl) ?_
  refine Ops.go (O.callv I Try.call20 (Leq_ok _ I.base_ok _ _ _) rfl ?_)
  intro w I
  refine Ops.y (v := .tuple #[_, _]) (Y.move rfl) ?_
  refine Ops.y (v := .bool _) (Y.extract rfl rfl) ?_
  refine Ops.y (v := .int .i64 _) (Y.extract rfl rfl) ?_
  refine Ops.y (v := .bool _) (Y.assign rfl) ?_
  refine Ops.y (v := .int .i64 _) (Y.assign rfl) ?_
  refine Ops.nil ?_
  refine WP.seq ?_
  refine WP.region ?_
  refine Ops.y (v := .int .i64 _) (Y.move rfl) ?_
  refine Ops.y (v := .int .i64 _) (Y.move rfl) ?_
  refine Ops.y (v := .int .i64 _) (Y.move rfl) ?_
  refine Ops.go (O.callv I Try.call21 (LiftOf_ok _ I.base_ok _ _ _) rfl ?_)
  intro w I
  refine Ops.y (v := .tuple #[_, _]) (Y.move rfl) ?_
  refine Ops.y (v := .int .i64 _) (Y.extract rfl rfl) ?_
  refine Ops.y (v := .int .i64 _) (Y.extract rfl rfl) ?_
  refine Ops.y (v := .int .i64 _) (Y.assign rfl) ?_
  refine Ops.y (v := .int .i64 _) (Y.assign rfl) ?_
  refine Ops.nil ?_
  refine WP.seq ?_
  refine WP.region ?_
  refine Ops.y (v := .int .i64 _) (Y.move rfl) ?_
  refine Ops.y (v := .int .i64 _) (Y.move rfl) ?_
  refine Ops.y (v := .int .i64 _) (Y.move rfl) ?_
  refine Ops.go (O.callv I Try.call22 (LeqOf_ok _ I.base_ok _ _ _) rfl ?_)
  intro w I
  refine Ops.y (v := .tuple #[_, _]) (Y.move rfl) ?_
  refine Ops.y (v := .bool _) (Y.extract rfl rfl) ?_
  refine Ops.y (v := .int .i64 _) (Y.extract rfl rfl) ?_
  refine Ops.y (v := .bool _) (Y.assign rfl) ?_
  refine Ops.y (v := .int .i64 _) (Y.assign rfl) ?_
  refine Ops.nil ?_
  refine WP.seq ?_
  refine WP.region ?_
  refine Ops.go (O.callv I Try.call16 (latBegun_ok _ I.base_ok) rfl ?_)
  intro w I
  refine Ops.y (v := .bool _) (Y.move rfl) ?_
  refine Ops.ygt rfl (v := .int .i64 _) (Y.move rfl) ?_
  refine Ops.ygt rfl (v := .int .i64 _) (Y.move rfl) ?_
  refine Ops.ygt rfl (v := .bool true) (Y.dec_t (Y.eqi rfl rfl) (rfl)) ?_
  refine Ops.y (v := .bool _) (Y.pick_t rfl rfl) ?_
  refine Ops.y (v := .bool _) (Y.move rfl) ?_
  refine Ops.ygt rfl (v := .int .i64 _) (Y.move rfl) ?_
  refine Ops.ygt rfl (v := .int .i64 _) (Y.move rfl) ?_
  refine Ops.ygt rfl (v := .bool true) (Y.dec_t (Y.eqi rfl rfl) (rfl)) ?_
  refine Ops.y (v := .bool _) (Y.pick_t rfl rfl) ?_
  refine Ops.y (v := .bool _) (Y.move rfl) ?_
  refine Ops.ygt rfl (v := .bool _) (Y.move rfl) ?_
  refine Ops.ygt rfl (v := .bool _) (Y.move rfl) ?_
  refine Ops.ygt rfl (v := .bool true) (Y.dec_t (Y.eqb Try.underlying4 rfl rfl) (rfl)) ?_
  refine Ops.y (v := .bool _) (Y.pick_t rfl rfl) ?_
  refine Ops.y (v := .bool _) (Y.move rfl) ?_
  refine Ops.ygt rfl (v := .int .i64 _) (Y.move rfl) ?_
  refine Ops.ygt rfl (v := .int .i64 _) (Y.move rfl) ?_
  refine Ops.ygt rfl (v := .bool true) (Y.dec_t (Y.eqi rfl rfl) (rfl)) ?_
  refine Ops.y (v := .bool _) (Y.pick_t rfl rfl) ?_
  refine Ops.y (v := .bool _) (Y.assign rfl) ?_
  refine Ops.nil ?_
  refine WP.ret ?_
  repeat (first | refine thenE_ret ?_ | refine blockE_ret ?_)
  exact retQ.mk (vs := [.bool _]) rfl ⟨rfl, trivial⟩ I.ext_of (rfl)
set_option maxHeartbeats 2000000 in
theorem LatTrue_ok (B : Base) (hB : B.ok) (kind a b c n : Int) : Fn Try.prog 5 [.int .i64 kind, .int .i64 a, .int .i64 b, .int .i64 c, .int .i64 n] B (fun r _ => r = .bool true) := by
  refine Fn.of Try.func5 rfl Try.ntmps5 (by kernel_rfl) (by simp) ?_
  intro e
  have I := Inv.start hB
  refine WP.seq ?_
  refine WP.region ?_
  refine Ops.y (v := .bool _) (Y.assign rfl) ?_
  refine Ops.nil ?_
  refine WP.seq ?_
  refine WP.region ?_
  refine Ops.y (v := .int .i64 _) (Y.move rfl) ?_
  refine Ops.y (v := .int .i64 _) (Y.move rfl) ?_
  refine Ops.y (v := .int .i64 _) (Y.move rfl) ?_
  refine Ops.go (O.callv I Try.call14 (Join_ok _ I.base_ok _ _ _) rfl ?_)
  intro w I
  refine Ops.y (v := .tuple #[_, _]) (Y.move rfl) ?_
  refine Ops.y (v := .int .i64 _) (Y.extract rfl rfl) ?_
  refine Ops.y (v := .int .i64 _) (Y.extract rfl rfl) ?_
  refine Ops.y (v := .int .i64 _) (Y.assign rfl) ?_
  refine Ops.y (v := .int .i64 _) (Y.assign rfl) ?_
  refine Ops.nil ?_
  refine WP.seq ?_
  refine WP.region ?_
  refine Ops.y (v := .int .i64 _) (Y.move rfl) ?_
  refine Ops.y (v := .int .i64 _) (Y.move rfl) ?_
  refine Ops.y (v := .int .i64 _) (Y.move rfl) ?_
  refine Ops.go (O.callv I Try.call14 (Join_ok _ I.base_ok _ _ _) rfl ?_)
  intro w I
  refine Ops.y (v := .tuple #[_, _]) (Y.move rfl) ?_
  refine Ops.y (v := .int .i64 _) (Y.extract rfl rfl) ?_
  refine Ops.y (v := .int .i64 _) (Y.extract rfl rfl) ?_
  refine Ops.y (v := .int .i64 _) (Y.assign rfl) ?_
  refine Ops.y (v := .int .i64 _) (Y.assign rfl) ?_
  refine Ops.nil ?_
  refine WP.seq ?_
  refine WP.region ?_
  refine Ops.y (v := .int .i64 _) (Y.move rfl) ?_
  refine Ops.y (v := .int .i64 _) (Y.move rfl) ?_
  refine Ops.y (v := .int .i64 _) (Y.move rfl) ?_
  refine Ops.go (O.callv I Try.call14 (Join_ok _ I.base_ok _ _ _) rfl ?_)
  intro w I
  refine Ops.y (v := .tuple #[_, _]) (Y.move rfl) ?_
  refine Ops.y (v := .int .i64 _) (Y.extract rfl rfl) ?_
  refine Ops.y (v := .int .i64 _) (Y.extract rfl rfl) ?_
  refine Ops.y (v := .int .i64 _) (Y.assign rfl) ?_
  refine Ops.y (v := .int .i64 _) (Y.assign rfl) ?_
  refine Ops.nil ?_
  refine WP.seq ?_
  refine WP.region ?_
  refine Ops.y (v := .int .i64 _) (Y.move rfl) ?_
  refine Ops.y (v := .int .i64 _) (Y.move rfl) ?_
  refine Ops.y (v := .int .i64 _) (Y.move rfl) ?_
  refine Ops.go (O.callv I Try.call19 (Lift_ok _ I.base_ok _ _ _) rfl ?_)
  intro w I
  refine Ops.y (v := .tuple #[_, _]) (Y.move rfl) ?_
  refine Ops.y (v := .int .i64 _) (Y.extract rfl rfl) ?_
  refine Ops.y (v := .int .i64 _) (Y.extract rfl rfl) ?_
  refine Ops.y (v := .int .i64 _) (Y.assign rfl) ?_
  refine Ops.y (v := .int .i64 _) (Y.assign rfl) ?_
  refine Ops.nil ?_
  refine WP.seq ?_
  refine WP.region ?_
  refine Ops.y (v := .int .i64 _) (Y.move rfl) ?_
  refine Ops.y (v := .int .i64 _) (Y.move rfl) ?_
  refine Ops.y (v := .int .i64 _) (Y.move rfl) ?_
  refine Ops.go (O.callv I Try.call19 (Lift_ok _ I.base_ok _ _ _) rfl ?_)
  intro w I
  refine Ops.y (v := .tuple #[_, _]) (Y.move rfl) ?_
  refine Ops.y (v := .int .i64 _) (Y.extract rfl rfl) ?_
  refine Ops.y (v := .int .i64 _) (Y.extract rfl rfl) ?_
  refine Ops.y (v := .int .i64 _) (Y.assign rfl) ?_
  refine Ops.y (v := .int .i64 _) (Y.assign rfl) ?_
  refine Ops.nil ?_
  refine WP.seq ?_
  refine WP.seq ?_
  by_cases o0 : (joinOf kind a b).2 ≠ 0
  · refine WP.region ?_
    refine Ops.y (v := .int .i64 _) (Y.move rfl) ?_
    refine Ops.y (v := .bool true) (Y.dec_t (Y.nei rfl rfl) (o0)) ?_
    refine Ops.y (v := .bool _) (Y.move rfl) ?_
    refine Ops.gf rfl ?_
    refine Ops.gf rfl ?_
    refine Ops.y (v := .bool _) (Y.pick_t rfl rfl) ?_
    refine Ops.y (v := .bool _) (Y.move rfl) ?_
    refine Ops.gf rfl ?_
    refine Ops.gf rfl ?_
    refine Ops.y (v := .bool _) (Y.pick_t rfl rfl) ?_
    refine Ops.y (v := .bool _) (Y.move rfl) ?_
    refine Ops.gf rfl ?_
    refine Ops.gf rfl ?_
    refine Ops.y (v := .bool _) (Y.pick_t rfl rfl) ?_
    refine Ops.y (v := .bool _) (Y.move rfl) ?_
    refine Ops.gf rfl ?_
    refine Ops.gf rfl ?_
    refine Ops.y (v := .bool _) (Y.pick_t rfl rfl) ?_
    refine Ops.nil ?_
    refine WP.cond_t rfl ?_
    refine WP.seq ?_
    refine WP.region ?_
    refine Ops.go (O.callv I Try.call16 (latBegun_ok _ I.base_ok) rfl ?_)
    intro w I
    refine Ops.y (v := .bool _) (Y.assign rfl) ?_
    refine Ops.nil ?_
    refine WP.ret ?_
    repeat (first | refine thenE_ret ?_ | refine blockE_ret ?_)
    exact retQ.mk (vs := [.bool _]) rfl ⟨rfl, trivial⟩ I.ext_of (rfl)
  by_cases o1 : (joinOf kind b a).2 ≠ 0
  · refine WP.region ?_
    refine Ops.y (v := .int .i64 _) (Y.move rfl) ?_
    refine Ops.y (v := .bool false) (Y.dec_f (Y.nei rfl rfl) (o0)) ?_
    refine Ops.y (v := .bool _) (Y.move rfl) ?_
    refine Ops.ygt rfl (v := .int .i64 _) (Y.move rfl) ?_
    refine Ops.ygt rfl (v := .bool true) (Y.dec_t (Y.nei rfl rfl) (o1)) ?_
    refine Ops.y (v := .bool _) (Y.pick_f rfl rfl) ?_
    refine Ops.y (v := .bool _) (Y.move rfl) ?_
    refine Ops.gf rfl ?_
    refine Ops.gf rfl ?_
    refine Ops.y (v := .bool _) (Y.pick_t rfl rfl) ?_
    refine Ops.y (v := .bool _) (Y.move rfl) ?_
    refine Ops.gf rfl ?_
    refine Ops.gf rfl ?_
    refine Ops.y (v := .bool _) (Y.pick_t rfl rfl) ?_
    refine Ops.y (v := .bool _) (Y.move rfl) ?_
    refine Ops.gf rfl ?_
    refine Ops.gf rfl ?_
    refine Ops.y (v := .bool _) (Y.pick_t rfl rfl) ?_
    refine Ops.nil ?_
    refine WP.cond_t rfl ?_
    refine WP.seq ?_
    refine WP.region ?_
    refine Ops.go (O.callv I Try.call16 (latBegun_ok _ I.base_ok) rfl ?_)
    intro w I
    refine Ops.y (v := .bool _) (Y.assign rfl) ?_
    refine Ops.nil ?_
    refine WP.ret ?_
    repeat (first | refine thenE_ret ?_ | refine blockE_ret ?_)
    exact retQ.mk (vs := [.bool _]) rfl ⟨rfl, trivial⟩ I.ext_of (rfl)
  by_cases o2 : (joinOf kind b c).2 ≠ 0
  · refine WP.region ?_
    refine Ops.y (v := .int .i64 _) (Y.move rfl) ?_
    refine Ops.y (v := .bool false) (Y.dec_f (Y.nei rfl rfl) (o0)) ?_
    refine Ops.y (v := .bool _) (Y.move rfl) ?_
    refine Ops.ygt rfl (v := .int .i64 _) (Y.move rfl) ?_
    refine Ops.ygt rfl (v := .bool false) (Y.dec_f (Y.nei rfl rfl) (o1)) ?_
    refine Ops.y (v := .bool _) (Y.pick_f rfl rfl) ?_
    refine Ops.y (v := .bool _) (Y.move rfl) ?_
    refine Ops.ygt rfl (v := .int .i64 _) (Y.move rfl) ?_
    refine Ops.ygt rfl (v := .bool true) (Y.dec_t (Y.nei rfl rfl) (o2)) ?_
    refine Ops.y (v := .bool _) (Y.pick_f rfl rfl) ?_
    refine Ops.y (v := .bool _) (Y.move rfl) ?_
    refine Ops.gf rfl ?_
    refine Ops.gf rfl ?_
    refine Ops.y (v := .bool _) (Y.pick_t rfl rfl) ?_
    refine Ops.y (v := .bool _) (Y.move rfl) ?_
    refine Ops.gf rfl ?_
    refine Ops.gf rfl ?_
    refine Ops.y (v := .bool _) (Y.pick_t rfl rfl) ?_
    refine Ops.nil ?_
    refine WP.cond_t rfl ?_
    refine WP.seq ?_
    refine WP.region ?_
    refine Ops.go (O.callv I Try.call16 (latBegun_ok _ I.base_ok) rfl ?_)
    intro w I
    refine Ops.y (v := .bool _) (Y.assign rfl) ?_
    refine Ops.nil ?_
    refine WP.ret ?_
    repeat (first | refine thenE_ret ?_ | refine blockE_ret ?_)
    exact retQ.mk (vs := [.bool _]) rfl ⟨rfl, trivial⟩ I.ext_of (rfl)
  by_cases o3 : (liftOf kind a n).2 ≠ 0
  · refine WP.region ?_
    refine Ops.y (v := .int .i64 _) (Y.move rfl) ?_
    refine Ops.y (v := .bool false) (Y.dec_f (Y.nei rfl rfl) (o0)) ?_
    refine Ops.y (v := .bool _) (Y.move rfl) ?_
    refine Ops.ygt rfl (v := .int .i64 _) (Y.move rfl) ?_
    refine Ops.ygt rfl (v := .bool false) (Y.dec_f (Y.nei rfl rfl) (o1)) ?_
    refine Ops.y (v := .bool _) (Y.pick_f rfl rfl) ?_
    refine Ops.y (v := .bool _) (Y.move rfl) ?_
    refine Ops.ygt rfl (v := .int .i64 _) (Y.move rfl) ?_
    refine Ops.ygt rfl (v := .bool false) (Y.dec_f (Y.nei rfl rfl) (o2)) ?_
    refine Ops.y (v := .bool _) (Y.pick_f rfl rfl) ?_
    refine Ops.y (v := .bool _) (Y.move rfl) ?_
    refine Ops.ygt rfl (v := .int .i64 _) (Y.move rfl) ?_
    refine Ops.ygt rfl (v := .bool true) (Y.dec_t (Y.nei rfl rfl) (o3)) ?_
    refine Ops.y (v := .bool _) (Y.pick_f rfl rfl) ?_
    refine Ops.y (v := .bool _) (Y.move rfl) ?_
    refine Ops.gf rfl ?_
    refine Ops.gf rfl ?_
    refine Ops.y (v := .bool _) (Y.pick_t rfl rfl) ?_
    refine Ops.nil ?_
    refine WP.cond_t rfl ?_
    refine WP.seq ?_
    refine WP.region ?_
    refine Ops.go (O.callv I Try.call16 (latBegun_ok _ I.base_ok) rfl ?_)
    intro w I
    refine Ops.y (v := .bool _) (Y.assign rfl) ?_
    refine Ops.nil ?_
    refine WP.ret ?_
    repeat (first | refine thenE_ret ?_ | refine blockE_ret ?_)
    exact retQ.mk (vs := [.bool _]) rfl ⟨rfl, trivial⟩ I.ext_of (rfl)
  by_cases o4 : (liftOf kind b n).2 ≠ 0
  · refine WP.region ?_
    refine Ops.y (v := .int .i64 _) (Y.move rfl) ?_
    refine Ops.y (v := .bool false) (Y.dec_f (Y.nei rfl rfl) (o0)) ?_
    refine Ops.y (v := .bool _) (Y.move rfl) ?_
    refine Ops.ygt rfl (v := .int .i64 _) (Y.move rfl) ?_
    refine Ops.ygt rfl (v := .bool false) (Y.dec_f (Y.nei rfl rfl) (o1)) ?_
    refine Ops.y (v := .bool _) (Y.pick_f rfl rfl) ?_
    refine Ops.y (v := .bool _) (Y.move rfl) ?_
    refine Ops.ygt rfl (v := .int .i64 _) (Y.move rfl) ?_
    refine Ops.ygt rfl (v := .bool false) (Y.dec_f (Y.nei rfl rfl) (o2)) ?_
    refine Ops.y (v := .bool _) (Y.pick_f rfl rfl) ?_
    refine Ops.y (v := .bool _) (Y.move rfl) ?_
    refine Ops.ygt rfl (v := .int .i64 _) (Y.move rfl) ?_
    refine Ops.ygt rfl (v := .bool false) (Y.dec_f (Y.nei rfl rfl) (o3)) ?_
    refine Ops.y (v := .bool _) (Y.pick_f rfl rfl) ?_
    refine Ops.y (v := .bool _) (Y.move rfl) ?_
    refine Ops.ygt rfl (v := .int .i64 _) (Y.move rfl) ?_
    refine Ops.ygt rfl (v := .bool true) (Y.dec_t (Y.nei rfl rfl) (o4)) ?_
    refine Ops.y (v := .bool _) (Y.pick_f rfl rfl) ?_
    refine Ops.nil ?_
    refine WP.cond_t rfl ?_
    refine WP.seq ?_
    refine WP.region ?_
    refine Ops.go (O.callv I Try.call16 (latBegun_ok _ I.base_ok) rfl ?_)
    intro w I
    refine Ops.y (v := .bool _) (Y.assign rfl) ?_
    refine Ops.nil ?_
    refine WP.ret ?_
    repeat (first | refine thenE_ret ?_ | refine blockE_ret ?_)
    exact retQ.mk (vs := [.bool _]) rfl ⟨rfl, trivial⟩ I.ext_of (rfl)
  refine WP.region ?_
  refine Ops.y (v := .int .i64 _) (Y.move rfl) ?_
  refine Ops.y (v := .bool false) (Y.dec_f (Y.nei rfl rfl) (o0)) ?_
  refine Ops.y (v := .bool _) (Y.move rfl) ?_
  refine Ops.ygt rfl (v := .int .i64 _) (Y.move rfl) ?_
  refine Ops.ygt rfl (v := .bool false) (Y.dec_f (Y.nei rfl rfl) (o1)) ?_
  refine Ops.y (v := .bool _) (Y.pick_f rfl rfl) ?_
  refine Ops.y (v := .bool _) (Y.move rfl) ?_
  refine Ops.ygt rfl (v := .int .i64 _) (Y.move rfl) ?_
  refine Ops.ygt rfl (v := .bool false) (Y.dec_f (Y.nei rfl rfl) (o2)) ?_
  refine Ops.y (v := .bool _) (Y.pick_f rfl rfl) ?_
  refine Ops.y (v := .bool _) (Y.move rfl) ?_
  refine Ops.ygt rfl (v := .int .i64 _) (Y.move rfl) ?_
  refine Ops.ygt rfl (v := .bool false) (Y.dec_f (Y.nei rfl rfl) (o3)) ?_
  refine Ops.y (v := .bool _) (Y.pick_f rfl rfl) ?_
  refine Ops.y (v := .bool _) (Y.move rfl) ?_
  refine Ops.ygt rfl (v := .int .i64 _) (Y.move rfl) ?_
  refine Ops.ygt rfl (v := .bool false) (Y.dec_f (Y.nei rfl rfl) (o4)) ?_
  refine Ops.y (v := .bool _) (Y.pick_f rfl rfl) ?_
  refine Ops.nil ?_
  refine WP.cond_f rfl ?_
  simp only [ne_eq, Decidable.not_not] at o0 o1 o2 o3 o4
  obtain ⟨ha, hb⟩ := joinOf_ok o0; obtain ⟨_, hc⟩ := joinOf_ok o2; obtain ⟨_, hn⟩ := liftOf_ok o3
  have hab := joinV_ok ha hb; have hbc := joinV_ok hb hc; have hla := liftV_ok ha hn; have hlb := liftV_ok hb hn
  have eab : (joinOf kind a b).1 = joinV kind a b := by rw [joinOf_eq ha hb]
  have eba : (joinOf kind b a).1 = joinV kind a b := by rw [joinOf_eq hb ha, joinV_comm hb ha]
  have ebc : (joinOf kind b c).1 = joinV kind b c := by rw [joinOf_eq hb hc]
  have ela : (liftOf kind a n).1 = liftV kind a n := by rw [liftOf_eq ha hn]
  have elb : (liftOf kind b n).1 = liftV kind b n := by rw [liftOf_eq hb hn]
  rw [eab, eba, ebc, ela, elb]
  refine WP.skip ?_
  refine WP.seq ?_
  refine WP.region ?_
  refine Ops.y (v := .int .i64 _) (Y.move rfl) ?_
  refine Ops.y (v := .int .i64 _) (Y.move rfl) ?_
  refine Ops.y (v := .int .i64 _) (Y.move rfl) ?_
  refine Ops.go (O.callv I Try.call14 (Join_ok _ I.base_ok _ _ _) rfl ?_)
  intro w I
  refine Ops.y (v := .tuple #[_, _]) (Y.move rfl) ?_
  refine Ops.y (v := .int .i64 _) (Y.extract rfl rfl) ?_
  refine Ops.y (v := .int .i64 _) (Y.extract rfl rfl) ?_
  refine Ops.y (v := .int .i64 _) (Y.assign rfl) ?_
  refine Ops.y (v := .int .i64 _) (Y.assign rfl) ?_
  refine Ops.nil ?_
  refine WP.seq ?_
  refine WP.region ?_
  refine Ops.y (v := .int .i64 _) (Y.move rfl) ?_
  refine Ops.y (v := .int .i64 _) (Y.move rfl) ?_
  refine Ops.y (v := .int .i64 _) (Y.move rfl) ?_
  refine Ops.go (O.callv I Try.call14 (Join_ok _ I.base_ok _ _ _) rfl ?_)
  intro w I
  refine Ops.y (v := .tuple #[_, _]) (Y.move rfl) ?_
  refine Ops.y (v := .int .i64 _) (Y.extract rfl rfl) ?_
  refine Ops.y (v := .int .i64 _) (Y.extract rfl rfl) ?_
  refine Ops.y (v := .int .i64 _) (Y.assign rfl) ?_
  refine Ops.y (v := .int .i64 _) (Y.assign rfl) ?_
  refine Ops.nil ?_
  refine WP.seq ?_
  refine WP.region ?_
  refine Ops.y (v := .int .i64 _) (Y.move rfl) ?_
  refine Ops.y (v := .int .i64 _) (Y.move rfl) ?_
  refine Ops.y (v := .int .i64 _) (Y.move rfl) ?_
  refine Ops.go (O.callv I Try.call14 (Join_ok _ I.base_ok _ _ _) rfl ?_)
  intro w I
  refine Ops.y (v := .tuple #[_, _]) (Y.move rfl) ?_
  refine Ops.y (v := .int .i64 _) (Y.extract rfl rfl) ?_
  refine Ops.y (v := .int .i64 _) (Y.extract rfl rfl) ?_
  refine Ops.y (v := .int .i64 _) (Y.assign rfl) ?_
  refine Ops.y (v := .int .i64 _) (Y.assign rfl) ?_
  refine Ops.nil ?_
  refine WP.seq ?_
  refine WP.region ?_
  refine Ops.y (v := .int .i64 _) (Y.move rfl) ?_
  refine Ops.y (v := .int .i64 _) (Y.move rfl) ?_
  refine Ops.y (v := .int .i64 _) (Y.move rfl) ?_
  refine Ops.go (O.callv I Try.call20 (Leq_ok _ I.base_ok _ _ _) rfl ?_)
  intro w I
  refine Ops.y (v := .tuple #[_, _]) (Y.move rfl) ?_
  refine Ops.y (v := .bool _) (Y.extract rfl rfl) ?_
  refine Ops.y (v := .int .i64 _) (Y.extract rfl rfl) ?_
  refine Ops.y (v := .bool _) (Y.assign rfl) ?_
  refine Ops.y (v := .int .i64 _) (Y.assign rfl) ?_
  refine Ops.nil ?_
  refine WP.seq ?_
  refine WP.region ?_
  refine Ops.y (v := .int .i64 _) (Y.move rfl) ?_
  refine Ops.y (v := .int .i64 _) (Y.move rfl) ?_
  refine Ops.y (v := .int .i64 _) (Y.move rfl) ?_
  refine Ops.go (O.callv I Try.call20 (Leq_ok _ I.base_ok _ _ _) rfl ?_)
  intro w I
  refine Ops.y (v := .tuple #[_, _]) (Y.move rfl) ?_
  refine Ops.y (v := .bool _) (Y.extract rfl rfl) ?_
  refine Ops.y (v := .int .i64 _) (Y.extract rfl rfl) ?_
  refine Ops.y (v := .bool _) (Y.assign rfl) ?_
  refine Ops.y (v := .int .i64 _) (Y.assign rfl) ?_
  refine Ops.nil ?_
  refine WP.seq ?_
  refine WP.region ?_
  refine Ops.y (v := .int .i64 _) (Y.move rfl) ?_
  refine Ops.y (v := .int .i64 _) (Y.move rfl) ?_
  refine Ops.y (v := .int .i64 _) (Y.move rfl) ?_
  refine Ops.go (O.callv I Try.call20 (Leq_ok _ I.base_ok _ _ _) rfl ?_)
  intro w I
  refine Ops.y (v := .tuple #[_, _]) (Y.move rfl) ?_
  refine Ops.y (v := .bool _) (Y.extract rfl rfl) ?_
  refine Ops.y (v := .int .i64 _) (Y.extract rfl rfl) ?_
  refine Ops.y (v := .bool _) (Y.assign rfl) ?_
  refine Ops.y (v := .int .i64 _) (Y.assign rfl) ?_
  refine Ops.nil ?_
  refine WP.seq ?_
  refine WP.region ?_
  refine Ops.y (v := .int .i64 _) (Y.move rfl) ?_
  refine Ops.y (v := .int .i64 _) (Y.move rfl) ?_
  refine Ops.y (v := .int .i64 _) (Y.move rfl) ?_
  refine Ops.go (O.callv I Try.call20 (Leq_ok _ I.base_ok _ _ _) rfl ?_)
  intro w I
  refine Ops.y (v := .tuple #[_, _]) (Y.move rfl) ?_
  refine Ops.y (v := .bool _) (Y.extract rfl rfl) ?_
  refine Ops.y (v := .int .i64 _) (Y.extract rfl rfl) ?_
  refine Ops.y (v := .bool _) (Y.assign rfl) ?_
  refine Ops.y (v := .int .i64 _) (Y.assign rfl) ?_
  refine Ops.nil ?_
  refine WP.seq ?_
  refine WP.region ?_
  refine Ops.y (v := .int .i64 _) (Y.move rfl) ?_
  refine Ops.y (v := .int .i64 _) (Y.move rfl) ?_
  refine Ops.y (v := .int .i64 _) (Y.move rfl) ?_
  refine Ops.go (O.callv I Try.call20 (Leq_ok _ I.base_ok _ _ _) rfl ?_)
  intro w I
  refine Ops.y (v := .tuple #[_, _]) (Y.move rfl) ?_
  refine Ops.y (v := .bool _) (Y.extract rfl rfl) ?_
  refine Ops.y (v := .int .i64 _) (Y.extract rfl rfl) ?_
  refine Ops.y (v := .bool _) (Y.assign rfl) ?_
  refine Ops.y (v := .int .i64 _) (Y.assign rfl) ?_
  refine Ops.nil ?_
  refine WP.seq ?_
  refine WP.region ?_
  refine Ops.y (v := .int .i64 _) (Y.move rfl) ?_
  refine Ops.y (v := .int .i64 _) (Y.move rfl) ?_
  refine Ops.y (v := .int .i64 _) (Y.move rfl) ?_
  refine Ops.go (O.callv I Try.call20 (Leq_ok _ I.base_ok _ _ _) rfl ?_)
  intro w I
  refine Ops.y (v := .tuple #[_, _]) (Y.move rfl) ?_
  refine Ops.y (v := .bool _) (Y.extract rfl rfl) ?_
  refine Ops.y (v := .int .i64 _) (Y.extract rfl rfl) ?_
  refine Ops.y (v := .bool _) (Y.assign rfl) ?_
  refine Ops.y (v := .int .i64 _) (Y.assign rfl) ?_
  refine Ops.nil ?_
  rw [joinOf_eq hab hc, joinOf_eq ha hbc, joinOf_eq ha ha, leqOf_eq ha hab, leqOf_eq ha hc, leqOf_eq hb hc, leqOf_eq hab hc, leqOf_eq ha hb, leqOf_eq hla hlb]
  have e0 : ¬ ((0 : Int) ≠ 0) := by simp
  refine WP.seq ?_
  refine WP.seq ?_
  refine WP.region ?_
  refine Ops.y (v := .int .i64 _) (Y.move rfl) ?_
  refine Ops.y (v := .bool false) (Y.dec_f (Y.nei rfl rfl) (e0)) ?_
  refine Ops.y (v := .bool _) (Y.move rfl) ?_
  refine Ops.ygt rfl (v := .int .i64 _) (Y.move rfl) ?_
  refine Ops.ygt rfl (v := .bool false) (Y.dec_f (Y.nei rfl rfl) (e0)) ?_
  refine Ops.y (v := .bool _) (Y.pick_f rfl rfl) ?_
  refine Ops.y (v := .bool _) (Y.move rfl) ?_
  refine Ops.ygt rfl (v := .int .i64 _) (Y.move rfl) ?_
  refine Ops.ygt rfl (v := .bool false) (Y.dec_f (Y.nei rfl rfl) (e0)) ?_
  refine Ops.y (v := .bool _) (Y.pick_f rfl rfl) ?_
  refine Ops.y (v := .bool _) (Y.move rfl) ?_
  refine Ops.ygt rfl (v := .int .i64 _) (Y.move rfl) ?_
  refine Ops.ygt rfl (v := .bool false) (Y.dec_f (Y.nei rfl rfl) (e0)) ?_
  refine Ops.y (v := .bool _) (Y.pick_f rfl rfl) ?_
  refine Ops.y (v := .bool _) (Y.move rfl) ?_
  refine Ops.ygt rfl (v := .int .i64 _) (Y.move rfl) ?_
  refine Ops.ygt rfl (v := .bool false) (Y.dec_f (Y.nei rfl rfl) (e0)) ?_
  refine Ops.y (v := .bool _) (Y.pick_f rfl rfl) ?_
  refine Ops.y (v := .bool _) (Y.move rfl) ?_
  refine Ops.ygt rfl (v := .int .i64 _) (Y.move rfl) ?_
  refine Ops.ygt rfl (v := .bool false) (Y.dec_f (Y.nei rfl rfl) (e0)) ?_
  refine Ops.y (v := .bool _) (Y.pick_f rfl rfl) ?_
  refine Ops.y (v := .bool _) (Y.move rfl) ?_
  refine Ops.ygt rfl (v := .int .i64 _) (Y.move rfl) ?_
  refine Ops.ygt rfl (v := .bool false) (Y.dec_f (Y.nei rfl rfl) (e0)) ?_
  refine Ops.y (v := .bool _) (Y.pick_f rfl rfl) ?_
  refine Ops.y (v := .bool _) (Y.move rfl) ?_
  refine Ops.ygt rfl (v := .int .i64 _) (Y.move rfl) ?_
  refine Ops.ygt rfl (v := .bool false) (Y.dec_f (Y.nei rfl rfl) (e0)) ?_
  refine Ops.y (v := .bool _) (Y.pick_f rfl rfl) ?_
  refine Ops.y (v := .bool _) (Y.move rfl) ?_
  refine Ops.ygt rfl (v := .int .i64 _) (Y.move rfl) ?_
  refine Ops.ygt rfl (v := .bool false) (Y.dec_f (Y.nei rfl rfl) (e0)) ?_
  refine Ops.y (v := .bool _) (Y.pick_f rfl rfl) ?_
  refine Ops.nil ?_
  refine WP.cond_f rfl ?_
  have hs : LeV kind a b → LeV kind (liftV kind a n) (liftV kind b n) := leV_lift ha hb hn
  have hj := leV_join_iff ha hb hc
  by_cases l1 : LeV kind a c
  · by_cases l3 : LeV kind a b
    · refine WP.skip ?_
      refine WP.seq ?_
      refine WP.region ?_
      refine Ops.go (O.callv I Try.call16 (latBegun_ok _ I.base_ok) rfl ?_)
      intro w I
      refine Ops.y (v := .bool _) (Y.move rfl) ?_
      refine Ops.ygt rfl (v := .int .i64 _) (Y.move rfl) ?_
      refine Ops.ygt rfl (v := .int .i64 _) (Y.move rfl) ?_
      refine Ops.ygt rfl (v := .bool true) (Y.dec_t (Y.eqi rfl rfl) (rfl)) ?_
      refine Ops.y (v := .bool _) (Y.pick_t rfl rfl) ?_
      refine Ops.y (v := .bool _) (Y.move rfl) ?_
      refine Ops.ygt rfl (v := .int .i64 _) (Y.move rfl) ?_
      refine Ops.ygt rfl (v := .int .i64 _) (Y.move rfl) ?_
      refine Ops.ygt rfl (v := .bool true) (Y.dec_t (Y.eqi rfl rfl) ((joinV_assoc ha hb hc))) ?_
      refine Ops.y (v := .bool _) (Y.pick_t rfl rfl) ?_
      refine Ops.y (v := .bool _) (Y.move rfl) ?_
      refine Ops.ygt rfl (v := .int .i64 _) (Y.move rfl) ?_
      refine Ops.ygt rfl (v := .int .i64 _) (Y.move rfl) ?_
      refine Ops.ygt rfl (v := .bool true) (Y.dec_t (Y.eqi rfl rfl) ((joinV_idem ha))) ?_
      refine Ops.y (v := .bool _) (Y.pick_t rfl rfl) ?_
      refine Ops.y (v := .bool _) (Y.move rfl) ?_
      refine Ops.ygt rfl (v := .bool true) (Y.b (Y.move rfl) ((decide_eq_true (leV_up ha hb)))) ?_
      refine Ops.y (v := .bool _) (Y.pick_t rfl rfl) ?_
      refine Ops.y (v := .bool _) (Y.move rfl) ?_
      refine Ops.ygt rfl (v := .bool _) (Y.move rfl) ?_
      refine Ops.ygt rfl (v := .bool true) (Y.b (Y.move rfl) ((decide_eq_true l1))) ?_
      refine Ops.ygt rfl (v := .bool _) (Y.move rfl) ?_
      refine Ops.ygt rfl (v := .bool _) (Y.move rfl) ?_
      refine Ops.ygt rfl (v := .bool _) (Y.pick_t rfl rfl) ?_
      refine Ops.ygt rfl (v := .bool true) (Y.dec_t (Y.eqb Try.underlying4 rfl rfl) ((by rw [decide_eq_decide]; exact ⟨fun h => (hj.1 h).2, fun h => hj.2 ⟨l1, h⟩⟩))) ?_
      refine Ops.y (v := .bool _) (Y.pick_t rfl rfl) ?_
      refine Ops.y (v := .bool _) (Y.move rfl) ?_
      refine Ops.ygt rfl (v := .bool true) (Y.b (Y.move rfl) ((decide_eq_true l3))) ?_
      refine Ops.ygt rfl (v := .bool false) (Y.not (b := true) rfl) ?_
      refine Ops.ygt rfl (v := .bool _) (Y.move rfl) ?_
      refine Ops.ygt rfl (v := .bool true) (Y.b (Y.move rfl) ((decide_eq_true (hs l3)))) ?_
      refine Ops.ygt rfl (v := .bool _) (Y.pick_f rfl rfl) ?_
      refine Ops.y (v := .bool _) (Y.pick_t rfl rfl) ?_
      refine Ops.y (v := .bool _) (Y.assign rfl) ?_
      refine Ops.nil ?_
      refine WP.ret ?_
      repeat (first | refine thenE_ret ?_ | refine blockE_ret ?_)
      exact retQ.mk (vs := [.bool _]) rfl ⟨rfl, trivial⟩ I.ext_of (rfl)
    · refine WP.skip ?_
      refine WP.seq ?_
      refine WP.region ?_
      refine Ops.go (O.callv I Try.call16 (latBegun_ok _ I.base_ok) rfl ?_)
      intro w I
      refine Ops.y (v := .bool _) (Y.move rfl) ?_
      refine Ops.ygt rfl (v := .int .i64 _) (Y.move rfl) ?_
      refine Ops.ygt rfl (v := .int .i64 _) (Y.move rfl) ?_
      refine Ops.ygt rfl (v := .bool true) (Y.dec_t (Y.eqi rfl rfl) (rfl)) ?_
      refine Ops.y (v := .bool _) (Y.pick_t rfl rfl) ?_
      refine Ops.y (v := .bool _) (Y.move rfl) ?_
      refine Ops.ygt rfl (v := .int .i64 _) (Y.move rfl) ?_
      refine Ops.ygt rfl (v := .int .i64 _) (Y.move rfl) ?_
      refine Ops.ygt rfl (v := .bool true) (Y.dec_t (Y.eqi rfl rfl) ((joinV_assoc ha hb hc))) ?_
      refine Ops.y (v := .bool _) (Y.pick_t rfl rfl) ?_
      refine Ops.y (v := .bool _) (Y.move rfl) ?_
      refine Ops.ygt rfl (v := .int .i64 _) (Y.move rfl) ?_
      refine Ops.ygt rfl (v := .int .i64 _) (Y.move rfl) ?_
      refine Ops.ygt rfl (v := .bool true) (Y.dec_t (Y.eqi rfl rfl) ((joinV_idem ha))) ?_
      refine Ops.y (v := .bool _) (Y.pick_t rfl rfl) ?_
      refine Ops.y (v := .bool _) (Y.move rfl) ?_
      refine Ops.ygt rfl (v := .bool true) (Y.b (Y.move rfl) ((decide_eq_true (leV_up ha hb)))) ?_
      refine Ops.y (v := .bool _) (Y.pick_t rfl rfl) ?_
      refine Ops.y (v := .bool _) (Y.move rfl) ?_
      refine Ops.ygt rfl (v := .bool _) (Y.move rfl) ?_
      refine Ops.ygt rfl (v := .bool true) (Y.b (Y.move rfl) ((decide_eq_true l1))) ?_
      refine Ops.ygt rfl (v := .bool _) (Y.move rfl) ?_
      refine Ops.ygt rfl (v := .bool _) (Y.move rfl) ?_
      refine Ops.ygt rfl (v := .bool _) (Y.pick_t rfl rfl) ?_
      refine Ops.ygt rfl (v := .bool true) (Y.dec_t (Y.eqb Try.underlying4 rfl rfl) ((by rw [decide_eq_decide]; exact ⟨fun h => (hj.1 h).2, fun h => hj.2 ⟨l1, h⟩⟩))) ?_
      refine Ops.y (v := .bool _) (Y.pick_t rfl rfl) ?_
      refine Ops.y (v := .bool _) (Y.move rfl) ?_
      refine Ops.ygt rfl (v := .bool false) (Y.b (Y.move rfl) ((decide_eq_false l3))) ?_
      refine Ops.ygt rfl (v := .bool true) (Y.not (b := false) rfl) ?_
      refine Ops.ygt rfl (v := .bool _) (Y.move rfl) ?_
      refine Ops.gf rfl ?_
      refine Ops.ygt rfl (v := .bool _) (Y.pick_t rfl rfl) ?_
      refine Ops.y (v := .bool _) (Y.pick_t rfl rfl) ?_
      refine Ops.y (v := .bool _) (Y.assign rfl) ?_
      refine Ops.nil ?_
      refine WP.ret ?_
      repeat (first | refine thenE_ret ?_ | refine blockE_ret ?_)
      exact retQ.mk (vs := [.bool _]) rfl ⟨rfl, trivial⟩ I.ext_of (rfl)
  · by_cases l3 : LeV kind a b
    · refine WP.skip ?_
      refine WP.seq ?_
      refine WP.region ?_
      refine Ops.go (O.callv I Try.call16 (latBegun_ok _ I.base_ok) rfl ?_)
      intro w I
      refine Ops.y (v := .bool _) (Y.move rfl) ?_
      refine Ops.ygt rfl (v := .int .i64 _) (Y.move rfl) ?_
      refine Ops.ygt rfl (v := .int .i64 _) (Y.move rfl) ?_
      refine Ops.ygt rfl (v := .bool true) (Y.dec_t (Y.eqi rfl rfl) (rfl)) ?_
      refine Ops.y (v := .bool _) (Y.pick_t rfl rfl) ?_
      refine Ops.y (v := .bool _) (Y.move rfl) ?_
      refine Ops.ygt rfl (v := .int .i64 _) (Y.move rfl) ?_
      refine Ops.ygt rfl (v := .int .i64 _) (Y.move rfl) ?_
      refine Ops.ygt rfl (v := .bool true) (Y.dec_t (Y.eqi rfl rfl) ((joinV_assoc ha hb hc))) ?_
      refine Ops.y (v := .bool _) (Y.pick_t rfl rfl) ?_
      refine Ops.y (v := .bool _) (Y.move rfl) ?_
      refine Ops.ygt rfl (v := .int .i64 _) (Y.move rfl) ?_
      refine Ops.ygt rfl (v := .int .i64 _) (Y.move rfl) ?_
      refine Ops.ygt rfl (v := .bool true) (Y.dec_t (Y.eqi rfl rfl) ((joinV_idem ha))) ?_
      refine Ops.y (v := .bool _) (Y.pick_t rfl rfl) ?_
      refine Ops.y (v := .bool _) (Y.move rfl) ?_
      refine Ops.ygt rfl (v := .bool true) (Y.b (Y.move rfl) ((decide_eq_true (leV_up ha hb)))) ?_
      refine Ops.y (v := .bool _) (Y.pick_t rfl rfl) ?_
      refine Ops.y (v := .bool _) (Y.move rfl) ?_
      refine Ops.ygt rfl (v := .bool _) (Y.move rfl) ?_
      refine Ops.ygt rfl (v := .bool false) (Y.b (Y.move rfl) ((decide_eq_false l1))) ?_
      refine Ops.ygt rfl (v := .bool _) (Y.move rfl) ?_
      refine Ops.gf rfl ?_
      refine Ops.ygt rfl (v := .bool _) (Y.pick_f rfl rfl) ?_
      refine Ops.ygt rfl (v := .bool true) (Y.dec_t (Y.eqb Try.underlying4 rfl rfl) ((decide_eq_false (fun h => l1 (hj.1 h).1)))) ?_
      refine Ops.y (v := .bool _) (Y.pick_t rfl rfl) ?_
      refine Ops.y (v := .bool _) (Y.move rfl) ?_
      refine Ops.ygt rfl (v := .bool true) (Y.b (Y.move rfl) ((decide_eq_true l3))) ?_
      refine Ops.ygt rfl (v := .bool false) (Y.not (b := true) rfl) ?_
      refine Ops.ygt rfl (v := .bool _) (Y.move rfl) ?_
      refine Ops.ygt rfl (v := .bool true) (Y.b (Y.move rfl) ((decide_eq_true (hs l3)))) ?_
      refine Ops.ygt rfl (v := .bool _) (Y.pick_f rfl rfl) ?_
      refine Ops.y (v := .bool _) (Y.pick_t rfl rfl) ?_
      refine Ops.y (v := .bool _) (Y.assign rfl) ?_
      refine Ops.nil ?_
      refine WP.ret ?_
      repeat (first | refine thenE_ret ?_ | refine blockE_ret ?_)
      exact retQ.mk (vs := [.bool _]) rfl ⟨rfl, trivial⟩ I.ext_of (rfl)
    · refine WP.skip ?_
      refine WP.seq ?_
      refine WP.region ?_
      refine Ops.go (O.callv I Try.call16 (latBegun_ok _ I.base_ok) rfl ?_)
      intro w I
      refine Ops.y (v := .bool _) (Y.move rfl) ?_
      refine Ops.ygt rfl (v := .int .i64 _) (Y.move rfl) ?_
      refine Ops.ygt rfl (v := .int .i64 _) (Y.move rfl) ?_
      refine Ops.ygt rfl (v := .bool true) (Y.dec_t (Y.eqi rfl rfl) (rfl)) ?_
      refine Ops.y (v := .bool _) (Y.pick_t rfl rfl) ?_
      refine Ops.y (v := .bool _) (Y.move rfl) ?_
      refine Ops.ygt rfl (v := .int .i64 _) (Y.move rfl) ?_
      refine Ops.ygt rfl (v := .int .i64 _) (Y.move rfl) ?_
      refine Ops.ygt rfl (v := .bool true) (Y.dec_t (Y.eqi rfl rfl) ((joinV_assoc ha hb hc))) ?_
      refine Ops.y (v := .bool _) (Y.pick_t rfl rfl) ?_
      refine Ops.y (v := .bool _) (Y.move rfl) ?_
      refine Ops.ygt rfl (v := .int .i64 _) (Y.move rfl) ?_
      refine Ops.ygt rfl (v := .int .i64 _) (Y.move rfl) ?_
      refine Ops.ygt rfl (v := .bool true) (Y.dec_t (Y.eqi rfl rfl) ((joinV_idem ha))) ?_
      refine Ops.y (v := .bool _) (Y.pick_t rfl rfl) ?_
      refine Ops.y (v := .bool _) (Y.move rfl) ?_
      refine Ops.ygt rfl (v := .bool true) (Y.b (Y.move rfl) ((decide_eq_true (leV_up ha hb)))) ?_
      refine Ops.y (v := .bool _) (Y.pick_t rfl rfl) ?_
      refine Ops.y (v := .bool _) (Y.move rfl) ?_
      refine Ops.ygt rfl (v := .bool _) (Y.move rfl) ?_
      refine Ops.ygt rfl (v := .bool false) (Y.b (Y.move rfl) ((decide_eq_false l1))) ?_
      refine Ops.ygt rfl (v := .bool _) (Y.move rfl) ?_
      refine Ops.gf rfl ?_
      refine Ops.ygt rfl (v := .bool _) (Y.pick_f rfl rfl) ?_
      refine Ops.ygt rfl (v := .bool true) (Y.dec_t (Y.eqb Try.underlying4 rfl rfl) ((decide_eq_false (fun h => l1 (hj.1 h).1)))) ?_
      refine Ops.y (v := .bool _) (Y.pick_t rfl rfl) ?_
      refine Ops.y (v := .bool _) (Y.move rfl) ?_
      refine Ops.ygt rfl (v := .bool false) (Y.b (Y.move rfl) ((decide_eq_false l3))) ?_
      refine Ops.ygt rfl (v := .bool true) (Y.not (b := false) rfl) ?_
      refine Ops.ygt rfl (v := .bool _) (Y.move rfl) ?_
      refine Ops.gf rfl ?_
      refine Ops.ygt rfl (v := .bool _) (Y.pick_t rfl rfl) ?_
      refine Ops.y (v := .bool _) (Y.pick_t rfl rfl) ?_
      refine Ops.y (v := .bool _) (Y.assign rfl) ?_
      refine Ops.nil ?_
      refine WP.ret ?_
      repeat (first | refine thenE_ret ?_ | refine blockE_ret ?_)
      exact retQ.mk (vs := [.bool _]) rfl ⟨rfl, trivial⟩ I.ext_of (rfl)
set_option maxHeartbeats 2000000 in
theorem LatOrder_ok (B : Base) (hB : B.ok) (kind a b c : Int) : Fn Try.prog 6 [.int .i64 kind, .int .i64 a, .int .i64 b, .int .i64 c] B (fun r _ => r = .bool true) := by
  refine Fn.of Try.func6 rfl Try.ntmps6 (by kernel_rfl) (by simp) ?_
  intro e
  have I := Inv.start hB
  refine WP.seq ?_
  refine WP.region ?_
  refine Ops.y (v := .bool _) (Y.assign rfl) ?_
  refine Ops.nil ?_
  refine WP.seq ?_
  refine WP.region ?_
  refine Ops.y (v := .int .i64 _) (Y.move rfl) ?_
  refine Ops.y (v := .int .i64 _) (Y.move rfl) ?_
  refine Ops.y (v := .int .i64 _) (Y.move rfl) ?_
  refine Ops.go (O.callv I Try.call20 (Leq_ok _ I.base_ok _ _ _) rfl ?_)
  intro w I
  refine Ops.y (v := .tuple #[_, _]) (Y.move rfl) ?_
  refine Ops.y (v := .bool _) (Y.extract rfl rfl) ?_
  refine Ops.y (v := .int .i64 _) (Y.extract rfl rfl) ?_
  refine Ops.y (v := .bool _) (Y.assign rfl) ?_
  refine Ops.y (v := .int .i64 _) (Y.assign rfl) ?_
  refine Ops.nil ?_
  refine WP.seq ?_
  refine WP.region ?_
  refine Ops.y (v := .int .i64 _) (Y.move rfl) ?_
  refine Ops.y (v := .int .i64 _) (Y.move rfl) ?_
  refine Ops.y (v := .int .i64 _) (Y.move rfl) ?_
  refine Ops.go (O.callv I Try.call20 (Leq_ok _ I.base_ok _ _ _) rfl ?_)
  intro w I
  refine Ops.y (v := .tuple #[_, _]) (Y.move rfl) ?_
  refine Ops.y (v := .bool _) (Y.extract rfl rfl) ?_
  refine Ops.y (v := .int .i64 _) (Y.extract rfl rfl) ?_
  refine Ops.y (v := .bool _) (Y.assign rfl) ?_
  refine Ops.y (v := .int .i64 _) (Y.assign rfl) ?_
  refine Ops.nil ?_
  refine WP.seq ?_
  refine WP.region ?_
  refine Ops.y (v := .int .i64 _) (Y.move rfl) ?_
  refine Ops.y (v := .int .i64 _) (Y.move rfl) ?_
  refine Ops.y (v := .int .i64 _) (Y.move rfl) ?_
  refine Ops.go (O.callv I Try.call20 (Leq_ok _ I.base_ok _ _ _) rfl ?_)
  intro w I
  refine Ops.y (v := .tuple #[_, _]) (Y.move rfl) ?_
  refine Ops.y (v := .bool _) (Y.extract rfl rfl) ?_
  refine Ops.y (v := .int .i64 _) (Y.extract rfl rfl) ?_
  refine Ops.y (v := .bool _) (Y.assign rfl) ?_
  refine Ops.y (v := .int .i64 _) (Y.assign rfl) ?_
  refine Ops.nil ?_
  refine WP.seq ?_
  refine WP.region ?_
  refine Ops.y (v := .int .i64 _) (Y.move rfl) ?_
  refine Ops.y (v := .int .i64 _) (Y.move rfl) ?_
  refine Ops.y (v := .int .i64 _) (Y.move rfl) ?_
  refine Ops.go (O.callv I Try.call20 (Leq_ok _ I.base_ok _ _ _) rfl ?_)
  intro w I
  refine Ops.y (v := .tuple #[_, _]) (Y.move rfl) ?_
  refine Ops.y (v := .bool _) (Y.extract rfl rfl) ?_
  refine Ops.y (v := .int .i64 _) (Y.extract rfl rfl) ?_
  refine Ops.y (v := .bool _) (Y.assign rfl) ?_
  refine Ops.y (v := .int .i64 _) (Y.assign rfl) ?_
  refine Ops.nil ?_
  refine WP.seq ?_
  refine WP.region ?_
  refine Ops.y (v := .int .i64 _) (Y.move rfl) ?_
  refine Ops.y (v := .int .i64 _) (Y.move rfl) ?_
  refine Ops.y (v := .int .i64 _) (Y.move rfl) ?_
  refine Ops.go (O.callv I Try.call20 (Leq_ok _ I.base_ok _ _ _) rfl ?_)
  intro w I
  refine Ops.y (v := .tuple #[_, _]) (Y.move rfl) ?_
  refine Ops.y (v := .bool _) (Y.extract rfl rfl) ?_
  refine Ops.y (v := .int .i64 _) (Y.extract rfl rfl) ?_
  refine Ops.y (v := .bool _) (Y.assign rfl) ?_
  refine Ops.y (v := .int .i64 _) (Y.assign rfl) ?_
  refine Ops.nil ?_
  refine WP.seq ?_
  refine WP.region ?_
  refine Ops.y (v := .int .i64 _) (Y.move rfl) ?_
  refine Ops.y (v := .int .i64 _) (Y.move rfl) ?_
  refine Ops.go (O.callv I Try.call19 (Lift_ok _ I.base_ok _ _ _) rfl ?_)
  intro w I
  refine Ops.y (v := .tuple #[_, _]) (Y.move rfl) ?_
  refine Ops.y (v := .int .i64 _) (Y.extract rfl rfl) ?_
  refine Ops.y (v := .int .i64 _) (Y.extract rfl rfl) ?_
  refine Ops.y (v := .int .i64 _) (Y.assign rfl) ?_
  refine Ops.y (v := .int .i64 _) (Y.assign rfl) ?_
  refine Ops.nil ?_
  refine WP.seq ?_
  refine WP.seq ?_
  by_cases o0 : (leqOf kind a a).2 ≠ 0
  · refine WP.region ?_
    refine Ops.y (v := .int .i64 _) (Y.move rfl) ?_
    refine Ops.y (v := .bool true) (Y.dec_t (Y.nei rfl rfl) (o0)) ?_
    refine Ops.y (v := .bool _) (Y.move rfl) ?_
    refine Ops.gf rfl ?_
    refine Ops.gf rfl ?_
    refine Ops.y (v := .bool _) (Y.pick_t rfl rfl) ?_
    refine Ops.y (v := .bool _) (Y.move rfl) ?_
    refine Ops.gf rfl ?_
    refine Ops.gf rfl ?_
    refine Ops.y (v := .bool _) (Y.pick_t rfl rfl) ?_
    refine Ops.y (v := .bool _) (Y.move rfl) ?_
    refine Ops.gf rfl ?_
    refine Ops.gf rfl ?_
    refine Ops.y (v := .bool _) (Y.pick_t rfl rfl) ?_
    refine Ops.y (v := .bool _) (Y.move rfl) ?_
    refine Ops.gf rfl ?_
    refine Ops.gf rfl ?_
    refine Ops.y (v := .bool _) (Y.pick_t rfl rfl) ?_
    refine Ops.y (v := .bool _) (Y.move rfl) ?_
    refine Ops.gf rfl ?_
    refine Ops.gf rfl ?_
    refine Ops.y (v := .bool _) (Y.pick_t rfl rfl) ?_
    refine Ops.nil ?_
    refine WP.cond_t rfl ?_
    refine WP.seq ?_
    refine WP.region ?_
    refine Ops.go (O.callv I Try.call16 (latBegun_ok _ I.base_ok) rfl ?_)
    intro w I
    refine Ops.y (v := .bool _) (Y.assign rfl) ?_
    refine Ops.nil ?_
    refine WP.ret ?_
    repeat (first | refine thenE_ret ?_ | refine blockE_ret ?_)
    exact retQ.mk (vs := [.bool _]) rfl ⟨rfl, trivial⟩ I.ext_of (rfl)
  by_cases o1 : (leqOf kind a b).2 ≠ 0
  · refine WP.region ?_
    refine Ops.y (v := .int .i64 _) (Y.move rfl) ?_
    refine Ops.y (v := .bool false) (Y.dec_f (Y.nei rfl rfl) (o0)) ?_
    refine Ops.y (v := .bool _) (Y.move rfl) ?_
    refine Ops.ygt rfl (v := .int .i64 _) (Y.move rfl) ?_
    refine Ops.ygt rfl (v := .bool true) (Y.dec_t (Y.nei rfl rfl) (o1)) ?_
    refine Ops.y (v := .bool _) (Y.pick_f rfl rfl) ?_
    refine Ops.y (v := .bool _) (Y.move rfl) ?_
    refine Ops.gf rfl ?_
    refine Ops.gf rfl ?_
    refine Ops.y (v := .bool _) (Y.pick_t rfl rfl) ?_
    refine Ops.y (v := .bool _) (Y.move rfl) ?_
    refine Ops.gf rfl ?_
    refine Ops.gf rfl ?_
    refine Ops.y (v := .bool _) (Y.pick_t rfl rfl) ?_
    refine Ops.y (v := .bool _) (Y.move rfl) ?_
    refine Ops.gf rfl ?_
    refine Ops.gf rfl ?_
    refine Ops.y (v := .bool _) (Y.pick_t rfl rfl) ?_
    refine Ops.y (v := .bool _) (Y.move rfl) ?_
    refine Ops.gf rfl ?_
    refine Ops.gf rfl ?_
    refine Ops.y (v := .bool _) (Y.pick_t rfl rfl) ?_
    refine Ops.nil ?_
    refine WP.cond_t rfl ?_
    refine WP.seq ?_
    refine WP.region ?_
    refine Ops.go (O.callv I Try.call16 (latBegun_ok _ I.base_ok) rfl ?_)
    intro w I
    refine Ops.y (v := .bool _) (Y.assign rfl) ?_
    refine Ops.nil ?_
    refine WP.ret ?_
    repeat (first | refine thenE_ret ?_ | refine blockE_ret ?_)
    exact retQ.mk (vs := [.bool _]) rfl ⟨rfl, trivial⟩ I.ext_of (rfl)
  by_cases o2 : (leqOf kind b a).2 ≠ 0
  · refine WP.region ?_
    refine Ops.y (v := .int .i64 _) (Y.move rfl) ?_
    refine Ops.y (v := .bool false) (Y.dec_f (Y.nei rfl rfl) (o0)) ?_
    refine Ops.y (v := .bool _) (Y.move rfl) ?_
    refine Ops.ygt rfl (v := .int .i64 _) (Y.move rfl) ?_
    refine Ops.ygt rfl (v := .bool false) (Y.dec_f (Y.nei rfl rfl) (o1)) ?_
    refine Ops.y (v := .bool _) (Y.pick_f rfl rfl) ?_
    refine Ops.y (v := .bool _) (Y.move rfl) ?_
    refine Ops.ygt rfl (v := .int .i64 _) (Y.move rfl) ?_
    refine Ops.ygt rfl (v := .bool true) (Y.dec_t (Y.nei rfl rfl) (o2)) ?_
    refine Ops.y (v := .bool _) (Y.pick_f rfl rfl) ?_
    refine Ops.y (v := .bool _) (Y.move rfl) ?_
    refine Ops.gf rfl ?_
    refine Ops.gf rfl ?_
    refine Ops.y (v := .bool _) (Y.pick_t rfl rfl) ?_
    refine Ops.y (v := .bool _) (Y.move rfl) ?_
    refine Ops.gf rfl ?_
    refine Ops.gf rfl ?_
    refine Ops.y (v := .bool _) (Y.pick_t rfl rfl) ?_
    refine Ops.y (v := .bool _) (Y.move rfl) ?_
    refine Ops.gf rfl ?_
    refine Ops.gf rfl ?_
    refine Ops.y (v := .bool _) (Y.pick_t rfl rfl) ?_
    refine Ops.nil ?_
    refine WP.cond_t rfl ?_
    refine WP.seq ?_
    refine WP.region ?_
    refine Ops.go (O.callv I Try.call16 (latBegun_ok _ I.base_ok) rfl ?_)
    intro w I
    refine Ops.y (v := .bool _) (Y.assign rfl) ?_
    refine Ops.nil ?_
    refine WP.ret ?_
    repeat (first | refine thenE_ret ?_ | refine blockE_ret ?_)
    exact retQ.mk (vs := [.bool _]) rfl ⟨rfl, trivial⟩ I.ext_of (rfl)
  by_cases o3 : (leqOf kind b c).2 ≠ 0
  · refine WP.region ?_
    refine Ops.y (v := .int .i64 _) (Y.move rfl) ?_
    refine Ops.y (v := .bool false) (Y.dec_f (Y.nei rfl rfl) (o0)) ?_
    refine Ops.y (v := .bool _) (Y.move rfl) ?_
    refine Ops.ygt rfl (v := .int .i64 _) (Y.move rfl) ?_
    refine Ops.ygt rfl (v := .bool false) (Y.dec_f (Y.nei rfl rfl) (o1)) ?_
    refine Ops.y (v := .bool _) (Y.pick_f rfl rfl) ?_
    refine Ops.y (v := .bool _) (Y.move rfl) ?_
    refine Ops.ygt rfl (v := .int .i64 _) (Y.move rfl) ?_
    refine Ops.ygt rfl (v := .bool false) (Y.dec_f (Y.nei rfl rfl) (o2)) ?_
    refine Ops.y (v := .bool _) (Y.pick_f rfl rfl) ?_
    refine Ops.y (v := .bool _) (Y.move rfl) ?_
    refine Ops.ygt rfl (v := .int .i64 _) (Y.move rfl) ?_
    refine Ops.ygt rfl (v := .bool true) (Y.dec_t (Y.nei rfl rfl) (o3)) ?_
    refine Ops.y (v := .bool _) (Y.pick_f rfl rfl) ?_
    refine Ops.y (v := .bool _) (Y.move rfl) ?_
    refine Ops.gf rfl ?_
    refine Ops.gf rfl ?_
    refine Ops.y (v := .bool _) (Y.pick_t rfl rfl) ?_
    refine Ops.y (v := .bool _) (Y.move rfl) ?_
    refine Ops.gf rfl ?_
    refine Ops.gf rfl ?_
    refine Ops.y (v := .bool _) (Y.pick_t rfl rfl) ?_
    refine Ops.nil ?_
    refine WP.cond_t rfl ?_
    refine WP.seq ?_
    refine WP.region ?_
    refine Ops.go (O.callv I Try.call16 (latBegun_ok _ I.base_ok) rfl ?_)
    intro w I
    refine Ops.y (v := .bool _) (Y.assign rfl) ?_
    refine Ops.nil ?_
    refine WP.ret ?_
    repeat (first | refine thenE_ret ?_ | refine blockE_ret ?_)
    exact retQ.mk (vs := [.bool _]) rfl ⟨rfl, trivial⟩ I.ext_of (rfl)
  by_cases o4 : (leqOf kind a c).2 ≠ 0
  · refine WP.region ?_
    refine Ops.y (v := .int .i64 _) (Y.move rfl) ?_
    refine Ops.y (v := .bool false) (Y.dec_f (Y.nei rfl rfl) (o0)) ?_
    refine Ops.y (v := .bool _) (Y.move rfl) ?_
    refine Ops.ygt rfl (v := .int .i64 _) (Y.move rfl) ?_
    refine Ops.ygt rfl (v := .bool false) (Y.dec_f (Y.nei rfl rfl) (o1)) ?_
    refine Ops.y (v := .bool _) (Y.pick_f rfl rfl) ?_
    refine Ops.y (v := .bool _) (Y.move rfl) ?_
    refine Ops.ygt rfl (v := .int .i64 _) (Y.move rfl) ?_
    refine Ops.ygt rfl (v := .bool false) (Y.dec_f (Y.nei rfl rfl) (o2)) ?_
    refine Ops.y (v := .bool _) (Y.pick_f rfl rfl) ?_
    refine Ops.y (v := .bool _) (Y.move rfl) ?_
    refine Ops.ygt rfl (v := .int .i64 _) (Y.move rfl) ?_
    refine Ops.ygt rfl (v := .bool false) (Y.dec_f (Y.nei rfl rfl) (o3)) ?_
    refine Ops.y (v := .bool _) (Y.pick_f rfl rfl) ?_
    refine Ops.y (v := .bool _) (Y.move rfl) ?_
    refine Ops.ygt rfl (v := .int .i64 _) (Y.move rfl) ?_
    refine Ops.ygt rfl (v := .bool true) (Y.dec_t (Y.nei rfl rfl) (o4)) ?_
    refine Ops.y (v := .bool _) (Y.pick_f rfl rfl) ?_
    refine Ops.y (v := .bool _) (Y.move rfl) ?_
    refine Ops.gf rfl ?_
    refine Ops.gf rfl ?_
    refine Ops.y (v := .bool _) (Y.pick_t rfl rfl) ?_
    refine Ops.nil ?_
    refine WP.cond_t rfl ?_
    refine WP.seq ?_
    refine WP.region ?_
    refine Ops.go (O.callv I Try.call16 (latBegun_ok _ I.base_ok) rfl ?_)
    intro w I
    refine Ops.y (v := .bool _) (Y.assign rfl) ?_
    refine Ops.nil ?_
    refine WP.ret ?_
    repeat (first | refine thenE_ret ?_ | refine blockE_ret ?_)
    exact retQ.mk (vs := [.bool _]) rfl ⟨rfl, trivial⟩ I.ext_of (rfl)
  by_cases o5 : (liftOf kind a 0).2 ≠ 0
  · refine WP.region ?_
    refine Ops.y (v := .int .i64 _) (Y.move rfl) ?_
    refine Ops.y (v := .bool false) (Y.dec_f (Y.nei rfl rfl) (o0)) ?_
    refine Ops.y (v := .bool _) (Y.move rfl) ?_
    refine Ops.ygt rfl (v := .int .i64 _) (Y.move rfl) ?_
    refine Ops.ygt rfl (v := .bool false) (Y.dec_f (Y.nei rfl rfl) (o1)) ?_
    refine Ops.y (v := .bool _) (Y.pick_f rfl rfl) ?_
    refine Ops.y (v := .bool _) (Y.move rfl) ?_
    refine Ops.ygt rfl (v := .int .i64 _) (Y.move rfl) ?_
    refine Ops.ygt rfl (v := .bool false) (Y.dec_f (Y.nei rfl rfl) (o2)) ?_
    refine Ops.y (v := .bool _) (Y.pick_f rfl rfl) ?_
    refine Ops.y (v := .bool _) (Y.move rfl) ?_
    refine Ops.ygt rfl (v := .int .i64 _) (Y.move rfl) ?_
    refine Ops.ygt rfl (v := .bool false) (Y.dec_f (Y.nei rfl rfl) (o3)) ?_
    refine Ops.y (v := .bool _) (Y.pick_f rfl rfl) ?_
    refine Ops.y (v := .bool _) (Y.move rfl) ?_
    refine Ops.ygt rfl (v := .int .i64 _) (Y.move rfl) ?_
    refine Ops.ygt rfl (v := .bool false) (Y.dec_f (Y.nei rfl rfl) (o4)) ?_
    refine Ops.y (v := .bool _) (Y.pick_f rfl rfl) ?_
    refine Ops.y (v := .bool _) (Y.move rfl) ?_
    refine Ops.ygt rfl (v := .int .i64 _) (Y.move rfl) ?_
    refine Ops.ygt rfl (v := .bool true) (Y.dec_t (Y.nei rfl rfl) (o5)) ?_
    refine Ops.y (v := .bool _) (Y.pick_f rfl rfl) ?_
    refine Ops.nil ?_
    refine WP.cond_t rfl ?_
    refine WP.seq ?_
    refine WP.region ?_
    refine Ops.go (O.callv I Try.call16 (latBegun_ok _ I.base_ok) rfl ?_)
    intro w I
    refine Ops.y (v := .bool _) (Y.assign rfl) ?_
    refine Ops.nil ?_
    refine WP.ret ?_
    repeat (first | refine thenE_ret ?_ | refine blockE_ret ?_)
    exact retQ.mk (vs := [.bool _]) rfl ⟨rfl, trivial⟩ I.ext_of (rfl)
  refine WP.region ?_
  refine Ops.y (v := .int .i64 _) (Y.move rfl) ?_
  refine Ops.y (v := .bool false) (Y.dec_f (Y.nei rfl rfl) (o0)) ?_
  refine Ops.y (v := .bool _) (Y.move rfl) ?_
  refine Ops.ygt rfl (v := .int .i64 _) (Y.move rfl) ?_
  refine Ops.ygt rfl (v := .bool false) (Y.dec_f (Y.nei rfl rfl) (o1)) ?_
  refine Ops.y (v := .bool _) (Y.pick_f rfl rfl) ?_
  refine Ops.y (v := .bool _) (Y.move rfl) ?_
  refine Ops.ygt rfl (v := .int .i64 _) (Y.move rfl) ?_
  refine Ops.ygt rfl (v := .bool false) (Y.dec_f (Y.nei rfl rfl) (o2)) ?_
  refine Ops.y (v := .bool _) (Y.pick_f rfl rfl) ?_
  refine Ops.y (v := .bool _) (Y.move rfl) ?_
  refine Ops.ygt rfl (v := .int .i64 _) (Y.move rfl) ?_
  refine Ops.ygt rfl (v := .bool false) (Y.dec_f (Y.nei rfl rfl) (o3)) ?_
  refine Ops.y (v := .bool _) (Y.pick_f rfl rfl) ?_
  refine Ops.y (v := .bool _) (Y.move rfl) ?_
  refine Ops.ygt rfl (v := .int .i64 _) (Y.move rfl) ?_
  refine Ops.ygt rfl (v := .bool false) (Y.dec_f (Y.nei rfl rfl) (o4)) ?_
  refine Ops.y (v := .bool _) (Y.pick_f rfl rfl) ?_
  refine Ops.y (v := .bool _) (Y.move rfl) ?_
  refine Ops.ygt rfl (v := .int .i64 _) (Y.move rfl) ?_
  refine Ops.ygt rfl (v := .bool false) (Y.dec_f (Y.nei rfl rfl) (o5)) ?_
  refine Ops.y (v := .bool _) (Y.pick_f rfl rfl) ?_
  refine Ops.nil ?_
  refine WP.cond_f rfl ?_
  simp only [ne_eq, Decidable.not_not] at o0 o1 o2 o3 o4 o5
  obtain ⟨ha, hb⟩ := leqOf_ok o1; obtain ⟨_, hc⟩ := leqOf_ok o3; obtain ⟨_, hn⟩ := liftOf_ok o5
  have e1 : (leqOf kind a a).1 = true := by rw [leqOf_eq ha ha]; exact decide_eq_true (joinV_idem ha)
  have e2 : (leqOf kind a b).1 = decide (LeV kind a b) := by rw [leqOf_eq ha hb]
  have e3 : (leqOf kind b a).1 = decide (LeV kind b a) := by rw [leqOf_eq hb ha]
  have e4 : (leqOf kind b c).1 = decide (LeV kind b c) := by rw [leqOf_eq hb hc]
  have e5 : (leqOf kind a c).1 = decide (LeV kind a c) := by rw [leqOf_eq ha hc]
  have e6 : (liftOf kind a 0).1 = a := by rw [liftOf_eq ha hn, liftV_zero ha]
  have hi : LeV kind a a := joinV_idem ha
  by_cases l1 : LeV kind a b
  · have h96 : decide (LeV kind b a) = decide (a = b) := by
      by_cases h : a = b
      · rw [decide_eq_true (by rw [h]; exact joinV_idem hb), decide_eq_true h]
      · rw [decide_eq_false (fun h2 => h (leV_antisymm ha hb l1 h2)), decide_eq_false h]
    by_cases l2 : LeV kind b c
    · refine WP.skip ?_
      refine WP.seq ?_
      refine WP.region ?_
      refine Ops.go (O.callv I Try.call16 (latBegun_ok _ I.base_ok) rfl ?_)
      intro w I
      refine Ops.y (v := .bool _) (Y.move rfl) ?_
      refine Ops.ygt rfl (v := .bool true) (Y.b (Y.move rfl) (e1)) ?_
      refine Ops.y (v := .bool _) (Y.pick_t rfl rfl) ?_
      refine Ops.y (v := .bool _) (Y.move rfl) ?_
      refine Ops.ygt rfl (v := .bool true) (Y.b (Y.move rfl) ((by rw [e2]; exact decide_eq_true l1))) ?_
      refine Ops.ygt rfl (v := .bool _) (Y.move rfl) ?_
      refine Ops.ygt rfl (v := .bool _) (Y.move rfl) ?_
      refine Ops.ygt rfl (v := .bool _) (Y.pick_t rfl rfl) ?_
      refine Ops.ygt rfl (v := .int .i64 _) (Y.move rfl) ?_
      refine Ops.ygt rfl (v := .int .i64 _) (Y.move rfl) ?_
      refine Ops.ygt rfl (v := .bool (decide _)) (Y.eqi rfl rfl) ?_
      refine Ops.ygt rfl (v := .bool true) (Y.dec_t (Y.eqb Try.underlying4 rfl rfl) ((by rw [e3]; exact h96))) ?_
      refine Ops.y (v := .bool _) (Y.pick_t rfl rfl) ?_
      refine Ops.y (v := .bool _) (Y.move rfl) ?_
      refine Ops.ygt rfl (v := .bool true) (Y.b (Y.move rfl) ((by rw [e2]; exact decide_eq_true l1))) ?_
      refine Ops.ygt rfl (v := .bool false) (Y.not (b := true) rfl) ?_
      refine Ops.ygt rfl (v := .bool _) (Y.move rfl) ?_
      refine Ops.ygt rfl (v := .bool true) (Y.b (Y.move rfl) ((by rw [e4]; exact decide_eq_true l2))) ?_
      refine Ops.ygt rfl (v := .bool false) (Y.not (b := true) rfl) ?_
      refine Ops.ygt rfl (v := .bool _) (Y.pick_f rfl rfl) ?_
      refine Ops.ygt rfl (v := .bool _) (Y.move rfl) ?_
      refine Ops.ygt rfl (v := .bool true) (Y.b (Y.move rfl) ((by rw [e5]; exact decide_eq_true (leV_trans ha hb hc l1 l2)))) ?_
      refine Ops.ygt rfl (v := .bool _) (Y.pick_f rfl rfl) ?_
      refine Ops.y (v := .bool _) (Y.pick_t rfl rfl) ?_
      refine Ops.y (v := .bool _) (Y.move rfl) ?_
      refine Ops.ygt rfl (v := .int .i64 _) (Y.move rfl) ?_
      refine Ops.ygt rfl (v := .int .i64 _) (Y.move rfl) ?_
      refine Ops.ygt rfl (v := .bool true) (Y.dec_t (Y.eqi rfl rfl) (e6)) ?_
      refine Ops.y (v := .bool _) (Y.pick_t rfl rfl) ?_
      refine Ops.y (v := .bool _) (Y.assign rfl) ?_
      refine Ops.nil ?_
      refine WP.ret ?_
      repeat (first | refine thenE_ret ?_ | refine blockE_ret ?_)
      exact retQ.mk (vs := [.bool _]) rfl ⟨rfl, trivial⟩ I.ext_of (rfl)
    · refine WP.skip ?_
      refine WP.seq ?_
      refine WP.region ?_
      refine Ops.go (O.callv I Try.call16 (latBegun_ok _ I.base_ok) rfl ?_)
      intro w I
      refine Ops.y (v := .bool _) (Y.move rfl) ?_
      refine Ops.ygt rfl (v := .bool true) (Y.b (Y.move rfl) (e1)) ?_
      refine Ops.y (v := .bool _) (Y.pick_t rfl rfl) ?_
      refine Ops.y (v := .bool _) (Y.move rfl) ?_
      refine Ops.ygt rfl (v := .bool true) (Y.b (Y.move rfl) ((by rw [e2]; exact decide_eq_true l1))) ?_
      refine Ops.ygt rfl (v := .bool _) (Y.move rfl) ?_
      refine Ops.ygt rfl (v := .bool _) (Y.move rfl) ?_
      refine Ops.ygt rfl (v := .bool _) (Y.pick_t rfl rfl) ?_
      refine Ops.ygt rfl (v := .int .i64 _) (Y.move rfl) ?_
      refine Ops.ygt rfl (v := .int .i64 _) (Y.move rfl) ?_
      refine Ops.ygt rfl (v := .bool (decide _)) (Y.eqi rfl rfl) ?_
      refine Ops.ygt rfl (v := .bool true) (Y.dec_t (Y.eqb Try.underlying4 rfl rfl) ((by rw [e3]; exact h96))) ?_
      refine Ops.y (v := .bool _) (Y.pick_t rfl rfl) ?_
      refine Ops.y (v := .bool _) (Y.move rfl) ?_
      refine Ops.ygt rfl (v := .bool true) (Y.b (Y.move rfl) ((by rw [e2]; exact decide_eq_true l1))) ?_
      refine Ops.ygt rfl (v := .bool false) (Y.not (b := true) rfl) ?_
      refine Ops.ygt rfl (v := .bool _) (Y.move rfl) ?_
      refine Ops.ygt rfl (v := .bool false) (Y.b (Y.move rfl) ((by rw [e4]; exact decide_eq_false l2))) ?_
      refine Ops.ygt rfl (v := .bool true) (Y.not (b := false) rfl) ?_
      refine Ops.ygt rfl (v := .bool _) (Y.pick_f rfl rfl) ?_
      refine Ops.ygt rfl (v := .bool _) (Y.move rfl) ?_
      refine Ops.gf rfl ?_
      refine Ops.ygt rfl (v := .bool _) (Y.pick_t rfl rfl) ?_
      refine Ops.y (v := .bool _) (Y.pick_t rfl rfl) ?_
      refine Ops.y (v := .bool _) (Y.move rfl) ?_
      refine Ops.ygt rfl (v := .int .i64 _) (Y.move rfl) ?_
      refine Ops.ygt rfl (v := .int .i64 _) (Y.move rfl) ?_
      refine Ops.ygt rfl (v := .bool true) (Y.dec_t (Y.eqi rfl rfl) (e6)) ?_
      refine Ops.y (v := .bool _) (Y.pick_t rfl rfl) ?_
      refine Ops.y (v := .bool _) (Y.assign rfl) ?_
      refine Ops.nil ?_
      refine WP.ret ?_
      repeat (first | refine thenE_ret ?_ | refine blockE_ret ?_)
      exact retQ.mk (vs := [.bool _]) rfl ⟨rfl, trivial⟩ I.ext_of (rfl)
  · have hne : ¬ a = b := fun h => l1 (by rw [← h]; exact hi)
    refine WP.skip ?_
    refine WP.seq ?_
    refine WP.region ?_
    refine Ops.go (O.callv I Try.call16 (latBegun_ok _ I.base_ok) rfl ?_)
    intro w I
    refine Ops.y (v := .bool _) (Y.move rfl) ?_
    refine Ops.ygt rfl (v := .bool true) (Y.b (Y.move rfl) (e1)) ?_
    refine Ops.y (v := .bool _) (Y.pick_t rfl rfl) ?_
    refine Ops.y (v := .bool _) (Y.move rfl) ?_
    refine Ops.ygt rfl (v := .bool false) (Y.b (Y.move rfl) ((by rw [e2]; exact decide_eq_false l1))) ?_
    refine Ops.ygt rfl (v := .bool _) (Y.move rfl) ?_
    refine Ops.gf rfl ?_
    refine Ops.ygt rfl (v := .bool _) (Y.pick_f rfl rfl) ?_
    refine Ops.ygt rfl (v := .int .i64 _) (Y.move rfl) ?_
    refine Ops.ygt rfl (v := .int .i64 _) (Y.move rfl) ?_
    refine Ops.ygt rfl (v := .bool (decide _)) (Y.eqi rfl rfl) ?_
    refine Ops.ygt rfl (v := .bool true) (Y.dec_t (Y.eqb Try.underlying4 rfl rfl) ((by simp [hne]))) ?_
    refine Ops.y (v := .bool _) (Y.pick_t rfl rfl) ?_
    refine Ops.y (v := .bool _) (Y.move rfl) ?_
    refine Ops.ygt rfl (v := .bool false) (Y.b (Y.move rfl) ((by rw [e2]; exact decide_eq_false l1))) ?_
    refine Ops.ygt rfl (v := .bool true) (Y.not (b := false) rfl) ?_
    refine Ops.ygt rfl (v := .bool _) (Y.move rfl) ?_
    refine Ops.gf rfl ?_
    refine Ops.gf rfl ?_
    refine Ops.ygt rfl (v := .bool _) (Y.pick_t rfl rfl) ?_
    refine Ops.ygt rfl (v := .bool _) (Y.move rfl) ?_
    refine Ops.gf rfl ?_
    refine Ops.ygt rfl (v := .bool _) (Y.pick_t rfl rfl) ?_
    refine Ops.y (v := .bool _) (Y.pick_t rfl rfl) ?_
    refine Ops.y (v := .bool _) (Y.move rfl) ?_
    refine Ops.ygt rfl (v := .int .i64 _) (Y.move rfl) ?_
    refine Ops.ygt rfl (v := .int .i64 _) (Y.move rfl) ?_
    refine Ops.ygt rfl (v := .bool true) (Y.dec_t (Y.eqi rfl rfl) (e6)) ?_
    refine Ops.y (v := .bool _) (Y.pick_t rfl rfl) ?_
    refine Ops.y (v := .bool _) (Y.assign rfl) ?_
    refine Ops.nil ?_
    refine WP.ret ?_
    repeat (first | refine thenE_ret ?_ | refine blockE_ret ?_)
    exact retQ.mk (vs := [.bool _]) rfl ⟨rfl, trivial⟩ I.ext_of (rfl)
end Go.TF
