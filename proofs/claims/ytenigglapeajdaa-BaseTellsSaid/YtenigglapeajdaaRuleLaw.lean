/- What the laws of rules begin with. -/
import Derived.Test.YtenigglapeajdaaRule6
import Derived.Test.YtenigglapeajdaaRule4
import Derived.Test.YtenigglapeajdaaRule3
import Derived.Test.YtenigglapeajdaaSpProg
namespace Go.TF
open Go Go.RowKit Go.Proofs
set_option maxRecDepth 20000

theorem lV_ok (B : Base) (hB : B.ok) (n : Int) : Fn Try.prog 61 [.int .i64 n] B (fun v _ => v = (tV n).val) := by
  refine Fn.of Try.func61 rfl Try.ntmps61 (by kernel_rfl) (by simp) ?_
  intro e
  have I := Inv.start hB
  refine WP.seq ?_
  refine WP.region ?_
  refine Ops.go (O.alloc I Try.zeroValue91 rfl ?_)
  intro b2 w I
  refine Ops.nil ?_
  refine WP.seq ?_
  refine WP.region ?_
  refine Ops.y (v := .int .i64 _) (Y.move rfl) ?_
  refine Ops.y (v := .agg #[.bool _, .int .i64 _]) (Y.build pl_91 Try.zeroValue91 rfl rfl) ?_
  refine Ops.go (O.store (v := .agg #[_, _]) I ty_91 0 rfl rfl rfl rfl rfl rfl (Nat.le_of_ble_eq_true rfl) rfl ?_)
  intro w I
  refine Ops.nil ?_
  refine WP.ret ?_
  repeat (first | refine thenE_ret ?_ | refine blockE_ret ?_)
  exact retQ.mk (vs := [.agg #[_, _]]) rfl ⟨⟨_, _, _, _, _, rfl, ty_91, I.rdbox 0 rfl 0 2, rfl, rfl⟩, trivial⟩ I.ext_of (rfl)
theorem lC_ok (B : Base) (hB : B.ok) (n : Int) : Fn Try.prog 60 [.int .i64 n] B (fun v _ => v = (tC n).val) := by
  refine Fn.of Try.func60 rfl Try.ntmps60 (by kernel_rfl) (by simp) ?_
  intro e
  have I := Inv.start hB
  refine WP.seq ?_
  refine WP.region ?_
  refine Ops.go (O.alloc I Try.zeroValue91 rfl ?_)
  intro b2 w I
  refine Ops.nil ?_
  refine WP.seq ?_
  refine WP.region ?_
  refine Ops.y (v := .int .i64 _) (Y.move rfl) ?_
  refine Ops.y (v := .agg #[.bool _, .int .i64 _]) (Y.build pl_91 Try.zeroValue91 rfl rfl) ?_
  refine Ops.go (O.store (v := .agg #[_, _]) I ty_91 0 rfl rfl rfl rfl rfl rfl (Nat.le_of_ble_eq_true rfl) rfl ?_)
  intro w I
  refine Ops.nil ?_
  refine WP.ret ?_
  repeat (first | refine thenE_ret ?_ | refine blockE_ret ?_)
  exact retQ.mk (vs := [.agg #[_, _]]) rfl ⟨⟨_, _, _, _, _, rfl, ty_91, I.rdbox 0 rfl 0 2, rfl, rfl⟩, trivial⟩ I.ext_of (rfl)
theorem lAt_ok (B : Base) (hB : B.ok) (p : Int) (l : Sl Trm) : Fn Try.prog 59 [.int .i64 p, l.val] B (fun v _ => v = (Atm.mk p l).val) := by
  refine Fn.of Try.func59 rfl Try.ntmps59 (by kernel_rfl) (by simp) ?_
  intro e
  have I := Inv.start hB
  refine WP.seq ?_
  refine WP.region ?_
  refine Ops.go (O.alloc I Try.zeroValue56 rfl ?_)
  intro b4 w I
  refine Ops.nil ?_
  refine WP.seq ?_
  refine WP.region ?_
  refine Ops.y (v := .int .i64 _) (Y.move rfl) ?_
  refine Ops.y (v := .slice _ _ _) (Y.move rfl) ?_
  refine Ops.y (v := .agg #[.int .i64 _, .slice _ _ _]) (Y.build pl_56 Try.zeroValue56 rfl rfl) ?_
  refine Ops.go (O.store (v := .agg #[_, _]) I ty_56 0 rfl rfl rfl rfl rfl rfl (Nat.le_of_ble_eq_true rfl) rfl ?_)
  intro w I
  refine Ops.nil ?_
  refine WP.ret ?_
  repeat (first | refine thenE_ret ?_ | refine blockE_ret ?_)
  exact retQ.mk (vs := [.agg #[_, _]]) rfl ⟨⟨_, _, _, _, _, rfl, ty_56, I.rdbox 0 rfl 0 2, rfl, rfl⟩, trivial⟩ I.ext_of (rfl)
theorem lIs_ok (B : Base) (hB : B.ok) (a : Atm) : Fn Try.prog 62 [a.val] B (fun v _ => v = (Ltl.mk false a).val) := by
  refine Fn.of Try.func62 rfl Try.ntmps62 (by kernel_rfl) (by simp) ?_
  intro e
  have I := Inv.start hB
  refine WP.seq ?_
  refine WP.region ?_
  refine Ops.go (O.box (v := .agg #[_, _]) I rfl rfl ?_)
  intro b1 w I
  refine Ops.go (O.alloc I Try.zeroValue66 rfl ?_)
  intro b2 w I
  refine Ops.nil ?_
  refine WP.seq ?_
  refine WP.region ?_
  refine Ops.y (v := .agg #[_, _]) (Y.loadv ty_56 rfl (I.rdbox 1 rfl 0 2) rfl rfl) ?_
  refine Ops.y (v := .agg #[.bool _, .int .i64 _, .slice _ _ _]) (Y.build pl_66 Try.zeroValue66 rfl rfl) ?_
  refine Ops.go (O.store (v := .agg #[_, _, _]) I ty_66 0 rfl rfl rfl rfl rfl rfl (Nat.le_of_ble_eq_true rfl) rfl ?_)
  intro w I
  refine Ops.nil ?_
  refine WP.ret ?_
  repeat (first | refine thenE_ret ?_ | refine blockE_ret ?_)
  exact retQ.mk (vs := [.agg #[_, _, _]]) rfl ⟨⟨_, _, _, _, _, rfl, ty_66, I.rdbox 0 rfl 0 3, rfl, rfl⟩, trivial⟩ I.ext_of (rfl)
theorem lNot_ok (B : Base) (hB : B.ok) (a : Atm) : Fn Try.prog 63 [a.val] B (fun v _ => v = (Ltl.mk true a).val) := by
  refine Fn.of Try.func63 rfl Try.ntmps63 (by kernel_rfl) (by simp) ?_
  intro e
  have I := Inv.start hB
  refine WP.seq ?_
  refine WP.region ?_
  refine Ops.go (O.box (v := .agg #[_, _]) I rfl rfl ?_)
  intro b1 w I
  refine Ops.go (O.alloc I Try.zeroValue66 rfl ?_)
  intro b2 w I
  refine Ops.nil ?_
  refine WP.seq ?_
  refine WP.region ?_
  refine Ops.y (v := .agg #[_, _]) (Y.loadv ty_56 rfl (I.rdbox 1 rfl 0 2) rfl rfl) ?_
  refine Ops.y (v := .agg #[.bool _, .int .i64 _, .slice _ _ _]) (Y.build pl_66 Try.zeroValue66 rfl rfl) ?_
  refine Ops.go (O.store (v := .agg #[_, _, _]) I ty_66 0 rfl rfl rfl rfl rfl rfl (Nat.le_of_ble_eq_true rfl) rfl ?_)
  intro w I
  refine Ops.nil ?_
  refine WP.ret ?_
  repeat (first | refine thenE_ret ?_ | refine blockE_ret ?_)
  exact retQ.mk (vs := [.agg #[_, _, _]]) rfl ⟨⟨_, _, _, _, _, rfl, ty_66, I.rdbox 0 rfl 0 3, rfl, rfl⟩, trivial⟩ I.ext_of (rfl)
set_option maxHeartbeats 4000000 in
theorem roads_ok (B : Base) (hB : B.ok) : Fn Try.prog 31 [] B (fun v h => ∃ p : Prg, v = p.val ∧ RoadsAt p h) := by
  refine Fn.of Try.func31 rfl Try.ntmps31 (by kernel_rfl) (by simp) ?_
  intro e
  have I := Inv.start hB
  refine WP.seq ?_
  refine WP.region ?_
  refine Ops.go (O.alloc I Try.zeroValue25 rfl ?_)
  intro b0 w I
  refine Ops.nil ?_
  refine WP.seq ?_
  refine WP.region ?_
  refine Ops.y (v := .agg #[.string _, .int .i64 _, .int .i64 _]) (Y.build pl_51 Try.zeroValue51 rfl rfl) ?_
  refine Ops.y (v := .agg #[.string _, .int .i64 _, .int .i64 _]) (Y.build pl_51 Try.zeroValue51 rfl rfl) ?_
  refine Ops.y (v := .agg #[.string _, .int .i64 _, .int .i64 _]) (Y.build pl_51 Try.zeroValue51 rfl rfl) ?_
  refine Ops.go (O.mksl (xs := [⟨bEdge, 2, 0⟩, ⟨bFar, 2, 2⟩, ⟨bLone, 1, 0⟩]) (enc := Prd.enc) I Try.underlying22 Try.sizeOf51 Try.zeroValue51 rfl (Nat.le_of_ble_eq_true rfl) rfl rfl (by decide) (fun _ => rfl) ?_)
  intro b4 h4 w I le4 sl4
  refine Ops.go (O.callv I Try.call60 (lC_ok _ I.base_ok 0) rfl ?_)
  intro w I
  refine Ops.go (O.callv I Try.call60 (lC_ok _ I.base_ok 1) rfl ?_)
  intro w I
  refine Ops.go (O.mksl (xs := [tC 0, tC 1]) (enc := Trm.enc) I Try.underlying54 Try.sizeOf91 Try.zeroValue91 rfl (Nat.le_of_ble_eq_true rfl) rfl rfl (by decide) (fun _ => rfl) ?_)
  intro b7 h7 w I le7 sl7
  refine Ops.go (O.callv I Try.call59 (lAt_ok _ I.base_ok 0 ⟨some ⟨b7, 0, none⟩, 2, [tC 0, tC 1]⟩) rfl ?_)
  intro w I
  refine Ops.y (v := .agg #[.int .i64 _, .slice _ _ _, .int .i64 _, .int .i64 _, .slice _ _ _]) (Y.build pl_59 Try.zeroValue59 rfl rfl) ?_
  refine Ops.go (O.callv I Try.call60 (lC_ok _ I.base_ok 1) rfl ?_)
  intro w I
  refine Ops.go (O.callv I Try.call60 (lC_ok _ I.base_ok 2) rfl ?_)
  intro w I
  refine Ops.go (O.mksl (xs := [tC 1, tC 2]) (enc := Trm.enc) I Try.underlying54 Try.sizeOf91 Try.zeroValue91 rfl (Nat.le_of_ble_eq_true rfl) rfl rfl (by decide) (fun _ => rfl) ?_)
  intro b12 h12 w I le12 sl12
  refine Ops.go (O.callv I Try.call59 (lAt_ok _ I.base_ok 0 ⟨some ⟨b12, 0, none⟩, 2, [tC 1, tC 2]⟩) rfl ?_)
  intro w I
  refine Ops.y (v := .agg #[.int .i64 _, .slice _ _ _, .int .i64 _, .int .i64 _, .slice _ _ _]) (Y.build pl_59 Try.zeroValue59 rfl rfl) ?_
  refine Ops.go (O.callv I Try.call60 (lC_ok _ I.base_ok 2) rfl ?_)
  intro w I
  refine Ops.go (O.callv I Try.call60 (lC_ok _ I.base_ok 0) rfl ?_)
  intro w I
  refine Ops.go (O.mksl (xs := [tC 2, tC 0]) (enc := Trm.enc) I Try.underlying54 Try.sizeOf91 Try.zeroValue91 rfl (Nat.le_of_ble_eq_true rfl) rfl rfl (by decide) (fun _ => rfl) ?_)
  intro b17 h17 w I le17 sl17
  refine Ops.go (O.callv I Try.call59 (lAt_ok _ I.base_ok 0 ⟨some ⟨b17, 0, none⟩, 2, [tC 2, tC 0]⟩) rfl ?_)
  intro w I
  refine Ops.y (v := .agg #[.int .i64 _, .slice _ _ _, .int .i64 _, .int .i64 _, .slice _ _ _]) (Y.build pl_59 Try.zeroValue59 rfl rfl) ?_
  refine Ops.go (O.callv I Try.call60 (lC_ok _ I.base_ok 3) rfl ?_)
  intro w I
  refine Ops.go (O.callv I Try.call60 (lC_ok _ I.base_ok 0) rfl ?_)
  intro w I
  refine Ops.go (O.mksl (xs := [tC 3, tC 0]) (enc := Trm.enc) I Try.underlying54 Try.sizeOf91 Try.zeroValue91 rfl (Nat.le_of_ble_eq_true rfl) rfl rfl (by decide) (fun _ => rfl) ?_)
  intro b22 h22 w I le22 sl22
  refine Ops.go (O.callv I Try.call59 (lAt_ok _ I.base_ok 0 ⟨some ⟨b22, 0, none⟩, 2, [tC 3, tC 0]⟩) rfl ?_)
  intro w I
  refine Ops.y (v := .agg #[.int .i64 _, .slice _ _ _, .int .i64 _, .int .i64 _, .slice _ _ _]) (Y.build pl_59 Try.zeroValue59 rfl rfl) ?_
  refine Ops.go (O.callv I Try.call61 (lV_ok _ I.base_ok 0) rfl ?_)
  intro w I
  refine Ops.go (O.callv I Try.call61 (lV_ok _ I.base_ok 1) rfl ?_)
  intro w I
  refine Ops.go (O.mksl (xs := [tV 0, tV 1]) (enc := Trm.enc) I Try.underlying54 Try.sizeOf91 Try.zeroValue91 rfl (Nat.le_of_ble_eq_true rfl) rfl rfl (by decide) (fun _ => rfl) ?_)
  intro b27 h27 w I le27 sl27
  refine Ops.go (O.callv I Try.call59 (lAt_ok _ I.base_ok 1 ⟨some ⟨b27, 0, none⟩, 2, [tV 0, tV 1]⟩) rfl ?_)
  intro w I
  refine Ops.go (O.callv I Try.call61 (lV_ok _ I.base_ok 0) rfl ?_)
  intro w I
  refine Ops.go (O.callv I Try.call61 (lV_ok _ I.base_ok 1) rfl ?_)
  intro w I
  refine Ops.go (O.mksl (xs := [tV 0, tV 1]) (enc := Trm.enc) I Try.underlying54 Try.sizeOf91 Try.zeroValue91 rfl (Nat.le_of_ble_eq_true rfl) rfl rfl (by decide) (fun _ => rfl) ?_)
  intro b31 h31 w I le31 sl31
  refine Ops.go (O.callv I Try.call59 (lAt_ok _ I.base_ok 0 ⟨some ⟨b31, 0, none⟩, 2, [tV 0, tV 1]⟩) rfl ?_)
  intro w I
  refine Ops.go (O.callv I Try.call62 (lIs_ok _ I.base_ok ⟨0, ⟨some ⟨b31, 0, none⟩, 2, [tV 0, tV 1]⟩⟩) rfl ?_)
  intro w I
  refine Ops.go (O.mksl (xs := [⟨false, ⟨0, ⟨some ⟨b31, 0, none⟩, 2, [tV 0, tV 1]⟩⟩⟩]) (enc := Ltl.enc) I Try.underlying57 Try.sizeOf66 Try.zeroValue66 rfl (Nat.le_of_ble_eq_true rfl) rfl rfl (by decide) (fun _ => rfl) ?_)
  intro b34 h34 w I le34 sl34
  refine Ops.y (v := .agg #[.int .i64 _, .slice _ _ _, .int .i64 _, .int .i64 _, .slice _ _ _]) (Y.build pl_59 Try.zeroValue59 rfl rfl) ?_
  refine Ops.go (O.callv I Try.call61 (lV_ok _ I.base_ok 0) rfl ?_)
  intro w I
  refine Ops.go (O.callv I Try.call61 (lV_ok _ I.base_ok 2) rfl ?_)
  intro w I
  refine Ops.go (O.mksl (xs := [tV 0, tV 2]) (enc := Trm.enc) I Try.underlying54 Try.sizeOf91 Try.zeroValue91 rfl (Nat.le_of_ble_eq_true rfl) rfl rfl (by decide) (fun _ => rfl) ?_)
  intro b38 h38 w I le38 sl38
  refine Ops.go (O.callv I Try.call59 (lAt_ok _ I.base_ok 1 ⟨some ⟨b38, 0, none⟩, 2, [tV 0, tV 2]⟩) rfl ?_)
  intro w I
  refine Ops.go (O.callv I Try.call61 (lV_ok _ I.base_ok 0) rfl ?_)
  intro w I
  refine Ops.go (O.callv I Try.call61 (lV_ok _ I.base_ok 1) rfl ?_)
  intro w I
  refine Ops.go (O.mksl (xs := [tV 0, tV 1]) (enc := Trm.enc) I Try.underlying54 Try.sizeOf91 Try.zeroValue91 rfl (Nat.le_of_ble_eq_true rfl) rfl rfl (by decide) (fun _ => rfl) ?_)
  intro b42 h42 w I le42 sl42
  refine Ops.go (O.callv I Try.call59 (lAt_ok _ I.base_ok 1 ⟨some ⟨b42, 0, none⟩, 2, [tV 0, tV 1]⟩) rfl ?_)
  intro w I
  refine Ops.go (O.callv I Try.call62 (lIs_ok _ I.base_ok ⟨1, ⟨some ⟨b42, 0, none⟩, 2, [tV 0, tV 1]⟩⟩) rfl ?_)
  intro w I
  refine Ops.go (O.callv I Try.call61 (lV_ok _ I.base_ok 1) rfl ?_)
  intro w I
  refine Ops.go (O.callv I Try.call61 (lV_ok _ I.base_ok 2) rfl ?_)
  intro w I
  refine Ops.go (O.mksl (xs := [tV 1, tV 2]) (enc := Trm.enc) I Try.underlying54 Try.sizeOf91 Try.zeroValue91 rfl (Nat.le_of_ble_eq_true rfl) rfl rfl (by decide) (fun _ => rfl) ?_)
  intro b47 h47 w I le47 sl47
  refine Ops.go (O.callv I Try.call59 (lAt_ok _ I.base_ok 0 ⟨some ⟨b47, 0, none⟩, 2, [tV 1, tV 2]⟩) rfl ?_)
  intro w I
  refine Ops.go (O.callv I Try.call62 (lIs_ok _ I.base_ok ⟨0, ⟨some ⟨b47, 0, none⟩, 2, [tV 1, tV 2]⟩⟩) rfl ?_)
  intro w I
  refine Ops.go (O.mksl (xs := [⟨false, ⟨1, ⟨some ⟨b42, 0, none⟩, 2, [tV 0, tV 1]⟩⟩⟩, ⟨false, ⟨0, ⟨some ⟨b47, 0, none⟩, 2, [tV 1, tV 2]⟩⟩⟩]) (enc := Ltl.enc) I Try.underlying57 Try.sizeOf66 Try.zeroValue66 rfl (Nat.le_of_ble_eq_true rfl) rfl rfl (by decide) (fun _ => rfl) ?_)
  intro b50 h50 w I le50 sl50
  refine Ops.y (v := .agg #[.int .i64 _, .slice _ _ _, .int .i64 _, .int .i64 _, .slice _ _ _]) (Y.build pl_59 Try.zeroValue59 rfl rfl) ?_
  refine Ops.go (O.callv I Try.call61 (lV_ok _ I.base_ok 0) rfl ?_)
  intro w I
  refine Ops.go (O.mksl (xs := [tV 0]) (enc := Trm.enc) I Try.underlying54 Try.sizeOf91 Try.zeroValue91 rfl (Nat.le_of_ble_eq_true rfl) rfl rfl (by decide) (fun _ => rfl) ?_)
  intro b53 h53 w I le53 sl53
  refine Ops.go (O.callv I Try.call59 (lAt_ok _ I.base_ok 2 ⟨some ⟨b53, 0, none⟩, 1, [tV 0]⟩) rfl ?_)
  intro w I
  refine Ops.go (O.callv I Try.call61 (lV_ok _ I.base_ok 0) rfl ?_)
  intro w I
  refine Ops.go (O.callv I Try.call61 (lV_ok _ I.base_ok 1) rfl ?_)
  intro w I
  refine Ops.go (O.mksl (xs := [tV 0, tV 1]) (enc := Trm.enc) I Try.underlying54 Try.sizeOf91 Try.zeroValue91 rfl (Nat.le_of_ble_eq_true rfl) rfl rfl (by decide) (fun _ => rfl) ?_)
  intro b57 h57 w I le57 sl57
  refine Ops.go (O.callv I Try.call59 (lAt_ok _ I.base_ok 0 ⟨some ⟨b57, 0, none⟩, 2, [tV 0, tV 1]⟩) rfl ?_)
  intro w I
  refine Ops.go (O.callv I Try.call62 (lIs_ok _ I.base_ok ⟨0, ⟨some ⟨b57, 0, none⟩, 2, [tV 0, tV 1]⟩⟩) rfl ?_)
  intro w I
  refine Ops.go (O.callv I Try.call61 (lV_ok _ I.base_ok 0) rfl ?_)
  intro w I
  refine Ops.go (O.callv I Try.call61 (lV_ok _ I.base_ok 0) rfl ?_)
  intro w I
  refine Ops.go (O.mksl (xs := [tV 0, tV 0]) (enc := Trm.enc) I Try.underlying54 Try.sizeOf91 Try.zeroValue91 rfl (Nat.le_of_ble_eq_true rfl) rfl rfl (by decide) (fun _ => rfl) ?_)
  intro b62 h62 w I le62 sl62
  refine Ops.go (O.callv I Try.call59 (lAt_ok _ I.base_ok 1 ⟨some ⟨b62, 0, none⟩, 2, [tV 0, tV 0]⟩) rfl ?_)
  intro w I
  refine Ops.go (O.callv I Try.call63 (lNot_ok _ I.base_ok ⟨1, ⟨some ⟨b62, 0, none⟩, 2, [tV 0, tV 0]⟩⟩) rfl ?_)
  intro w I
  refine Ops.go (O.mksl (xs := [⟨false, ⟨0, ⟨some ⟨b57, 0, none⟩, 2, [tV 0, tV 1]⟩⟩⟩, ⟨true, ⟨1, ⟨some ⟨b62, 0, none⟩, 2, [tV 0, tV 0]⟩⟩⟩]) (enc := Ltl.enc) I Try.underlying57 Try.sizeOf66 Try.zeroValue66 rfl (Nat.le_of_ble_eq_true rfl) rfl rfl (by decide) (fun _ => rfl) ?_)
  intro b65 h65 w I le65 sl65
  refine Ops.y (v := .agg #[.int .i64 _, .slice _ _ _, .int .i64 _, .int .i64 _, .slice _ _ _]) (Y.build pl_59 Try.zeroValue59 rfl rfl) ?_
  refine Ops.go (O.mksl (xs := [⟨⟨0, ⟨some ⟨b7, 0, none⟩, 2, [tC 0, tC 1]⟩⟩, -1, 0, ⟨none, 0, []⟩⟩, ⟨⟨0, ⟨some ⟨b12, 0, none⟩, 2, [tC 1, tC 2]⟩⟩, -1, 0, ⟨none, 0, []⟩⟩, ⟨⟨0, ⟨some ⟨b17, 0, none⟩, 2, [tC 2, tC 0]⟩⟩, -1, 0, ⟨none, 0, []⟩⟩, ⟨⟨0, ⟨some ⟨b22, 0, none⟩, 2, [tC 3, tC 0]⟩⟩, -1, 0, ⟨none, 0, []⟩⟩, ⟨⟨1, ⟨some ⟨b27, 0, none⟩, 2, [tV 0, tV 1]⟩⟩, -1, 1, ⟨some ⟨b34, 0, none⟩, 1, [⟨false, ⟨0, ⟨some ⟨b31, 0, none⟩, 2, [tV 0, tV 1]⟩⟩⟩]⟩⟩, ⟨⟨1, ⟨some ⟨b38, 0, none⟩, 2, [tV 0, tV 2]⟩⟩, 0, 1, ⟨some ⟨b50, 0, none⟩, 2, [⟨false, ⟨1, ⟨some ⟨b42, 0, none⟩, 2, [tV 0, tV 1]⟩⟩⟩, ⟨false, ⟨0, ⟨some ⟨b47, 0, none⟩, 2, [tV 1, tV 2]⟩⟩⟩]⟩⟩, ⟨⟨2, ⟨some ⟨b53, 0, none⟩, 1, [tV 0]⟩⟩, -1, 0, ⟨some ⟨b65, 0, none⟩, 2, [⟨false, ⟨0, ⟨some ⟨b57, 0, none⟩, 2, [tV 0, tV 1]⟩⟩⟩, ⟨true, ⟨1, ⟨some ⟨b62, 0, none⟩, 2, [tV 0, tV 0]⟩⟩⟩]⟩⟩]) (enc := Rul.enc) I Try.underlying23 Try.sizeOf59 Try.zeroValue59 rfl (Nat.le_of_ble_eq_true rfl) rfl rfl (by decide) (fun _ => rfl) ?_)
  intro b67 h67 w I le67 sl67
  refine Ops.y (v := .agg #[.slice _ _ _, .slice _ _ _]) (Y.build pl_25 Try.zeroValue25 rfl rfl) ?_
  refine Ops.go (O.store (v := .agg #[_, _]) I ty_25 0 rfl rfl rfl rfl rfl rfl (Nat.le_of_ble_eq_true rfl) rfl ?_)
  intro w I
  refine Ops.nil ?_
  have q67 := Heap.le.refl h67
  have q65 := le67.trans q67
  have q62 := le65.trans q65
  have q57 := le62.trans q62
  have q53 := le57.trans q57
  have q50 := le53.trans q53
  have q47 := le50.trans q50
  have q42 := le47.trans q47
  have q38 := le42.trans q42
  have q34 := le38.trans q38
  have q31 := le34.trans q34
  have q27 := le31.trans q31
  have q22 := le27.trans q27
  have q17 := le22.trans q22
  have q12 := le17.trans q17
  have q7 := le12.trans q12
  have q4 := le7.trans q7
  have r0 : Rul.In ⟨⟨0, ⟨some ⟨b7, 0, none⟩, 2, [tC 0, tC 1]⟩⟩, -1, 0, ⟨none, 0, []⟩⟩ h67 := ⟨⟨sl7.le q7, by simp⟩, ⟨nilIs, by simp⟩⟩
  have r1 : Rul.In ⟨⟨0, ⟨some ⟨b12, 0, none⟩, 2, [tC 1, tC 2]⟩⟩, -1, 0, ⟨none, 0, []⟩⟩ h67 := ⟨⟨sl12.le q12, by simp⟩, ⟨nilIs, by simp⟩⟩
  have r2 : Rul.In ⟨⟨0, ⟨some ⟨b17, 0, none⟩, 2, [tC 2, tC 0]⟩⟩, -1, 0, ⟨none, 0, []⟩⟩ h67 := ⟨⟨sl17.le q17, by simp⟩, ⟨nilIs, by simp⟩⟩
  have r3 : Rul.In ⟨⟨0, ⟨some ⟨b22, 0, none⟩, 2, [tC 3, tC 0]⟩⟩, -1, 0, ⟨none, 0, []⟩⟩ h67 := ⟨⟨sl22.le q22, by simp⟩, ⟨nilIs, by simp⟩⟩
  have r4 : Rul.In ⟨⟨1, ⟨some ⟨b27, 0, none⟩, 2, [tV 0, tV 1]⟩⟩, -1, 1, ⟨some ⟨b34, 0, none⟩, 1, [⟨false, ⟨0, ⟨some ⟨b31, 0, none⟩, 2, [tV 0, tV 1]⟩⟩⟩]⟩⟩ h67 := ⟨⟨sl27.le q27, by simp⟩, ⟨⟨sl34.le q34, by simp⟩, by simp only [List.mem_cons, List.not_mem_nil, or_false]; rintro x (rfl) <;> first | exact (⟨sl31.le q31, by simp⟩ : Trms _ _)⟩⟩
  have r5 : Rul.In ⟨⟨1, ⟨some ⟨b38, 0, none⟩, 2, [tV 0, tV 2]⟩⟩, 0, 1, ⟨some ⟨b50, 0, none⟩, 2, [⟨false, ⟨1, ⟨some ⟨b42, 0, none⟩, 2, [tV 0, tV 1]⟩⟩⟩, ⟨false, ⟨0, ⟨some ⟨b47, 0, none⟩, 2, [tV 1, tV 2]⟩⟩⟩]⟩⟩ h67 := ⟨⟨sl38.le q38, by simp⟩, ⟨⟨sl50.le q50, by simp⟩, by simp only [List.mem_cons, List.not_mem_nil, or_false]; rintro x (rfl | rfl) <;> first | exact (⟨sl42.le q42, by simp⟩ : Trms _ _) | exact (⟨sl47.le q47, by simp⟩ : Trms _ _)⟩⟩
  have r6 : Rul.In ⟨⟨2, ⟨some ⟨b53, 0, none⟩, 1, [tV 0]⟩⟩, -1, 0, ⟨some ⟨b65, 0, none⟩, 2, [⟨false, ⟨0, ⟨some ⟨b57, 0, none⟩, 2, [tV 0, tV 1]⟩⟩⟩, ⟨true, ⟨1, ⟨some ⟨b62, 0, none⟩, 2, [tV 0, tV 0]⟩⟩⟩]⟩⟩ h67 := ⟨⟨sl53.le q53, by simp⟩, ⟨⟨sl65.le q65, by simp⟩, by simp only [List.mem_cons, List.not_mem_nil, or_false]; rintro x (rfl | rfl) <;> first | exact (⟨sl57.le q57, by simp⟩ : Trms _ _) | exact (⟨sl62.le q62, by simp⟩ : Trms _ _)⟩⟩
  refine WP.ret ?_
  repeat (first | refine thenE_ret ?_ | refine blockE_ret ?_)
  exact retQ.mk (vs := [.agg #[_, _]]) rfl ⟨⟨_, _, _, _, _, rfl, ty_25, I.rdbox 0 rfl 0 2, rfl, rfl⟩, trivial⟩ I.ext_of (⟨⟨⟨some ⟨b4, 0, none⟩, 3, [⟨bEdge, 2, 0⟩, ⟨bFar, 2, 2⟩, ⟨bLone, 1, 0⟩]⟩, ⟨some ⟨b67, 0, none⟩, 7, [⟨⟨0, ⟨some ⟨b7, 0, none⟩, 2, [tC 0, tC 1]⟩⟩, -1, 0, ⟨none, 0, []⟩⟩, ⟨⟨0, ⟨some ⟨b12, 0, none⟩, 2, [tC 1, tC 2]⟩⟩, -1, 0, ⟨none, 0, []⟩⟩, ⟨⟨0, ⟨some ⟨b17, 0, none⟩, 2, [tC 2, tC 0]⟩⟩, -1, 0, ⟨none, 0, []⟩⟩, ⟨⟨0, ⟨some ⟨b22, 0, none⟩, 2, [tC 3, tC 0]⟩⟩, -1, 0, ⟨none, 0, []⟩⟩, ⟨⟨1, ⟨some ⟨b27, 0, none⟩, 2, [tV 0, tV 1]⟩⟩, -1, 1, ⟨some ⟨b34, 0, none⟩, 1, [⟨false, ⟨0, ⟨some ⟨b31, 0, none⟩, 2, [tV 0, tV 1]⟩⟩⟩]⟩⟩, ⟨⟨1, ⟨some ⟨b38, 0, none⟩, 2, [tV 0, tV 2]⟩⟩, 0, 1, ⟨some ⟨b50, 0, none⟩, 2, [⟨false, ⟨1, ⟨some ⟨b42, 0, none⟩, 2, [tV 0, tV 1]⟩⟩⟩, ⟨false, ⟨0, ⟨some ⟨b47, 0, none⟩, 2, [tV 1, tV 2]⟩⟩⟩]⟩⟩, ⟨⟨2, ⟨some ⟨b53, 0, none⟩, 1, [tV 0]⟩⟩, -1, 0, ⟨some ⟨b65, 0, none⟩, 2, [⟨false, ⟨0, ⟨some ⟨b57, 0, none⟩, 2, [tV 0, tV 1]⟩⟩⟩, ⟨true, ⟨1, ⟨some ⟨b62, 0, none⟩, 2, [tV 0, tV 0]⟩⟩⟩]⟩⟩]⟩⟩, rfl, ⟨⟨sl4.le q4, by simp⟩, ⟨⟨sl67.le q67, by simp⟩, by simp only [List.mem_cons, List.not_mem_nil, or_false]; rintro x (rfl | rfl | rfl | rfl | rfl | rfl | rfl) <;> assumption⟩⟩, rfl, by simp only [List.mem_cons, List.not_mem_nil, or_false]; rintro x (rfl | rfl | rfl | rfl | rfl | rfl | rfl) <;> simp⟩)
end Go.TF
