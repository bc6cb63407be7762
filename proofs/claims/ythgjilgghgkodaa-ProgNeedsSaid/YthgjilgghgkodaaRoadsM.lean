/- The roads, their arrays the caller's own. -/
import Derived.Test.YthgjilgghgkodaaRuleLaw
import Derived.Test.YthgjilgghgkodaaBase11
namespace Go.TF
open Go Go.RowKit Go.Proofs
set_option maxRecDepth 20000

def prC : List Prd := [⟨bEdge, 2, 0⟩, ⟨bFar, 2, 2⟩, ⟨bLone, 1, 0⟩]
structure RoadsM (v : Value) (h : Heap) (M : List SA) (bp br : Nat) (r0 r1 r2 r3 r4 r5 r6 : Rul) : Prop where
  val : v = .agg #[.slice (some ⟨bp, 0, none⟩) 3 3, .slice (some ⟨br, 0, none⟩) 7 7]
  own : M = [box br ([r0, r1, r2, r3, r4, r5, r6].flatMap Rul.enc) 38, box bp (prC.flatMap Prd.enc) 49]
  is : ∀ x ∈ [r0, r1, r2, r3, r4, r5, r6], x.In h
  cap : ∀ x ∈ [r0, r1, r2, r3, r4, r5, r6], x.body.xs.length ≤ x.body.cap
  er : [r0, r1, r2, r3, r4, r5, r6].map Rul.er = roadsC.rules.xs
set_option maxHeartbeats 4000000 in
theorem roads_okM (B : Base) (hB : B.ok) : FnM Try.prog 57 [] B (fun v h M => ∃ bp br r0 r1 r2 r3 r4 r5 r6, RoadsM v h M bp br r0 r1 r2 r3 r4 r5 r6) := by
  refine FnM.of Try.func57 rfl Try.ntmps57 (by kernel_rfl) (by simp) ?_
  intro e
  have I := Inv.start hB
  refine WP.seq ?_
  refine WP.region ?_
  refine Ops.go (O.alloc I Try.zeroValue54 rfl ?_)
  intro b0 w I
  refine Ops.nil ?_
  refine WP.seq ?_
  refine WP.region ?_
  refine Ops.y (v := .agg #[.string _, .int .i64 _, .int .i64 _]) (Y.build pl_49 Try.zeroValue49 rfl rfl) ?_
  refine Ops.y (v := .agg #[.string _, .int .i64 _, .int .i64 _]) (Y.build pl_49 Try.zeroValue49 rfl rfl) ?_
  refine Ops.y (v := .agg #[.string _, .int .i64 _, .int .i64 _]) (Y.build pl_49 Try.zeroValue49 rfl rfl) ?_
  refine Ops.go (O.mkbox (cs := [.string bEdge, .int .i64 2, .int .i64 0, .string bFar, .int .i64 2, .int .i64 2, .string bLone, .int .i64 1, .int .i64 0]) I Try.underlying32 Try.sizeOf49 Try.zeroValue49 (by decide) (by decide) rfl rfl ?_)
  intro b4 w I
  refine Ops.go (O.callv I Try.call60 (lC_ok _ I.base_ok 0) rfl ?_)
  intro w I
  refine Ops.go (O.callv I Try.call60 (lC_ok _ I.base_ok 1) rfl ?_)
  intro w I
  refine Ops.go (O.mksl (xs := [tC 0, tC 1]) (enc := Trm.enc) I Try.underlying33 Try.sizeOf83 Try.zeroValue83 rfl (Nat.le_of_ble_eq_true rfl) rfl rfl (by decide) (fun _ => rfl) ?_)
  intro b7 h7 w I le7 sl7
  refine Ops.go (O.callv I Try.call58 (lAt_ok _ I.base_ok 0 ⟨some ⟨b7, 0, none⟩, 2, [tC 0, tC 1]⟩) rfl ?_)
  intro w I
  refine Ops.y (v := .agg #[.int .i64 _, .slice _ _ _, .int .i64 _, .int .i64 _, .slice _ _ _]) (Y.build pl_38 Try.zeroValue38 rfl rfl) ?_
  refine Ops.go (O.callv I Try.call60 (lC_ok _ I.base_ok 1) rfl ?_)
  intro w I
  refine Ops.go (O.callv I Try.call60 (lC_ok _ I.base_ok 2) rfl ?_)
  intro w I
  refine Ops.go (O.mksl (xs := [tC 1, tC 2]) (enc := Trm.enc) I Try.underlying33 Try.sizeOf83 Try.zeroValue83 rfl (Nat.le_of_ble_eq_true rfl) rfl rfl (by decide) (fun _ => rfl) ?_)
  intro b12 h12 w I le12 sl12
  refine Ops.go (O.callv I Try.call58 (lAt_ok _ I.base_ok 0 ⟨some ⟨b12, 0, none⟩, 2, [tC 1, tC 2]⟩) rfl ?_)
  intro w I
  refine Ops.y (v := .agg #[.int .i64 _, .slice _ _ _, .int .i64 _, .int .i64 _, .slice _ _ _]) (Y.build pl_38 Try.zeroValue38 rfl rfl) ?_
  refine Ops.go (O.callv I Try.call60 (lC_ok _ I.base_ok 2) rfl ?_)
  intro w I
  refine Ops.go (O.callv I Try.call60 (lC_ok _ I.base_ok 0) rfl ?_)
  intro w I
  refine Ops.go (O.mksl (xs := [tC 2, tC 0]) (enc := Trm.enc) I Try.underlying33 Try.sizeOf83 Try.zeroValue83 rfl (Nat.le_of_ble_eq_true rfl) rfl rfl (by decide) (fun _ => rfl) ?_)
  intro b17 h17 w I le17 sl17
  refine Ops.go (O.callv I Try.call58 (lAt_ok _ I.base_ok 0 ⟨some ⟨b17, 0, none⟩, 2, [tC 2, tC 0]⟩) rfl ?_)
  intro w I
  refine Ops.y (v := .agg #[.int .i64 _, .slice _ _ _, .int .i64 _, .int .i64 _, .slice _ _ _]) (Y.build pl_38 Try.zeroValue38 rfl rfl) ?_
  refine Ops.go (O.callv I Try.call60 (lC_ok _ I.base_ok 3) rfl ?_)
  intro w I
  refine Ops.go (O.callv I Try.call60 (lC_ok _ I.base_ok 0) rfl ?_)
  intro w I
  refine Ops.go (O.mksl (xs := [tC 3, tC 0]) (enc := Trm.enc) I Try.underlying33 Try.sizeOf83 Try.zeroValue83 rfl (Nat.le_of_ble_eq_true rfl) rfl rfl (by decide) (fun _ => rfl) ?_)
  intro b22 h22 w I le22 sl22
  refine Ops.go (O.callv I Try.call58 (lAt_ok _ I.base_ok 0 ⟨some ⟨b22, 0, none⟩, 2, [tC 3, tC 0]⟩) rfl ?_)
  intro w I
  refine Ops.y (v := .agg #[.int .i64 _, .slice _ _ _, .int .i64 _, .int .i64 _, .slice _ _ _]) (Y.build pl_38 Try.zeroValue38 rfl rfl) ?_
  refine Ops.go (O.callv I Try.call59 (lV_ok _ I.base_ok 0) rfl ?_)
  intro w I
  refine Ops.go (O.callv I Try.call59 (lV_ok _ I.base_ok 1) rfl ?_)
  intro w I
  refine Ops.go (O.mksl (xs := [tV 0, tV 1]) (enc := Trm.enc) I Try.underlying33 Try.sizeOf83 Try.zeroValue83 rfl (Nat.le_of_ble_eq_true rfl) rfl rfl (by decide) (fun _ => rfl) ?_)
  intro b27 h27 w I le27 sl27
  refine Ops.go (O.callv I Try.call58 (lAt_ok _ I.base_ok 1 ⟨some ⟨b27, 0, none⟩, 2, [tV 0, tV 1]⟩) rfl ?_)
  intro w I
  refine Ops.go (O.callv I Try.call59 (lV_ok _ I.base_ok 0) rfl ?_)
  intro w I
  refine Ops.go (O.callv I Try.call59 (lV_ok _ I.base_ok 1) rfl ?_)
  intro w I
  refine Ops.go (O.mksl (xs := [tV 0, tV 1]) (enc := Trm.enc) I Try.underlying33 Try.sizeOf83 Try.zeroValue83 rfl (Nat.le_of_ble_eq_true rfl) rfl rfl (by decide) (fun _ => rfl) ?_)
  intro b31 h31 w I le31 sl31
  refine Ops.go (O.callv I Try.call58 (lAt_ok _ I.base_ok 0 ⟨some ⟨b31, 0, none⟩, 2, [tV 0, tV 1]⟩) rfl ?_)
  intro w I
  refine Ops.go (O.callv I Try.call88 (lIs_ok _ I.base_ok ⟨0, ⟨some ⟨b31, 0, none⟩, 2, [tV 0, tV 1]⟩⟩) rfl ?_)
  intro w I
  refine Ops.go (O.mksl (xs := [⟨false, ⟨0, ⟨some ⟨b31, 0, none⟩, 2, [tV 0, tV 1]⟩⟩⟩]) (enc := Ltl.enc) I Try.underlying36 Try.sizeOf71 Try.zeroValue71 rfl (Nat.le_of_ble_eq_true rfl) rfl rfl (by decide) (fun _ => rfl) ?_)
  intro b34 h34 w I le34 sl34
  refine Ops.y (v := .agg #[.int .i64 _, .slice _ _ _, .int .i64 _, .int .i64 _, .slice _ _ _]) (Y.build pl_38 Try.zeroValue38 rfl rfl) ?_
  refine Ops.go (O.callv I Try.call59 (lV_ok _ I.base_ok 0) rfl ?_)
  intro w I
  refine Ops.go (O.callv I Try.call59 (lV_ok _ I.base_ok 2) rfl ?_)
  intro w I
  refine Ops.go (O.mksl (xs := [tV 0, tV 2]) (enc := Trm.enc) I Try.underlying33 Try.sizeOf83 Try.zeroValue83 rfl (Nat.le_of_ble_eq_true rfl) rfl rfl (by decide) (fun _ => rfl) ?_)
  intro b38 h38 w I le38 sl38
  refine Ops.go (O.callv I Try.call58 (lAt_ok _ I.base_ok 1 ⟨some ⟨b38, 0, none⟩, 2, [tV 0, tV 2]⟩) rfl ?_)
  intro w I
  refine Ops.go (O.callv I Try.call59 (lV_ok _ I.base_ok 0) rfl ?_)
  intro w I
  refine Ops.go (O.callv I Try.call59 (lV_ok _ I.base_ok 1) rfl ?_)
  intro w I
  refine Ops.go (O.mksl (xs := [tV 0, tV 1]) (enc := Trm.enc) I Try.underlying33 Try.sizeOf83 Try.zeroValue83 rfl (Nat.le_of_ble_eq_true rfl) rfl rfl (by decide) (fun _ => rfl) ?_)
  intro b42 h42 w I le42 sl42
  refine Ops.go (O.callv I Try.call58 (lAt_ok _ I.base_ok 1 ⟨some ⟨b42, 0, none⟩, 2, [tV 0, tV 1]⟩) rfl ?_)
  intro w I
  refine Ops.go (O.callv I Try.call88 (lIs_ok _ I.base_ok ⟨1, ⟨some ⟨b42, 0, none⟩, 2, [tV 0, tV 1]⟩⟩) rfl ?_)
  intro w I
  refine Ops.go (O.callv I Try.call59 (lV_ok _ I.base_ok 1) rfl ?_)
  intro w I
  refine Ops.go (O.callv I Try.call59 (lV_ok _ I.base_ok 2) rfl ?_)
  intro w I
  refine Ops.go (O.mksl (xs := [tV 1, tV 2]) (enc := Trm.enc) I Try.underlying33 Try.sizeOf83 Try.zeroValue83 rfl (Nat.le_of_ble_eq_true rfl) rfl rfl (by decide) (fun _ => rfl) ?_)
  intro b47 h47 w I le47 sl47
  refine Ops.go (O.callv I Try.call58 (lAt_ok _ I.base_ok 0 ⟨some ⟨b47, 0, none⟩, 2, [tV 1, tV 2]⟩) rfl ?_)
  intro w I
  refine Ops.go (O.callv I Try.call88 (lIs_ok _ I.base_ok ⟨0, ⟨some ⟨b47, 0, none⟩, 2, [tV 1, tV 2]⟩⟩) rfl ?_)
  intro w I
  refine Ops.go (O.mksl (xs := [⟨false, ⟨1, ⟨some ⟨b42, 0, none⟩, 2, [tV 0, tV 1]⟩⟩⟩, ⟨false, ⟨0, ⟨some ⟨b47, 0, none⟩, 2, [tV 1, tV 2]⟩⟩⟩]) (enc := Ltl.enc) I Try.underlying36 Try.sizeOf71 Try.zeroValue71 rfl (Nat.le_of_ble_eq_true rfl) rfl rfl (by decide) (fun _ => rfl) ?_)
  intro b50 h50 w I le50 sl50
  refine Ops.y (v := .agg #[.int .i64 _, .slice _ _ _, .int .i64 _, .int .i64 _, .slice _ _ _]) (Y.build pl_38 Try.zeroValue38 rfl rfl) ?_
  refine Ops.go (O.callv I Try.call59 (lV_ok _ I.base_ok 0) rfl ?_)
  intro w I
  refine Ops.go (O.mksl (xs := [tV 0]) (enc := Trm.enc) I Try.underlying33 Try.sizeOf83 Try.zeroValue83 rfl (Nat.le_of_ble_eq_true rfl) rfl rfl (by decide) (fun _ => rfl) ?_)
  intro b53 h53 w I le53 sl53
  refine Ops.go (O.callv I Try.call58 (lAt_ok _ I.base_ok 2 ⟨some ⟨b53, 0, none⟩, 1, [tV 0]⟩) rfl ?_)
  intro w I
  refine Ops.go (O.callv I Try.call59 (lV_ok _ I.base_ok 0) rfl ?_)
  intro w I
  refine Ops.go (O.callv I Try.call59 (lV_ok _ I.base_ok 1) rfl ?_)
  intro w I
  refine Ops.go (O.mksl (xs := [tV 0, tV 1]) (enc := Trm.enc) I Try.underlying33 Try.sizeOf83 Try.zeroValue83 rfl (Nat.le_of_ble_eq_true rfl) rfl rfl (by decide) (fun _ => rfl) ?_)
  intro b57 h57 w I le57 sl57
  refine Ops.go (O.callv I Try.call58 (lAt_ok _ I.base_ok 0 ⟨some ⟨b57, 0, none⟩, 2, [tV 0, tV 1]⟩) rfl ?_)
  intro w I
  refine Ops.go (O.callv I Try.call88 (lIs_ok _ I.base_ok ⟨0, ⟨some ⟨b57, 0, none⟩, 2, [tV 0, tV 1]⟩⟩) rfl ?_)
  intro w I
  refine Ops.go (O.callv I Try.call59 (lV_ok _ I.base_ok 0) rfl ?_)
  intro w I
  refine Ops.go (O.callv I Try.call59 (lV_ok _ I.base_ok 0) rfl ?_)
  intro w I
  refine Ops.go (O.mksl (xs := [tV 0, tV 0]) (enc := Trm.enc) I Try.underlying33 Try.sizeOf83 Try.zeroValue83 rfl (Nat.le_of_ble_eq_true rfl) rfl rfl (by decide) (fun _ => rfl) ?_)
  intro b62 h62 w I le62 sl62
  refine Ops.go (O.callv I Try.call58 (lAt_ok _ I.base_ok 1 ⟨some ⟨b62, 0, none⟩, 2, [tV 0, tV 0]⟩) rfl ?_)
  intro w I
  refine Ops.go (O.callv I Try.call69 (lNot_ok _ I.base_ok ⟨1, ⟨some ⟨b62, 0, none⟩, 2, [tV 0, tV 0]⟩⟩) rfl ?_)
  intro w I
  refine Ops.go (O.mksl (xs := [⟨false, ⟨0, ⟨some ⟨b57, 0, none⟩, 2, [tV 0, tV 1]⟩⟩⟩, ⟨true, ⟨1, ⟨some ⟨b62, 0, none⟩, 2, [tV 0, tV 0]⟩⟩⟩]) (enc := Ltl.enc) I Try.underlying36 Try.sizeOf71 Try.zeroValue71 rfl (Nat.le_of_ble_eq_true rfl) rfl rfl (by decide) (fun _ => rfl) ?_)
  intro b65 h65 w I le65 sl65
  refine Ops.y (v := .agg #[.int .i64 _, .slice _ _ _, .int .i64 _, .int .i64 _, .slice _ _ _]) (Y.build pl_38 Try.zeroValue38 rfl rfl) ?_
  refine Ops.go (O.mkbox (cs := ([⟨⟨0, ⟨some ⟨b7, 0, none⟩, 2, [tC 0, tC 1]⟩⟩, -1, 0, ⟨none, 0, []⟩⟩, ⟨⟨0, ⟨some ⟨b12, 0, none⟩, 2, [tC 1, tC 2]⟩⟩, -1, 0, ⟨none, 0, []⟩⟩, ⟨⟨0, ⟨some ⟨b17, 0, none⟩, 2, [tC 2, tC 0]⟩⟩, -1, 0, ⟨none, 0, []⟩⟩, ⟨⟨0, ⟨some ⟨b22, 0, none⟩, 2, [tC 3, tC 0]⟩⟩, -1, 0, ⟨none, 0, []⟩⟩, ⟨⟨1, ⟨some ⟨b27, 0, none⟩, 2, [tV 0, tV 1]⟩⟩, -1, 1, ⟨some ⟨b34, 0, none⟩, 1, [⟨false, ⟨0, ⟨some ⟨b31, 0, none⟩, 2, [tV 0, tV 1]⟩⟩⟩]⟩⟩, ⟨⟨1, ⟨some ⟨b38, 0, none⟩, 2, [tV 0, tV 2]⟩⟩, 0, 1, ⟨some ⟨b50, 0, none⟩, 2, [⟨false, ⟨1, ⟨some ⟨b42, 0, none⟩, 2, [tV 0, tV 1]⟩⟩⟩, ⟨false, ⟨0, ⟨some ⟨b47, 0, none⟩, 2, [tV 1, tV 2]⟩⟩⟩]⟩⟩, ⟨⟨2, ⟨some ⟨b53, 0, none⟩, 1, [tV 0]⟩⟩, -1, 0, ⟨some ⟨b65, 0, none⟩, 2, [⟨false, ⟨0, ⟨some ⟨b57, 0, none⟩, 2, [tV 0, tV 1]⟩⟩⟩, ⟨true, ⟨1, ⟨some ⟨b62, 0, none⟩, 2, [tV 0, tV 0]⟩⟩⟩]⟩⟩].flatMap Rul.enc)) I Try.underlying52 Try.sizeOf38 Try.zeroValue38 (by decide) (by decide) rfl rfl ?_)
  intro b67 w I
  refine Ops.y (v := .agg #[.slice _ _ _, .slice _ _ _]) (Y.build pl_54 Try.zeroValue54 rfl rfl) ?_
  refine Ops.go (O.store (v := .agg #[_, _]) I ty_54 2 rfl rfl rfl rfl rfl rfl (Nat.le_of_ble_eq_true rfl) rfl ?_)
  intro w I
  refine Ops.nil ?_
  have q65 := Heap.le.refl h65
  have q62 := le65.trans q65
  have q57 := le62.trans q62
  have q53 := le57.trans q57
  have q50 := le53.trans q53
  have q47 := le50.trans q50
  have q42 := le47.trans q47
  have q38 := le42.trans q42
  have q34 := le38.trans q38
  have q31 := le34.trans q34
  have q27 := le31.trans q31
  have q22 := le27.trans q27
  have q17 := le22.trans q22
  have q12 := le17.trans q17
  have q7 := le12.trans q12
  have r0 : Rul.In ⟨⟨0, ⟨some ⟨b7, 0, none⟩, 2, [tC 0, tC 1]⟩⟩, -1, 0, ⟨none, 0, []⟩⟩ h65 := ⟨⟨sl7.le q7, by simp⟩, ⟨nilIs, by simp⟩⟩
  have r1 : Rul.In ⟨⟨0, ⟨some ⟨b12, 0, none⟩, 2, [tC 1, tC 2]⟩⟩, -1, 0, ⟨none, 0, []⟩⟩ h65 := ⟨⟨sl12.le q12, by simp⟩, ⟨nilIs, by simp⟩⟩
  have r2 : Rul.In ⟨⟨0, ⟨some ⟨b17, 0, none⟩, 2, [tC 2, tC 0]⟩⟩, -1, 0, ⟨none, 0, []⟩⟩ h65 := ⟨⟨sl17.le q17, by simp⟩, ⟨nilIs, by simp⟩⟩
  have r3 : Rul.In ⟨⟨0, ⟨some ⟨b22, 0, none⟩, 2, [tC 3, tC 0]⟩⟩, -1, 0, ⟨none, 0, []⟩⟩ h65 := ⟨⟨sl22.le q22, by simp⟩, ⟨nilIs, by simp⟩⟩
  have r4 : Rul.In ⟨⟨1, ⟨some ⟨b27, 0, none⟩, 2, [tV 0, tV 1]⟩⟩, -1, 1, ⟨some ⟨b34, 0, none⟩, 1, [⟨false, ⟨0, ⟨some ⟨b31, 0, none⟩, 2, [tV 0, tV 1]⟩⟩⟩]⟩⟩ h65 := ⟨⟨sl27.le q27, by simp⟩, ⟨⟨sl34.le q34, by simp⟩, by simp only [List.mem_cons, List.not_mem_nil, or_false]; rintro x (rfl) <;> first | exact (⟨sl31.le q31, by simp⟩ : Trms _ _)⟩⟩
  have r5 : Rul.In ⟨⟨1, ⟨some ⟨b38, 0, none⟩, 2, [tV 0, tV 2]⟩⟩, 0, 1, ⟨some ⟨b50, 0, none⟩, 2, [⟨false, ⟨1, ⟨some ⟨b42, 0, none⟩, 2, [tV 0, tV 1]⟩⟩⟩, ⟨false, ⟨0, ⟨some ⟨b47, 0, none⟩, 2, [tV 1, tV 2]⟩⟩⟩]⟩⟩ h65 := ⟨⟨sl38.le q38, by simp⟩, ⟨⟨sl50.le q50, by simp⟩, by simp only [List.mem_cons, List.not_mem_nil, or_false]; rintro x (rfl | rfl) <;> first | exact (⟨sl42.le q42, by simp⟩ : Trms _ _) | exact (⟨sl47.le q47, by simp⟩ : Trms _ _)⟩⟩
  have r6 : Rul.In ⟨⟨2, ⟨some ⟨b53, 0, none⟩, 1, [tV 0]⟩⟩, -1, 0, ⟨some ⟨b65, 0, none⟩, 2, [⟨false, ⟨0, ⟨some ⟨b57, 0, none⟩, 2, [tV 0, tV 1]⟩⟩⟩, ⟨true, ⟨1, ⟨some ⟨b62, 0, none⟩, 2, [tV 0, tV 0]⟩⟩⟩]⟩⟩ h65 := ⟨⟨sl53.le q53, by simp⟩, ⟨⟨sl65.le q65, by simp⟩, by simp only [List.mem_cons, List.not_mem_nil, or_false]; rintro x (rfl | rfl) <;> first | exact (⟨sl57.le q57, by simp⟩ : Trms _ _) | exact (⟨sl62.le q62, by simp⟩ : Trms _ _)⟩⟩
  refine WP.ret ?_
  repeat (first | refine thenE_ret ?_ | refine blockE_ret ?_)
  exact retM.mk (vs := [.agg #[_, _]]) rfl ⟨⟨_, _, _, _, _, rfl, ty_54, I.rdbox 2 rfl 0 2, rfl, rfl⟩, trivial⟩ (I.weak (List.sublist_append_left [_, _] _)) ⟨b4, b67, ⟨⟨0, ⟨some ⟨b7, 0, none⟩, 2, [tC 0, tC 1]⟩⟩, -1, 0, ⟨none, 0, []⟩⟩, ⟨⟨0, ⟨some ⟨b12, 0, none⟩, 2, [tC 1, tC 2]⟩⟩, -1, 0, ⟨none, 0, []⟩⟩, ⟨⟨0, ⟨some ⟨b17, 0, none⟩, 2, [tC 2, tC 0]⟩⟩, -1, 0, ⟨none, 0, []⟩⟩, ⟨⟨0, ⟨some ⟨b22, 0, none⟩, 2, [tC 3, tC 0]⟩⟩, -1, 0, ⟨none, 0, []⟩⟩, ⟨⟨1, ⟨some ⟨b27, 0, none⟩, 2, [tV 0, tV 1]⟩⟩, -1, 1, ⟨some ⟨b34, 0, none⟩, 1, [⟨false, ⟨0, ⟨some ⟨b31, 0, none⟩, 2, [tV 0, tV 1]⟩⟩⟩]⟩⟩, ⟨⟨1, ⟨some ⟨b38, 0, none⟩, 2, [tV 0, tV 2]⟩⟩, 0, 1, ⟨some ⟨b50, 0, none⟩, 2, [⟨false, ⟨1, ⟨some ⟨b42, 0, none⟩, 2, [tV 0, tV 1]⟩⟩⟩, ⟨false, ⟨0, ⟨some ⟨b47, 0, none⟩, 2, [tV 1, tV 2]⟩⟩⟩]⟩⟩, ⟨⟨2, ⟨some ⟨b53, 0, none⟩, 1, [tV 0]⟩⟩, -1, 0, ⟨some ⟨b65, 0, none⟩, 2, [⟨false, ⟨0, ⟨some ⟨b57, 0, none⟩, 2, [tV 0, tV 1]⟩⟩⟩, ⟨true, ⟨1, ⟨some ⟨b62, 0, none⟩, 2, [tV 0, tV 0]⟩⟩⟩]⟩⟩, ⟨rfl, rfl, by simp only [List.mem_cons, List.not_mem_nil, or_false]; rintro x (rfl | rfl | rfl | rfl | rfl | rfl | rfl) <;> assumption, by simp only [List.mem_cons, List.not_mem_nil, or_false]; rintro x (rfl | rfl | rfl | rfl | rfl | rfl | rfl) <;> simp, rfl⟩⟩
end Go.TF
