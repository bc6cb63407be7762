/- The contracts on grounding. -/
import Derived.Test.YthgjilgghgkodaaRule2
import Derived.Test.YthgjilgghgkodaaSpFact
namespace Go.TF
open Go Go.RowKit Go.Proofs
set_option maxRecDepth 10000

theorem Of_ok (B : Base) (hB : B.ok) (a : Atm) (ha : a.In B.h) (x : Vrs) (hn : a.args.xs.length ≤ 2) (hok : argsErr a.args.xs = 0) : Fn Try.prog 67 [a.val, x.val] B (fun v _ => v = (groundF a x).val) := by
  refine Fn.of Try.func67 rfl Try.ntmps67 (by kernel_rfl) (by simp) ?_
  intro e
  have I := Inv.start hB
  refine WP.seq ?_
  refine WP.region ?_
  refine Ops.go (O.box (v := .agg #[_, _]) I rfl rfl ?_)
  intro b2 w I
  refine Ops.go (O.box (v := .agg #[_, _, _]) I rfl rfl ?_)
  intro b3 w I
  refine Ops.go (O.alloc I Try.zeroValue44 rfl ?_)
  intro b4 w I
  refine Ops.nil ?_
  refine WP.seq ?_
  refine WP.region ?_
  refine Ops.go (O.alloc I Try.zeroValue118 rfl ?_)
  intro b5 w I
  refine Ops.nil ?_
  refine WP.seq ?_
  refine WP.seq ?_
  refine WP.region ?_
  refine Ops.y (v := .pointer (some ⟨_, _, none⟩)) (Y.fa fa_35_1 rfl) ?_
  refine Ops.y (v := .slice _ _ _) (Y.loadv ty_33 rfl (I.rdbox 3 rfl 1 1) rfl rfl) ?_
  refine Ops.y (v := .int .i64 _) (Y.lens Try.underlying33 rfl) ?_
  refine Ops.y (v := .int .i64 _) (Y.move rfl) ?_
  refine Ops.nil ?_
  refine WP.block ?_
  refine WP.loopE (σ := Nat) (fun k => [(2, .pointer (some ⟨b2, 0, none⟩)), (3, .pointer (some ⟨b3, 0, none⟩)), (4, .pointer (some ⟨b4, 0, none⟩)), (5, .pointer (some ⟨b5, 0, none⟩)), (9, a.args.val), (10, .int .i64 a.args.xs.length), (11, .int .i64 k)])
    (fun k w => Inv B B.h [box b5 [.int .i64 (if 0 < k then argv a x 0 else 0), .int .i64 (if 1 < k then argv a x 1 else 0)] 118, box b4 (Fct.enc default) 44, box b3 x.enc 42, box b2 a.enc 35] w ∧ k ≤ a.args.xs.length) (fun k => a.args.xs.length - k)
    ⟨0, ⟨rfl, rfl, rfl, rfl, rfl, rfl, rfl, trivial⟩, I, Nat.zero_le _⟩ ?_
  rintro k e w ⟨I, hk⟩
  refine WP.seq ?_
  refine WP.region ?_
  refine Ops.y (v := .bool (decide _)) (Y.lti rfl rfl) ?_
  refine Ops.nil ?_
  refine WP.seq ?_
  refine WP.cond_dec rfl (fun h => ?_) (fun h => ?_)
  · have hk' : k < a.args.xs.length := by omega
    have E1 := Sl.Is.at ha hk'
    have hvv := argsErr_var hok (List.getElem_mem hk')
    have hav := argv_get (x := x) hk'
    have hk2 : k = 0 ∨ k = 1 := by omega
    have hv1 : a.args.xs[k].var = true → tv a.args.xs[k] x = x.at a.args.xs[k].n := fun h => by simp [tv, h]
    have hv0 : a.args.xs[k].var = false → tv a.args.xs[k] x = a.args.xs[k].n := fun h => by simp [tv, h]
    rcases hk2 with rfl | rfl
    · refine WP.skip ?_
      refine WP.seq ?_
      refine WP.block ?_
      refine WP.seq ?_
      refine WP.region ?_
      refine Ops.y (v := .int .i64 _) (Y.move rfl) ?_
      refine Ops.y (v := .pointer (some ⟨_, _, none⟩)) (Y.idxEl E1 Try.underlying33 Try.sizeOf83 rfl rfl (Int.natCast_nonneg _) rfl) ?_
      refine Ops.y (v := .agg #[_, _]) (Y.loadv ty_83 rfl (I.rd (E1.rd.part 0 2)) rfl rfl) ?_
      refine Ops.go (O.alloc I Try.zeroValue83 rfl ?_)
      intro b7 w I
      refine Ops.y (v := .int .i64 _) (Y.assign rfl) ?_
      refine Ops.go (O.store (v := .agg #[_, _]) I ty_83 0 rfl rfl rfl rfl rfl rfl (Nat.le_of_ble_eq_true rfl) rfl ?_)
      intro w I
      refine Ops.nil ?_
      refine WP.seq ?_
      refine WP.region ?_
      refine Ops.y (v := .int .i64 _) (Y.move rfl) ?_
      refine Ops.y (v := .pointer (some ⟨_, _, none⟩)) (Y.fa fa_83_1 rfl) ?_
      refine Ops.y (v := .int .i64 _) (Y.loadv ty_3 rfl (I.rdbox 0 rfl 1 1) rfl rfl) ?_
      refine Ops.y (v := .pointer (some ⟨_, _, none⟩)) (Y.idxa Try.underlying118 Try.sizeOf3 rfl rfl (by omega) (by omega)) ?_
      refine Ops.go (O.store (v := .int .i64 _) I ty_3 1 rfl rfl rfl rfl rfl rfl (Nat.le_of_ble_eq_true rfl) rfl ?_)
      intro w I
      refine Ops.nil ?_
      cases hv : a.args.xs[0].var
      · refine WP.seq ?_
        refine WP.region ?_
        refine Ops.y (v := .pointer (some ⟨_, _, none⟩)) (Y.fa0 fa_83_0 rfl) ?_
        refine Ops.y (v := .bool false) (Y.b (Y.loadv ty_4 rfl (I.rdbox 0 rfl 0 1) rfl rfl) (hv)) ?_
        refine Ops.nil ?_
        refine WP.cond_f rfl ?_
        refine WP.skip ?_
        refine WP.region ?_
        refine Ops.y (v := .int .i64 _) (Y.addi rfl rfl ⟨by omega, by omega⟩) ?_
        refine Ops.y (v := .int .i64 _) (Y.move rfl) ?_
        refine Ops.nil ?_
        refine ⟨1, ⟨⟨rfl, rfl, rfl, rfl, rfl, rfl, rfl, trivial⟩, ?_, by omega⟩, by omega⟩
        have J := I.drop
        simpa [putAt, hav, hv0 hv] using J
      · refine WP.seq ?_
        refine WP.region ?_
        refine Ops.y (v := .pointer (some ⟨_, _, none⟩)) (Y.fa0 fa_83_0 rfl) ?_
        refine Ops.y (v := .bool true) (Y.b (Y.loadv ty_4 rfl (I.rdbox 0 rfl 0 1) rfl rfl) (hv)) ?_
        refine Ops.nil ?_
        refine WP.cond_t rfl ?_
        refine WP.region ?_
        refine Ops.y (v := .int .i64 _) (Y.move rfl) ?_
        refine Ops.y (v := .pointer (some ⟨_, _, none⟩)) (Y.fa fa_83_1 rfl) ?_
        refine Ops.y (v := .int .i64 _) (Y.loadv ty_3 rfl (I.rdbox 0 rfl 1 1) rfl rfl) ?_
        refine Ops.y (v := .pointer (some ⟨_, _, none⟩)) (Y.idxa Try.underlying42 Try.sizeOf3 rfl rfl (hvv hv).1 (hvv hv).2) ?_
        refine Ops.y (v := .int .i64 _) (Y.loadv ty_3 rfl (Rd.vrs (I.rdbox 3 rfl 0 3) (hvv hv).1 (hvv hv).2) rfl rfl) ?_
        refine Ops.y (v := .pointer (some ⟨_, _, none⟩)) (Y.idxa Try.underlying118 Try.sizeOf3 rfl rfl (by omega) (by omega)) ?_
        refine Ops.go (O.store (v := .int .i64 _) I ty_3 1 rfl rfl rfl rfl rfl rfl (Nat.le_of_ble_eq_true rfl) rfl ?_)
        intro w I
        refine Ops.nil ?_
        refine WP.region ?_
        refine Ops.y (v := .int .i64 _) (Y.addi rfl rfl ⟨by omega, by omega⟩) ?_
        refine Ops.y (v := .int .i64 _) (Y.move rfl) ?_
        refine Ops.nil ?_
        refine ⟨1, ⟨⟨rfl, rfl, rfl, rfl, rfl, rfl, rfl, trivial⟩, ?_, by omega⟩, by omega⟩
        have J := I.drop
        simpa [putAt, hav, hv1 hv] using J
    · refine WP.skip ?_
      refine WP.seq ?_
      refine WP.block ?_
      refine WP.seq ?_
      refine WP.region ?_
      refine Ops.y (v := .int .i64 _) (Y.move rfl) ?_
      refine Ops.y (v := .pointer (some ⟨_, _, none⟩)) (Y.idxEl E1 Try.underlying33 Try.sizeOf83 rfl rfl (Int.natCast_nonneg _) rfl) ?_
      refine Ops.y (v := .agg #[_, _]) (Y.loadv ty_83 rfl (I.rd (E1.rd.part 0 2)) rfl rfl) ?_
      refine Ops.go (O.alloc I Try.zeroValue83 rfl ?_)
      intro b7 w I
      refine Ops.y (v := .int .i64 _) (Y.assign rfl) ?_
      refine Ops.go (O.store (v := .agg #[_, _]) I ty_83 0 rfl rfl rfl rfl rfl rfl (Nat.le_of_ble_eq_true rfl) rfl ?_)
      intro w I
      refine Ops.nil ?_
      refine WP.seq ?_
      refine WP.region ?_
      refine Ops.y (v := .int .i64 _) (Y.move rfl) ?_
      refine Ops.y (v := .pointer (some ⟨_, _, none⟩)) (Y.fa fa_83_1 rfl) ?_
      refine Ops.y (v := .int .i64 _) (Y.loadv ty_3 rfl (I.rdbox 0 rfl 1 1) rfl rfl) ?_
      refine Ops.y (v := .pointer (some ⟨_, _, none⟩)) (Y.idxa Try.underlying118 Try.sizeOf3 rfl rfl (by omega) (by omega)) ?_
      refine Ops.go (O.store (v := .int .i64 _) I ty_3 1 rfl rfl rfl rfl rfl rfl (Nat.le_of_ble_eq_true rfl) rfl ?_)
      intro w I
      refine Ops.nil ?_
      cases hv : a.args.xs[1].var
      · refine WP.seq ?_
        refine WP.region ?_
        refine Ops.y (v := .pointer (some ⟨_, _, none⟩)) (Y.fa0 fa_83_0 rfl) ?_
        refine Ops.y (v := .bool false) (Y.b (Y.loadv ty_4 rfl (I.rdbox 0 rfl 0 1) rfl rfl) (hv)) ?_
        refine Ops.nil ?_
        refine WP.cond_f rfl ?_
        refine WP.skip ?_
        refine WP.region ?_
        refine Ops.y (v := .int .i64 _) (Y.addi rfl rfl ⟨by omega, by omega⟩) ?_
        refine Ops.y (v := .int .i64 _) (Y.move rfl) ?_
        refine Ops.nil ?_
        refine ⟨2, ⟨⟨rfl, rfl, rfl, rfl, rfl, rfl, rfl, trivial⟩, ?_, by omega⟩, by omega⟩
        have J := I.drop
        simpa [putAt, hav, hv0 hv] using J
      · refine WP.seq ?_
        refine WP.region ?_
        refine Ops.y (v := .pointer (some ⟨_, _, none⟩)) (Y.fa0 fa_83_0 rfl) ?_
        refine Ops.y (v := .bool true) (Y.b (Y.loadv ty_4 rfl (I.rdbox 0 rfl 0 1) rfl rfl) (hv)) ?_
        refine Ops.nil ?_
        refine WP.cond_t rfl ?_
        refine WP.region ?_
        refine Ops.y (v := .int .i64 _) (Y.move rfl) ?_
        refine Ops.y (v := .pointer (some ⟨_, _, none⟩)) (Y.fa fa_83_1 rfl) ?_
        refine Ops.y (v := .int .i64 _) (Y.loadv ty_3 rfl (I.rdbox 0 rfl 1 1) rfl rfl) ?_
        refine Ops.y (v := .pointer (some ⟨_, _, none⟩)) (Y.idxa Try.underlying42 Try.sizeOf3 rfl rfl (hvv hv).1 (hvv hv).2) ?_
        refine Ops.y (v := .int .i64 _) (Y.loadv ty_3 rfl (Rd.vrs (I.rdbox 3 rfl 0 3) (hvv hv).1 (hvv hv).2) rfl rfl) ?_
        refine Ops.y (v := .pointer (some ⟨_, _, none⟩)) (Y.idxa Try.underlying118 Try.sizeOf3 rfl rfl (by omega) (by omega)) ?_
        refine Ops.go (O.store (v := .int .i64 _) I ty_3 1 rfl rfl rfl rfl rfl rfl (Nat.le_of_ble_eq_true rfl) rfl ?_)
        intro w I
        refine Ops.nil ?_
        refine WP.region ?_
        refine Ops.y (v := .int .i64 _) (Y.addi rfl rfl ⟨by omega, by omega⟩) ?_
        refine Ops.y (v := .int .i64 _) (Y.move rfl) ?_
        refine Ops.nil ?_
        refine ⟨2, ⟨⟨rfl, rfl, rfl, rfl, rfl, rfl, rfl, trivial⟩, ?_, by omega⟩, by omega⟩
        have J := I.drop
        simpa [putAt, hav, hv1 hv] using J
  refine WP.exit ?_
  refine WP.seq ?_
  refine WP.region ?_
  refine Ops.y (v := .pointer (some ⟨_, _, none⟩)) (Y.fa0 fa_35_0 rfl) ?_
  refine Ops.y (v := .int .i64 _) (Y.loadv ty_3 rfl (I.rdbox 3 rfl 0 1) rfl rfl) ?_
  refine Ops.y (v := .pointer (some ⟨_, _, none⟩)) (Y.idxa Try.underlying118 Try.sizeOf3 rfl rfl (by omega) (by omega)) ?_
  refine Ops.y (v := .int .i64 _) (Y.loadv ty_3 rfl (I.rdbox 0 rfl 0 1) rfl rfl) ?_
  refine Ops.y (v := .pointer (some ⟨_, _, none⟩)) (Y.idxa Try.underlying118 Try.sizeOf3 rfl rfl (by omega) (by omega)) ?_
  refine Ops.y (v := .int .i64 _) (Y.loadv ty_3 rfl (I.rdbox 0 rfl 1 1) rfl rfl) ?_
  refine Ops.y (v := .agg #[.int .i64 _, .int .i64 _, .int .i64 _, .int .i64 _]) (Y.build pl_44 Try.zeroValue44 rfl rfl) ?_
  refine Ops.go (O.store (v := .agg #[_, _, _, _]) I ty_44 1 rfl rfl rfl rfl rfl rfl (Nat.le_of_ble_eq_true rfl) rfl ?_)
  intro w I
  refine Ops.nil ?_
  have h0 : (if 0 < k then argv a x 0 else 0) = argv a x 0 := by split; rfl; exact (argv_none (by omega)).symm
  have h1 : (if 1 < k then argv a x 1 else 0) = argv a x 1 := by split; rfl; exact (argv_none (by omega)).symm
  refine WP.ret ?_
  repeat (first | refine thenE_ret ?_ | refine blockE_ret ?_)
  exact retQ.mk (vs := [.agg #[_, _, _, _]]) rfl ⟨⟨_, _, _, _, _, rfl, ty_44, I.rdbox 1 rfl 0 4, rfl, rfl⟩, trivial⟩ I.ext_of (by simp only [tup, groundF, h0, h1])
theorem ground_ok (B : Base) (hB : B.ok) (a : Atm) (ha : a.In B.h) (x : Vrs) (hn : a.args.xs.length ≤ 2) (hok : argsErr a.args.xs = 0) : Fn Try.prog 68 [a.val, x.val] B (fun v _ => v = (groundF a x).val) := by
  refine Fn.of Try.func68 rfl Try.ntmps68 (by kernel_rfl) (by simp) ?_
  intro e
  have I := Inv.start hB
  refine WP.seq ?_
  refine WP.region ?_
  refine Ops.go (O.box (v := .agg #[_, _]) I rfl rfl ?_)
  intro b2 w I
  refine Ops.go (O.box (v := .agg #[_, _, _]) I rfl rfl ?_)
  intro b3 w I
  refine Ops.go (O.alloc I Try.zeroValue44 rfl ?_)
  intro b4 w I
  refine Ops.nil ?_
  refine WP.seq ?_
  refine WP.region ?_
  refine Ops.y (v := .pointer (some ⟨_, _, none⟩)) (Y.fa0 fa_35_0 rfl) ?_
  refine Ops.y (v := .int .i64 _) (Y.loadv ty_3 rfl (I.rdbox 2 rfl 0 1) rfl rfl) ?_
  refine Ops.y (v := .agg #[.int .i64 _, .int .i64 _, .int .i64 _, .int .i64 _]) (Y.build pl_44 Try.zeroValue44 rfl rfl) ?_
  refine Ops.go (O.alloc I Try.zeroValue44 rfl ?_)
  intro b5 w I
  refine Ops.go (O.store (v := .agg #[_, _, _, _]) I ty_44 0 rfl rfl rfl rfl rfl rfl (Nat.le_of_ble_eq_true rfl) rfl ?_)
  intro w I
  refine Ops.nil ?_
  refine WP.seq ?_
  refine WP.seq ?_
  refine WP.region ?_
  refine Ops.y (v := .int .i64 _) (Y.assign rfl) ?_
  refine Ops.nil ?_
  refine WP.block ?_
  refine WP.loopE (σ := Nat) (fun k => [(2, .pointer (some ⟨b2, 0, none⟩)), (3, .pointer (some ⟨b3, 0, none⟩)), (4, .pointer (some ⟨b4, 0, none⟩)), (5, .pointer (some ⟨b5, 0, none⟩)), (6, .int .i64 k)])
    (fun k w => Inv B B.h [box b5 [.int .i64 a.pred, .int .i64 (if 0 < k then argv a x 0 else 0), .int .i64 (if 1 < k then argv a x 1 else 0), .int .i64 0] 44, box b4 (Fct.enc default) 44, box b3 x.enc 42, box b2 a.enc 35] w ∧ k ≤ a.args.xs.length) (fun k => a.args.xs.length - k)
    ⟨0, ⟨rfl, rfl, rfl, rfl, rfl, trivial⟩, I, Nat.zero_le _⟩ ?_
  rintro k e w ⟨I, hk⟩
  refine WP.seq ?_
  refine WP.seq ?_
  refine WP.region ?_
  refine Ops.y (v := .int .i64 _) (Y.move rfl) ?_
  refine Ops.y (v := .pointer (some ⟨_, _, none⟩)) (Y.fa fa_35_1 rfl) ?_
  refine Ops.y (v := .slice _ _ _) (Y.loadv ty_33 rfl (I.rdbox 3 rfl 1 1) rfl rfl) ?_
  refine Ops.y (v := .int .i64 _) (Y.lens Try.underlying33 rfl) ?_
  refine Ops.y (v := .bool (decide _)) (Y.lti rfl rfl) ?_
  refine Ops.nil ?_
  refine WP.cond_dec rfl (fun h => ?_) (fun h => ?_)
  · have hk' : k < a.args.xs.length := by omega
    have E1 := Sl.Is.at ha hk'
    have hvv := argsErr_var hok (List.getElem_mem hk')
    have hav := argv_get (x := x) hk'
    have hk2 : k = 0 ∨ k = 1 := by omega
    refine WP.skip ?_
    refine WP.seq ?_
    refine WP.block ?_
    refine WP.seq ?_
    refine WP.region ?_
    refine Ops.y (v := .pointer (some ⟨_, _, none⟩)) (Y.fa fa_35_1 rfl) ?_
    refine Ops.y (v := .slice _ _ _) (Y.loadv ty_33 rfl (I.rdbox 3 rfl 1 1) rfl rfl) ?_
    refine Ops.y (v := .int .i64 _) (Y.move rfl) ?_
    refine Ops.y (v := .pointer (some ⟨_, _, none⟩)) (Y.idxEl E1 Try.underlying33 Try.sizeOf83 rfl rfl (Int.natCast_nonneg _) rfl) ?_
    refine Ops.y (v := .pointer (some ⟨_, _, none⟩)) (Y.fa fa_83_1 rfl) ?_
    refine Ops.y (v := .int .i64 _) (Y.loadv ty_3 rfl (I.rd (E1.rd.part 1 1)) rfl rfl) ?_
    refine Ops.y (v := .int .i64 _) (Y.assign rfl) ?_
    refine Ops.nil ?_
    refine WP.seq ?_
    refine WP.seq ?_
    refine WP.cutL (σ := Unit) (fun _ => [(2, .pointer (some ⟨b2, 0, none⟩)), (3, .pointer (some ⟨b3, 0, none⟩)), (4, .pointer (some ⟨b4, 0, none⟩)), (5, .pointer (some ⟨b5, 0, none⟩)), (6, .int .i64 k), (7, .int .i64 a.args.xs[k].n), (29, .bool a.args.xs[k].var)]) (fun _ w => Inv B B.h [box b5 [.int .i64 a.pred, .int .i64 (if 0 < k then argv a x 0 else 0), .int .i64 (if 1 < k then argv a x 1 else 0), .int .i64 0] 44, box b4 (Fct.enc default) 44, box b3 x.enc 42, box b2 a.enc 35] w) ?_ ?_
    · refine WP.region ?_
      refine Ops.y (v := .pointer (some ⟨_, _, none⟩)) (Y.fa fa_35_1 rfl) ?_
      refine Ops.y (v := .slice _ _ _) (Y.loadv ty_33 rfl (I.rdbox 3 rfl 1 1) rfl rfl) ?_
      refine Ops.y (v := .int .i64 _) (Y.move rfl) ?_
      refine Ops.y (v := .pointer (some ⟨_, _, none⟩)) (Y.idxEl E1 Try.underlying33 Try.sizeOf83 rfl rfl (Int.natCast_nonneg _) rfl) ?_
      refine Ops.y (v := .pointer (some ⟨_, _, none⟩)) (Y.fa0 fa_83_0 rfl) ?_
      refine Ops.y (v := .bool _) (Y.loadv ty_4 rfl (I.rd (E1.rd.part 0 1)) rfl rfl) ?_
      refine Ops.nil ?_
      exact ⟨(), ⟨rfl, rfl, rfl, rfl, rfl, rfl, rfl, trivial⟩, I⟩
    rintro _ e w I
    refine WP.cutL (σ := Unit) (fun _ => [(2, .pointer (some ⟨b2, 0, none⟩)), (3, .pointer (some ⟨b3, 0, none⟩)), (4, .pointer (some ⟨b4, 0, none⟩)), (5, .pointer (some ⟨b5, 0, none⟩)), (6, .int .i64 k), (7, .int .i64 (tv a.args.xs[k] x))]) (fun _ w => Inv B B.h [box b5 [.int .i64 a.pred, .int .i64 (if 0 < k then argv a x 0 else 0), .int .i64 (if 1 < k then argv a x 1 else 0), .int .i64 0] 44, box b4 (Fct.enc default) 44, box b3 x.enc 42, box b2 a.enc 35] w) ?_ ?_
    · refine WP.cond rfl (fun hv => ?_) (fun hv => ?_)
      · refine WP.region ?_
        refine Ops.y (v := .int .i64 _) (Y.move rfl) ?_
        refine Ops.y (v := .pointer (some ⟨_, _, none⟩)) (Y.idxa Try.underlying42 Try.sizeOf3 rfl rfl (hvv hv).1 (hvv hv).2) ?_
        refine Ops.y (v := .int .i64 _) (Y.loadv ty_3 rfl (Rd.vrs (I.rdbox 2 rfl 0 3) (hvv hv).1 (hvv hv).2) rfl rfl) ?_
        refine Ops.y (v := .int .i64 _) (Y.assign rfl) ?_
        refine Ops.nil ?_
        exact ⟨(), ⟨rfl, rfl, rfl, rfl, rfl, by simp [tv, hv]; rfl, trivial⟩, I⟩
      refine WP.skip ?_
      exact ⟨(), ⟨rfl, rfl, rfl, rfl, rfl, by simp [tv, hv]; rfl, trivial⟩, I⟩
    rintro _ e w I
    rcases hk2 with rfl | rfl
    · refine WP.seq ?_
      refine WP.region ?_
      refine Ops.y (v := .int .i64 _) (Y.move rfl) ?_
      refine Ops.y (v := .bool true) (Y.dec_t (Y.eqi rfl rfl) (rfl)) ?_
      refine Ops.nil ?_
      refine WP.cond_t rfl ?_
      refine WP.region ?_
      refine Ops.y (v := .int .i64 _) (Y.move rfl) ?_
      refine Ops.y (v := .pointer (some ⟨_, _, none⟩)) (Y.fa fa_44_1 rfl) ?_
      refine Ops.go (O.store (v := .int .i64 _) I ty_3 0 rfl rfl rfl rfl rfl rfl (Nat.le_of_ble_eq_true rfl) rfl ?_)
      intro w I
      refine Ops.nil ?_
      refine WP.region ?_
      refine Ops.y (v := .int .i64 _) (Y.move rfl) ?_
      refine Ops.y (v := .int .i64 _) (Y.addi rfl rfl ⟨by omega, by omega⟩) ?_
      refine Ops.y (v := .int .i64 _) (Y.assign rfl) ?_
      refine Ops.nil ?_
      refine ⟨1, ⟨⟨rfl, rfl, rfl, rfl, rfl, trivial⟩, ?_, by omega⟩, by omega⟩
      simpa [putAt, hav] using I
    · refine WP.seq ?_
      refine WP.region ?_
      refine Ops.y (v := .int .i64 _) (Y.move rfl) ?_
      refine Ops.y (v := .bool false) (Y.dec_f (Y.eqi rfl rfl) ((by decide))) ?_
      refine Ops.nil ?_
      refine WP.cond_f rfl ?_
      refine WP.region ?_
      refine Ops.y (v := .int .i64 _) (Y.move rfl) ?_
      refine Ops.y (v := .pointer (some ⟨_, _, none⟩)) (Y.fa fa_44_2 rfl) ?_
      refine Ops.go (O.store (v := .int .i64 _) I ty_3 0 rfl rfl rfl rfl rfl rfl (Nat.le_of_ble_eq_true rfl) rfl ?_)
      intro w I
      refine Ops.nil ?_
      refine WP.region ?_
      refine Ops.y (v := .int .i64 _) (Y.move rfl) ?_
      refine Ops.y (v := .int .i64 _) (Y.addi rfl rfl ⟨by omega, by omega⟩) ?_
      refine Ops.y (v := .int .i64 _) (Y.assign rfl) ?_
      refine Ops.nil ?_
      refine ⟨2, ⟨⟨rfl, rfl, rfl, rfl, rfl, trivial⟩, ?_, by omega⟩, by omega⟩
      simpa [putAt, hav] using I
  refine WP.exit ?_
  refine WP.seq ?_
  refine WP.region ?_
  refine Ops.y (v := .agg #[_, _, _, _]) (Y.loadv ty_44 rfl (I.rdbox 0 rfl 0 4) rfl rfl) ?_
  refine Ops.go (O.store (v := .agg #[_, _, _, _]) I ty_44 1 rfl rfl rfl rfl rfl rfl (Nat.le_of_ble_eq_true rfl) rfl ?_)
  intro w I
  refine Ops.nil ?_
  have h0 : (if 0 < k then argv a x 0 else 0) = argv a x 0 := by split; rfl; exact (argv_none (by omega)).symm
  have h1 : (if 1 < k then argv a x 1 else 0) = argv a x 1 := by split; rfl; exact (argv_none (by omega)).symm
  refine WP.ret ?_
  repeat (first | refine thenE_ret ?_ | refine blockE_ret ?_)
  exact retQ.mk (vs := [.agg #[_, _, _, _]]) rfl ⟨⟨_, _, _, _, _, rfl, ty_44, I.rdbox 1 rfl 0 4, rfl, rfl⟩, trivial⟩ I.ext_of (by simp only [tup, groundF, h0, h1])
end Go.TF
