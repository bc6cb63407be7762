/- Texts Rule5 Rule6 Rule4 RuleLaw RuleLaw2 Sls Bas1 Txp7 Prog7 Prog8 Bas2 Bas3 Rnd0 Bas4 Txp8 SpDec. -/
import Derived.Test.YtljkkojkfddpeaaGreatDoorU6
import Derived.Test.YtljkkojkfddpeaaGreatDoorU3
import Derived.Test.YtljkkojkfddpeaaGreatDoorU2
section
/- The contracts on grounding. -/
namespace Go.TF
open Go Go.RowKit Go.Proofs
set_option maxRecDepth 10000

theorem Of_ok (B : Base) (hB : B.ok) (a : Atm) (ha : a.In B.h) (x : Vrs) (hn : a.args.xs.length ≤ 2) (hok : argsErr a.args.xs = 0) : Fn Tryz.prog 183 [a.val, x.val] B (fun v _ => v = (groundF a x).val) := by
  refine Fn.of Tryz.func183 rfl Tryz.ntmps183 (by kernel_rfl) (by simp) ?_
  intro e
  have I := Inv.start hB
  refine WP.seq ?_
  refine WP.region ?_
  refine Ops.go (O.box (v := .agg #[_, _]) I rfl rfl ?_)
  intro b2 w I
  refine Ops.go (O.box (v := .agg #[_, _, _]) I rfl rfl ?_)
  intro b3 w I
  refine Ops.go (O.alloc I Tryz.zeroValue83 rfl ?_)
  intro b4 w I
  refine Ops.nil ?_
  refine WP.seq ?_
  refine WP.region ?_
  refine Ops.go (O.alloc I Tryz.zeroValue255 rfl ?_)
  intro b5 w I
  refine Ops.nil ?_
  refine WP.seq ?_
  refine WP.seq ?_
  refine WP.region ?_
  refine Ops.y (v := .pointer (some ⟨_, _, none⟩)) (Y.fa fa_61_1 rfl) ?_
  refine Ops.y (v := .slice _ _ _) (Y.loadv ty_59 rfl (I.rdbox 3 rfl 1 1) rfl rfl) ?_
  refine Ops.y (v := .int .i64 _) (Y.lens Tryz.underlying59 rfl) ?_
  refine Ops.y (v := .int .i64 _) (Y.move rfl) ?_
  refine Ops.nil ?_
  refine WP.block ?_
  refine WP.loopE (σ := Nat) (fun k => [(2, .pointer (some ⟨b2, 0, none⟩)), (3, .pointer (some ⟨b3, 0, none⟩)), (4, .pointer (some ⟨b4, 0, none⟩)), (5, .pointer (some ⟨b5, 0, none⟩)), (9, a.args.val), (10, .int .i64 a.args.xs.length), (11, .int .i64 k)])
    (fun k w => Inv B B.h [box b5 [.int .i64 (if 0 < k then argv a x 0 else 0), .int .i64 (if 1 < k then argv a x 1 else 0)] 255, box b4 (Fct.enc default) 83, box b3 x.enc 167, box b2 a.enc 61] w ∧ k ≤ a.args.xs.length) (fun k => a.args.xs.length - k)
    ⟨0, ⟨rfl, rfl, rfl, rfl, rfl, rfl, rfl, trivial⟩, I, Nat.zero_le _⟩ ?_
  rintro k e w ⟨I, hk⟩
  refine WP.seq ?_
  refine WP.region ?_
  refine Ops.y (v := .bool (decide _)) (Y.lti rfl rfl) ?_
  refine Ops.nil ?_
  refine WP.seq ?_
  refine WP.cond_dec rfl (fun h => ?_) (fun h => ?_)
  · have hk' : k < a.args.xs.length := by omega
    have E1 := Sl.Is.at ha hk'
    have hvv := argsErr_var hok (List.getElem_mem hk')
    have hav := argv_get (x := x) hk'
    have hk2 : k = 0 ∨ k = 1 := by omega
    have hv1 : a.args.xs[k].var = true → tv a.args.xs[k] x = x.at a.args.xs[k].n := fun h => by simp [tv, h]
    have hv0 : a.args.xs[k].var = false → tv a.args.xs[k] x = a.args.xs[k].n := fun h => by simp [tv, h]
    rcases hk2 with rfl | rfl
    · refine WP.skip ?_
      refine WP.seq ?_
      refine WP.block ?_
      refine WP.seq ?_
      refine WP.region ?_
      refine Ops.y (v := .int .i64 _) (Y.move rfl) ?_
      refine Ops.y (v := .pointer (some ⟨_, _, none⟩)) (Y.idxEl E1 Tryz.underlying59 Tryz.sizeOf109 rfl rfl (Int.natCast_nonneg _) rfl) ?_
      refine Ops.y (v := .agg #[_, _]) (Y.loadv ty_109 rfl (I.rd (E1.rd.part 0 2)) rfl rfl) ?_
      refine Ops.go (O.alloc I Tryz.zeroValue109 rfl ?_)
      intro b7 w I
      refine Ops.y (v := .int .i64 _) (Y.assign rfl) ?_
      refine Ops.go (O.store (v := .agg #[_, _]) I ty_109 0 rfl rfl rfl rfl rfl rfl (Nat.le_of_ble_eq_true rfl) rfl ?_)
      intro w I
      refine Ops.nil ?_
      refine WP.seq ?_
      refine WP.region ?_
      refine Ops.y (v := .int .i64 _) (Y.move rfl) ?_
      refine Ops.y (v := .pointer (some ⟨_, _, none⟩)) (Y.fa fa_109_1 rfl) ?_
      refine Ops.y (v := .int .i64 _) (Y.loadv ty_3 rfl (I.rdbox 0 rfl 1 1) rfl rfl) ?_
      refine Ops.y (v := .pointer (some ⟨_, _, none⟩)) (Y.idxa Tryz.underlying255 Tryz.sizeOf3 rfl rfl (by omega) (by omega)) ?_
      refine Ops.go (O.store (v := .int .i64 _) I ty_3 1 rfl rfl rfl rfl rfl rfl (Nat.le_of_ble_eq_true rfl) rfl ?_)
      intro w I
      refine Ops.nil ?_
      cases hv : a.args.xs[0].var
      · refine WP.seq ?_
        refine WP.region ?_
        refine Ops.y (v := .pointer (some ⟨_, _, none⟩)) (Y.fa0 fa_109_0 rfl) ?_
        refine Ops.y (v := .bool false) (Y.b (Y.loadv ty_4 rfl (I.rdbox 0 rfl 0 1) rfl rfl) (hv)) ?_
        refine Ops.nil ?_
        refine WP.cond_f rfl ?_
        refine WP.skip ?_
        refine WP.region ?_
        refine Ops.y (v := .int .i64 _) (Y.addi rfl rfl ⟨by omega, by omega⟩) ?_
        refine Ops.y (v := .int .i64 _) (Y.move rfl) ?_
        refine Ops.nil ?_
        refine ⟨1, ⟨⟨rfl, rfl, rfl, rfl, rfl, rfl, rfl, trivial⟩, ?_, by omega⟩, by omega⟩
        have J := I.drop
        simpa [putAt, hav, hv0 hv] using J
      · refine WP.seq ?_
        refine WP.region ?_
        refine Ops.y (v := .pointer (some ⟨_, _, none⟩)) (Y.fa0 fa_109_0 rfl) ?_
        refine Ops.y (v := .bool true) (Y.b (Y.loadv ty_4 rfl (I.rdbox 0 rfl 0 1) rfl rfl) (hv)) ?_
        refine Ops.nil ?_
        refine WP.cond_t rfl ?_
        refine WP.region ?_
        refine Ops.y (v := .int .i64 _) (Y.move rfl) ?_
        refine Ops.y (v := .pointer (some ⟨_, _, none⟩)) (Y.fa fa_109_1 rfl) ?_
        refine Ops.y (v := .int .i64 _) (Y.loadv ty_3 rfl (I.rdbox 0 rfl 1 1) rfl rfl) ?_
        refine Ops.y (v := .pointer (some ⟨_, _, none⟩)) (Y.idxa Tryz.underlying167 Tryz.sizeOf3 rfl rfl (hvv hv).1 (hvv hv).2) ?_
        refine Ops.y (v := .int .i64 _) (Y.loadv ty_3 rfl (Rd.vrs (I.rdbox 3 rfl 0 3) (hvv hv).1 (hvv hv).2) rfl rfl) ?_
        refine Ops.y (v := .pointer (some ⟨_, _, none⟩)) (Y.idxa Tryz.underlying255 Tryz.sizeOf3 rfl rfl (by omega) (by omega)) ?_
        refine Ops.go (O.store (v := .int .i64 _) I ty_3 1 rfl rfl rfl rfl rfl rfl (Nat.le_of_ble_eq_true rfl) rfl ?_)
        intro w I
        refine Ops.nil ?_
        refine WP.region ?_
        refine Ops.y (v := .int .i64 _) (Y.addi rfl rfl ⟨by omega, by omega⟩) ?_
        refine Ops.y (v := .int .i64 _) (Y.move rfl) ?_
        refine Ops.nil ?_
        refine ⟨1, ⟨⟨rfl, rfl, rfl, rfl, rfl, rfl, rfl, trivial⟩, ?_, by omega⟩, by omega⟩
        have J := I.drop
        simpa [putAt, hav, hv1 hv] using J
    · refine WP.skip ?_
      refine WP.seq ?_
      refine WP.block ?_
      refine WP.seq ?_
      refine WP.region ?_
      refine Ops.y (v := .int .i64 _) (Y.move rfl) ?_
      refine Ops.y (v := .pointer (some ⟨_, _, none⟩)) (Y.idxEl E1 Tryz.underlying59 Tryz.sizeOf109 rfl rfl (Int.natCast_nonneg _) rfl) ?_
      refine Ops.y (v := .agg #[_, _]) (Y.loadv ty_109 rfl (I.rd (E1.rd.part 0 2)) rfl rfl) ?_
      refine Ops.go (O.alloc I Tryz.zeroValue109 rfl ?_)
      intro b7 w I
      refine Ops.y (v := .int .i64 _) (Y.assign rfl) ?_
      refine Ops.go (O.store (v := .agg #[_, _]) I ty_109 0 rfl rfl rfl rfl rfl rfl (Nat.le_of_ble_eq_true rfl) rfl ?_)
      intro w I
      refine Ops.nil ?_
      refine WP.seq ?_
      refine WP.region ?_
      refine Ops.y (v := .int .i64 _) (Y.move rfl) ?_
      refine Ops.y (v := .pointer (some ⟨_, _, none⟩)) (Y.fa fa_109_1 rfl) ?_
      refine Ops.y (v := .int .i64 _) (Y.loadv ty_3 rfl (I.rdbox 0 rfl 1 1) rfl rfl) ?_
      refine Ops.y (v := .pointer (some ⟨_, _, none⟩)) (Y.idxa Tryz.underlying255 Tryz.sizeOf3 rfl rfl (by omega) (by omega)) ?_
      refine Ops.go (O.store (v := .int .i64 _) I ty_3 1 rfl rfl rfl rfl rfl rfl (Nat.le_of_ble_eq_true rfl) rfl ?_)
      intro w I
      refine Ops.nil ?_
      cases hv : a.args.xs[1].var
      · refine WP.seq ?_
        refine WP.region ?_
        refine Ops.y (v := .pointer (some ⟨_, _, none⟩)) (Y.fa0 fa_109_0 rfl) ?_
        refine Ops.y (v := .bool false) (Y.b (Y.loadv ty_4 rfl (I.rdbox 0 rfl 0 1) rfl rfl) (hv)) ?_
        refine Ops.nil ?_
        refine WP.cond_f rfl ?_
        refine WP.skip ?_
        refine WP.region ?_
        refine Ops.y (v := .int .i64 _) (Y.addi rfl rfl ⟨by omega, by omega⟩) ?_
        refine Ops.y (v := .int .i64 _) (Y.move rfl) ?_
        refine Ops.nil ?_
        refine ⟨2, ⟨⟨rfl, rfl, rfl, rfl, rfl, rfl, rfl, trivial⟩, ?_, by omega⟩, by omega⟩
        have J := I.drop
        simpa [putAt, hav, hv0 hv] using J
      · refine WP.seq ?_
        refine WP.region ?_
        refine Ops.y (v := .pointer (some ⟨_, _, none⟩)) (Y.fa0 fa_109_0 rfl) ?_
        refine Ops.y (v := .bool true) (Y.b (Y.loadv ty_4 rfl (I.rdbox 0 rfl 0 1) rfl rfl) (hv)) ?_
        refine Ops.nil ?_
        refine WP.cond_t rfl ?_
        refine WP.region ?_
        refine Ops.y (v := .int .i64 _) (Y.move rfl) ?_
        refine Ops.y (v := .pointer (some ⟨_, _, none⟩)) (Y.fa fa_109_1 rfl) ?_
        refine Ops.y (v := .int .i64 _) (Y.loadv ty_3 rfl (I.rdbox 0 rfl 1 1) rfl rfl) ?_
        refine Ops.y (v := .pointer (some ⟨_, _, none⟩)) (Y.idxa Tryz.underlying167 Tryz.sizeOf3 rfl rfl (hvv hv).1 (hvv hv).2) ?_
        refine Ops.y (v := .int .i64 _) (Y.loadv ty_3 rfl (Rd.vrs (I.rdbox 3 rfl 0 3) (hvv hv).1 (hvv hv).2) rfl rfl) ?_
        refine Ops.y (v := .pointer (some ⟨_, _, none⟩)) (Y.idxa Tryz.underlying255 Tryz.sizeOf3 rfl rfl (by omega) (by omega)) ?_
        refine Ops.go (O.store (v := .int .i64 _) I ty_3 1 rfl rfl rfl rfl rfl rfl (Nat.le_of_ble_eq_true rfl) rfl ?_)
        intro w I
        refine Ops.nil ?_
        refine WP.region ?_
        refine Ops.y (v := .int .i64 _) (Y.addi rfl rfl ⟨by omega, by omega⟩) ?_
        refine Ops.y (v := .int .i64 _) (Y.move rfl) ?_
        refine Ops.nil ?_
        refine ⟨2, ⟨⟨rfl, rfl, rfl, rfl, rfl, rfl, rfl, trivial⟩, ?_, by omega⟩, by omega⟩
        have J := I.drop
        simpa [putAt, hav, hv1 hv] using J
  refine WP.exit ?_
  refine WP.seq ?_
  refine WP.region ?_
  refine Ops.y (v := .pointer (some ⟨_, _, none⟩)) (Y.fa0 fa_61_0 rfl) ?_
  refine Ops.y (v := .int .i64 _) (Y.loadv ty_3 rfl (I.rdbox 3 rfl 0 1) rfl rfl) ?_
  refine Ops.y (v := .pointer (some ⟨_, _, none⟩)) (Y.idxa Tryz.underlying255 Tryz.sizeOf3 rfl rfl (by omega) (by omega)) ?_
  refine Ops.y (v := .int .i64 _) (Y.loadv ty_3 rfl (I.rdbox 0 rfl 0 1) rfl rfl) ?_
  refine Ops.y (v := .pointer (some ⟨_, _, none⟩)) (Y.idxa Tryz.underlying255 Tryz.sizeOf3 rfl rfl (by omega) (by omega)) ?_
  refine Ops.y (v := .int .i64 _) (Y.loadv ty_3 rfl (I.rdbox 0 rfl 1 1) rfl rfl) ?_
  refine Ops.y (v := .agg #[.int .i64 _, .int .i64 _, .int .i64 _, .int .i64 _]) (Y.build pl_83 Tryz.zeroValue83 rfl rfl) ?_
  refine Ops.go (O.store (v := .agg #[_, _, _, _]) I ty_83 1 rfl rfl rfl rfl rfl rfl (Nat.le_of_ble_eq_true rfl) rfl ?_)
  intro w I
  refine Ops.nil ?_
  have h0 : (if 0 < k then argv a x 0 else 0) = argv a x 0 := by split; rfl; exact (argv_none (by omega)).symm
  have h1 : (if 1 < k then argv a x 1 else 0) = argv a x 1 := by split; rfl; exact (argv_none (by omega)).symm
  refine WP.ret ?_
  repeat (first | refine thenE_ret ?_ | refine blockE_ret ?_)
  exact retQ.mk (vs := [.agg #[_, _, _, _]]) rfl ⟨⟨_, _, _, _, _, rfl, ty_83, I.rdbox 1 rfl 0 4, rfl, rfl⟩, trivial⟩ I.ext_of (by simp only [tup, groundF, h0, h1])
end Go.TF
end
section
/- The contracts on grounding, on. -/
namespace Go.TF
open Go Go.RowKit Go.Proofs
set_option maxRecDepth 10000

end Go.TF
end
section
/- The contract of the reference's CheckRule. -/
namespace Go.TF
open Go Go.RowKit Go.Proofs
set_option maxRecDepth 10000

end Go.TF
end
section
/- What the laws of rules begin with. -/
namespace Go.TF
open Go Go.RowKit Go.Proofs
set_option maxRecDepth 20000

theorem lV_ok (B : Base) (hB : B.ok) (n : Int) : Fn Tryz.prog 81 [.int .i64 n] B (fun v _ => v = (tV n).val) := by
  refine Fn.of Tryz.func81 rfl Tryz.ntmps81 (by kernel_rfl) (by simp) ?_
  intro e
  have I := Inv.start hB
  refine WP.seq ?_
  refine WP.region ?_
  refine Ops.go (O.alloc I Tryz.zeroValue109 rfl ?_)
  intro b2 w I
  refine Ops.nil ?_
  refine WP.seq ?_
  refine WP.region ?_
  refine Ops.y (v := .int .i64 _) (Y.move rfl) ?_
  refine Ops.y (v := .agg #[.bool _, .int .i64 _]) (Y.build pl_109 Tryz.zeroValue109 rfl rfl) ?_
  refine Ops.go (O.store (v := .agg #[_, _]) I ty_109 0 rfl rfl rfl rfl rfl rfl (Nat.le_of_ble_eq_true rfl) rfl ?_)
  intro w I
  refine Ops.nil ?_
  refine WP.ret ?_
  repeat (first | refine thenE_ret ?_ | refine blockE_ret ?_)
  exact retQ.mk (vs := [.agg #[_, _]]) rfl ⟨⟨_, _, _, _, _, rfl, ty_109, I.rdbox 0 rfl 0 2, rfl, rfl⟩, trivial⟩ I.ext_of (rfl)
theorem lC_ok (B : Base) (hB : B.ok) (n : Int) : Fn Tryz.prog 80 [.int .i64 n] B (fun v _ => v = (tC n).val) := by
  refine Fn.of Tryz.func80 rfl Tryz.ntmps80 (by kernel_rfl) (by simp) ?_
  intro e
  have I := Inv.start hB
  refine WP.seq ?_
  refine WP.region ?_
  refine Ops.go (O.alloc I Tryz.zeroValue109 rfl ?_)
  intro b2 w I
  refine Ops.nil ?_
  refine WP.seq ?_
  refine WP.region ?_
  refine Ops.y (v := .int .i64 _) (Y.move rfl) ?_
  refine Ops.y (v := .agg #[.bool _, .int .i64 _]) (Y.build pl_109 Tryz.zeroValue109 rfl rfl) ?_
  refine Ops.go (O.store (v := .agg #[_, _]) I ty_109 0 rfl rfl rfl rfl rfl rfl (Nat.le_of_ble_eq_true rfl) rfl ?_)
  intro w I
  refine Ops.nil ?_
  refine WP.ret ?_
  repeat (first | refine thenE_ret ?_ | refine blockE_ret ?_)
  exact retQ.mk (vs := [.agg #[_, _]]) rfl ⟨⟨_, _, _, _, _, rfl, ty_109, I.rdbox 0 rfl 0 2, rfl, rfl⟩, trivial⟩ I.ext_of (rfl)
theorem lAt_ok (B : Base) (hB : B.ok) (p : Int) (l : Sl Trm) : Fn Tryz.prog 79 [.int .i64 p, l.val] B (fun v _ => v = (Atm.mk p l).val) := by
  refine Fn.of Tryz.func79 rfl Tryz.ntmps79 (by kernel_rfl) (by simp) ?_
  intro e
  have I := Inv.start hB
  refine WP.seq ?_
  refine WP.region ?_
  refine Ops.go (O.alloc I Tryz.zeroValue61 rfl ?_)
  intro b4 w I
  refine Ops.nil ?_
  refine WP.seq ?_
  refine WP.region ?_
  refine Ops.y (v := .int .i64 _) (Y.move rfl) ?_
  refine Ops.y (v := .slice _ _ _) (Y.move rfl) ?_
  refine Ops.y (v := .agg #[.int .i64 _, .slice _ _ _]) (Y.build pl_61 Tryz.zeroValue61 rfl rfl) ?_
  refine Ops.go (O.store (v := .agg #[_, _]) I ty_61 0 rfl rfl rfl rfl rfl rfl (Nat.le_of_ble_eq_true rfl) rfl ?_)
  intro w I
  refine Ops.nil ?_
  refine WP.ret ?_
  repeat (first | refine thenE_ret ?_ | refine blockE_ret ?_)
  exact retQ.mk (vs := [.agg #[_, _]]) rfl ⟨⟨_, _, _, _, _, rfl, ty_61, I.rdbox 0 rfl 0 2, rfl, rfl⟩, trivial⟩ I.ext_of (rfl)
theorem lIs_ok (B : Base) (hB : B.ok) (a : Atm) : Fn Tryz.prog 82 [a.val] B (fun v _ => v = (Ltl.mk false a).val) := by
  refine Fn.of Tryz.func82 rfl Tryz.ntmps82 (by kernel_rfl) (by simp) ?_
  intro e
  have I := Inv.start hB
  refine WP.seq ?_
  refine WP.region ?_
  refine Ops.go (O.box (v := .agg #[_, _]) I rfl rfl ?_)
  intro b1 w I
  refine Ops.go (O.alloc I Tryz.zeroValue68 rfl ?_)
  intro b2 w I
  refine Ops.nil ?_
  refine WP.seq ?_
  refine WP.region ?_
  refine Ops.y (v := .agg #[_, _]) (Y.loadv ty_61 rfl (I.rdbox 1 rfl 0 2) rfl rfl) ?_
  refine Ops.y (v := .agg #[.bool _, .int .i64 _, .slice _ _ _]) (Y.build pl_68 Tryz.zeroValue68 rfl rfl) ?_
  refine Ops.go (O.store (v := .agg #[_, _, _]) I ty_68 0 rfl rfl rfl rfl rfl rfl (Nat.le_of_ble_eq_true rfl) rfl ?_)
  intro w I
  refine Ops.nil ?_
  refine WP.ret ?_
  repeat (first | refine thenE_ret ?_ | refine blockE_ret ?_)
  exact retQ.mk (vs := [.agg #[_, _, _]]) rfl ⟨⟨_, _, _, _, _, rfl, ty_68, I.rdbox 0 rfl 0 3, rfl, rfl⟩, trivial⟩ I.ext_of (rfl)
theorem lNot_ok (B : Base) (hB : B.ok) (a : Atm) : Fn Tryz.prog 83 [a.val] B (fun v _ => v = (Ltl.mk true a).val) := by
  refine Fn.of Tryz.func83 rfl Tryz.ntmps83 (by kernel_rfl) (by simp) ?_
  intro e
  have I := Inv.start hB
  refine WP.seq ?_
  refine WP.region ?_
  refine Ops.go (O.box (v := .agg #[_, _]) I rfl rfl ?_)
  intro b1 w I
  refine Ops.go (O.alloc I Tryz.zeroValue68 rfl ?_)
  intro b2 w I
  refine Ops.nil ?_
  refine WP.seq ?_
  refine WP.region ?_
  refine Ops.y (v := .agg #[_, _]) (Y.loadv ty_61 rfl (I.rdbox 1 rfl 0 2) rfl rfl) ?_
  refine Ops.y (v := .agg #[.bool _, .int .i64 _, .slice _ _ _]) (Y.build pl_68 Tryz.zeroValue68 rfl rfl) ?_
  refine Ops.go (O.store (v := .agg #[_, _, _]) I ty_68 0 rfl rfl rfl rfl rfl rfl (Nat.le_of_ble_eq_true rfl) rfl ?_)
  intro w I
  refine Ops.nil ?_
  refine WP.ret ?_
  repeat (first | refine thenE_ret ?_ | refine blockE_ret ?_)
  exact retQ.mk (vs := [.agg #[_, _, _]]) rfl ⟨⟨_, _, _, _, _, rfl, ty_68, I.rdbox 0 rfl 0 3, rfl, rfl⟩, trivial⟩ I.ext_of (rfl)
set_option maxHeartbeats 4000000 in
theorem roads_okC (B : Base) (hB : B.ok) : Fn Tryz.prog 35 [] B (fun v h => ∃ p : Prg, v = p.val ∧ RoadsAt p h ∧ p.rules.xs.length ≤ p.rules.cap) := by
  refine Fn.of Tryz.func35 rfl Tryz.ntmps35 (by kernel_rfl) (by simp) ?_
  intro e
  have I := Inv.start hB
  refine WP.seq ?_
  refine WP.region ?_
  refine Ops.go (O.alloc I Tryz.zeroValue25 rfl ?_)
  intro b0 w I
  refine Ops.nil ?_
  refine WP.seq ?_
  refine WP.region ?_
  refine Ops.y (v := .agg #[.string _, .int .i64 _, .int .i64 _]) (Y.build pl_53 Tryz.zeroValue53 rfl rfl) ?_
  refine Ops.y (v := .agg #[.string _, .int .i64 _, .int .i64 _]) (Y.build pl_53 Tryz.zeroValue53 rfl rfl) ?_
  refine Ops.y (v := .agg #[.string _, .int .i64 _, .int .i64 _]) (Y.build pl_53 Tryz.zeroValue53 rfl rfl) ?_
  refine Ops.go (O.mksl (xs := [⟨bEdge, 2, 0⟩, ⟨bFar, 2, 2⟩, ⟨bLone, 1, 0⟩]) (enc := Prd.enc) I Tryz.underlying22 Tryz.sizeOf53 Tryz.zeroValue53 rfl (Nat.le_of_ble_eq_true rfl) rfl rfl (by decide) (fun _ => rfl) ?_)
  intro b4 h4 w I le4 sl4
  refine Ops.go (O.callv I Tryz.call80 (lC_ok _ I.base_ok 0) rfl ?_)
  intro w I
  refine Ops.go (O.callv I Tryz.call80 (lC_ok _ I.base_ok 1) rfl ?_)
  intro w I
  refine Ops.go (O.mksl (xs := [tC 0, tC 1]) (enc := Trm.enc) I Tryz.underlying59 Tryz.sizeOf109 Tryz.zeroValue109 rfl (Nat.le_of_ble_eq_true rfl) rfl rfl (by decide) (fun _ => rfl) ?_)
  intro b7 h7 w I le7 sl7
  refine Ops.go (O.callv I Tryz.call79 (lAt_ok _ I.base_ok 0 ⟨some ⟨b7, 0, none⟩, 2, [tC 0, tC 1]⟩) rfl ?_)
  intro w I
  refine Ops.y (v := .agg #[.int .i64 _, .slice _ _ _, .int .i64 _, .int .i64 _, .slice _ _ _]) (Y.build pl_64 Tryz.zeroValue64 rfl rfl) ?_
  refine Ops.go (O.callv I Tryz.call80 (lC_ok _ I.base_ok 1) rfl ?_)
  intro w I
  refine Ops.go (O.callv I Tryz.call80 (lC_ok _ I.base_ok 2) rfl ?_)
  intro w I
  refine Ops.go (O.mksl (xs := [tC 1, tC 2]) (enc := Trm.enc) I Tryz.underlying59 Tryz.sizeOf109 Tryz.zeroValue109 rfl (Nat.le_of_ble_eq_true rfl) rfl rfl (by decide) (fun _ => rfl) ?_)
  intro b12 h12 w I le12 sl12
  refine Ops.go (O.callv I Tryz.call79 (lAt_ok _ I.base_ok 0 ⟨some ⟨b12, 0, none⟩, 2, [tC 1, tC 2]⟩) rfl ?_)
  intro w I
  refine Ops.y (v := .agg #[.int .i64 _, .slice _ _ _, .int .i64 _, .int .i64 _, .slice _ _ _]) (Y.build pl_64 Tryz.zeroValue64 rfl rfl) ?_
  refine Ops.go (O.callv I Tryz.call80 (lC_ok _ I.base_ok 2) rfl ?_)
  intro w I
  refine Ops.go (O.callv I Tryz.call80 (lC_ok _ I.base_ok 0) rfl ?_)
  intro w I
  refine Ops.go (O.mksl (xs := [tC 2, tC 0]) (enc := Trm.enc) I Tryz.underlying59 Tryz.sizeOf109 Tryz.zeroValue109 rfl (Nat.le_of_ble_eq_true rfl) rfl rfl (by decide) (fun _ => rfl) ?_)
  intro b17 h17 w I le17 sl17
  refine Ops.go (O.callv I Tryz.call79 (lAt_ok _ I.base_ok 0 ⟨some ⟨b17, 0, none⟩, 2, [tC 2, tC 0]⟩) rfl ?_)
  intro w I
  refine Ops.y (v := .agg #[.int .i64 _, .slice _ _ _, .int .i64 _, .int .i64 _, .slice _ _ _]) (Y.build pl_64 Tryz.zeroValue64 rfl rfl) ?_
  refine Ops.go (O.callv I Tryz.call80 (lC_ok _ I.base_ok 3) rfl ?_)
  intro w I
  refine Ops.go (O.callv I Tryz.call80 (lC_ok _ I.base_ok 0) rfl ?_)
  intro w I
  refine Ops.go (O.mksl (xs := [tC 3, tC 0]) (enc := Trm.enc) I Tryz.underlying59 Tryz.sizeOf109 Tryz.zeroValue109 rfl (Nat.le_of_ble_eq_true rfl) rfl rfl (by decide) (fun _ => rfl) ?_)
  intro b22 h22 w I le22 sl22
  refine Ops.go (O.callv I Tryz.call79 (lAt_ok _ I.base_ok 0 ⟨some ⟨b22, 0, none⟩, 2, [tC 3, tC 0]⟩) rfl ?_)
  intro w I
  refine Ops.y (v := .agg #[.int .i64 _, .slice _ _ _, .int .i64 _, .int .i64 _, .slice _ _ _]) (Y.build pl_64 Tryz.zeroValue64 rfl rfl) ?_
  refine Ops.go (O.callv I Tryz.call81 (lV_ok _ I.base_ok 0) rfl ?_)
  intro w I
  refine Ops.go (O.callv I Tryz.call81 (lV_ok _ I.base_ok 1) rfl ?_)
  intro w I
  refine Ops.go (O.mksl (xs := [tV 0, tV 1]) (enc := Trm.enc) I Tryz.underlying59 Tryz.sizeOf109 Tryz.zeroValue109 rfl (Nat.le_of_ble_eq_true rfl) rfl rfl (by decide) (fun _ => rfl) ?_)
  intro b27 h27 w I le27 sl27
  refine Ops.go (O.callv I Tryz.call79 (lAt_ok _ I.base_ok 1 ⟨some ⟨b27, 0, none⟩, 2, [tV 0, tV 1]⟩) rfl ?_)
  intro w I
  refine Ops.go (O.callv I Tryz.call81 (lV_ok _ I.base_ok 0) rfl ?_)
  intro w I
  refine Ops.go (O.callv I Tryz.call81 (lV_ok _ I.base_ok 1) rfl ?_)
  intro w I
  refine Ops.go (O.mksl (xs := [tV 0, tV 1]) (enc := Trm.enc) I Tryz.underlying59 Tryz.sizeOf109 Tryz.zeroValue109 rfl (Nat.le_of_ble_eq_true rfl) rfl rfl (by decide) (fun _ => rfl) ?_)
  intro b31 h31 w I le31 sl31
  refine Ops.go (O.callv I Tryz.call79 (lAt_ok _ I.base_ok 0 ⟨some ⟨b31, 0, none⟩, 2, [tV 0, tV 1]⟩) rfl ?_)
  intro w I
  refine Ops.go (O.callv I Tryz.call82 (lIs_ok _ I.base_ok ⟨0, ⟨some ⟨b31, 0, none⟩, 2, [tV 0, tV 1]⟩⟩) rfl ?_)
  intro w I
  refine Ops.go (O.mksl (xs := [⟨false, ⟨0, ⟨some ⟨b31, 0, none⟩, 2, [tV 0, tV 1]⟩⟩⟩]) (enc := Ltl.enc) I Tryz.underlying62 Tryz.sizeOf68 Tryz.zeroValue68 rfl (Nat.le_of_ble_eq_true rfl) rfl rfl (by decide) (fun _ => rfl) ?_)
  intro b34 h34 w I le34 sl34
  refine Ops.y (v := .agg #[.int .i64 _, .slice _ _ _, .int .i64 _, .int .i64 _, .slice _ _ _]) (Y.build pl_64 Tryz.zeroValue64 rfl rfl) ?_
  refine Ops.go (O.callv I Tryz.call81 (lV_ok _ I.base_ok 0) rfl ?_)
  intro w I
  refine Ops.go (O.callv I Tryz.call81 (lV_ok _ I.base_ok 2) rfl ?_)
  intro w I
  refine Ops.go (O.mksl (xs := [tV 0, tV 2]) (enc := Trm.enc) I Tryz.underlying59 Tryz.sizeOf109 Tryz.zeroValue109 rfl (Nat.le_of_ble_eq_true rfl) rfl rfl (by decide) (fun _ => rfl) ?_)
  intro b38 h38 w I le38 sl38
  refine Ops.go (O.callv I Tryz.call79 (lAt_ok _ I.base_ok 1 ⟨some ⟨b38, 0, none⟩, 2, [tV 0, tV 2]⟩) rfl ?_)
  intro w I
  refine Ops.go (O.callv I Tryz.call81 (lV_ok _ I.base_ok 0) rfl ?_)
  intro w I
  refine Ops.go (O.callv I Tryz.call81 (lV_ok _ I.base_ok 1) rfl ?_)
  intro w I
  refine Ops.go (O.mksl (xs := [tV 0, tV 1]) (enc := Trm.enc) I Tryz.underlying59 Tryz.sizeOf109 Tryz.zeroValue109 rfl (Nat.le_of_ble_eq_true rfl) rfl rfl (by decide) (fun _ => rfl) ?_)
  intro b42 h42 w I le42 sl42
  refine Ops.go (O.callv I Tryz.call79 (lAt_ok _ I.base_ok 1 ⟨some ⟨b42, 0, none⟩, 2, [tV 0, tV 1]⟩) rfl ?_)
  intro w I
  refine Ops.go (O.callv I Tryz.call82 (lIs_ok _ I.base_ok ⟨1, ⟨some ⟨b42, 0, none⟩, 2, [tV 0, tV 1]⟩⟩) rfl ?_)
  intro w I
  refine Ops.go (O.callv I Tryz.call81 (lV_ok _ I.base_ok 1) rfl ?_)
  intro w I
  refine Ops.go (O.callv I Tryz.call81 (lV_ok _ I.base_ok 2) rfl ?_)
  intro w I
  refine Ops.go (O.mksl (xs := [tV 1, tV 2]) (enc := Trm.enc) I Tryz.underlying59 Tryz.sizeOf109 Tryz.zeroValue109 rfl (Nat.le_of_ble_eq_true rfl) rfl rfl (by decide) (fun _ => rfl) ?_)
  intro b47 h47 w I le47 sl47
  refine Ops.go (O.callv I Tryz.call79 (lAt_ok _ I.base_ok 0 ⟨some ⟨b47, 0, none⟩, 2, [tV 1, tV 2]⟩) rfl ?_)
  intro w I
  refine Ops.go (O.callv I Tryz.call82 (lIs_ok _ I.base_ok ⟨0, ⟨some ⟨b47, 0, none⟩, 2, [tV 1, tV 2]⟩⟩) rfl ?_)
  intro w I
  refine Ops.go (O.mksl (xs := [⟨false, ⟨1, ⟨some ⟨b42, 0, none⟩, 2, [tV 0, tV 1]⟩⟩⟩, ⟨false, ⟨0, ⟨some ⟨b47, 0, none⟩, 2, [tV 1, tV 2]⟩⟩⟩]) (enc := Ltl.enc) I Tryz.underlying62 Tryz.sizeOf68 Tryz.zeroValue68 rfl (Nat.le_of_ble_eq_true rfl) rfl rfl (by decide) (fun _ => rfl) ?_)
  intro b50 h50 w I le50 sl50
  refine Ops.y (v := .agg #[.int .i64 _, .slice _ _ _, .int .i64 _, .int .i64 _, .slice _ _ _]) (Y.build pl_64 Tryz.zeroValue64 rfl rfl) ?_
  refine Ops.go (O.callv I Tryz.call81 (lV_ok _ I.base_ok 0) rfl ?_)
  intro w I
  refine Ops.go (O.mksl (xs := [tV 0]) (enc := Trm.enc) I Tryz.underlying59 Tryz.sizeOf109 Tryz.zeroValue109 rfl (Nat.le_of_ble_eq_true rfl) rfl rfl (by decide) (fun _ => rfl) ?_)
  intro b53 h53 w I le53 sl53
  refine Ops.go (O.callv I Tryz.call79 (lAt_ok _ I.base_ok 2 ⟨some ⟨b53, 0, none⟩, 1, [tV 0]⟩) rfl ?_)
  intro w I
  refine Ops.go (O.callv I Tryz.call81 (lV_ok _ I.base_ok 0) rfl ?_)
  intro w I
  refine Ops.go (O.callv I Tryz.call81 (lV_ok _ I.base_ok 1) rfl ?_)
  intro w I
  refine Ops.go (O.mksl (xs := [tV 0, tV 1]) (enc := Trm.enc) I Tryz.underlying59 Tryz.sizeOf109 Tryz.zeroValue109 rfl (Nat.le_of_ble_eq_true rfl) rfl rfl (by decide) (fun _ => rfl) ?_)
  intro b57 h57 w I le57 sl57
  refine Ops.go (O.callv I Tryz.call79 (lAt_ok _ I.base_ok 0 ⟨some ⟨b57, 0, none⟩, 2, [tV 0, tV 1]⟩) rfl ?_)
  intro w I
  refine Ops.go (O.callv I Tryz.call82 (lIs_ok _ I.base_ok ⟨0, ⟨some ⟨b57, 0, none⟩, 2, [tV 0, tV 1]⟩⟩) rfl ?_)
  intro w I
  refine Ops.go (O.callv I Tryz.call81 (lV_ok _ I.base_ok 0) rfl ?_)
  intro w I
  refine Ops.go (O.callv I Tryz.call81 (lV_ok _ I.base_ok 0) rfl ?_)
  intro w I
  refine Ops.go (O.mksl (xs := [tV 0, tV 0]) (enc := Trm.enc) I Tryz.underlying59 Tryz.sizeOf109 Tryz.zeroValue109 rfl (Nat.le_of_ble_eq_true rfl) rfl rfl (by decide) (fun _ => rfl) ?_)
  intro b62 h62 w I le62 sl62
  refine Ops.go (O.callv I Tryz.call79 (lAt_ok _ I.base_ok 1 ⟨some ⟨b62, 0, none⟩, 2, [tV 0, tV 0]⟩) rfl ?_)
  intro w I
  refine Ops.go (O.callv I Tryz.call83 (lNot_ok _ I.base_ok ⟨1, ⟨some ⟨b62, 0, none⟩, 2, [tV 0, tV 0]⟩⟩) rfl ?_)
  intro w I
  refine Ops.go (O.mksl (xs := [⟨false, ⟨0, ⟨some ⟨b57, 0, none⟩, 2, [tV 0, tV 1]⟩⟩⟩, ⟨true, ⟨1, ⟨some ⟨b62, 0, none⟩, 2, [tV 0, tV 0]⟩⟩⟩]) (enc := Ltl.enc) I Tryz.underlying62 Tryz.sizeOf68 Tryz.zeroValue68 rfl (Nat.le_of_ble_eq_true rfl) rfl rfl (by decide) (fun _ => rfl) ?_)
  intro b65 h65 w I le65 sl65
  refine Ops.y (v := .agg #[.int .i64 _, .slice _ _ _, .int .i64 _, .int .i64 _, .slice _ _ _]) (Y.build pl_64 Tryz.zeroValue64 rfl rfl) ?_
  refine Ops.go (O.mksl (xs := [⟨⟨0, ⟨some ⟨b7, 0, none⟩, 2, [tC 0, tC 1]⟩⟩, -1, 0, ⟨none, 0, []⟩⟩, ⟨⟨0, ⟨some ⟨b12, 0, none⟩, 2, [tC 1, tC 2]⟩⟩, -1, 0, ⟨none, 0, []⟩⟩, ⟨⟨0, ⟨some ⟨b17, 0, none⟩, 2, [tC 2, tC 0]⟩⟩, -1, 0, ⟨none, 0, []⟩⟩, ⟨⟨0, ⟨some ⟨b22, 0, none⟩, 2, [tC 3, tC 0]⟩⟩, -1, 0, ⟨none, 0, []⟩⟩, ⟨⟨1, ⟨some ⟨b27, 0, none⟩, 2, [tV 0, tV 1]⟩⟩, -1, 1, ⟨some ⟨b34, 0, none⟩, 1, [⟨false, ⟨0, ⟨some ⟨b31, 0, none⟩, 2, [tV 0, tV 1]⟩⟩⟩]⟩⟩, ⟨⟨1, ⟨some ⟨b38, 0, none⟩, 2, [tV 0, tV 2]⟩⟩, 0, 1, ⟨some ⟨b50, 0, none⟩, 2, [⟨false, ⟨1, ⟨some ⟨b42, 0, none⟩, 2, [tV 0, tV 1]⟩⟩⟩, ⟨false, ⟨0, ⟨some ⟨b47, 0, none⟩, 2, [tV 1, tV 2]⟩⟩⟩]⟩⟩, ⟨⟨2, ⟨some ⟨b53, 0, none⟩, 1, [tV 0]⟩⟩, -1, 0, ⟨some ⟨b65, 0, none⟩, 2, [⟨false, ⟨0, ⟨some ⟨b57, 0, none⟩, 2, [tV 0, tV 1]⟩⟩⟩, ⟨true, ⟨1, ⟨some ⟨b62, 0, none⟩, 2, [tV 0, tV 0]⟩⟩⟩]⟩⟩]) (enc := Rul.enc) I Tryz.underlying23 Tryz.sizeOf64 Tryz.zeroValue64 rfl (Nat.le_of_ble_eq_true rfl) rfl rfl (by decide) (fun _ => rfl) ?_)
  intro b67 h67 w I le67 sl67
  refine Ops.y (v := .agg #[.slice _ _ _, .slice _ _ _]) (Y.build pl_25 Tryz.zeroValue25 rfl rfl) ?_
  refine Ops.go (O.store (v := .agg #[_, _]) I ty_25 0 rfl rfl rfl rfl rfl rfl (Nat.le_of_ble_eq_true rfl) rfl ?_)
  intro w I
  refine Ops.nil ?_
  have q67 := Heap.le.refl h67
  have q65 := le67.trans q67
  have q62 := le65.trans q65
  have q57 := le62.trans q62
  have q53 := le57.trans q57
  have q50 := le53.trans q53
  have q47 := le50.trans q50
  have q42 := le47.trans q47
  have q38 := le42.trans q42
  have q34 := le38.trans q38
  have q31 := le34.trans q34
  have q27 := le31.trans q31
  have q22 := le27.trans q27
  have q17 := le22.trans q22
  have q12 := le17.trans q17
  have q7 := le12.trans q12
  have q4 := le7.trans q7
  have r0 : Rul.In ⟨⟨0, ⟨some ⟨b7, 0, none⟩, 2, [tC 0, tC 1]⟩⟩, -1, 0, ⟨none, 0, []⟩⟩ h67 := ⟨⟨sl7.le q7, by simp⟩, ⟨nilIs, by simp⟩⟩
  have r1 : Rul.In ⟨⟨0, ⟨some ⟨b12, 0, none⟩, 2, [tC 1, tC 2]⟩⟩, -1, 0, ⟨none, 0, []⟩⟩ h67 := ⟨⟨sl12.le q12, by simp⟩, ⟨nilIs, by simp⟩⟩
  have r2 : Rul.In ⟨⟨0, ⟨some ⟨b17, 0, none⟩, 2, [tC 2, tC 0]⟩⟩, -1, 0, ⟨none, 0, []⟩⟩ h67 := ⟨⟨sl17.le q17, by simp⟩, ⟨nilIs, by simp⟩⟩
  have r3 : Rul.In ⟨⟨0, ⟨some ⟨b22, 0, none⟩, 2, [tC 3, tC 0]⟩⟩, -1, 0, ⟨none, 0, []⟩⟩ h67 := ⟨⟨sl22.le q22, by simp⟩, ⟨nilIs, by simp⟩⟩
  have r4 : Rul.In ⟨⟨1, ⟨some ⟨b27, 0, none⟩, 2, [tV 0, tV 1]⟩⟩, -1, 1, ⟨some ⟨b34, 0, none⟩, 1, [⟨false, ⟨0, ⟨some ⟨b31, 0, none⟩, 2, [tV 0, tV 1]⟩⟩⟩]⟩⟩ h67 := ⟨⟨sl27.le q27, by simp⟩, ⟨⟨sl34.le q34, by simp⟩, by simp only [List.mem_cons, List.not_mem_nil, or_false]; rintro x (rfl) <;> first | exact (⟨sl31.le q31, by simp⟩ : Trms _ _)⟩⟩
  have r5 : Rul.In ⟨⟨1, ⟨some ⟨b38, 0, none⟩, 2, [tV 0, tV 2]⟩⟩, 0, 1, ⟨some ⟨b50, 0, none⟩, 2, [⟨false, ⟨1, ⟨some ⟨b42, 0, none⟩, 2, [tV 0, tV 1]⟩⟩⟩, ⟨false, ⟨0, ⟨some ⟨b47, 0, none⟩, 2, [tV 1, tV 2]⟩⟩⟩]⟩⟩ h67 := ⟨⟨sl38.le q38, by simp⟩, ⟨⟨sl50.le q50, by simp⟩, by simp only [List.mem_cons, List.not_mem_nil, or_false]; rintro x (rfl | rfl) <;> first | exact (⟨sl42.le q42, by simp⟩ : Trms _ _) | exact (⟨sl47.le q47, by simp⟩ : Trms _ _)⟩⟩
  have r6 : Rul.In ⟨⟨2, ⟨some ⟨b53, 0, none⟩, 1, [tV 0]⟩⟩, -1, 0, ⟨some ⟨b65, 0, none⟩, 2, [⟨false, ⟨0, ⟨some ⟨b57, 0, none⟩, 2, [tV 0, tV 1]⟩⟩⟩, ⟨true, ⟨1, ⟨some ⟨b62, 0, none⟩, 2, [tV 0, tV 0]⟩⟩⟩]⟩⟩ h67 := ⟨⟨sl53.le q53, by simp⟩, ⟨⟨sl65.le q65, by simp⟩, by simp only [List.mem_cons, List.not_mem_nil, or_false]; rintro x (rfl | rfl) <;> first | exact (⟨sl57.le q57, by simp⟩ : Trms _ _) | exact (⟨sl62.le q62, by simp⟩ : Trms _ _)⟩⟩
  refine WP.ret ?_
  repeat (first | refine thenE_ret ?_ | refine blockE_ret ?_)
  exact retQ.mk (vs := [.agg #[_, _]]) rfl ⟨⟨_, _, _, _, _, rfl, ty_25, I.rdbox 0 rfl 0 2, rfl, rfl⟩, trivial⟩ I.ext_of (⟨⟨⟨some ⟨b4, 0, none⟩, 3, [⟨bEdge, 2, 0⟩, ⟨bFar, 2, 2⟩, ⟨bLone, 1, 0⟩]⟩, ⟨some ⟨b67, 0, none⟩, 7, [⟨⟨0, ⟨some ⟨b7, 0, none⟩, 2, [tC 0, tC 1]⟩⟩, -1, 0, ⟨none, 0, []⟩⟩, ⟨⟨0, ⟨some ⟨b12, 0, none⟩, 2, [tC 1, tC 2]⟩⟩, -1, 0, ⟨none, 0, []⟩⟩, ⟨⟨0, ⟨some ⟨b17, 0, none⟩, 2, [tC 2, tC 0]⟩⟩, -1, 0, ⟨none, 0, []⟩⟩, ⟨⟨0, ⟨some ⟨b22, 0, none⟩, 2, [tC 3, tC 0]⟩⟩, -1, 0, ⟨none, 0, []⟩⟩, ⟨⟨1, ⟨some ⟨b27, 0, none⟩, 2, [tV 0, tV 1]⟩⟩, -1, 1, ⟨some ⟨b34, 0, none⟩, 1, [⟨false, ⟨0, ⟨some ⟨b31, 0, none⟩, 2, [tV 0, tV 1]⟩⟩⟩]⟩⟩, ⟨⟨1, ⟨some ⟨b38, 0, none⟩, 2, [tV 0, tV 2]⟩⟩, 0, 1, ⟨some ⟨b50, 0, none⟩, 2, [⟨false, ⟨1, ⟨some ⟨b42, 0, none⟩, 2, [tV 0, tV 1]⟩⟩⟩, ⟨false, ⟨0, ⟨some ⟨b47, 0, none⟩, 2, [tV 1, tV 2]⟩⟩⟩]⟩⟩, ⟨⟨2, ⟨some ⟨b53, 0, none⟩, 1, [tV 0]⟩⟩, -1, 0, ⟨some ⟨b65, 0, none⟩, 2, [⟨false, ⟨0, ⟨some ⟨b57, 0, none⟩, 2, [tV 0, tV 1]⟩⟩⟩, ⟨true, ⟨1, ⟨some ⟨b62, 0, none⟩, 2, [tV 0, tV 0]⟩⟩⟩]⟩⟩]⟩⟩, rfl, ⟨⟨⟨sl4.le q4, by simp⟩, ⟨⟨sl67.le q67, by simp⟩, by simp only [List.mem_cons, List.not_mem_nil, or_false]; rintro x (rfl | rfl | rfl | rfl | rfl | rfl | rfl) <;> assumption⟩⟩, rfl, by simp only [List.mem_cons, List.not_mem_nil, or_false]; rintro x (rfl | rfl | rfl | rfl | rfl | rfl | rfl) <;> simp⟩, Nat.le_refl 7⟩)
theorem roads_ok (B : Base) (hB : B.ok) : Fn Tryz.prog 35 [] B (fun v h => ∃ p : Prg, v = p.val ∧ RoadsAt p h) := (roads_okC B hB).mono fun _ _ _ ⟨p, a, b, _⟩ => ⟨p, a, b⟩
end Go.TF
end
section
/- The laws of rules: each returns true. -/
namespace Go.TF
open Go Go.RowKit Go.Proofs
set_option maxRecDepth 20000

theorem RoadsAt.le {p : Prg} {h h' : Heap} (x : RoadsAt p h) (hl : h.le h') : RoadsAt p h' := ⟨x.is.le hl, x.er, x.cap⟩
theorem RoadsAt.preds {p : Prg} {h : Heap} (x : RoadsAt p h) : p.preds.xs = roadsC.preds.xs := by have := congrArg (fun q : Prg => q.preds.xs) x.er; exact this
theorem RoadsAt.get {p : Prg} {h : Heap} (x : RoadsAt p h) {i : Nat} {r : Rul} (hr : roadsC.rules.xs[i]? = some r) : ∃ r', p.rules.xs[i]? = some r' ∧ r'.er = r := by
  have h1 := congrArg (fun q : Prg => q.rules.xs[i]?) x.er
  simp only [Prg.er, hr, List.getElem?_map, Option.map_eq_some_iff] at h1
  exact h1
theorem RoadsAt.atom {p : Prg} {h : Heap} (x : RoadsAt p h) {a b : Atm} (e : a.er = b) : checkAtom p.preds.xs a = checkAtom roadsC.preds.xs b := by rw [← checkAtom_er, e, x.preds]
theorem RoadsAt.rule {p : Prg} {h : Heap} (x : RoadsAt p h) {a b : Rul} (e : a.er = b) : checkRule p.preds.xs a = checkRule roadsC.preds.xs b := by rw [← checkRule_er, e, x.preds]
end Go.TF
end
section
/- slices.Clone at this program's types: the same, in memory of its own. -/
namespace Go.TF
open Go Go.RowKit Go.Proofs
set_option maxRecDepth 10000
theorem CloneFct_ok (B : Base) (hB : B.ok) (l : Sl Fct) (hl : l.Is 4 Fct.enc B.h) (hb : l.xs.length * 32 ≤ 140737488355328) :
    Fn Tryz.prog 137 [l.val] B (fun v h => ∃ s : Sl Fct, v = s.val ∧ s.xs = l.xs ∧ OwnH 83 4 s Fct.enc B.h h ∧ (s.xs = [] → s.cap = 0)) := by
  refine Fn.of Tryz.func137 rfl Tryz.ntmps137 (by kernel_rfl) (by simp) ?_
  intro e
  have I := Inv.start hB
  refine WP.seq ?_
  refine WP.region ?_
  refine Ops.y (v := .slice _ _ _) (Y.assign rfl) ?_
  refine Ops.nil ?_
  refine WP.seq ?_
  refine WP.seq ?_
  refine WP.region ?_
  refine Ops.y (v := .slice _ _ _) (Y.move rfl) ?_
  refine Ops.y (v := .bool _) (Y.eqnil Tryz.underlying31 rfl rfl) ?_
  refine Ops.nil ?_
  refine WP.cond rfl (fun h => ?_) (fun h => ?_)
  · refine WP.seq ?_
    refine WP.region ?_
    refine Ops.y (v := .slice _ _ _) (Y.assign rfl) ?_
    refine Ops.nil ?_
    have hx : l.xs = [] := by
      cases hx : l.xs with
      | nil => rfl
      | cons a r =>
        have := (hl.el 0 a (by rw [hx]; rfl)).1
        simp only [this, Option.isNone_some] at h; cases h
    refine WP.ret ?_
    repeat (first | refine thenE_ret ?_ | refine blockE_ret ?_)
    exact retQ.mk (vs := [.slice _ _ _]) rfl ⟨rfl, trivial⟩ I.ext_of (⟨⟨none, 0, []⟩, rfl, hx.symm, .inl rfl, fun _ => rfl⟩)
  refine WP.skip ?_
  refine WP.seq ?_
  refine WP.region ?_
  refine Ops.go (O.mkE (α := Fct) Fct.enc I Tryz.underlying31 Tryz.sizeOf83 ?_)
  intro s5 h5 w I le5 e5 c5 a5 o5
  refine Ops.y (v := .slice _ _ _) (Y.move rfl) ?_
  refine Ops.go (O.appendE (α := Fct) I Tryz.underlying31 et_83 (fun _ => rfl) o5 le5 e5 c5 a5 (hl.el.le le5) rfl rfl (by omega) (by have := hl.small; omega) ?_)
  intro r h2 w I le2 hr o2 r0
  refine Ops.y (v := .slice _ _ _) (Y.assign rfl) ?_
  refine Ops.nil ?_
  refine WP.ret ?_
  repeat (first | refine thenE_ret ?_ | refine blockE_ret ?_)
  exact retQ.mk (vs := [.slice _ _ _]) rfl ⟨rfl, trivial⟩ I.ext_of (⟨r, rfl, hr, o2, r0⟩)
end Go.TF
end
section
/- Places of facts, their order; which may be; checks of facts. -/
namespace Go.TF
open Go Go.RowKit Go.Proofs
set_option maxRecDepth 20000

@[reducible] def nEnc (n : Int) : List Value := [.int .i64 n]
theorem isNaN_ok (B : Base) (hB : B.ok) (a : Int) : Fn Tryz.prog 197 [.int .i64 a] B (fun v _ => v = .bool false) := by
  refine Fn.of Tryz.func197 rfl Tryz.ntmps197 (by kernel_rfl) (by simp) ?_
  intro e
  have I := Inv.start hB
  refine WP.seq ?_
  refine WP.region ?_
  refine Ops.y (v := .bool _) (Y.assign rfl) ?_
  refine Ops.nil ?_
  refine WP.seq ?_
  refine WP.region ?_
  refine Ops.y (v := .int .i64 _) (Y.move rfl) ?_
  refine Ops.y (v := .int .i64 _) (Y.move rfl) ?_
  refine Ops.y (v := .bool (decide _)) (Y.nei rfl rfl) ?_
  refine Ops.y (v := .bool _) (Y.assign rfl) ?_
  refine Ops.nil ?_
  refine WP.ret ?_
  repeat (first | refine thenE_ret ?_ | refine blockE_ret ?_)
  exact retQ.mk (vs := [.bool _]) rfl ⟨rfl, trivial⟩ I.ext_of (by simp only [tup]; simp)
theorem Compare_ok (B : Base) (hB : B.ok) (a b : Int) : Fn Tryz.prog 158 [.int .i64 a, .int .i64 b] B (fun v _ => v = .int .i64 (cmpI a b)) := by
  refine Fn.of Tryz.func158 rfl Tryz.ntmps158 (by kernel_rfl) (by simp) ?_
  intro e
  have I := Inv.start hB
  refine WP.seq ?_
  refine WP.region ?_
  refine Ops.y (v := .int .i64 _) (Y.assign rfl) ?_
  refine Ops.nil ?_
  refine WP.seq ?_
  refine WP.region ?_
  refine Ops.y (v := .int .i64 _) (Y.move rfl) ?_
  refine Ops.go (O.callv I Tryz.call197 (isNaN_ok _ I.base_ok a) rfl ?_)
  intro w I
  refine Ops.y (v := .bool _) (Y.assign rfl) ?_
  refine Ops.nil ?_
  refine WP.seq ?_
  refine WP.region ?_
  refine Ops.y (v := .int .i64 _) (Y.move rfl) ?_
  refine Ops.go (O.callv I Tryz.call197 (isNaN_ok _ I.base_ok b) rfl ?_)
  intro w I
  refine Ops.y (v := .bool _) (Y.assign rfl) ?_
  refine Ops.nil ?_
  refine WP.seq ?_
  refine WP.seq ?_
  refine WP.region ?_
  refine Ops.y (v := .bool _) (Y.move rfl) ?_
  refine Ops.nil ?_
  refine WP.cond_f rfl ?_
  refine WP.skip ?_
  refine WP.seq ?_
  refine WP.seq ?_
  refine WP.region ?_
  refine Ops.y (v := .bool _) (Y.move rfl) ?_
  refine Ops.nil ?_
  refine WP.cond_f rfl ?_
  refine WP.skip ?_
  refine WP.seq ?_
  refine WP.seq ?_
  refine WP.region ?_
  refine Ops.y (v := .int .i64 _) (Y.move rfl) ?_
  refine Ops.y (v := .int .i64 _) (Y.move rfl) ?_
  refine Ops.y (v := .bool (decide _)) (Y.lti rfl rfl) ?_
  refine Ops.nil ?_
  refine WP.cond_dec rfl (fun h1 => ?_) (fun h1 => ?_)
  · refine WP.seq ?_
    refine WP.region ?_
    refine Ops.y (v := .int .i64 _) (Y.assign rfl) ?_
    refine Ops.nil ?_
    refine WP.ret ?_
    repeat (first | refine thenE_ret ?_ | refine blockE_ret ?_)
    exact retQ.mk (vs := [.int .i64 _]) rfl ⟨rfl, trivial⟩ I.ext_of (by simp only [tup, cmpI]; rw [if_pos h1])
  refine WP.skip ?_
  refine WP.seq ?_
  refine WP.seq ?_
  refine WP.region ?_
  refine Ops.y (v := .int .i64 _) (Y.move rfl) ?_
  refine Ops.y (v := .int .i64 _) (Y.move rfl) ?_
  refine Ops.y (v := .bool (decide _)) (Y.gti rfl rfl) ?_
  refine Ops.nil ?_
  refine WP.cond_dec rfl (fun h2 => ?_) (fun h2 => ?_)
  · refine WP.seq ?_
    refine WP.region ?_
    refine Ops.y (v := .int .i64 _) (Y.assign rfl) ?_
    refine Ops.nil ?_
    refine WP.ret ?_
    repeat (first | refine thenE_ret ?_ | refine blockE_ret ?_)
    exact retQ.mk (vs := [.int .i64 _]) rfl ⟨rfl, trivial⟩ I.ext_of (by simp only [tup, cmpI]; rw [if_neg h1, if_pos h2])
  refine WP.skip ?_
  refine WP.seq ?_
  refine WP.region ?_
  refine Ops.y (v := .int .i64 _) (Y.assign rfl) ?_
  refine Ops.nil ?_
  refine WP.ret ?_
  repeat (first | refine thenE_ret ?_ | refine blockE_ret ?_)
  exact retQ.mk (vs := [.int .i64 _]) rfl ⟨rfl, trivial⟩ I.ext_of (by simp only [tup, cmpI]; rw [if_neg h1, if_neg h2])
def orC (xs : List Int) : Int := (xs.find? fun n => decide (n ≠ 0)).getD 0
theorem orC_hit {xs : List Int} {k : Nat} (hk : k < xs.length) (h : ∀ j, j < k → ∀ hj : j < xs.length, xs[j] = 0) (hp : xs[k] ≠ 0) : orC xs = xs[k] := by
  have : xs.find? (fun n => decide (n ≠ 0)) = some xs[k] := List.find?_eq_some_iff_getElem.2 ⟨by simpa using hp, k, hk, rfl, fun j hj => by simpa using h j hj (by omega)⟩
  simp only [orC, this, Option.getD_some]
theorem orC_none {xs : List Int} (h : ∀ j, ∀ hj : j < xs.length, xs[j] = 0) : orC xs = 0 := by
  have : xs.find? (fun n => decide (n ≠ 0)) = none := List.find?_eq_none.2 fun x hx => by
    obtain ⟨j, hj, rfl⟩ := List.getElem_of_mem hx
    simpa using h j hj
  simp only [orC, this, Option.getD_none]
theorem cmpOr_ok (B : Base) (hB : B.ok) (l : Sl Int) (hl : l.Is 1 nEnc B.h) : Fn Tryz.prog 157 [l.val] B (fun v _ => v = .int .i64 (orC l.xs)) := by
  have hsm := hl.small
  refine Fn.of Tryz.func157 rfl Tryz.ntmps157 (by kernel_rfl) (by simp) ?_
  intro e
  have I := Inv.start hB
  refine WP.seq ?_
  refine WP.region ?_
  refine Ops.y (v := .int .i64 _) (Y.assign rfl) ?_
  refine Ops.nil ?_
  refine WP.seq ?_
  refine WP.region ?_
  refine Ops.y (v := .int .i64 _) (Y.assign rfl) ?_
  refine Ops.nil ?_
  refine WP.seq ?_
  refine WP.seq ?_
  refine WP.region ?_
  refine Ops.y (v := .slice _ _ _) (Y.move rfl) ?_
  refine Ops.y (v := .int .i64 _) (Y.lens Tryz.underlying78 rfl) ?_
  refine Ops.y (v := .int .i64 _) (Y.move rfl) ?_
  refine Ops.nil ?_
  refine WP.block ?_
  refine WP.loopE (σ := Nat) (fun k => [(3, .int .i64 0), (6, l.val), (7, .int .i64 l.xs.length), (8, .int .i64 k)]) (fun k w => Inv B B.h [] w ∧ k ≤ l.xs.length ∧ ∀ j, j < k → ∀ hj : j < l.xs.length, l.xs[j] = 0) (fun k => l.xs.length - k)
    ⟨0, ⟨rfl, rfl, rfl, rfl, trivial⟩, I, Nat.zero_le _, fun j hj => by omega⟩ ?_
  rintro k e w ⟨I, hk, hn⟩
  refine WP.seq ?_
  refine WP.region ?_
  refine Ops.y (v := .bool (decide _)) (Y.lti rfl rfl) ?_
  refine Ops.nil ?_
  refine WP.seq ?_
  refine WP.cond_dec rfl (fun h => ?_) (fun h => ?_)
  · have hk' : k < l.xs.length := by omega
    have E1 := hl.at hk'
    refine WP.skip ?_
    refine WP.seq ?_
    refine WP.block ?_
    refine WP.seq ?_
    refine WP.region ?_
    refine Ops.y (v := .pointer (some ⟨_, _, none⟩)) (Y.idxEl E1 Tryz.underlying78 Tryz.sizeOf3 rfl rfl (Int.natCast_nonneg _) rfl) ?_
    refine Ops.y (v := .int .i64 _) (Y.loadv ty_3 rfl (I.rd (E1.rd.part 0 1)) rfl rfl) ?_
    refine Ops.y (v := .int .i64 _) (Y.assign rfl) ?_
    refine Ops.nil ?_
    refine WP.seq ?_
    refine WP.region ?_
    refine Ops.y (v := .int .i64 _) (Y.move rfl) ?_
    refine Ops.y (v := .int .i64 _) (Y.move rfl) ?_
    refine Ops.y (v := .bool (decide _)) (Y.nei rfl rfl) ?_
    refine Ops.nil ?_
    refine WP.cond_dec rfl (fun h5 => ?_) (fun h5 => ?_)
    · refine WP.seq ?_
      refine WP.region ?_
      refine Ops.y (v := .int .i64 _) (Y.move rfl) ?_
      refine Ops.y (v := .int .i64 _) (Y.assign rfl) ?_
      refine Ops.nil ?_
      refine WP.ret ?_
      repeat (first | refine thenE_ret ?_ | refine blockE_ret ?_)
      exact retQ.mk (vs := [.int .i64 _]) rfl ⟨rfl, trivial⟩ I.ext_of (by simp only [tup]; rw [orC_hit hk' hn h5])
    refine WP.skip ?_
    refine WP.region ?_
    refine Ops.y (v := .int .i64 _) (Y.addi rfl rfl ⟨by omega, by omega⟩) ?_
    refine Ops.y (v := .int .i64 _) (Y.move rfl) ?_
    refine Ops.nil ?_
    exact ⟨k + 1, ⟨⟨rfl, rfl, rfl, rfl, trivial⟩, I, by omega, fun j hj hj' => by
      rcases Nat.lt_succ_iff_lt_or_eq.1 hj with h' | rfl
      · exact hn j h' hj'
      · exact Decidable.not_not.1 h5⟩, by omega⟩
  refine WP.exit ?_
  refine WP.seq ?_
  refine WP.region ?_
  refine Ops.y (v := .int .i64 _) (Y.move rfl) ?_
  refine Ops.y (v := .int .i64 _) (Y.assign rfl) ?_
  refine Ops.nil ?_
  refine WP.ret ?_
  repeat (first | refine thenE_ret ?_ | refine blockE_ret ?_)
  exact retQ.mk (vs := [.int .i64 _]) rfl ⟨rfl, trivial⟩ I.ext_of (by simp only [tup]; rw [orC_none fun j hj => hn j (by omega) hj])
theorem orC_three (a b c : Int) : orC [a, b, c] = if a ≠ 0 then a else if b ≠ 0 then b else c := by
  unfold orC
  by_cases ha : a = 0
  · by_cases hb : b = 0
    · by_cases hc : c = 0 <;> simp [ha, hb, hc]
    · simp [ha, hb]
  · simp [ha]
theorem order_ok (B : Base) (hB : B.ok) (x y : Fct) : Fn Tryz.prog 111 [x.val, y.val] B (fun v _ => v = .int .i64 (ordF x y)) := by
  refine Fn.of Tryz.func111 rfl Tryz.ntmps111 (by kernel_rfl) (by simp) ?_
  intro e
  have I := Inv.start hB
  refine WP.seq ?_
  refine WP.region ?_
  refine Ops.go (O.box (v := .agg #[_, _, _, _]) I rfl rfl ?_)
  intro b2 w I
  refine Ops.go (O.box (v := .agg #[_, _, _, _]) I rfl rfl ?_)
  intro b3 w I
  refine Ops.y (v := .int .i64 _) (Y.assign rfl) ?_
  refine Ops.nil ?_
  refine WP.seq ?_
  refine WP.regionF mixed I 18 (by kernel_rfl) ?_
  refine OpsF.y_ (v := .pointer (some ⟨_, _, none⟩)) (fun _ => runs_none _) (fun _ w us hl I => Y.fa0 fa_83_0 rfl) ?_
  refine OpsF.y_ (v := .int .i64 _) (fun _ => runs_none _) (fun _ w us hl I => Y.loadv ty_3 rfl (I.rdbox 1 rfl 0 1) rfl rfl) ?_
  refine OpsF.y_ (v := .pointer (some ⟨_, _, none⟩)) (fun _ => runs_none _) (fun _ w us hl I => Y.fa0 fa_83_0 rfl) ?_
  refine OpsF.y_ (v := .int .i64 _) (fun _ => runs_none _) (fun _ w us hl I => Y.loadv ty_3 rfl (I.rdbox 0 rfl 0 1) rfl rfl) ?_
  refine OpsF.c_ (fun _ => runs_none _) (fun _ w us hl I => O.callv I Tryz.call158 (Compare_ok _ I.base_ok _ _) rfl (fun w' I' => ⟨rfl, I'⟩)) ?_
  refine OpsF.y_ (v := .pointer (some ⟨_, _, none⟩)) (fun _ => runs_none _) (fun _ w us hl I => Y.fa fa_83_1 rfl) ?_
  refine OpsF.y_ (v := .int .i64 _) (fun _ => runs_none _) (fun _ w us hl I => Y.loadv ty_3 rfl (I.rdbox 1 rfl 1 1) rfl rfl) ?_
  refine OpsF.y_ (v := .pointer (some ⟨_, _, none⟩)) (fun _ => runs_none _) (fun _ w us hl I => Y.fa fa_83_1 rfl) ?_
  refine OpsF.y_ (v := .int .i64 _) (fun _ => runs_none _) (fun _ w us hl I => Y.loadv ty_3 rfl (I.rdbox 0 rfl 1 1) rfl rfl) ?_
  refine OpsF.c_ (fun _ => runs_none _) (fun _ w us hl I => O.callv I Tryz.call158 (Compare_ok _ I.base_ok _ _) rfl (fun w' I' => ⟨rfl, I'⟩)) ?_
  refine OpsF.y_ (v := .pointer (some ⟨_, _, none⟩)) (fun _ => runs_none _) (fun _ w us hl I => Y.fa fa_83_2 rfl) ?_
  refine OpsF.y_ (v := .int .i64 _) (fun _ => runs_none _) (fun _ w us hl I => Y.loadv ty_3 rfl (I.rdbox 1 rfl 2 1) rfl rfl) ?_
  refine OpsF.y_ (v := .pointer (some ⟨_, _, none⟩)) (fun _ => runs_none _) (fun _ w us hl I => Y.fa fa_83_2 rfl) ?_
  refine OpsF.y_ (v := .int .i64 _) (fun _ => runs_none _) (fun _ w us hl I => Y.loadv ty_3 rfl (I.rdbox 0 rfl 2 1) rfl rfl) ?_
  refine OpsF.c_ (fun _ => runs_none _) (fun _ w us hl I => O.callv I Tryz.call158 (Compare_ok _ I.base_ok _ _) rfl (fun w' I' => ⟨rfl, I'⟩)) ?_
  refine OpsF.x_ (Φ := SlS 1 nEnc [cmpI x.pred y.pred, cmpI x.a y.a, cmpI x.b y.b]) SlS.mono (fun _ => runs_none _) ?_ ?_
  · intro _ w hl I
    exact O.mksl (xs := [cmpI x.pred y.pred, cmpI x.a y.a, cmpI x.b y.b]) (enc := nEnc) I Tryz.underlying78 Tryz.sizeOf3 Tryz.zeroValue3 rfl (Nat.le_of_ble_eq_true rfl) rfl rfl (by decide) (fun _ => rfl) (fun b h w I le sl => ⟨h, le, I, ⟨⟨some ⟨b, 0, none⟩, _, [cmpI x.pred y.pred, cmpI x.a y.a, cmpI x.b y.b]⟩, rfl, rfl, ⟨sl, by simp⟩⟩⟩)
  refine OpsF.d_ (v := .int .i64 (ordF x y)) (fun _ => runs_none _) ?_ ?_
  · intro _ w hl I u20 q20
    obtain ⟨s, rfl, es, hs⟩ := q20 rfl
    exact O.callv I Tryz.call157 (cmpOr_ok _ I.base_ok s hs) rfl (fun w' I' => ⟨congrArg (Value.int .i64) ((congrArg orC es).trans (orC_three _ _ _)), I'⟩)
  refine OpsF.y_ (v := .int .i64 _) (fun _ => runs_none _) (fun _ w us hl I => Y.assign rfl) ?_
  refine OpsF.nil ?_
  intro _ w hl I u20 q20
  refine Ops.nil ?_
  refine WP.ret ?_
  repeat (first | refine thenE_ret ?_ | refine blockE_ret ?_)
  exact retQ.mk (vs := [.int .i64 _]) rfl ⟨rfl, trivial⟩ I.ext_of (rfl)
def mostA (p : Prd) (n : Int) : Int := if p.arity < n then 0 else 4
theorem Fine1_ok (B : Base) (hB : B.ok) (b : Nat) (p : Prd) (hb : Known B.h b p.enc) (n : Int) : Fn Tryz.prog 155 [.int .i64 n, .pointer (some ⟨b, 0, none⟩)] B (fun v _ => v = .int .i64 (mostA p n)) := by
  refine Fn.of Tryz.func155 rfl Tryz.ntmps155 (by kernel_rfl) (by simp) ?_
  intro e
  have I := Inv.start hB
  refine WP.seq ?_
  refine WP.region ?_
  refine Ops.y (v := .int .i64 _) (Y.assign rfl) ?_
  refine Ops.nil ?_
  refine WP.seq ?_
  refine WP.seq ?_
  refine WP.region ?_
  refine Ops.y (v := .pointer (some ⟨_, _, none⟩)) (Y.fa fa_53_1 rfl) ?_
  refine Ops.y (v := .int .i64 _) (Y.loadv ty_3 rfl (I.rd (hb.rd.part 1 1)) rfl rfl) ?_
  refine Ops.y (v := .int .i64 _) (Y.move rfl) ?_
  refine Ops.y (v := .bool (decide _)) (Y.lti rfl rfl) ?_
  refine Ops.nil ?_
  refine WP.cond_dec rfl (fun h => ?_) (fun h => ?_)
  · refine WP.seq ?_
    refine WP.region ?_
    refine Ops.y (v := .int .i64 _) (Y.assign rfl) ?_
    refine Ops.nil ?_
    refine WP.ret ?_
    repeat (first | refine thenE_ret ?_ | refine blockE_ret ?_)
    exact retQ.mk (vs := [.int .i64 _]) rfl ⟨rfl, trivial⟩ I.ext_of (by simp only [tup, mostA]; rw [if_pos h])
  refine WP.skip ?_
  refine WP.seq ?_
  refine WP.region ?_
  refine Ops.y (v := .int .i64 _) (Y.assign rfl) ?_
  refine Ops.nil ?_
  refine WP.ret ?_
  repeat (first | refine thenE_ret ?_ | refine blockE_ret ?_)
  exact retQ.mk (vs := [.int .i64 _]) rfl ⟨rfl, trivial⟩ I.ext_of (by simp only [tup, mostA]; rw [if_neg h])
theorem fine_code {l : List Prd} {x : Fct} (h : 0 ≤ x.pred ∧ x.pred < l.length) :
    factFine l x = decide (0 ≤ x.a ∧ x.a ≤ mostA (predOf l x.pred) 1 ∧ 0 ≤ x.b ∧ x.b ≤ mostA (predOf l x.pred) 2 ∧ checkVal (predOf l x.pred).kind x.v = 0) := by
  rw [Bool.eq_iff_iff, fine_iff, decide_eq_true_eq]
  unfold mostA VOk
  (repeat' split) <;> omega
theorem Fine_ok (B : Base) (hB : B.ok) (l : Sl Prd) (hl : Prds l B.h) (x : Fct) : Fn Tryz.prog 110 [l.val, x.val] B (fun v _ => v = .bool (factFine l.xs x)) := by
  have hsm := hl.small
  refine Fn.of Tryz.func110 rfl Tryz.ntmps110 (by kernel_rfl) (by simp) ?_
  intro e
  have I := Inv.start hB
  refine WP.seq ?_
  refine WP.region ?_
  refine Ops.go (O.box (v := .agg #[_, _, _, _]) I rfl rfl ?_)
  intro b3 w I
  refine Ops.y (v := .bool _) (Y.assign rfl) ?_
  refine Ops.nil ?_
  refine WP.seq ?_
  refine WP.seq ?_
  by_cases o0 : x.pred < 0
  · refine WP.region ?_
    refine Ops.y (v := .pointer (some ⟨_, _, none⟩)) (Y.fa0 fa_83_0 rfl) ?_
    refine Ops.y (v := .int .i64 _) (Y.loadv ty_3 rfl (I.rdbox 0 rfl 0 1) rfl rfl) ?_
    refine Ops.y (v := .bool true) (Y.dec_t (Y.lti rfl rfl) (o0)) ?_
    refine Ops.y (v := .bool _) (Y.move rfl) ?_
    refine Ops.gf rfl ?_
    refine Ops.gf rfl ?_
    refine Ops.gf rfl ?_
    refine Ops.gf rfl ?_
    refine Ops.gf rfl ?_
    refine Ops.y (v := .bool _) (Y.pick_t rfl rfl) ?_
    refine Ops.nil ?_
    refine WP.cond_t rfl ?_
    refine WP.seq ?_
    refine WP.region ?_
    refine Ops.y (v := .bool _) (Y.assign rfl) ?_
    refine Ops.nil ?_
    refine WP.ret ?_
    repeat (first | refine thenE_ret ?_ | refine blockE_ret ?_)
    exact retQ.mk (vs := [.bool _]) rfl ⟨rfl, trivial⟩ I.ext_of (by simp only [tup]; rw [show factFine l.xs x = false from by rw [Bool.eq_false_iff]; intro hh; have := (fine_iff.1 hh).1; omega])
  by_cases o1 : (l.xs.length : Int) ≤ x.pred
  · refine WP.region ?_
    refine Ops.y (v := .pointer (some ⟨_, _, none⟩)) (Y.fa0 fa_83_0 rfl) ?_
    refine Ops.y (v := .int .i64 _) (Y.loadv ty_3 rfl (I.rdbox 0 rfl 0 1) rfl rfl) ?_
    refine Ops.y (v := .bool false) (Y.dec_f (Y.lti rfl rfl) (o0)) ?_
    refine Ops.y (v := .bool _) (Y.move rfl) ?_
    refine Ops.ygt rfl (v := .pointer (some ⟨_, _, none⟩)) (Y.fa0 fa_83_0 rfl) ?_
    refine Ops.ygt rfl (v := .int .i64 _) (Y.loadv ty_3 rfl (I.rdbox 0 rfl 0 1) rfl rfl) ?_
    refine Ops.ygt rfl (v := .slice _ _ _) (Y.move rfl) ?_
    refine Ops.ygt rfl (v := .int .i64 _) (Y.lens Tryz.underlying22 rfl) ?_
    refine Ops.ygt rfl (v := .bool true) (Y.dec_t (Y.gei rfl rfl) (o1)) ?_
    refine Ops.y (v := .bool _) (Y.pick_f rfl rfl) ?_
    refine Ops.nil ?_
    refine WP.cond_t rfl ?_
    refine WP.seq ?_
    refine WP.region ?_
    refine Ops.y (v := .bool _) (Y.assign rfl) ?_
    refine Ops.nil ?_
    refine WP.ret ?_
    repeat (first | refine thenE_ret ?_ | refine blockE_ret ?_)
    exact retQ.mk (vs := [.bool _]) rfl ⟨rfl, trivial⟩ I.ext_of (by simp only [tup]; rw [show factFine l.xs x = false from by rw [Bool.eq_false_iff]; intro hh; have := (fine_iff.1 hh).1; omega])
  refine WP.region ?_
  refine Ops.y (v := .pointer (some ⟨_, _, none⟩)) (Y.fa0 fa_83_0 rfl) ?_
  refine Ops.y (v := .int .i64 _) (Y.loadv ty_3 rfl (I.rdbox 0 rfl 0 1) rfl rfl) ?_
  refine Ops.y (v := .bool false) (Y.dec_f (Y.lti rfl rfl) (o0)) ?_
  refine Ops.y (v := .bool _) (Y.move rfl) ?_
  refine Ops.ygt rfl (v := .pointer (some ⟨_, _, none⟩)) (Y.fa0 fa_83_0 rfl) ?_
  refine Ops.ygt rfl (v := .int .i64 _) (Y.loadv ty_3 rfl (I.rdbox 0 rfl 0 1) rfl rfl) ?_
  refine Ops.ygt rfl (v := .slice _ _ _) (Y.move rfl) ?_
  refine Ops.ygt rfl (v := .int .i64 _) (Y.lens Tryz.underlying22 rfl) ?_
  refine Ops.ygt rfl (v := .bool false) (Y.dec_f (Y.gei rfl rfl) (o1)) ?_
  refine Ops.y (v := .bool _) (Y.pick_f rfl rfl) ?_
  refine Ops.nil ?_
  refine WP.cond_f rfl ?_
  have hk : x.pred.toNat < l.xs.length := by omega
  have h01 : 0 ≤ x.pred ∧ x.pred < l.xs.length := by omega
  have E1 := hl.at hk
  have hpo : l.xs[x.pred.toNat] = predOf l.xs x.pred := (predOf_getE h01.1 h01.2).symm
  refine WP.skip ?_
  refine WP.seq ?_
  refine WP.region ?_
  refine Ops.y (v := .slice _ _ _) (Y.move rfl) ?_
  refine Ops.y (v := .pointer (some ⟨_, _, none⟩)) (Y.fa0 fa_83_0 rfl) ?_
  refine Ops.y (v := .int .i64 _) (Y.loadv ty_3 rfl (I.rdbox 0 rfl 0 1) rfl rfl) ?_
  refine Ops.y (v := .pointer (some ⟨_, _, none⟩)) (Y.idxEl E1 Tryz.underlying22 Tryz.sizeOf53 rfl rfl h01.1 rfl) ?_
  refine Ops.y (v := .agg #[_, _, _]) (Y.loadv ty_53 rfl (I.rd (E1.rd.part 0 3)) rfl rfl) ?_
  refine Ops.go (O.alloc I Tryz.zeroValue53 rfl ?_)
  intro b5 w I
  refine Ops.go (O.store (v := .agg #[_, _, _]) I ty_53 0 rfl rfl rfl rfl rfl rfl (Nat.le_of_ble_eq_true rfl) rfl ?_)
  intro w I
  refine Ops.nil ?_
  rw [hpo] at I
  obtain ⟨h5, le5, hb5, I⟩ := I.settleBox
  refine WP.seq ?_
  refine WP.region ?_
  refine Ops.y (v := .func _ _ _) (Y.mkfunc rfl rfl) ?_
  refine Ops.y (v := .func _ _ _) (Y.assign rfl) ?_
  refine Ops.nil ?_
  by_cases a0 : 0 ≤ x.a
  case neg =>
    refine WP.seq ?_
    refine WP.regionQ mixed I (by kernel_rfl) ?_
    refine OpsQ.y (v := .pointer (some ⟨_, _, none⟩)) (fun w I => Y.fa fa_83_1 rfl) ?_
    refine OpsQ.y (v := .int .i64 _) (fun w I => Y.loadv ty_3 rfl (I.rdbox 0 rfl 1 1) rfl rfl) ?_
    refine OpsQ.y (v := .bool false) (fun w I => Y.dec_f (Y.gei rfl rfl) (a0)) ?_
    refine OpsQ.y (v := .bool _) (fun w I => Y.move rfl) ?_
    refine OpsQ.gf rfl ?_
    refine OpsQ.gf rfl ?_
    refine OpsQ.gf rfl ?_
    refine OpsQ.gf rfl ?_
    refine OpsQ.gf rfl ?_
    refine OpsQ.y (v := .bool _) (fun w I => Y.pick_f rfl rfl) ?_
    refine OpsQ.y (v := .bool _) (fun w I => Y.move rfl) ?_
    refine OpsQ.gf rfl ?_
    refine OpsQ.gf rfl ?_
    refine OpsQ.gf rfl ?_
    refine OpsQ.y (v := .bool _) (fun w I => Y.pick_f rfl rfl) ?_
    refine OpsQ.y (v := .bool _) (fun w I => Y.move rfl) ?_
    refine OpsQ.gf rfl ?_
    refine OpsQ.gf rfl ?_
    refine OpsQ.gf rfl ?_
    refine OpsQ.gf rfl ?_
    refine OpsQ.gf rfl ?_
    refine OpsQ.y (v := .bool _) (fun w I => Y.pick_f rfl rfl) ?_
    refine OpsQ.y (v := .bool _) (fun w I => Y.move rfl) ?_
    refine OpsQ.gf rfl ?_
    refine OpsQ.gf rfl ?_
    refine OpsQ.gf rfl ?_
    refine OpsQ.gf rfl ?_
    refine OpsQ.gf rfl ?_
    refine OpsQ.gf rfl ?_
    refine OpsQ.y (v := .bool _) (fun w I => Y.pick_f rfl rfl) ?_
    refine OpsQ.y (v := .bool _) (fun w I => Y.assign rfl) ?_
    refine OpsQ.nil ?_
    intro w I
    refine WP.ret ?_
    repeat (first | refine thenE_ret ?_ | refine blockE_ret ?_)
    exact retQ.mk (vs := [.bool _]) rfl ⟨rfl, trivial⟩ I.ext_of (by simp only [tup]; rw [fine_code h01, decide_eq_false (fun hh => a0 hh.1)])
  by_cases a1 : x.a ≤ mostA (predOf l.xs x.pred) 1
  case neg =>
    refine WP.seq ?_
    refine WP.regionQ mixed I (by kernel_rfl) ?_
    refine OpsQ.y (v := .pointer (some ⟨_, _, none⟩)) (fun w I => Y.fa fa_83_1 rfl) ?_
    refine OpsQ.y (v := .int .i64 _) (fun w I => Y.loadv ty_3 rfl (I.rdbox 0 rfl 1 1) rfl rfl) ?_
    refine OpsQ.y (v := .bool true) (fun w I => Y.dec_t (Y.gei rfl rfl) (a0)) ?_
    refine OpsQ.y (v := .bool _) (fun w I => Y.move rfl) ?_
    refine OpsQ.ygt rfl (v := .pointer (some ⟨_, _, none⟩)) (fun w I => Y.fa fa_83_1 rfl) ?_
    refine OpsQ.ygt rfl (v := .int .i64 _) (fun w I => Y.loadv ty_3 rfl (I.rdbox 0 rfl 1 1) rfl rfl) ?_
    refine OpsQ.ygt rfl (v := .func _ _ _) (fun w I => Y.move rfl) ?_
    refine OpsQ.cgt rfl (fun w I => QC.callcv I Tryz.call155 (fs := []) (cs := [.pointer (some ⟨b5, 0, none⟩)]) rfl (Fine1_ok _ I.base_ok b5 _ hb5 1) rfl) ?_
    refine OpsQ.ygt rfl (v := .bool false) (fun w I => Y.dec_f (Y.lei rfl rfl) (a1)) ?_
    refine OpsQ.y (v := .bool _) (fun w I => Y.pick_t rfl rfl) ?_
    refine OpsQ.y (v := .bool _) (fun w I => Y.move rfl) ?_
    refine OpsQ.gf rfl ?_
    refine OpsQ.gf rfl ?_
    refine OpsQ.gf rfl ?_
    refine OpsQ.y (v := .bool _) (fun w I => Y.pick_f rfl rfl) ?_
    refine OpsQ.y (v := .bool _) (fun w I => Y.move rfl) ?_
    refine OpsQ.gf rfl ?_
    refine OpsQ.gf rfl ?_
    refine OpsQ.gf rfl ?_
    refine OpsQ.gf rfl ?_
    refine OpsQ.gf rfl ?_
    refine OpsQ.y (v := .bool _) (fun w I => Y.pick_f rfl rfl) ?_
    refine OpsQ.y (v := .bool _) (fun w I => Y.move rfl) ?_
    refine OpsQ.gf rfl ?_
    refine OpsQ.gf rfl ?_
    refine OpsQ.gf rfl ?_
    refine OpsQ.gf rfl ?_
    refine OpsQ.gf rfl ?_
    refine OpsQ.gf rfl ?_
    refine OpsQ.y (v := .bool _) (fun w I => Y.pick_f rfl rfl) ?_
    refine OpsQ.y (v := .bool _) (fun w I => Y.assign rfl) ?_
    refine OpsQ.nil ?_
    intro w I
    refine WP.ret ?_
    repeat (first | refine thenE_ret ?_ | refine blockE_ret ?_)
    exact retQ.mk (vs := [.bool _]) rfl ⟨rfl, trivial⟩ I.ext_of (by simp only [tup]; rw [fine_code h01, decide_eq_false (fun hh => a1 hh.2.1)])
  by_cases b0 : 0 ≤ x.b
  case neg =>
    refine WP.seq ?_
    refine WP.regionQ mixed I (by kernel_rfl) ?_
    refine OpsQ.y (v := .pointer (some ⟨_, _, none⟩)) (fun w I => Y.fa fa_83_1 rfl) ?_
    refine OpsQ.y (v := .int .i64 _) (fun w I => Y.loadv ty_3 rfl (I.rdbox 0 rfl 1 1) rfl rfl) ?_
    refine OpsQ.y (v := .bool true) (fun w I => Y.dec_t (Y.gei rfl rfl) (a0)) ?_
    refine OpsQ.y (v := .bool _) (fun w I => Y.move rfl) ?_
    refine OpsQ.ygt rfl (v := .pointer (some ⟨_, _, none⟩)) (fun w I => Y.fa fa_83_1 rfl) ?_
    refine OpsQ.ygt rfl (v := .int .i64 _) (fun w I => Y.loadv ty_3 rfl (I.rdbox 0 rfl 1 1) rfl rfl) ?_
    refine OpsQ.ygt rfl (v := .func _ _ _) (fun w I => Y.move rfl) ?_
    refine OpsQ.cgt rfl (fun w I => QC.callcv I Tryz.call155 (fs := []) (cs := [.pointer (some ⟨b5, 0, none⟩)]) rfl (Fine1_ok _ I.base_ok b5 _ hb5 1) rfl) ?_
    refine OpsQ.ygt rfl (v := .bool true) (fun w I => Y.dec_t (Y.lei rfl rfl) (a1)) ?_
    refine OpsQ.y (v := .bool _) (fun w I => Y.pick_t rfl rfl) ?_
    refine OpsQ.y (v := .bool _) (fun w I => Y.move rfl) ?_
    refine OpsQ.ygt rfl (v := .pointer (some ⟨_, _, none⟩)) (fun w I => Y.fa fa_83_2 rfl) ?_
    refine OpsQ.ygt rfl (v := .int .i64 _) (fun w I => Y.loadv ty_3 rfl (I.rdbox 0 rfl 2 1) rfl rfl) ?_
    refine OpsQ.ygt rfl (v := .bool false) (fun w I => Y.dec_f (Y.gei rfl rfl) (b0)) ?_
    refine OpsQ.y (v := .bool _) (fun w I => Y.pick_t rfl rfl) ?_
    refine OpsQ.y (v := .bool _) (fun w I => Y.move rfl) ?_
    refine OpsQ.gf rfl ?_
    refine OpsQ.gf rfl ?_
    refine OpsQ.gf rfl ?_
    refine OpsQ.gf rfl ?_
    refine OpsQ.gf rfl ?_
    refine OpsQ.y (v := .bool _) (fun w I => Y.pick_f rfl rfl) ?_
    refine OpsQ.y (v := .bool _) (fun w I => Y.move rfl) ?_
    refine OpsQ.gf rfl ?_
    refine OpsQ.gf rfl ?_
    refine OpsQ.gf rfl ?_
    refine OpsQ.gf rfl ?_
    refine OpsQ.gf rfl ?_
    refine OpsQ.gf rfl ?_
    refine OpsQ.y (v := .bool _) (fun w I => Y.pick_f rfl rfl) ?_
    refine OpsQ.y (v := .bool _) (fun w I => Y.assign rfl) ?_
    refine OpsQ.nil ?_
    intro w I
    refine WP.ret ?_
    repeat (first | refine thenE_ret ?_ | refine blockE_ret ?_)
    exact retQ.mk (vs := [.bool _]) rfl ⟨rfl, trivial⟩ I.ext_of (by simp only [tup]; rw [fine_code h01, decide_eq_false (fun hh => b0 hh.2.2.1)])
  by_cases b1 : x.b ≤ mostA (predOf l.xs x.pred) 2
  case neg =>
    refine WP.seq ?_
    refine WP.regionQ mixed I (by kernel_rfl) ?_
    refine OpsQ.y (v := .pointer (some ⟨_, _, none⟩)) (fun w I => Y.fa fa_83_1 rfl) ?_
    refine OpsQ.y (v := .int .i64 _) (fun w I => Y.loadv ty_3 rfl (I.rdbox 0 rfl 1 1) rfl rfl) ?_
    refine OpsQ.y (v := .bool true) (fun w I => Y.dec_t (Y.gei rfl rfl) (a0)) ?_
    refine OpsQ.y (v := .bool _) (fun w I => Y.move rfl) ?_
    refine OpsQ.ygt rfl (v := .pointer (some ⟨_, _, none⟩)) (fun w I => Y.fa fa_83_1 rfl) ?_
    refine OpsQ.ygt rfl (v := .int .i64 _) (fun w I => Y.loadv ty_3 rfl (I.rdbox 0 rfl 1 1) rfl rfl) ?_
    refine OpsQ.ygt rfl (v := .func _ _ _) (fun w I => Y.move rfl) ?_
    refine OpsQ.cgt rfl (fun w I => QC.callcv I Tryz.call155 (fs := []) (cs := [.pointer (some ⟨b5, 0, none⟩)]) rfl (Fine1_ok _ I.base_ok b5 _ hb5 1) rfl) ?_
    refine OpsQ.ygt rfl (v := .bool true) (fun w I => Y.dec_t (Y.lei rfl rfl) (a1)) ?_
    refine OpsQ.y (v := .bool _) (fun w I => Y.pick_t rfl rfl) ?_
    refine OpsQ.y (v := .bool _) (fun w I => Y.move rfl) ?_
    refine OpsQ.ygt rfl (v := .pointer (some ⟨_, _, none⟩)) (fun w I => Y.fa fa_83_2 rfl) ?_
    refine OpsQ.ygt rfl (v := .int .i64 _) (fun w I => Y.loadv ty_3 rfl (I.rdbox 0 rfl 2 1) rfl rfl) ?_
    refine OpsQ.ygt rfl (v := .bool true) (fun w I => Y.dec_t (Y.gei rfl rfl) (b0)) ?_
    refine OpsQ.y (v := .bool _) (fun w I => Y.pick_t rfl rfl) ?_
    refine OpsQ.y (v := .bool _) (fun w I => Y.move rfl) ?_
    refine OpsQ.ygt rfl (v := .pointer (some ⟨_, _, none⟩)) (fun w I => Y.fa fa_83_2 rfl) ?_
    refine OpsQ.ygt rfl (v := .int .i64 _) (fun w I => Y.loadv ty_3 rfl (I.rdbox 0 rfl 2 1) rfl rfl) ?_
    refine OpsQ.ygt rfl (v := .func _ _ _) (fun w I => Y.move rfl) ?_
    refine OpsQ.cgt rfl (fun w I => QC.callcv I Tryz.call155 (fs := []) (cs := [.pointer (some ⟨b5, 0, none⟩)]) rfl (Fine1_ok _ I.base_ok b5 _ hb5 2) rfl) ?_
    refine OpsQ.ygt rfl (v := .bool false) (fun w I => Y.dec_f (Y.lei rfl rfl) (b1)) ?_
    refine OpsQ.y (v := .bool _) (fun w I => Y.pick_t rfl rfl) ?_
    refine OpsQ.y (v := .bool _) (fun w I => Y.move rfl) ?_
    refine OpsQ.gf rfl ?_
    refine OpsQ.gf rfl ?_
    refine OpsQ.gf rfl ?_
    refine OpsQ.gf rfl ?_
    refine OpsQ.gf rfl ?_
    refine OpsQ.gf rfl ?_
    refine OpsQ.y (v := .bool _) (fun w I => Y.pick_f rfl rfl) ?_
    refine OpsQ.y (v := .bool _) (fun w I => Y.assign rfl) ?_
    refine OpsQ.nil ?_
    intro w I
    refine WP.ret ?_
    repeat (first | refine thenE_ret ?_ | refine blockE_ret ?_)
    exact retQ.mk (vs := [.bool _]) rfl ⟨rfl, trivial⟩ I.ext_of (by simp only [tup]; rw [fine_code h01, decide_eq_false (fun hh => b1 hh.2.2.2.1)])
  refine WP.seq ?_
  refine WP.regionQ mixed I (by kernel_rfl) ?_
  refine OpsQ.y (v := .pointer (some ⟨_, _, none⟩)) (fun w I => Y.fa fa_83_1 rfl) ?_
  refine OpsQ.y (v := .int .i64 _) (fun w I => Y.loadv ty_3 rfl (I.rdbox 0 rfl 1 1) rfl rfl) ?_
  refine OpsQ.y (v := .bool true) (fun w I => Y.dec_t (Y.gei rfl rfl) (a0)) ?_
  refine OpsQ.y (v := .bool _) (fun w I => Y.move rfl) ?_
  refine OpsQ.ygt rfl (v := .pointer (some ⟨_, _, none⟩)) (fun w I => Y.fa fa_83_1 rfl) ?_
  refine OpsQ.ygt rfl (v := .int .i64 _) (fun w I => Y.loadv ty_3 rfl (I.rdbox 0 rfl 1 1) rfl rfl) ?_
  refine OpsQ.ygt rfl (v := .func _ _ _) (fun w I => Y.move rfl) ?_
  refine OpsQ.cgt rfl (fun w I => QC.callcv I Tryz.call155 (fs := []) (cs := [.pointer (some ⟨b5, 0, none⟩)]) rfl (Fine1_ok _ I.base_ok b5 _ hb5 1) rfl) ?_
  refine OpsQ.ygt rfl (v := .bool true) (fun w I => Y.dec_t (Y.lei rfl rfl) (a1)) ?_
  refine OpsQ.y (v := .bool _) (fun w I => Y.pick_t rfl rfl) ?_
  refine OpsQ.y (v := .bool _) (fun w I => Y.move rfl) ?_
  refine OpsQ.ygt rfl (v := .pointer (some ⟨_, _, none⟩)) (fun w I => Y.fa fa_83_2 rfl) ?_
  refine OpsQ.ygt rfl (v := .int .i64 _) (fun w I => Y.loadv ty_3 rfl (I.rdbox 0 rfl 2 1) rfl rfl) ?_
  refine OpsQ.ygt rfl (v := .bool true) (fun w I => Y.dec_t (Y.gei rfl rfl) (b0)) ?_
  refine OpsQ.y (v := .bool _) (fun w I => Y.pick_t rfl rfl) ?_
  refine OpsQ.y (v := .bool _) (fun w I => Y.move rfl) ?_
  refine OpsQ.ygt rfl (v := .pointer (some ⟨_, _, none⟩)) (fun w I => Y.fa fa_83_2 rfl) ?_
  refine OpsQ.ygt rfl (v := .int .i64 _) (fun w I => Y.loadv ty_3 rfl (I.rdbox 0 rfl 2 1) rfl rfl) ?_
  refine OpsQ.ygt rfl (v := .func _ _ _) (fun w I => Y.move rfl) ?_
  refine OpsQ.cgt rfl (fun w I => QC.callcv I Tryz.call155 (fs := []) (cs := [.pointer (some ⟨b5, 0, none⟩)]) rfl (Fine1_ok _ I.base_ok b5 _ hb5 2) rfl) ?_
  refine OpsQ.ygt rfl (v := .bool true) (fun w I => Y.dec_t (Y.lei rfl rfl) (b1)) ?_
  refine OpsQ.y (v := .bool _) (fun w I => Y.pick_t rfl rfl) ?_
  refine OpsQ.y (v := .bool _) (fun w I => Y.move rfl) ?_
  refine OpsQ.ygt rfl (v := .pointer (some ⟨_, _, none⟩)) (fun w I => Y.fa fa_53_2 rfl) ?_
  refine OpsQ.ygt rfl (v := .int .i64 _) (fun w I => Y.loadv ty_3 rfl (I.rd (hb5.rd.part 2 1)) rfl rfl) ?_
  refine OpsQ.ygt rfl (v := .pointer (some ⟨_, _, none⟩)) (fun w I => Y.fa fa_83_3 rfl) ?_
  refine OpsQ.ygt rfl (v := .int .i64 _) (fun w I => Y.loadv ty_3 rfl (I.rdbox 0 rfl 3 1) rfl rfl) ?_
  refine OpsQ.cgt rfl (fun w I => QC.callv I Tryz.call156 (Check_ok _ I.base_ok _ _) rfl) ?_
  refine OpsQ.ygt rfl (v := .bool (decide _)) (fun w I => Y.eqi rfl rfl) ?_
  refine OpsQ.y (v := .bool _) (fun w I => Y.pick_t rfl rfl) ?_
  refine OpsQ.y (v := .bool _) (fun w I => Y.assign rfl) ?_
  refine OpsQ.nil ?_
  intro w I
  refine WP.ret ?_
  repeat (first | refine thenE_ret ?_ | refine blockE_ret ?_)
  exact retQ.mk (vs := [.bool _]) rfl ⟨rfl, trivial⟩ I.ext_of (by simp only [tup]; rw [fine_code h01]; congr 1; rw [decide_eq_decide]; exact ⟨fun hh => ⟨a0, a1, b0, b1, hh⟩, fun hh => hh.2.2.2.2⟩)
theorem Check1_ok (B : Base) (hB : B.ok) (x : Prd) : Fn Tryz.prog 109 [x.val] B (fun v _ => v = .bool (!predFine x)) := by
  refine Fn.of Tryz.func109 rfl Tryz.ntmps109 (by kernel_rfl) (by simp) ?_
  intro e
  have I := Inv.start hB
  refine WP.seq ?_
  refine WP.region ?_
  refine Ops.go (O.box (v := .agg #[_, _, _]) I rfl rfl ?_)
  intro b1 w I
  refine Ops.y (v := .bool _) (Y.assign rfl) ?_
  refine Ops.nil ?_
  refine WP.seq ?_
  by_cases o0 : x.kind < 0
  · refine WP.region ?_
    refine Ops.y (v := .pointer (some ⟨_, _, none⟩)) (Y.fa fa_53_2 rfl) ?_
    refine Ops.y (v := .int .i64 _) (Y.loadv ty_3 rfl (I.rdbox 0 rfl 2 1) rfl rfl) ?_
    refine Ops.y (v := .bool true) (Y.dec_t (Y.lti rfl rfl) (o0)) ?_
    refine Ops.y (v := .bool _) (Y.move rfl) ?_
    refine Ops.gf rfl ?_
    refine Ops.gf rfl ?_
    refine Ops.gf rfl ?_
    refine Ops.y (v := .bool _) (Y.pick_t rfl rfl) ?_
    refine Ops.y (v := .bool _) (Y.move rfl) ?_
    refine Ops.gf rfl ?_
    refine Ops.gf rfl ?_
    refine Ops.gf rfl ?_
    refine Ops.y (v := .bool _) (Y.pick_t rfl rfl) ?_
    refine Ops.y (v := .bool _) (Y.move rfl) ?_
    refine Ops.gf rfl ?_
    refine Ops.gf rfl ?_
    refine Ops.gf rfl ?_
    refine Ops.y (v := .bool _) (Y.pick_t rfl rfl) ?_
    refine Ops.y (v := .bool _) (Y.assign rfl) ?_
    refine Ops.nil ?_
    refine WP.ret ?_
    repeat (first | refine thenE_ret ?_ | refine blockE_ret ?_)
    exact retQ.mk (vs := [.bool _]) rfl ⟨rfl, trivial⟩ I.ext_of (by simp only [tup]; rw [show predFine x = false from by unfold predFine; rw [decide_eq_false (by omega)]]; rfl)
  by_cases o1 : 3 < x.kind
  · refine WP.region ?_
    refine Ops.y (v := .pointer (some ⟨_, _, none⟩)) (Y.fa fa_53_2 rfl) ?_
    refine Ops.y (v := .int .i64 _) (Y.loadv ty_3 rfl (I.rdbox 0 rfl 2 1) rfl rfl) ?_
    refine Ops.y (v := .bool false) (Y.dec_f (Y.lti rfl rfl) (o0)) ?_
    refine Ops.y (v := .bool _) (Y.move rfl) ?_
    refine Ops.ygt rfl (v := .pointer (some ⟨_, _, none⟩)) (Y.fa fa_53_2 rfl) ?_
    refine Ops.ygt rfl (v := .int .i64 _) (Y.loadv ty_3 rfl (I.rdbox 0 rfl 2 1) rfl rfl) ?_
    refine Ops.ygt rfl (v := .bool true) (Y.dec_t (Y.gti rfl rfl) (o1)) ?_
    refine Ops.y (v := .bool _) (Y.pick_f rfl rfl) ?_
    refine Ops.y (v := .bool _) (Y.move rfl) ?_
    refine Ops.gf rfl ?_
    refine Ops.gf rfl ?_
    refine Ops.gf rfl ?_
    refine Ops.y (v := .bool _) (Y.pick_t rfl rfl) ?_
    refine Ops.y (v := .bool _) (Y.move rfl) ?_
    refine Ops.gf rfl ?_
    refine Ops.gf rfl ?_
    refine Ops.gf rfl ?_
    refine Ops.y (v := .bool _) (Y.pick_t rfl rfl) ?_
    refine Ops.y (v := .bool _) (Y.assign rfl) ?_
    refine Ops.nil ?_
    refine WP.ret ?_
    repeat (first | refine thenE_ret ?_ | refine blockE_ret ?_)
    exact retQ.mk (vs := [.bool _]) rfl ⟨rfl, trivial⟩ I.ext_of (by simp only [tup]; rw [show predFine x = false from by unfold predFine; rw [decide_eq_false (by omega)]]; rfl)
  by_cases o2 : x.arity < 0
  · refine WP.region ?_
    refine Ops.y (v := .pointer (some ⟨_, _, none⟩)) (Y.fa fa_53_2 rfl) ?_
    refine Ops.y (v := .int .i64 _) (Y.loadv ty_3 rfl (I.rdbox 0 rfl 2 1) rfl rfl) ?_
    refine Ops.y (v := .bool false) (Y.dec_f (Y.lti rfl rfl) (o0)) ?_
    refine Ops.y (v := .bool _) (Y.move rfl) ?_
    refine Ops.ygt rfl (v := .pointer (some ⟨_, _, none⟩)) (Y.fa fa_53_2 rfl) ?_
    refine Ops.ygt rfl (v := .int .i64 _) (Y.loadv ty_3 rfl (I.rdbox 0 rfl 2 1) rfl rfl) ?_
    refine Ops.ygt rfl (v := .bool false) (Y.dec_f (Y.gti rfl rfl) (o1)) ?_
    refine Ops.y (v := .bool _) (Y.pick_f rfl rfl) ?_
    refine Ops.y (v := .bool _) (Y.move rfl) ?_
    refine Ops.ygt rfl (v := .pointer (some ⟨_, _, none⟩)) (Y.fa fa_53_1 rfl) ?_
    refine Ops.ygt rfl (v := .int .i64 _) (Y.loadv ty_3 rfl (I.rdbox 0 rfl 1 1) rfl rfl) ?_
    refine Ops.ygt rfl (v := .bool true) (Y.dec_t (Y.lti rfl rfl) (o2)) ?_
    refine Ops.y (v := .bool _) (Y.pick_f rfl rfl) ?_
    refine Ops.y (v := .bool _) (Y.move rfl) ?_
    refine Ops.gf rfl ?_
    refine Ops.gf rfl ?_
    refine Ops.gf rfl ?_
    refine Ops.y (v := .bool _) (Y.pick_t rfl rfl) ?_
    refine Ops.y (v := .bool _) (Y.assign rfl) ?_
    refine Ops.nil ?_
    refine WP.ret ?_
    repeat (first | refine thenE_ret ?_ | refine blockE_ret ?_)
    exact retQ.mk (vs := [.bool _]) rfl ⟨rfl, trivial⟩ I.ext_of (by simp only [tup]; rw [show predFine x = false from by unfold predFine; rw [decide_eq_false (by omega)]]; rfl)
  refine WP.region ?_
  refine Ops.y (v := .pointer (some ⟨_, _, none⟩)) (Y.fa fa_53_2 rfl) ?_
  refine Ops.y (v := .int .i64 _) (Y.loadv ty_3 rfl (I.rdbox 0 rfl 2 1) rfl rfl) ?_
  refine Ops.y (v := .bool false) (Y.dec_f (Y.lti rfl rfl) (o0)) ?_
  refine Ops.y (v := .bool _) (Y.move rfl) ?_
  refine Ops.ygt rfl (v := .pointer (some ⟨_, _, none⟩)) (Y.fa fa_53_2 rfl) ?_
  refine Ops.ygt rfl (v := .int .i64 _) (Y.loadv ty_3 rfl (I.rdbox 0 rfl 2 1) rfl rfl) ?_
  refine Ops.ygt rfl (v := .bool false) (Y.dec_f (Y.gti rfl rfl) (o1)) ?_
  refine Ops.y (v := .bool _) (Y.pick_f rfl rfl) ?_
  refine Ops.y (v := .bool _) (Y.move rfl) ?_
  refine Ops.ygt rfl (v := .pointer (some ⟨_, _, none⟩)) (Y.fa fa_53_1 rfl) ?_
  refine Ops.ygt rfl (v := .int .i64 _) (Y.loadv ty_3 rfl (I.rdbox 0 rfl 1 1) rfl rfl) ?_
  refine Ops.ygt rfl (v := .bool false) (Y.dec_f (Y.lti rfl rfl) (o2)) ?_
  refine Ops.y (v := .bool _) (Y.pick_f rfl rfl) ?_
  refine Ops.y (v := .bool _) (Y.move rfl) ?_
  refine Ops.ygt rfl (v := .pointer (some ⟨_, _, none⟩)) (Y.fa fa_53_1 rfl) ?_
  refine Ops.ygt rfl (v := .int .i64 _) (Y.loadv ty_3 rfl (I.rdbox 0 rfl 1 1) rfl rfl) ?_
  refine Ops.ygt rfl (v := .bool (decide _)) (Y.gti rfl rfl) ?_
  refine Ops.y (v := .bool _) (Y.pick_f rfl rfl) ?_
  refine Ops.y (v := .bool _) (Y.assign rfl) ?_
  refine Ops.nil ?_
  refine WP.ret ?_
  repeat (first | refine thenE_ret ?_ | refine blockE_ret ?_)
  exact retQ.mk (vs := [.bool _]) rfl ⟨rfl, trivial⟩ I.ext_of (by simp only [tup, predFine]; congr 1; rw [← decide_not, decide_eq_decide]; omega)
theorem factsB_good {l : List Prd} {f : List Fct} (h : ∀ k, (hk : k < f.length) → factFine l f[k] = true ∧ (0 < k → placeF f[k - 1] < placeF f[k])) : factsB l f = true := by
  unfold factsB
  rw [Bool.and_eq_true, List.all_eq_true, sorted_iff]
  refine ⟨fun x hx => ?_, sorted_of fun i hi => ?_⟩
  · obtain ⟨j, hj, rfl⟩ := List.getElem_of_mem hx
    exact (h j hj).1
  · have := (h (i + 1) hi).2 (by omega)
    simpa using this
theorem factsB_bad {l : List Prd} {f : List Fct} {k : Nat} (hk : k < f.length) (h : factFine l f[k] = false ∨ 0 < k ∧ ¬ placeF f[k - 1] < placeF f[k]) : factsB l f = false := by
  rw [Bool.eq_false_iff]
  intro hh
  unfold factsB at hh
  rw [Bool.and_eq_true, List.all_eq_true, sorted_iff] at hh
  rcases h with h | ⟨h0, h⟩
  · rw [hh.1 _ (List.getElem_mem hk)] at h; cases h
  · exact h (hh.2.get (by omega) hk)
set_option maxHeartbeats 1000000 in
theorem BCheck_ok (B : Base) (hB : B.ok) (l : Sl Prd) (hl : Prds l B.h) (f : Sl Fct) (hf : Fcts f B.h) : Fn Tryz.prog 50 [l.val, f.val] B (fun v _ => v = .int .i64 (checkFacts l.xs f.xs)) := by
  have hsm := hl.small
  have hsf := hf.small
  refine Fn.of Tryz.func50 rfl Tryz.ntmps50 (by kernel_rfl) (by simp) ?_
  intro e
  have I := Inv.start hB
  refine WP.seq ?_
  refine WP.region ?_
  refine Ops.y (v := .int .i64 _) (Y.assign rfl) ?_
  refine Ops.nil ?_
  by_cases o0 : 5 < (l.xs.length : Int)
  · refine WP.seq ?_
    refine WP.seq ?_
    refine WP.region ?_
    refine Ops.y (v := .slice _ _ _) (Y.move rfl) ?_
    refine Ops.y (v := .int .i64 _) (Y.lens Tryz.underlying22 rfl) ?_
    refine Ops.y (v := .bool true) (Y.dec_t (Y.gti rfl rfl) (o0)) ?_
    refine Ops.y (v := .bool _) (Y.move rfl) ?_
    refine Ops.gf rfl ?_
    refine Ops.gf rfl ?_
    refine Ops.y (v := .bool _) (Y.pick_t rfl rfl) ?_
    refine Ops.nil ?_
    refine WP.cond_t rfl ?_
    refine WP.seq ?_
    refine WP.region ?_
    refine Ops.y (v := .int .i64 _) (Y.assign rfl) ?_
    refine Ops.nil ?_
    refine WP.ret ?_
    repeat (first | refine thenE_ret ?_ | refine blockE_ret ?_)
    exact retQ.mk (vs := [.int .i64 _]) rfl ⟨rfl, trivial⟩ I.ext_of (by simp only [tup, checkFacts]; rw [show predsBad l.xs = true from by unfold predsBad; rw [decide_eq_true (show 5 < l.xs.length by omega), Bool.true_or]]; rfl)
  refine WP.seq ?_
  refine WP.seq ?_
  refine WP.region ?_
  refine Ops.y (v := .slice _ _ _) (Y.move rfl) ?_
  refine Ops.y (v := .int .i64 _) (Y.lens Tryz.underlying22 rfl) ?_
  refine Ops.y (v := .bool false) (Y.dec_f (Y.gti rfl rfl) (o0)) ?_
  refine Ops.y (v := .bool _) (Y.move rfl) ?_
  refine Ops.ygt rfl (v := .slice _ _ _) (Y.move rfl) ?_
  refine Ops.gt rfl (O.callv I Tryz.call55 (ContainsFuncPrd_ok _ I.base_ok l hl 109 Tryz.call109 [] [] (fun p => !predFine p) (fun B' hB' _ x _ => Check1_ok B' hB' x)) rfl ?_)
  intro w I
  refine Ops.y (v := .bool _) (Y.pick_f rfl rfl) ?_
  refine Ops.nil ?_
  refine WP.cond rfl (fun hb => ?_) (fun hb => ?_)
  · refine WP.seq ?_
    refine WP.region ?_
    refine Ops.y (v := .int .i64 _) (Y.assign rfl) ?_
    refine Ops.nil ?_
    refine WP.ret ?_
    repeat (first | refine thenE_ret ?_ | refine blockE_ret ?_)
    exact retQ.mk (vs := [.int .i64 _]) rfl ⟨rfl, trivial⟩ I.ext_of (by simp only [tup, checkFacts]; rw [show predsBad l.xs = true from by unfold predsBad; rw [show l.xs.all predFine = false from by rw [List.all_eq_false]; rw [List.any_eq_true] at hb; simpa using hb]; simp]; rfl)
  have hlen : l.xs.length ≤ 5 := by omega
  have hpb : predsBad l.xs = false := by
    unfold predsBad
    rw [decide_eq_false (by omega), Bool.false_or, Bool.not_eq_false', List.all_eq_true]
    rw [List.any_eq_false] at hb
    intro x hx; simpa using hb x hx
  refine WP.skip ?_
  refine WP.seq ?_
  refine WP.seq ?_
  refine WP.region ?_
  refine Ops.y (v := .slice _ _ _) (Y.move rfl) ?_
  refine Ops.y (v := .int .i64 _) (Y.lens Tryz.underlying31 rfl) ?_
  refine Ops.y (v := .int .i64 _) (Y.move rfl) ?_
  refine Ops.nil ?_
  refine WP.block ?_
  refine WP.loopE (σ := Nat) (fun k => [(0, l.val), (1, f.val), (14, f.val), (15, .int .i64 f.xs.length), (16, .int .i64 k)]) (fun k w => Inv B B.h [] w ∧ k ≤ f.xs.length ∧ ∀ j, j < k → ∀ hj : j < f.xs.length, factFine l.xs f.xs[j] = true ∧ (0 < j → placeF f.xs[j - 1] < placeF f.xs[j])) (fun k => f.xs.length - k)
    ⟨0, ⟨rfl, rfl, rfl, rfl, rfl, trivial⟩, I, Nat.zero_le _, fun j hj => by omega⟩ ?_
  rintro k e w ⟨I, hk, hn⟩
  refine WP.seq ?_
  refine WP.region ?_
  refine Ops.y (v := .bool (decide _)) (Y.lti rfl rfl) ?_
  refine Ops.nil ?_
  refine WP.seq ?_
  refine WP.cond_dec rfl (fun h => ?_) (fun h => ?_)
  · have hk' : k < f.xs.length := by omega
    have E1 := hf.at hk'
    refine WP.skip ?_
    refine WP.seq ?_
    refine WP.block ?_
    refine WP.seq ?_
    refine WP.region ?_
    refine Ops.y (v := .int .i64 _) (Y.move rfl) ?_
    refine Ops.y (v := .pointer (some ⟨_, _, none⟩)) (Y.idxEl E1 Tryz.underlying31 Tryz.sizeOf83 rfl rfl (Int.natCast_nonneg _) rfl) ?_
    refine Ops.y (v := .agg #[_, _, _, _]) (Y.loadv ty_83 rfl (I.rd (E1.rd.part 0 4)) rfl rfl) ?_
    refine Ops.go (O.alloc I Tryz.zeroValue83 rfl ?_)
    intro b6 w I
    refine Ops.y (v := .int .i64 _) (Y.assign rfl) ?_
    refine Ops.go (O.store (v := .agg #[_, _, _, _]) I ty_83 0 rfl rfl rfl rfl rfl rfl (Nat.le_of_ble_eq_true rfl) rfl ?_)
    intro w I
    refine Ops.nil ?_
    cases hff : factFine l.xs f.xs[k]
    · refine WP.seq ?_
      refine WP.regionQ mixed I (by kernel_rfl) ?_
      refine OpsQ.y (v := .slice _ _ _) (fun w I => Y.move rfl) ?_
      refine OpsQ.y (v := .agg #[_, _, _, _]) (fun w I => Y.loadv ty_83 rfl (I.rdbox 0 rfl 0 4) rfl rfl) ?_
      refine OpsQ.c (fun w I => QC.callv I Tryz.call110 (Fine_ok _ I.base_ok l hl _) rfl) ?_
      refine OpsQ.y (v := .bool true) (fun w I => Y.b (Y.not rfl) ((by rw [hff]; rfl))) ?_
      refine OpsQ.y (v := .bool _) (fun w I => Y.move rfl) ?_
      refine OpsQ.gf rfl ?_
      refine OpsQ.gf rfl ?_
      refine OpsQ.gf rfl ?_
      refine OpsQ.gf rfl ?_
      refine OpsQ.gf rfl ?_
      refine OpsQ.gf rfl ?_
      refine OpsQ.gf rfl ?_
      refine OpsQ.gf rfl ?_
      refine OpsQ.gf rfl ?_
      refine OpsQ.gf rfl ?_
      refine OpsQ.gf rfl ?_
      refine OpsQ.gf rfl ?_
      refine OpsQ.y (v := .bool _) (fun w I => Y.pick_t rfl rfl) ?_
      refine OpsQ.nil ?_
      intro w I
      refine WP.cond_t rfl ?_
      refine WP.seq ?_
      refine WP.region ?_
      refine Ops.y (v := .int .i64 _) (Y.assign rfl) ?_
      refine Ops.nil ?_
      refine WP.ret ?_
      repeat (first | refine thenE_ret ?_ | refine blockE_ret ?_)
      exact retQ.mk (vs := [.int .i64 _]) rfl ⟨rfl, trivial⟩ I.ext_of (by simp only [tup, checkFacts, hpb, factsB_bad hk' (Or.inl hff)]; rfl)
    by_cases h0 : 0 < (k : Int)
    · have E0 := hf.at (i := k - 1) (by omega)
      have p0 := fine_pf hlen (hn (k - 1) (by omega) (by omega)).1
      have p1 := fine_pf hlen hff
      refine WP.seq ?_
      refine WP.regionQ mixed I (by kernel_rfl) ?_
      refine OpsQ.y (v := .slice _ _ _) (fun w I => Y.move rfl) ?_
      refine OpsQ.y (v := .agg #[_, _, _, _]) (fun w I => Y.loadv ty_83 rfl (I.rdbox 0 rfl 0 4) rfl rfl) ?_
      refine OpsQ.c (fun w I => QC.callv I Tryz.call110 (Fine_ok _ I.base_ok l hl _) rfl) ?_
      refine OpsQ.y (v := .bool false) (fun w I => Y.b (Y.not rfl) ((by rw [hff]; rfl))) ?_
      refine OpsQ.y (v := .bool _) (fun w I => Y.move rfl) ?_
      refine OpsQ.ygt rfl (v := .int .i64 _) (fun w I => Y.move rfl) ?_
      refine OpsQ.ygt rfl (v := .bool true) (fun w I => Y.dec_t (Y.gti rfl rfl) (h0)) ?_
      refine OpsQ.ygt rfl (v := .bool _) (fun w I => Y.move rfl) ?_
      refine OpsQ.ygt rfl (v := .slice _ _ _) (fun w I => Y.move rfl) ?_
      refine OpsQ.ygt rfl (v := .int .i64 _) (fun w I => Y.move rfl) ?_
      refine OpsQ.ygt rfl (v := .int .i64 _) (fun w I => Y.subi rfl rfl ⟨by omega, by omega⟩) ?_
      refine OpsQ.ygt rfl (v := .pointer (some ⟨_, _, none⟩)) (fun w I => Y.idxEl E0 Tryz.underlying31 Tryz.sizeOf83 rfl rfl (by omega) (by omega)) ?_
      refine OpsQ.ygt rfl (v := .agg #[_, _, _, _]) (fun w I => Y.loadv ty_83 rfl (I.rd (E0.rd.part 0 4)) rfl rfl) ?_
      refine OpsQ.ygt rfl (v := .agg #[_, _, _, _]) (fun w I => Y.loadv ty_83 rfl (I.rdbox 0 rfl 0 4) rfl rfl) ?_
      refine OpsQ.cgt rfl (fun w I => QC.callv I Tryz.call111 (order_ok _ I.base_ok _ _) rfl) ?_
      refine OpsQ.ygt rfl (v := .bool (decide _)) (fun w I => Y.gei rfl rfl) ?_
      refine OpsQ.ygt rfl (v := .bool _) (fun w I => Y.pick_t rfl rfl) ?_
      refine OpsQ.y (v := .bool _) (fun w I => Y.pick_f rfl rfl) ?_
      refine OpsQ.nil ?_
      intro w I
      refine WP.cond_dec rfl (fun h6 => ?_) (fun h6 => ?_)
      · refine WP.seq ?_
        refine WP.region ?_
        refine Ops.y (v := .int .i64 _) (Y.assign rfl) ?_
        refine Ops.nil ?_
        refine WP.ret ?_
        repeat (first | refine thenE_ret ?_ | refine blockE_ret ?_)
        exact retQ.mk (vs := [.int .i64 _]) rfl ⟨rfl, trivial⟩ I.ext_of (by simp only [tup, checkFacts, hpb, factsB_bad hk' (Or.inr ⟨by omega, fun hlt => by have := (ordF_neg p0 p1).2 hlt; omega⟩)]; rfl)
      refine WP.skip ?_
      refine WP.region ?_
      refine Ops.y (v := .int .i64 _) (Y.addi rfl rfl ⟨by omega, by omega⟩) ?_
      refine Ops.y (v := .int .i64 _) (Y.move rfl) ?_
      refine Ops.nil ?_
      exact ⟨k + 1, ⟨⟨rfl, rfl, rfl, rfl, rfl, trivial⟩, I.drop, by omega, fun j hj hj' => by
        rcases Nat.lt_succ_iff_lt_or_eq.1 hj with h' | rfl
        · exact hn j h' hj'
        · exact ⟨hff, fun _ => (ordF_neg p0 p1).1 (by omega)⟩⟩, by omega⟩
    · refine WP.seq ?_
      refine WP.regionQ mixed I (by kernel_rfl) ?_
      refine OpsQ.y (v := .slice _ _ _) (fun w I => Y.move rfl) ?_
      refine OpsQ.y (v := .agg #[_, _, _, _]) (fun w I => Y.loadv ty_83 rfl (I.rdbox 0 rfl 0 4) rfl rfl) ?_
      refine OpsQ.c (fun w I => QC.callv I Tryz.call110 (Fine_ok _ I.base_ok l hl _) rfl) ?_
      refine OpsQ.y (v := .bool false) (fun w I => Y.b (Y.not rfl) ((by rw [hff]; rfl))) ?_
      refine OpsQ.y (v := .bool _) (fun w I => Y.move rfl) ?_
      refine OpsQ.ygt rfl (v := .int .i64 _) (fun w I => Y.move rfl) ?_
      refine OpsQ.ygt rfl (v := .bool false) (fun w I => Y.dec_f (Y.gti rfl rfl) (h0)) ?_
      refine OpsQ.ygt rfl (v := .bool _) (fun w I => Y.move rfl) ?_
      refine OpsQ.gf rfl ?_
      refine OpsQ.gf rfl ?_
      refine OpsQ.gf rfl ?_
      refine OpsQ.gf rfl ?_
      refine OpsQ.gf rfl ?_
      refine OpsQ.gf rfl ?_
      refine OpsQ.gf rfl ?_
      refine OpsQ.gf rfl ?_
      refine OpsQ.ygt rfl (v := .bool _) (fun w I => Y.pick_f rfl rfl) ?_
      refine OpsQ.y (v := .bool _) (fun w I => Y.pick_f rfl rfl) ?_
      refine OpsQ.nil ?_
      intro w I
      refine WP.cond_f rfl ?_
      refine WP.skip ?_
      refine WP.region ?_
      refine Ops.y (v := .int .i64 _) (Y.addi rfl rfl ⟨by omega, by omega⟩) ?_
      refine Ops.y (v := .int .i64 _) (Y.move rfl) ?_
      refine Ops.nil ?_
      exact ⟨k + 1, ⟨⟨rfl, rfl, rfl, rfl, rfl, trivial⟩, I.drop, by omega, fun j hj hj' => by
        rcases Nat.lt_succ_iff_lt_or_eq.1 hj with h' | rfl
        · exact hn j h' hj'
        · exact ⟨hff, fun h2 => by omega⟩⟩, by omega⟩
  refine WP.exit ?_
  refine WP.seq ?_
  refine WP.region ?_
  refine Ops.y (v := .int .i64 _) (Y.assign rfl) ?_
  refine Ops.nil ?_
  refine WP.ret ?_
  repeat (first | refine thenE_ret ?_ | refine blockE_ret ?_)
  exact retQ.mk (vs := [.int .i64 _]) rfl ⟨rfl, trivial⟩ I.ext_of (by simp only [tup, checkFacts, hpb, factsB_good fun j hj => hn j (by omega) hj]; rfl)
end Go.TF
end
section
/- Package text: Fact, Facts: walked. -/
namespace Go.TF
open Go Go.RowKit Go.Proofs
set_option maxRecDepth 20000
set_option linter.unusedSimpArgs false


/-- The atom that a fact tells of. -/
def factA (l : List Prd) (x : Fct) : Atm := ⟨x.pred, ⟨none, 0, [⟨false, x.a⟩, ⟨false, x.b⟩].take (predOf l x.pred).arity.toNat⟩⟩
def factL (l : List Prd) (x : Fct) : Bs := atomL l (factA l x) ++ (if (predOf l x.pred).kind ≠ 0 then [32, 61, 32] ++ dgL x.v.toNat else [])
def factsL (l : List Prd) (f : List Fct) : Bs := f.flatMap fun x => factL l x ++ [46, 10]
def LitS {α : Type} (k : Nat) (enc : α → List Value) (xs : List α) : Sp := fun u h => ∃ s : Sl α, u = s.val ∧ s.xs = xs ∧ s.Is k enc h ∧ s.at_ = some ⟨s.blk, s.off, none⟩ ∧ s.xs.length ≤ s.cap
theorem LitS.mono {α : Type} {k : Nat} {enc : α → List Value} {xs : List α} : MonoS (LitS k enc xs) := fun _ _ _ hl ⟨s, a, b, c, d⟩ => ⟨s, a, b, c.le hl, d⟩
structure FctR (l : List Prd) (x : Fct) : Prop where
  pred : 0 ≤ x.pred ∧ x.pred < l.length
  a : 0 ≤ x.a ∧ x.a ≤ 4
  b : 0 ≤ x.b ∧ x.b ≤ 4
  v : 0 ≤ x.v ∧ x.v ≤ 15
  fine : predFine (predOf l x.pred) = true
theorem fctR {l : List Prd} {f : List Fct} (fo : FOk l f) {x : Fct} (hx : x ∈ f) : FctR l x := by
  have h := fo.fine x hx
  unfold factFine at h
  simp only [Bool.and_eq_true, decide_eq_true_eq] at h
  obtain ⟨⟨⟨⟨⟨h1, h2⟩, h3⟩, _⟩, _⟩, h6⟩ := h
  unfold within at h1 h2 h3
  have hp : 0 ≤ x.pred ∧ x.pred < l.length := by omega
  refine ⟨hp, by omega, by omega, ?_, fo.preds _ (predOf_mem hp)⟩
  unfold checkVal at h6
  split at h6
  · cases h6
  · split at h6
    · cases h6
    · omega
theorem FctR.aok {l : List Prd} {x : Fct} (r : FctR l x) : AOk l (factA l x) := by
  have hf := r.fine
  unfold predFine at hf
  have hf := of_decide_eq_true hf
  refine ⟨r.pred, ?_, ?_, ?_⟩
  · simp only [factA, List.length_take, List.length_cons, List.length_nil]; omega
  · unfold argsErr
    rw [if_pos]
    refine List.all_eq_true.2 fun t ht => ?_
    have ht := List.mem_of_mem_take ht
    simp only [List.mem_cons, List.not_mem_nil, or_false] at ht
    unfold termOk
    rcases ht with rfl | rfl
    · exact decide_eq_true r.a
    · exact decide_eq_true r.b
  · simp only [factA, List.length_take, List.length_cons, List.length_nil]; omega
theorem atomL_er {l : List Prd} {a c : Atm} (h : a.er = c.er) : atomL l a = atomL l c := by
  have h1 : a.pred = c.pred := by have := congrArg Atm.pred h; exact this
  have h2 : a.args.xs = c.args.xs := by have := congrArg (fun z => z.args.xs) h; exact this
  unfold atomL; rw [h1, h2]
theorem AOk.er {l : List Prd} {a c : Atm} (h : a.er = c.er) (o : AOk l c) : AOk l a := by
  have h1 : a.pred = c.pred := by have := congrArg Atm.pred h; exact this
  have h2 : a.args.xs = c.args.xs := by have := congrArg (fun z => z.args.xs) h; exact this
  exact ⟨by rw [h1]; exact o.pred, by rw [h2]; exact o.len, by rw [h2]; exact o.err, by rw [h1, h2]; exact o.arity⟩
set_option maxHeartbeats 4000000 in
theorem Fact_ok (B : Base) (hB : B.ok) (l : Sl Prd) (hL : Prds l B.h) (x : Fct) (r : FctR l.xs x) (hnm : (predOf l.xs x.pred).name.size ≤ 8) : Fn Tryz.prog 51 [l.val, x.val] B (fun v _ => v = .string (mk (factL l.xs x))) := by
  have Ep := hL.el.el (predOf_get r.pred.1 r.pred.2)
  have ao := r.aok
  have hal := atomL_len ao
  have hnm2 : (predOf l.xs (factA l.xs x).pred).name.size ≤ 8 := hnm
  obtain ⟨A, hA⟩ : ∃ A, atomL l.xs (factA l.xs x) = A := ⟨_, rfl⟩
  have hfi := r.fine
  obtain ⟨⟨nm, ar, kd⟩, hP⟩ : ∃ y, predOf l.xs x.pred = y := ⟨_, rfl⟩
  have hF : factL l.xs x = A ++ (if kd ≠ 0 then [32, 61, 32] ++ dgL x.v.toNat else []) := by unfold factL; rw [hA, hP]
  rw [hP] at Ep hfi hnm
  unfold predFine at hfi
  obtain ⟨a0, a2, d0, d3⟩ := of_decide_eq_true hfi
  dsimp only at a0 a2 d0 d3 hnm
  obtain ⟨na, rfl⟩ : ∃ n : Nat, ar = n := ⟨ar.toNat, by omega⟩
  have hE : (factA l.xs x).er = ⟨x.pred, ⟨none, 0, [⟨false, x.a⟩, ⟨false, x.b⟩].take na⟩⟩ := by unfold factA Atm.er; rw [hP]; rfl
  rw [hA] at hal
  obtain ⟨nv, hnv⟩ : ∃ n : Nat, x.v = n := ⟨x.v.toNat, by have := r.v; omega⟩
  have dl := dg_len (n := nv) (by have := r.v; omega)
  refine Fn.of Tryz.func51 rfl Tryz.ntmps51 (by kernel_rfl) (by simp) ?_
  intro e
  have I := Inv.start hB
  refine WP.seq ?_
  refine WP.region ?_
  refine Ops.go (O.box (v := .agg #[_, _, _, _]) I rfl rfl ?_)
  intro b3 w I
  refine Ops.y (v := .string _) (Y.assign rfl) ?_
  refine Ops.nil ?_
  refine WP.seq ?_
  refine WP.region ?_
  refine Ops.y (v := .slice _ _ _) (Y.move rfl) ?_
  refine Ops.y (v := .pointer (some ⟨_, _, none⟩)) (Y.fa0 fa_83_0 rfl) ?_
  refine Ops.y (v := .int .i64 _) (Y.loadv ty_3 rfl (I.rdbox 0 rfl 0 1) rfl rfl) ?_
  refine Ops.y (v := .pointer (some ⟨_, _, none⟩)) (Y.idxEl Ep Tryz.underlying22 Tryz.sizeOf53 rfl rfl r.pred.1 rfl) ?_
  refine Ops.y (v := .agg #[_, _, _]) (Y.loadv ty_53 rfl (I.rd (Ep.rd.part 0 3)) rfl rfl) ?_
  refine Ops.go (O.alloc I Tryz.zeroValue53 rfl ?_)
  intro b5 w I
  refine Ops.go (O.store (v := .agg #[_, _, _]) I ty_53 0 rfl rfl rfl rfl rfl rfl (Nat.le_of_ble_eq_true rfl) rfl ?_)
  intro w I
  refine Ops.nil ?_
  refine WP.seq ?_
  refine WP.regionF mixed I 16 (by kernel_rfl) ?_
  refine OpsF.y_ (v := .slice _ _ _) (fun _ => runs_none _) (fun _ w us hl I => Y.move rfl) ?_
  refine OpsF.y_ (v := .pointer (some ⟨_, _, none⟩)) (fun _ => runs_none _) (fun _ w us hl I => Y.fa0 fa_83_0 rfl) ?_
  refine OpsF.y_ (v := .int .i64 _) (fun _ => runs_none _) (fun _ w us hl I => Y.loadv ty_3 rfl (I.rdbox 1 rfl 0 1) rfl rfl) ?_
  refine OpsF.y_ (v := .pointer (some ⟨_, _, none⟩)) (fun _ => runs_none _) (fun _ w us hl I => Y.fa fa_83_1 rfl) ?_
  refine OpsF.y_ (v := .int .i64 _) (fun _ => runs_none _) (fun _ w us hl I => Y.loadv ty_3 rfl (I.rdbox 1 rfl 1 1) rfl rfl) ?_
  refine OpsF.y_ (v := .agg #[.bool _, .int .i64 _]) (fun _ => runs_none _) (fun _ w us hl I => Y.build pl_109 Tryz.zeroValue109 rfl rfl) ?_
  refine OpsF.y_ (v := .pointer (some ⟨_, _, none⟩)) (fun _ => runs_none _) (fun _ w us hl I => Y.fa fa_83_2 rfl) ?_
  refine OpsF.y_ (v := .int .i64 _) (fun _ => runs_none _) (fun _ w us hl I => Y.loadv ty_3 rfl (I.rdbox 1 rfl 2 1) rfl rfl) ?_
  refine OpsF.y_ (v := .agg #[.bool _, .int .i64 _]) (fun _ => runs_none _) (fun _ w us hl I => Y.build pl_109 Tryz.zeroValue109 rfl rfl) ?_
  refine OpsF.x_ (Φ := LitS 2 Trm.enc [⟨false, x.a⟩, ⟨false, x.b⟩]) LitS.mono (fun _ => runs_none _) ?_ ?_
  · intro _ w hl I
    exact O.mksl (xs := [⟨false, x.a⟩, ⟨false, x.b⟩]) (enc := Trm.enc) I Tryz.underlying59 Tryz.sizeOf109 Tryz.zeroValue109 rfl (Nat.le_of_ble_eq_true rfl) rfl rfl (by decide) (fun _ => rfl) (fun b h w I le sl => ⟨h, le, I, ⟨⟨some ⟨b, 0, none⟩, _, [⟨false, x.a⟩, ⟨false, x.b⟩]⟩, rfl, rfl, ⟨sl, by simp⟩, rfl, Nat.le_refl _⟩⟩)
  refine OpsF.y_ (v := .pointer (some ⟨_, _, none⟩)) (fun _ => runs_none _) (fun _ w us hl I => Y.fa fa_53_1 rfl) ?_
  refine OpsF.y_ (v := .int .i64 _) (fun _ => runs_none _) (fun _ w us hl I => Y.loadv ty_3 rfl (I.rdbox 0 rfl 1 1) rfl rfl) ?_
  refine OpsF.x_ (Φ := SlS 2 Trm.enc ([⟨false, x.a⟩, ⟨false, x.b⟩].take na)) (SlS.mono) (fun _ => runs_none _) ?_ ?_
  · intro _ w hl I u21 q21
    obtain ⟨s, rfl, es, is, at_, cp⟩ := q21 rfl
    exact O.yx I (Y.cut (s := s) (l := 0) (h := na) Tryz.underlying59 Tryz.sizeOf109 at_ cp rfl (.inl ⟨rfl, rfl⟩) (.inr ⟨_, _, rfl, rfl⟩) (Nat.zero_le _) (by rw [es]; simp only [List.length_cons, List.length_nil]; omega)) ⟨s.cut 2 0 na, rfl, by rw [← es]; rfl, is.cut cp⟩
  refine OpsF.x_ (Φ := AtmS x.pred ([⟨false, x.a⟩, ⟨false, x.b⟩].take na)) (AtmS.mono) (fun _ => runs_none _) ?_ ?_
  · intro _ w hl I u21 q21 u24 q24
    obtain ⟨s, rfl, es, is⟩ := q24 rfl
    exact O.yx I (Y.build pl_61 Tryz.zeroValue61 rfl rfl) ⟨⟨x.pred, s⟩, rfl, by show (⟨x.pred, ⟨none, 0, s.xs⟩⟩ : Atm) = _; rw [es], is⟩
  refine OpsF.x_ (Φ := EqV (.string (mk A))) EqV.mono (fun _ => runs_none _) ?_ ?_
  · intro _ w hl I u21 q21 u24 q24 u25 q25
    obtain ⟨a, rfl, ea, ia⟩ := q25 rfl
    try unfold AllL
    refine O.call I Tryz.call25 (TAtom_ok _ I.base_ok l (hL.le hl) a ia (AOk.er (ea.trans hE.symm) ao) (by rw [show a.pred = x.pred by have := congrArg Atm.pred ea; exact this, hP]; dsimp only; omega)) rfl ?_
    rintro _ h2 w I hl' rfl
    exact ⟨_, hl', I, by rw [← hA]; exact congrArg (fun z => Value.string (mk z)) (atomL_er (ea.trans hE.symm))⟩
  refine OpsF.x_ (Φ := EqV (.string (mk A))) EqV.mono (fun _ => runs_none _) ?_ ?_
  · intro _ w hl I u21 q21 u24 q24 u25 q25 u26 q26
    obtain ⟨⟩ := q26 rfl
    exact O.yx I (Y.assign rfl) (rfl)
  refine OpsF.nil ?_
  intro _ w hl I u21 q21 u24 q24 u25 q25 u26 q26 u6 q6
  refine Ops.nil ?_
  obtain rfl : u6 = .string (mk A) := q6 rfl
  refine WP.seq ?_
  refine WP.seq ?_
  refine WP.region ?_
  refine Ops.y (v := .pointer (some ⟨_, _, none⟩)) (Y.fa fa_53_2 rfl) ?_
  refine Ops.y (v := .int .i64 _) (Y.loadv ty_3 rfl (I.rdbox 0 rfl 2 1) rfl rfl) ?_
  refine Ops.y (v := .bool (decide _)) (Y.nei rfl rfl) ?_
  refine Ops.nil ?_
  refine WP.cond_dec rfl (fun h29 => ?_) (fun h29 => ?_)
  · rw [if_pos h29, hnv] at hF
    refine WP.region ?_
    refine Ops.y (v := .string _) (Y.move rfl) ?_
    refine Ops.y (v := .pointer (some ⟨_, _, none⟩)) (Y.fa fa_83_3 rfl) ?_
    refine Ops.y (v := .int .i64 _) (Y.loadv ty_3 rfl (I.rdbox 1 rfl 3 1) rfl rfl) ?_
    refine Ops.go (O.callv I Tryz.call24 (hnv ▸ Itoa_ok _ I.base_ok nv (by have := r.v; omega)) rfl ?_)
    intro w I
    refine Ops.y (v := .string _) (Y.adds rfl rfl ((by simp only [ByteArray.size_append, bsz, List.size_toArray, List.length_cons, List.length_nil, List.length_append]; omega))) ?_
    refine Ops.y (v := .string _) (Y.adds rfl rfl (by simp only [ByteArray.size_append, mk_size]; show _ + (3 + _) ≤ _; omega)) ?_
    refine Ops.y (v := .string _) (Y.assign rfl) ?_
    refine Ops.nil ?_
    refine WP.seq ?_
    refine WP.region ?_
    refine Ops.y (v := .string _) (Y.move rfl) ?_
    refine Ops.y (v := .string _) (Y.assign rfl) ?_
    refine Ops.nil ?_
    refine WP.ret ?_
    repeat (first | refine thenE_ret ?_ | refine blockE_ret ?_)
    exact retQ.mk (vs := [.string _]) rfl ⟨rfl, trivial⟩ I.ext_of (by simp only [tup]; rw [hF]; exact congrArg Value.string (tx_inj.1 (by simp only [tx_mk, tx_app, txl, List.append_assoc, Int.toNat_natCast, List.cons_append, List.nil_append])))
  · rw [if_neg h29, List.append_nil] at hF
    refine WP.skip ?_
    refine WP.seq ?_
    refine WP.region ?_
    refine Ops.y (v := .string _) (Y.move rfl) ?_
    refine Ops.y (v := .string _) (Y.assign rfl) ?_
    refine Ops.nil ?_
    refine WP.ret ?_
    repeat (first | refine thenE_ret ?_ | refine blockE_ret ?_)
    exact retQ.mk (vs := [.string _]) rfl ⟨rfl, trivial⟩ I.ext_of (by simp only [tup]; rw [hF])
end Go.TF
end
section
/- CheckProg, of the document; Strata; StrataOf. -/
namespace Go.TF
open Go Go.RowKit Go.Proofs
set_option maxRecDepth 20000

end Go.TF
end
section
/- Strata, StrataOf, NeedsOf. -/
namespace Go.TF
open Go Go.RowKit Go.Proofs
set_option maxRecDepth 20000

theorem heads_in {p : Prg} (h : rulesErr p.preds.xs p.rules.xs = 0) : ∀ r ∈ p.rules.xs, 0 ≤ r.head.pred ∧ r.head.pred < p.preds.xs.length := fun r hr => checkAtom_in' (checkRule_ok (rulesErr_zero.1 h r hr)).1
end Go.TF
end
section
/- Finding a fact; being under. -/
namespace Go.TF
open Go Go.RowKit Go.Proofs
set_option maxRecDepth 20000

theorem Bsf_ok (B : Base) (hB : B.ok) (f : Sl Fct) (hf : Fcts f B.h) (hp : ∀ y ∈ f.xs, PF y) (hs : SrtF f.xs) (x : Fct) (hx : PF x) :
    Fn Tryz.prog 185 [f.val, x.val, .func (.func 111) #[] #[]] B (fun v _ => v = .tuple #[.int .i64 (posF f.xs x : Nat), .bool (isF f.xs x)]) := by
  have hsf := hf.small
  refine Fn.of Tryz.func185 rfl Tryz.ntmps185 (by kernel_rfl) (by simp) ?_
  intro e
  have I := Inv.start hB
  refine WP.seq ?_
  refine WP.region ?_
  refine Ops.go (O.box (v := .agg #[_, _, _, _]) I rfl rfl ?_)
  intro b4 w I
  refine Ops.y (v := .int .i64 _) (Y.assign rfl) ?_
  refine Ops.y (v := .bool _) (Y.assign rfl) ?_
  refine Ops.nil ?_
  refine WP.seq ?_
  refine WP.region ?_
  refine Ops.y (v := .slice _ _ _) (Y.move rfl) ?_
  refine Ops.y (v := .int .i64 _) (Y.lens Tryz.underlying31 rfl) ?_
  refine Ops.y (v := .int .i64 _) (Y.assign rfl) ?_
  refine Ops.nil ?_
  refine WP.seq ?_
  refine WP.region ?_
  refine Ops.y (v := .int .i64 _) (Y.move rfl) ?_
  refine Ops.y (v := .int .i64 _) (Y.assign rfl) ?_
  refine Ops.y (v := .int .i64 _) (Y.assign rfl) ?_
  refine Ops.nil ?_
  refine WP.seq ?_
  refine WP.block ?_
  refine WP.loopE (σ := Nat × Nat) (fun s => [(0, f.val), (2, .func (.func 111) #[] #[]), (4, .pointer (some ⟨b4, 0, none⟩)), (8, .int .i64 f.xs.length), (9, .int .i64 s.1), (10, .int .i64 s.2)])
    (fun s w => Inv B B.h [box b4 x.enc 83] w ∧ s.1 ≤ s.2 ∧ s.2 ≤ f.xs.length ∧ (∀ m, (h : m < f.xs.length) → m < s.1 → placeF f.xs[m] < placeF x) ∧ (∀ m, (h : m < f.xs.length) → s.2 ≤ m → ¬ placeF f.xs[m] < placeF x)) (fun s => s.2 - s.1)
    ⟨(0, f.xs.length), ⟨rfl, rfl, rfl, rfl, rfl, rfl, trivial⟩, I, Nat.zero_le _, Nat.le_refl _, fun m h hm => absurd hm (Nat.not_lt_zero _), fun m h hm => absurd h (Nat.not_lt.2 hm)⟩ ?_
  rintro ⟨i, j⟩ e w ⟨I, hij, hjn, hlo, hhi⟩
  dsimp only at I hij hjn hlo hhi ⊢
  refine WP.seq ?_
  refine WP.seq ?_
  refine WP.region ?_
  refine Ops.y (v := .int .i64 _) (Y.move rfl) ?_
  refine Ops.y (v := .int .i64 _) (Y.move rfl) ?_
  refine Ops.y (v := .bool (decide _)) (Y.lti rfl rfl) ?_
  refine Ops.nil ?_
  refine WP.cond_dec rfl (fun h => ?_) (fun h => ?_)
  · have hm : (i + j) / 2 < f.xs.length := by omega
    have E1 := hf.at hm
    have pm := hp _ (List.getElem_mem hm)
    refine WP.skip ?_
    refine WP.block ?_
    refine WP.seq ?_
    refine WP.region ?_
    refine Ops.y (v := .int .i64 _) (Y.move rfl) ?_
    refine Ops.y (v := .int .i64 _) (Y.move rfl) ?_
    refine Ops.y (v := .int .i64 _) (Y.addi rfl rfl ⟨by omega, by omega⟩) ?_
    refine Ops.y (v := .int .u64 _) (Y.conv (by rw [Tryz.underlying3]; rfl) Tryz.underlying210 (wrap_u64 (by omega) (by omega)) rfl) ?_
    refine Ops.y (v := .int .u64 _) (Y.half (by decide) rfl rfl) ?_
    refine Ops.y (v := .int .i64 _) (Y.conv (by rw [Tryz.underlying210]; rfl) Tryz.underlying3 (wrap_i64 ⟨by omega, by omega⟩) rfl) ?_
    refine Ops.y (v := .int .i64 _) (Y.assign rfl) ?_
    refine Ops.nil ?_
    refine WP.seq ?_
    refine WP.regionQ mixed I (by kernel_rfl) ?_
    refine OpsQ.y (v := .func _ _ _) (fun w I => Y.move rfl) ?_
    refine OpsQ.y (v := .slice _ _ _) (fun w I => Y.move rfl) ?_
    refine OpsQ.y (v := .int .i64 _) (fun w I => Y.move rfl) ?_
    refine OpsQ.y (v := .pointer (some ⟨_, _, none⟩)) (fun w I => Y.idxEl E1 Tryz.underlying31 Tryz.sizeOf83 rfl rfl (by omega) (by omega)) ?_
    refine OpsQ.y (v := .agg #[_, _, _, _]) (fun w I => Y.loadv ty_83 rfl (I.rd (E1.rd.part 0 4)) rfl rfl) ?_
    refine OpsQ.y (v := .agg #[_, _, _, _]) (fun w I => Y.loadv ty_83 rfl (I.rdbox 0 rfl 0 4) rfl rfl) ?_
    refine OpsQ.c (fun w I => QC.callcv I Tryz.call111 (fs := []) (cs := []) rfl (order_ok _ I.base_ok _ _) rfl) ?_
    refine OpsQ.y (v := .bool (decide _)) (fun w I => Y.lti rfl rfl) ?_
    refine OpsQ.nil ?_
    intro w I
    refine WP.cond_dec rfl (fun h5 => ?_) (fun h5 => ?_)
    · have hlt := (ordF_neg pm hx).1 h5
      refine WP.region ?_
      refine Ops.y (v := .int .i64 _) (Y.move rfl) ?_
      refine Ops.y (v := .int .i64 _) (Y.addi rfl rfl ⟨by omega, by omega⟩) ?_
      refine Ops.y (v := .int .i64 _) (Y.assign rfl) ?_
      refine Ops.nil ?_
      exact ⟨((i + j) / 2 + 1, j), ⟨⟨rfl, rfl, rfl, rfl, by simp only [E, upd]; congr 1, rfl, trivial⟩, I, by omega, hjn, fun m h hm' => by
        rcases Nat.lt_or_ge m ((i + j) / 2) with h' | h'
        · exact Int.lt_trans (hs.get h' hm) hlt
        · obtain rfl : m = (i + j) / 2 := by omega
          exact hlt, hhi⟩, by omega⟩
    have hge : ¬ placeF f.xs[(i + j) / 2] < placeF x := fun hh => h5 ((ordF_neg pm hx).2 hh)
    refine WP.region ?_
    refine Ops.y (v := .int .i64 _) (Y.move rfl) ?_
    refine Ops.y (v := .int .i64 _) (Y.assign rfl) ?_
    refine Ops.nil ?_
    exact ⟨(i, (i + j) / 2), ⟨⟨rfl, rfl, rfl, rfl, rfl, by simp only [E, upd]; congr 1, trivial⟩, I, by omega, by omega, hlo, fun m h hm' => by
        rcases Nat.lt_or_ge ((i + j) / 2) m with h' | h'
        · have := hs.get h' h; omega
        · obtain rfl : m = (i + j) / 2 := by omega
          exact hge⟩, by omega⟩
  obtain rfl : j = i := by omega
  have hpos : posF f.xs x = j := posF_of hjn (fun m h hm => hlo m h hm) (fun h => hhi j h (Nat.le_refl _))
  have hiff := isF_iff (x := x) hs
  by_cases o1 : (j : Int) < (f.xs.length : Int)
  · have E1 := hf.at (i := j) (by omega)
    have pm := hp f.xs[j] (List.getElem_mem _)
    refine WP.exit ?_
    refine WP.seq ?_
    refine WP.regionQ mixed I (by kernel_rfl) ?_
    refine OpsQ.y (v := .int .i64 _) (fun w I => Y.move rfl) ?_
    refine OpsQ.y (v := .int .i64 _) (fun w I => Y.move rfl) ?_
    refine OpsQ.y (v := .int .i64 _) (fun w I => Y.move rfl) ?_
    refine OpsQ.y (v := .bool true) (fun w I => Y.dec_t (Y.lti rfl rfl) (o1)) ?_
    refine OpsQ.y (v := .bool _) (fun w I => Y.move rfl) ?_
    refine OpsQ.ygt rfl (v := .func _ _ _) (fun w I => Y.move rfl) ?_
    refine OpsQ.ygt rfl (v := .slice _ _ _) (fun w I => Y.move rfl) ?_
    refine OpsQ.ygt rfl (v := .int .i64 _) (fun w I => Y.move rfl) ?_
    refine OpsQ.ygt rfl (v := .pointer (some ⟨_, _, none⟩)) (fun w I => Y.idxEl E1 Tryz.underlying31 Tryz.sizeOf83 rfl rfl (Int.natCast_nonneg _) rfl) ?_
    refine OpsQ.ygt rfl (v := .agg #[_, _, _, _]) (fun w I => Y.loadv ty_83 rfl (I.rd (E1.rd.part 0 4)) rfl rfl) ?_
    refine OpsQ.ygt rfl (v := .agg #[_, _, _, _]) (fun w I => Y.loadv ty_83 rfl (I.rdbox 0 rfl 0 4) rfl rfl) ?_
    refine OpsQ.cgt rfl (fun w I => QC.callcv I Tryz.call111 (fs := []) (cs := []) rfl (order_ok _ I.base_ok _ _) rfl) ?_
    refine OpsQ.ygt rfl (v := .bool (decide _)) (fun w I => Y.eqi rfl rfl) ?_
    refine OpsQ.y (v := .bool _) (fun w I => Y.pick_t rfl rfl) ?_
    refine OpsQ.y (v := .int .i64 _) (fun w I => Y.assign rfl) ?_
    refine OpsQ.y (v := .bool _) (fun w I => Y.assign rfl) ?_
    refine OpsQ.nil ?_
    intro w I
    have hb : isF f.xs x = decide (ordF f.xs[j] x = 0) := by
      rw [Bool.eq_iff_iff, hiff, decide_eq_true_eq, ordF_zero pm hx]; simp only [hpos]; exact ⟨fun ⟨_, hh⟩ => hh, fun hh => ⟨by omega, hh⟩⟩
    refine WP.ret ?_
    repeat (first | refine thenE_ret ?_ | refine blockE_ret ?_)
    exact retQ.mk (vs := [.int .i64 _, .bool _]) rfl ⟨rfl, rfl, trivial⟩ I.ext_of (by simp only [tup]; rw [hpos, hb])
  · refine WP.exit ?_
    refine WP.seq ?_
    refine WP.regionQ mixed I (by kernel_rfl) ?_
    refine OpsQ.y (v := .int .i64 _) (fun w I => Y.move rfl) ?_
    refine OpsQ.y (v := .int .i64 _) (fun w I => Y.move rfl) ?_
    refine OpsQ.y (v := .int .i64 _) (fun w I => Y.move rfl) ?_
    refine OpsQ.y (v := .bool false) (fun w I => Y.dec_f (Y.lti rfl rfl) (o1)) ?_
    refine OpsQ.y (v := .bool _) (fun w I => Y.move rfl) ?_
    refine OpsQ.gf rfl ?_
    refine OpsQ.gf rfl ?_
    refine OpsQ.gf rfl ?_
    refine OpsQ.gf rfl ?_
    refine OpsQ.gf rfl ?_
    refine OpsQ.gf rfl ?_
    refine OpsQ.gf rfl ?_
    refine OpsQ.gf rfl ?_
    refine OpsQ.y (v := .bool _) (fun w I => Y.pick_f rfl rfl) ?_
    refine OpsQ.y (v := .int .i64 _) (fun w I => Y.assign rfl) ?_
    refine OpsQ.y (v := .bool _) (fun w I => Y.assign rfl) ?_
    refine OpsQ.nil ?_
    intro w I
    have hb : isF f.xs x = false := by
      rw [Bool.eq_false_iff]; intro hh; obtain ⟨hh, _⟩ := hiff.1 hh; omega
    refine WP.ret ?_
    repeat (first | refine thenE_ret ?_ | refine blockE_ret ?_)
    exact retQ.mk (vs := [.int .i64 _, .bool _]) rfl ⟨rfl, rfl, trivial⟩ I.ext_of (by simp only [tup]; rw [hpos, hb])
theorem Seek_ok (B : Base) (hB : B.ok) (f : Sl Fct) (hf : Fcts f B.h) (hp : ∀ y ∈ f.xs, PF y) (hs : SrtF f.xs) (x : Fct) (hx : PF x) : Fn Tryz.prog 141 [f.val, x.val] B (fun v _ => v = .tuple #[.int .i64 (posF f.xs x : Nat), .bool (isF f.xs x)]) := by
  refine Fn.of Tryz.func141 rfl Tryz.ntmps141 (by kernel_rfl) (by simp) ?_
  intro e
  have I := Inv.start hB
  refine WP.seq ?_
  refine WP.region ?_
  refine Ops.go (O.box (v := .agg #[_, _, _, _]) I rfl rfl ?_)
  intro b3 w I
  refine Ops.y (v := .int .i64 _) (Y.assign rfl) ?_
  refine Ops.y (v := .bool _) (Y.assign rfl) ?_
  refine Ops.nil ?_
  refine WP.seq ?_
  refine WP.region ?_
  refine Ops.y (v := .slice _ _ _) (Y.move rfl) ?_
  refine Ops.y (v := .agg #[_, _, _, _]) (Y.loadv ty_83 rfl (I.rdbox 0 rfl 0 4) rfl rfl) ?_
  refine Ops.go (O.callv I Tryz.call185 (Bsf_ok _ I.base_ok f hf hp hs x hx) rfl ?_)
  intro w I
  refine Ops.y (v := .int .i64 _) (Y.extract rfl rfl) ?_
  refine Ops.y (v := .bool _) (Y.extract rfl rfl) ?_
  refine Ops.y (v := .int .i64 _) (Y.assign rfl) ?_
  refine Ops.y (v := .bool _) (Y.assign rfl) ?_
  refine Ops.nil ?_
  refine WP.ret ?_
  repeat (first | refine thenE_ret ?_ | refine blockE_ret ?_)
  exact retQ.mk (vs := [.int .i64 _, .bool _]) rfl ⟨rfl, rfl, trivial⟩ I.ext_of (rfl)
/-! ### Being under -/
theorem fine_kind {l : List Prd} {x : Fct} (h : factFine l x = true) : 0 ≤ (predOf l x.pred).kind ∧ (predOf l x.pred).kind ≤ 3 := by
  have := vOk_iff.1 (fine_iff.1 h).2.2.2.2.2; omega
theorem SameFacts_ok (B : Base) (hB : B.ok) (a b : Sl Fct) (ha : Fcts a B.h) (hb : Fcts b B.h) : Fn Tryz.prog 11 [a.val, b.val] B (fun v _ => v = .bool (decide (a.xs = b.xs))) := by
  have hsa := ha.small
  have hsb := hb.small
  refine Fn.of Tryz.func11 rfl Tryz.ntmps11 (by kernel_rfl) (by simp) ?_
  intro e
  have I := Inv.start hB
  refine WP.seq ?_
  refine WP.region ?_
  refine Ops.y (v := .bool _) (Y.assign rfl) ?_
  refine Ops.nil ?_
  refine WP.seq ?_
  refine WP.seq ?_
  refine WP.region ?_
  refine Ops.y (v := .slice _ _ _) (Y.move rfl) ?_
  refine Ops.y (v := .int .i64 _) (Y.lens Tryz.underlying31 rfl) ?_
  refine Ops.y (v := .slice _ _ _) (Y.move rfl) ?_
  refine Ops.y (v := .int .i64 _) (Y.lens Tryz.underlying31 rfl) ?_
  refine Ops.y (v := .bool (decide _)) (Y.nei rfl rfl) ?_
  refine Ops.nil ?_
  refine WP.cond_dec rfl (fun h1 => ?_) (fun h1 => ?_)
  · refine WP.seq ?_
    refine WP.region ?_
    refine Ops.y (v := .bool _) (Y.assign rfl) ?_
    refine Ops.nil ?_
    refine WP.ret ?_
    repeat (first | refine thenE_ret ?_ | refine blockE_ret ?_)
    exact retQ.mk (vs := [.bool _]) rfl ⟨rfl, trivial⟩ I.ext_of (by simp only [tup]; rw [decide_eq_false (fun e => h1 (by rw [e]))])
  refine WP.skip ?_
  refine WP.seq ?_
  refine WP.seq ?_
  refine WP.region ?_
  refine Ops.y (v := .int .i64 _) (Y.assign rfl) ?_
  refine Ops.nil ?_
  refine WP.block ?_
  refine WP.loopE (σ := Nat) (fun k => [(0, a.val), (1, b.val), (5, .int .i64 k)]) (fun k w => Inv B B.h [] w ∧ k ≤ a.xs.length ∧ ∀ j, j < k → a.xs[j]? = b.xs[j]?) (fun k => a.xs.length - k)
    ⟨0, ⟨rfl, rfl, rfl, trivial⟩, I, Nat.zero_le _, fun j hj => by omega⟩ ?_
  rintro k e w ⟨I, hk, hn⟩
  refine WP.seq ?_
  refine WP.seq ?_
  refine WP.region ?_
  refine Ops.y (v := .int .i64 _) (Y.move rfl) ?_
  refine Ops.y (v := .slice _ _ _) (Y.move rfl) ?_
  refine Ops.y (v := .int .i64 _) (Y.lens Tryz.underlying31 rfl) ?_
  refine Ops.y (v := .bool (decide _)) (Y.lti rfl rfl) ?_
  refine Ops.nil ?_
  refine WP.cond_dec rfl (fun h4 => ?_) (fun h4 => ?_)
  · have hk' : k < a.xs.length := by omega
    have hkb : k < b.xs.length := by omega
    have E1 := ha.at hk'
    have E2 := hb.at hkb
    refine WP.skip ?_
    refine WP.seq ?_
    refine WP.block ?_
    refine WP.seq ?_
    refine WP.regionQ mixed I (by kernel_rfl) ?_
    refine OpsQ.y (v := .slice _ _ _) (fun w I => Y.move rfl) ?_
    refine OpsQ.y (v := .int .i64 _) (fun w I => Y.move rfl) ?_
    refine OpsQ.y (v := .pointer (some ⟨_, _, none⟩)) (fun w I => Y.idxEl E1 Tryz.underlying31 Tryz.sizeOf83 rfl rfl (Int.natCast_nonneg _) rfl) ?_
    refine OpsQ.y (v := .agg #[_, _, _, _]) (fun w I => Y.loadv ty_83 rfl (I.rd (E1.rd.part 0 4)) rfl rfl) ?_
    refine OpsQ.y (v := .slice _ _ _) (fun w I => Y.move rfl) ?_
    refine OpsQ.y (v := .int .i64 _) (fun w I => Y.move rfl) ?_
    refine OpsQ.y (v := .pointer (some ⟨_, _, none⟩)) (fun w I => Y.idxEl E2 Tryz.underlying31 Tryz.sizeOf83 rfl rfl (Int.natCast_nonneg _) rfl) ?_
    refine OpsQ.y (v := .agg #[_, _, _, _]) (fun w I => Y.loadv ty_83 rfl (I.rd (E2.rd.part 0 4)) rfl rfl) ?_
    refine OpsQ.y (v := .bool _) (fun w I => Y.nest Tryz.eqGuardType83 (eq_83 _ _ _ _ _ _ _ _) rfl rfl) ?_
    refine OpsQ.nil ?_
    intro w I
    refine WP.cond rfl (fun h6 => ?_) (fun h6 => ?_)
    · refine WP.seq ?_
      refine WP.region ?_
      refine Ops.y (v := .bool _) (Y.assign rfl) ?_
      refine Ops.nil ?_
      have hne : a.xs ≠ b.xs := fun e => by
        have he : a.xs[k] = b.xs[k] := by simp only [e]
        simp [he] at h6
      refine WP.ret ?_
      repeat (first | refine thenE_ret ?_ | refine blockE_ret ?_)
      exact retQ.mk (vs := [.bool _]) rfl ⟨rfl, trivial⟩ I.ext_of (by simp only [tup]; rw [decide_eq_false hne])
    refine WP.skip ?_
    refine WP.region ?_
    refine Ops.y (v := .int .i64 _) (Y.move rfl) ?_
    refine Ops.y (v := .int .i64 _) (Y.addi rfl rfl ⟨by omega, by omega⟩) ?_
    refine Ops.y (v := .int .i64 _) (Y.assign rfl) ?_
    refine Ops.nil ?_
    exact ⟨k + 1, ⟨⟨rfl, rfl, rfl, trivial⟩, I, hk', fun j hj => by
      rcases Nat.lt_succ_iff_lt_or_eq.1 hj with h' | rfl
      · exact hn j h'
      · rw [List.getElem?_eq_getElem hk', List.getElem?_eq_getElem hkb]
        congr 1
        simp only [Bool.not_eq_false', Bool.and_eq_true, beq_iff_eq] at h6
        obtain ⟨e1, e2, e3, e4, _⟩ := h6
        generalize a.xs[j] = u at *
        generalize b.xs[j] = v at *
        cases u; cases v; simp_all⟩, by omega⟩
  have hab : a.xs = b.xs := List.ext_getElem? fun j => by
    rcases Nat.lt_or_ge j k with h' | h'
    · exact hn j h'
    · rw [List.getElem?_eq_none (by omega), List.getElem?_eq_none (by omega)]
  refine WP.exit ?_
  refine WP.seq ?_
  refine WP.region ?_
  refine Ops.y (v := .bool _) (Y.assign rfl) ?_
  refine Ops.nil ?_
  refine WP.ret ?_
  repeat (first | refine thenE_ret ?_ | refine blockE_ret ?_)
  exact retQ.mk (vs := [.bool _]) rfl ⟨rfl, trivial⟩ I.ext_of (by simp only [tup]; rw [decide_eq_true hab])
end Go.TF
end
section
/- slices.Insert of one fact; adding a fact. -/
namespace Go.TF
open Go Go.RowKit Go.Proofs
set_option maxRecDepth 20000

theorem over_app (A Z X : List Value) : over (A ++ Z) A.length X = A ++ X ++ Z.drop X.length := by
  unfold over
  rw [List.take_left, List.drop_append, List.drop_of_length_le (by omega), List.nil_append, Nat.add_sub_cancel_left]
theorem over_end {L D : List Value} {o : Nat} (h : o + D.length = L.length) : over L o D = L.take o ++ D := by
  unfold over
  rw [List.drop_of_length_le (by omega), List.append_nil]
theorem ins_grow (A Z X D : List Value) (h : X.length + D.length = Z.length) : over (over (A ++ Z) A.length X) (A.length + X.length) D = A ++ X ++ D := by
  rw [over_app, over_end (by simp only [List.length_append, List.length_drop]; omega)]
  rw [← List.length_append, List.take_left]
theorem ins_shift (A D Y X : List Value) (h : X.length = Y.length) : over (over (A ++ (D ++ Y)) (A.length + X.length) D) A.length X = A ++ X ++ D := by
  rw [over_end (L := A ++ (D ++ Y)) (o := A.length + X.length) (by simp only [List.length_append]; omega), List.take_append, List.take_of_length_le (by omega), Nat.add_sub_cancel_left, List.append_assoc, over_app]
  congr 1
  have hl : ((D ++ Y).take X.length).length = X.length := by simp only [List.length_take, List.length_append]; omega
  rw [List.drop_append, List.drop_of_length_le (by omega), hl, Nat.sub_self]; rfl
theorem flat_ins (xs : List Fct) (x : Fct) (i : Nat) : (xs.take i ++ x :: xs.drop i).flatMap Fct.enc = (xs.take i).flatMap Fct.enc ++ x.enc ++ (xs.drop i).flatMap Fct.enc := by
  rw [List.flatMap_append, List.flatMap_cons, List.append_assoc]
theorem fct_one (xs : List Fct) : oneCells (xs.flatMap Fct.enc) = true := by
  simp only [oneCells, List.all_flatMap]
  rw [List.all_eq_true]
  intro x _; rfl
theorem ovl_run (vs : Array Value) (w : World) : (callFunc 221 vs).run Tryz.prog w = ((Extern.SlicesOverlaps.overlaps #[31, 31] #[4] vs).run Tryz.prog w).andThen fun v w' => .ok (.value v) w' :=
  run_callFunc_extern Tryz.func221 (by kernel_rfl) (by kernel_rfl) (by kernel_rfl) (e := Extern.SlicesOverlaps.overlaps #[31, 31] #[4]) (by kernel_rfl) vs w
set_option maxHeartbeats 2000000 in
/-- One fact put in. -/
theorem Insert_ok {B : Base} {h : Heap} {M : List SA} {w : World} {v : Value} {n : Nat} {xs : List Fct} (I : Inv B h (ownSl 83 4 v n (xs.flatMap Fct.enc) :: M) w) (hn : n = xs.length) (i : Nat) (hi : i ≤ n) (x : Fct) (u : Nat) (hu : h u = some (.cells x.enc.toArray 83 (0, 0))) (hb : n ≤ 1000000000) :
    Calls Tryz.prog 176 [v, .int .i64 i, .slice (some ⟨u, 0, none⟩) (1 : Nat) (1 : Nat)].toArray w
      (fun ed w' => ∃ v' h', ed = .returned v' ∧ h.le h' ∧ Inv B h' (ownSl 83 4 v' (n + 1) ((xs.take i ++ x :: xs.drop i).flatMap Fct.enc) :: M) w') := by
  have hux : RdH h u 0 x.enc := fun j y hj => by simp only [Heap.cell, hu, Nat.zero_add]; simpa using hj
  have hfl : ∀ y : Fct, y.enc.length = 4 := fun _ => rfl
  by_cases hend : i = n
  · have hfin : (xs.take i ++ x :: xs.drop i).flatMap Fct.enc = xs.flatMap Fct.enc ++ x.enc := by
      rw [flat_ins, hend, hn, List.take_length, List.drop_length]; simp
    rw [hfin]
    rcases (I.at 0 rfl).2 with ⟨rfl, h0⟩ | ⟨gg, cap, cur, rfl, _, hg, hnc, hcm, _⟩
    · obtain rfl : n = 0 := by simpa using h0
      obtain rfl : i = 0 := hend
      refine Calls.ofWP (args := [.slice none 0 0, .int .i64 (0 : Nat), .slice (some ⟨u, 0, none⟩) (1 : Nat) (1 : Nat)]) Tryz.func176 rfl Tryz.ntmps176 (by kernel_rfl) (by simp) ?_
      intro e
      refine WP.seq ?_
      refine WP.region ?_
      refine Ops.y (v := .slice _ _ _) (Y.assign rfl) ?_
      refine Ops.nil ?_
      refine WP.seq ?_
      refine WP.region ?_
      refine Ops.y (v := .slice _ _ _) (Y.move rfl) ?_
      refine Ops.y (v := .int .i64 _) (Y.move rfl) ?_
      refine Ops.y (v := .slice _ _ _) (Y.slicenil Tryz.underlying31 Tryz.sizeOf83 rfl (.inr ⟨_, _, rfl, rfl⟩) (.inl rfl)) ?_
      refine Ops.nil ?_
      refine WP.seq ?_
      refine WP.region ?_
      refine Ops.y (v := .slice _ _ _) (Y.move rfl) ?_
      refine Ops.y (v := .int .i64 _) (Y.lens Tryz.underlying31 rfl) ?_
      refine Ops.y (v := .int .i64 _) (Y.assign rfl) ?_
      refine Ops.nil ?_
      refine WP.seq ?_
      refine WP.seq ?_
      refine WP.region ?_
      refine Ops.y (v := .int .i64 _) (Y.move rfl) ?_
      refine Ops.y (v := .bool false) (Y.dec_f (Y.eqi rfl rfl) ((by decide))) ?_
      refine Ops.nil ?_
      refine WP.cond_f rfl ?_
      refine WP.skip ?_
      refine WP.seq ?_
      refine WP.region ?_
      refine Ops.y (v := .slice _ _ _) (Y.move rfl) ?_
      refine Ops.y (v := .int .i64 _) (Y.lens Tryz.underlying31 rfl) ?_
      refine Ops.y (v := .int .i64 _) (Y.assign rfl) ?_
      refine Ops.nil ?_
      refine WP.seq ?_
      refine WP.seq ?_
      refine WP.region ?_
      refine Ops.y (v := .int .i64 _) (Y.move rfl) ?_
      refine Ops.y (v := .int .i64 _) (Y.move rfl) ?_
      refine Ops.y (v := .bool true) (Y.dec_t (Y.eqi rfl rfl) ((by decide))) ?_
      refine Ops.nil ?_
      refine WP.cond_t rfl ?_
      refine WP.seq ?_
      refine WP.region ?_
      refine Ops.y (v := .slice _ _ _) (Y.move rfl) ?_
      refine Ops.y (v := .slice _ _ _) (Y.move rfl) ?_
      refine Ops.go (O.append I Tryz.underlying31 et_83 0 rfl rfl rfl (I.rd hux) rfl rfl (by decide) (by omega) (by omega) ?_)
      intro g2 c2 w I
      refine Ops.y (v := .slice _ _ _) (Y.assign rfl) ?_
      refine Ops.nil ?_
      refine WP.ret ?_
      repeat (first | refine thenE_ret ?_ | refine blockE_ret ?_)
      exact ⟨.inl rfl, [.slice (some ⟨g2, 0, none⟩) (0 + 1) c2], ⟨rfl, trivial⟩, _, _, rfl, Heap.le.refl _, I⟩
    · simp only [maxLen] at hcm
      refine Calls.ofWP (args := [.slice (some ⟨gg, 0, none⟩) n cap, .int .i64 i, .slice (some ⟨u, 0, none⟩) (1 : Nat) (1 : Nat)]) Tryz.func176 rfl Tryz.ntmps176 (by kernel_rfl) (by simp) ?_
      intro e
      refine WP.seq ?_
      refine WP.region ?_
      refine Ops.y (v := .slice _ _ _) (Y.assign rfl) ?_
      refine Ops.nil ?_
      refine WP.seq ?_
      refine WP.region ?_
      refine Ops.y (v := .slice _ _ _) (Y.move rfl) ?_
      refine Ops.y (v := .int .i64 _) (Y.move rfl) ?_
      refine Ops.y (v := .slice _ _ _) (Y.slicesl (l := i) (h := n) Tryz.underlying31 Tryz.sizeOf83 rfl (.inr ⟨_, _, rfl, rfl⟩) (.inl ⟨rfl, rfl⟩) (by omega) (by omega)) ?_
      refine Ops.nil ?_
      refine WP.seq ?_
      refine WP.region ?_
      refine Ops.y (v := .slice _ _ _) (Y.move rfl) ?_
      refine Ops.y (v := .int .i64 _) (Y.lens Tryz.underlying31 rfl) ?_
      refine Ops.y (v := .int .i64 _) (Y.assign rfl) ?_
      refine Ops.nil ?_
      refine WP.seq ?_
      refine WP.seq ?_
      refine WP.region ?_
      refine Ops.y (v := .int .i64 _) (Y.move rfl) ?_
      refine Ops.y (v := .bool false) (Y.dec_f (Y.eqi rfl rfl) ((by decide))) ?_
      refine Ops.nil ?_
      refine WP.cond_f rfl ?_
      refine WP.skip ?_
      refine WP.seq ?_
      refine WP.region ?_
      refine Ops.y (v := .slice _ _ _) (Y.move rfl) ?_
      refine Ops.y (v := .int .i64 _) (Y.lens Tryz.underlying31 rfl) ?_
      refine Ops.y (v := .int .i64 _) (Y.assign rfl) ?_
      refine Ops.nil ?_
      refine WP.seq ?_
      refine WP.seq ?_
      refine WP.region ?_
      refine Ops.y (v := .int .i64 _) (Y.move rfl) ?_
      refine Ops.y (v := .int .i64 _) (Y.move rfl) ?_
      refine Ops.y (v := .bool true) (Y.dec_t (Y.eqi rfl rfl) ((by omega))) ?_
      refine Ops.nil ?_
      refine WP.cond_t rfl ?_
      refine WP.seq ?_
      refine WP.region ?_
      refine Ops.y (v := .slice _ _ _) (Y.move rfl) ?_
      refine Ops.y (v := .slice _ _ _) (Y.move rfl) ?_
      refine Ops.go (O.append I Tryz.underlying31 et_83 0 rfl rfl rfl (I.rd hux) rfl rfl (by decide) (by omega) (by omega) ?_)
      intro g2 c2 w I
      refine Ops.y (v := .slice _ _ _) (Y.assign rfl) ?_
      refine Ops.nil ?_
      refine WP.ret ?_
      repeat (first | refine thenE_ret ?_ | refine blockE_ret ?_)
      exact ⟨.inl rfl, [.slice (some ⟨g2, 0, none⟩) (n + 1) c2], ⟨rfl, trivial⟩, _, _, rfl, Heap.le.refl _, I⟩
  rcases (I.at 0 rfl).2 with ⟨rfl, h0⟩ | ⟨gg, cap, cur, rfl, _, hg, hnc, hcm, _⟩
  · exfalso; have : n = 0 := by simpa using h0
    omega
  simp only [maxLen] at hcm
  have hAl : ((xs.take i).flatMap Fct.enc).length = i * 4 := by rw [flat_len hfl, List.length_take]; congr 1; omega
  have hDl : ((xs.drop i).flatMap Fct.enc).length = (n - i) * 4 := by rw [flat_len hfl, List.length_drop, hn]
  rw [flat_ins]
  refine Calls.ofWP (args := [.slice (some ⟨gg, 0, none⟩) n cap, .int .i64 i, .slice (some ⟨u, 0, none⟩) (1 : Nat) (1 : Nat)]) Tryz.func176 rfl Tryz.ntmps176 (by kernel_rfl) (by simp) ?_
  intro e
  refine WP.seq ?_
  refine WP.region ?_
  refine Ops.y (v := .slice _ _ _) (Y.assign rfl) ?_
  refine Ops.nil ?_
  refine WP.seq ?_
  refine WP.region ?_
  refine Ops.y (v := .slice _ _ _) (Y.move rfl) ?_
  refine Ops.y (v := .int .i64 _) (Y.move rfl) ?_
  refine Ops.y (v := .slice _ _ _) (Y.slicesl (l := i) (h := n) Tryz.underlying31 Tryz.sizeOf83 rfl (.inr ⟨_, _, rfl, rfl⟩) (.inl ⟨rfl, rfl⟩) (by omega) (by omega)) ?_
  refine Ops.nil ?_
  refine WP.seq ?_
  refine WP.region ?_
  refine Ops.y (v := .slice _ _ _) (Y.move rfl) ?_
  refine Ops.y (v := .int .i64 _) (Y.lens Tryz.underlying31 rfl) ?_
  refine Ops.y (v := .int .i64 _) (Y.assign rfl) ?_
  refine Ops.nil ?_
  refine WP.seq ?_
  refine WP.seq ?_
  refine WP.region ?_
  refine Ops.y (v := .int .i64 _) (Y.move rfl) ?_
  refine Ops.y (v := .bool false) (Y.dec_f (Y.eqi rfl rfl) ((by decide))) ?_
  refine Ops.nil ?_
  refine WP.cond_f rfl ?_
  refine WP.skip ?_
  refine WP.seq ?_
  refine WP.region ?_
  refine Ops.y (v := .slice _ _ _) (Y.move rfl) ?_
  refine Ops.y (v := .int .i64 _) (Y.lens Tryz.underlying31 rfl) ?_
  refine Ops.y (v := .int .i64 _) (Y.assign rfl) ?_
  refine Ops.nil ?_
  refine WP.seq ?_
  refine WP.seq ?_
  refine WP.region ?_
  refine Ops.y (v := .int .i64 _) (Y.move rfl) ?_
  refine Ops.y (v := .int .i64 _) (Y.move rfl) ?_
  refine Ops.y (v := .bool false) (Y.dec_f (Y.eqi rfl rfl) ((by omega))) ?_
  refine Ops.nil ?_
  refine WP.cond_f rfl ?_
  refine WP.skip ?_
  refine WP.seq ?_
  refine WP.seq ?_
  refine WP.region ?_
  refine Ops.y (v := .int .i64 _) (Y.move rfl) ?_
  refine Ops.y (v := .int .i64 _) (Y.move rfl) ?_
  refine Ops.y (v := .int .i64 _) (Y.addi rfl rfl ⟨by omega, by omega⟩) ?_
  refine Ops.y (v := .slice _ _ _) (Y.move rfl) ?_
  refine Ops.y (v := .int .i64 _) (Y.caps Tryz.underlying31 rfl) ?_
  refine Ops.y (v := .bool (decide _)) (Y.gti rfl rfl) ?_
  refine Ops.nil ?_
  refine WP.cond_dec rfl (fun h8 => ?_) (fun h8 => ?_)
  · have hRd : Rd w gg 0 ((xs.take i).flatMap Fct.enc) := by
      have := I.rdOwn 0 rfl 0 (i * 4)
      rwa [List.drop_zero, flat_take hfl] at this
    have hgw : gg < w.heap.size := ((I.own _ (List.mem_cons_self ..)).2 gg (by simp [ownSl, Value.ownBlock])).2.1
    refine WP.seq ?_
    refine WP.region ?_
    refine Ops.y (v := .slice _ _ _) (Y.move rfl) ?_
    refine Ops.y (v := .int .i64 _) (Y.move rfl) ?_
    refine Ops.y (v := .slice _ _ _) (Y.cutO (l := 0) (h' := i) Tryz.underlying31 Tryz.sizeOf83 rfl (.inl ⟨rfl, rfl⟩) (.inr ⟨_, _, rfl, rfl⟩) (by omega) (by omega) (by omega)) ?_
    refine Ops.y (v := .int .i64 _) (Y.move rfl) ?_
    refine Ops.y (v := .int .i64 _) (Y.move rfl) ?_
    refine Ops.y (v := .int .i64 _) (Y.addi rfl rfl ⟨by omega, by omega⟩) ?_
    refine Ops.y (v := .int .i64 _) (Y.move rfl) ?_
    refine Ops.y (v := .int .i64 _) (Y.subi rfl rfl ⟨by omega, by omega⟩) ?_
    refine Ops.go (O.appendZ (n := i) (m := n + 1 - i) I Tryz.underlying31 Tryz.underlying3 et_83 rfl hRd hAl (congrArg (Value.int .i64) (by omega)) (by omega) (by omega) (by omega) (by omega) ?_ hgw)
    intro g2 c2 w I hne
    refine Ops.y (v := .slice _ _ _) (Y.assign rfl) ?_
    refine Ops.nil ?_
    have hs2 := (I.shapeOwn 0 rfl).2
    have hZl : ((Builtin.zeroCells (Value.agg #[.int .i64 0, .int .i64 0, .int .i64 0, .int .i64 0]).cells (n + 1 - i)).toList).length = (n + 1 - i) * 4 := by rw [Array.length_toList, size_zeroCells]; rfl
    generalize (Builtin.zeroCells (Value.agg #[.int .i64 0, .int .i64 0, .int .i64 0, .int .i64 0]).cells (n + 1 - i)).toList = Z at I hZl
    rw [show i + (n + 1 - i) = n + 1 by omega] at I hs2 ⊢
    refine WP.seq ?_
    refine WP.region ?_
    refine Ops.y (v := .slice _ _ _) (Y.move rfl) ?_
    refine Ops.y (v := .int .i64 _) (Y.move rfl) ?_
    refine Ops.y (v := .slice _ _ _) (Y.cutO (l := i) (h' := n + 1) Tryz.underlying31 Tryz.sizeOf83 rfl (.inr ⟨_, _, rfl, rfl⟩) (.inl ⟨rfl, rfl⟩) (by omega) (by omega) (by omega)) ?_
    refine Ops.y (v := .slice _ _ _) (Y.move rfl) ?_
    refine Ops.go (O.copy I Tryz.underlying31 et_83 0 rfl rfl rfl (q := 1) (by simp only [Nat.min_def]; split <;> omega) (by omega) (I.rd hux) rfl rfl ?_)
    intro w I
    refine Ops.nil ?_
    refine WP.seq ?_
    refine WP.regionF mixed I 8 (by kernel_rfl) ?_
    refine OpsF.y_ (v := .slice _ _ _) (fun _ => runs_none _) (fun _ w us hl I => Y.move rfl) ?_
    refine OpsF.y_ (v := .int .i64 _) (fun _ => runs_none _) (fun _ w us hl I => Y.move rfl) ?_
    refine OpsF.y_ (v := .int .i64 _) (fun _ => runs_none _) (fun _ w us hl I => Y.move rfl) ?_
    refine OpsF.y_ (v := .int .i64 _) (fun _ => runs_none _) (fun _ w us hl I => Y.addi rfl rfl ⟨by omega, by omega⟩) ?_
    refine OpsF.y_ (v := .slice _ _ _) (fun _ => runs_none _) (fun _ w us hl I => Y.cutO (l := i + 1) (h' := n + 1) Tryz.underlying31 Tryz.sizeOf83 rfl (.inr ⟨_, _, rfl, rfl⟩) (.inl ⟨rfl, rfl⟩) (by omega) (by omega) (by omega)) ?_
    refine OpsF.y_ (v := .slice _ _ _) (fun _ => runs_none _) (fun _ w us hl I => Y.move rfl) ?_
    refine OpsF.y_ (v := .int .i64 _) (fun _ => runs_none _) (fun _ w us hl I => Y.move rfl) ?_
    refine OpsF.y_ (v := .slice _ _ _) (fun _ => runs_none _) (fun _ w us hl I => Y.cutO (l := i) (h' := n) Tryz.underlying31 Tryz.sizeOf83 rfl (.inr ⟨_, _, rfl, rfl⟩) (.inl ⟨rfl, rfl⟩) (by omega) (by omega) (by omega)) ?_
    refine OpsF.nil ?_
    intro _ w hl I
    try unfold AllL
    have hRd2 : Rd w gg (i * 4) ((xs.drop i).flatMap Fct.enc) := by have := I.rdOwn 1 rfl (i * 4) ((n - i) * 4); rwa [flat_drop hfl, List.take_of_length_le (by omega)] at this
    refine Ops.go (O.copy I Tryz.underlying31 et_83 0 rfl rfl rfl (q := n - i) (by simp only [Nat.min_def]; split <;> omega) (by omega) hRd2 hDl (fct_one _) ?_)
    intro w I
    refine Ops.nil ?_
    refine WP.seq ?_
    refine WP.region ?_
    refine Ops.y (v := .slice _ _ _) (Y.move rfl) ?_
    refine Ops.y (v := .slice _ _ _) (Y.assign rfl) ?_
    refine Ops.nil ?_
    refine WP.ret ?_
    repeat (first | refine thenE_ret ?_ | refine blockE_ret ?_)
    have hI : over (over ((xs.take i).flatMap Fct.enc ++ Z) (i * 4) x.enc) ((i + 1) * 4) ((xs.drop i).flatMap Fct.enc) = (xs.take i).flatMap Fct.enc ++ x.enc ++ (xs.drop i).flatMap Fct.enc := by
      have := ins_grow ((xs.take i).flatMap Fct.enc) Z x.enc ((xs.drop i).flatMap Fct.enc) (by rw [hZl, hDl, hfl]; omega)
      rwa [hAl, hfl, show i * 4 + 4 = (i + 1) * 4 by omega] at this
    have I := I.weak (M' := _ :: M) (List.Sublist.cons_cons _ (List.sublist_cons_self _ _))
    try simp only [List.set_cons_zero] at I
    rw [hI] at I
    exact ⟨.inl rfl, [.slice (some ⟨g2, 0, none⟩) (n + 1) c2], ⟨rfl, trivial⟩, _, _, rfl, hl, I⟩
  · have hcn : n + 1 ≤ cap := by omega
    obtain ⟨Yz, hYl, I⟩ := I.widen (m := 1) hcn
    have hou := ((I.own _ (List.mem_cons_self ..)).2 gg (by simp [ownSl, Value.ownBlock])).2.2
    have hne : u ≠ gg := fun e => by rw [← e, hu] at hou; cases hou
    refine WP.skip ?_
    refine WP.seq ?_
    refine WP.region ?_
    refine Ops.y (v := .slice _ _ _) (Y.move rfl) ?_
    refine Ops.y (v := .int .i64 _) (Y.move rfl) ?_
    refine Ops.y (v := .int .i64 _) (Y.move rfl) ?_
    refine Ops.y (v := .int .i64 _) (Y.addi rfl rfl ⟨by omega, by omega⟩) ?_
    refine Ops.y (v := .slice _ _ _) (Y.cutO (l := 0) (h' := n + 1) Tryz.underlying31 Tryz.sizeOf83 rfl (.inl ⟨rfl, rfl⟩) (.inr ⟨_, _, rfl, rfl⟩) (by omega) (by omega) (by omega)) ?_
    refine Ops.y (v := .slice _ _ _) (Y.assign rfl) ?_
    refine Ops.nil ?_
    have hsB := (I.shapeOwn 0 rfl).1
    have hsA : w.shape? u = some (83, 4) := by simp [World.shape?, I.imm _ _ hu]
    have hfr : ∀ o, w.frozen? ⟨u, o, none⟩ = false := fun o => by simp [World.frozen?, I.imm _ _ hu]
    refine WP.seq ?_
    refine WP.seq ?_
    refine WP.region ?_
    refine Ops.y (v := .slice _ _ _) (Y.move rfl) ?_
    refine Ops.y (v := .slice _ _ _) (Y.move rfl) ?_
    refine Ops.y (v := .int .i64 _) (Y.move rfl) ?_
    refine Ops.y (v := .int .i64 _) (Y.move rfl) ?_
    refine Ops.y (v := .int .i64 _) (Y.addi rfl rfl ⟨by omega, by omega⟩) ?_
    refine Ops.y (v := .slice _ _ _) (Y.cutO (l := i + 1) (h' := n + 1) Tryz.underlying31 Tryz.sizeOf83 rfl (.inr ⟨_, _, rfl, rfl⟩) (.inl ⟨rfl, rfl⟩) (by omega) (by omega) (by omega)) ?_
    refine Ops.y (v := _) (O.overlaps ovl_run Tryz.underlying31 Tryz.sizeOf83 rfl rfl hne hsA hsB (by omega) hfr) ?_
    refine Ops.y (v := .bool _) (Y.not rfl) ?_
    refine Ops.nil ?_
    refine WP.cond_t rfl ?_
    refine WP.seq ?_
    refine WP.regionF mixed I 8 (by kernel_rfl) ?_
    refine OpsF.y_ (v := .slice _ _ _) (fun _ => runs_none _) (fun _ w us hl I => Y.move rfl) ?_
    refine OpsF.y_ (v := .int .i64 _) (fun _ => runs_none _) (fun _ w us hl I => Y.move rfl) ?_
    refine OpsF.y_ (v := .int .i64 _) (fun _ => runs_none _) (fun _ w us hl I => Y.move rfl) ?_
    refine OpsF.y_ (v := .int .i64 _) (fun _ => runs_none _) (fun _ w us hl I => Y.addi rfl rfl ⟨by omega, by omega⟩) ?_
    refine OpsF.y_ (v := .slice _ _ _) (fun _ => runs_none _) (fun _ w us hl I => Y.cutO (l := i + 1) (h' := n + 1) Tryz.underlying31 Tryz.sizeOf83 rfl (.inr ⟨_, _, rfl, rfl⟩) (.inl ⟨rfl, rfl⟩) (by omega) (by omega) (by omega)) ?_
    refine OpsF.y_ (v := .slice _ _ _) (fun _ => runs_none _) (fun _ w us hl I => Y.move rfl) ?_
    refine OpsF.y_ (v := .int .i64 _) (fun _ => runs_none _) (fun _ w us hl I => Y.move rfl) ?_
    refine OpsF.y_ (v := .slice _ _ _) (fun _ => runs_none _) (fun _ w us hl I => Y.cutO (l := i) (h' := n + 1) Tryz.underlying31 Tryz.sizeOf83 rfl (.inr ⟨_, _, rfl, rfl⟩) (.inl ⟨rfl, rfl⟩) (by omega) (by omega) (by omega)) ?_
    refine OpsF.nil ?_
    intro _ w hl I
    try unfold AllL
    have hRd2 : Rd w gg (i * 4) ((xs.drop i).flatMap Fct.enc) := by have := I.rdOwn 0 rfl (i * 4) ((n - i) * 4); rwa [List.drop_append_of_le_length (by rw [flat_len hfl]; omega), flat_drop hfl, List.take_left' hDl] at this
    refine Ops.go (O.copy I Tryz.underlying31 et_83 0 rfl rfl rfl (q := n - i) (by simp only [Nat.min_def]; split <;> omega) (by omega) hRd2 hDl (fct_one _) ?_)
    intro w I
    refine Ops.nil ?_
    refine WP.seq ?_
    refine WP.region ?_
    refine Ops.y (v := .slice _ _ _) (Y.move rfl) ?_
    refine Ops.y (v := .int .i64 _) (Y.move rfl) ?_
    refine Ops.y (v := .slice _ _ _) (Y.cutO (l := i) (h' := n + 1) Tryz.underlying31 Tryz.sizeOf83 rfl (.inr ⟨_, _, rfl, rfl⟩) (.inl ⟨rfl, rfl⟩) (by omega) (by omega) (by omega)) ?_
    refine Ops.y (v := .slice _ _ _) (Y.move rfl) ?_
    refine Ops.go (O.copy I Tryz.underlying31 et_83 0 rfl rfl rfl (q := 1) (by simp only [Nat.min_def]; split <;> omega) (by omega) (I.rd (hux.le hl)) rfl rfl ?_)
    intro w I
    refine Ops.nil ?_
    refine WP.seq ?_
    refine WP.region ?_
    refine Ops.y (v := .slice _ _ _) (Y.move rfl) ?_
    refine Ops.y (v := .slice _ _ _) (Y.assign rfl) ?_
    refine Ops.nil ?_
    refine WP.ret ?_
    repeat (first | refine thenE_ret ?_ | refine blockE_ret ?_)
    have hI : over (over (xs.flatMap Fct.enc ++ Yz) ((i + 1) * 4) ((xs.drop i).flatMap Fct.enc)) (i * 4) x.enc = (xs.take i).flatMap Fct.enc ++ x.enc ++ (xs.drop i).flatMap Fct.enc := by
      have := ins_shift ((xs.take i).flatMap Fct.enc) ((xs.drop i).flatMap Fct.enc) Yz x.enc (by rw [hYl, hfl])
      rw [hAl, hfl, show i * 4 + 4 = (i + 1) * 4 by omega, ← List.append_assoc, ← List.flatMap_append, List.take_append_drop] at this
      exact this
    try simp only [List.set_cons_zero] at I
    rw [hI] at I
    exact ⟨.inl rfl, [.slice (some ⟨gg, 0, none⟩) (n + 1) cap], ⟨rfl, trivial⟩, _, _, rfl, hl, I⟩
end Go.TF
end
section
/- What of a round is asked. -/
namespace Go.TF
open Go Go.RowKit Go.Proofs
set_option maxRecDepth 20000

noncomputable def askR (p : Prg) (f : List Fct) : Int := if checkProg p ≠ 0 then checkProg p else checkFacts p.preds.xs f
theorem askR_iff {p : Prg} {f : List Fct} : askR p f = 0 ↔ checkProg p = 0 ∧ FOk p.preds.xs f := by
  unfold askR
  constructor
  · intro h
    split at h
    · rename_i h1; exact absurd h h1
    · rename_i h1; exact ⟨Decidable.not_not.1 h1, checkFacts_ok.1 h⟩
  · rintro ⟨h1, h2⟩
    rw [if_neg (by omega)]; exact checkFacts_ok.2 h2
end Go.TF
end
section
/- Adding a fact, as base and the document do. -/
namespace Go.TF
open Go Go.RowKit Go.Proofs
set_option maxRecDepth 20000

theorem srt_place {f : List Fct} (hp : ∀ y ∈ f, PF y) (hs : SrtF f) : ∀ i, (hi : i < f.length) → (i : Int) ≤ placeF f[i]
  | 0, hi => (hp _ (List.getElem_mem hi)).place.1
  | i + 1, hi => by
    have h1 := srt_place hp hs i (by omega)
    have h2 := hs.get (i := i) (j := i + 1) (by omega) hi
    omega
theorem srt_len {f : List Fct} (hp : ∀ y ∈ f, PF y) (hs : SrtF f) : f.length ≤ 125 := by
  rcases Nat.lt_or_ge 125 f.length with h | h
  · have h1 := srt_place hp hs 125 h
    have h2 := (hp _ (List.getElem_mem h)).place.2
    omega
  · exact h
theorem FOk.len125 {l : List Prd} {f : List Fct} (ok : FOk l f) : f.length ≤ 125 := srt_len ok.pf ok.srt
def CloneP (xs : List Fct) (h0 : Heap) : Value → Heap → Prop := fun v h => ∃ s : Sl Fct, v = s.val ∧ s.xs = xs ∧ OwnH 83 4 s Fct.enc h0 h ∧ (s.xs = [] → s.cap = 0)
theorem CloneP.mono {xs : List Fct} {h0 : Heap} : MonoS (CloneP xs h0) := fun _ _ _ hl hx => by
  obtain ⟨s, h1, h2, h3, h4⟩ := hx
  exact ⟨s, h1, h2, h3.le hl, h4⟩
theorem fct_inj {x y : Fct} (h : x.enc = y.enc) : x = y := by
  cases x; cases y; simp only [Fct.enc, List.cons.injEq, Value.int.injEq, true_and, and_true] at h; simp only [Fct.mk.injEq]; exact h
theorem lit_apart {s : Sl Fct} {u : Nat} {h0 h : Heap} {x : Fct} (o : OwnH 83 4 s Fct.enc h0 h) (s0 : s.xs = [] → s.cap = 0) (hu : h u = some (.cells x.enc.toArray 83 (0, 0))) (hx : x ∉ s.xs) : s.at_ ≠ some ⟨u, 0, none⟩ := by
  intro e
  rcases o with rfl | ⟨g, cur, e1, e2, e3, e4, e5, e6, e7⟩
  · cases e
  · rw [e1] at e
    have : g = u := by simpa using e
    subst this
    rw [e3] at hu
    have hc : cur = x.enc.toArray := by simpa using hu
    subst hc
    have hcap : s.cap = 1 := by simp only [List.size_toArray, Fct.enc, List.length_cons, List.length_nil] at e6; omega
    match hs : s.xs with
    | [] => have := s0 hs; omega
    | [y] =>
      rw [hs] at e7
      have : x.enc = y.enc := by simpa [Fct.enc] using e7
      exact hx (by rw [hs, fct_inj this]; simp)
    | _ :: _ :: _ => rw [hs] at e4; simp only [List.length_cons] at e4; omega
theorem flat_set (v : Int) : ∀ (xs : List Fct) (i : Nat) (hi : i < xs.length), (xs.flatMap Fct.enc).set (i * 4 + 3) (.int .i64 v) = (xs.set i ⟨xs[i].pred, xs[i].a, xs[i].b, v⟩).flatMap Fct.enc
  | [], i, hi => absurd hi (Nat.not_lt_zero _)
  | x :: xs, 0, _ => by simp [Fct.enc]
  | x :: xs, i + 1, hi => by
    have := flat_set v xs i (by simpa using hi)
    simp only [List.flatMap_cons, List.set_cons_succ, List.getElem_cons_succ]
    rw [← this, List.set_append, if_neg (by simp only [Fct.enc, List.length_cons, List.length_nil]; omega)]
    congr 2
    show (i + 1) * 4 + 3 - 4 = _
    omega
theorem isF_mem {f : List Fct} {x : Fct} (h : isF f x = false) : x ∉ f := fun hx => by
  have : lkF f (placeF x) = none := by unfold isF at h; cases hk : lkF f (placeF x) <;> simp_all
  exact lkF_none.1 this x hx rfl
/-- What adding hands back. -/
def PutP (r : List Fct × Bool) (v : Value) (h : Heap) : Prop := ∃ s : Sl Fct, v = .tuple #[s.val, .bool r.2] ∧ s.xs = r.1 ∧ Fcts s h
/-- What adding hands back is the call's own. -/
def PutO (h0 : Heap) (r : List Fct × Bool) (v : Value) (h : Heap) : Prop := ∃ s : Sl Fct, v = .tuple #[s.val, .bool r.2] ∧ s.xs = r.1 ∧ Fcts s h ∧ OwnH 83 4 s Fct.enc h0 h
theorem PutO.put {h0 h : Heap} {r : List Fct × Bool} {v : Value} (x : PutO h0 r v h) : PutP r v h := by obtain ⟨s, a, b, c, _⟩ := x; exact ⟨s, a, b, c⟩
set_option maxHeartbeats 1000000 in
theorem Put_own (B : Base) (hB : B.ok) (l : Sl Prd) (hls : Prds l B.h) (f : Sl Fct) (hf : Fcts f B.h) (ok : FOk l.xs f.xs) (x : Fct) (hx : factFine l.xs x = true) : Fn Tryz.prog 132 [l.val, f.val, x.val] B (PutO B.h (addF (predOf l.xs x.pred).kind f.xs x)) := by
  have px := fine_pf ok.len hx
  have hiff := isF_iff (x := x) ok.srt
  have h01 := (fine_iff.1 hx).1
  have hk : x.pred.toNat < l.xs.length := by omega
  have E2 := hls.at hk
  have hpo : l.xs[x.pred.toNat] = predOf l.xs x.pred := (predOf_getE h01.1 h01.2).symm
  have hkd := fine_kind hx
  rw [← hpo] at hkd
  have h125 := ok.len125
  refine Fn.of Tryz.func132 rfl Tryz.ntmps132 (by kernel_rfl) (by simp) ?_
  intro e
  have I := Inv.start hB
  refine WP.seq ?_
  refine WP.region ?_
  refine Ops.go (O.box (v := .agg #[_, _, _, _]) I rfl rfl ?_)
  intro b5 w I
  refine Ops.y (v := .slice _ _ _) (Y.assign rfl) ?_
  refine Ops.y (v := .bool _) (Y.assign rfl) ?_
  refine Ops.nil ?_
  refine WP.seq ?_
  refine WP.region ?_
  refine Ops.y (v := .slice _ _ _) (Y.move rfl) ?_
  refine Ops.y (v := .agg #[_, _, _, _]) (Y.loadv ty_83 rfl (I.rdbox 0 rfl 0 4) rfl rfl) ?_
  refine Ops.go (O.callv I Tryz.call141 (Seek_ok _ I.base_ok f hf ok.pf ok.srt x px) rfl ?_)
  intro w I
  refine Ops.y (v := .tuple #[_, _]) (Y.move rfl) ?_
  refine Ops.y (v := .int .i64 _) (Y.extract rfl rfl) ?_
  refine Ops.y (v := .bool _) (Y.extract rfl rfl) ?_
  refine Ops.y (v := .int .i64 _) (Y.assign rfl) ?_
  refine Ops.y (v := .bool _) (Y.assign rfl) ?_
  refine Ops.nil ?_
  cases hi : isF f.xs x
  · refine WP.seq ?_
    refine WP.seq ?_
    refine WP.region ?_
    refine Ops.y (v := .bool _) (Y.move rfl) ?_
    refine Ops.y (v := .bool true) (Y.b (Y.not rfl) ((by first | rfl | (rw [hi]; rfl)))) ?_
    refine Ops.nil ?_
    refine WP.cond_t rfl ?_
    refine WP.seq ?_
    refine WP.regionF mixed I 5 (by kernel_rfl) ?_
    refine OpsF.y_ (v := .slice _ _ _) (fun _ => runs_none _) (fun _ w us hl I => Y.move rfl) ?_
    refine OpsF.x_ (Φ := CloneP f.xs B.h) CloneP.mono (fun _ => runs_none _) ?_ ?_
    · intro _ w hl I
      try unfold AllL
      refine O.call I Tryz.call137 (CloneFct_ok _ I.base_ok f (hf.le hl) (by omega)) rfl ?_
      rintro _ h2 w I hl' ⟨s, rfl, es, o, s0⟩
      exact ⟨_, hl', I, ⟨s, rfl, es, o.older hl, s0⟩⟩
    refine OpsF.y_ (v := .int .i64 _) (fun _ => runs_none _) (fun _ w us hl I => Y.move rfl) ?_
    refine OpsF.y_ (v := .agg #[_, _, _, _]) (fun _ => runs_none _) (fun _ w us hl I => Y.loadv ty_83 rfl (I.rdbox 0 rfl 0 4) rfl rfl) ?_
    refine OpsF.x_ (Φ := LitW 83 x.enc 1) LitW.mono (fun _ => runs_none _) ?_ ?_
    · intro _ w hl I u21 q21
      exact O.mklit (cs := x.enc) I Tryz.underlying31 Tryz.sizeOf83 Tryz.zeroValue83 (by decide) (by decide) rfl rfl (fun v h w I le sl => ⟨h, le, I, sl⟩)
    refine OpsF.nil ?_
    intro _ w hl I u21 q21 u24 q24
    obtain ⟨s, rfl, es, o, s0⟩ := q21 rfl
    obtain ⟨u, rfl, hu⟩ := q24 rfl
    have hne := lit_apart o s0 hu (by rw [es]; exact isF_mem hi)
    obtain ⟨h6, I, mono6, keep6⟩ := I.unsettle o (Heap.le.refl _)
    refine Ops.go (O.calls Tryz.call176 (Insert_ok I rfl (posF f.xs x) (by rw [es]; exact posF_le) x u ((keep6 u _ hu).resolve_right hne) (by rw [es]; omega)) rfl ?_)
    rintro ed w ⟨v7, h7, rfl, le7, I⟩
    refine ⟨_, rfl, ?_⟩
    have hB6 := I.ext
    obtain ⟨h8, s8, le8, rfl, hx8, o8, I⟩ := I.settleO (by have := posF_le (f := f.xs) (x := x); simp only [List.length_append, List.length_cons, List.length_take, List.length_drop, es]; omega)
    refine Ops.y (v := .slice _ _ _) (Y.assign rfl) ?_
    refine Ops.y (v := .bool _) (Y.assign rfl) ?_
    refine Ops.nil ?_
    refine WP.ret ?_
    repeat (first | refine thenE_ret ?_ | refine blockE_ret ?_)
    exact retQ.mk (vs := [.slice _ _ _, .bool _]) rfl ⟨rfl, rfl, trivial⟩ I.ext_of (by rw [addF_new ok.srt hi]; exact ⟨s8, rfl, by rw [hx8, es], ⟨o8.in (fun _ => rfl), by rw [hx8, es]; simp only [List.length_append, List.length_cons, List.length_take, List.length_drop]; omega⟩, o8.older hB6⟩)
  · obtain ⟨hlt, he⟩ := hiff.1 hi
    have E1 := hf.at hlt
    have ha := addF_old (k := (predOf l.xs x.pred).kind) ok.srt hlt he
    refine WP.seq ?_
    refine WP.seq ?_
    refine WP.region ?_
    refine Ops.y (v := .bool _) (Y.move rfl) ?_
    refine Ops.y (v := .bool false) (Y.b (Y.not rfl) ((by first | rfl | (rw [hi]; rfl)))) ?_
    refine Ops.nil ?_
    refine WP.cond_f rfl ?_
    refine WP.skip ?_
    refine WP.seq ?_
    refine WP.regionQ mixed I (by kernel_rfl) ?_
    refine OpsQ.y (v := .slice _ _ _) (fun w I => Y.move rfl) ?_
    refine OpsQ.y (v := .pointer (some ⟨_, _, none⟩)) (fun w I => Y.fa0 fa_83_0 rfl) ?_
    refine OpsQ.y (v := .int .i64 _) (fun w I => Y.loadv ty_3 rfl (I.rdbox 0 rfl 0 1) rfl rfl) ?_
    refine OpsQ.y (v := .pointer (some ⟨_, _, none⟩)) (fun w I => Y.idxEl E2 Tryz.underlying22 Tryz.sizeOf53 rfl rfl h01.1 rfl) ?_
    refine OpsQ.y (v := .pointer (some ⟨_, _, none⟩)) (fun w I => Y.fa fa_53_2 rfl) ?_
    refine OpsQ.y (v := .int .i64 _) (fun w I => Y.loadv ty_3 rfl (I.rd (E2.rd.part 2 1)) rfl rfl) ?_
    refine OpsQ.y (v := .slice _ _ _) (fun w I => Y.move rfl) ?_
    refine OpsQ.y (v := .int .i64 _) (fun w I => Y.move rfl) ?_
    refine OpsQ.y (v := .pointer (some ⟨_, _, none⟩)) (fun w I => Y.idxEl E1 Tryz.underlying31 Tryz.sizeOf83 rfl rfl (Int.natCast_nonneg _) rfl) ?_
    refine OpsQ.y (v := .pointer (some ⟨_, _, none⟩)) (fun w I => Y.fa fa_83_3 rfl) ?_
    refine OpsQ.y (v := .int .i64 _) (fun w I => Y.loadv ty_3 rfl (I.rd (E1.rd.part 3 1)) rfl rfl) ?_
    refine OpsQ.y (v := .pointer (some ⟨_, _, none⟩)) (fun w I => Y.fa fa_83_3 rfl) ?_
    refine OpsQ.y (v := .int .i64 _) (fun w I => Y.loadv ty_3 rfl (I.rdbox 0 rfl 3 1) rfl rfl) ?_
    refine OpsQ.c (fun w I => QC.callv I Tryz.call177 (Joined_ok _ I.base_ok _ _ _ hkd) rfl) ?_
    refine OpsQ.y (v := .int .i64 _) (fun w I => Y.assign rfl) ?_
    refine OpsQ.nil ?_
    intro w I
    refine WP.seq ?_
    refine WP.seq ?_
    refine WP.region ?_
    refine Ops.y (v := .int .i64 _) (Y.move rfl) ?_
    refine Ops.y (v := .slice _ _ _) (Y.move rfl) ?_
    refine Ops.y (v := .int .i64 _) (Y.move rfl) ?_
    refine Ops.y (v := .pointer (some ⟨_, _, none⟩)) (Y.idxEl E1 Tryz.underlying31 Tryz.sizeOf83 rfl rfl (Int.natCast_nonneg _) rfl) ?_
    refine Ops.y (v := .pointer (some ⟨_, _, none⟩)) (Y.fa fa_83_3 rfl) ?_
    refine Ops.y (v := .int .i64 _) (Y.loadv ty_3 rfl (I.rd (E1.rd.part 3 1)) rfl rfl) ?_
    refine Ops.y (v := .bool (decide _)) (Y.eqi rfl rfl) ?_
    refine Ops.nil ?_
    refine WP.cond_dec rfl (fun h5 => ?_) (fun h5 => ?_)
    · rw [hpo] at h5
      refine WP.seq ?_
      refine WP.region ?_
      refine Ops.y (v := .slice _ _ _) (Y.move rfl) ?_
      refine Ops.go (O.call I Tryz.call137 (CloneFct_ok _ I.base_ok f hf (by omega)) rfl ?_)
      rintro _ h2 w I le2 ⟨s, rfl, es, o, s0⟩
      refine Ops.y (v := .slice _ _ _) (Y.assign rfl) ?_
      refine Ops.y (v := .bool _) (Y.assign rfl) ?_
      refine Ops.nil ?_
      have hset : f.xs.set (posF f.xs x) ⟨f.xs[posF f.xs x].pred, f.xs[posF f.xs x].a, f.xs[posF f.xs x].b, joinV (predOf l.xs x.pred).kind f.xs[posF f.xs x].v x.v⟩ = f.xs := by rw [h5]; exact List.set_getElem_self _
      refine WP.ret ?_
      repeat (first | refine thenE_ret ?_ | refine blockE_ret ?_)
      exact retQ.mk (vs := [.slice _ _ _, .bool _]) rfl ⟨rfl, rfl, trivial⟩ I.ext_of (by rw [ha, hset]; exact ⟨s, by rw [decide_eq_false (fun h => h h5)]; rfl, es, ⟨o.in (fun _ => rfl), by rw [es]; omega⟩, o⟩)
    rw [hpo] at h5
    refine WP.skip ?_
    refine WP.seq ?_
    refine WP.region ?_
    refine Ops.y (v := .slice _ _ _) (Y.move rfl) ?_
    refine Ops.go (O.call I Tryz.call137 (CloneFct_ok _ I.base_ok f hf (by omega)) rfl ?_)
    rintro _ h2 w I le2 ⟨s, rfl, es, o, s0⟩
    refine Ops.y (v := .slice _ _ _) (Y.assign rfl) ?_
    refine Ops.nil ?_
    obtain ⟨a, c, ys⟩ := s
    dsimp only at es
    subst es
    have E3 := (o.in (fun _ => rfl)).el (List.getElem?_eq_getElem hlt)
    obtain ⟨g, rfl⟩ : ∃ g, a = some ⟨g, 0, none⟩ := by
      rcases o with o | ⟨g, cur, e1, _⟩
      · have := congrArg Sl.xs o; dsimp only at this; rw [this] at hlt; simp at hlt
      · exact ⟨g, e1⟩
    obtain ⟨h6, I, mono6, keep6⟩ := I.unsettle o (Heap.le.refl _)
    refine WP.seq ?_
    refine WP.region ?_
    refine Ops.y (v := .slice _ _ _) (Y.move rfl) ?_
    refine Ops.y (v := .int .i64 _) (Y.move rfl) ?_
    refine Ops.y (v := .int .i64 _) (Y.move rfl) ?_
    refine Ops.y (v := .pointer (some ⟨_, _, none⟩)) (Y.idxEl E3 Tryz.underlying31 Tryz.sizeOf83 rfl rfl (Int.natCast_nonneg _) rfl) ?_
    refine Ops.y (v := .pointer (some ⟨_, _, none⟩)) (Y.fa fa_83_3 rfl) ?_
    refine Ops.go (O.storeS (v := .int .i64 _) I ty_3 et_83 0 rfl rfl rfl rfl rfl (by rw [flat_len (enc := Fct.enc) (k := 4) (fun _ => rfl)]; simp only [Sl.off, Option.getD_some]; omega) ?_)
    intro w I
    refine Ops.nil ?_
    have I : Inv B h6 [ownSl 83 4 (.slice (some ⟨g, 0, none⟩) f.xs.length c) f.xs.length ((f.xs.set (posF f.xs x) ⟨f.xs[posF f.xs x].pred, f.xs[posF f.xs x].a, f.xs[posF f.xs x].b, joinV (predOf l.xs x.pred).kind f.xs[posF f.xs x].v x.v⟩).flatMap Fct.enc), box b5 x.enc 83] w := by
      rw [← flat_set, ← hpo]
      have J := I
      simp only [Sl.off, Option.getD_some, Nat.zero_add] at J
      exact J
    have hB6 := I.ext
    obtain ⟨h8, s8, le8, hv8, hx8, o8, I⟩ := I.settleO (by rw [List.length_set])
    refine WP.seq ?_
    refine WP.region ?_
    refine Ops.y (v := .slice _ _ _) (Y.move rfl) ?_
    refine Ops.y (v := .slice _ _ _) (Y.assign rfl) ?_
    refine Ops.y (v := .bool _) (Y.assign rfl) ?_
    refine Ops.nil ?_
    refine WP.ret ?_
    repeat (first | refine thenE_ret ?_ | refine blockE_ret ?_)
    exact retQ.mk (vs := [.slice _ _ _, .bool _]) rfl ⟨rfl, rfl, trivial⟩ I.ext_of (by rw [ha]; exact ⟨s8, by rw [hv8, decide_eq_true h5]; rfl, hx8, ⟨o8.in (fun _ => rfl), by rw [hx8, List.length_set]; omega⟩, o8.older hB6⟩)
structure AddS where
  k : Nat
  n : Nat
  a : Option Addr
  c : Nat
  acc : List Fct
  th : Bool
  ch : Bool
structure AddJ (B : Base) (b5 : Nat) (x : Fct) (kd : Int) (f : List Fct) (s : AddS) (w : World) : Prop where
  inv : ∃ h1, B.h.le h1 ∧ Inv B h1 [ownSl 83 4 (.slice s.a s.n s.c) s.n (s.acc.flatMap Fct.enc), box b5 x.enc 83] w
  n : s.n = s.acc.length
  k : s.k ≤ f.length
  le : s.n ≤ s.k + 1
  lo : s.th = false → s.acc = f.take s.k ∧ s.ch = false ∧ ∀ j, j < s.k → ∀ hj : j < f.length, placeF f[j] < placeF x
  hi : s.th = true → addF kd f x = (s.acc ++ f.drop s.k, s.ch) ∧ ∀ j, s.k ≤ j → ∀ hj : j < f.length, placeF x < placeF f[j]
end Go.TF
end
section
/- Package text: Facts: walked. -/
namespace Go.TF
open Go Go.RowKit Go.Proofs
set_option maxRecDepth 20000
set_option linter.unusedSimpArgs false


noncomputable def factsV (p : Prg) (f : List Fct) : Value := if askR p f = 0 then .tuple #[.string (mk (factsL p.preds.xs f)), .int .i64 0] else .tuple #[.string ⟨#[]⟩, .int .i64 (askR p f)]
theorem factL_len {p : Prg} (hp0 : checkProg p = 0) {x : Fct} (r : FctR p.preds.xs x) : (factL p.preds.xs x).length ≤ 21 := by
  have h1 := atom_len hp0 r.aok
  have dl := dg_len (n := x.v.toNat) (by have := r.v; omega)
  unfold factL
  split <;> simp only [List.length_append, List.length_cons, List.length_nil] <;> omega
theorem flat_fl {n : Nat} {α : Type} {g : α → Bs} : ∀ {L : List α}, (∀ x ∈ L, (g x).length ≤ n) → (L.flatMap g).length ≤ L.length * n
  | [], _ => by simp
  | x :: r, h => by
    have ih := flat_fl (L := r) fun y hy => h y (List.mem_cons_of_mem _ hy)
    have := h x (by simp)
    simp only [List.flatMap_cons, List.length_append, List.length_cons, Nat.add_mul, Nat.one_mul] at ih ⊢
    omega
set_option maxHeartbeats 4000000 in
theorem Facts_ok (B : Base) (hB : B.ok) (p : Prg) (hp : p.In B.h) (hnm : p.Nm) (f : Sl Fct) (hf : Fcts f B.h) : Fn Tryz.prog 19 [p.val, f.val] B (fun v _ => v = factsV p f.xs) := by
  refine Fn.of Tryz.func19 rfl Tryz.ntmps19 (by kernel_rfl) (by simp) ?_
  intro e
  have I := Inv.start hB
  refine WP.seq ?_
  refine WP.region ?_
  refine Ops.go (O.box (v := .agg #[_, _]) I rfl rfl ?_)
  intro b2 w I
  refine Ops.y (v := .string _) (Y.assign rfl) ?_
  refine Ops.y (v := .int .i64 _) (Y.assign rfl) ?_
  refine Ops.nil ?_
  refine WP.seq ?_
  refine WP.seq ?_
  refine WP.region ?_
  refine Ops.y (v := .agg #[_, _]) (Y.loadv ty_25 rfl (I.rdbox 0 rfl 0 2) rfl rfl) ?_
  refine Ops.go (O.callv I Tryz.call22 (PCheck_ok _ I.base_ok p hp hnm) rfl ?_)
  intro w I
  refine Ops.y (v := .int .i64 _) (Y.assign rfl) ?_
  refine Ops.nil ?_
  refine WP.seq ?_
  refine WP.region ?_
  refine Ops.y (v := .int .i64 _) (Y.move rfl) ?_
  refine Ops.y (v := .bool (decide _)) (Y.nei rfl rfl) ?_
  refine Ops.nil ?_
  refine WP.cond_dec rfl (fun h2 => ?_) (fun h2 => ?_)
  · have hq : askR p f.xs = checkProg p := by unfold askR; rw [if_pos h2]
    refine WP.seq ?_
    refine WP.region ?_
    refine Ops.y (v := .int .i64 _) (Y.move rfl) ?_
    refine Ops.y (v := .string _) (Y.assign rfl) ?_
    refine Ops.y (v := .int .i64 _) (Y.assign rfl) ?_
    refine Ops.nil ?_
    refine WP.ret ?_
    repeat (first | refine thenE_ret ?_ | refine blockE_ret ?_)
    exact retQ.mk (vs := [.string _, .int .i64 _]) rfl ⟨rfl, rfl, trivial⟩ I.ext_of (by simp only [tup]; unfold factsV; rw [hq, if_neg h2])
  have hp0 : checkProg p = 0 := Decidable.not_not.1 h2
  have hq : askR p f.xs = checkFacts p.preds.xs f.xs := by unfold askR; rw [if_neg h2]
  refine WP.skip ?_
  refine WP.seq ?_
  refine WP.seq ?_
  refine WP.region ?_
  refine Ops.y (v := .pointer (some ⟨_, _, none⟩)) (Y.fa0 fa_25_0 rfl) ?_
  refine Ops.y (v := .slice _ _ _) (Y.loadv ty_22 rfl (I.rdbox 0 rfl 0 1) rfl rfl) ?_
  refine Ops.y (v := .slice _ _ _) (Y.move rfl) ?_
  refine Ops.go (O.callv I Tryz.call50 (BCheck_ok _ I.base_ok p.preds hp.preds f hf) rfl ?_)
  intro w I
  refine Ops.y (v := .int .i64 _) (Y.assign rfl) ?_
  refine Ops.nil ?_
  refine WP.seq ?_
  refine WP.region ?_
  refine Ops.y (v := .int .i64 _) (Y.move rfl) ?_
  refine Ops.y (v := .bool (decide _)) (Y.nei rfl rfl) ?_
  refine Ops.nil ?_
  refine WP.cond_dec rfl (fun h21 => ?_) (fun h21 => ?_)
  · refine WP.seq ?_
    refine WP.region ?_
    refine Ops.y (v := .int .i64 _) (Y.move rfl) ?_
    refine Ops.y (v := .string _) (Y.assign rfl) ?_
    refine Ops.y (v := .int .i64 _) (Y.assign rfl) ?_
    refine Ops.nil ?_
    refine WP.ret ?_
    repeat (first | refine thenE_ret ?_ | refine blockE_ret ?_)
    exact retQ.mk (vs := [.string _, .int .i64 _]) rfl ⟨rfl, rfl, trivial⟩ I.ext_of (by simp only [tup]; unfold factsV; rw [hq, if_neg h21])
  have hf0 : checkFacts p.preds.xs f.xs = 0 := Decidable.not_not.1 h21
  have fo := checkFacts_ok.1 hf0
  have h125 := fo.len125
  refine WP.skip ?_
  refine WP.seq ?_
  refine WP.region ?_
  refine Ops.go (O.alloc I Tryz.zeroValue51 rfl ?_)
  intro b8 w I
  refine Ops.nil ?_
  have I := I.emptyRow 5 b8
  refine WP.seq ?_
  refine WP.seq ?_
  refine WP.region ?_
  refine Ops.y (v := .slice _ _ _) (Y.move rfl) ?_
  refine Ops.y (v := .int .i64 _) (Y.lens Tryz.underlying31 rfl) ?_
  refine Ops.y (v := .int .i64 _) (Y.move rfl) ?_
  refine Ops.nil ?_
  refine WP.block ?_
  refine WP.loopE (σ := Nat × Value × Option Addr × Nat × Nat × Heap) (fun z => [(2, .pointer (some ⟨b2, 0, none⟩)), (8, .pointer (some ⟨b8, 0, none⟩)), (23, f.val), (24, .int .i64 f.xs.length), (25, .int .i64 z.1)])
    (fun z w => z.1 ≤ f.xs.length ∧ bldP b8 z.2.1 ∧ B.h.le z.2.2.2.2.2 ∧ Inv B z.2.2.2.2.2 [bldR b8 (.slice z.2.2.1 z.2.2.2.1 z.2.2.2.2.1) (factsL p.preds.xs (f.xs.take z.1)), bldB b8 z.2.1 (.slice z.2.2.1 z.2.2.2.1 z.2.2.2.2.1), box b2 p.enc 25] w) (fun z => f.xs.length - z.1)
    ⟨(0, .pointer none, none, 0, 0, B.h), ⟨rfl, rfl, rfl, rfl, rfl, trivial⟩, Nat.zero_le _, .inl rfl, Heap.le.refl _, I⟩ ?_
  rintro ⟨k, pv, a, n, c, hh⟩ e w ⟨hk, hpv, gl, I⟩
  dsimp only at hk hpv gl I ⊢
  refine WP.seq ?_
  refine WP.region ?_
  refine Ops.y (v := .bool (decide _)) (Y.lti rfl rfl) ?_
  refine Ops.nil ?_
  refine WP.seq ?_
  refine WP.cond_dec rfl (fun h26 => ?_) (fun h26 => ?_)
  · have hk' : k < f.xs.length := by omega
    have E := Sl.Is.at (hf.le gl) hk'
    have fr := fctR fo (List.getElem_mem hk')
    have hlen := factL_len hp0 fr
    have hnl := name_len hp0 (predOf_mem fr.pred)
    have hnx : f.xs.take (k + 1) = f.xs.take k ++ [f.xs[k]] := by rw [List.take_add_one, List.getElem?_eq_getElem hk']; rfl
    have hsl : (factsL p.preds.xs (f.xs.take k)).length ≤ 2875 := by
      have h1 := flat_fl (n := 23) (L := f.xs.take k) (g := fun x => factL p.preds.xs x ++ [46, 10]) fun x hx => by
        have := factL_len hp0 (fctR fo (List.mem_of_mem_take hx))
        simp only [List.length_append, List.length_cons, List.length_nil]; omega
      have h3 : (f.xs.take k).length ≤ 125 := by rw [List.length_take]; omega
      have := Nat.mul_le_mul_right 23 h3
      unfold factsL
      omega
    obtain ⟨x, hx⟩ : ∃ x, f.xs[k] = x := ⟨_, rfl⟩
    rw [hx] at E fr hlen hnl hnx
    refine WP.skip ?_
    refine WP.seq ?_
    refine WP.block ?_
    refine WP.seq ?_
    refine WP.region ?_
    refine Ops.y (v := .pointer (some ⟨_, _, none⟩)) (Y.idxEl E Tryz.underlying31 Tryz.sizeOf83 rfl rfl (Int.natCast_nonneg _) rfl) ?_
    refine Ops.y (v := .agg #[_, _, _, _]) (Y.loadv ty_83 rfl (I.rd (E.rd.part 0 4)) rfl rfl) ?_
    refine Ops.go (O.alloc I Tryz.zeroValue83 rfl ?_)
    intro b10 w I
    refine Ops.go (O.store (v := .agg #[_, _, _, _]) I ty_83 0 rfl rfl rfl rfl rfl rfl (Nat.le_of_ble_eq_true rfl) rfl ?_)
    intro w I
    refine Ops.nil ?_
    refine WP.region ?_
    refine Ops.y (v := .pointer (some ⟨_, _, none⟩)) (Y.fa0 fa_25_0 rfl) ?_
    refine Ops.y (v := .slice _ _ _) (Y.loadv ty_22 rfl (I.rdbox 3 rfl 0 1) rfl rfl) ?_
    refine Ops.y (v := .agg #[_, _, _, _]) (Y.loadv ty_83 rfl (I.rdbox 0 rfl 0 4) rfl rfl) ?_
    refine Ops.go (O.callv I Tryz.call51 (Fact_ok _ I.base_ok p.preds (hp.preds.le gl) x fr hnl) rfl ?_)
    intro w I
    refine Ops.y (v := .string _) (Y.adds rfl rfl (by rw [mk_size]; show _ + 2 ≤ _; omega)) ?_
    refine Ops.go (O.calls Tryz.call23 (WriteS_is I 2 1 (by decide) rfl rfl hpv (t := factL p.preds.xs x ++ [46, 10]) (by simp only [tx_mk, tx_app, txl, List.append_assoc, Int.toNat_natCast, List.cons_append, List.nil_append]) (by rw [List.length_append]; simp only [List.length_cons, List.length_nil]; omega)) rfl ?_)
    rintro ed w ⟨rfl, a', k', c', I⟩
    refine ⟨_, rfl, ?_⟩
    refine Ops.nil ?_
    refine WP.region ?_
    refine Ops.y (v := .int .i64 _) (Y.addi rfl rfl ⟨by omega, by omega⟩) ?_
    refine Ops.y (v := .int .i64 _) (Y.move rfl) ?_
    refine Ops.nil ?_
    refine ⟨(k + 1, .pointer (some ⟨b8, 0, none⟩), a', k', c', hh), ⟨⟨rfl, rfl, rfl, rfl, rfl, trivial⟩, by dsimp only; omega, .inr rfl, gl, ?_⟩, by dsimp only; omega⟩
    dsimp only
    unfold factsL at I ⊢
    rw [hnx, List.flatMap_append, List.flatMap_singleton]
    exact I.drop
  obtain rfl : k = f.xs.length := by omega
  rw [List.take_length] at I
  refine WP.exit ?_
  refine WP.seq ?_
  refine WP.region ?_
  refine Ops.go (O.calls Tryz.call27 (BString_v I hB 1 0 rfl rfl hpv) rfl ?_)
  rintro ed w ⟨rfl, I⟩
  refine ⟨_, rfl, ?_⟩
  refine Ops.y (v := .string _) (Y.assign rfl) ?_
  refine Ops.y (v := .int .i64 _) (Y.assign rfl) ?_
  refine Ops.nil ?_
  refine WP.ret ?_
  repeat (first | refine thenE_ret ?_ | refine blockE_ret ?_)
  exact retQ.mk (vs := [.string _, .int .i64 _]) rfl ⟨rfl, rfl, trivial⟩ I.ext_of (by simp only [tup]; unfold factsV; rw [hq, if_pos hf0])
end Go.TF
end
section
/- Terms, predicates: are they the same? -/
namespace Go.TF
open Go
instance : DecidableEq Trm := fun a b => decidable_of_iff (a.var = b.var ∧ a.n = b.n) (by cases a; cases b; simp)
instance : DecidableEq Prd := fun a b => decidable_of_iff (a.name = b.name ∧ a.arity = b.arity ∧ a.kind = b.kind) (by cases a; cases b; simp)
end Go.TF
end
