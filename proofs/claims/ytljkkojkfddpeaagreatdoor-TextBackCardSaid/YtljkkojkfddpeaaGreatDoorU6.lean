/- Texts Rule Rule2 Rule3 Prog5 Prog6 Txp5 Txp6 Txq1 SpRoads Txq2. -/
import Derived.Test.YtljkkojkfddpeaaGreatDoorU5
import Derived.Test.YtljkkojkfddpeaaGreatDoorU4
import Derived.Test.YtljkkojkfddpeaaGreatDoorU3
import Derived.KernelRfl
section
/- The contracts of package rule and of the references beside it. -/
namespace Go.TF
open Go Go.RowKit Go.Proofs
set_option maxRecDepth 10000

theorem term_ok (B : Base) (hB : B.ok) (t : Trm) : Fn Tryz.prog 201 [t.val] B (fun v _ => v = .bool (termOk t)) := by
  refine Fn.of Tryz.func201 rfl Tryz.ntmps201 (by kernel_rfl) (by simp) ?_
  intro e
  have I := Inv.start hB
  refine WP.seq ?_
  refine WP.region ?_
  refine Ops.go (O.box (v := .agg #[_, _]) I rfl rfl ?_)
  intro b1 w I
  refine Ops.y (v := .bool _) (Y.assign rfl) ?_
  refine Ops.nil ?_
  refine WP.seq ?_
  refine WP.seq ?_
  refine WP.region ?_
  refine Ops.y (v := .pointer (some ⟨_, _, none⟩)) (Y.fa0 fa_109_0 rfl) ?_
  refine Ops.y (v := .bool _) (Y.loadv ty_4 rfl (I.rdbox 0 rfl 0 1) rfl rfl) ?_
  refine Ops.nil ?_
  by_cases h1 : 0 ≤ t.n
  · refine WP.cond rfl (fun hv => ?_) (fun hv => ?_)
    · refine WP.seq ?_
      refine WP.region ?_
      refine Ops.y (v := .pointer (some ⟨_, _, none⟩)) (Y.fa fa_109_1 rfl) ?_
      refine Ops.y (v := .int .i64 _) (Y.loadv ty_3 rfl (I.rdbox 0 rfl 1 1) rfl rfl) ?_
      refine Ops.y (v := .bool true) (Y.dec_t (Y.gei rfl rfl) (h1)) ?_
      refine Ops.y (v := .bool _) (Y.move rfl) ?_
      refine Ops.ygt rfl (v := .pointer (some ⟨_, _, none⟩)) (Y.fa fa_109_1 rfl) ?_
      refine Ops.ygt rfl (v := .int .i64 _) (Y.loadv ty_3 rfl (I.rdbox 0 rfl 1 1) rfl rfl) ?_
      refine Ops.ygt rfl (v := .bool (decide _)) (Y.lti rfl rfl) ?_
      refine Ops.y (v := .bool _) (Y.pick_t rfl rfl) ?_
      refine Ops.y (v := .bool _) (Y.assign rfl) ?_
      refine Ops.nil ?_
      refine WP.ret ?_
      repeat (first | refine thenE_ret ?_ | refine blockE_ret ?_)
      exact retQ.mk (vs := [.bool _]) rfl ⟨rfl, trivial⟩ I.ext_of (by simp [tup, termOk, hv, h1])
    refine WP.skip ?_
    refine WP.seq ?_
    refine WP.region ?_
    refine Ops.y (v := .pointer (some ⟨_, _, none⟩)) (Y.fa fa_109_1 rfl) ?_
    refine Ops.y (v := .int .i64 _) (Y.loadv ty_3 rfl (I.rdbox 0 rfl 1 1) rfl rfl) ?_
    refine Ops.y (v := .bool true) (Y.dec_t (Y.gei rfl rfl) (h1)) ?_
    refine Ops.y (v := .bool _) (Y.move rfl) ?_
    refine Ops.ygt rfl (v := .pointer (some ⟨_, _, none⟩)) (Y.fa fa_109_1 rfl) ?_
    refine Ops.ygt rfl (v := .int .i64 _) (Y.loadv ty_3 rfl (I.rdbox 0 rfl 1 1) rfl rfl) ?_
    refine Ops.ygt rfl (v := .bool (decide _)) (Y.lei rfl rfl) ?_
    refine Ops.y (v := .bool _) (Y.pick_t rfl rfl) ?_
    refine Ops.y (v := .bool _) (Y.assign rfl) ?_
    refine Ops.nil ?_
    refine WP.ret ?_
    repeat (first | refine thenE_ret ?_ | refine blockE_ret ?_)
    exact retQ.mk (vs := [.bool _]) rfl ⟨rfl, trivial⟩ I.ext_of (by simp [tup, termOk, hv, h1])
  · refine WP.cond rfl (fun hv => ?_) (fun hv => ?_)
    · refine WP.seq ?_
      refine WP.region ?_
      refine Ops.y (v := .pointer (some ⟨_, _, none⟩)) (Y.fa fa_109_1 rfl) ?_
      refine Ops.y (v := .int .i64 _) (Y.loadv ty_3 rfl (I.rdbox 0 rfl 1 1) rfl rfl) ?_
      refine Ops.y (v := .bool false) (Y.dec_f (Y.gei rfl rfl) (h1)) ?_
      refine Ops.y (v := .bool _) (Y.move rfl) ?_
      refine Ops.gf rfl ?_
      refine Ops.gf rfl ?_
      refine Ops.gf rfl ?_
      refine Ops.y (v := .bool _) (Y.pick_f rfl rfl) ?_
      refine Ops.y (v := .bool _) (Y.assign rfl) ?_
      refine Ops.nil ?_
      refine WP.ret ?_
      repeat (first | refine thenE_ret ?_ | refine blockE_ret ?_)
      exact retQ.mk (vs := [.bool _]) rfl ⟨rfl, trivial⟩ I.ext_of (by simp [tup, termOk, hv, h1])
    refine WP.skip ?_
    refine WP.seq ?_
    refine WP.region ?_
    refine Ops.y (v := .pointer (some ⟨_, _, none⟩)) (Y.fa fa_109_1 rfl) ?_
    refine Ops.y (v := .int .i64 _) (Y.loadv ty_3 rfl (I.rdbox 0 rfl 1 1) rfl rfl) ?_
    refine Ops.y (v := .bool false) (Y.dec_f (Y.gei rfl rfl) (h1)) ?_
    refine Ops.y (v := .bool _) (Y.move rfl) ?_
    refine Ops.gf rfl ?_
    refine Ops.gf rfl ?_
    refine Ops.gf rfl ?_
    refine Ops.y (v := .bool _) (Y.pick_f rfl rfl) ?_
    refine Ops.y (v := .bool _) (Y.assign rfl) ?_
    refine Ops.nil ?_
    refine WP.ret ?_
    repeat (first | refine thenE_ret ?_ | refine blockE_ret ?_)
    exact retQ.mk (vs := [.bool _]) rfl ⟨rfl, trivial⟩ I.ext_of (by simp [tup, termOk, hv, h1])
theorem args1_ok (B : Base) (hB : B.ok) (t : Trm) : Fn Tryz.prog 200 [t.val] B (fun v _ => v = .bool !(termOk t)) := by
  refine Fn.of Tryz.func200 rfl Tryz.ntmps200 (by kernel_rfl) (by simp) ?_
  intro e
  have I := Inv.start hB
  refine WP.seq ?_
  refine WP.region ?_
  refine Ops.go (O.box (v := .agg #[_, _]) I rfl rfl ?_)
  intro b1 w I
  refine Ops.y (v := .bool _) (Y.assign rfl) ?_
  refine Ops.nil ?_
  refine WP.seq ?_
  refine WP.region ?_
  refine Ops.y (v := .agg #[_, _]) (Y.loadv ty_109 rfl (I.rdbox 0 rfl 0 2) rfl rfl) ?_
  refine Ops.go (O.callv I Tryz.call201 (term_ok _ I.base_ok t) rfl ?_)
  intro w I
  refine Ops.y (v := .bool _) (Y.not rfl) ?_
  refine Ops.y (v := .bool _) (Y.assign rfl) ?_
  refine Ops.nil ?_
  refine WP.ret ?_
  repeat (first | refine thenE_ret ?_ | refine blockE_ret ?_)
  exact retQ.mk (vs := [.bool _]) rfl ⟨rfl, trivial⟩ I.ext_of (rfl)
theorem args_ok (B : Base) (hB : B.ok) (l : Sl Trm) (hl : Trms l B.h) : Fn Tryz.prog 161 [l.val] B (fun v _ => v = .int .i64 (argsErr l.xs)) := by
  refine Fn.of Tryz.func161 rfl Tryz.ntmps161 (by kernel_rfl) (by simp) ?_
  intro e
  have I := Inv.start hB
  refine WP.seq ?_
  refine WP.region ?_
  refine Ops.y (v := .int .i64 _) (Y.assign rfl) ?_
  refine Ops.nil ?_
  refine WP.seq ?_
  refine WP.seq ?_
  refine WP.region ?_
  refine Ops.y (v := .slice _ _ _) (Y.move rfl) ?_
  refine Ops.go (O.callv I Tryz.call199 (ContainsFuncTrm_ok _ I.base_ok l hl 200 Tryz.call200 [] [] (fun t => !termOk t) (fun B' hB' _ t _ => args1_ok B' hB' t)) rfl ?_)
  intro w I
  refine Ops.nil ?_
  refine WP.cond rfl (fun h => ?_) (fun h => ?_)
  · refine WP.seq ?_
    refine WP.region ?_
    refine Ops.y (v := .int .i64 _) (Y.assign rfl) ?_
    refine Ops.nil ?_
    refine WP.ret ?_
    repeat (first | refine thenE_ret ?_ | refine blockE_ret ?_)
    exact retQ.mk (vs := [.int .i64 _]) rfl ⟨rfl, trivial⟩ I.ext_of (by simp only [tup, argsErr]; rw [if_neg]; intro h2; simp only [List.any_eq_true, List.all_eq_true] at h h2; obtain ⟨x, hx, h3⟩ := h; simp [h2 x hx] at h3)
  refine WP.skip ?_
  refine WP.seq ?_
  refine WP.region ?_
  refine Ops.y (v := .int .i64 _) (Y.assign rfl) ?_
  refine Ops.nil ?_
  refine WP.ret ?_
  repeat (first | refine thenE_ret ?_ | refine blockE_ret ?_)
  exact retQ.mk (vs := [.int .i64 _]) rfl ⟨rfl, trivial⟩ I.ext_of (by simp only [tup, argsErr]; rw [if_pos]; simp only [List.any_eq_false, List.all_eq_true] at h ⊢; intro x hx; simpa using h x hx)
theorem Atom_ok (B : Base) (hB : B.ok) (l : Sl Prd) (hl : Prds l B.h) (a : Atm) (ha : a.In B.h) : Fn Tryz.prog 117 [l.val, a.val] B (fun v _ => v = .int .i64 (checkAtom l.xs a)) := by
  refine Fn.of Tryz.func117 rfl Tryz.ntmps117 (by kernel_rfl) (by simp) ?_
  intro e
  have I := Inv.start hB
  refine WP.seq ?_
  refine WP.region ?_
  refine Ops.go (O.box (v := .agg #[_, _]) I rfl rfl ?_)
  intro b3 w I
  refine Ops.y (v := .int .i64 _) (Y.assign rfl) ?_
  refine Ops.nil ?_
  have hsm := hl.small
  by_cases h1 : a.pred < 0
  · refine WP.seq ?_
    refine WP.seq ?_
    refine WP.region ?_
    refine Ops.y (v := .pointer (some ⟨_, _, none⟩)) (Y.fa0 fa_61_0 rfl) ?_
    refine Ops.y (v := .int .i64 _) (Y.loadv ty_3 rfl (I.rdbox 0 rfl 0 1) rfl rfl) ?_
    refine Ops.y (v := .bool true) (Y.dec_t (Y.lti rfl rfl) (h1)) ?_
    refine Ops.y (v := .bool _) (Y.move rfl) ?_
    refine Ops.gf rfl ?_
    refine Ops.gf rfl ?_
    refine Ops.gf rfl ?_
    refine Ops.gf rfl ?_
    refine Ops.gf rfl ?_
    refine Ops.y (v := .bool _) (Y.pick_t rfl rfl) ?_
    refine Ops.nil ?_
    refine WP.cond_t rfl ?_
    refine WP.seq ?_
    refine WP.region ?_
    refine Ops.y (v := .int .i64 _) (Y.assign rfl) ?_
    refine Ops.nil ?_
    refine WP.ret ?_
    repeat (first | refine thenE_ret ?_ | refine blockE_ret ?_)
    exact retQ.mk (vs := [.int .i64 _]) rfl ⟨rfl, trivial⟩ I.ext_of (by simp [tup, checkAtom, h1])
  refine WP.seq ?_
  refine WP.seq ?_
  refine WP.region ?_
  refine Ops.y (v := .pointer (some ⟨_, _, none⟩)) (Y.fa0 fa_61_0 rfl) ?_
  refine Ops.y (v := .int .i64 _) (Y.loadv ty_3 rfl (I.rdbox 0 rfl 0 1) rfl rfl) ?_
  refine Ops.y (v := .bool false) (Y.dec_f (Y.lti rfl rfl) (h1)) ?_
  refine Ops.y (v := .bool _) (Y.move rfl) ?_
  refine Ops.ygt rfl (v := .pointer (some ⟨_, _, none⟩)) (Y.fa0 fa_61_0 rfl) ?_
  refine Ops.ygt rfl (v := .int .i64 _) (Y.loadv ty_3 rfl (I.rdbox 0 rfl 0 1) rfl rfl) ?_
  refine Ops.ygt rfl (v := .slice _ _ _) (Y.move rfl) ?_
  refine Ops.ygt rfl (v := .int .i64 _) (Y.lens Tryz.underlying22 rfl) ?_
  refine Ops.ygt rfl (v := .bool (decide _)) (Y.gei rfl rfl) ?_
  refine Ops.y (v := .bool _) (Y.pick_f rfl rfl) ?_
  refine Ops.nil ?_
  refine WP.cond_dec rfl (fun h2 => ?_) (fun h2 => ?_)
  · refine WP.seq ?_
    refine WP.region ?_
    refine Ops.y (v := .int .i64 _) (Y.assign rfl) ?_
    refine Ops.nil ?_
    refine WP.ret ?_
    repeat (first | refine thenE_ret ?_ | refine blockE_ret ?_)
    exact retQ.mk (vs := [.int .i64 _]) rfl ⟨rfl, trivial⟩ I.ext_of (by simp [tup, checkAtom, h2])
  have hp : 0 ≤ a.pred := by omega
  have E1 := hl.at (i := a.pred.toNat) (by omega)
  have hE : predOf l.xs a.pred = l.xs[a.pred.toNat]'(by omega) := by have := predOf_get hp (by omega : a.pred < l.xs.length); rw [List.getElem?_eq_getElem (by omega)] at this; exact (Option.some.inj this).symm
  refine WP.skip ?_
  refine WP.seq ?_
  refine WP.seq ?_
  refine WP.regionQ mixed I (by kernel_rfl) ?_
  refine OpsQ.y (v := .pointer (some ⟨_, _, none⟩)) (fun w I => Y.fa fa_61_1 rfl) ?_
  refine OpsQ.y (v := .slice _ _ _) (fun w I => Y.loadv ty_59 rfl (I.rdbox 0 rfl 1 1) rfl rfl) ?_
  refine OpsQ.y (v := .int .i64 _) (fun w I => Y.lens Tryz.underlying59 rfl) ?_
  refine OpsQ.y (v := .slice _ _ _) (fun w I => Y.move rfl) ?_
  refine OpsQ.y (v := .pointer (some ⟨_, _, none⟩)) (fun w I => Y.fa0 fa_61_0 rfl) ?_
  refine OpsQ.y (v := .int .i64 _) (fun w I => Y.loadv ty_3 rfl (I.rdbox 0 rfl 0 1) rfl rfl) ?_
  refine OpsQ.y (v := .pointer (some ⟨_, _, none⟩)) (fun w I => Y.idxEl E1 Tryz.underlying22 Tryz.sizeOf53 rfl rfl hp rfl) ?_
  refine OpsQ.y (v := .pointer (some ⟨_, _, none⟩)) (fun w I => Y.fa fa_53_1 rfl) ?_
  refine OpsQ.y (v := .int .i64 _) (fun w I => Y.loadv ty_3 rfl (I.rd (E1.rd.part 1 1)) rfl rfl) ?_
  refine OpsQ.y (v := .bool (decide _)) (fun w I => Y.nei rfl rfl) ?_
  refine OpsQ.nil ?_
  intro w I
  refine WP.cond_dec rfl (fun h3 => ?_) (fun h3 => ?_)
  · refine WP.seq ?_
    refine WP.region ?_
    refine Ops.y (v := .int .i64 _) (Y.assign rfl) ?_
    refine Ops.nil ?_
    refine WP.ret ?_
    repeat (first | refine thenE_ret ?_ | refine blockE_ret ?_)
    exact retQ.mk (vs := [.int .i64 _]) rfl ⟨rfl, trivial⟩ I.ext_of (by simp only [tup, checkAtom, hE]; rw [if_neg (by omega), if_pos h3])
  refine WP.skip ?_
  refine WP.seq ?_
  refine WP.region ?_
  refine Ops.y (v := .pointer (some ⟨_, _, none⟩)) (Y.fa fa_61_1 rfl) ?_
  refine Ops.y (v := .slice _ _ _) (Y.loadv ty_59 rfl (I.rdbox 0 rfl 1 1) rfl rfl) ?_
  refine Ops.go (O.callv I Tryz.call161 (args_ok _ I.base_ok a.args ha) rfl ?_)
  intro w I
  refine Ops.y (v := .int .i64 _) (Y.assign rfl) ?_
  refine Ops.nil ?_
  refine WP.ret ?_
  repeat (first | refine thenE_ret ?_ | refine blockE_ret ?_)
  exact retQ.mk (vs := [.int .i64 _]) rfl ⟨rfl, trivial⟩ I.ext_of (by simp only [tup, checkAtom, hE]; rw [if_neg (by omega), if_neg h3])
end Go.TF
end
section
/- The contracts of package rule, on: Vars, Atoms. -/
namespace Go.TF
open Go Go.RowKit Go.Proofs
set_option maxRecDepth 10000

theorem Vars_ok (B : Base) (hB : B.ok) (l : Sl Atm) (hl : l.Is 2 Atm.enc B.h) (he : ∀ a ∈ l.xs, a.In B.h) (hn : l.xs.length ≤ 4) :
    FnM Tryz.prog 119 [l.val] B (fun v _ M => ∃ b es, v = .map (some b) ∧ M = [imap b es] ∧ CountOf es (cntA l.xs)) := by
  refine FnM.of Tryz.func119 rfl Tryz.ntmps119 (by kernel_rfl) (by simp) ?_
  intro e
  have I := Inv.start hB
  refine WP.seq ?_
  refine WP.region ?_
  refine Ops.y (v := .map _) (Y.assign rfl) ?_
  refine Ops.nil ?_
  refine WP.seq ?_
  refine WP.region ?_
  refine Ops.go (O.mkmap I ?_)
  intro b8 w I
  refine Ops.y (v := .map _) (Y.assign rfl) ?_
  refine Ops.nil ?_
  refine WP.seq ?_
  refine WP.seq ?_
  refine WP.region ?_
  refine Ops.y (v := .slice _ _ _) (Y.move rfl) ?_
  refine Ops.y (v := .int .i64 _) (Y.lens Tryz.underlying154 rfl) ?_
  refine Ops.y (v := .int .i64 _) (Y.move rfl) ?_
  refine Ops.nil ?_
  refine WP.block ?_
  refine WP.loopE (σ := Nat × List (Int × Int)) (fun s => [(3, .map (some b8)), (9, l.val), (10, .int .i64 l.xs.length), (11, .int .i64 s.1)]) (fun s w => Inv B B.h [imap b8 s.2] w ∧ s.1 ≤ l.xs.length ∧ CountOf s.2 (cntA (l.xs.take s.1))) (fun s => l.xs.length - s.1)
    ⟨(0, []), ⟨rfl, rfl, rfl, rfl, trivial⟩, I, Nat.zero_le _, CountOf.nil⟩ ?_
  rintro ⟨k, es⟩ e w ⟨I, hk, hc⟩
  dsimp only at I hk hc ⊢
  refine WP.seq ?_
  refine WP.region ?_
  refine Ops.y (v := .bool (decide _)) (Y.lti rfl rfl) ?_
  refine Ops.nil ?_
  refine WP.seq ?_
  refine WP.cond_dec rfl (fun h => ?_) (fun h => ?_)
  · have hk' : k < l.xs.length := by omega
    have E1 := hl.at hk'
    have ha := he _ (List.getElem_mem hk')
    have hsm : l.xs[k].args.xs.length ≤ 140737488355328 := Sl.Is.small ha
    refine WP.skip ?_
    refine WP.seq ?_
    refine WP.block ?_
    refine WP.seq ?_
    refine WP.region ?_
    refine Ops.y (v := .pointer (some ⟨_, _, none⟩)) (Y.idxEl E1 Tryz.underlying154 Tryz.sizeOf61 rfl rfl (Int.natCast_nonneg _) rfl) ?_
    refine Ops.y (v := .agg #[_, _]) (Y.loadv ty_61 rfl (I.rd (E1.rd.part 0 2)) rfl rfl) ?_
    refine Ops.go (O.alloc I Tryz.zeroValue61 rfl ?_)
    intro b5 w I
    refine Ops.go (O.store (v := .agg #[_, _]) I ty_61 0 rfl rfl rfl rfl rfl rfl (Nat.le_of_ble_eq_true rfl) rfl ?_)
    intro w I
    refine Ops.nil ?_
    refine WP.seq ?_
    refine WP.region ?_
    refine Ops.y (v := .pointer (some ⟨_, _, none⟩)) (Y.fa fa_61_1 rfl) ?_
    refine Ops.y (v := .slice _ _ _) (Y.loadv ty_59 rfl (I.rdbox 0 rfl 1 1) rfl rfl) ?_
    refine Ops.y (v := .int .i64 _) (Y.lens Tryz.underlying59 rfl) ?_
    refine Ops.y (v := .int .i64 _) (Y.move rfl) ?_
    refine Ops.nil ?_
    refine WP.block ?_
    refine WP.loopE (σ := Nat × List (Int × Int)) (fun s => [(3, .map (some b8)), (9, l.val), (10, .int .i64 l.xs.length), (11, .int .i64 k), (16, l.xs[k].args.val), (17, .int .i64 l.xs[k].args.xs.length), (18, .int .i64 s.1)]) (fun s w => Inv B B.h [imap b8 s.2] w ∧ s.1 ≤ l.xs[k].args.xs.length ∧ CountOf s.2 (fun v => cntA (l.xs.take k) v + cntT (l.xs[k].args.xs.take s.1) v)) (fun s => l.xs[k].args.xs.length - s.1)
      ⟨(0, es), ⟨rfl, rfl, rfl, rfl, rfl, rfl, rfl, trivial⟩, I.drop, Nat.zero_le _, hc⟩ ?_
    rintro ⟨j, es⟩ e w ⟨I, hj, hc⟩
    dsimp only at I hj hc ⊢
    refine WP.seq ?_
    refine WP.region ?_
    refine Ops.y (v := .bool (decide _)) (Y.lti rfl rfl) ?_
    refine Ops.nil ?_
    refine WP.seq ?_
    refine WP.cond_dec rfl (fun h2 => ?_) (fun h2 => ?_)
    · have hj' : j < l.xs[k].args.xs.length := by omega
      have E2 := Sl.Is.at ha hj'
      have hcg := hc.get l.xs[k].args.xs[j].n
      have hb1 := cntA_le (l := l.xs.take k) (m := 140737488355328) (fun a hm => Sl.Is.small (he a (List.mem_of_mem_take hm))) l.xs[k].args.xs[j].n
      have hb2 := cntT_le (l.xs[k].args.xs.take j) l.xs[k].args.xs[j].n
      simp only [List.length_take] at hb1 hb2
      have hb3 : min k l.xs.length * 140737488355328 ≤ 4 * 140737488355328 := Nat.mul_le_mul_right _ (by omega)
      refine WP.skip ?_
      refine WP.seq ?_
      refine WP.block ?_
      refine WP.seq ?_
      refine WP.region ?_
      refine Ops.y (v := .pointer (some ⟨_, _, none⟩)) (Y.idxEl E2 Tryz.underlying59 Tryz.sizeOf109 rfl rfl (Int.natCast_nonneg _) rfl) ?_
      refine Ops.y (v := .agg #[_, _]) (Y.loadv ty_109 rfl (I.rd (E2.rd.part 0 2)) rfl rfl) ?_
      refine Ops.go (O.alloc I Tryz.zeroValue109 rfl ?_)
      intro b7 w I
      refine Ops.go (O.store (v := .agg #[_, _]) I ty_109 0 rfl rfl rfl rfl rfl rfl (Nat.le_of_ble_eq_true rfl) rfl ?_)
      intro w I
      refine Ops.nil ?_
      refine WP.seq ?_
      refine WP.region ?_
      refine Ops.y (v := .pointer (some ⟨_, _, none⟩)) (Y.fa0 fa_109_0 rfl) ?_
      refine Ops.y (v := .bool _) (Y.loadv ty_4 rfl (I.rdbox 0 rfl 0 1) rfl rfl) ?_
      refine Ops.nil ?_
      refine WP.cutL (σ := List (Int × Int)) (fun _ => [(3, .map (some b8)), (9, l.val), (10, .int .i64 l.xs.length), (11, .int .i64 k), (16, l.xs[k].args.val), (17, .int .i64 l.xs[k].args.xs.length), (18, .int .i64 j)]) (fun es w => Inv B B.h [imap b8 es] w ∧ CountOf es (fun v => cntA (l.xs.take k) v + cntT (l.xs[k].args.xs.take (j + 1)) v)) ?_ ?_
      · refine WP.cond rfl (fun hv => ?_) (fun hv => ?_)
        · refine WP.region ?_
          refine Ops.y (v := .map _) (Y.move rfl) ?_
          refine Ops.y (v := .pointer (some ⟨_, _, none⟩)) (Y.fa fa_109_1 rfl) ?_
          refine Ops.y (v := .int .i64 _) (Y.loadv ty_3 rfl (I.rdbox 0 rfl 1 1) rfl rfl) ?_
          refine Ops.y (v := .int .i64 _) (Y.lookup I Tryz.underlying157 Tryz.underlying3 Tryz.zeroValue3 1 rfl rfl rfl) ?_
          refine Ops.y (v := .int .i64 _) (Y.addi rfl rfl ⟨by omega, by omega⟩) ?_
          refine Ops.go (O.mapset I Tryz.underlying157 Tryz.underlying3 1 rfl rfl rfl rfl ?_)
          intro w I
          refine Ops.nil ?_
          exact ⟨_, ⟨rfl, rfl, rfl, rfl, rfl, rfl, rfl, trivial⟩, I.drop, hc.put _ fun v => by rw [cntT_take hj']; simp only [hv, true_and]; by_cases e : v = l.xs[k].args.xs[j].n <;> simp [e, Ne.symm] <;> omega⟩
        refine WP.skip ?_
        exact ⟨es, ⟨rfl, rfl, rfl, rfl, rfl, rfl, rfl, trivial⟩, I.drop, hc.same fun v => by rw [cntT_take hj']; simp [hv]⟩
      rintro es e w ⟨I, hc⟩
      refine WP.region ?_
      refine Ops.y (v := .int .i64 _) (Y.addi rfl rfl ⟨by omega, by omega⟩) ?_
      refine Ops.y (v := .int .i64 _) (Y.move rfl) ?_
      refine Ops.nil ?_
      exact ⟨(j + 1, es), ⟨⟨rfl, rfl, rfl, rfl, rfl, rfl, rfl, trivial⟩, I, by dsimp only; omega, hc⟩, by dsimp only; omega⟩
    refine WP.exit ?_
    refine WP.region ?_
    refine Ops.y (v := .int .i64 _) (Y.addi rfl rfl ⟨by omega, by omega⟩) ?_
    refine Ops.y (v := .int .i64 _) (Y.move rfl) ?_
    refine Ops.nil ?_
    have hj0 : j = l.xs[k].args.xs.length := by omega
    exact ⟨(k + 1, es), ⟨⟨rfl, rfl, rfl, rfl, trivial⟩, I, by dsimp only; omega, fun v => by rw [cntA_take hk']; have := hc v; rw [hj0, List.take_length] at this; exact this⟩, by dsimp only; omega⟩
  refine WP.exit ?_
  refine WP.seq ?_
  refine WP.region ?_
  refine Ops.y (v := .map _) (Y.move rfl) ?_
  refine Ops.y (v := .map _) (Y.assign rfl) ?_
  refine Ops.nil ?_
  have hk0 : k = l.xs.length := by omega
  refine WP.ret ?_
  repeat (first | refine thenE_ret ?_ | refine blockE_ret ?_)
  exact retM.mk (vs := [_]) rfl ⟨rfl, trivial⟩ (I) (⟨b8, es, rfl, rfl, by rw [hk0, List.take_length] at hc; exact hc⟩)
/-- What Atoms hands on. -/
def AtomsR (b : Sl Ltl) (v : Value) (_ : Heap) (M : List SA) : Prop := ∃ u1 u2, v = .tuple #[u1, u2] ∧ M = [ownSl 61 2 u1 (negs b.xs).length ((negs b.xs).flatMap Atm.enc), ownSl 61 2 u2 (poss b.xs).length ((poss b.xs).flatMap Atm.enc)]
theorem Atoms_ok (B : Base) (hB : B.ok) (r : Rul) (hr : Ltls r.body B.h) (hn : r.body.xs.length ≤ 3) : FnM Tryz.prog 118 [r.val] B (AtomsR r.body) := by
  refine FnM.of Tryz.func118 rfl Tryz.ntmps118 (by kernel_rfl) (by simp) ?_
  intro e
  have I := Inv.start hB
  refine WP.seq ?_
  refine WP.region ?_
  refine Ops.go (O.box (v := .agg #[_, _, _, _, _]) I rfl rfl ?_)
  intro b1 w I
  refine Ops.y (v := .slice _ _ _) (Y.assign rfl) ?_
  refine Ops.y (v := .slice _ _ _) (Y.assign rfl) ?_
  refine Ops.nil ?_
  refine WP.seq ?_
  refine WP.seq ?_
  refine WP.region ?_
  refine Ops.y (v := .pointer (some ⟨_, _, none⟩)) (Y.fa fa_64_3 rfl) ?_
  refine Ops.y (v := .slice _ _ _) (Y.loadv ty_62 rfl (I.rdbox 0 rfl 4 1) rfl rfl) ?_
  refine Ops.y (v := .int .i64 _) (Y.lens Tryz.underlying62 rfl) ?_
  refine Ops.y (v := .int .i64 _) (Y.move rfl) ?_
  refine Ops.nil ?_
  refine WP.block ?_
  have In1 := I.nilSl 61 2
  have In2 := In1.nilSl 61 2
  refine WP.loopE (σ := Nat × Value × Value × Heap) (fun s => [(1, .pointer (some ⟨b1, 0, none⟩)), (2, s.2.1), (3, s.2.2.1), (7, r.body.val), (8, .int .i64 r.body.xs.length), (9, .int .i64 s.1)])
    (fun s w => Inv B s.2.2.2 [ownSl 61 2 s.2.1 (negs (r.body.xs.take s.1)).length ((negs (r.body.xs.take s.1)).flatMap Atm.enc), ownSl 61 2 s.2.2.1 (poss (r.body.xs.take s.1)).length ((poss (r.body.xs.take s.1)).flatMap Atm.enc)] w ∧ s.1 ≤ r.body.xs.length ∧ B.h.le s.2.2.2) (fun s => r.body.xs.length - s.1)
    ⟨(0, .slice none 0 0, .slice none 0 0, B.h), ⟨rfl, rfl, rfl, rfl, rfl, rfl, trivial⟩, In2.weak (by simp [negs, poss]), Nat.zero_le _, Heap.le.refl _⟩ ?_
  rintro ⟨k, u1, u2, h⟩ e w ⟨I, hk, hle⟩
  dsimp only at I hk hle ⊢
  refine WP.seq ?_
  refine WP.region ?_
  refine Ops.y (v := .bool (decide _)) (Y.lti rfl rfl) ?_
  refine Ops.nil ?_
  refine WP.seq ?_
  refine WP.cond_dec rfl (fun h1 => ?_) (fun h1 => ?_)
  · have hk' : k < r.body.xs.length := by omega
    have E1 := (hr.is.at hk').le hle
    have l1 := negs_le (r.body.xs.take k)
    have l2 := poss_le (r.body.xs.take k)
    simp only [List.length_take] at l1 l2
    refine WP.skip ?_
    refine WP.seq ?_
    refine WP.block ?_
    refine WP.seq ?_
    refine WP.region ?_
    refine Ops.y (v := .pointer (some ⟨_, _, none⟩)) (Y.idxEl E1 Tryz.underlying62 Tryz.sizeOf68 rfl rfl (Int.natCast_nonneg _) rfl) ?_
    refine Ops.y (v := .agg #[_, _, _]) (Y.loadv ty_68 rfl (I.rd (E1.rd.part 0 3)) rfl rfl) ?_
    refine Ops.go (O.alloc I Tryz.zeroValue68 rfl ?_)
    intro b5 w I
    refine Ops.go (O.store (v := .agg #[_, _, _]) I ty_68 0 rfl rfl rfl rfl rfl rfl (Nat.le_of_ble_eq_true rfl) rfl ?_)
    intro w I
    refine Ops.nil ?_
    refine WP.seq ?_
    refine WP.region ?_
    refine Ops.y (v := .pointer (some ⟨_, _, none⟩)) (Y.fa0 fa_68_0 rfl) ?_
    refine Ops.y (v := .bool _) (Y.loadv ty_4 rfl (I.rdbox 0 rfl 0 1) rfl rfl) ?_
    refine Ops.nil ?_
    refine WP.cond rfl (fun hv => ?_) (fun hv => ?_)
    · refine WP.region ?_
      refine Ops.y (v := u1) (Y.move rfl) ?_
      refine Ops.y (v := .pointer (some ⟨_, _, none⟩)) (Y.fa fa_68_1 rfl) ?_
      refine Ops.y (v := .agg #[_, _]) (Y.loadv ty_61 rfl (I.rdbox 0 rfl 1 2) rfl rfl) ?_
      refine Ops.go (O.mksl (xs := [r.body.xs[k].atom]) (enc := Atm.enc) I Tryz.underlying154 Tryz.sizeOf61 Tryz.zeroValue61 rfl (Nat.le_of_ble_eq_true rfl) rfl rfl (by decide) (fun _ => rfl) ?_)
      intro b18 h18 w I le18 sl18
      refine Ops.go (O.append I Tryz.underlying154 et_61 1 rfl rfl rfl (I.rd (sl18 0 _ rfl).2) rfl rfl (by decide) (by omega) (by omega) ?_)
      intro b19 c19 w I
      refine Ops.y (v := .slice _ _ _) (Y.assign rfl) ?_
      refine Ops.nil ?_
      refine WP.region ?_
      refine Ops.y (v := .int .i64 _) (Y.addi rfl rfl ⟨by omega, by omega⟩) ?_
      refine Ops.y (v := .int .i64 _) (Y.move rfl) ?_
      refine Ops.nil ?_
      refine ⟨(k + 1, _, u2, h18), ⟨⟨rfl, rfl, rfl, rfl, rfl, rfl, trivial⟩, ?_, by dsimp only; omega, hle.trans le18⟩, by dsimp only; omega⟩
      have J := I.drop
      simpa [negs_take hk', poss_take hk', hv] using J
    refine WP.region ?_
    refine Ops.y (v := u2) (Y.move rfl) ?_
    refine Ops.y (v := .pointer (some ⟨_, _, none⟩)) (Y.fa fa_68_1 rfl) ?_
    refine Ops.y (v := .agg #[_, _]) (Y.loadv ty_61 rfl (I.rdbox 0 rfl 1 2) rfl rfl) ?_
    refine Ops.go (O.mksl (xs := [r.body.xs[k].atom]) (enc := Atm.enc) I Tryz.underlying154 Tryz.sizeOf61 Tryz.zeroValue61 rfl (Nat.le_of_ble_eq_true rfl) rfl rfl (by decide) (fun _ => rfl) ?_)
    intro b23 h23 w I le23 sl23
    refine Ops.go (O.append I Tryz.underlying154 et_61 2 rfl rfl rfl (I.rd (sl23 0 _ rfl).2) rfl rfl (by decide) (by omega) (by omega) ?_)
    intro b24 c24 w I
    refine Ops.y (v := .slice _ _ _) (Y.assign rfl) ?_
    refine Ops.nil ?_
    refine WP.region ?_
    refine Ops.y (v := .int .i64 _) (Y.addi rfl rfl ⟨by omega, by omega⟩) ?_
    refine Ops.y (v := .int .i64 _) (Y.move rfl) ?_
    refine Ops.nil ?_
    refine ⟨(k + 1, u1, _, h23), ⟨⟨rfl, rfl, rfl, rfl, rfl, rfl, trivial⟩, ?_, by dsimp only; omega, hle.trans le23⟩, by dsimp only; omega⟩
    have J := I.drop
    simpa [negs_take hk', poss_take hk', hv] using J
  refine WP.exit ?_
  refine WP.seq ?_
  refine WP.region ?_
  refine Ops.y (v := u1) (Y.move rfl) ?_
  refine Ops.y (v := u2) (Y.move rfl) ?_
  refine Ops.y (v := u1) (Y.assign rfl) ?_
  refine Ops.y (v := u2) (Y.assign rfl) ?_
  refine Ops.nil ?_
  have hk0 : k = r.body.xs.length := by omega
  refine WP.ret ?_
  repeat (first | refine thenE_ret ?_ | refine blockE_ret ?_)
  exact retM.mk (vs := [u1, u2]) rfl ⟨rfl, rfl, trivial⟩ (I) (⟨_, _, rfl, by rw [hk0, List.take_length]⟩)
end Go.TF
end
section
/- The contract of rule.Check. -/
namespace Go.TF
open Go Go.RowKit Go.Proofs
set_option maxRecDepth 10000

theorem checkAtom_in {l : List Prd} {a : Atm} (h : checkAtom l a = 0) : 0 ≤ a.pred ∧ a.pred < l.length := by
  unfold checkAtom at h
  split at h
  · cases h
  · omega
theorem free_any {l : List Prd} {r : Rul} {v : Int} (h : freeVar r v = true) (h0 : checkAtom l r.head = 0) (h1 : bodyErr l r.body.xs = 0) : (freeVar r 0 || freeVar r 1 || freeVar r 2) = true := by
  have hv : v = 0 ∨ v = 1 ∨ v = 2 := by
    have := h
    simp only [freeVar, Bool.and_eq_true, Bool.or_eq_true, List.any_eq_true] at this
    rcases this.1 with hs | ⟨x, hx, hs⟩
    · exact standsIn_small h0 hs
    · exact standsIn_small (bodyErr_ne.1 h1 x hx) hs
  rcases hv with rfl | rfl | rfl <;> simp [h]
theorem free_none {r : Rul} (h : ∀ v, cntA (negs r.body.xs ++ [r.head]) v ≠ 0 → cntA (poss r.body.xs) v ≠ 0) : (freeVar r 0 || freeVar r 1 || freeVar r 2) = false := by
  have : ∀ v, freeVar r v = false := fun v => by
    cases hf : freeVar r v
    · rfl
    · have := freeVar_iff.1 hf; exact absurd this.2 (h v this.1)
  simp [this]
theorem litOf_get {r : Rul} {k : Int} (h0 : 0 ≤ k) (h1 : k < r.body.xs.length) : litOf r k = r.body.xs[k.toNat]'(by omega) := by
  simp [litOf, List.getD_eq_getElem?_getD, show k.toNat < r.body.xs.length by omega]
theorem predOf_getE {l : List Prd} {p : Int} (h0 : 0 ≤ p) (h1 : p < l.length) : predOf l p = l[p.toNat]'(by omega) := by
  simp [predOf, List.getD_eq_getElem?_getD, show p.toNat < l.length by omega]
set_option maxHeartbeats 1000000 in
theorem RCheck_ok (B : Base) (hB : B.ok) (l : Sl Prd) (hl : Prds l B.h) (r : Rul) (hr : r.In B.h) : Fn Tryz.prog 61 [l.val, r.val] B (fun v _ => v = .int .i64 (checkRule l.xs r)) := by
  have hsm := hl.small
  have hsb := hr.body.is.small
  refine Fn.of Tryz.func61 rfl Tryz.ntmps61 (by kernel_rfl) (by simp) ?_
  intro e
  have I := Inv.start hB
  refine WP.seq ?_
  refine WP.region ?_
  refine Ops.go (O.box (v := .agg #[_, _, _, _, _]) I rfl rfl ?_)
  intro b3 w I
  refine Ops.y (v := .int .i64 _) (Y.assign rfl) ?_
  refine Ops.nil ?_
  refine WP.seq ?_
  refine WP.seq ?_
  refine WP.region ?_
  refine Ops.y (v := .slice _ _ _) (Y.move rfl) ?_
  refine Ops.y (v := .pointer (some ⟨_, _, none⟩)) (Y.fa0 fa_64_0 rfl) ?_
  refine Ops.y (v := .agg #[_, _]) (Y.loadv ty_61 rfl (I.rdbox 0 rfl 0 2) rfl rfl) ?_
  refine Ops.go (O.callv I Tryz.call117 (Atom_ok _ I.base_ok l hl r.head hr.head) rfl ?_)
  intro w I
  refine Ops.y (v := .int .i64 _) (Y.assign rfl) ?_
  refine Ops.nil ?_
  refine WP.seq ?_
  refine WP.region ?_
  refine Ops.y (v := .int .i64 _) (Y.move rfl) ?_
  refine Ops.y (v := .bool (decide _)) (Y.nei rfl rfl) ?_
  refine Ops.nil ?_
  refine WP.cond_dec rfl (fun h1 => ?_) (fun h1 => ?_)
  · refine WP.seq ?_
    refine WP.region ?_
    refine Ops.y (v := .int .i64 _) (Y.move rfl) ?_
    refine Ops.y (v := .int .i64 _) (Y.assign rfl) ?_
    refine Ops.nil ?_
    refine WP.ret ?_
    repeat (first | refine thenE_ret ?_ | refine blockE_ret ?_)
    exact retQ.mk (vs := [.int .i64 _]) rfl ⟨rfl, trivial⟩ I.ext_of (by simp only [tup, checkRule]; rw [if_pos h1])
  have h1 := Decidable.not_not.1 h1
  have hh := checkAtom_in h1
  refine WP.skip ?_
  refine WP.seq ?_
  refine WP.seq ?_
  refine WP.region ?_
  refine Ops.y (v := .pointer (some ⟨_, _, none⟩)) (Y.fa fa_64_3 rfl) ?_
  refine Ops.y (v := .slice _ _ _) (Y.loadv ty_62 rfl (I.rdbox 0 rfl 4 1) rfl rfl) ?_
  refine Ops.y (v := .int .i64 _) (Y.lens Tryz.underlying62 rfl) ?_
  refine Ops.y (v := .bool (decide _)) (Y.gti rfl rfl) ?_
  refine Ops.nil ?_
  refine WP.cond_dec rfl (fun h2 => ?_) (fun h2 => ?_)
  · refine WP.seq ?_
    refine WP.region ?_
    refine Ops.y (v := .int .i64 _) (Y.assign rfl) ?_
    refine Ops.nil ?_
    refine WP.ret ?_
    repeat (first | refine thenE_ret ?_ | refine blockE_ret ?_)
    exact retQ.mk (vs := [.int .i64 _]) rfl ⟨rfl, trivial⟩ I.ext_of (by simp only [tup, checkRule]; rw [if_neg (by simp [h1]), if_pos (by omega)])
  refine WP.skip ?_
  refine WP.seq ?_
  refine WP.seq ?_
  refine WP.region ?_
  refine Ops.y (v := .pointer (some ⟨_, _, none⟩)) (Y.fa fa_64_3 rfl) ?_
  refine Ops.y (v := .slice _ _ _) (Y.loadv ty_62 rfl (I.rdbox 0 rfl 4 1) rfl rfl) ?_
  refine Ops.y (v := .int .i64 _) (Y.lens Tryz.underlying62 rfl) ?_
  refine Ops.y (v := .int .i64 _) (Y.move rfl) ?_
  refine Ops.nil ?_
  refine WP.block ?_
  refine WP.loopE (σ := Nat) (fun k => [(0, l.val), (3, .pointer (some ⟨b3, 0, none⟩)), (26, r.body.val), (27, .int .i64 r.body.xs.length), (28, .int .i64 k)]) (fun k w => Inv B B.h [box b3 r.enc 64] w ∧ k ≤ r.body.xs.length ∧ ∀ j, j < k → ∀ hj' : j < r.body.xs.length, checkAtom l.xs r.body.xs[j].atom = 0) (fun k => r.body.xs.length - k)
    ⟨0, ⟨rfl, rfl, rfl, rfl, rfl, trivial⟩, I, Nat.zero_le _, fun j hj => (by omega)⟩ ?_
  rintro k e w ⟨I, hk, hn⟩
  refine WP.seq ?_
  refine WP.region ?_
  refine Ops.y (v := .bool (decide _)) (Y.lti rfl rfl) ?_
  refine Ops.nil ?_
  refine WP.seq ?_
  refine WP.cond_dec rfl (fun h3 => ?_) (fun h3 => ?_)
  · have hk' : k < r.body.xs.length := by omega
    have E1 := hr.body.is.at hk'
    refine WP.skip ?_
    refine WP.seq ?_
    refine WP.block ?_
    refine WP.seq ?_
    refine WP.region ?_
    refine Ops.y (v := .pointer (some ⟨_, _, none⟩)) (Y.idxEl E1 Tryz.underlying62 Tryz.sizeOf68 rfl rfl (Int.natCast_nonneg _) rfl) ?_
    refine Ops.y (v := .agg #[_, _, _]) (Y.loadv ty_68 rfl (I.rd (E1.rd.part 0 3)) rfl rfl) ?_
    refine Ops.go (O.alloc I Tryz.zeroValue68 rfl ?_)
    intro b7 w I
    refine Ops.go (O.store (v := .agg #[_, _, _]) I ty_68 0 rfl rfl rfl rfl rfl rfl (Nat.le_of_ble_eq_true rfl) rfl ?_)
    intro w I
    refine Ops.nil ?_
    refine WP.seq ?_
    refine WP.region ?_
    refine Ops.y (v := .slice _ _ _) (Y.move rfl) ?_
    refine Ops.y (v := .pointer (some ⟨_, _, none⟩)) (Y.fa fa_68_1 rfl) ?_
    refine Ops.y (v := .agg #[_, _]) (Y.loadv ty_61 rfl (I.rdbox 0 rfl 1 2) rfl rfl) ?_
    refine Ops.go (O.callv I Tryz.call117 (Atom_ok _ I.base_ok l hl r.body.xs[k].atom (hr.body.each _ (List.getElem_mem hk'))) rfl ?_)
    intro w I
    refine Ops.y (v := .int .i64 _) (Y.assign rfl) ?_
    refine Ops.nil ?_
    refine WP.seq ?_
    refine WP.region ?_
    refine Ops.y (v := .int .i64 _) (Y.move rfl) ?_
    refine Ops.y (v := .bool (decide _)) (Y.nei rfl rfl) ?_
    refine Ops.nil ?_
    refine WP.cond_dec rfl (fun h4 => ?_) (fun h4 => ?_)
    · refine WP.seq ?_
      refine WP.region ?_
      refine Ops.y (v := .int .i64 _) (Y.move rfl) ?_
      refine Ops.y (v := .int .i64 _) (Y.assign rfl) ?_
      refine Ops.nil ?_
      refine WP.ret ?_
      repeat (first | refine thenE_ret ?_ | refine blockE_ret ?_)
      exact retQ.mk (vs := [.int .i64 _]) rfl ⟨rfl, trivial⟩ I.ext_of (by simp only [tup, checkRule]; rw [if_neg (by simp [h1]), if_neg (by omega), if_pos (by rw [bodyErr_at hk' hn h4]; exact h4), bodyErr_at hk' hn h4])
    refine WP.skip ?_
    refine WP.region ?_
    refine Ops.y (v := .int .i64 _) (Y.addi rfl rfl ⟨by omega, by omega⟩) ?_
    refine Ops.y (v := .int .i64 _) (Y.move rfl) ?_
    refine Ops.nil ?_
    exact ⟨k + 1, ⟨⟨rfl, rfl, rfl, rfl, rfl, trivial⟩, I.drop, by omega, fun j hj hj' => by
      rcases Nat.lt_succ_iff_lt_or_eq.1 hj with h' | h'
      · exact hn j h' hj'
      · subst h'; exact Decidable.not_not.1 h4⟩, by omega⟩
  have hb0 : bodyErr l.xs r.body.xs = 0 := bodyErr_ne.2 fun x hx => by obtain ⟨j, hj, rfl⟩ := List.getElem_of_mem hx; exact hn j (by omega) hj
  have hb3 : r.body.xs.length ≤ 3 := by omega
  have n1 := negs_le r.body.xs
  have n2 := poss_le r.body.xs
  clear hn hk h3
  refine WP.exit ?_
  refine WP.seq ?_
  refine WP.region ?_
  refine Ops.y (v := .agg #[_, _, _, _, _]) (Y.loadv ty_64 rfl (I.rdbox 0 rfl 0 5) rfl rfl) ?_
  refine Ops.go (O.callM I Tryz.call118 (Atoms_ok _ I.base_ok r hr.body hb3) rfl ?_)
  rintro _ h1' _ w I le1 ⟨u1, u2, rfl, rfl⟩
  try simp only [List.cons_append, List.nil_append] at I
  refine Ops.y (v := .tuple #[_, _]) (Y.move rfl) ?_
  refine Ops.y (v := u1) (Y.extract rfl rfl) ?_
  refine Ops.y (v := u2) (Y.extract rfl rfl) ?_
  refine Ops.y (v := u1) (Y.assign rfl) ?_
  refine Ops.y (v := u2) (Y.assign rfl) ?_
  refine Ops.nil ?_
  have If := I.front 1 rfl
  obtain ⟨h2', sI, le2, hv2, hx2, hs2, I2⟩ := If.settleSl (fun _ => rfl) rfl
  simp only [List.eraseIdx_cons_succ, List.eraseIdx_zero, List.tail_cons] at I2
  clear If
  subst hv2
  have I := I2
  have le12 := le1.trans le2
  have q1 : ∀ a ∈ sI.xs, a.In h2' := fun a ha => by
    rw [hx2] at ha
    obtain ⟨x, hx, _, rfl⟩ := mem_poss.1 ha
    exact (hr.body.each x hx).le le12
  refine WP.seq ?_
  refine WP.region ?_
  refine Ops.y (v := .slice _ _ _) (Y.move rfl) ?_
  refine Ops.go (O.callM I Tryz.call119 (Vars_ok _ I.base_ok sI ⟨hs2, by rw [hx2]; omega⟩ q1 (by rw [hx2]; omega)) rfl ?_)
  rintro _ h3' _ w I le3 ⟨bm, es, rfl, rfl, hc⟩
  try simp only [List.cons_append, List.nil_append] at I
  refine Ops.y (v := .map _) (Y.assign rfl) ?_
  refine Ops.nil ?_
  refine WP.seq ?_
  refine WP.seq ?_
  refine WP.region ?_
  refine Ops.y (v := u1) (Y.move rfl) ?_
  refine Ops.y (v := .pointer (some ⟨_, _, none⟩)) (Y.fa0 fa_64_0 rfl) ?_
  refine Ops.y (v := .agg #[_, _]) (Y.loadv ty_61 rfl (I.rdbox 2 rfl 0 2) rfl rfl) ?_
  refine Ops.go (O.mksl (xs := [r.head]) (enc := Atm.enc) I Tryz.underlying154 Tryz.sizeOf61 Tryz.zeroValue61 rfl (Nat.le_of_ble_eq_true rfl) rfl rfl (by decide) (fun _ => rfl) ?_)
  intro b50 h50 w I le50 sl50
  refine Ops.go (O.append I Tryz.underlying154 et_61 1 rfl rfl rfl (I.rd (sl50 0 _ rfl).2) rfl rfl (by decide) (by omega) (by omega) ?_)
  intro b51 c51 w I
  have If := I.front 1 rfl
  have e0 : (negs r.body.xs).flatMap Atm.enc ++ Atm.enc r.head = (negs r.body.xs ++ [r.head]).flatMap Atm.enc := by simp
  rw [e0] at If
  obtain ⟨h5, sN, le5, hv5, hx5, hs5, I⟩ := If.settleSl (fun _ => rfl) (by simp)
  have le25 : B.h.le h5 := le12.trans (le3.trans (le50.trans le5))
  have V := Vars_ok _ I.base_ok sN ⟨hs5, by rw [hx5, List.length_append, List.length_singleton]; omega⟩ (fun a ha => by rw [hx5] at ha; rcases List.mem_append.1 ha with ha | ha; (obtain ⟨x, hx, _, rfl⟩ := mem_negs.1 ha; exact (hr.body.each x hx).le le25); (rw [List.mem_singleton.1 ha]; exact hr.head.le le25)) (by rw [hx5, List.length_append, List.length_singleton]; omega)
  rw [hv5] at V
  refine Ops.go (O.callM I Tryz.call119 (V) rfl ?_)
  rintro _ h6 _ w I le6 ⟨bn, en, rfl, rfl, hcn⟩
  try simp only [List.cons_append, List.nil_append] at I
  obtain ⟨h7, ents, clock, le7, hm7, hi7, I⟩ := I.settleMap
  refine Ops.go (O.range I Tryz.underlying157 rfl hm7 ?_)
  intro b53 w I
  refine Ops.nil ?_
  have hle : B.h.le h7 := le25.trans (le6.trans le7)
  rw [hx5] at hcn
  rw [hx2] at hc
  refine WP.block ?_
  refine WP.loopE (σ := List Nat) (fun _ => [(0, l.val), (3, .pointer (some ⟨b3, 0, none⟩)), (11, .map (some bm)), (53, .pointer (some ⟨b53, 0, none⟩))]) (fun done w => Inv B h7 [mit b53 bn clock done, imap bm es, box b3 r.enc 64] w ∧ ∀ q ∈ ents, q.born ∈ done → ∀ v, q.key = .int .i64 v → cntA (poss r.body.xs) v ≠ 0) (fun done => (ents.filter fun q => decide (q.born ∉ done)).length)
    ⟨[], ⟨rfl, rfl, rfl, rfl, trivial⟩, I, fun q _ hq => by cases hq⟩ ?_
  rintro done e w ⟨I, hd⟩
  refine WP.seq ?_
  refine WP.region ?_
  refine Ops.go (O.next I 0 rfl rfl hm7 hi7 ?_ ?_)
  · intro hall
    refine Ops.y (v := .bool _) (Y.extract rfl rfl) ?_
    refine Ops.nil ?_
    refine WP.seq ?_
    refine WP.cond_f rfl ?_
    have hfr : (freeVar r 0 || freeVar r 1 || freeVar r 2) = false := free_none fun v hv => by
      have h8 := hcn v
      rw [if_neg hv] at h8
      obtain ⟨q, hq, hk⟩ := ents_has hi7 (ilook_some_mem h8)
      exact hd q hq (hall q hq) v hk
    clear hd hall
    have I := I.drop.drop
    refine WP.exit ?_
    refine WP.seq ?_
    refine WP.seq ?_
    by_cases o0 : r.src < -1
    · refine WP.region ?_
      refine Ops.y (v := .pointer (some ⟨_, _, none⟩)) (Y.fa fa_64_1 rfl) ?_
      refine Ops.y (v := .int .i64 _) (Y.loadv ty_3 rfl (I.rdbox 0 rfl 2 1) rfl rfl) ?_
      refine Ops.y (v := .bool true) (Y.dec_t (Y.lti rfl rfl) (o0)) ?_
      refine Ops.y (v := .bool _) (Y.move rfl) ?_
      refine Ops.gf rfl ?_
      refine Ops.gf rfl ?_
      refine Ops.gf rfl ?_
      refine Ops.gf rfl ?_
      refine Ops.gf rfl ?_
      refine Ops.gf rfl ?_
      refine Ops.y (v := .bool _) (Y.pick_t rfl rfl) ?_
      refine Ops.nil ?_
      refine WP.cond_t rfl ?_
      refine WP.seq ?_
      refine WP.region ?_
      refine Ops.y (v := .int .i64 _) (Y.assign rfl) ?_
      refine Ops.nil ?_
      refine WP.ret ?_
      repeat (first | refine thenE_ret ?_ | refine blockE_ret ?_)
      exact retQ.mk (vs := [.int .i64 _]) rfl ⟨rfl, trivial⟩ I.ext_of (by simp only [tup, checkRule]; rw [if_neg (by simp [h1]), if_neg (by omega), if_neg (by simp [hb0]), hfr, if_neg (by simp), if_pos (by omega)])
    by_cases o1 : (r.body.xs.length : Int) ≤ r.src
    · refine WP.region ?_
      refine Ops.y (v := .pointer (some ⟨_, _, none⟩)) (Y.fa fa_64_1 rfl) ?_
      refine Ops.y (v := .int .i64 _) (Y.loadv ty_3 rfl (I.rdbox 0 rfl 2 1) rfl rfl) ?_
      refine Ops.y (v := .bool false) (Y.dec_f (Y.lti rfl rfl) (o0)) ?_
      refine Ops.y (v := .bool _) (Y.move rfl) ?_
      refine Ops.ygt rfl (v := .pointer (some ⟨_, _, none⟩)) (Y.fa fa_64_1 rfl) ?_
      refine Ops.ygt rfl (v := .int .i64 _) (Y.loadv ty_3 rfl (I.rdbox 0 rfl 2 1) rfl rfl) ?_
      refine Ops.ygt rfl (v := .pointer (some ⟨_, _, none⟩)) (Y.fa fa_64_3 rfl) ?_
      refine Ops.ygt rfl (v := .slice _ _ _) (Y.loadv ty_62 rfl (I.rdbox 0 rfl 4 1) rfl rfl) ?_
      refine Ops.ygt rfl (v := .int .i64 _) (Y.lens Tryz.underlying62 rfl) ?_
      refine Ops.ygt rfl (v := .bool true) (Y.dec_t (Y.gei rfl rfl) (o1)) ?_
      refine Ops.y (v := .bool _) (Y.pick_f rfl rfl) ?_
      refine Ops.nil ?_
      refine WP.cond_t rfl ?_
      refine WP.seq ?_
      refine WP.region ?_
      refine Ops.y (v := .int .i64 _) (Y.assign rfl) ?_
      refine Ops.nil ?_
      refine WP.ret ?_
      repeat (first | refine thenE_ret ?_ | refine blockE_ret ?_)
      exact retQ.mk (vs := [.int .i64 _]) rfl ⟨rfl, trivial⟩ I.ext_of (by simp only [tup, checkRule]; rw [if_neg (by simp [h1]), if_neg (by omega), if_neg (by simp [hb0]), hfr, if_neg (by simp), if_pos (by omega)])
    refine WP.region ?_
    refine Ops.y (v := .pointer (some ⟨_, _, none⟩)) (Y.fa fa_64_1 rfl) ?_
    refine Ops.y (v := .int .i64 _) (Y.loadv ty_3 rfl (I.rdbox 0 rfl 2 1) rfl rfl) ?_
    refine Ops.y (v := .bool false) (Y.dec_f (Y.lti rfl rfl) (o0)) ?_
    refine Ops.y (v := .bool _) (Y.move rfl) ?_
    refine Ops.ygt rfl (v := .pointer (some ⟨_, _, none⟩)) (Y.fa fa_64_1 rfl) ?_
    refine Ops.ygt rfl (v := .int .i64 _) (Y.loadv ty_3 rfl (I.rdbox 0 rfl 2 1) rfl rfl) ?_
    refine Ops.ygt rfl (v := .pointer (some ⟨_, _, none⟩)) (Y.fa fa_64_3 rfl) ?_
    refine Ops.ygt rfl (v := .slice _ _ _) (Y.loadv ty_62 rfl (I.rdbox 0 rfl 4 1) rfl rfl) ?_
    refine Ops.ygt rfl (v := .int .i64 _) (Y.lens Tryz.underlying62 rfl) ?_
    refine Ops.ygt rfl (v := .bool false) (Y.dec_f (Y.gei rfl rfl) (o1)) ?_
    refine Ops.y (v := .bool _) (Y.pick_f rfl rfl) ?_
    refine Ops.nil ?_
    refine WP.cond_f rfl ?_
    have hle' := hle
    have EH := (hl.at (i := r.head.pred.toNat) (by omega)).le hle
    have eH := predOf_getE hh.1 hh.2
    refine WP.skip ?_
    refine WP.seq ?_
    refine WP.region ?_
    refine Ops.y (v := .slice _ _ _) (Y.move rfl) ?_
    refine Ops.y (v := .pointer (some ⟨_, _, none⟩)) (Y.fa0 fa_64_0 rfl) ?_
    refine Ops.y (v := .pointer (some ⟨_, _, none⟩)) (Y.fa0 fa_61_0 rfl) ?_
    refine Ops.y (v := .int .i64 _) (Y.loadv ty_3 rfl (I.rdbox 0 rfl 0 1) rfl rfl) ?_
    refine Ops.y (v := .pointer (some ⟨_, _, none⟩)) (Y.idxEl EH Tryz.underlying22 Tryz.sizeOf53 rfl rfl hh.1 rfl) ?_
    refine Ops.y (v := .pointer (some ⟨_, _, none⟩)) (Y.fa fa_53_2 rfl) ?_
    refine Ops.y (v := .int .i64 _) (Y.loadv ty_3 rfl (I.rd (EH.rd.part 2 1)) rfl rfl) ?_
    refine Ops.y (v := .int .i64 _) (Y.assign rfl) ?_
    refine Ops.nil ?_
    refine WP.seq ?_
    refine WP.block ?_
    refine WP.seq ?_
    refine WP.cutL (σ := Unit) (fun _ => [(0, l.val), (3, .pointer (some ⟨b3, 0, none⟩)), (13, .int .i64 (predOf l.xs r.head.pred).kind), (80, .bool (decide ((predOf l.xs r.head.pred).kind = 0 ∧ (r.src ≠ -1 ∨ r.n ≠ 0))))]) (fun _ w => Inv B h7 [box b3 r.enc 64] w) ?_ ?_
    · rw [eH]
      by_cases c1 : (l.xs[r.head.pred.toNat]'(by omega)).kind = 0
      · by_cases c2 : r.src ≠ -1
        · refine WP.region ?_
          refine Ops.y (v := .int .i64 _) (Y.move rfl) ?_
          refine Ops.y (v := .bool true) (Y.dec_t (Y.eqi rfl rfl) (c1)) ?_
          refine Ops.y (v := .bool _) (Y.move rfl) ?_
          refine Ops.ygt rfl (v := .pointer (some ⟨_, _, none⟩)) (Y.fa fa_64_1 rfl) ?_
          refine Ops.ygt rfl (v := .int .i64 _) (Y.loadv ty_3 rfl (I.rdbox 0 rfl 2 1) rfl rfl) ?_
          refine Ops.ygt rfl (v := .bool true) (Y.dec_t (Y.nei rfl rfl) (c2)) ?_
          refine Ops.ygt rfl (v := .bool _) (Y.move rfl) ?_
          refine Ops.gf rfl ?_
          refine Ops.gf rfl ?_
          refine Ops.gf rfl ?_
          refine Ops.ygt rfl (v := .bool _) (Y.pick_t rfl rfl) ?_
          refine Ops.y (v := .bool _) (Y.pick_t rfl rfl) ?_
          refine Ops.y (v := .bool _) (Y.assign rfl) ?_
          refine Ops.nil ?_
          exact ⟨(), ⟨rfl, rfl, rfl, bT ⟨c1, .inl c2⟩, trivial⟩, I⟩
        · by_cases c3 : r.n ≠ 0
          · refine WP.region ?_
            refine Ops.y (v := .int .i64 _) (Y.move rfl) ?_
            refine Ops.y (v := .bool true) (Y.dec_t (Y.eqi rfl rfl) (c1)) ?_
            refine Ops.y (v := .bool _) (Y.move rfl) ?_
            refine Ops.ygt rfl (v := .pointer (some ⟨_, _, none⟩)) (Y.fa fa_64_1 rfl) ?_
            refine Ops.ygt rfl (v := .int .i64 _) (Y.loadv ty_3 rfl (I.rdbox 0 rfl 2 1) rfl rfl) ?_
            refine Ops.ygt rfl (v := .bool false) (Y.dec_f (Y.nei rfl rfl) (c2)) ?_
            refine Ops.ygt rfl (v := .bool _) (Y.move rfl) ?_
            refine Ops.ygt rfl (v := .pointer (some ⟨_, _, none⟩)) (Y.fa fa_64_2 rfl) ?_
            refine Ops.ygt rfl (v := .int .i64 _) (Y.loadv ty_3 rfl (I.rdbox 0 rfl 3 1) rfl rfl) ?_
            refine Ops.ygt rfl (v := .bool true) (Y.dec_t (Y.nei rfl rfl) (c3)) ?_
            refine Ops.ygt rfl (v := .bool _) (Y.pick_f rfl rfl) ?_
            refine Ops.y (v := .bool _) (Y.pick_t rfl rfl) ?_
            refine Ops.y (v := .bool _) (Y.assign rfl) ?_
            refine Ops.nil ?_
            exact ⟨(), ⟨rfl, rfl, rfl, bT ⟨c1, .inr c3⟩, trivial⟩, I⟩
          · refine WP.region ?_
            refine Ops.y (v := .int .i64 _) (Y.move rfl) ?_
            refine Ops.y (v := .bool true) (Y.dec_t (Y.eqi rfl rfl) (c1)) ?_
            refine Ops.y (v := .bool _) (Y.move rfl) ?_
            refine Ops.ygt rfl (v := .pointer (some ⟨_, _, none⟩)) (Y.fa fa_64_1 rfl) ?_
            refine Ops.ygt rfl (v := .int .i64 _) (Y.loadv ty_3 rfl (I.rdbox 0 rfl 2 1) rfl rfl) ?_
            refine Ops.ygt rfl (v := .bool false) (Y.dec_f (Y.nei rfl rfl) (c2)) ?_
            refine Ops.ygt rfl (v := .bool _) (Y.move rfl) ?_
            refine Ops.ygt rfl (v := .pointer (some ⟨_, _, none⟩)) (Y.fa fa_64_2 rfl) ?_
            refine Ops.ygt rfl (v := .int .i64 _) (Y.loadv ty_3 rfl (I.rdbox 0 rfl 3 1) rfl rfl) ?_
            refine Ops.ygt rfl (v := .bool false) (Y.dec_f (Y.nei rfl rfl) (c3)) ?_
            refine Ops.ygt rfl (v := .bool _) (Y.pick_f rfl rfl) ?_
            refine Ops.y (v := .bool _) (Y.pick_t rfl rfl) ?_
            refine Ops.y (v := .bool _) (Y.assign rfl) ?_
            refine Ops.nil ?_
            exact ⟨(), ⟨rfl, rfl, rfl, bF (fun h => h.2.elim c2 c3), trivial⟩, I⟩
      · refine WP.region ?_
        refine Ops.y (v := .int .i64 _) (Y.move rfl) ?_
        refine Ops.y (v := .bool false) (Y.dec_f (Y.eqi rfl rfl) (c1)) ?_
        refine Ops.y (v := .bool _) (Y.move rfl) ?_
        refine Ops.gf rfl ?_
        refine Ops.gf rfl ?_
        refine Ops.gf rfl ?_
        refine Ops.gf rfl ?_
        refine Ops.gf rfl ?_
        refine Ops.gf rfl ?_
        refine Ops.gf rfl ?_
        refine Ops.gf rfl ?_
        refine Ops.y (v := .bool _) (Y.pick_f rfl rfl) ?_
        refine Ops.y (v := .bool _) (Y.assign rfl) ?_
        refine Ops.nil ?_
        exact ⟨(), ⟨rfl, rfl, rfl, bF (fun h => c1 h.1), trivial⟩, I⟩
    rintro _ e w I
    refine WP.cond_dec rfl (fun d1 => ?_) (fun d1 => ?_)
    · refine WP.seq ?_
      refine WP.region ?_
      refine Ops.y (v := .int .i64 _) (Y.assign rfl) ?_
      refine Ops.nil ?_
      refine WP.ret ?_
      repeat (first | refine thenE_ret ?_ | refine blockE_ret ?_)
      exact retQ.mk (vs := [.int .i64 _]) rfl ⟨rfl, trivial⟩ I.ext_of (by simp only [tup, checkRule]; rw [if_neg (by simp [h1]), if_neg (by omega), if_neg (by simp [hb0]), hfr, if_neg (by simp), if_neg (by omega), if_pos d1])
    refine WP.seq ?_
    refine WP.cutL (σ := Unit) (fun _ => [(3, .pointer (some ⟨b3, 0, none⟩)), (93, .bool (decide (0 ≤ r.src ∧ ((litOf r r.src).neg = true ∨ (predOf l.xs (litOf r r.src).atom.pred).kind ≠ (predOf l.xs r.head.pred).kind))))]) (fun _ w => Inv B h7 [box b3 r.enc 64] w) ?_ ?_
    · by_cases c1 : 0 ≤ r.src
      · have hs1 : r.src.toNat < r.body.xs.length := by omega
        have EB := (hr.body.is.at hs1).le hle
        rw [litOf_get c1 (by omega)]
        have hap := checkAtom_in (bodyErr_ne.1 hb0 _ (List.getElem_mem hs1))
        have EP := (hl.at (i := (r.body.xs[r.src.toNat]'hs1).atom.pred.toNat) (by omega)).le hle
        rw [predOf_getE hap.1 hap.2]
        by_cases c2 : (r.body.xs[r.src.toNat]'hs1).neg = true
        · refine WP.region ?_
          refine Ops.y (v := .pointer (some ⟨_, _, none⟩)) (Y.fa fa_64_1 rfl) ?_
          refine Ops.y (v := .int .i64 _) (Y.loadv ty_3 rfl (I.rdbox 0 rfl 2 1) rfl rfl) ?_
          refine Ops.y (v := .bool true) (Y.dec_t (Y.gei rfl rfl) (c1)) ?_
          refine Ops.y (v := .bool _) (Y.move rfl) ?_
          refine Ops.ygt rfl (v := .pointer (some ⟨_, _, none⟩)) (Y.fa fa_64_3 rfl) ?_
          refine Ops.ygt rfl (v := .slice _ _ _) (Y.loadv ty_62 rfl (I.rdbox 0 rfl 4 1) rfl rfl) ?_
          refine Ops.ygt rfl (v := .pointer (some ⟨_, _, none⟩)) (Y.fa fa_64_1 rfl) ?_
          refine Ops.ygt rfl (v := .int .i64 _) (Y.loadv ty_3 rfl (I.rdbox 0 rfl 2 1) rfl rfl) ?_
          refine Ops.ygt rfl (v := .pointer (some ⟨_, _, none⟩)) (Y.idxEl EB Tryz.underlying62 Tryz.sizeOf68 rfl rfl c1 rfl) ?_
          refine Ops.ygt rfl (v := .pointer (some ⟨_, _, none⟩)) (Y.fa0 fa_68_0 rfl) ?_
          refine Ops.ygt rfl (v := .bool true) (Y.b (Y.loadv ty_4 rfl (I.rd (EB.rd.part 0 1)) rfl rfl) (c2)) ?_
          refine Ops.ygt rfl (v := .bool _) (Y.move rfl) ?_
          refine Ops.gf rfl ?_
          refine Ops.gf rfl ?_
          refine Ops.gf rfl ?_
          refine Ops.gf rfl ?_
          refine Ops.gf rfl ?_
          refine Ops.gf rfl ?_
          refine Ops.gf rfl ?_
          refine Ops.gf rfl ?_
          refine Ops.gf rfl ?_
          refine Ops.gf rfl ?_
          refine Ops.gf rfl ?_
          refine Ops.gf rfl ?_
          refine Ops.gf rfl ?_
          refine Ops.gf rfl ?_
          refine Ops.ygt rfl (v := .bool _) (Y.pick_t rfl rfl) ?_
          refine Ops.y (v := .bool _) (Y.pick_t rfl rfl) ?_
          refine Ops.y (v := .bool _) (Y.assign rfl) ?_
          refine Ops.nil ?_
          exact ⟨(), ⟨rfl, bT ⟨c1, .inl c2⟩, trivial⟩, I⟩
        · by_cases c3 : (l.xs[(r.body.xs[r.src.toNat]'hs1).atom.pred.toNat]'(by omega)).kind ≠ (predOf l.xs r.head.pred).kind
          · refine WP.region ?_
            refine Ops.y (v := .pointer (some ⟨_, _, none⟩)) (Y.fa fa_64_1 rfl) ?_
            refine Ops.y (v := .int .i64 _) (Y.loadv ty_3 rfl (I.rdbox 0 rfl 2 1) rfl rfl) ?_
            refine Ops.y (v := .bool true) (Y.dec_t (Y.gei rfl rfl) (c1)) ?_
            refine Ops.y (v := .bool _) (Y.move rfl) ?_
            refine Ops.ygt rfl (v := .pointer (some ⟨_, _, none⟩)) (Y.fa fa_64_3 rfl) ?_
            refine Ops.ygt rfl (v := .slice _ _ _) (Y.loadv ty_62 rfl (I.rdbox 0 rfl 4 1) rfl rfl) ?_
            refine Ops.ygt rfl (v := .pointer (some ⟨_, _, none⟩)) (Y.fa fa_64_1 rfl) ?_
            refine Ops.ygt rfl (v := .int .i64 _) (Y.loadv ty_3 rfl (I.rdbox 0 rfl 2 1) rfl rfl) ?_
            refine Ops.ygt rfl (v := .pointer (some ⟨_, _, none⟩)) (Y.idxEl EB Tryz.underlying62 Tryz.sizeOf68 rfl rfl c1 rfl) ?_
            refine Ops.ygt rfl (v := .pointer (some ⟨_, _, none⟩)) (Y.fa0 fa_68_0 rfl) ?_
            refine Ops.ygt rfl (v := .bool false) (Y.b (Y.loadv ty_4 rfl (I.rd (EB.rd.part 0 1)) rfl rfl) ((by simpa using c2))) ?_
            refine Ops.ygt rfl (v := .bool _) (Y.move rfl) ?_
            refine Ops.ygt rfl (v := .slice _ _ _) (Y.move rfl) ?_
            refine Ops.ygt rfl (v := .pointer (some ⟨_, _, none⟩)) (Y.fa fa_64_3 rfl) ?_
            refine Ops.ygt rfl (v := .slice _ _ _) (Y.loadv ty_62 rfl (I.rdbox 0 rfl 4 1) rfl rfl) ?_
            refine Ops.ygt rfl (v := .pointer (some ⟨_, _, none⟩)) (Y.fa fa_64_1 rfl) ?_
            refine Ops.ygt rfl (v := .int .i64 _) (Y.loadv ty_3 rfl (I.rdbox 0 rfl 2 1) rfl rfl) ?_
            refine Ops.ygt rfl (v := .pointer (some ⟨_, _, none⟩)) (Y.idxEl EB Tryz.underlying62 Tryz.sizeOf68 rfl rfl c1 rfl) ?_
            refine Ops.ygt rfl (v := .pointer (some ⟨_, _, none⟩)) (Y.fa fa_68_1 rfl) ?_
            refine Ops.ygt rfl (v := .pointer (some ⟨_, _, none⟩)) (Y.fa0 fa_61_0 rfl) ?_
            refine Ops.ygt rfl (v := .int .i64 _) (Y.loadv ty_3 rfl (I.rd (EB.rd.part 1 1)) rfl rfl) ?_
            refine Ops.ygt rfl (v := .pointer (some ⟨_, _, none⟩)) (Y.idxEl EP Tryz.underlying22 Tryz.sizeOf53 rfl rfl hap.1 rfl) ?_
            refine Ops.ygt rfl (v := .pointer (some ⟨_, _, none⟩)) (Y.fa fa_53_2 rfl) ?_
            refine Ops.ygt rfl (v := .int .i64 _) (Y.loadv ty_3 rfl (I.rd (EP.rd.part 2 1)) rfl rfl) ?_
            refine Ops.ygt rfl (v := .int .i64 _) (Y.move rfl) ?_
            refine Ops.ygt rfl (v := .bool true) (Y.dec_t (Y.nei rfl rfl) (c3)) ?_
            refine Ops.ygt rfl (v := .bool _) (Y.pick_f rfl rfl) ?_
            refine Ops.y (v := .bool _) (Y.pick_t rfl rfl) ?_
            refine Ops.y (v := .bool _) (Y.assign rfl) ?_
            refine Ops.nil ?_
            exact ⟨(), ⟨rfl, bT ⟨c1, .inr c3⟩, trivial⟩, I⟩
          · refine WP.region ?_
            refine Ops.y (v := .pointer (some ⟨_, _, none⟩)) (Y.fa fa_64_1 rfl) ?_
            refine Ops.y (v := .int .i64 _) (Y.loadv ty_3 rfl (I.rdbox 0 rfl 2 1) rfl rfl) ?_
            refine Ops.y (v := .bool true) (Y.dec_t (Y.gei rfl rfl) (c1)) ?_
            refine Ops.y (v := .bool _) (Y.move rfl) ?_
            refine Ops.ygt rfl (v := .pointer (some ⟨_, _, none⟩)) (Y.fa fa_64_3 rfl) ?_
            refine Ops.ygt rfl (v := .slice _ _ _) (Y.loadv ty_62 rfl (I.rdbox 0 rfl 4 1) rfl rfl) ?_
            refine Ops.ygt rfl (v := .pointer (some ⟨_, _, none⟩)) (Y.fa fa_64_1 rfl) ?_
            refine Ops.ygt rfl (v := .int .i64 _) (Y.loadv ty_3 rfl (I.rdbox 0 rfl 2 1) rfl rfl) ?_
            refine Ops.ygt rfl (v := .pointer (some ⟨_, _, none⟩)) (Y.idxEl EB Tryz.underlying62 Tryz.sizeOf68 rfl rfl c1 rfl) ?_
            refine Ops.ygt rfl (v := .pointer (some ⟨_, _, none⟩)) (Y.fa0 fa_68_0 rfl) ?_
            refine Ops.ygt rfl (v := .bool false) (Y.b (Y.loadv ty_4 rfl (I.rd (EB.rd.part 0 1)) rfl rfl) ((by simpa using c2))) ?_
            refine Ops.ygt rfl (v := .bool _) (Y.move rfl) ?_
            refine Ops.ygt rfl (v := .slice _ _ _) (Y.move rfl) ?_
            refine Ops.ygt rfl (v := .pointer (some ⟨_, _, none⟩)) (Y.fa fa_64_3 rfl) ?_
            refine Ops.ygt rfl (v := .slice _ _ _) (Y.loadv ty_62 rfl (I.rdbox 0 rfl 4 1) rfl rfl) ?_
            refine Ops.ygt rfl (v := .pointer (some ⟨_, _, none⟩)) (Y.fa fa_64_1 rfl) ?_
            refine Ops.ygt rfl (v := .int .i64 _) (Y.loadv ty_3 rfl (I.rdbox 0 rfl 2 1) rfl rfl) ?_
            refine Ops.ygt rfl (v := .pointer (some ⟨_, _, none⟩)) (Y.idxEl EB Tryz.underlying62 Tryz.sizeOf68 rfl rfl c1 rfl) ?_
            refine Ops.ygt rfl (v := .pointer (some ⟨_, _, none⟩)) (Y.fa fa_68_1 rfl) ?_
            refine Ops.ygt rfl (v := .pointer (some ⟨_, _, none⟩)) (Y.fa0 fa_61_0 rfl) ?_
            refine Ops.ygt rfl (v := .int .i64 _) (Y.loadv ty_3 rfl (I.rd (EB.rd.part 1 1)) rfl rfl) ?_
            refine Ops.ygt rfl (v := .pointer (some ⟨_, _, none⟩)) (Y.idxEl EP Tryz.underlying22 Tryz.sizeOf53 rfl rfl hap.1 rfl) ?_
            refine Ops.ygt rfl (v := .pointer (some ⟨_, _, none⟩)) (Y.fa fa_53_2 rfl) ?_
            refine Ops.ygt rfl (v := .int .i64 _) (Y.loadv ty_3 rfl (I.rd (EP.rd.part 2 1)) rfl rfl) ?_
            refine Ops.ygt rfl (v := .int .i64 _) (Y.move rfl) ?_
            refine Ops.ygt rfl (v := .bool false) (Y.dec_f (Y.nei rfl rfl) (c3)) ?_
            refine Ops.ygt rfl (v := .bool _) (Y.pick_f rfl rfl) ?_
            refine Ops.y (v := .bool _) (Y.pick_t rfl rfl) ?_
            refine Ops.y (v := .bool _) (Y.assign rfl) ?_
            refine Ops.nil ?_
            exact ⟨(), ⟨rfl, bF (fun h => h.2.elim c2 c3), trivial⟩, I⟩
      · refine WP.region ?_
        refine Ops.y (v := .pointer (some ⟨_, _, none⟩)) (Y.fa fa_64_1 rfl) ?_
        refine Ops.y (v := .int .i64 _) (Y.loadv ty_3 rfl (I.rdbox 0 rfl 2 1) rfl rfl) ?_
        refine Ops.y (v := .bool false) (Y.dec_f (Y.gei rfl rfl) (c1)) ?_
        refine Ops.y (v := .bool _) (Y.move rfl) ?_
        refine Ops.gf rfl ?_
        refine Ops.gf rfl ?_
        refine Ops.gf rfl ?_
        refine Ops.gf rfl ?_
        refine Ops.gf rfl ?_
        refine Ops.gf rfl ?_
        refine Ops.gf rfl ?_
        refine Ops.gf rfl ?_
        refine Ops.gf rfl ?_
        refine Ops.gf rfl ?_
        refine Ops.gf rfl ?_
        refine Ops.gf rfl ?_
        refine Ops.gf rfl ?_
        refine Ops.gf rfl ?_
        refine Ops.gf rfl ?_
        refine Ops.gf rfl ?_
        refine Ops.gf rfl ?_
        refine Ops.gf rfl ?_
        refine Ops.gf rfl ?_
        refine Ops.gf rfl ?_
        refine Ops.gf rfl ?_
        refine Ops.gf rfl ?_
        refine Ops.gf rfl ?_
        refine Ops.y (v := .bool _) (Y.pick_f rfl rfl) ?_
        refine Ops.y (v := .bool _) (Y.assign rfl) ?_
        refine Ops.nil ?_
        exact ⟨(), ⟨rfl, bF (fun h => c1 h.1), trivial⟩, I⟩
    rintro _ e w I
    refine WP.cond_dec rfl (fun d2 => ?_) (fun d2 => ?_)
    · refine WP.seq ?_
      refine WP.region ?_
      refine Ops.y (v := .int .i64 _) (Y.assign rfl) ?_
      refine Ops.nil ?_
      refine WP.ret ?_
      repeat (first | refine thenE_ret ?_ | refine blockE_ret ?_)
      exact retQ.mk (vs := [.int .i64 _]) rfl ⟨rfl, trivial⟩ I.ext_of (by simp only [tup, checkRule]; rw [if_neg (by simp [h1]), if_neg (by omega), if_neg (by simp [hb0]), hfr, if_neg (by simp), if_neg (by omega), if_neg d1, if_pos d2])
    refine WP.seq ?_
    by_cases o0 : r.n < 0
    · refine WP.region ?_
      refine Ops.y (v := .pointer (some ⟨_, _, none⟩)) (Y.fa fa_64_2 rfl) ?_
      refine Ops.y (v := .int .i64 _) (Y.loadv ty_3 rfl (I.rdbox 0 rfl 3 1) rfl rfl) ?_
      refine Ops.y (v := .bool true) (Y.dec_t (Y.lti rfl rfl) (o0)) ?_
      refine Ops.y (v := .bool _) (Y.move rfl) ?_
      refine Ops.gf rfl ?_
      refine Ops.gf rfl ?_
      refine Ops.gf rfl ?_
      refine Ops.y (v := .bool _) (Y.pick_t rfl rfl) ?_
      refine Ops.y (v := .bool _) (Y.assign rfl) ?_
      refine Ops.nil ?_
      refine WP.cond_t rfl ?_
      refine WP.seq ?_
      refine WP.region ?_
      refine Ops.y (v := .int .i64 _) (Y.assign rfl) ?_
      refine Ops.nil ?_
      refine WP.ret ?_
      repeat (first | refine thenE_ret ?_ | refine blockE_ret ?_)
      exact retQ.mk (vs := [.int .i64 _]) rfl ⟨rfl, trivial⟩ I.ext_of (by simp only [tup, checkRule]; rw [if_neg (by simp [h1]), if_neg (by omega), if_neg (by simp [hb0]), hfr, if_neg (by simp), if_neg (by omega), if_neg d1, if_neg d2, if_pos (by omega)])
    by_cases o1 : 15 < r.n
    · refine WP.region ?_
      refine Ops.y (v := .pointer (some ⟨_, _, none⟩)) (Y.fa fa_64_2 rfl) ?_
      refine Ops.y (v := .int .i64 _) (Y.loadv ty_3 rfl (I.rdbox 0 rfl 3 1) rfl rfl) ?_
      refine Ops.y (v := .bool false) (Y.dec_f (Y.lti rfl rfl) (o0)) ?_
      refine Ops.y (v := .bool _) (Y.move rfl) ?_
      refine Ops.ygt rfl (v := .pointer (some ⟨_, _, none⟩)) (Y.fa fa_64_2 rfl) ?_
      refine Ops.ygt rfl (v := .int .i64 _) (Y.loadv ty_3 rfl (I.rdbox 0 rfl 3 1) rfl rfl) ?_
      refine Ops.ygt rfl (v := .bool true) (Y.dec_t (Y.gti rfl rfl) (o1)) ?_
      refine Ops.y (v := .bool _) (Y.pick_f rfl rfl) ?_
      refine Ops.y (v := .bool _) (Y.assign rfl) ?_
      refine Ops.nil ?_
      refine WP.cond_t rfl ?_
      refine WP.seq ?_
      refine WP.region ?_
      refine Ops.y (v := .int .i64 _) (Y.assign rfl) ?_
      refine Ops.nil ?_
      refine WP.ret ?_
      repeat (first | refine thenE_ret ?_ | refine blockE_ret ?_)
      exact retQ.mk (vs := [.int .i64 _]) rfl ⟨rfl, trivial⟩ I.ext_of (by simp only [tup, checkRule]; rw [if_neg (by simp [h1]), if_neg (by omega), if_neg (by simp [hb0]), hfr, if_neg (by simp), if_neg (by omega), if_neg d1, if_neg d2, if_pos (by omega)])
    refine WP.region ?_
    refine Ops.y (v := .pointer (some ⟨_, _, none⟩)) (Y.fa fa_64_2 rfl) ?_
    refine Ops.y (v := .int .i64 _) (Y.loadv ty_3 rfl (I.rdbox 0 rfl 3 1) rfl rfl) ?_
    refine Ops.y (v := .bool false) (Y.dec_f (Y.lti rfl rfl) (o0)) ?_
    refine Ops.y (v := .bool _) (Y.move rfl) ?_
    refine Ops.ygt rfl (v := .pointer (some ⟨_, _, none⟩)) (Y.fa fa_64_2 rfl) ?_
    refine Ops.ygt rfl (v := .int .i64 _) (Y.loadv ty_3 rfl (I.rdbox 0 rfl 3 1) rfl rfl) ?_
    refine Ops.ygt rfl (v := .bool false) (Y.dec_f (Y.gti rfl rfl) (o1)) ?_
    refine Ops.y (v := .bool _) (Y.pick_f rfl rfl) ?_
    refine Ops.y (v := .bool _) (Y.assign rfl) ?_
    refine Ops.nil ?_
    refine WP.cond_f rfl ?_
    refine WP.skip ?_
    refine WP.seq ?_
    refine WP.region ?_
    refine Ops.y (v := .int .i64 _) (Y.assign rfl) ?_
    refine Ops.nil ?_
    refine WP.ret ?_
    repeat (first | refine thenE_ret ?_ | refine blockE_ret ?_)
    exact retQ.mk (vs := [.int .i64 _]) rfl ⟨rfl, trivial⟩ I.ext_of (by simp only [tup, checkRule]; rw [if_neg (by simp [h1]), if_neg (by omega), if_neg (by simp [hb0]), hfr, if_neg (by simp), if_neg (by omega), if_neg d1, if_neg d2, if_neg (by omega)])
  · intro q w hq hnd I
    refine Ops.y (v := .bool _) (Y.extract rfl rfl) ?_
    refine Ops.nil ?_
    refine WP.seq ?_
    refine WP.cond_t rfl ?_
    obtain ⟨v, x, hvx, hkq, hvq⟩ := ents_of hi7 hq
    refine WP.skip ?_
    refine WP.block ?_
    refine WP.seq ?_
    refine WP.region ?_
    refine Ops.y (v := .tuple #[.int .i64 v, .int .i64 x]) (hkq ▸ hvq ▸ Y.entry I 0 rfl rfl hm7 hi7 hq) ?_
    refine Ops.y (v := .int .i64 _) (Y.extract rfl rfl) ?_
    refine Ops.y (v := .int .i64 _) (Y.assign rfl) ?_
    refine Ops.nil ?_
    refine WP.seq ?_
    refine WP.region ?_
    refine Ops.y (v := .map _) (Y.move rfl) ?_
    refine Ops.y (v := .int .i64 _) (Y.move rfl) ?_
    refine Ops.y (v := .int .i64 _) (Y.lookup I Tryz.underlying157 Tryz.underlying3 Tryz.zeroValue3 1 rfl rfl rfl) ?_
    refine Ops.y (v := .bool (decide _)) (Y.eqi rfl rfl) ?_
    refine Ops.nil ?_
    refine WP.cond_dec rfl (fun hz => ?_) (fun hz => ?_)
    · refine WP.seq ?_
      refine WP.region ?_
      refine Ops.y (v := .int .i64 _) (Y.assign rfl) ?_
      refine Ops.nil ?_
      have hz' : cntA (poss r.body.xs) v = 0 := by rw [hc.get v] at hz; omega
      have hnz : cntA (negs r.body.xs ++ [r.head]) v ≠ 0 := fun h0 => mem_ilook hvx (by rw [hcn v, if_pos h0])
      refine WP.ret ?_
      repeat (first | refine thenE_ret ?_ | refine blockE_ret ?_)
      exact retQ.mk (vs := [.int .i64 _]) rfl ⟨rfl, trivial⟩ I.ext_of (by simp only [tup, checkRule]; rw [if_neg (by simp [h1]), if_neg (by omega), if_neg (by simp [hb0]), if_pos (free_any (freeVar_iff.2 ⟨hnz, hz'⟩) h1 hb0)])
    refine WP.skip ?_
    refine ⟨done ++ [q.born], ⟨⟨rfl, rfl, rfl, rfl, trivial⟩, I, fun q' hq' hb' v' hv' => ?_⟩, filter_shorter hq (by simp) (by simpa using hnd) (fun y _ hy => by simp at hy ⊢; exact hy.1)⟩
    rcases List.mem_append.1 hb' with h8 | h8
    · exact hd q' hq' h8 v' hv'
    · have : q' = q := nodup_inj hi7.nodup hq' hq (List.mem_singleton.1 h8)
      subst this
      rw [hkq] at hv'
      cases hv'
      rw [hc.get v] at hz
      omega
end Go.TF
end
section
/- prog.Check. -/
namespace Go.TF
open Go Go.RowKit Go.Proofs
set_option maxRecDepth 20000

theorem Check2_ok (B : Base) (hB : B.ok) (x : Prd) (hx : x.name.size ≤ 140737488355328) : Fn Tryz.prog 56 [x.val] B (fun v _ => v = .bool !(isName x.name)) := by
  refine Fn.of Tryz.func56 rfl Tryz.ntmps56 (by kernel_rfl) (by simp) ?_
  intro e
  have I := Inv.start hB
  refine WP.seq ?_
  refine WP.region ?_
  refine Ops.go (O.box (v := .agg #[_, _, _]) I rfl rfl ?_)
  intro b1 w I
  refine Ops.y (v := .bool _) (Y.assign rfl) ?_
  refine Ops.nil ?_
  refine WP.seq ?_
  refine WP.region ?_
  refine Ops.y (v := .pointer (some ⟨_, _, none⟩)) (Y.fa0 fa_53_0 rfl) ?_
  refine Ops.y (v := .string _) (Y.loadv ty_9 rfl (I.rdbox 0 rfl 0 1) rfl rfl) ?_
  refine Ops.go (O.callv I Tryz.call57 (Name_ok _ I.base_ok x.name hx) rfl ?_)
  intro w I
  refine Ops.y (v := .bool _) (Y.not rfl) ?_
  refine Ops.y (v := .bool _) (Y.assign rfl) ?_
  refine Ops.nil ?_
  refine WP.ret ?_
  repeat (first | refine thenE_ret ?_ | refine blockE_ret ?_)
  exact retQ.mk (vs := [.bool _]) rfl ⟨rfl, trivial⟩ I.ext_of (rfl)
theorem Check4_ok (B : Base) (hB : B.ok) (x : Prd) : Fn Tryz.prog 59 [x.val] B (fun v _ => v = .bool (badArity x)) := by
  by_cases h : x.arity < 0
  · refine Fn.of Tryz.func59 rfl Tryz.ntmps59 (by kernel_rfl) (by simp) ?_
    intro e
    have I := Inv.start hB
    refine WP.seq ?_
    refine WP.region ?_
    refine Ops.go (O.box (v := .agg #[_, _, _]) I rfl rfl ?_)
    intro b1 w I
    refine Ops.y (v := .bool _) (Y.assign rfl) ?_
    refine Ops.nil ?_
    refine WP.seq ?_
    refine WP.region ?_
    refine Ops.y (v := .pointer (some ⟨_, _, none⟩)) (Y.fa fa_53_1 rfl) ?_
    refine Ops.y (v := .int .i64 _) (Y.loadv ty_3 rfl (I.rdbox 0 rfl 1 1) rfl rfl) ?_
    refine Ops.y (v := .bool true) (Y.dec_t (Y.lti rfl rfl) (h)) ?_
    refine Ops.y (v := .bool _) (Y.move rfl) ?_
    refine Ops.gf rfl ?_
    refine Ops.gf rfl ?_
    refine Ops.gf rfl ?_
    refine Ops.y (v := .bool _) (Y.pick_t rfl rfl) ?_
    refine Ops.y (v := .bool _) (Y.assign rfl) ?_
    refine Ops.nil ?_
    refine WP.ret ?_
    repeat (first | refine thenE_ret ?_ | refine blockE_ret ?_)
    exact retQ.mk (vs := [.bool _]) rfl ⟨rfl, trivial⟩ I.ext_of (by simp only [tup, badArity]; rw [decide_eq_true (Or.inl h)])
  · refine Fn.of Tryz.func59 rfl Tryz.ntmps59 (by kernel_rfl) (by simp) ?_
    intro e
    have I := Inv.start hB
    refine WP.seq ?_
    refine WP.region ?_
    refine Ops.go (O.box (v := .agg #[_, _, _]) I rfl rfl ?_)
    intro b1 w I
    refine Ops.y (v := .bool _) (Y.assign rfl) ?_
    refine Ops.nil ?_
    refine WP.seq ?_
    refine WP.region ?_
    refine Ops.y (v := .pointer (some ⟨_, _, none⟩)) (Y.fa fa_53_1 rfl) ?_
    refine Ops.y (v := .int .i64 _) (Y.loadv ty_3 rfl (I.rdbox 0 rfl 1 1) rfl rfl) ?_
    refine Ops.y (v := .bool false) (Y.dec_f (Y.lti rfl rfl) (h)) ?_
    refine Ops.y (v := .bool _) (Y.move rfl) ?_
    refine Ops.ygt rfl (v := .pointer (some ⟨_, _, none⟩)) (Y.fa fa_53_1 rfl) ?_
    refine Ops.ygt rfl (v := .int .i64 _) (Y.loadv ty_3 rfl (I.rdbox 0 rfl 1 1) rfl rfl) ?_
    refine Ops.ygt rfl (v := .bool (decide _)) (Y.gti rfl rfl) ?_
    refine Ops.y (v := .bool _) (Y.pick_f rfl rfl) ?_
    refine Ops.y (v := .bool _) (Y.assign rfl) ?_
    refine Ops.nil ?_
    refine WP.ret ?_
    repeat (first | refine thenE_ret ?_ | refine blockE_ret ?_)
    exact retQ.mk (vs := [.bool _]) rfl ⟨rfl, trivial⟩ I.ext_of (by simp only [tup, badArity]; congr 1; rw [decide_eq_decide]; omega)
theorem Check5_ok (B : Base) (hB : B.ok) (x : Prd) : Fn Tryz.prog 60 [x.val] B (fun v _ => v = .bool (badKind x)) := by
  by_cases h : x.kind < 0
  · refine Fn.of Tryz.func60 rfl Tryz.ntmps60 (by kernel_rfl) (by simp) ?_
    intro e
    have I := Inv.start hB
    refine WP.seq ?_
    refine WP.region ?_
    refine Ops.go (O.box (v := .agg #[_, _, _]) I rfl rfl ?_)
    intro b1 w I
    refine Ops.y (v := .bool _) (Y.assign rfl) ?_
    refine Ops.nil ?_
    refine WP.seq ?_
    refine WP.region ?_
    refine Ops.y (v := .pointer (some ⟨_, _, none⟩)) (Y.fa fa_53_2 rfl) ?_
    refine Ops.y (v := .int .i64 _) (Y.loadv ty_3 rfl (I.rdbox 0 rfl 2 1) rfl rfl) ?_
    refine Ops.y (v := .bool true) (Y.dec_t (Y.lti rfl rfl) (h)) ?_
    refine Ops.y (v := .bool _) (Y.move rfl) ?_
    refine Ops.gf rfl ?_
    refine Ops.gf rfl ?_
    refine Ops.gf rfl ?_
    refine Ops.y (v := .bool _) (Y.pick_t rfl rfl) ?_
    refine Ops.y (v := .bool _) (Y.assign rfl) ?_
    refine Ops.nil ?_
    refine WP.ret ?_
    repeat (first | refine thenE_ret ?_ | refine blockE_ret ?_)
    exact retQ.mk (vs := [.bool _]) rfl ⟨rfl, trivial⟩ I.ext_of (by simp only [tup, badKind]; rw [decide_eq_true (Or.inl h)])
  · refine Fn.of Tryz.func60 rfl Tryz.ntmps60 (by kernel_rfl) (by simp) ?_
    intro e
    have I := Inv.start hB
    refine WP.seq ?_
    refine WP.region ?_
    refine Ops.go (O.box (v := .agg #[_, _, _]) I rfl rfl ?_)
    intro b1 w I
    refine Ops.y (v := .bool _) (Y.assign rfl) ?_
    refine Ops.nil ?_
    refine WP.seq ?_
    refine WP.region ?_
    refine Ops.y (v := .pointer (some ⟨_, _, none⟩)) (Y.fa fa_53_2 rfl) ?_
    refine Ops.y (v := .int .i64 _) (Y.loadv ty_3 rfl (I.rdbox 0 rfl 2 1) rfl rfl) ?_
    refine Ops.y (v := .bool false) (Y.dec_f (Y.lti rfl rfl) (h)) ?_
    refine Ops.y (v := .bool _) (Y.move rfl) ?_
    refine Ops.ygt rfl (v := .pointer (some ⟨_, _, none⟩)) (Y.fa fa_53_2 rfl) ?_
    refine Ops.ygt rfl (v := .int .i64 _) (Y.loadv ty_3 rfl (I.rdbox 0 rfl 2 1) rfl rfl) ?_
    refine Ops.ygt rfl (v := .bool (decide _)) (Y.gti rfl rfl) ?_
    refine Ops.y (v := .bool _) (Y.pick_f rfl rfl) ?_
    refine Ops.y (v := .bool _) (Y.assign rfl) ?_
    refine Ops.nil ?_
    refine WP.ret ?_
    repeat (first | refine thenE_ret ?_ | refine blockE_ret ?_)
    exact retQ.mk (vs := [.bool _]) rfl ⟨rfl, trivial⟩ I.ext_of (by simp only [tup, badKind]; congr 1; rw [decide_eq_decide]; omega)
theorem PChk1_ok (B : Base) (hB : B.ok) (p : Prg) (b : Nat) (hb : PBox B.h b p) (hl : Prds p.preds B.h) (f : FuncId) (ent : Enters Tryz.prog f) (fs cs : List Value) (q : Prd → Bool) (hq : PredFn Tryz.prog f fs cs B.h Prd.val p.preds.xs q) :
    Fn Tryz.prog 54 [.func (.func f) fs.toArray cs.toArray, .pointer (some ⟨b, 0, none⟩)] B (fun v _ => v = .bool (p.preds.xs.any q)) := by
  refine Fn.of Tryz.func54 rfl Tryz.ntmps54 (by kernel_rfl) (by simp) ?_
  intro e
  have I := Inv.start hB
  refine WP.seq ?_
  refine WP.region ?_
  refine Ops.y (v := .bool _) (Y.assign rfl) ?_
  refine Ops.nil ?_
  refine WP.seq ?_
  refine WP.region ?_
  refine Ops.y (v := .pointer (some ⟨_, _, none⟩)) (Y.fa0 fa_25_0 rfl) ?_
  refine Ops.y (v := .slice _ _ _) (Y.loadv ty_22 rfl (I.rd (rdHb hb 0 1)) rfl rfl) ?_
  refine Ops.y (v := .func _ _ _) (Y.move rfl) ?_
  refine Ops.go (O.callv I Tryz.call55 (ContainsFuncPrd_ok _ I.base_ok p.preds hl f ent fs cs q hq) rfl ?_)
  intro w I
  refine Ops.y (v := .bool _) (Y.assign rfl) ?_
  refine Ops.nil ?_
  refine WP.ret ?_
  repeat (first | refine thenE_ret ?_ | refine blockE_ret ?_)
  exact retQ.mk (vs := [.bool _]) rfl ⟨rfl, trivial⟩ I.ext_of (rfl)

/-! ### A predicate that keeps something -/
theorem IndexFuncPrd_S (l : Sl Prd) (h0 : Heap) (hl : l.Is 3 Prd.enc h0) (f : FuncId) (ent : Enters Tryz.prog f) (fs cs : List Value) (J : Heap → Nat → World → Prop) (q : Nat → Bool)
    (hok : ∀ hg k W, J hg k W → Base.ok ⟨W, hg⟩)
    (hp : ∀ hg k x W, h0.le hg → l.xs[k]? = some x → J hg k W → Calls Tryz.prog f (fs ++ [x.val] ++ cs).toArray W fun ed W' => ed = .returned (.bool (q k)) ∧ ∃ hg', hg.le hg' ∧ J hg' (k + 1) W') (hg : Heap) (W : World) (hle : h0.le hg) (j0 : J hg 0 W) :
    Calls Tryz.prog 114 [l.val, .func (.func f) fs.toArray cs.toArray].toArray W (fun ed W' => ∃ r : Int, ed = .returned (.int .i64 r) ∧ decide (0 ≤ r) = (List.range l.xs.length).any q ∧ ∃ hg' k, hg.le hg' ∧ J hg' k W') := by
  have hsm := hl.small
  refine Calls.ofWP (args := [l.val, .func (.func f) fs.toArray cs.toArray]) Tryz.func114 rfl Tryz.ntmps114 (by kernel_rfl) (by simp) ?_
  intro e
  refine WP.seq ?_
  refine WP.region ?_
  refine Ops.y (v := .int .i64 _) (Y.assign rfl) ?_
  refine Ops.nil ?_
  refine WP.seq ?_
  refine WP.seq ?_
  refine WP.region ?_
  refine Ops.y (v := .slice _ _ _) (Y.move rfl) ?_
  refine Ops.y (v := .int .i64 _) (Y.lens Tryz.underlying22 rfl) ?_
  refine Ops.y (v := .int .i64 _) (Y.move rfl) ?_
  refine Ops.nil ?_
  refine WP.block ?_
  refine WP.loopE (σ := Nat) (fun k => [(0, l.val), (1, .func (.func f) fs.toArray cs.toArray), (7, .int .i64 l.xs.length), (8, .int .i64 k)]) (fun k w => k ≤ l.xs.length ∧ (∀ j, j < k → q j = false) ∧ ∃ h1, hg.le h1 ∧ J h1 k w) (fun k => l.xs.length - k)
    ⟨0, ⟨rfl, rfl, rfl, rfl, trivial⟩, Nat.zero_le _, fun j hj => by omega, hg, Heap.le.refl _, j0⟩ ?_
  rintro k e w ⟨hk, hn, h1, gl1, j1⟩
  have I := Inv.start (hok _ _ _ j1)
  refine WP.seq ?_
  refine WP.region ?_
  refine Ops.y (v := .bool (decide _)) (Y.lti rfl rfl) ?_
  refine Ops.nil ?_
  refine WP.seq ?_
  refine WP.cond_dec rfl (fun h => ?_) (fun h => ?_)
  · have hk' : k < l.xs.length := by omega
    have E1 := (hl.le (hle.trans gl1)).at hk'
    refine WP.skip ?_
    refine WP.seq ?_
    refine WP.block ?_
    refine WP.seq ?_
    refine WP.region ?_
    refine Ops.y (v := .int .i64 _) (Y.move rfl) ?_
    refine Ops.y (v := .int .i64 _) (Y.assign rfl) ?_
    refine Ops.nil ?_
    refine WP.seq ?_
    refine WP.region ?_
    refine Ops.y (v := .func _ _ _) (Y.move rfl) ?_
    refine Ops.y (v := .slice _ _ _) (Y.move rfl) ?_
    refine Ops.y (v := .int .i64 _) (Y.move rfl) ?_
    refine Ops.y (v := .pointer (some ⟨_, _, none⟩)) (Y.idxEl E1 Tryz.underlying22 Tryz.sizeOf53 rfl rfl (Int.natCast_nonneg _) rfl) ?_
    refine Ops.y (v := .agg #[_, _, _]) (Y.loadv ty_53 rfl (I.rd (E1.rd.part 0 3)) rfl rfl) ?_
    refine Ops.go (O.callcs ent rfl (hp h1 k _ _ (hle.trans gl1) (List.getElem?_eq_getElem hk') j1) rfl ?_)
    rintro ed w ⟨rfl, h2, gl2, j2⟩
    refine ⟨_, rfl, ?_⟩
    refine Ops.nil ?_
    refine WP.cond rfl (fun hb => ?_) (fun hb => ?_)
    · refine WP.seq ?_
      refine WP.region ?_
      refine Ops.y (v := .int .i64 _) (Y.move rfl) ?_
      refine Ops.y (v := .int .i64 _) (Y.assign rfl) ?_
      refine Ops.nil ?_
      refine WP.ret ?_
      repeat (first | refine thenE_ret ?_ | refine blockE_ret ?_)
      exact ⟨.inl rfl, [.int .i64 k], ⟨rfl, trivial⟩, k, rfl, by rw [decide_eq_true (Int.natCast_nonneg _)]; exact (List.any_eq_true.2 ⟨k, List.mem_range.2 hk', hb⟩).symm, h2, k + 1, gl1.trans gl2, j2⟩
    refine WP.skip ?_
    refine WP.region ?_
    refine Ops.y (v := .int .i64 _) (Y.addi rfl rfl ⟨by omega, by omega⟩) ?_
    refine Ops.y (v := .int .i64 _) (Y.move rfl) ?_
    refine Ops.nil ?_
    exact ⟨k + 1, ⟨⟨rfl, rfl, rfl, rfl, trivial⟩, hk', fun j hj => by
      rcases Nat.lt_succ_iff_lt_or_eq.1 hj with h' | rfl
      · exact hn j h'
      · exact hb, h2, gl1.trans gl2, j2⟩, by omega⟩
  refine WP.exit ?_
  refine WP.seq ?_
  refine WP.region ?_
  refine Ops.y (v := .int .i64 _) (Y.assign rfl) ?_
  refine Ops.nil ?_
  refine WP.ret ?_
  repeat (first | refine thenE_ret ?_ | refine blockE_ret ?_)
  exact ⟨.inl rfl, [.int .i64 (-1)], ⟨rfl, trivial⟩, -1, rfl, by
    rw [decide_eq_false (by omega)]
    symm
    rw [List.any_eq_false]
    intro j hj
    rw [hn j (by have := List.mem_range.1 hj; omega)]; decide, h1, k, gl1, j1⟩
theorem ContainsFuncPrd_S (l : Sl Prd) (h0 : Heap) (hl : l.Is 3 Prd.enc h0) (f : FuncId) (ent : Enters Tryz.prog f) (fs cs : List Value) (J : Heap → Nat → World → Prop) (q : Nat → Bool)
    (hok : ∀ hg k W, J hg k W → Base.ok ⟨W, hg⟩)
    (hp : ∀ hg k x W, h0.le hg → l.xs[k]? = some x → J hg k W → Calls Tryz.prog f (fs ++ [x.val] ++ cs).toArray W fun ed W' => ed = .returned (.bool (q k)) ∧ ∃ hg', hg.le hg' ∧ J hg' (k + 1) W') (hg : Heap) (W : World) (hle : h0.le hg) (j0 : J hg 0 W) :
    Calls Tryz.prog 55 [l.val, .func (.func f) fs.toArray cs.toArray].toArray W (fun ed W' => ed = .returned (.bool ((List.range l.xs.length).any q)) ∧ ∃ hg' k, hg.le hg' ∧ J hg' k W') := by
  refine Calls.ofWP (args := [l.val, .func (.func f) fs.toArray cs.toArray]) Tryz.func55 rfl Tryz.ntmps55 (by kernel_rfl) (by simp) ?_
  intro e
  have I := Inv.start (hok _ _ _ j0)
  refine WP.seq ?_
  refine WP.region ?_
  refine Ops.y (v := .bool _) (Y.assign rfl) ?_
  refine Ops.nil ?_
  refine WP.seq ?_
  refine WP.region ?_
  refine Ops.y (v := .slice _ _ _) (Y.move rfl) ?_
  refine Ops.y (v := .func _ _ _) (Y.move rfl) ?_
  refine Ops.go (O.calls Tryz.call114 (IndexFuncPrd_S l h0 hl f ent fs cs J q hok hp hg _ hle j0) rfl ?_)
  rintro ed w ⟨r, rfl, hr, h2, k, gl2, j2⟩
  refine ⟨_, rfl, ?_⟩
  refine Ops.y (v := .bool (decide _)) (Y.gei rfl rfl) ?_
  refine Ops.y (v := .bool _) (Y.assign rfl) ?_
  refine Ops.nil ?_
  refine WP.ret ?_
  repeat (first | refine thenE_ret ?_ | refine blockE_ret ?_)
  exact ⟨.inl rfl, [.bool _], ⟨rfl, trivial⟩, by rw [← hr]; rfl, h2, k, gl2, j2⟩
theorem Check1_S (p : Prg) (b : Nat) (h0 : Heap) (hb : PBox h0 b p) (hl : Prds p.preds h0) (f : FuncId) (ent : Enters Tryz.prog f) (fs cs : List Value) (J : Heap → Nat → World → Prop) (q : Nat → Bool)
    (hok : ∀ hg k W, J hg k W → Base.ok ⟨W, hg⟩)
    (hp : ∀ hg k x W, h0.le hg → p.preds.xs[k]? = some x → J hg k W → Calls Tryz.prog f (fs ++ [x.val] ++ cs).toArray W fun ed W' => ed = .returned (.bool (q k)) ∧ ∃ hg', hg.le hg' ∧ J hg' (k + 1) W') (hg : Heap) (W : World) (hle : h0.le hg) (j0 : J hg 0 W) :
    Calls Tryz.prog 54 [.func (.func f) fs.toArray cs.toArray, .pointer (some ⟨b, 0, none⟩)].toArray W (fun ed W' => ed = .returned (.bool ((List.range p.preds.xs.length).any q)) ∧ ∃ hg' k, hg.le hg' ∧ J hg' k W') := by
  refine Calls.ofWP (args := [.func (.func f) fs.toArray cs.toArray, .pointer (some ⟨b, 0, none⟩)]) Tryz.func54 rfl Tryz.ntmps54 (by kernel_rfl) (by simp) ?_
  intro e
  have I := Inv.start (hok _ _ _ j0)
  refine WP.seq ?_
  refine WP.region ?_
  refine Ops.y (v := .bool _) (Y.assign rfl) ?_
  refine Ops.nil ?_
  refine WP.seq ?_
  refine WP.region ?_
  refine Ops.y (v := .pointer (some ⟨_, _, none⟩)) (Y.fa0 fa_25_0 rfl) ?_
  refine Ops.y (v := .slice _ _ _) (Y.loadv ty_22 rfl (I.rd ((rdHb hb 0 1).le hle)) rfl rfl) ?_
  refine Ops.y (v := .func _ _ _) (Y.move rfl) ?_
  refine Ops.go (O.calls Tryz.call55 (ContainsFuncPrd_S p.preds h0 hl f ent fs cs J q hok hp hg _ hle j0) rfl ?_)
  rintro ed w ⟨rfl, h2, k, gl2, j2⟩
  refine ⟨_, rfl, ?_⟩
  refine Ops.y (v := .bool _) (Y.assign rfl) ?_
  refine Ops.nil ?_
  refine WP.ret ?_
  repeat (first | refine thenE_ret ?_ | refine blockE_ret ?_)
  exact ⟨.inl rfl, [.bool _], ⟨rfl, trivial⟩, rfl, h2, k, gl2, j2⟩
theorem Check3_S (B : Base) (h : Heap) (b4 bm : Nat) (es : List (ByteArray × Int)) (W : World) (I : Inv B h [box b4 [.map (some bm)] 107, smap bm es] W) (x : Prd) (hr : I64 ((slook es x.name).getD 0 + 1)) :
    Calls Tryz.prog 58 [x.val, .pointer (some ⟨b4, 0, none⟩)].toArray W (fun ed W' => ed = .returned (.bool (decide (1 < (slook es x.name).getD 0 + 1))) ∧ Inv B h [box b4 [.map (some bm)] 107, smap bm (sset es x.name ((slook es x.name).getD 0 + 1))] W') := by
  refine Calls.ofWP (args := [x.val, .pointer (some ⟨b4, 0, none⟩)]) Tryz.func58 rfl Tryz.ntmps58 (by kernel_rfl) (by simp) ?_
  intro e
  refine WP.seq ?_
  refine WP.region ?_
  refine Ops.go (O.box (v := .agg #[_, _, _]) I rfl rfl ?_)
  intro b2 w I
  refine Ops.y (v := .bool _) (Y.assign rfl) ?_
  refine Ops.nil ?_
  refine WP.seq ?_
  refine WP.region ?_
  refine Ops.y (v := .map _) (Y.loadv ty_107 rfl (I.rdbox 1 rfl 0 1) rfl rfl) ?_
  refine Ops.y (v := .pointer (some ⟨_, _, none⟩)) (Y.fa0 fa_53_0 rfl) ?_
  refine Ops.y (v := .string _) (Y.loadv ty_9 rfl (I.rdbox 0 rfl 0 1) rfl rfl) ?_
  refine Ops.y (v := .int .i64 _) (Y.lookups I Tryz.underlying107 Tryz.underlying9 Tryz.zeroValue3 2 rfl rfl rfl) ?_
  refine Ops.y (v := .int .i64 _) (Y.addi rfl rfl hr) ?_
  refine Ops.go (O.mapsets I Tryz.underlying107 Tryz.underlying9 2 rfl rfl rfl rfl ?_)
  intro w I
  refine Ops.nil ?_
  refine WP.seq ?_
  refine WP.region ?_
  refine Ops.y (v := .map _) (Y.loadv ty_107 rfl (I.rdbox 1 rfl 0 1) rfl rfl) ?_
  refine Ops.y (v := .pointer (some ⟨_, _, none⟩)) (Y.fa0 fa_53_0 rfl) ?_
  refine Ops.y (v := .string _) (Y.loadv ty_9 rfl (I.rdbox 0 rfl 0 1) rfl rfl) ?_
  refine Ops.y (v := .int .i64 _) (Y.lookups I Tryz.underlying107 Tryz.underlying9 Tryz.zeroValue3 2 rfl rfl rfl) ?_
  refine Ops.y (v := .bool (decide _)) (Y.gti rfl rfl) ?_
  refine Ops.y (v := .bool _) (Y.assign rfl) ?_
  refine Ops.nil ?_
  refine WP.ret ?_
  repeat (first | refine thenE_ret ?_ | refine blockE_ret ?_)
  have hs : slook (sset es x.name ((slook es x.name).getD 0 + 1)) x.name = some ((slook es x.name).getD 0 + 1) := by rw [slook_sset, if_pos rfl]
  exact ⟨.inl rfl, [.bool (decide (1 < (slook es x.name).getD 0 + 1))], ⟨by rw [hs]; rfl, trivial⟩, rfl, I.drop⟩
end Go.TF
end
section
/- prog.Check, whole. -/
namespace Go.TF
open Go Go.RowKit Go.Proofs
set_option maxRecDepth 20000

def SeenJ (B : Base) (h0 : Heap) (l : List Prd) (b4 bm : Nat) (hg : Heap) (k : Nat) (W : World) : Prop :=
  h0.le hg ∧ ∃ es, Inv B hg [box b4 [.map (some bm)] 107, smap bm es] W ∧ ∀ s, (slook es s).getD 0 = (((l.take k).countP fun y => decide (y.name = s) : Nat) : Int)
theorem early_iff {l : List Prd} {k : Nat} {x : Prd} (hx : l[k]? = some x) : early l k = decide ((1 : Int) < (((l.take k).countP fun y => decide (y.name = x.name) : Nat) : Int) + 1) := by
  have hd : (l.getD k default).name = x.name := by simp [List.getD_eq_getElem?_getD, hx]
  unfold early
  rw [hd]
  by_cases h : (l.take k).any (fun y => decide (y.name = x.name)) = true
  · rw [h]
    rw [List.any_eq_true] at h
    have := List.countP_pos_iff.2 h
    exact (decide_eq_true (by omega)).symm
  · have h' : (l.take k).any (fun y => decide (y.name = x.name)) = false := by simpa using h
    rw [h']
    have h0 : ¬ 0 < (l.take k).countP fun y => decide (y.name = x.name) := fun hp => h (List.any_eq_true.2 (List.countP_pos_iff.1 hp))
    exact (decide_eq_false (by omega)).symm
theorem seen_round (B : Base) (h0 : Heap) (l : List Prd) (b4 bm : Nat) (h5 : l.length ≤ 5) (hg : Heap) (k : Nat) (x : Prd) (W : World) (hx : l[k]? = some x) (j : SeenJ B h0 l b4 bm hg k W) :
    Calls Tryz.prog 58 (([] : List Value) ++ [x.val] ++ [Value.pointer (some ⟨b4, 0, none⟩)]).toArray W fun ed W' => ed = .returned (.bool (early l k)) ∧ ∃ hg', hg.le hg' ∧ SeenJ B h0 l b4 bm hg' (k + 1) W' := by
  obtain ⟨gl, es, I, hes⟩ := j
  have hk := (List.getElem?_eq_some_iff.1 hx).1
  have hle : (l.take k).countP (fun y => decide (y.name = x.name)) ≤ 5 := Nat.le_trans List.countP_le_length (by simp; omega)
  refine (Check3_S B hg b4 bm es W I x (by rw [hes]; exact ⟨by omega, by omega⟩)).mono ?_
  rintro ed W' ⟨rfl, I'⟩
  refine ⟨by rw [early_iff hx, hes], hg, Heap.le.refl _, gl, _, I', fun s => ?_⟩
  have hx' : l[k] = x := (List.getElem?_eq_some_iff.1 hx).2
  rw [slook_sset, List.take_succ_eq_append_getElem hk, List.countP_append, hx']
  by_cases e : s = x.name
  · subst e; simp [hes]
  · rw [if_neg e, hes]
    simp [Ne.symm e]
set_option maxHeartbeats 4000000 in
theorem PCheck_ok (B : Base) (hB : B.ok) (p : Prg) (hp : p.In B.h) (hnm : p.Nm) : Fn Tryz.prog 22 [p.val] B (fun v _ => v = .int .i64 (checkProg p)) := by
  refine Fn.of Tryz.func22 rfl Tryz.ntmps22 (by kernel_rfl) (by simp) ?_
  intro e
  have I := Inv.start hB
  refine WP.seq ?_
  refine WP.region ?_
  refine Ops.go (O.box (v := .agg #[_, _]) I rfl rfl ?_)
  intro b1 w I
  refine Ops.y (v := .int .i64 _) (Y.assign rfl) ?_
  refine Ops.nil ?_
  have hb1 := I.at 0 rfl
  obtain ⟨h1, le1, hh1, I⟩ := I.settle
  have hb1 : PBox h1 b1 p := (hh1 b1 (by simp [box])).trans hb1
  have hp := hp.le le1
  have hsp := hp.preds.small
  have hsr := hp.rules.is.small
  refine WP.seq ?_
  refine WP.seq ?_
  by_cases o0 : 5 < (p.preds.xs.length : Int)
  · refine WP.region ?_
    refine Ops.y (v := .pointer (some ⟨_, _, none⟩)) (Y.fa0 fa_25_0 rfl) ?_
    refine Ops.y (v := .slice _ _ _) (Y.loadv ty_22 rfl (I.rd (rdHb hb1 0 1)) rfl rfl) ?_
    refine Ops.y (v := .int .i64 _) (Y.lens Tryz.underlying22 rfl) ?_
    refine Ops.y (v := .bool true) (Y.dec_t (Y.gti rfl rfl) (o0)) ?_
    refine Ops.y (v := .bool _) (Y.move rfl) ?_
    refine Ops.gf rfl ?_
    refine Ops.gf rfl ?_
    refine Ops.gf rfl ?_
    refine Ops.gf rfl ?_
    refine Ops.y (v := .bool _) (Y.pick_t rfl rfl) ?_
    refine Ops.nil ?_
    refine WP.cond_t rfl ?_
    refine WP.seq ?_
    refine WP.region ?_
    refine Ops.y (v := .int .i64 _) (Y.assign rfl) ?_
    refine Ops.nil ?_
    refine WP.ret ?_
    repeat (first | refine thenE_ret ?_ | refine blockE_ret ?_)
    exact retQ.mk (vs := [.int .i64 _]) rfl ⟨rfl, trivial⟩ I.ext_of (by simp only [tup, checkProg]; rw [if_pos (by omega)])
  by_cases o1 : 8 < (p.rules.xs.length : Int)
  · refine WP.region ?_
    refine Ops.y (v := .pointer (some ⟨_, _, none⟩)) (Y.fa0 fa_25_0 rfl) ?_
    refine Ops.y (v := .slice _ _ _) (Y.loadv ty_22 rfl (I.rd (rdHb hb1 0 1)) rfl rfl) ?_
    refine Ops.y (v := .int .i64 _) (Y.lens Tryz.underlying22 rfl) ?_
    refine Ops.y (v := .bool false) (Y.dec_f (Y.gti rfl rfl) (o0)) ?_
    refine Ops.y (v := .bool _) (Y.move rfl) ?_
    refine Ops.ygt rfl (v := .pointer (some ⟨_, _, none⟩)) (Y.fa fa_25_1 rfl) ?_
    refine Ops.ygt rfl (v := .slice _ _ _) (Y.loadv ty_23 rfl (I.rd (rdHb hb1 1 1)) rfl rfl) ?_
    refine Ops.ygt rfl (v := .int .i64 _) (Y.lens Tryz.underlying23 rfl) ?_
    refine Ops.ygt rfl (v := .bool true) (Y.dec_t (Y.gti rfl rfl) (o1)) ?_
    refine Ops.y (v := .bool _) (Y.pick_f rfl rfl) ?_
    refine Ops.nil ?_
    refine WP.cond_t rfl ?_
    refine WP.seq ?_
    refine WP.region ?_
    refine Ops.y (v := .int .i64 _) (Y.assign rfl) ?_
    refine Ops.nil ?_
    refine WP.ret ?_
    repeat (first | refine thenE_ret ?_ | refine blockE_ret ?_)
    exact retQ.mk (vs := [.int .i64 _]) rfl ⟨rfl, trivial⟩ I.ext_of (by simp only [tup, checkProg]; rw [if_pos (by omega)])
  refine WP.region ?_
  refine Ops.y (v := .pointer (some ⟨_, _, none⟩)) (Y.fa0 fa_25_0 rfl) ?_
  refine Ops.y (v := .slice _ _ _) (Y.loadv ty_22 rfl (I.rd (rdHb hb1 0 1)) rfl rfl) ?_
  refine Ops.y (v := .int .i64 _) (Y.lens Tryz.underlying22 rfl) ?_
  refine Ops.y (v := .bool false) (Y.dec_f (Y.gti rfl rfl) (o0)) ?_
  refine Ops.y (v := .bool _) (Y.move rfl) ?_
  refine Ops.ygt rfl (v := .pointer (some ⟨_, _, none⟩)) (Y.fa fa_25_1 rfl) ?_
  refine Ops.ygt rfl (v := .slice _ _ _) (Y.loadv ty_23 rfl (I.rd (rdHb hb1 1 1)) rfl rfl) ?_
  refine Ops.ygt rfl (v := .int .i64 _) (Y.lens Tryz.underlying23 rfl) ?_
  refine Ops.ygt rfl (v := .bool false) (Y.dec_f (Y.gti rfl rfl) (o1)) ?_
  refine Ops.y (v := .bool _) (Y.pick_f rfl rfl) ?_
  refine Ops.nil ?_
  refine WP.cond_f rfl ?_
  have c0 : ¬ (5 < p.preds.xs.length ∨ 8 < p.rules.xs.length) := by omega
  refine WP.skip ?_
  refine WP.seq ?_
  refine WP.region ?_
  refine Ops.y (v := .func _ _ _) (Y.mkfunc rfl rfl) ?_
  refine Ops.y (v := .func _ _ _) (Y.assign rfl) ?_
  refine Ops.nil ?_
  refine WP.seq ?_
  refine WP.region ?_
  refine Ops.go (O.mkmaps I ?_)
  intro bm w I
  refine Ops.go (O.alloc I Tryz.zeroValue107 rfl ?_)
  intro b4 w I
  refine Ops.go (O.store (v := .map _) I ty_107 0 rfl rfl rfl rfl rfl rfl (Nat.le_of_ble_eq_true rfl) rfl ?_)
  intro w I
  refine Ops.nil ?_
  refine WP.seq ?_
  refine WP.block ?_
  refine WP.seq ?_
  refine WP.region ?_
  refine Ops.y (v := .func _ _ _) (Y.move rfl) ?_
  refine Ops.go (O.callcv I Tryz.call54 (fs := []) (cs := [.pointer (some ⟨b1, 0, none⟩)]) rfl (PChk1_ok _ I.base_ok p b1 hb1 hp.preds 56 Tryz.call56 [] [] (fun x => !isName x.name) (fun B' hB' _ x hx => Check2_ok B' hB' x (hnm x hx))) rfl ?_)
  intro w I
  refine Ops.y (v := .bool _) (Y.assign rfl) ?_
  refine Ops.nil ?_
  refine WP.cond rfl (fun c1 => ?_) (fun c1 => ?_)
  · refine WP.seq ?_
    refine WP.region ?_
    refine Ops.y (v := .int .i64 _) (Y.assign rfl) ?_
    refine Ops.nil ?_
    refine WP.ret ?_
    repeat (first | refine thenE_ret ?_ | refine blockE_ret ?_)
    exact retQ.mk (vs := [.int .i64 _]) rfl ⟨rfl, trivial⟩ I.ext_of (by simp only [tup, checkProg]; rw [if_neg c0, if_pos c1])
  refine WP.seq ?_
  refine WP.region ?_
  refine Ops.y (v := .func _ _ _) (Y.move rfl) ?_
  refine Ops.y (v := .func _ _ _) (Y.mkfunc rfl rfl) ?_
  refine Ops.go (O.callcs Tryz.call54 (fs := []) (cs := [.pointer (some ⟨b1, 0, none⟩)]) rfl (Check1_S p b1 h1 hb1 hp.preds 58 Tryz.call58 [] [.pointer (some ⟨b4, 0, none⟩)] (SeenJ B h1 p.preds.xs b4 bm) (early p.preds.xs)
    (fun hg k W ⟨_, es, I, _⟩ => I.base_ok) (fun hg k x W _ hx j => seen_round B h1 p.preds.xs b4 bm (by omega) hg k x W hx j) h1 _ (Heap.le.refl _) ⟨Heap.le.refl _, [], I, fun s => by simp [slook]⟩) rfl ?_)
  rintro ed w ⟨rfl, h2, k2, gl2, gl3, es, I, _⟩
  refine ⟨_, rfl, ?_⟩
  have hb1 : PBox h2 b1 p := gl2 _ _ hb1
  have hp := hp.le gl2
  refine Ops.y (v := .bool _) (Y.assign rfl) ?_
  refine Ops.nil ?_
  refine WP.cond rfl (fun c2 => ?_) (fun c2 => ?_)
  · refine WP.seq ?_
    refine WP.region ?_
    refine Ops.y (v := .int .i64 _) (Y.assign rfl) ?_
    refine Ops.nil ?_
    refine WP.ret ?_
    repeat (first | refine thenE_ret ?_ | refine blockE_ret ?_)
    exact retQ.mk (vs := [.int .i64 _]) rfl ⟨rfl, trivial⟩ I.ext_of (by simp only [tup, checkProg]; rw [if_neg c0, if_neg (by rw [c1]; decide), if_pos (show twice p.preds.xs = true from c2)])
  refine WP.seq ?_
  refine WP.region ?_
  refine Ops.y (v := .func _ _ _) (Y.move rfl) ?_
  refine Ops.go (O.callcv I Tryz.call54 (fs := []) (cs := [.pointer (some ⟨b1, 0, none⟩)]) rfl (PChk1_ok _ I.base_ok p b1 hb1 hp.preds 59 Tryz.call59 [] [] badArity (fun B' hB' _ x _ => Check4_ok B' hB' x)) rfl ?_)
  intro w I
  refine Ops.y (v := .bool _) (Y.assign rfl) ?_
  refine Ops.nil ?_
  refine WP.cond rfl (fun c3 => ?_) (fun c3 => ?_)
  · refine WP.seq ?_
    refine WP.region ?_
    refine Ops.y (v := .int .i64 _) (Y.assign rfl) ?_
    refine Ops.nil ?_
    refine WP.ret ?_
    repeat (first | refine thenE_ret ?_ | refine blockE_ret ?_)
    exact retQ.mk (vs := [.int .i64 _]) rfl ⟨rfl, trivial⟩ I.ext_of (by simp only [tup, checkProg]; rw [if_neg c0, if_neg (by rw [c1]; decide), if_neg (by unfold twice; rw [c2]; decide), if_pos c3])
  refine WP.seq ?_
  refine WP.region ?_
  refine Ops.y (v := .func _ _ _) (Y.move rfl) ?_
  refine Ops.go (O.callcv I Tryz.call54 (fs := []) (cs := [.pointer (some ⟨b1, 0, none⟩)]) rfl (PChk1_ok _ I.base_ok p b1 hb1 hp.preds 60 Tryz.call60 [] [] badKind (fun B' hB' _ x _ => Check5_ok B' hB' x)) rfl ?_)
  intro w I
  refine Ops.y (v := .bool _) (Y.assign rfl) ?_
  refine Ops.nil ?_
  refine WP.cond rfl (fun c4 => ?_) (fun c4 => ?_)
  · refine WP.seq ?_
    refine WP.region ?_
    refine Ops.y (v := .int .i64 _) (Y.assign rfl) ?_
    refine Ops.nil ?_
    refine WP.ret ?_
    repeat (first | refine thenE_ret ?_ | refine blockE_ret ?_)
    exact retQ.mk (vs := [.int .i64 _]) rfl ⟨rfl, trivial⟩ I.ext_of (by simp only [tup, checkProg]; rw [if_neg c0, if_neg (by rw [c1]; decide), if_neg (by unfold twice; rw [c2]; decide), if_neg (by rw [c3]; decide), if_pos c4])
  have e4 : checkProg p = if rulesErr p.preds.xs p.rules.xs ≠ 0 then rulesErr p.preds.xs p.rules.xs else @ite Int (∃ M, Sol (usesL p.rules.xs) p.preds.xs.length M) (Classical.propDecidable _) 0 8 := by
    unfold checkProg; rw [if_neg c0, if_neg (by rw [c1]; decide), if_neg (by unfold twice; rw [c2]; decide), if_neg (by rw [c3]; decide), if_neg (by rw [c4]; decide)]
  refine WP.skip ?_
  refine WP.seq ?_
  refine WP.seq ?_
  refine WP.region ?_
  refine Ops.y (v := .pointer (some ⟨_, _, none⟩)) (Y.fa fa_25_1 rfl) ?_
  refine Ops.y (v := .slice _ _ _) (Y.loadv ty_23 rfl (I.rd (rdHb hb1 1 1)) rfl rfl) ?_
  refine Ops.y (v := .int .i64 _) (Y.lens Tryz.underlying23 rfl) ?_
  refine Ops.y (v := .int .i64 _) (Y.move rfl) ?_
  refine Ops.nil ?_
  refine WP.block ?_
  refine WP.loopE (σ := Nat) (fun k => [(1, .pointer (some ⟨b1, 0, none⟩)), (36, p.rules.val), (37, .int .i64 p.rules.xs.length), (38, .int .i64 k)]) (fun k w => Inv B h2 [] w ∧ k ≤ p.rules.xs.length ∧ ∀ j, j < k → ∀ hj : j < p.rules.xs.length, checkRule p.preds.xs p.rules.xs[j] = 0) (fun k => p.rules.xs.length - k)
    ⟨0, ⟨rfl, rfl, rfl, rfl, trivial⟩, I.clear, Nat.zero_le _, fun j hj => by omega⟩ ?_
  rintro k e w ⟨I, hk, hn⟩
  refine WP.seq ?_
  refine WP.region ?_
  refine Ops.y (v := .bool (decide _)) (Y.lti rfl rfl) ?_
  refine Ops.nil ?_
  refine WP.seq ?_
  refine WP.cond_dec rfl (fun h14 => ?_) (fun h14 => ?_)
  · have hk' : k < p.rules.xs.length := by omega
    have E1 := hp.rules.is.at hk'
    refine WP.skip ?_
    refine WP.seq ?_
    refine WP.block ?_
    refine WP.seq ?_
    refine WP.region ?_
    refine Ops.y (v := .pointer (some ⟨_, _, none⟩)) (Y.idxEl E1 Tryz.underlying23 Tryz.sizeOf64 rfl rfl (Int.natCast_nonneg _) rfl) ?_
    refine Ops.y (v := .agg #[_, _, _, _, _]) (Y.loadv ty_64 rfl (I.rd (E1.rd.part 0 5)) rfl rfl) ?_
    refine Ops.go (O.alloc I Tryz.zeroValue64 rfl ?_)
    intro b6 w I
    refine Ops.go (O.store (v := .agg #[_, _, _, _, _]) I ty_64 0 rfl rfl rfl rfl rfl rfl (Nat.le_of_ble_eq_true rfl) rfl ?_)
    intro w I
    refine Ops.nil ?_
    refine WP.seq ?_
    refine WP.region ?_
    refine Ops.y (v := .pointer (some ⟨_, _, none⟩)) (Y.fa0 fa_25_0 rfl) ?_
    refine Ops.y (v := .slice _ _ _) (Y.loadv ty_22 rfl (I.rd (rdHb hb1 0 1)) rfl rfl) ?_
    refine Ops.y (v := .agg #[_, _, _, _, _]) (Y.loadv ty_64 rfl (I.rdbox 0 rfl 0 5) rfl rfl) ?_
    refine Ops.go (O.callv I Tryz.call61 (RCheck_ok _ I.base_ok p.preds hp.preds p.rules.xs[k] (hp.rules.each _ (List.getElem_mem hk'))) rfl ?_)
    intro w I
    refine Ops.y (v := .int .i64 _) (Y.assign rfl) ?_
    refine Ops.nil ?_
    refine WP.seq ?_
    refine WP.region ?_
    refine Ops.y (v := .int .i64 _) (Y.move rfl) ?_
    refine Ops.y (v := .bool (decide _)) (Y.nei rfl rfl) ?_
    refine Ops.nil ?_
    refine WP.cond_dec rfl (fun h17 => ?_) (fun h17 => ?_)
    · refine WP.seq ?_
      refine WP.region ?_
      refine Ops.y (v := .int .i64 _) (Y.move rfl) ?_
      refine Ops.y (v := .int .i64 _) (Y.assign rfl) ?_
      refine Ops.nil ?_
      refine WP.ret ?_
      repeat (first | refine thenE_ret ?_ | refine blockE_ret ?_)
      exact retQ.mk (vs := [.int .i64 _]) rfl ⟨rfl, trivial⟩ I.ext_of (by simp only [tup, e4]; rw [rulesErr_at hk' hn h17, if_pos h17])
    refine WP.skip ?_
    refine WP.region ?_
    refine Ops.y (v := .int .i64 _) (Y.addi rfl rfl ⟨by omega, by omega⟩) ?_
    refine Ops.y (v := .int .i64 _) (Y.move rfl) ?_
    refine Ops.nil ?_
    exact ⟨k + 1, ⟨⟨rfl, rfl, rfl, rfl, trivial⟩, I.drop, hk', fun j hj hj' => by
      rcases Nat.lt_succ_iff_lt_or_eq.1 hj with h' | rfl
      · exact hn j h' hj'
      · exact Decidable.not_not.1 h17⟩, by omega⟩
  have hr0 : rulesErr p.preds.xs p.rules.xs = 0 := rulesErr_zero.2 fun r hr => by
    obtain ⟨j, hj, rfl⟩ := List.getElem_of_mem hr
    exact hn j (by omega) hj
  have e5 : checkProg p = @ite Int (∃ M, Sol (usesL p.rules.xs) p.preds.xs.length M) (Classical.propDecidable _) 0 8 := by rw [e4, if_neg (by rw [hr0]; decide)]
  refine WP.exit ?_
  refine WP.seq ?_
  refine WP.seq ?_
  refine WP.region ?_
  refine Ops.y (v := .agg #[_, _]) (Y.loadv ty_25 rfl (I.rd (rdHb hb1 0 2)) rfl rfl) ?_
  refine Ops.go (O.call I Tryz.call62 (Levels_ok _ I.base_ok p hp (inR_of hr0) (by omega)) rfl ?_)
  rintro v52 h3 w I le3 hL
  rcases hL with ⟨s, hS, hI, rfl⟩ | ⟨hno, rfl⟩
  · refine Ops.y (v := .tuple #[_, _]) (Y.move rfl) ?_
    refine Ops.y (v := .slice _ _ _) (Y.extract rfl rfl) ?_
    refine Ops.y (v := .bool _) (Y.extract rfl rfl) ?_
    refine Ops.y (v := .slice _ _ _) (Y.assign rfl) ?_
    refine Ops.y (v := .bool _) (Y.assign rfl) ?_
    refine Ops.nil ?_
    refine WP.seq ?_
    refine WP.region ?_
    refine Ops.y (v := .bool _) (Y.move rfl) ?_
    refine Ops.y (v := .bool _) (Y.not rfl) ?_
    refine Ops.nil ?_
    refine WP.cond_f rfl ?_
    refine WP.skip ?_
    refine WP.seq ?_
    refine WP.region ?_
    refine Ops.y (v := .int .i64 _) (Y.assign rfl) ?_
    refine Ops.nil ?_
    refine WP.ret ?_
    repeat (first | refine thenE_ret ?_ | refine blockE_ret ?_)
    exact retQ.mk (vs := [.int .i64 _]) rfl ⟨rfl, trivial⟩ I.ext_of (by simp only [tup, e5]; rw [if_pos ⟨_, hS.sol⟩])
  · refine Ops.y (v := .tuple #[_, _]) (Y.move rfl) ?_
    refine Ops.y (v := .slice _ _ _) (Y.extract rfl rfl) ?_
    refine Ops.y (v := .bool _) (Y.extract rfl rfl) ?_
    refine Ops.y (v := .slice _ _ _) (Y.assign rfl) ?_
    refine Ops.y (v := .bool _) (Y.assign rfl) ?_
    refine Ops.nil ?_
    refine WP.seq ?_
    refine WP.region ?_
    refine Ops.y (v := .bool _) (Y.move rfl) ?_
    refine Ops.y (v := .bool _) (Y.not rfl) ?_
    refine Ops.nil ?_
    refine WP.cond_t rfl ?_
    refine WP.seq ?_
    refine WP.region ?_
    refine Ops.y (v := .int .i64 _) (Y.assign rfl) ?_
    refine Ops.nil ?_
    refine WP.ret ?_
    repeat (first | refine thenE_ret ?_ | refine blockE_ret ?_)
    exact retQ.mk (vs := [.int .i64 _]) rfl ⟨rfl, trivial⟩ I.ext_of (by simp only [tup, e5]; rw [if_neg (fun ⟨M, hM⟩ => hno M hM)])
end Go.TF
end
section
/- Package text: Show: walked. -/
namespace Go.TF
open Go Go.RowKit Go.Proofs
set_option maxRecDepth 20000

theorem bsz (a : Array UInt8) : ByteArray.size ⟨a⟩ = a.size := rfl
theorem txl (a : Array UInt8) : tx ⟨a⟩ = a.toList := rfl
theorem WriteS_is {B : Base} {h : Heap} {M : List SA} {w : World} {b : Nat} (I : Inv B h M w) {p : Value} {a : Option Addr} {k c : Nat} {l : List UInt8} (n m : Nat) (hnm : n ≠ m) (hn : M[n]? = some (bldB b p (.slice a k c))) (hm : M[m]? = some (bldR b (.slice a k c) l)) (hp : bldP b p) {s : ByteArray} {t : Bs} (ht : tx s = t) (hl : l.length + t.length ≤ 140737488355328) :
    Calls Tryz.prog 23 [.pointer (some ⟨b, 0, none⟩), .string s].toArray w fun x w' => x = .returned (.tuple #[.int .i64 s.size, .nilIface]) ∧ ∃ a' k' c', Inv B h ((M.set m (bldR b (.slice a' k' c') (l ++ t))).set n (bldB b (.pointer (some ⟨b, 0, none⟩)) (.slice a' k' c'))) w' := by
  subst ht
  exact WriteS_v I n m hnm hn hm hp s (by rw [tx_len] at hl; exact hl)
theorem flat_nl {n : Nat} : ∀ {L : List Bs}, (∀ x ∈ L, x.length ≤ n) → (L.flatMap (· ++ [10])).length ≤ L.length * (n + 1)
  | [], _ => by simp
  | x :: r, h => by
    have ih := flat_nl fun y hy => h y (List.mem_cons_of_mem _ hy)
    have := h x (by simp)
    simp only [List.flatMap_cons, List.length_append, List.length_cons, List.length_nil, Nat.add_mul, Nat.one_mul] at ih ⊢
    omega
theorem dg_len {n : Nat} (h : n < 100) : (dgL n).length ≤ 2 := by
  have : ∀ i : Fin 100, (dgL i.val).length ≤ 2 := by decide
  exact this ⟨n, h⟩
section
variable {p : Prg} (hp0 : checkProg p = 0)
include hp0
theorem name_len {x : Prd} (hx : x ∈ p.preds.xs) : x.name.size ≤ 8 := by
  have := (chk_names hp0).1 x hx
  unfold isName at this
  simp only [Bool.and_eq_true, decide_eq_true_eq] at this
  exact this.1.2
theorem predL_len {x : Prd} (hx : x ∈ p.preds.xs) : (predL x).length ≤ 19 := by
  have h1 := name_len hp0 hx
  have h2 := chk_preds hp0 x hx
  unfold predFine at h2
  have h2 := of_decide_eq_true h2
  have d1 := dg_len (n := x.arity.toNat) (by omega)
  have d2 := dg_len (n := x.kind.toNat) (by omega)
  unfold predL predW
  simp only [List.length_append, List.length_cons, List.length_nil, tx_len]
  omega
theorem atom_len {a : Atm} (ao : AOk p.preds.xs a) : (atomL p.preds.xs a).length ≤ 16 := by
  have := atomL_len ao
  have := name_len hp0 (predOf_mem ao.pred)
  omega
theorem lit_len {x : Ltl} (ao : AOk p.preds.xs x.atom) : (litL p.preds.xs x).length ≤ 17 := by
  have := atom_len hp0 ao
  unfold litL
  split <;> simp only [List.length_append, List.length_cons, List.length_nil] <;> omega
theorem body_len {r : Rul} (hr : r ∈ p.rules.xs) : (joinT [44, 32] (r.body.xs.map (litL p.preds.xs))).length ≤ 57 := by
  have ro := chk_rok hp0 r hr
  have := join_len (sep := [44, 32]) (n := 17) (l := r.body.xs.map (litL p.preds.xs)) fun x hx => by
    obtain ⟨y, hy, rfl⟩ := List.mem_map.1 hx
    exact lit_len hp0 (aok_of ro.preds (ro.body y hy))
  have := ro.len
  simp only [List.length_map, List.length_cons, List.length_nil] at *
  omega
theorem val_len {r : Rul} (hr : r ∈ p.rules.xs) : (valL p.preds.xs r).length ≤ 9 := by
  have ro := chk_rok hp0 r hr
  have d1 := dg_len (n := r.n.toNat) (by have := ro.n; omega)
  have d2 := dg_len (n := r.src.toNat) (by have := ro.src; have := ro.len; omega)
  unfold valL srcL
  split
  · split <;> simp only [List.length_append, List.length_cons, List.length_nil] <;> omega
  · simp
theorem ruleL_len {r : Rul} (hr : r ∈ p.rules.xs) : (ruleL p.preds.xs r).length ≤ 90 := by
  have ro := chk_rok hp0 r hr
  have h1 := atom_len hp0 (aok_of ro.preds ro.head)
  have h2 := val_len hp0 hr
  have h3 := body_len hp0 hr
  unfold ruleL bodyL
  split <;> simp only [List.length_append, List.length_cons, List.length_nil] at * <;> omega
theorem line_len {x : Bs} (hx : x ∈ linesP p) : x.length ≤ 90 := by
  rcases List.mem_append.1 hx with hx | hx
  · obtain ⟨y, hy, rfl⟩ := List.mem_map.1 hx
    have := predL_len hp0 hy; omega
  · obtain ⟨y, hy, rfl⟩ := List.mem_map.1 hx
    exact ruleL_len hp0 hy
theorem lines_cnt : (linesP p).length ≤ 13 := by
  have := checkProg_ok hp0
  unfold linesP
  simp only [List.length_append, List.length_map]
  omega
/-- What is written of the first lines. -/
theorem shown_len (k : Nat) : (((linesP p).take k).flatMap (· ++ [10])).length ≤ 1183 := by
  have := flat_nl (n := 90) (L := (linesP p).take k) fun x hx => line_len hp0 (List.mem_of_mem_take hx)
  have h2 := lines_cnt hp0
  have h3 : ((linesP p).take k).length ≤ 13 := by rw [List.length_take]; omega
  have := Nat.mul_le_mul_right (90 + 1) h3
  omega
end
end Go.TF
end
section
/- Package text: Show: walked. -/
namespace Go.TF
open Go Go.RowKit Go.Proofs
set_option maxRecDepth 20000
set_option linter.unusedSimpArgs false


noncomputable def showOf (p : Prg) : Value := if checkProg p = 0 then .tuple #[.string (mk (progL p)), .int .i64 0] else .tuple #[.string ⟨#[]⟩, .int .i64 (checkProg p)]
theorem take_app {α : Type} {a b : List α} {k : Nat} (hk : k < a.length) : (a ++ b).take (k + 1) = (a ++ b).take k ++ [a[k]] := by
  rw [List.take_add_one, List.getElem?_append_left hk, List.getElem?_eq_getElem hk]; rfl
theorem take_app2 {α : Type} {a b : List α} {k : Nat} (hk : k < b.length) : (a ++ b).take (a.length + (k + 1)) = (a ++ b).take (a.length + k) ++ [b[k]] := by
  rw [← Nat.add_assoc, List.take_add_one, List.getElem?_append_right (by omega), Nat.add_sub_cancel_left, List.getElem?_eq_getElem hk]; rfl
set_option maxHeartbeats 16000000 in
theorem Show_ok (B : Base) (hB : B.ok) (p : Prg) (hp : p.In B.h) (hnm : p.Nm) : Fn Tryz.prog 7 [p.val] B (fun v _ => v = showOf p) := by
  have hl := hp.preds
  have hrs := hp.rules
  refine Fn.of Tryz.func7 rfl Tryz.ntmps7 (by kernel_rfl) (by simp) ?_
  intro e
  have I := Inv.start hB
  refine WP.seq ?_
  refine WP.region ?_
  refine Ops.go (O.box (v := .agg #[_, _]) I rfl rfl ?_)
  intro b1 w I
  refine Ops.y (v := .string _) (Y.assign rfl) ?_
  refine Ops.y (v := .int .i64 _) (Y.assign rfl) ?_
  refine Ops.nil ?_
  refine WP.seq ?_
  refine WP.seq ?_
  refine WP.region ?_
  refine Ops.y (v := .agg #[_, _]) (Y.loadv ty_25 rfl (I.rdbox 0 rfl 0 2) rfl rfl) ?_
  refine Ops.go (O.callv I Tryz.call22 (PCheck_ok _ I.base_ok p hp hnm) rfl ?_)
  intro w I
  refine Ops.y (v := .int .i64 _) (Y.assign rfl) ?_
  refine Ops.nil ?_
  refine WP.seq ?_
  refine WP.region ?_
  refine Ops.y (v := .int .i64 _) (Y.move rfl) ?_
  refine Ops.y (v := .bool (decide _)) (Y.nei rfl rfl) ?_
  refine Ops.nil ?_
  refine WP.cond_dec rfl (fun h2 => ?_) (fun h2 => ?_)
  · refine WP.seq ?_
    refine WP.region ?_
    refine Ops.y (v := .int .i64 _) (Y.move rfl) ?_
    refine Ops.y (v := .string _) (Y.assign rfl) ?_
    refine Ops.y (v := .int .i64 _) (Y.assign rfl) ?_
    refine Ops.nil ?_
    refine WP.ret ?_
    repeat (first | refine thenE_ret ?_ | refine blockE_ret ?_)
    exact retQ.mk (vs := [.string _, .int .i64 _]) rfl ⟨rfl, rfl, trivial⟩ I.ext_of (by simp only [tup]; unfold showOf; rw [if_neg h2])
  have hp0 : checkProg p = 0 := Decidable.not_not.1 h2
  have h5 := checkProg_ok hp0
  refine WP.skip ?_
  refine WP.seq ?_
  refine WP.region ?_
  refine Ops.go (O.alloc I Tryz.zeroValue51 rfl ?_)
  intro b5 w I
  refine Ops.nil ?_
  have I := I.emptyRow 5 b5
  refine WP.seq ?_
  refine WP.seq ?_
  refine WP.region ?_
  refine Ops.y (v := .pointer (some ⟨_, _, none⟩)) (Y.fa0 fa_25_0 rfl) ?_
  refine Ops.y (v := .slice _ _ _) (Y.loadv ty_22 rfl (I.rdbox 2 rfl 0 1) rfl rfl) ?_
  refine Ops.y (v := .int .i64 _) (Y.lens Tryz.underlying22 rfl) ?_
  refine Ops.y (v := .int .i64 _) (Y.move rfl) ?_
  refine Ops.nil ?_
  refine WP.block ?_
  refine WP.loopE (σ := Nat × Value × Option Addr × Nat × Nat × Heap) (fun z => [(1, .pointer (some ⟨b1, 0, none⟩)), (5, .pointer (some ⟨b5, 0, none⟩)), (22, p.preds.val), (23, .int .i64 p.preds.xs.length), (24, .int .i64 z.1)])
    (fun z w => z.1 ≤ p.preds.xs.length ∧ bldP b5 z.2.1 ∧ B.h.le z.2.2.2.2.2 ∧ Inv B z.2.2.2.2.2 [bldR b5 (.slice z.2.2.1 z.2.2.2.1 z.2.2.2.2.1) (((linesP p).take z.1).flatMap (· ++ [10])), bldB b5 z.2.1 (.slice z.2.2.1 z.2.2.2.1 z.2.2.2.2.1), box b1 p.enc 25] w) (fun z => p.preds.xs.length - z.1)
    ⟨(0, .pointer none, none, 0, 0, B.h), ⟨rfl, rfl, rfl, rfl, rfl, trivial⟩, Nat.zero_le _, .inl rfl, Heap.le.refl _, I⟩ ?_
  rintro ⟨k, pv, a, n, c, hh⟩ e w ⟨hk, hpv, gl, I⟩
  dsimp only at hk hpv gl I ⊢
  refine WP.seq ?_
  refine WP.region ?_
  refine Ops.y (v := .bool (decide _)) (Y.lti rfl rfl) ?_
  refine Ops.nil ?_
  refine WP.seq ?_
  refine WP.cond_dec rfl (fun h6 => ?_) (fun h6 => ?_)
  · have hk' : k < p.preds.xs.length := by omega
    have E := (hl.le gl).at hk'
    have hmem : p.preds.xs[k] ∈ p.preds.xs := List.getElem_mem hk'
    have hlen := predL_len hp0 hmem
    have hnl := name_len hp0 hmem
    have hfi := chk_preds hp0 _ hmem
    have hnx : (linesP p).take (k + 1) = (linesP p).take k ++ [predL p.preds.xs[k]] := by
      unfold linesP
      rw [take_app (by rw [List.length_map]; exact hk'), List.getElem_map]
    have hsl := shown_len hp0 k
    obtain ⟨⟨nm, ar, kd⟩, hx⟩ : ∃ x, p.preds.xs[k] = x := ⟨_, rfl⟩
    rw [hx] at E hlen hnl hfi hnx
    unfold predFine at hfi
    obtain ⟨a0, a2, d0, d3⟩ := of_decide_eq_true hfi
    dsimp only at a0 a2 d0 d3 hnl
    obtain ⟨na, rfl⟩ : ∃ n : Nat, ar = n := ⟨ar.toNat, by omega⟩
    obtain ⟨nk, rfl⟩ : ∃ n : Nat, kd = n := ⟨kd.toNat, by omega⟩
    have dl1 := dg_len (n := na) (by omega)
    have dl2 := dg_len (n := nk) (by omega)
    refine WP.skip ?_
    refine WP.seq ?_
    refine WP.block ?_
    refine WP.seq ?_
    refine WP.region ?_
    refine Ops.y (v := .pointer (some ⟨_, _, none⟩)) (Y.idxEl E Tryz.underlying22 Tryz.sizeOf53 rfl rfl (Int.natCast_nonneg _) rfl) ?_
    refine Ops.y (v := .agg #[_, _, _]) (Y.loadv ty_53 rfl (I.rd (E.rd.part 0 3)) rfl rfl) ?_
    refine Ops.go (O.alloc I Tryz.zeroValue53 rfl ?_)
    intro b7 w I
    refine Ops.go (O.store (v := .agg #[_, _, _]) I ty_53 0 rfl rfl rfl rfl rfl rfl (Nat.le_of_ble_eq_true rfl) rfl ?_)
    intro w I
    refine Ops.nil ?_
    refine WP.regionF mixed I 14 (by kernel_rfl) ?_
    refine OpsF.y_ (v := .pointer (some ⟨_, _, none⟩)) (fun _ => runs_none _) (fun _ w us hl I => Y.fa0 fa_53_0 rfl) ?_
    refine OpsF.y_ (v := .string _) (fun _ => runs_none _) (fun _ w us hl I => Y.loadv ty_9 rfl (I.rdbox 0 rfl 0 1) rfl rfl) ?_
    refine OpsF.y_ (v := .string _) (fun _ => runs_none _) (fun _ w us hl I => Y.adds rfl rfl ((by simp only [ByteArray.size_append, bsz, List.size_toArray, List.length_cons, List.length_nil, List.length_append]; omega))) ?_
    refine OpsF.y_ (v := .string _) (fun _ => runs_none _) (fun _ w us hl I => Y.adds rfl rfl ((by simp only [ByteArray.size_append, bsz, List.size_toArray, List.length_cons, List.length_nil, List.length_append]; omega))) ?_
    refine OpsF.y_ (v := .pointer (some ⟨_, _, none⟩)) (fun _ => runs_none _) (fun _ w us hl I => Y.fa fa_53_1 rfl) ?_
    refine OpsF.y_ (v := .int .i64 _) (fun _ => runs_none _) (fun _ w us hl I => Y.loadv ty_3 rfl (I.rdbox 0 rfl 1 1) rfl rfl) ?_
    refine OpsF.c_ (fun _ => runs_none _) (fun _ w us hl I => O.callv I Tryz.call24 (Itoa_ok _ I.base_ok na (by omega)) rfl (fun w' I' => ⟨rfl, I'⟩)) ?_
    refine OpsF.y_ (v := .string _) (fun _ => runs_none _) (fun _ w us hl I => Y.adds rfl rfl ((by simp only [ByteArray.size_append, bsz, List.size_toArray, List.length_cons, List.length_nil, List.length_append]; omega))) ?_
    refine OpsF.y_ (v := .string _) (fun _ => runs_none _) (fun _ w us hl I => Y.adds rfl rfl ((by simp only [ByteArray.size_append, bsz, List.size_toArray, List.length_cons, List.length_nil, List.length_append]; omega))) ?_
    refine OpsF.y_ (v := .pointer (some ⟨_, _, none⟩)) (fun _ => runs_none _) (fun _ w us hl I => Y.fa fa_53_2 rfl) ?_
    refine OpsF.y_ (v := .int .i64 _) (fun _ => runs_none _) (fun _ w us hl I => Y.loadv ty_3 rfl (I.rdbox 0 rfl 2 1) rfl rfl) ?_
    refine OpsF.c_ (fun _ => runs_none _) (fun _ w us hl I => O.callv I Tryz.call24 (Itoa_ok _ I.base_ok nk (by omega)) rfl (fun w' I' => ⟨rfl, I'⟩)) ?_
    refine OpsF.y_ (v := .string _) (fun _ => runs_none _) (fun _ w us hl I => Y.adds rfl rfl ((by simp only [ByteArray.size_append, bsz, List.size_toArray, List.length_cons, List.length_nil, List.length_append]; omega))) ?_
    refine OpsF.y_ (v := .string _) (fun _ => runs_none _) (fun _ w us hl I => Y.adds rfl rfl ((by simp only [ByteArray.size_append, bsz, List.size_toArray, List.length_cons, List.length_nil, List.length_append]; omega))) ?_
    refine OpsF.nil ?_
    intro _ w hl I
    try unfold AllL
    refine Ops.go (O.calls Tryz.call23 (WriteS_is I 2 1 (by decide) rfl rfl hpv (t := predL ⟨nm, na, nk⟩ ++ [10]) (by simp only [predL, predW, tx_app, txl, List.append_assoc, Int.toNat_natCast, List.cons_append, List.nil_append]) (by rw [List.length_append]; simp only [List.length_cons, List.length_nil]; omega)) rfl ?_)
    rintro ed w ⟨rfl, a', k', c', I⟩
    refine ⟨_, rfl, ?_⟩
    refine Ops.nil ?_
    refine WP.region ?_
    refine Ops.y (v := .int .i64 _) (Y.addi rfl rfl ⟨by omega, by omega⟩) ?_
    refine Ops.y (v := .int .i64 _) (Y.move rfl) ?_
    refine Ops.nil ?_
    refine ⟨(k + 1, .pointer (some ⟨b5, 0, none⟩), a', k', c', _), ⟨⟨rfl, rfl, rfl, rfl, rfl, trivial⟩, by dsimp only; omega, .inr rfl, gl.trans hl, ?_⟩, by dsimp only; omega⟩
    dsimp only
    rw [hnx, List.flatMap_append, List.flatMap_singleton]
    exact I.drop
  obtain rfl : k = p.preds.xs.length := by omega
  clear h6
  refine WP.exit ?_
  refine WP.seq ?_
  refine WP.seq ?_
  refine WP.region ?_
  refine Ops.y (v := .pointer (some ⟨_, _, none⟩)) (Y.fa fa_25_1 rfl) ?_
  refine Ops.y (v := .slice _ _ _) (Y.loadv ty_23 rfl (I.rdbox 2 rfl 1 1) rfl rfl) ?_
  refine Ops.y (v := .int .i64 _) (Y.lens Tryz.underlying23 rfl) ?_
  refine Ops.y (v := .int .i64 _) (Y.move rfl) ?_
  refine Ops.nil ?_
  refine WP.block ?_
  refine WP.loopE (σ := Nat × Value × Option Addr × Nat × Nat × Heap) (fun z => [(1, .pointer (some ⟨b1, 0, none⟩)), (5, .pointer (some ⟨b5, 0, none⟩)), (45, p.rules.val), (46, .int .i64 p.rules.xs.length), (47, .int .i64 z.1)])
    (fun z w => z.1 ≤ p.rules.xs.length ∧ bldP b5 z.2.1 ∧ B.h.le z.2.2.2.2.2 ∧ Inv B z.2.2.2.2.2 [bldR b5 (.slice z.2.2.1 z.2.2.2.1 z.2.2.2.2.1) (((linesP p).take (p.preds.xs.length + z.1)).flatMap (· ++ [10])), bldB b5 z.2.1 (.slice z.2.2.1 z.2.2.2.1 z.2.2.2.2.1), box b1 p.enc 25] w) (fun z => p.rules.xs.length - z.1)
    ⟨(0, pv, a, n, c, hh), ⟨rfl, rfl, rfl, rfl, rfl, trivial⟩, Nat.zero_le _, hpv, gl, I⟩ ?_
  clear I hpv gl
  rintro ⟨k, pv, a, n, c, hh⟩ e w ⟨hk, hpv, gl, I⟩
  dsimp only at hk hpv gl I ⊢
  refine WP.seq ?_
  refine WP.region ?_
  refine Ops.y (v := .bool (decide _)) (Y.lti rfl rfl) ?_
  refine Ops.nil ?_
  refine WP.seq ?_
  refine WP.cond_dec rfl (fun h11 => ?_) (fun h11 => ?_)
  · have hk' : k < p.rules.xs.length := by omega
    have E := (hrs.is.le gl).at hk'
    have hmem : p.rules.xs[k] ∈ p.rules.xs := List.getElem_mem hk'
    have hrin := hrs.each _ hmem
    have ro := chk_rok hp0 _ hmem
    have hlen := ruleL_len hp0 hmem
    have hal := atom_len hp0 (aok_of ro.preds ro.head)
    have hvl := val_len hp0 hmem
    have hbl := body_len hp0 hmem
    have hnx : (linesP p).take (p.preds.xs.length + (k + 1)) = (linesP p).take (p.preds.xs.length + k) ++ [ruleL p.preds.xs p.rules.xs[k]] := by
      have := take_app2 (a := p.preds.xs.map predL) (b := p.rules.xs.map (ruleL p.preds.xs)) (k := k) (by rw [List.length_map]; exact hk')
      rw [List.length_map, List.getElem_map] at this
      exact this
    have hsl := shown_len hp0 (p.preds.xs.length + k)
    obtain ⟨r, hr⟩ : ∃ x, p.rules.xs[k] = x := ⟨_, rfl⟩
    rw [hr] at E hmem hrin ro hlen hal hvl hbl hnx
    have ah := aok_of ro.preds ro.head
    have Eh := (hl.le gl).el.el (predOf_get ah.pred.1 ah.pred.2)
    have hnh : (predOf p.preds.xs r.head.pred).name.size ≤ 140737488355328 := by have := name_len hp0 (predOf_mem ah.pred); omega
    obtain ⟨nn, hnn⟩ : ∃ n : Nat, r.n = n := ⟨r.n.toNat, by have := ro.n; omega⟩
    have dl1 := dg_len (n := nn) (by have := ro.n; omega)
    have hbs := hrin.body.is.small
    have hb3 := ro.len
    refine WP.skip ?_
    refine WP.seq ?_
    refine WP.block ?_
    refine WP.seq ?_
    refine WP.region ?_
    refine Ops.y (v := .pointer (some ⟨_, _, none⟩)) (Y.idxEl E Tryz.underlying23 Tryz.sizeOf64 rfl rfl (Int.natCast_nonneg _) rfl) ?_
    refine Ops.y (v := .agg #[_, _, _, _, _]) (Y.loadv ty_64 rfl (I.rd (E.rd.part 0 5)) rfl rfl) ?_
    refine Ops.go (O.alloc I Tryz.zeroValue64 rfl ?_)
    intro b9 w I
    refine Ops.go (O.store (v := .agg #[_, _, _, _, _]) I ty_64 0 rfl rfl rfl rfl rfl rfl (Nat.le_of_ble_eq_true rfl) rfl ?_)
    intro w I
    refine Ops.nil ?_
    refine WP.seq ?_
    refine WP.region ?_
    refine Ops.y (v := .pointer (some ⟨_, _, none⟩)) (Y.fa0 fa_25_0 rfl) ?_
    refine Ops.y (v := .slice _ _ _) (Y.loadv ty_22 rfl (I.rdbox 3 rfl 0 1) rfl rfl) ?_
    refine Ops.y (v := .pointer (some ⟨_, _, none⟩)) (Y.fa0 fa_64_0 rfl) ?_
    refine Ops.y (v := .agg #[_, _]) (Y.loadv ty_61 rfl (I.rdbox 0 rfl 0 2) rfl rfl) ?_
    refine Ops.go (O.callv I Tryz.call25 (TAtom_ok _ I.base_ok p.preds (hl.le gl) r.head (hrin.head.le gl) ah hnh) rfl ?_)
    intro w I
    refine Ops.y (v := .string _) (Y.assign rfl) ?_
    refine Ops.nil ?_
    refine WP.seq ?_
    refine WP.seq ?_
    refine WP.region ?_
    refine Ops.y (v := .pointer (some ⟨_, _, none⟩)) (Y.fa fa_64_2 rfl) ?_
    refine Ops.y (v := .int .i64 _) (Y.loadv ty_3 rfl (I.rdbox 0 rfl 3 1) rfl rfl) ?_
    refine Ops.go (O.callv I Tryz.call24 (hnn ▸ Itoa_ok _ I.base_ok nn (by have := ro.n; omega)) rfl ?_)
    intro w I
    refine Ops.y (v := .string _) (Y.assign rfl) ?_
    refine Ops.nil ?_
    refine WP.cutK (σ := Unit) (fun _ => [(1, .pointer (some ⟨b1, 0, none⟩)), (5, .pointer (some ⟨b5, 0, none⟩)), (9, .pointer (some ⟨b9, 0, none⟩)), (45, p.rules.val), (46, .int .i64 p.rules.xs.length), (47, .int .i64 k), (10, .string (mk (atomL p.preds.xs r.head ++ valL p.preds.xs r)))])
      (fun _ w => Inv B hh [box b9 r.enc 64, bldR b5 (.slice a n c) (((linesP p).take (p.preds.xs.length + k)).flatMap (· ++ [10])), bldB b5 pv (.slice a n c), box b1 p.enc 25] w) ?_ ?_
    · refine WP.block ?_
      refine WP.seq ?_
      refine WP.region ?_
      refine Ops.y (v := .pointer (some ⟨_, _, none⟩)) (Y.fa0 fa_25_0 rfl) ?_
      refine Ops.y (v := .slice _ _ _) (Y.loadv ty_22 rfl (I.rdbox 3 rfl 0 1) rfl rfl) ?_
      refine Ops.y (v := .pointer (some ⟨_, _, none⟩)) (Y.fa0 fa_64_0 rfl) ?_
      refine Ops.y (v := .pointer (some ⟨_, _, none⟩)) (Y.fa0 fa_61_0 rfl) ?_
      refine Ops.y (v := .int .i64 _) (Y.loadv ty_3 rfl (I.rdbox 0 rfl 0 1) rfl rfl) ?_
      refine Ops.y (v := .pointer (some ⟨_, _, none⟩)) (Y.idxEl Eh Tryz.underlying22 Tryz.sizeOf53 rfl rfl ah.pred.1 rfl) ?_
      refine Ops.y (v := .pointer (some ⟨_, _, none⟩)) (Y.fa fa_53_2 rfl) ?_
      refine Ops.y (v := .int .i64 _) (Y.loadv ty_3 rfl (I.rd (Eh.rd.part 2 1)) rfl rfl) ?_
      refine Ops.y (v := .bool (decide _)) (Y.eqi rfl rfl) ?_
      refine Ops.y (v := .bool _) (Y.assign rfl) ?_
      refine Ops.nil ?_
      refine WP.cond_dec rfl (fun h68 => ?_) (fun h68 => ?_)
      · have hV : valL p.preds.xs r = [] := by unfold valL; rw [if_neg (fun h => h h68)]
        rw [hV, List.append_nil]
        refine WP.skip ?_
        exact ⟨(), ⟨rfl, rfl, rfl, rfl, rfl, rfl, rfl, trivial⟩, I⟩
      · have hV : valL p.preds.xs r = [32, 61, 32] ++ (srcL r ++ dgL nn) := by unfold valL; rw [if_pos h68, hnn]; rfl
        refine WP.seq ?_
        refine WP.region ?_
        refine Ops.y (v := .pointer (some ⟨_, _, none⟩)) (Y.fa fa_64_1 rfl) ?_
        refine Ops.y (v := .int .i64 _) (Y.loadv ty_3 rfl (I.rdbox 0 rfl 2 1) rfl rfl) ?_
        refine Ops.y (v := .bool (decide _)) (Y.lti rfl rfl) ?_
        refine Ops.y (v := .bool _) (Y.assign rfl) ?_
        refine Ops.nil ?_
        refine WP.cond_dec rfl (fun h78 => ?_) (fun h78 => ?_)
        · have hS : srcL r = [] := by unfold srcL; rw [if_neg (by omega)]
          rw [hV, hS]
          refine WP.region ?_
          refine Ops.y (v := .string _) (Y.move rfl) ?_
          refine Ops.y (v := .string _) (Y.move rfl) ?_
          refine Ops.y (v := .string _) (Y.adds rfl rfl ((by simp only [ByteArray.size_append, bsz, List.size_toArray, List.length_cons, List.length_nil, List.length_append]; omega))) ?_
          refine Ops.y (v := .string _) (Y.adds rfl rfl (by simp only [ByteArray.size_append, mk_size]; show _ + (3 + _) ≤ _; omega)) ?_
          refine Ops.y (v := .string _) (Y.assign rfl) ?_
          refine Ops.nil ?_
          exact ⟨(), ⟨rfl, rfl, rfl, rfl, rfl, rfl, congrArg Value.string (tx_inj.1 (by simp only [tx_mk, tx_app, txl, List.append_assoc, Int.toNat_natCast, List.cons_append, List.nil_append])), trivial⟩, I⟩
        · obtain ⟨ss, hss⟩ : ∃ n : Nat, r.src = n := ⟨r.src.toNat, by omega⟩
          have hS : srcL r = [35] ++ (dgL ss ++ [43]) := by unfold srcL; rw [if_pos (by omega), hss]; rfl
          have dl2 := dg_len (n := ss) (by have := ro.src; have := ro.len; omega)
          rw [hV, hS]
          refine WP.region ?_
          refine Ops.y (v := .string _) (Y.move rfl) ?_
          refine Ops.y (v := .pointer (some ⟨_, _, none⟩)) (Y.fa fa_64_1 rfl) ?_
          refine Ops.y (v := .int .i64 _) (Y.loadv ty_3 rfl (I.rdbox 0 rfl 2 1) rfl rfl) ?_
          refine Ops.go (O.callv I Tryz.call24 (hss ▸ Itoa_ok _ I.base_ok ss (by have := ro.src; have := ro.len; omega)) rfl ?_)
          intro w I
          refine Ops.y (v := .string _) (Y.adds rfl rfl ((by simp only [ByteArray.size_append, bsz, List.size_toArray, List.length_cons, List.length_nil, List.length_append]; omega))) ?_
          refine Ops.y (v := .string _) (Y.adds rfl rfl ((by simp only [ByteArray.size_append, bsz, List.size_toArray, List.length_cons, List.length_nil, List.length_append]; omega))) ?_
          refine Ops.y (v := .string _) (Y.move rfl) ?_
          refine Ops.y (v := .string _) (Y.adds rfl rfl ((by simp only [ByteArray.size_append, bsz, List.size_toArray, List.length_cons, List.length_nil, List.length_append]; omega))) ?_
          refine Ops.y (v := .string _) (Y.adds rfl rfl ((by simp only [ByteArray.size_append, bsz, List.size_toArray, List.length_cons, List.length_nil, List.length_append]; omega))) ?_
          refine Ops.y (v := .string _) (Y.assign rfl) ?_
          refine Ops.nil ?_
          exact ⟨(), ⟨rfl, rfl, rfl, rfl, rfl, rfl, congrArg Value.string (tx_inj.1 (by simp only [tx_mk, tx_app, txl, List.append_assoc, Int.toNat_natCast, List.cons_append, List.nil_append])), trivial⟩, I⟩
    rintro _ e w I
    refine WP.seq ?_
    refine WP.region ?_
    refine Ops.y (v := .slice _ _ _) (Y.assign rfl) ?_
    refine Ops.nil ?_
    refine WP.seq ?_
    refine WP.seq ?_
    refine WP.region ?_
    refine Ops.y (v := .pointer (some ⟨_, _, none⟩)) (Y.fa fa_64_3 rfl) ?_
    refine Ops.y (v := .slice _ _ _) (Y.loadv ty_62 rfl (I.rdbox 0 rfl 4 1) rfl rfl) ?_
    refine Ops.y (v := .int .i64 _) (Y.lens Tryz.underlying62 rfl) ?_
    refine Ops.y (v := .int .i64 _) (Y.move rfl) ?_
    refine Ops.nil ?_
    refine WP.block ?_
    refine WP.loopE (σ := Nat × Option Addr × Nat × Heap) (fun z => [(1, .pointer (some ⟨b1, 0, none⟩)), (5, .pointer (some ⟨b5, 0, none⟩)), (9, .pointer (some ⟨b9, 0, none⟩)), (45, p.rules.val), (46, .int .i64 p.rules.xs.length), (47, .int .i64 k), (10, .string (mk (atomL p.preds.xs r.head ++ valL p.preds.xs r))), (12, .slice z.2.1 z.1 z.2.2.1), (87, r.body.val), (88, .int .i64 r.body.xs.length), (89, .int .i64 z.1)])
      (fun z w => Inv B z.2.2.2 [ownSl 9 1 (.slice z.2.1 z.1 z.2.2.1) z.1 (((r.body.xs.take z.1).map fun x => mk (litL p.preds.xs x)).flatMap sEn), box b9 r.enc 64, bldR b5 (.slice a n c) (((linesP p).take (p.preds.xs.length + k)).flatMap (· ++ [10])), bldB b5 pv (.slice a n c), box b1 p.enc 25] w ∧ z.1 ≤ r.body.xs.length ∧ hh.le z.2.2.2) (fun z => r.body.xs.length - z.1)
      ⟨(0, none, 0, hh), ⟨rfl, rfl, rfl, rfl, rfl, rfl, rfl, rfl, rfl, rfl, rfl, trivial⟩, I.nilSl 9 1, Nat.zero_le _, Heap.le.refl _⟩ ?_
    clear I
    rintro ⟨i, q, c2, h2⟩ e w ⟨I, hi, gl2⟩
    dsimp only at I hi gl2 ⊢
    refine WP.seq ?_
    refine WP.region ?_
    refine Ops.y (v := .bool (decide _)) (Y.lti rfl rfl) ?_
    refine Ops.nil ?_
    refine WP.seq ?_
    refine WP.cond_dec rfl (fun h90 => ?_) (fun h90 => ?_)
    · have hi' : i < r.body.xs.length := by omega
      have E2 := (hrin.body.is.le (gl.trans gl2)).at hi'
      have hm2 : r.body.xs[i] ∈ r.body.xs := List.getElem_mem hi'
      have hx2 := hrin.body.each _ hm2
      have ao := aok_of ro.preds (ro.body _ hm2)
      have hll := lit_len hp0 ao
      have hnm2 : (predOf p.preds.xs r.body.xs[i].atom.pred).name.size ≤ 140737488355328 := by have := name_len hp0 (predOf_mem ao.pred); omega
      have hnx2 : r.body.xs.take (i + 1) = r.body.xs.take i ++ [r.body.xs[i]] := by rw [List.take_add_one, List.getElem?_eq_getElem hi']; rfl
      obtain ⟨x, hx⟩ : ∃ x, r.body.xs[i] = x := ⟨_, rfl⟩
      rw [hx] at E2 hm2 hx2 ao hll hnm2 hnx2
      refine WP.skip ?_
      refine WP.seq ?_
      refine WP.block ?_
      refine WP.seq ?_
      refine WP.region ?_
      refine Ops.y (v := .pointer (some ⟨_, _, none⟩)) (Y.idxEl E2 Tryz.underlying62 Tryz.sizeOf68 rfl rfl (Int.natCast_nonneg _) rfl) ?_
      refine Ops.y (v := .agg #[_, _, _]) (Y.loadv ty_68 rfl (I.rd (E2.rd.part 0 3)) rfl rfl) ?_
      refine Ops.go (O.alloc I Tryz.zeroValue68 rfl ?_)
      intro b14 w I
      refine Ops.go (O.store (v := .agg #[_, _, _]) I ty_68 0 rfl rfl rfl rfl rfl rfl (Nat.le_of_ble_eq_true rfl) rfl ?_)
      intro w I
      refine Ops.nil ?_
      refine WP.seq ?_
      refine WP.region ?_
      refine Ops.y (v := .pointer (some ⟨_, _, none⟩)) (Y.fa0 fa_25_0 rfl) ?_
      refine Ops.y (v := .slice _ _ _) (Y.loadv ty_22 rfl (I.rdbox 5 rfl 0 1) rfl rfl) ?_
      refine Ops.y (v := .pointer (some ⟨_, _, none⟩)) (Y.fa fa_68_1 rfl) ?_
      refine Ops.y (v := .agg #[_, _]) (Y.loadv ty_61 rfl (I.rdbox 0 rfl 1 2) rfl rfl) ?_
      refine Ops.go (O.callv I Tryz.call25 (TAtom_ok _ I.base_ok p.preds (hl.le (gl.trans gl2)) x.atom (hx2.le (gl.trans gl2)) ao hnm2) rfl ?_)
      intro w I
      refine Ops.y (v := .string _) (Y.assign rfl) ?_
      refine Ops.nil ?_
      refine WP.seq ?_
      refine WP.seq ?_
      refine WP.region ?_
      refine Ops.y (v := .pointer (some ⟨_, _, none⟩)) (Y.fa0 fa_68_0 rfl) ?_
      refine Ops.y (v := .bool _) (Y.loadv ty_4 rfl (I.rdbox 0 rfl 0 1) rfl rfl) ?_
      refine Ops.nil ?_
      refine WP.cutK (σ := Unit) (fun _ => [(1, .pointer (some ⟨b1, 0, none⟩)), (5, .pointer (some ⟨b5, 0, none⟩)), (9, .pointer (some ⟨b9, 0, none⟩)), (45, p.rules.val), (46, .int .i64 p.rules.xs.length), (47, .int .i64 k), (10, .string (mk (atomL p.preds.xs r.head ++ valL p.preds.xs r))), (12, .slice q i c2), (87, r.body.val), (88, .int .i64 r.body.xs.length), (89, .int .i64 i), (15, .string (mk (litL p.preds.xs x)))])
        (fun _ w => Inv B h2 [box b14 x.enc 68, ownSl 9 1 (.slice q i c2) i (((r.body.xs.take i).map fun x => mk (litL p.preds.xs x)).flatMap sEn), box b9 r.enc 64, bldR b5 (.slice a n c) (((linesP p).take (p.preds.xs.length + k)).flatMap (· ++ [10])), bldB b5 pv (.slice a n c), box b1 p.enc 25] w) ?_ ?_
      · refine WP.cond rfl (fun h99 => ?_) (fun h99 => ?_)
        · have hng : x.neg = true := h99
          have hL : litL p.preds.xs x = [33] ++ atomL p.preds.xs x.atom := by unfold litL; rw [if_pos hng]
          rw [hL] at hll ⊢
          rw [List.length_append] at hll
          refine WP.region ?_
          refine Ops.y (v := .string _) (Y.move rfl) ?_
          refine Ops.y (v := .string _) (Y.adds rfl rfl ((by simp only [ByteArray.size_append, bsz, List.size_toArray, List.length_cons, List.length_nil, List.length_append]; omega))) ?_
          refine Ops.y (v := .string _) (Y.assign rfl) ?_
          refine Ops.nil ?_
          exact ⟨(), ⟨rfl, rfl, rfl, rfl, rfl, rfl, rfl, rfl, rfl, rfl, rfl, congrArg Value.string (tx_inj.1 (by simp only [tx_mk, tx_app, txl, List.append_assoc, Int.toNat_natCast, List.cons_append, List.nil_append])), trivial⟩, I⟩
        · have hng : x.neg = false := by simpa using h99
          have hL : litL p.preds.xs x = atomL p.preds.xs x.atom := by unfold litL; rw [if_neg (by rw [hng]; decide)]; rfl
          rw [hL]
          refine WP.skip ?_
          exact ⟨(), ⟨rfl, rfl, rfl, rfl, rfl, rfl, rfl, rfl, rfl, rfl, rfl, rfl, trivial⟩, I⟩
      rintro _ e w I
      refine WP.region ?_
      refine Ops.y (v := .slice _ _ _) (Y.move rfl) ?_
      refine Ops.y (v := .string _) (Y.move rfl) ?_
      refine Ops.go (O.mksl (xs := [mk (litL p.preds.xs x)]) (enc := sEn) I Tryz.underlying66 Tryz.sizeOf9 Tryz.zeroValue9 rfl (Nat.le_of_ble_eq_true rfl) rfl rfl (by decide) (fun _ => rfl) ?_)
      intro b104 h104 w I le104 sl104
      refine Ops.go (O.append I Tryz.underlying66 et_9 1 rfl rfl rfl (I.rd (sl104 0 _ rfl).2) rfl rfl (by decide) (by omega) (by omega) ?_)
      intro b105 c105 w I
      refine Ops.y (v := .slice _ _ _) (Y.assign rfl) ?_
      refine Ops.nil ?_
      refine WP.region ?_
      refine Ops.y (v := .int .i64 _) (Y.addi rfl rfl ⟨by omega, by omega⟩) ?_
      refine Ops.y (v := .int .i64 _) (Y.move rfl) ?_
      refine Ops.nil ?_
      refine ⟨(i + 1, some ⟨b105, 0, none⟩, c105, h104), ⟨⟨rfl, rfl, rfl, rfl, rfl, rfl, rfl, rfl, rfl, rfl, rfl, trivial⟩, ?_, by dsimp only; omega, gl2.trans le104⟩, by dsimp only; omega⟩
      dsimp only
      rw [hnx2, List.map_append, List.flatMap_append]
      exact I.drop
    obtain rfl : i = r.body.xs.length := by omega
    rw [List.take_length] at I
    have hcap := ownSl_cap (I.at 0 rfl)
    obtain ⟨h10, s, le10, hv, hx, is, J⟩ := I.settleSl (fun _ => rfl) (by simp)
    clear I
    obtain ⟨sa, sc, sx⟩ := s
    dsimp only at hx
    subst hx
    have hv' := hv
    unfold Sl.val at hv'
    dsimp only at hv'
    injection hv' with e1 e2 e3
    subst e1; subst e3
    have I := J
    have hlen2 : (r.body.xs.map fun x => mk (litL p.preds.xs x)).map tx = r.body.xs.map (litL p.preds.xs) := by rw [List.map_map]; rfl
    have hjo := SJoin_ok ⟨w, h10⟩ I.base_ok ⟨sa, sc, r.body.xs.map fun x => mk (litL p.preds.xs x)⟩ ⟨is, by simp; omega⟩ (by simpa using hcap) ⟨#[44, 32]⟩ (by rw [hlen2]; show (joinT [44, 32] _).length ≤ _; omega)
    rw [hlen2] at hjo
    unfold Sl.val at hjo
    simp only [List.length_map] at hjo
    have hjt : tx ⟨#[44, 32]⟩ = [44, 32] := rfl
    rw [hjt] at hjo
    refine WP.exit ?_
    refine WP.seq ?_
    refine WP.seq ?_
    refine WP.region ?_
    refine Ops.y (v := .slice _ _ _) (Y.move rfl) ?_
    refine Ops.y (v := .int .i64 _) (Y.lens Tryz.underlying66 rfl) ?_
    refine Ops.y (v := .bool (decide _)) (Y.gti rfl rfl) ?_
    refine Ops.nil ?_
    refine WP.cutK (σ := Unit) (fun _ => [(1, .pointer (some ⟨b1, 0, none⟩)), (5, .pointer (some ⟨b5, 0, none⟩)), (9, .pointer (some ⟨b9, 0, none⟩)), (45, p.rules.val), (46, .int .i64 p.rules.xs.length), (47, .int .i64 k), (10, .string (mk (atomL p.preds.xs r.head ++ (valL p.preds.xs r ++ bodyL p.preds.xs r.body.xs))))])
      (fun _ w => Inv B h10 [box b9 r.enc 64, bldR b5 (.slice a n c) (((linesP p).take (p.preds.xs.length + k)).flatMap (· ++ [10])), bldB b5 pv (.slice a n c), box b1 p.enc 25] w) ?_ ?_
    · refine WP.cond_dec rfl (fun h109 => ?_) (fun h109 => ?_)
      · have hb0 : r.body.xs ≠ [] := fun e => by rw [e] at h109; simp at h109
        have hB2 : bodyL p.preds.xs r.body.xs = [32, 58, 45, 32] ++ joinT [44, 32] (r.body.xs.map (litL p.preds.xs)) := by unfold bodyL; rw [if_neg hb0]
        rw [hB2]
        refine WP.region ?_
        refine Ops.y (v := .string _) (Y.move rfl) ?_
        refine Ops.y (v := .slice _ _ _) (Y.move rfl) ?_
        refine Ops.go (O.callv I Tryz.call26 (hjo) rfl ?_)
        intro w I
        refine Ops.y (v := .string _) (Y.adds rfl rfl ((by simp only [ByteArray.size_append, bsz, List.size_toArray, List.length_cons, List.length_nil, List.length_append]; omega))) ?_
        refine Ops.y (v := .string _) (Y.adds rfl rfl ((by simp only [ByteArray.size_append, bsz, List.size_toArray, List.length_cons, List.length_nil, List.length_append]; omega))) ?_
        refine Ops.y (v := .string _) (Y.assign rfl) ?_
        refine Ops.nil ?_
        exact ⟨(), ⟨rfl, rfl, rfl, rfl, rfl, rfl, congrArg Value.string (tx_inj.1 (by simp only [tx_mk, tx_app, txl, List.append_assoc, Int.toNat_natCast, List.cons_append, List.nil_append])), trivial⟩, I⟩
      · have hb0 : r.body.xs = [] := List.length_eq_zero_iff.1 (by omega)
        have hB2 : bodyL p.preds.xs r.body.xs = [] := by unfold bodyL; rw [if_pos hb0]
        rw [hB2, List.append_nil]
        refine WP.skip ?_
        exact ⟨(), ⟨rfl, rfl, rfl, rfl, rfl, rfl, rfl, trivial⟩, I⟩
    rintro _ e w I
    have hrl : ruleL p.preds.xs r = atomL p.preds.xs r.head ++ (valL p.preds.xs r ++ bodyL p.preds.xs r.body.xs) ++ [46] := rfl
    rw [hrl] at hlen hnx
    rw [List.length_append, List.length_singleton] at hlen
    refine WP.region ?_
    refine Ops.y (v := .string _) (Y.move rfl) ?_
    refine Ops.y (v := .string _) (Y.adds rfl rfl (by rw [mk_size]; show _ + 2 ≤ _; omega)) ?_
    refine Ops.go (O.calls Tryz.call23 (WriteS_is I 2 1 (by decide) rfl rfl hpv (t := (atomL p.preds.xs r.head ++ (valL p.preds.xs r ++ bodyL p.preds.xs r.body.xs) ++ [46]) ++ [10]) (by simp only [tx_mk, tx_app, txl, List.append_assoc, Int.toNat_natCast, List.cons_append, List.nil_append]) (by rw [List.length_append, List.length_append]; simp only [List.length_cons, List.length_nil]; omega)) rfl ?_)
    rintro ed w ⟨rfl, a', k', c', I⟩
    refine ⟨_, rfl, ?_⟩
    refine Ops.nil ?_
    refine WP.region ?_
    refine Ops.y (v := .int .i64 _) (Y.addi rfl rfl ⟨by omega, by omega⟩) ?_
    refine Ops.y (v := .int .i64 _) (Y.move rfl) ?_
    refine Ops.nil ?_
    refine ⟨(k + 1, .pointer (some ⟨b5, 0, none⟩), a', k', c', h10), ⟨⟨rfl, rfl, rfl, rfl, rfl, trivial⟩, by dsimp only; omega, .inr rfl, (gl.trans gl2).trans le10, ?_⟩, by dsimp only; omega⟩
    dsimp only
    rw [hnx, List.flatMap_append, List.flatMap_singleton]
    exact I.drop
  obtain rfl : k = p.rules.xs.length := by omega
  have hall : (linesP p).take (p.preds.xs.length + p.rules.xs.length) = linesP p := List.take_of_length_le (by unfold linesP; simp)
  rw [hall] at I
  refine WP.exit ?_
  refine WP.seq ?_
  refine WP.region ?_
  refine Ops.go (O.calls Tryz.call27 (BString_v I hB 1 0 rfl rfl hpv) rfl ?_)
  rintro ed w ⟨rfl, I⟩
  refine ⟨_, rfl, ?_⟩
  refine Ops.y (v := .string _) (Y.assign rfl) ?_
  refine Ops.y (v := .int .i64 _) (Y.assign rfl) ?_
  refine Ops.nil ?_
  refine WP.ret ?_
  repeat (first | refine thenE_ret ?_ | refine blockE_ret ?_)
  exact retQ.mk (vs := [.string _, .int .i64 _]) rfl ⟨rfl, rfl, trivial⟩ I.ext_of (by simp only [tup]; unfold showOf; rw [if_pos hp0]; rfl)
end Go.TF
end
section
/- Package text: what Read answers: plain; its end. -/
namespace Go.TF
open Go Go.RowKit Go.Proofs
set_option maxRecDepth 20000

def prgOf (st : St) : Prg := ⟨⟨none, 0, st.1⟩, ⟨none, 0, st.2⟩⟩
/-- What a text is read as, if it is right. -/
noncomputable def readOK (s : ByteArray) : Option St := if 4096 < s.size then none else
  match readR (tx s) with
  | none => none
  | some st => if checkProg (prgOf st) = 0 ∧ progL (prgOf st) = tx s then some st else none
noncomputable def readE (s : ByteArray) : Int := if 4096 < s.size then 2 else if (readOK s).isSome = true then 0 else 1
noncomputable def readP (s : ByteArray) : Prg := prgOf ((readOK s).getD ([], []))
def ReadPost (s : ByteArray) (v : Value) (h : Heap) : Prop := ∃ p : Prg, v = .tuple #[p.val, .int .i64 (readE s)] ∧ p.In h ∧ p.Nm ∧ p.er = readP s
theorem readL_app {a b : List Bs} : ∀ {p : St}, readL (a ++ b) p = match readL a p with | none => none | some q => readL b q := by
  induction a with
  | nil => intro p; rfl
  | cons x r ih =>
    intro p
    simp only [List.cons_append, readL]
    cases lineR p x with
    | none => rfl
    | some q => exact ih
theorem linesS_cnt : ∀ {f : Nat} {s : Bs}, (linesS f s).length ≤ f
  | 0, _ => Nat.le_refl _
  | f + 1, s => by
    rw [linesS]
    split
    · exact Nat.zero_le _
    · split
      · simp only [List.length_cons]; have := linesS_cnt (f := f) (s := s.drop ((Lib.index s [10]).toNat + 1)); omega
      · simp
theorem linesS_each : ∀ {f : Nat} {s x : Bs}, x ∈ linesS f s → x.length ≤ s.length
  | 0, _, _, h => by cases h
  | f + 1, s, x, h => by
    rw [linesS] at h
    split at h
    · cases h
    · split at h
      · rcases List.mem_cons.1 h with rfl | h
        · rw [List.length_take]; omega
        · have := linesS_each h
          rw [List.length_drop] at this; omega
      · rw [List.mem_singleton] at h; subst h; exact Nat.le_refl _
/-- The deferred call. -/
def dfrR (b2 b3 : Nat) : Deferred := { target := .fn (.func 28) #[.pointer (some ⟨b2, 0, none⟩), .pointer (some ⟨b3, 0, none⟩)], args := #[] }
section
variable {B : Base} {h : Heap} {M : List SA} {w : World} {fn : Func} {tmps : Array Value} {R : Ending → World → Prop} {m b2 b3 : Nat}
theorem dfr_enter (w : World) : (invoke (dfrR b2 b3).target (dfrR b2 b3).args).run Tryz.prog w = .ok (.enter 28 #[.pointer (some ⟨b2, 0, none⟩), .pointer (some ⟨b3, 0, none⟩)]) w := by
  simp [invoke, dfrR, go_sem]
theorem end_ret (I : Inv B h (markSA m :: M) w) (k : ∀ w', Inv B h M w' → ∃ v, (results fn tmps).run Tryz.prog w' = .ok v w' ∧ R (.returned v) w') : LeavesInM Fence.wide 0 Tryz.prog fn tmps R [mark m, dfrR b2 b3] .returning w := by
  have hD : w.heap[m]? = some (.deferred (some [])) := (I.own _ (List.mem_cons_self ..)).1
  refine ⟨by simp, .inl ⟨m, _, rfl, run_takeMark hD, ?_⟩⟩
  refine ⟨by simp, .inr ⟨(fun hd => by cases hd), .func 28, _, _, _, rfl, dfr_enter _, fun _ _ => trivial, ?_⟩⟩
  refine (Read1_ret b2 b3 _).mono ?_
  rintro ed u w' ⟨⟨v, rfl⟩, rfl, rfl⟩
  exact k _ I.shut
theorem end_pan {x y z : Value} (I : Inv B h (markSA m :: box b2 [x, y] 25 :: box b3 [z] 26 :: M) w)
    (k : ∀ w', Inv B h (box b2 [.slice none 0 0, .slice none 0 0] 25 :: box b3 [.int .i64 1] 26 :: M) w' → ∃ v, (results fn tmps).run Tryz.prog w' = .ok v w' ∧ R (.returned v) w') : LeavesInM Fence.wide 0 Tryz.prog fn tmps R [mark m, dfrR b2 b3] (.panicking brk) w := by
  have hD : w.heap[m]? = some (.deferred (some [])) := (I.own _ (List.mem_cons_self ..)).1
  refine ⟨by simp, .inl ⟨m, _, rfl, run_takeMark hD, ?_⟩⟩
  refine ⟨by simp, .inr ⟨(fun hd => by cases hd), .func 28, _, _, _, rfl, dfr_enter _, fun _ _ => trivial, ?_⟩⟩
  refine (Read1_pan b2 b3 I.shut).mono ?_
  rintro ed u w' ⟨⟨v, rfl⟩, rfl, I⟩
  exact k _ I
end
end Go.TF
end
section
/- What is checked of programs, wherever they lie; what the roads' strata and needs are: plain. -/
namespace Go.TF
open Go

theorem ne_true {b : Bool} (h : b = false) : ¬ b = true := by rw [h]; decide
def cEr (c : Int × Ltl) : Int × Ltl := (c.1, c.2.er)
theorem usesL_er (rs : List Rul) : usesL (rs.map Rul.er) = (usesL rs).map cEr := by
  induction rs with
  | nil => rfl
  | cons r rs ih =>
    unfold usesL at ih ⊢
    simp only [List.map_cons, List.flatMap_cons, List.map_append, ih]
    congr 1
    simp [Rul.er, cEr, Function.comp_def, Atm.er]
theorem sol_er {cs : List (Int × Ltl)} {n : Nat} {L : List Int} : Sol (cs.map cEr) n L ↔ Sol cs n L :=
  ⟨fun h => ⟨h.len, h.pos, fun c hc => h.sat (cEr c) (List.mem_map_of_mem hc)⟩, fun h => ⟨h.len, h.pos, fun c hc => by obtain ⟨d, hd, rfl⟩ := List.mem_map.1 hc; exact h.sat d hd⟩⟩
theorem least_er {cs : List (Int × Ltl)} {n : Nat} {L : List Int} (h : Least (cs.map cEr) n L) : Least cs n L := ⟨sol_er.1 h.sol, fun M hM => h.least M (sol_er.2 hM)⟩
theorem rulesErr_er (l : List Prd) (rs : List Rul) : rulesErr l (rs.map Rul.er) = rulesErr l rs := by
  induction rs with
  | nil => rfl
  | cons r rs ih => simp only [List.map_cons, rulesErr, checkRule_er, ih]
theorem checkProg_er (p : Prg) : checkProg p.er = checkProg p := by
  have h1 : p.er.preds.xs = p.preds.xs := rfl
  have h2 : p.er.rules.xs = p.rules.xs.map Rul.er := rfl
  unfold checkProg
  rw [h1, h2, List.length_map, rulesErr_er, usesL_er]
  rw [show (∃ M, Sol ((usesL p.rules.xs).map cEr) p.preds.xs.length M) = (∃ M, Sol (usesL p.rules.xs) p.preds.xs.length M) from propext ⟨fun ⟨M, h⟩ => ⟨M, sol_er.1 h⟩, fun ⟨M, h⟩ => ⟨M, sol_er.2 h⟩⟩]

/-! ### The roads -/
theorem lv3 {a b c : Int} (ha : 0 ≤ a) (hb : 0 ≤ b) (hc : 0 ≤ c) (i : Int) : 0 ≤ lv [a, b, c] i := by
  unfold lv
  rw [List.getD_eq_getElem?_getD]
  match i.toNat with
  | 0 => exact ha
  | 1 => exact hb
  | 2 => exact hc
  | _ + 3 => exact Int.le_refl 0
theorem roads_least : Least (usesL roadsC.rules.xs) 3 [0, 0, 1] := by
  refine ⟨⟨rfl, lv3 (by decide) (by decide) (by decide), ?_⟩, fun M hM i => ?_⟩
  · have : ∀ c ∈ usesL roadsC.rules.xs, lst [0, 0, 1] c ≤ lv [0, 0, 1] c.1 := by decide
    exact this
  · have h2 := hM.sat (2, ⟨true, aT 1 [tV 0, tV 0]⟩) (List.mem_of_getElem? (i := 4) rfl)
    have h1 := hM.pos 1
    have e : lst M (2, ⟨true, aT 1 [tV 0, tV 0]⟩) = lv M 1 + 1 := rfl
    unfold SatC at h2
    rw [e] at h2
    dsimp only at h2
    have hi := hM.pos i
    have key : lv [0, 0, 1] i = if i = 2 then 1 else 0 := by
      unfold lv
      rw [List.getD_eq_getElem?_getD]
      by_cases e : i = 2
      · subst e; rfl
      · rw [if_neg e]
        have : i.toNat ≠ 2 := by omega
        match h : i.toNat with
        | 0 => rfl
        | 1 => rfl
        | 2 => exact absurd h this
        | _ + 3 => rfl
    rw [key]
    split
    · rename_i e; subst e; omega
    · exact hi
theorem roads_check : checkProg roadsC = 0 := by
  unfold checkProg
  rw [if_neg (by decide), if_neg (ne_true (show (roadsC.preds.xs.any fun x => !isName x.name) = false by kernel_rfl)), if_neg (ne_true (show twice roadsC.preds.xs = false by kernel_rfl)), if_neg (ne_true (show roadsC.preds.xs.any badArity = false by kernel_rfl)), if_neg (ne_true (show roadsC.preds.xs.any badKind = false by kernel_rfl)), if_neg (by rw [show rulesErr roadsC.preds.xs roadsC.rules.xs = 0 by kernel_rfl]; decide)]
  exact if_pos ⟨_, roads_least.sol⟩
end Go.TF
end
section
/- Package text: Read: walked. -/
namespace Go.TF
open Go Go.RowKit Go.Proofs
set_option maxRecDepth 20000

theorem ruleL_er (l : List Prd) (r : Rul) : ruleL l r.er = ruleL l r := by
  unfold ruleL valL srcL bodyL
  have h1 : r.er.body.xs = r.body.xs.map Ltl.er := rfl
  have h2 : (r.body.xs.map Ltl.er).map (litL l) = r.body.xs.map (litL l) := by rw [List.map_map]; rfl
  have h3 : (r.body.xs.map Ltl.er = []) = (r.body.xs = []) := by simp
  rw [h1, h2]
  simp only [h3]
  rfl
theorem progL_er (p : Prg) : progL p.er = progL p := by
  unfold progL linesP
  have h1 : p.er.rules.xs = p.rules.xs.map Rul.er := rfl
  have h2 : (p.rules.xs.map Rul.er).map (ruleL p.er.preds.xs) = p.rules.xs.map (ruleL p.preds.xs) := by
    rw [List.map_map]; exact List.map_congr_left fun r _ => ruleL_er _ r
  rw [h1, h2]
  rfl
theorem post_nil {s : ByteArray} {v : Value} {h : Heap} (hn : readOK s = none) (hv : v = .tuple #[.agg #[.slice none 0 0, .slice none 0 0], .int .i64 (readE s)]) : ReadPost s v h :=
  ⟨⟨⟨none, 0, []⟩, ⟨none, 0, []⟩⟩, hv, ⟨nilIs, ⟨nilIs, (fun x hx => by cases hx)⟩⟩, (fun x hx => by cases hx), by unfold readP; rw [hn]; rfl⟩
theorem Lines_ok (B : Base) (hB : B.ok) (s : ByteArray) : FnM Tryz.prog 29 [.string s] B (fun v _ M => ∃ b, v = .func (.func 67) #[] #[.pointer (some ⟨b, 0, none⟩)] ∧ M = [box b [.string s] 9]) := by
  refine FnM.of Tryz.func29 rfl Tryz.ntmps29 (by kernel_rfl) (by simp) ?_
  intro e
  have I := Inv.start hB
  refine WP.seq ?_
  refine WP.region ?_
  refine Ops.go (O.box (v := .string _) I rfl rfl ?_)
  intro b1 w I
  refine Ops.y (v := .nilFunc) (Y.assign rfl) ?_
  refine Ops.nil ?_
  refine WP.seq ?_
  refine WP.region ?_
  refine Ops.y (v := .func _ _ _) (Y.mkfunc rfl rfl) ?_
  refine Ops.y (v := .func _ _ _) (Y.assign rfl) ?_
  refine Ops.nil ?_
  refine WP.ret ?_
  repeat (first | refine thenE_ret ?_ | refine blockE_ret ?_)
  exact retM.mk (vs := [_]) rfl ⟨rfl, trivial⟩ (I) (⟨b1, rfl, rfl⟩)
abbrev RdS := Option Addr × Nat × Option Addr × Nat × List Prd × List Rul
def rdU (b2 b3 : Nat) (z : RdS) : List SA := linM b2 z.1 z.2.2.2.2.1.length z.2.1 z.2.2.1 z.2.2.2.2.2.length z.2.2.2.1 z.2.2.2.2.1 z.2.2.2.2.2 [box b3 [.int .i64 0] 26]
def trimL (s : ByteArray) : List Bs := (linesS (tx s).length (tx s)).map fun l => Lib.trimSuffix l [10]
structure RdJ (s : ByteArray) (k : Nat) (hg : Heap) (z : RdS) : Prop where
  rd : readL ((trimL s).take k) ([], []) = some (z.2.2.2.2.1, z.2.2.2.2.2.map Rul.er)
  rin : ∀ r ∈ z.2.2.2.2.2, r.In hg
  nm : ∀ x ∈ z.2.2.2.2.1, x.name.size ≤ 4096
  lp : z.2.2.2.2.1.length ≤ k
  lr : z.2.2.2.2.2.length ≤ k
def rdX (B : Base) (s : ByteArray) (b2 b3 D : Nat) : PX := fun ch W => ch = brk ∧ readOK s = none ∧ ∃ hg x y, Inv B hg [markSA D, box b2 [x, y] 25, box b3 [.int .i64 0] 26] W
theorem trim_get {s : ByteArray} {k : Nat} {x : ByteArray} (h : (linesB s)[k]? = some x) : (trimL s)[k]? = some (Lib.trimSuffix (tx x) [10]) ∧ x.size ≤ s.size ∧ k < s.size := by
  unfold linesB at h
  rw [List.getElem?_map] at h
  obtain ⟨y, hy, rfl⟩ := Option.map_eq_some_iff.1 h
  refine ⟨?_, ?_, ?_⟩
  · unfold trimL; rw [List.getElem?_map, hy]; rfl
  · have := linesS_each (List.mem_of_getElem? hy)
    rw [mk_size, ← tx_len s]; exact this
  · have h1 := (List.getElem?_eq_some_iff.1 hy).1
    have h2 := linesS_cnt (f := (tx s).length) (s := tx s)
    rw [← tx_len s]; omega
theorem readL_step {s : ByteArray} {k : Nat} {z : Bs} {q : St} (hz : (trimL s)[k]? = some z) (h : readL ((trimL s).take k) ([], []) = some q) : readL ((trimL s).take (k + 1)) ([], []) = lineR q z := by
  rw [List.take_add_one, hz, Option.toList_some, readL_app, h]
  simp only [readL]
  cases lineR q z <;> rfl
theorem readR_none {s : ByteArray} {k : Nat} (h : readL ((trimL s).take k) ([], []) = none) : readR (tx s) = none := by
  show readL (trimL s) ([], []) = none
  rw [← List.take_append_drop k (trimL s), readL_app, h]
set_option maxHeartbeats 4000000 in
theorem Read_ok (B : Base) (hB : B.ok) (V : Vars B.h) (s : ByteArray) : Fn Tryz.prog 8 [.string s] B (ReadPost s) := by
  show Calls _ _ ([.string s] : List Value).toArray B.w _
  refine Calls.ofF (args := [.string s]) Tryz.func8 rfl Tryz.ntmps8 (by kernel_rfl) (by simp) ?_
  intro e
  have I := Inv.start hB
  refine WPF.seq ?_
  refine WPF.region ?_
  refine Ops.go (O.alloc I Tryz.zeroValue25 rfl ?_)
  intro b2 w I
  refine Ops.go (O.alloc I Tryz.zeroValue26 rfl ?_)
  intro b3 w I
  refine Ops.nil ?_
  refine WPF.seq ?_
  refine WPF.seq ?_
  refine WPF.region ?_
  refine Ops.y (v := .string _) (Y.move rfl) ?_
  refine Ops.y (v := .int .i64 _) (Y.lenstr Tryz.underlying9 rfl) ?_
  refine Ops.y (v := .bool (decide _)) (Y.gti rfl rfl) ?_
  refine Ops.nil ?_
  refine WPF.cond_dec rfl (fun h9 => ?_) (fun h9 => ?_)
  · have hn : readOK s = none := by unfold readOK; rw [if_pos (by omega)]
    have hE : readE s = 2 := by unfold readE; rw [if_pos (by omega)]
    refine WPF.seq ?_
    refine WPF.region ?_
    refine Ops.y (v := .agg #[.slice _ _ _, .slice _ _ _]) (Y.build pl_25 Tryz.zeroValue25 rfl rfl) ?_
    refine Ops.go (O.store (v := .agg #[_, _]) I ty_25 1 rfl rfl rfl rfl rfl rfl (Nat.le_of_ble_eq_true rfl) rfl ?_)
    intro w I
    refine Ops.go (O.store (v := .int .i64 _) I ty_26 0 rfl rfl rfl rfl rfl rfl (Nat.le_of_ble_eq_true rfl) rfl ?_)
    intro w I
    refine Ops.nil ?_
    refine WPF.ret ?_
    repeat (first | refine thenD_ret ?_ | refine blockD_ret ?_)
    intro tmps he
    exact ⟨_, results_run (a := { tmps := tmps, defers := [] }) rfl (vs := [.agg #[.slice none 0 0, .slice none 0 0], .int .i64 2]) (by rw [he]; exact ⟨⟨_, _, _, _, _, rfl, ty_25, I.rdbox 1 rfl 0 2, rfl, rfl⟩, ⟨_, _, _, _, _, rfl, ty_26, I.rdbox 0 rfl 0 1, rfl, rfl⟩, trivial⟩), _, _, rfl, I.ext_of, post_nil hn (by rw [hE]; rfl)⟩
  have hs : s.size ≤ 4096 := by omega
  refine WPF.skip ?_
  refine WPF.seq ?_
  refine WPF.deferR (v := .func (.func 28) #[] #[.pointer (some ⟨b2, 0, none⟩), .pointer (some ⟨b3, 0, none⟩)]) (dd := dfrR b2 b3) (Y.mkfunc rfl rfl) (by simp [execOp, resolve, ev, upd, Deferred.ofValue, dfrR]) ?_
  refine WPF.seq ?_
  refine WPF.seq ?_
  refine WPF.region ?_
  refine Ops.y (v := .string _) (Y.move rfl) ?_
  refine Ops.go (O.callM I Tryz.call29 (Lines_ok _ I.base_ok s) rfl ?_)
  rintro _ h1 M1 w I gl1 ⟨bl, rfl, rfl⟩
  try simp only [List.cons_append, List.nil_append] at I
  refine Ops.nil ?_
  have I := (((((((I.nilSl 64 5).nilSl 53 3).front 3 rfl).front 4 rfl).front 3 rfl).front 3 rfl).front 4 rfl)
  refine WPF.block ?_
  have hpan : ∀ (e : Env) (D : Nat) (ch : List PanicEntry) (W : World), e 2 = .pointer (some ⟨b2, 0, none⟩) → e 3 = .pointer (some ⟨b3, 0, none⟩) → rdX B s b2 b3 D ch W → endF Tryz.prog Tryz.f8 (fun x w' => ∃ v h', x = .returned v ∧ Ext B w' h' ∧ ReadPost s v h') (.panic ch) e W [mark D, dfrR b2 b3] := by
    rintro e D ch W e2 e3 ⟨rfl, hn, hg, x, y, I⟩ tmps he
    have hE : readE s = 1 := by unfold readE; rw [if_neg (by omega), hn]; rfl
    refine end_pan I fun w' I => ?_
    exact ⟨_, results_run (a := { tmps := tmps, defers := [] }) rfl (vs := [.agg #[.slice none 0 0, .slice none 0 0], .int .i64 1]) (by rw [he]; exact ⟨⟨_, _, _, _, _, e2, ty_25, I.rdbox 0 rfl 0 2, rfl, rfl⟩, ⟨_, _, _, _, _, e3, ty_26, I.rdbox 1 rfl 0 1, rfl, rfl⟩, trivial⟩), _, _, rfl, I.ext_of, post_nil hn (by rw [hE]; rfl)⟩
  refine WPF.rangeFunc (σ := RdS) (own := box bl [.string s] 9) (encs := strC) (xs := linesB s) ⟨_, Tryz.func8⟩ (rdU b2 b3) (RdJ s) (rdX B s b2 b3) (none, 0, none, 0, [], []) I ⟨rfl, (fun _ h => by cases h), (fun _ h => by cases h), Nat.le_refl _, Nat.le_refl _⟩
    (fun k z hg hg' hl j => ⟨j.rd, fun r hr => (j.rin r hr).le hl, j.nm, j.lp, j.lr⟩) rfl Tryz.call67 (Lines1_it s hs bl) (fun _ => rfl) (by kernel_rfl) (by kernel_rfl) (by kernel_rfl) ?_ ?_ (fun D ch W hx => hpan _ D ch W rfl rfl hx)
  · rintro l D r hg k x ⟨q, c, q2, c2, ps, rs⟩ X W hx gl I ⟨hrd, hin, hnm, hlp, hlr⟩
    dsimp only at hrd hin hnm hlp hlr
    obtain ⟨hz, hxs, hks⟩ := trim_get hx
    have htl := Lib.trimSuffix_le (tx x) [10]
    rw [tx_len] at htl
    have hBh : B.h.le hg := gl1.trans gl
    have hstep := readL_step hz hrd
    refine WPI.region (by kernel_rfl) ?_
    refine Ops.y (v := .string _) (Y.assign rfl) ?_
    refine Ops.nil ?_
    refine ⟨hg, Heap.le.refl _, I, fun r' W2 I => ?_⟩
    have J : Inv B hg ((rdU b2 b3 (q, c, q2, c2, ps, rs) ++ [loopSA l r', markSA D]) ++ X) W2 := I.perm List.perm_append_comm
    have I : Inv B hg (linM b2 q ps.length c q2 rs.length c2 ps rs ([box b3 [.int .i64 0] 26, loopSA l r', markSA D] ++ X)) W2 := J
    refine WPI.block ?_
    refine WPI.regionP _ (fun _ _ _ h => h) ?_
    refine OpsP.y (v := .string _) (Y.move rfl) ?_
    refine OpsP.go (O.callv I Tryz.call31 (TrimSuf_ok _ I.base_ok x ⟨#[10]⟩ (by omega)) rfl ?_)
    intro w I
    refine OpsP.p (O.callsP Tryz.call30 (line_v (V.le hBh) I (by omega) (by omega) hin hnm hBh (mk (Lib.trimSuffix (tx x) [10])) (by rw [mk_size]; omega)) rfl ?_)
    rintro ed w hq
    rcases ed with v | ch | _
    · obtain ⟨rfl, h', q', c', q2', c2', ps', rs', gl', I, hl, hin', hnm', hlp', hlr'⟩ := hq
      refine .inl ⟨_, rfl, ?_⟩
      refine OpsP.nil ?_
      refine ⟨h', (q', c', q2', c2', ps', rs'), [], gl', ?_, ⟨hstep.trans hl, hin', hnm', by dsimp only; omega, by dsimp only; omega⟩⟩
      have J : Inv B h' ((rdU b2 b3 (q', c', q2', c2', ps', rs') ++ [loopSA l r', markSA D]) ++ X) w := I
      show Inv B h' (X ++ (rdU b2 b3 (q', c', q2', c2', ps', rs') ++ [loopSA l r', markSA D])) w
      exact J.perm List.perm_append_comm
    · obtain ⟨rfl, ⟨h', I⟩, hl⟩ := hq
      have J : Inv B h' [box b2 [.slice q ps.length c, .slice q2 rs.length c2] 25, box b3 [.int .i64 0] 26, markSA D] w := I.weak (List.Sublist.cons_cons _ (List.Sublist.cons_cons _ (List.Sublist.cons _ (List.Sublist.cons_cons _ (List.nil_sublist _)))))
      refine .inr ⟨_, rfl, rfl, ?_, h', _, _, J.front 2 rfl⟩
      unfold readOK
      rw [if_neg (by omega), readR_none (k := k + 1) (hstep.trans hl)]
    · exact hq.elim
  · rintro D h2 ⟨q, c, q2, c2, ps, rs⟩ W gl I ⟨hrd, hin, hnm, hlp, hlr⟩
    dsimp only at hrd hin hnm hlp hlr
    have hcnt : (linesB s).length ≤ 4096 := by
      unfold linesB; rw [List.length_map]
      have := linesS_cnt (f := (tx s).length) (s := tx s)
      rw [tx_len] at this ⊢; omega
    have hR : readR (tx s) = some (ps, rs.map Rul.er) := by
      rw [List.take_of_length_le (by unfold trimL linesB; simp)] at hrd
      exact hrd
    obtain ⟨h3, sp, le3, hvp, hxp, isp, I⟩ := I.settleSl (fun _ => rfl) rfl
    obtain ⟨h4, sr, le4, hvr, hxr, isr, I⟩ := I.settleSl (fun _ => rfl) rfl
    subst hxp
    subst hxr
    rw [← hvp, ← hvr] at I
    obtain ⟨p, hp⟩ : ∃ p : Prg, p = ⟨sp, sr⟩ := ⟨_, rfl⟩
    have hpin : p.In h4 := by
      subst hp
      exact ⟨⟨Sl.In.le isp le4, by show sp.xs.length ≤ _; omega⟩, ⟨isr, by show sr.xs.length ≤ _; omega⟩, fun y hy => (hin y hy).le (le3.trans le4)⟩
    have hpnm : p.Nm := fun y hy => by subst hp; have := hnm y hy; omega
    have hpe : p.er = prgOf (sp.xs, sr.xs.map Rul.er) := by subst hp; rfl
    have hR2 : readOK s = if checkProg p = 0 ∧ progL p = tx s then some (sp.xs, sr.xs.map Rul.er) else none := by
      unfold readOK
      rw [if_neg (by omega), hR]
      simp only
      rw [← hpe, checkProg_er, progL_er]
    have I : Inv B h4 [box b2 p.enc 25, box b3 [.int .i64 0] 26, markSA D] W := by subst hp; exact I
    have hE : ∀ {st : Option St}, readOK s = st → readE s = if st.isSome = true then 0 else 1 := fun h => by unfold readE; rw [if_neg (by omega), h]
    by_cases hc : checkProg p = 0 ∧ progL p = tx s
    · rw [if_pos hc] at hR2
      have hS : Fn Tryz.prog 7 [p.val] ⟨W, h4⟩ (fun v _ => v = .tuple #[.string s, .int .i64 0]) := (Show_ok ⟨W, h4⟩ I.base_ok p hpin hpnm).mono fun v h' _ hv => by
        rw [hv]; unfold showOf; rw [if_pos hc.1, hc.2, show mk (tx s) = s from mk_tx s]
      refine WPF.seq ?_
      refine WPF.region ?_
      refine Ops.y (v := .agg #[_, _]) (Y.loadv ty_25 rfl (I.rdbox 0 rfl 0 2) rfl rfl) ?_
      refine Ops.go (O.callv I Tryz.call7 (hS) rfl ?_)
      intro w I
      refine Ops.y (v := .tuple #[_, _]) (Y.move rfl) ?_
      refine Ops.y (v := .string _) (Y.extract rfl rfl) ?_
      refine Ops.y (v := .int .i64 _) (Y.extract rfl rfl) ?_
      refine Ops.y (v := .string _) (Y.assign rfl) ?_
      refine Ops.y (v := .int .i64 _) (Y.assign rfl) ?_
      refine Ops.nil ?_
      refine WPF.seq ?_
      refine WPF.regionE _ (fun _ _ _ h => h) ?_
      refine OpsE.y (v := .int .i64 _) (Y.move rfl) ?_
      refine OpsE.y (v := .bool true) (Y.dec_t (Y.eqi rfl rfl) (rfl)) ?_
      refine OpsE.y (v := .bool _) (Y.move rfl) ?_
      refine OpsE.ygt rfl (v := .string _) (Y.move rfl) ?_
      refine OpsE.ygt rfl (v := .string _) (Y.move rfl) ?_
      refine OpsE.ygt rfl (v := .bool true) (Y.is (Y.eqs rfl rfl) ((by rw [beq_tx]; simp))) ?_
      refine OpsE.y (v := .bool _) (Y.pick_t rfl rfl) ?_
      refine OpsE.p (O.callpX I Tryz.call32 (must_ok _ I.base_ok true) rfl (fun w' g p => by cases p) ?_)
      rintro _ h5 w I hle ⟨_, rfl⟩
      refine OpsE.nil ?_
      refine WPF.seq ?_
      refine WPF.region ?_
      refine Ops.y (v := .agg #[_, _]) (Y.loadv ty_25 rfl (I.rdbox 0 rfl 0 2) rfl rfl) ?_
      refine Ops.go (O.store (v := .agg #[_, _]) I ty_25 0 rfl rfl rfl rfl rfl rfl (Nat.le_of_ble_eq_true rfl) rfl ?_)
      intro w I
      refine Ops.go (O.store (v := .int .i64 _) I ty_26 1 rfl rfl rfl rfl rfl rfl (Nat.le_of_ble_eq_true rfl) rfl ?_)
      intro w I
      refine Ops.nil ?_
      refine WPF.ret ?_
      repeat (first | refine thenD_ret ?_ | refine blockD_ret ?_)
      intro tmps he
      refine end_ret (I.front 2 rfl) (fun w' I => ⟨_, results_run (a := { tmps := tmps, defers := [] }) rfl (vs := [p.val, .int .i64 0]) (by rw [he]; exact ⟨⟨_, _, _, _, _, rfl, ty_25, I.rdbox 0 rfl 0 2, rfl, rfl⟩, ⟨_, _, _, _, _, rfl, ty_26, I.rdbox 1 rfl 0 1, rfl, rfl⟩, trivial⟩), _, _, rfl, I.ext_of, p, by rw [hE hR2]; rfl, hpin.le hle, hpnm, ?_⟩)
      rw [hpe]; unfold readP; rw [hR2]; rfl
    · rw [if_neg hc] at hR2
      by_cases hc0 : checkProg p = 0
      · have hne : mk (progL p) ≠ s := fun e => hc ⟨hc0, by rw [← e]⟩
        have hS : Fn Tryz.prog 7 [p.val] ⟨W, h4⟩ (fun v _ => v = .tuple #[.string (mk (progL p)), .int .i64 0]) := (Show_ok ⟨W, h4⟩ I.base_ok p hpin hpnm).mono fun v h' _ hv => by
          rw [hv]; unfold showOf; rw [if_pos hc0]
        refine WPF.seq ?_
        refine WPF.region ?_
        refine Ops.y (v := .agg #[_, _]) (Y.loadv ty_25 rfl (I.rdbox 0 rfl 0 2) rfl rfl) ?_
        refine Ops.go (O.callv I Tryz.call7 (hS) rfl ?_)
        intro w I
        refine Ops.y (v := .tuple #[_, _]) (Y.move rfl) ?_
        refine Ops.y (v := .string _) (Y.extract rfl rfl) ?_
        refine Ops.y (v := .int .i64 _) (Y.extract rfl rfl) ?_
        refine Ops.y (v := .string _) (Y.assign rfl) ?_
        refine Ops.y (v := .int .i64 _) (Y.assign rfl) ?_
        refine Ops.nil ?_
        refine WPF.seq ?_
        refine WPF.regionE _ (fun _ _ _ h => h) ?_
        refine OpsE.y (v := .int .i64 _) (Y.move rfl) ?_
        refine OpsE.y (v := .bool true) (Y.dec_t (Y.eqi rfl rfl) (rfl)) ?_
        refine OpsE.y (v := .bool _) (Y.move rfl) ?_
        refine OpsE.ygt rfl (v := .string _) (Y.move rfl) ?_
        refine OpsE.ygt rfl (v := .string _) (Y.move rfl) ?_
        refine OpsE.ygt rfl (v := .bool false) (Y.is (Y.eqs rfl rfl) ((by rw [beq_tx, decide_eq_false (fun e => hne (tx_inj.1 e))]))) ?_
        refine OpsE.y (v := .bool _) (Y.pick_t rfl rfl) ?_
        refine OpsE.p (O.callpX I Tryz.call32 (must_ok _ I.base_ok false) rfl (fun w' g p => hpan _ D _ _ rfl rfl ⟨rfl, hR2, _, _, _, (I.grow g).front 2 rfl⟩) ?_)
        rintro _ h5 w I hle ⟨h, _⟩
        refine OpsE.nil ?_
        cases h
      · have hS : Fn Tryz.prog 7 [p.val] ⟨W, h4⟩ (fun v _ => v = .tuple #[.string ⟨#[]⟩, .int .i64 (checkProg p)]) := (Show_ok ⟨W, h4⟩ I.base_ok p hpin hpnm).mono fun v h' _ hv => by
          rw [hv]; unfold showOf; rw [if_neg hc0]
        refine WPF.seq ?_
        refine WPF.region ?_
        refine Ops.y (v := .agg #[_, _]) (Y.loadv ty_25 rfl (I.rdbox 0 rfl 0 2) rfl rfl) ?_
        refine Ops.go (O.callv I Tryz.call7 (hS) rfl ?_)
        intro w I
        refine Ops.y (v := .tuple #[_, _]) (Y.move rfl) ?_
        refine Ops.y (v := .string _) (Y.extract rfl rfl) ?_
        refine Ops.y (v := .int .i64 _) (Y.extract rfl rfl) ?_
        refine Ops.y (v := .string _) (Y.assign rfl) ?_
        refine Ops.y (v := .int .i64 _) (Y.assign rfl) ?_
        refine Ops.nil ?_
        refine WPF.seq ?_
        refine WPF.regionE _ (fun _ _ _ h => h) ?_
        refine OpsE.y (v := .int .i64 _) (Y.move rfl) ?_
        refine OpsE.y (v := .bool false) (Y.dec_f (Y.eqi rfl rfl) (hc0)) ?_
        refine OpsE.y (v := .bool _) (Y.move rfl) ?_
        refine OpsE.gf rfl ?_
        refine OpsE.gf rfl ?_
        refine OpsE.gf rfl ?_
        refine OpsE.y (v := .bool _) (Y.pick_f rfl rfl) ?_
        refine OpsE.p (O.callpX I Tryz.call32 (must_ok _ I.base_ok false) rfl (fun w' g p => hpan _ D _ _ rfl rfl ⟨rfl, hR2, _, _, _, (I.grow g).front 2 rfl⟩) ?_)
        rintro _ h5 w I hle ⟨h, _⟩
        refine OpsE.nil ?_
        cases h
end Go.TF
end
