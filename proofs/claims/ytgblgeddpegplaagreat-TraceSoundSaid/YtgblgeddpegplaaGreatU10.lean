/- Texts Tra4 Tra5 Nai3 TraLaw. -/
import Derived.Test.YtgblgeddpegplaaGreatU9
section
/- What is replayed: the program's answer and the document's. -/
namespace Go.TF
open Go Go.RowKit Go.Proofs
set_option maxRecDepth 20000

def RepP (r : (List Fct × Nat) × Int) (v : Value) (h : Heap) : Prop := ∃ s : Sl Fct, v = .tuple #[s.val, .int .i64 r.1.2, .int .i64 r.2] ∧ s.xs = r.1.1 ∧ Fcts s h
theorem RepP.mono {r : (List Fct × Nat) × Int} : MonoS (RepP r) := fun _ _ _ hl ⟨s, a, b, c⟩ => ⟨s, a, b, c.le hl⟩
theorem repL_at {p : Prg} {xs : List Stp} {j : Nat} {f : List Fct} (hj : j < xs.length) : repL p (xs.drop j) j f = repL p (xs[j] :: xs.drop (j + 1)) j f := by rw [← List.drop_eq_getElem_cons hj]
theorem within_sub {n : Int} {m : Nat} : within n 0 ((m : Int) - 1) ↔ 0 ≤ n ∧ n < m := by unfold within; omega
set_option maxHeartbeats 8000000 in
theorem Replay_ok (B : Base) (hB : B.ok) (p : Prg) (hp : p.In B.h) (hnm : p.Nm) (l : Sl Stp) (hl0 : Stps l B.h) : Fn Tryz.prog 26 [p.val, l.val] B (RepP (replayOf p l.xs)) := by
  have hls := hl0.small
  have hsr := hp.rules.is.small
  refine Fn.of Tryz.func26 rfl Tryz.ntmps26 (by kernel_rfl) (by simp) ?_
  intro e
  have I := Inv.start hB
  refine WP.seq ?_
  refine WP.region ?_
  refine Ops.go (O.box (v := .agg #[_, _]) I rfl rfl ?_)
  intro b2 w I
  refine Ops.y (v := .slice _ _ _) (Y.assign rfl) ?_
  refine Ops.y (v := .int .i64 _) (Y.assign rfl) ?_
  refine Ops.y (v := .int .i64 _) (Y.assign rfl) ?_
  refine Ops.nil ?_
  refine WP.seq ?_
  refine WP.seq ?_
  refine WP.region ?_
  refine Ops.y (v := .agg #[_, _]) (Y.loadv ty_25 rfl (I.rdbox 0 rfl 0 2) rfl rfl) ?_
  refine Ops.go (O.callv I Tryz.call56 (PCheck_ok _ I.base_ok p hp hnm) rfl ?_)
  intro w I
  refine Ops.y (v := .int .i64 _) (Y.assign rfl) ?_
  refine Ops.nil ?_
  refine WP.seq ?_
  refine WP.region ?_
  refine Ops.y (v := .int .i64 _) (Y.move rfl) ?_
  refine Ops.y (v := .bool (decide _)) (Y.nei rfl rfl) ?_
  refine Ops.nil ?_
  refine WP.cond_dec rfl (fun h2 => ?_) (fun h2 => ?_)
  · refine WP.seq ?_
    refine WP.region ?_
    refine Ops.y (v := .int .i64 _) (Y.move rfl) ?_
    refine Ops.y (v := .slice _ _ _) (Y.assign rfl) ?_
    refine Ops.y (v := .int .i64 _) (Y.assign rfl) ?_
    refine Ops.y (v := .int .i64 _) (Y.assign rfl) ?_
    refine Ops.nil ?_
    refine WP.ret ?_
    repeat (first | refine thenE_ret ?_ | refine blockE_ret ?_)
    exact retQ.mk (vs := [.slice _ _ _, .int .i64 _, .int .i64 _]) rfl ⟨rfl, rfl, rfl, trivial⟩ I.ext_of (by unfold replayOf; rw [if_pos h2]; exact ⟨⟨none, 0, []⟩, rfl, rfl, fnil⟩)
  have hpr := Decidable.not_not.1 h2
  have rk := chk_rok hpr
  have ok0 := chk_nil hpr
  refine WP.skip ?_
  refine WP.seq ?_
  refine WP.seq ?_
  refine WP.region ?_
  refine Ops.y (v := .slice _ _ _) (Y.move rfl) ?_
  refine Ops.y (v := .int .i64 _) (Y.lens Tryz.underlying36 rfl) ?_
  refine Ops.y (v := .bool (decide _)) (Y.gti rfl rfl) ?_
  refine Ops.nil ?_
  refine WP.cond_dec rfl (fun h4 => ?_) (fun h4 => ?_)
  · refine WP.seq ?_
    refine WP.region ?_
    refine Ops.y (v := .slice _ _ _) (Y.assign rfl) ?_
    refine Ops.y (v := .int .i64 _) (Y.assign rfl) ?_
    refine Ops.y (v := .int .i64 _) (Y.assign rfl) ?_
    refine Ops.nil ?_
    refine WP.ret ?_
    repeat (first | refine thenE_ret ?_ | refine blockE_ret ?_)
    exact retQ.mk (vs := [.slice _ _ _, .int .i64 _, .int .i64 _]) rfl ⟨rfl, rfl, rfl, trivial⟩ I.ext_of (by unfold replayOf; rw [if_neg h2, if_pos (by omega)]; exact ⟨⟨none, 0, []⟩, rfl, rfl, fnil⟩)
  have hR : replayOf p l.xs = repL p l.xs 0 [] := by unfold replayOf; rw [if_neg h2, if_neg (by omega)]
  rw [hR]
  refine WP.skip ?_
  refine WP.seq ?_
  refine WP.region ?_
  refine Ops.y (v := .slice _ _ _) (Y.assign rfl) ?_
  refine Ops.nil ?_
  refine WP.seq ?_
  refine WP.seq ?_
  refine WP.region ?_
  refine Ops.y (v := .slice _ _ _) (Y.move rfl) ?_
  refine Ops.y (v := .int .i64 _) (Y.lens Tryz.underlying36 rfl) ?_
  refine Ops.y (v := .int .i64 _) (Y.move rfl) ?_
  refine Ops.nil ?_
  refine WP.block ?_
  refine WP.loopE (σ := Nat × Sl Fct × Heap) (fun s => [(1, l.val), (2, .pointer (some ⟨b2, 0, none⟩)), (8, s.2.1.val), (21, l.val), (22, .int .i64 l.xs.length), (23, .int .i64 s.1)])
    (fun s w => Inv B s.2.2 [box b2 p.enc 25] w ∧ s.1 ≤ l.xs.length ∧ B.h.le s.2.2 ∧ FOk p.preds.xs s.2.1.xs ∧ Fcts s.2.1 s.2.2 ∧ repL p l.xs 0 [] = repL p (l.xs.drop s.1) s.1 s.2.1.xs) (fun s => l.xs.length - s.1)
    ⟨(0, ⟨none, 0, []⟩, B.h), ⟨rfl, rfl, rfl, rfl, rfl, rfl, trivial⟩, I, Nat.zero_le _, Heap.le.refl _, ok0, fnil, rfl⟩ ?_
  rintro ⟨k, f, hh⟩ e w ⟨I, hk, gl, okf, hf, hrep⟩
  dsimp only at I hk gl okf hf hrep ⊢
  have hp := hp.le gl
  refine WP.seq ?_
  refine WP.region ?_
  refine Ops.y (v := .bool (decide _)) (Y.lti rfl rfl) ?_
  refine Ops.nil ?_
  refine WP.seq ?_
  refine WP.cond_dec rfl (fun h8 => ?_) (fun h8 => ?_)
  · have hk' : k < l.xs.length := by omega
    have E := (hl0.le gl).at hk'
    obtain ⟨x, hx⟩ : ∃ x, l.xs[k] = x := ⟨_, rfl⟩
    rw [hx] at E
    rw [repL_at hk', hx] at hrep
    refine WP.skip ?_
    refine WP.seq ?_
    refine WP.block ?_
    refine WP.seq ?_
    refine WP.region ?_
    refine Ops.y (v := .int .i64 _) (Y.move rfl) ?_
    refine Ops.y (v := .pointer (some ⟨_, _, none⟩)) (Y.idxEl E Tryz.underlying36 Tryz.sizeOf82 rfl rfl (Int.natCast_nonneg _) rfl) ?_
    refine Ops.y (v := .agg #[_, _, _, _]) (Y.loadv ty_82 rfl (I.rd (E.rd.part 0 4)) rfl rfl) ?_
    refine Ops.go (O.alloc I Tryz.zeroValue82 rfl ?_)
    intro b10 w I
    refine Ops.y (v := .int .i64 _) (Y.assign rfl) ?_
    refine Ops.go (O.store (v := .agg #[_, _, _, _]) I ty_82 0 rfl rfl rfl rfl rfl rfl (Nat.le_of_ble_eq_true rfl) rfl ?_)
    intro w I
    refine Ops.nil ?_
    refine WP.seq ?_
    refine WP.seq ?_
    by_cases o0 : x.rule < 0
    · refine WP.region ?_
      refine Ops.y (v := .pointer (some ⟨_, _, none⟩)) (Y.fa0 fa_82_0 rfl) ?_
      refine Ops.y (v := .int .i64 _) (Y.loadv ty_3 rfl (I.rdbox 0 rfl 0 1) rfl rfl) ?_
      refine Ops.y (v := .bool true) (Y.dec_t (Y.lti rfl rfl) (o0)) ?_
      refine Ops.y (v := .bool _) (Y.move rfl) ?_
      refine Ops.gf rfl ?_
      refine Ops.gf rfl ?_
      refine Ops.gf rfl ?_
      refine Ops.gf rfl ?_
      refine Ops.gf rfl ?_
      refine Ops.gf rfl ?_
      refine Ops.y (v := .bool _) (Y.pick_t rfl rfl) ?_
      refine Ops.nil ?_
      refine WP.cond_t rfl ?_
      refine WP.seq ?_
      refine WP.region ?_
      refine Ops.y (v := .int .i64 _) (Y.move rfl) ?_
      refine Ops.y (v := .slice _ _ _) (Y.assign rfl) ?_
      refine Ops.y (v := .int .i64 _) (Y.assign rfl) ?_
      refine Ops.y (v := .int .i64 _) (Y.assign rfl) ?_
      refine Ops.nil ?_
      refine WP.ret ?_
      repeat (first | refine thenE_ret ?_ | refine blockE_ret ?_)
      exact retQ.mk (vs := [.slice _ _ _, .int .i64 _, .int .i64 _]) rfl ⟨rfl, rfl, rfl, trivial⟩ I.ext_of (by rw [hrep, repL, if_neg (by omega)]; exact ⟨⟨none, 0, []⟩, rfl, rfl, fnil⟩)
    by_cases o1 : (p.rules.xs.length : Int) ≤ x.rule
    · refine WP.region ?_
      refine Ops.y (v := .pointer (some ⟨_, _, none⟩)) (Y.fa0 fa_82_0 rfl) ?_
      refine Ops.y (v := .int .i64 _) (Y.loadv ty_3 rfl (I.rdbox 0 rfl 0 1) rfl rfl) ?_
      refine Ops.y (v := .bool false) (Y.dec_f (Y.lti rfl rfl) (o0)) ?_
      refine Ops.y (v := .bool _) (Y.move rfl) ?_
      refine Ops.ygt rfl (v := .pointer (some ⟨_, _, none⟩)) (Y.fa0 fa_82_0 rfl) ?_
      refine Ops.ygt rfl (v := .int .i64 _) (Y.loadv ty_3 rfl (I.rdbox 0 rfl 0 1) rfl rfl) ?_
      refine Ops.ygt rfl (v := .pointer (some ⟨_, _, none⟩)) (Y.fa fa_25_1 rfl) ?_
      refine Ops.ygt rfl (v := .slice _ _ _) (Y.loadv ty_23 rfl (I.rdbox 1 rfl 1 1) rfl rfl) ?_
      refine Ops.ygt rfl (v := .int .i64 _) (Y.lens Tryz.underlying23 rfl) ?_
      refine Ops.ygt rfl (v := .bool true) (Y.dec_t (Y.gei rfl rfl) (o1)) ?_
      refine Ops.y (v := .bool _) (Y.pick_f rfl rfl) ?_
      refine Ops.nil ?_
      refine WP.cond_t rfl ?_
      refine WP.seq ?_
      refine WP.region ?_
      refine Ops.y (v := .int .i64 _) (Y.move rfl) ?_
      refine Ops.y (v := .slice _ _ _) (Y.assign rfl) ?_
      refine Ops.y (v := .int .i64 _) (Y.assign rfl) ?_
      refine Ops.y (v := .int .i64 _) (Y.assign rfl) ?_
      refine Ops.nil ?_
      refine WP.ret ?_
      repeat (first | refine thenE_ret ?_ | refine blockE_ret ?_)
      exact retQ.mk (vs := [.slice _ _ _, .int .i64 _, .int .i64 _]) rfl ⟨rfl, rfl, rfl, trivial⟩ I.ext_of (by rw [hrep, repL, if_neg (by omega)]; exact ⟨⟨none, 0, []⟩, rfl, rfl, fnil⟩)
    refine WP.region ?_
    refine Ops.y (v := .pointer (some ⟨_, _, none⟩)) (Y.fa0 fa_82_0 rfl) ?_
    refine Ops.y (v := .int .i64 _) (Y.loadv ty_3 rfl (I.rdbox 0 rfl 0 1) rfl rfl) ?_
    refine Ops.y (v := .bool false) (Y.dec_f (Y.lti rfl rfl) (o0)) ?_
    refine Ops.y (v := .bool _) (Y.move rfl) ?_
    refine Ops.ygt rfl (v := .pointer (some ⟨_, _, none⟩)) (Y.fa0 fa_82_0 rfl) ?_
    refine Ops.ygt rfl (v := .int .i64 _) (Y.loadv ty_3 rfl (I.rdbox 0 rfl 0 1) rfl rfl) ?_
    refine Ops.ygt rfl (v := .pointer (some ⟨_, _, none⟩)) (Y.fa fa_25_1 rfl) ?_
    refine Ops.ygt rfl (v := .slice _ _ _) (Y.loadv ty_23 rfl (I.rdbox 1 rfl 1 1) rfl rfl) ?_
    refine Ops.ygt rfl (v := .int .i64 _) (Y.lens Tryz.underlying23 rfl) ?_
    refine Ops.ygt rfl (v := .bool false) (Y.dec_f (Y.gei rfl rfl) (o1)) ?_
    refine Ops.y (v := .bool _) (Y.pick_f rfl rfl) ?_
    refine Ops.nil ?_
    refine WP.cond_f rfl ?_
    have hin : 0 ≤ x.rule ∧ x.rule < p.rules.xs.length := by omega
    rw [repL, if_pos hin] at hrep
    refine WP.skip ?_
    refine WP.seq ?_
    refine WP.seq ?_
    refine WP.region ?_
    refine Ops.y (v := .pointer (some ⟨_, _, none⟩)) (Y.fa fa_82_1 rfl) ?_
    refine Ops.y (v := .agg #[_, _, _]) (Y.loadv ty_80 rfl (I.rdbox 0 rfl 1 3) rfl rfl) ?_
    refine Ops.go (O.callv I Tryz.call83 (Constants_ok _ I.base_ok x.vars) rfl ?_)
    intro w I
    refine Ops.y (v := .bool _) (Y.not rfl) ?_
    refine Ops.nil ?_
    refine WP.cond rfl (fun h12 => ?_) (fun h12 => ?_)
    · have h12 : vsB x.vars = false := by simpa using h12
      refine WP.seq ?_
      refine WP.region ?_
      refine Ops.y (v := .int .i64 _) (Y.move rfl) ?_
      refine Ops.y (v := .slice _ _ _) (Y.assign rfl) ?_
      refine Ops.y (v := .int .i64 _) (Y.assign rfl) ?_
      refine Ops.y (v := .int .i64 _) (Y.assign rfl) ?_
      refine Ops.nil ?_
      refine WP.ret ?_
      repeat (first | refine thenE_ret ?_ | refine blockE_ret ?_)
      exact retQ.mk (vs := [.slice _ _ _, .int .i64 _, .int .i64 _]) rfl ⟨rfl, rfl, rfl, trivial⟩ I.ext_of (by rw [hrep, if_neg (by rw [h12]; decide)]; exact ⟨⟨none, 0, []⟩, rfl, rfl, fnil⟩)
    have h12 : vsB x.vars = true := by simpa using h12
    rw [if_pos h12] at hrep
    have hlt : x.rule.toNat < p.rules.xs.length := by omega
    have hr : p.rules.xs[x.rule.toNat]? = some p.rules.xs[x.rule.toNat] := List.getElem?_eq_getElem hlt
    have hgd : p.rules.xs.getD x.rule.toNat default = p.rules.xs[x.rule.toNat] := by rw [List.getD_eq_getElem?_getD, hr]; rfl
    have ok := rk _ (List.getElem_mem hlt)
    have hvs := vsB_iff.1 h12
    rw [hgd] at hrep
    obtain ⟨y, hy⟩ : ∃ y, holdsF p.preds.xs f.xs p.rules.xs[x.rule.toNat] x.vars = y := ⟨_, rfl⟩
    rw [hy] at hrep
    refine WP.skip ?_
    refine WP.seq ?_
    refine WP.region ?_
    refine Ops.y (v := .agg #[_, _]) (Y.loadv ty_25 rfl (I.rdbox 1 rfl 0 2) rfl rfl) ?_
    refine Ops.y (v := .slice _ _ _) (Y.move rfl) ?_
    refine Ops.y (v := .pointer (some ⟨_, _, none⟩)) (Y.fa0 fa_82_0 rfl) ?_
    refine Ops.y (v := .int .i64 _) (Y.loadv ty_3 rfl (I.rdbox 0 rfl 0 1) rfl rfl) ?_
    refine Ops.y (v := .pointer (some ⟨_, _, none⟩)) (Y.fa fa_82_1 rfl) ?_
    refine Ops.y (v := .agg #[_, _, _]) (Y.loadv ty_80 rfl (I.rdbox 0 rfl 1 3) rfl rfl) ?_
    refine Ops.go (O.callv I Tryz.call84 (FOf_at _ I.base_ok p hp f hf x.rule _ hin.1 hr ok okf x.vars hvs y hy) rfl ?_)
    intro w I
    refine Ops.y (v := .tuple #[_, _]) (Y.move rfl) ?_
    refine Ops.y (v := .bool _) (Y.extract rfl rfl) ?_
    refine Ops.y (v := .agg #[_, _, _, _]) (Y.extract rfl rfl) ?_
    refine Ops.go (O.alloc I Tryz.zeroValue52 rfl ?_)
    intro b12 w I
    refine Ops.y (v := .bool _) (Y.assign rfl) ?_
    refine Ops.go (O.store (v := .agg #[_, _, _, _]) I ty_52 0 rfl rfl rfl rfl rfl rfl (Nat.le_of_ble_eq_true rfl) rfl ?_)
    intro w I
    refine Ops.nil ?_
    refine WP.seq ?_
    refine WP.seq ?_
    refine WP.region ?_
    refine Ops.y (v := .bool _) (Y.move rfl) ?_
    refine Ops.y (v := .bool _) (Y.not rfl) ?_
    refine Ops.nil ?_
    refine WP.cond rfl (fun h15 => ?_) (fun h15 => ?_)
    · have h15 : y.1 = false := by simpa using h15
      refine WP.seq ?_
      refine WP.region ?_
      refine Ops.y (v := .int .i64 _) (Y.move rfl) ?_
      refine Ops.y (v := .slice _ _ _) (Y.assign rfl) ?_
      refine Ops.y (v := .int .i64 _) (Y.assign rfl) ?_
      refine Ops.y (v := .int .i64 _) (Y.assign rfl) ?_
      refine Ops.nil ?_
      refine WP.ret ?_
      repeat (first | refine thenE_ret ?_ | refine blockE_ret ?_)
      exact retQ.mk (vs := [.slice _ _ _, .int .i64 _, .int .i64 _]) rfl ⟨rfl, rfl, rfl, trivial⟩ I.ext_of (by rw [hrep, if_neg (by rw [h15]; decide)]; exact ⟨⟨none, 0, []⟩, rfl, rfl, fnil⟩)
    have h15 : y.1 = true := by simpa using h15
    rw [if_pos h15] at hrep
    have hfine : factFine p.preds.xs y.2 = true := by
      have hb : holdsB f.xs p.rules.xs[x.rule.toNat] x.vars = true := by
        unfold holdsF at hy
        split at hy
        · assumption
        · rw [← hy] at h15; cases h15
      have := headF_fine ok okf hvs hb
      have e2 : headF p.preds.xs f.xs p.rules.xs[x.rule.toNat] x.vars = y.2 := by
        unfold holdsF at hy
        rw [if_pos hb] at hy
        rw [← hy]
      rwa [e2] at this
    refine WP.skip ?_
    refine WP.region ?_
    refine Ops.y (v := .pointer (some ⟨_, _, none⟩)) (Y.fa0 fa_25_0 rfl) ?_
    refine Ops.y (v := .slice _ _ _) (Y.loadv ty_22 rfl (I.rdbox 2 rfl 0 1) rfl rfl) ?_
    refine Ops.y (v := .slice _ _ _) (Y.move rfl) ?_
    refine Ops.y (v := .agg #[_, _, _, _]) (Y.loadv ty_52 rfl (I.rdbox 0 rfl 0 4) rfl rfl) ?_
    refine Ops.go (O.call I Tryz.call67 (Put_ok _ I.base_ok p.preds hp.preds f hf okf y.2 hfine) rfl ?_)
    rintro _ h6 w I le6 ⟨s6, rfl, e6, i6⟩
    refine Ops.y (v := .tuple #[_, _]) (Y.move rfl) ?_
    refine Ops.y (v := .slice _ _ _) (Y.extract rfl rfl) ?_
    refine Ops.y (v := .bool _) (Y.extract rfl rfl) ?_
    refine Ops.y (v := .slice _ _ _) (Y.assign rfl) ?_
    refine Ops.nil ?_
    refine WP.region ?_
    refine Ops.y (v := .int .i64 _) (Y.addi rfl rfl ⟨by omega, by omega⟩) ?_
    refine Ops.y (v := .int .i64 _) (Y.move rfl) ?_
    refine Ops.nil ?_
    exact ⟨(k + 1, s6, h6), ⟨⟨rfl, rfl, rfl, rfl, rfl, rfl, trivial⟩, I.drop.drop, by dsimp only; omega, gl.trans le6, by dsimp only; rw [e6]; exact addF_fok okf hfine, i6, by dsimp only; rw [hrep, e6]⟩, by dsimp only; omega⟩
  · obtain rfl : k = l.xs.length := by omega
    rw [List.drop_length, repL] at hrep
    refine WP.exit ?_
    refine WP.seq ?_
    refine WP.region ?_
    refine Ops.y (v := .slice _ _ _) (Y.move rfl) ?_
    refine Ops.y (v := .slice _ _ _) (Y.move rfl) ?_
    refine Ops.y (v := .int .i64 _) (Y.lens Tryz.underlying36 rfl) ?_
    refine Ops.y (v := .slice _ _ _) (Y.assign rfl) ?_
    refine Ops.y (v := .int .i64 _) (Y.assign rfl) ?_
    refine Ops.y (v := .int .i64 _) (Y.assign rfl) ?_
    refine Ops.nil ?_
    refine WP.ret ?_
    repeat (first | refine thenE_ret ?_ | refine blockE_ret ?_)
    exact retQ.mk (vs := [.slice _ _ _, .int .i64 _, .int .i64 _]) rfl ⟨rfl, rfl, rfl, trivial⟩ I.ext_of (by rw [hrep]; exact ⟨f, rfl, rfl, hf⟩)
set_option maxHeartbeats 8000000 in
theorem ReplayOf_ok (B : Base) (hB : B.ok) (p : Prg) (hp : p.In B.h) (hnm : p.Nm) (l : Sl Stp) (hl0 : Stps l B.h) : Fn Tryz.prog 27 [p.val, l.val] B (RepP (replayOf p l.xs)) := by
  have hls := hl0.small
  have hsr := hp.rules.is.small
  refine Fn.of Tryz.func27 rfl Tryz.ntmps27 (by kernel_rfl) (by simp) ?_
  intro e
  have I := Inv.start hB
  refine WP.seq ?_
  refine WP.region ?_
  refine Ops.go (O.box (v := .agg #[_, _]) I rfl rfl ?_)
  intro b2 w I
  refine Ops.y (v := .slice _ _ _) (Y.assign rfl) ?_
  refine Ops.y (v := .int .i64 _) (Y.assign rfl) ?_
  refine Ops.y (v := .int .i64 _) (Y.assign rfl) ?_
  refine Ops.nil ?_
  refine WP.seq ?_
  refine WP.seq ?_
  refine WP.region ?_
  refine Ops.y (v := .agg #[_, _]) (Y.loadv ty_25 rfl (I.rdbox 0 rfl 0 2) rfl rfl) ?_
  refine Ops.go (O.callv I Tryz.call18 (CheckProg_ok _ I.base_ok p hp hnm) rfl ?_)
  intro w I
  refine Ops.y (v := .int .i64 _) (Y.assign rfl) ?_
  refine Ops.nil ?_
  refine WP.seq ?_
  refine WP.region ?_
  refine Ops.y (v := .int .i64 _) (Y.move rfl) ?_
  refine Ops.y (v := .bool (decide _)) (Y.nei rfl rfl) ?_
  refine Ops.nil ?_
  refine WP.cond_dec rfl (fun h2 => ?_) (fun h2 => ?_)
  · refine WP.seq ?_
    refine WP.region ?_
    refine Ops.y (v := .int .i64 _) (Y.move rfl) ?_
    refine Ops.y (v := .slice _ _ _) (Y.assign rfl) ?_
    refine Ops.y (v := .int .i64 _) (Y.assign rfl) ?_
    refine Ops.y (v := .int .i64 _) (Y.assign rfl) ?_
    refine Ops.nil ?_
    refine WP.ret ?_
    repeat (first | refine thenE_ret ?_ | refine blockE_ret ?_)
    exact retQ.mk (vs := [.slice _ _ _, .int .i64 _, .int .i64 _]) rfl ⟨rfl, rfl, rfl, trivial⟩ I.ext_of (by unfold replayOf; rw [if_pos h2]; exact ⟨⟨none, 0, []⟩, rfl, rfl, fnil⟩)
  have hpr := Decidable.not_not.1 h2
  have rk := chk_rok hpr
  have ok0 := chk_nil hpr
  refine WP.skip ?_
  refine WP.seq ?_
  refine WP.seq ?_
  refine WP.region ?_
  refine Ops.y (v := .slice _ _ _) (Y.move rfl) ?_
  refine Ops.y (v := .int .i64 _) (Y.lens Tryz.underlying36 rfl) ?_
  refine Ops.y (v := .bool (decide _)) (Y.gti rfl rfl) ?_
  refine Ops.nil ?_
  refine WP.cond_dec rfl (fun h4 => ?_) (fun h4 => ?_)
  · refine WP.seq ?_
    refine WP.region ?_
    refine Ops.y (v := .slice _ _ _) (Y.assign rfl) ?_
    refine Ops.y (v := .int .i64 _) (Y.assign rfl) ?_
    refine Ops.y (v := .int .i64 _) (Y.assign rfl) ?_
    refine Ops.nil ?_
    refine WP.ret ?_
    repeat (first | refine thenE_ret ?_ | refine blockE_ret ?_)
    exact retQ.mk (vs := [.slice _ _ _, .int .i64 _, .int .i64 _]) rfl ⟨rfl, rfl, rfl, trivial⟩ I.ext_of (by unfold replayOf; rw [if_neg h2, if_pos (by omega)]; exact ⟨⟨none, 0, []⟩, rfl, rfl, fnil⟩)
  have hR : replayOf p l.xs = repL p l.xs 0 [] := by unfold replayOf; rw [if_neg h2, if_neg (by omega)]
  rw [hR]
  refine WP.skip ?_
  refine WP.seq ?_
  refine WP.region ?_
  refine Ops.y (v := .slice _ _ _) (Y.assign rfl) ?_
  refine Ops.nil ?_
  refine WP.seq ?_
  refine WP.seq ?_
  refine WP.region ?_
  refine Ops.y (v := .int .i64 _) (Y.assign rfl) ?_
  refine Ops.nil ?_
  refine WP.block ?_
  refine WP.loopE (σ := Nat × Sl Fct × Heap) (fun s => [(1, l.val), (2, .pointer (some ⟨b2, 0, none⟩)), (8, s.2.1.val), (9, .int .i64 s.1)])
    (fun s w => Inv B s.2.2 [box b2 p.enc 25] w ∧ s.1 ≤ l.xs.length ∧ B.h.le s.2.2 ∧ FOk p.preds.xs s.2.1.xs ∧ Fcts s.2.1 s.2.2 ∧ repL p l.xs 0 [] = repL p (l.xs.drop s.1) s.1 s.2.1.xs) (fun s => l.xs.length - s.1)
    ⟨(0, ⟨none, 0, []⟩, B.h), ⟨rfl, rfl, rfl, rfl, trivial⟩, I, Nat.zero_le _, Heap.le.refl _, ok0, fnil, rfl⟩ ?_
  rintro ⟨k, f, hh⟩ e w ⟨I, hk, gl, okf, hf, hrep⟩
  dsimp only at I hk gl okf hf hrep ⊢
  have hp := hp.le gl
  refine WP.seq ?_
  refine WP.seq ?_
  refine WP.region ?_
  refine Ops.y (v := .int .i64 _) (Y.move rfl) ?_
  refine Ops.y (v := .slice _ _ _) (Y.move rfl) ?_
  refine Ops.y (v := .int .i64 _) (Y.lens Tryz.underlying36 rfl) ?_
  refine Ops.y (v := .bool (decide _)) (Y.lti rfl rfl) ?_
  refine Ops.nil ?_
  refine WP.cond_dec rfl (fun h8 => ?_) (fun h8 => ?_)
  · have hk' : k < l.xs.length := by omega
    have E := (hl0.le gl).at hk'
    obtain ⟨x, hx⟩ : ∃ x, l.xs[k] = x := ⟨_, rfl⟩
    rw [hx] at E
    rw [repL_at hk', hx] at hrep
    refine WP.skip ?_
    refine WP.seq ?_
    refine WP.block ?_
    refine WP.seq ?_
    refine WP.seq ?_
    refine WP.regionQ mixed I (by kernel_rfl) ?_
    refine OpsQ.y (v := .slice _ _ _) (fun w I => Y.move rfl) ?_
    refine OpsQ.y (v := .int .i64 _) (fun w I => Y.move rfl) ?_
    refine OpsQ.y (v := .pointer (some ⟨_, _, none⟩)) (fun w I => Y.idxEl E Tryz.underlying36 Tryz.sizeOf82 rfl rfl (Int.natCast_nonneg _) rfl) ?_
    refine OpsQ.y (v := .pointer (some ⟨_, _, none⟩)) (fun w I => Y.fa0 fa_82_0 rfl) ?_
    refine OpsQ.y (v := .int .i64 _) (fun w I => Y.loadv ty_3 rfl (I.rd (E.rd.part 0 1)) rfl rfl) ?_
    refine OpsQ.y (v := .pointer (some ⟨_, _, none⟩)) (fun w I => Y.fa fa_25_1 rfl) ?_
    refine OpsQ.y (v := .slice _ _ _) (fun w I => Y.loadv ty_23 rfl (I.rdbox 0 rfl 1 1) rfl rfl) ?_
    refine OpsQ.y (v := .int .i64 _) (fun w I => Y.lens Tryz.underlying23 rfl) ?_
    refine OpsQ.y (v := .int .i64 _) (fun w I => Y.subi rfl rfl ⟨by omega, by omega⟩) ?_
    refine OpsQ.c (fun w I => QC.callv I Tryz.call72 (within_ok _ I.base_ok x.rule 0 (p.rules.xs.length - 1)) rfl) ?_
    refine OpsQ.y (v := .bool _) (fun w I => Y.not rfl) ?_
    refine OpsQ.nil ?_
    intro w I
    refine WP.cond rfl (fun h10 => ?_) (fun h10 => ?_)
    · have h10 : ¬ within x.rule 0 ((p.rules.xs.length : Int) - 1) := by simpa using h10
      rw [within_sub] at h10
      refine WP.seq ?_
      refine WP.region ?_
      refine Ops.y (v := .int .i64 _) (Y.move rfl) ?_
      refine Ops.y (v := .slice _ _ _) (Y.assign rfl) ?_
      refine Ops.y (v := .int .i64 _) (Y.assign rfl) ?_
      refine Ops.y (v := .int .i64 _) (Y.assign rfl) ?_
      refine Ops.nil ?_
      refine WP.ret ?_
      repeat (first | refine thenE_ret ?_ | refine blockE_ret ?_)
      exact retQ.mk (vs := [.slice _ _ _, .int .i64 _, .int .i64 _]) rfl ⟨rfl, rfl, rfl, trivial⟩ I.ext_of (by rw [hrep, repL, if_neg h10]; exact ⟨⟨none, 0, []⟩, rfl, rfl, fnil⟩)
    have h10 : within x.rule 0 ((p.rules.xs.length : Int) - 1) := by simpa using h10
    have hin : 0 ≤ x.rule ∧ x.rule < p.rules.xs.length := within_sub.1 h10
    rw [repL, if_pos hin] at hrep
    refine WP.skip ?_
    refine WP.seq ?_
    refine WP.seq ?_
    refine WP.region ?_
    refine Ops.y (v := .slice _ _ _) (Y.move rfl) ?_
    refine Ops.y (v := .int .i64 _) (Y.move rfl) ?_
    refine Ops.y (v := .pointer (some ⟨_, _, none⟩)) (Y.idxEl E Tryz.underlying36 Tryz.sizeOf82 rfl rfl (Int.natCast_nonneg _) rfl) ?_
    refine Ops.y (v := .pointer (some ⟨_, _, none⟩)) (Y.fa fa_82_1 rfl) ?_
    refine Ops.y (v := .agg #[_, _, _]) (Y.loadv ty_80 rfl (I.rd (E.rd.part 1 3)) rfl rfl) ?_
    refine Ops.go (O.callv I Tryz.call85 (rconstants_ok _ I.base_ok x.vars) rfl ?_)
    intro w I
    refine Ops.y (v := .bool _) (Y.not rfl) ?_
    refine Ops.nil ?_
    refine WP.cond rfl (fun h12 => ?_) (fun h12 => ?_)
    · have h12 : vsB x.vars = false := by simpa using h12
      refine WP.seq ?_
      refine WP.region ?_
      refine Ops.y (v := .int .i64 _) (Y.move rfl) ?_
      refine Ops.y (v := .slice _ _ _) (Y.assign rfl) ?_
      refine Ops.y (v := .int .i64 _) (Y.assign rfl) ?_
      refine Ops.y (v := .int .i64 _) (Y.assign rfl) ?_
      refine Ops.nil ?_
      refine WP.ret ?_
      repeat (first | refine thenE_ret ?_ | refine blockE_ret ?_)
      exact retQ.mk (vs := [.slice _ _ _, .int .i64 _, .int .i64 _]) rfl ⟨rfl, rfl, rfl, trivial⟩ I.ext_of (by rw [hrep, if_neg (by rw [h12]; decide)]; exact ⟨⟨none, 0, []⟩, rfl, rfl, fnil⟩)
    have h12 : vsB x.vars = true := by simpa using h12
    rw [if_pos h12] at hrep
    have hlt : x.rule.toNat < p.rules.xs.length := by omega
    have hr : p.rules.xs[x.rule.toNat]? = some p.rules.xs[x.rule.toNat] := List.getElem?_eq_getElem hlt
    have hgd : p.rules.xs.getD x.rule.toNat default = p.rules.xs[x.rule.toNat] := by rw [List.getD_eq_getElem?_getD, hr]; rfl
    have ok := rk _ (List.getElem_mem hlt)
    have hvs := vsB_iff.1 h12
    rw [hgd] at hrep
    obtain ⟨y, hy⟩ : ∃ y, holdsF p.preds.xs f.xs p.rules.xs[x.rule.toNat] x.vars = y := ⟨_, rfl⟩
    rw [hy] at hrep
    refine WP.skip ?_
    refine WP.seq ?_
    refine WP.regionG mixed RBx.pre ⟨hh, none, none⟩ (J := JBx B [box b2 p.enc 25] 52 [.int .i64 0, .int .i64 0, .int .i64 0, .int .i64 0] y.2.enc 16 99 18) ⟨rfl, rfl, fun h => (by cases h), I.drew⟩ 19 (by kernel_rfl) ?_
    refine OpsG.y_ (v := .agg #[_, _]) (fun _ => runsG_none _) RBx.pre (JBx.set (by decide)) (fun _ s w us hl hj => have I := hj.base; have hl := hl.h; Y.loadv ty_25 rfl (I.rdbox 0 rfl 0 2) rfl rfl) ?_
    refine OpsG.y_ (v := .slice _ _ _) (fun _ => runsG_none _) RBx.pre (JBx.set (by decide)) (fun _ s w us hl hj => have I := hj.base; have hl := hl.h; Y.move rfl) ?_
    refine OpsG.y_ (v := .slice _ _ _) (fun _ => runsG_none _) RBx.pre (JBx.set (by decide)) (fun _ s w us hl hj => have I := hj.base; have hl := hl.h; Y.move rfl) ?_
    refine OpsG.y_ (v := .int .i64 _) (fun _ => runsG_none _) RBx.pre (JBx.set (by decide)) (fun _ s w us hl hj => have I := hj.base; have hl := hl.h; Y.move rfl) ?_
    refine OpsG.y_ (v := .pointer (some ⟨_, _, none⟩)) (fun _ => runsG_none _) RBx.pre (JBx.set (by decide)) (fun _ s w us hl hj => have I := hj.base; have hl := hl.h; Y.idxEl E Tryz.underlying36 Tryz.sizeOf82 rfl rfl (Int.natCast_nonneg _) rfl) ?_
    refine OpsG.y_ (v := .pointer (some ⟨_, _, none⟩)) (fun _ => runsG_none _) RBx.pre (JBx.set (by decide)) (fun _ s w us hl hj => have I := hj.base; have hl := hl.h; Y.fa0 fa_82_0 rfl) ?_
    refine OpsG.y_ (v := .int .i64 _) (fun _ => runsG_none _) RBx.pre (JBx.set (by decide)) (fun _ s w us hl hj => have I := hj.base; have hl := hl.h; Y.loadv ty_3 rfl (I.rd ((E.rd.part 0 1).le hl)) rfl rfl) ?_
    refine OpsG.y_ (v := .slice _ _ _) (fun _ => runsG_none _) RBx.pre (JBx.set (by decide)) (fun _ s w us hl hj => have I := hj.base; have hl := hl.h; Y.move rfl) ?_
    refine OpsG.y_ (v := .int .i64 _) (fun _ => runsG_none _) RBx.pre (JBx.set (by decide)) (fun _ s w us hl hj => have I := hj.base; have hl := hl.h; Y.move rfl) ?_
    refine OpsG.y_ (v := .pointer (some ⟨_, _, none⟩)) (fun _ => runsG_none _) RBx.pre (JBx.set (by decide)) (fun _ s w us hl hj => have I := hj.base; have hl := hl.h; Y.idxEl E Tryz.underlying36 Tryz.sizeOf82 rfl rfl (Int.natCast_nonneg _) rfl) ?_
    refine OpsG.y_ (v := .pointer (some ⟨_, _, none⟩)) (fun _ => runsG_none _) RBx.pre (JBx.set (by decide)) (fun _ s w us hl hj => have I := hj.base; have hl := hl.h; Y.fa fa_82_1 rfl) ?_
    refine OpsG.y_ (v := .agg #[_, _, _]) (fun _ => runsG_none _) RBx.pre (JBx.set (by decide)) (fun _ s w us hl hj => have I := hj.base; have hl := hl.h; Y.loadv ty_80 rfl (I.rd ((E.rd.part 1 3).le hl)) rfl rfl) ?_
    refine OpsG.c_ (by decide) (fun _ s w us hl hj => have I := hj.inv; have hl := hl.h; O.callv I Tryz.call78 (hy ▸ rholds_ok _ I.base_ok p (hp.le hl) f (hf.le hl) x.rule _ hin.1 hr ok okf x.vars hvs) rfl (fun w' I' => ⟨rfl, ⟨hj.h7, hj.h8, hj.ord, I'⟩⟩)) ?_
    refine OpsG.y_ (v := .tuple #[_, _]) (fun _ => runsG_none _) RBx.pre (JBx.set (by decide)) (fun _ s w us hl hj => have I := hj.base; have hl := hl.h; Y.move rfl) ?_
    refine OpsG.y_ (v := .bool _) (fun _ => runsG_none _) RBx.pre (JBx.set (by decide)) (fun _ s w us hl hj => have I := hj.base; have hl := hl.h; Y.extract rfl rfl) ?_
    refine OpsG.y_ (v := .agg #[_, _, _, _]) (fun _ => runsG_none _) RBx.pre (JBx.set (by decide)) (fun _ s w us hl hj => have I := hj.base; have hl := hl.h; Y.extract rfl rfl) ?_
    refine OpsG.make7 Tryz.zeroValue52 rfl (by decide) (by decide) ?_
    refine OpsG.y_ (v := .bool _) (fun _ => runsG_none _) RBx.pre (JBx.set (by decide)) (fun _ s w us hl hj => have I := hj.base; have hl := hl.h; Y.assign rfl) ?_
    refine OpsG.store7 ty_52 rfl rfl (fun s => by intro u11 q11; exact ⟨q11 rfl, rfl⟩) rfl rfl (by decide) (by decide) ?_
    refine OpsG.nil ?_
    intro D s' w hD hl hj' u11 q11
    refine Ops.nil ?_
    obtain ⟨b11, rfl, h11⟩ := q11 rfl
    have I := hj'.inv
    rw [h11, hD 18 (by omega)] at I
    have hl := hl.h
    generalize s'.o8 = o8 at I
    generalize s'.h = h12' at I hl
    have I : Inv B h12' [box b11 y.2.enc 52, box b2 p.enc 25] w := by
      cases o8 with
      | none => exact I
      | some b8 => exact I.weak (List.Sublist.cons_cons _ (List.sublist_cons_self _ _))
    have hp := hp.le hl
    have hf := hf.le hl
    refine WP.seq ?_
    refine WP.seq ?_
    refine WP.region ?_
    refine Ops.y (v := .bool _) (Y.move rfl) ?_
    refine Ops.y (v := .bool _) (Y.not rfl) ?_
    refine Ops.nil ?_
    refine WP.cond rfl (fun hy1 => ?_) (fun hy1 => ?_)
    · have hy1 : y.1 = false := by simpa using hy1
      refine WP.seq ?_
      refine WP.region ?_
      refine Ops.y (v := .int .i64 _) (Y.move rfl) ?_
      refine Ops.y (v := .slice _ _ _) (Y.assign rfl) ?_
      refine Ops.y (v := .int .i64 _) (Y.assign rfl) ?_
      refine Ops.y (v := .int .i64 _) (Y.assign rfl) ?_
      refine Ops.nil ?_
      refine WP.ret ?_
      repeat (first | refine thenE_ret ?_ | refine blockE_ret ?_)
      exact retQ.mk (vs := [.slice _ _ _, .int .i64 _, .int .i64 _]) rfl ⟨rfl, rfl, rfl, trivial⟩ I.ext_of (by rw [hrep, if_neg (by rw [hy1]; decide)]; exact ⟨⟨none, 0, []⟩, rfl, rfl, fnil⟩)
    have hy1 : y.1 = true := by simpa using hy1
    rw [if_pos hy1] at hrep
    have hfine : factFine p.preds.xs y.2 = true := by
      have hb : holdsB f.xs p.rules.xs[x.rule.toNat] x.vars = true := by
        unfold holdsF at hy
        split at hy
        · assumption
        · rw [← hy] at hy1; cases hy1
      have := headF_fine ok okf hvs hb
      have e2 : headF p.preds.xs f.xs p.rules.xs[x.rule.toNat] x.vars = y.2 := by
        unfold holdsF at hy
        rw [if_pos hb] at hy
        rw [← hy]
      rwa [e2] at this
    refine WP.skip ?_
    refine WP.region ?_
    refine Ops.y (v := .pointer (some ⟨_, _, none⟩)) (Y.fa0 fa_25_0 rfl) ?_
    refine Ops.y (v := .slice _ _ _) (Y.loadv ty_22 rfl (I.rdbox 1 rfl 0 1) rfl rfl) ?_
    refine Ops.y (v := .slice _ _ _) (Y.move rfl) ?_
    refine Ops.y (v := .agg #[_, _, _, _]) (Y.loadv ty_52 rfl (I.rdbox 0 rfl 0 4) rfl rfl) ?_
    refine Ops.go (O.call I Tryz.call79 (radd_ok _ I.base_ok p.preds hp.preds f hf okf y.2 hfine) rfl ?_)
    rintro _ h6 w I le6 ⟨s6, rfl, e6, i6⟩
    refine Ops.y (v := .tuple #[_, _]) (Y.move rfl) ?_
    refine Ops.y (v := .slice _ _ _) (Y.extract rfl rfl) ?_
    refine Ops.y (v := .bool _) (Y.extract rfl rfl) ?_
    refine Ops.y (v := .slice _ _ _) (Y.assign rfl) ?_
    refine Ops.nil ?_
    refine WP.region ?_
    refine Ops.y (v := .int .i64 _) (Y.move rfl) ?_
    refine Ops.y (v := .int .i64 _) (Y.addi rfl rfl ⟨by omega, by omega⟩) ?_
    refine Ops.y (v := .int .i64 _) (Y.assign rfl) ?_
    refine Ops.nil ?_
    exact ⟨(k + 1, s6, h6), ⟨⟨rfl, rfl, rfl, rfl, trivial⟩, I.drop, by dsimp only; omega, (gl.trans hl).trans le6, by dsimp only; rw [e6]; exact addF_fok okf hfine, i6, by dsimp only; rw [hrep, e6]⟩, by dsimp only; omega⟩
  · obtain rfl : k = l.xs.length := by omega
    rw [List.drop_length, repL] at hrep
    refine WP.exit ?_
    refine WP.seq ?_
    refine WP.region ?_
    refine Ops.y (v := .slice _ _ _) (Y.move rfl) ?_
    refine Ops.y (v := .slice _ _ _) (Y.move rfl) ?_
    refine Ops.y (v := .int .i64 _) (Y.lens Tryz.underlying36 rfl) ?_
    refine Ops.y (v := .slice _ _ _) (Y.assign rfl) ?_
    refine Ops.y (v := .int .i64 _) (Y.assign rfl) ?_
    refine Ops.y (v := .int .i64 _) (Y.assign rfl) ?_
    refine Ops.nil ?_
    refine WP.ret ?_
    repeat (first | refine thenE_ret ?_ | refine blockE_ret ?_)
    exact retQ.mk (vs := [.slice _ _ _, .int .i64 _, .int .i64 _]) rfl ⟨rfl, rfl, rfl, trivial⟩ I.ext_of (by rw [hrep]; exact ⟨f, rfl, rfl, hf⟩)
end Go.TF
end
section
/- The document's trace. -/
namespace Go.TF
open Go Go.RowKit Go.Proofs
set_option maxRecDepth 20000

structure TrV where
  f : Sl Fct
  v : Value
  xs : List Stp
  h : Heap
structure TvJ (p : Prg) (s : TrV) (h0 : Heap) : Prop where
  le : h0.le s.h
  fok : FOk p.preds.xs s.f.xs
  fin : Fcts s.f s.h
  len : s.xs.length ≤ potF p.preds.xs s.f.xs
@[reducible] def tvM (p : Prg) (b1 : Nat) (s : TrV) : List SA := [ownSl 82 4 s.v s.xs.length (s.xs.flatMap Stp.enc), box b1 p.enc 25]
def TofP (p : Prg) (v : Value) (h : Heap) : Prop := ∃ (s : Sl Stp) (f : List Fct), v = s.val ∧ Stps s h ∧ TraK p (strataM p) (numS (strataM p)) (f, s.xs)
set_option maxHeartbeats 8000000 in
theorem TraceOf_ok (B : Base) (hB : B.ok) (p : Prg) (hp : p.In B.h) (hpr : checkProg p = 0) : Fn Tryz.prog 23 [p.val] B (TofP p) := by
  obtain ⟨k1, k2, k3, _, _⟩ := checkProg_ok hpr
  have rk := chk_rok hpr
  have ok0 := chk_nil hpr
  have hin := heads_in k3
  have hsr := hp.rules.is.small
  refine Fn.of Tryz.func23 rfl Tryz.ntmps23 (by kernel_rfl) (by simp) ?_
  intro e
  have I := Inv.start hB
  refine WP.seq ?_
  refine WP.region ?_
  refine Ops.go (O.box (v := .agg #[_, _]) I rfl rfl ?_)
  intro b1 w I
  refine Ops.y (v := .slice _ _ _) (Y.assign rfl) ?_
  refine Ops.nil ?_
  refine WP.seq ?_
  refine WP.region ?_
  refine Ops.y (v := .agg #[_, _]) (Y.loadv ty_25 rfl (I.rdbox 0 rfl 0 2) rfl rfl) ?_
  refine Ops.go (O.call I Tryz.call75 (StrataOf_ok _ I.base_ok p hp hpr) rfl ?_)
  rintro _ h1 w I le1 ⟨s, hS, hI, rfl⟩
  refine Ops.y (v := .slice _ _ _) (Y.assign rfl) ?_
  refine Ops.nil ?_
  have eM := strataM_eq hS
  have hsl : s.xs.length = p.preds.xs.length := hS.sol.len
  have hb5 := least_small hpr hS
  have hN5 := mostL_small hb5
  have hNe := numS_eq s.xs
  obtain ⟨N, hN⟩ : ∃ N, numS s.xs = N := ⟨_, rfl⟩
  refine WP.seq ?_
  refine WP.region ?_
  refine Ops.y (v := .slice _ _ _) (Y.assign rfl) ?_
  refine Ops.nil ?_
  refine WP.seq ?_
  refine WP.region ?_
  refine Ops.y (v := .slice _ _ _) (Y.assign rfl) ?_
  refine Ops.nil ?_
  refine WP.seq ?_
  refine WP.seq ?_
  refine WP.region ?_
  refine Ops.y (v := .int .i64 _) (Y.assign rfl) ?_
  refine Ops.nil ?_
  have I := I.nilSl 82 4
  refine WP.block ?_
  refine WP.loopE (σ := Nat × TrV) (fun s' => [(1, .pointer (some ⟨b1, 0, none⟩)), (3, s.val), (4, s'.2.f.val), (5, s'.2.v), (6, .int .i64 s'.1)])
    (fun s' w => Inv B s'.2.h (tvM p b1 s'.2) w ∧ s'.1 ≤ N ∧ TvJ p s'.2 h1 ∧ TraK p s.xs s'.1 (s'.2.f.xs, s'.2.xs)) (fun s' => N - s'.1)
    ⟨(0, ⟨⟨none, 0, []⟩, .slice none 0 0, [], h1⟩), ⟨rfl, rfl, rfl, rfl, rfl, trivial⟩, I, Nat.zero_le _, ⟨Heap.le.refl _, ok0, fnil, Nat.zero_le _⟩, rfl⟩ ?_
  rintro ⟨k, f0, v0, xs0, g0⟩ e w ⟨I, hk, j0, hm⟩
  dsimp only at I hk j0 hm ⊢
  have hp0 := hp.le (le1.trans j0.le)
  have hI0 := hI.le j0.le
  refine WP.seq ?_
  refine WP.seq ?_
  refine WP.region ?_
  refine Ops.y (v := .int .i64 _) (Y.move rfl) ?_
  refine Ops.y (v := .slice _ _ _) (Y.move rfl) ?_
  refine Ops.go (O.callv I Tryz.call76 (most_ok _ I.base_ok s hI0) rfl ?_)
  intro w I
  refine Ops.y (v := .bool (decide _)) (Y.lei rfl rfl) ?_
  refine Ops.nil ?_
  refine WP.cond_dec rfl (fun h5 => ?_) (fun h5 => ?_)
  · have h5 : (k : Int) ≤ mostL s.xs := h5
    have hk' : k < N := by omega
    refine WP.skip ?_
    refine WP.seq ?_
    refine WP.block ?_
    refine WP.seq ?_
    refine WP.region ?_
    refine Ops.y (v := .bool _) (Y.assign rfl) ?_
    refine Ops.nil ?_
    refine WP.block ?_
    refine WP.loopE (σ := Bool × TrV) (fun s' => [(1, .pointer (some ⟨b1, 0, none⟩)), (3, s.val), (4, s'.2.f.val), (5, s'.2.v), (6, .int .i64 k), (7, .bool s'.1)])
      (fun s' w => Inv B s'.2.h (tvM p b1 s'.2) w ∧ TvJ p s'.2 g0 ∧ TJ (trPass p (ofQ p s.xs k)) (f0.xs, xs0) s'.1 (s'.2.f.xs, s'.2.xs)) (fun s' => 2 * (2001 - potF p.preds.xs s'.2.f.xs) + if s'.1 = true then 1 else 0)
      ⟨(true, ⟨f0, v0, xs0, g0⟩), ⟨rfl, rfl, rfl, rfl, rfl, rfl, trivial⟩, I, ⟨Heap.le.refl _, j0.fok, j0.fin, j0.len⟩, TJ.zero⟩ ?_
    rintro ⟨ag, f1, v1, xs1, g1⟩ e w ⟨I, j1, tj⟩
    dsimp only at I j1 tj ⊢
    have hpl1 := potF_le p.preds.xs f1.xs
    refine WP.seq ?_
    refine WP.seq ?_
    refine WP.region ?_
    refine Ops.y (v := .bool _) (Y.move rfl) ?_
    refine Ops.nil ?_
    refine WP.cond rfl (fun h8 => ?_) (fun h8 => ?_)
    · obtain rfl : ag = true := h8
      refine WP.skip ?_
      refine WP.block ?_
      refine WP.seq ?_
      refine WP.region ?_
      refine Ops.y (v := .bool _) (Y.assign rfl) ?_
      refine Ops.nil ?_
      refine WP.seq ?_
      refine WP.region ?_
      refine Ops.y (v := .int .i64 _) (Y.assign rfl) ?_
      refine Ops.nil ?_
      refine WP.block ?_
      obtain ⟨q, hq⟩ : ∃ q, ofQ p s.xs k = q := ⟨_, rfl⟩
      have hsteps : ∀ n, n ≤ p.rules.xs.length → TSteps p s.xs k (f1.xs, xs1) (trK p q (f1.xs, xs1) n) := fun n hn => by rw [← hq]; exact trK_steps rk hS.sol (s0 := (f1.xs, xs1)) j1.fok n hn
      refine WP.loopE (σ := Nat × TrV) (fun s' => [(1, .pointer (some ⟨b1, 0, none⟩)), (3, s.val), (4, s'.2.f.val), (5, s'.2.v), (6, .int .i64 k), (7, .bool (decide (s'.2.xs.length ≠ xs1.length))), (8, .int .i64 s'.1)])
        (fun s' w => Inv B s'.2.h (tvM p b1 s'.2) w ∧ s'.1 ≤ p.rules.xs.length ∧ g1.le s'.2.h ∧ Fcts s'.2.f s'.2.h ∧ (s'.2.f.xs, s'.2.xs) = trK p q (f1.xs, xs1) s'.1) (fun s' => p.rules.xs.length - s'.1)
        ⟨(0, ⟨f1, v1, xs1, g1⟩), ⟨rfl, rfl, rfl, rfl, rfl, congrArg Value.bool (by simp), rfl, trivial⟩, I, Nat.zero_le _, Heap.le.refl _, j1.fin, rfl⟩ ?_
      rintro ⟨n, f2, v2, xs2, g2⟩ e w ⟨I, hn, gl2, hf2, hs2⟩
      dsimp only at I hn gl2 hf2 hs2 ⊢
      have hts := hsteps n hn
      rw [← hs2] at hts
      have okf2 : FOk p.preds.xs f2.xs := (tsteps_tg rk (s0 := (f1.xs, xs1)) j1.fok hts).fok
      have hl1 := j1.len
      dsimp only at hl1
      have hl2 : xs2.length ≤ potF p.preds.xs f2.xs := tsteps_len rk (s0 := (f1.xs, xs1)) j1.fok hts hl1
      have hmono : xs1.length ≤ xs2.length := by have := trK_mono (p := p) (q := q) (s := (f1.xs, xs1)) n; rw [← hs2] at this; exact this
      have hpl2 := potF_le p.preds.xs f2.xs
      have hp2 := hp0.le (j1.le.trans gl2)
      have hI2 := hI0.le (j1.le.trans gl2)
      refine WP.seq ?_
      refine WP.seq ?_
      refine WP.region ?_
      refine Ops.y (v := .int .i64 _) (Y.move rfl) ?_
      refine Ops.y (v := .pointer (some ⟨_, _, none⟩)) (Y.fa fa_25_1 rfl) ?_
      refine Ops.y (v := .slice _ _ _) (Y.loadv ty_23 rfl (I.rdbox 1 rfl 1 1) rfl rfl) ?_
      refine Ops.y (v := .int .i64 _) (Y.lens Tryz.underlying23 rfl) ?_
      refine Ops.y (v := .bool (decide _)) (Y.lti rfl rfl) ?_
      refine Ops.nil ?_
      refine WP.cond_dec rfl (fun h11 => ?_) (fun h11 => ?_)
      · have hn' : n < p.rules.xs.length := by omega
        have hr : p.rules.xs[n]? = some p.rules.xs[n] := List.getElem?_eq_getElem hn'
        have hr' : p.rules.xs[(n : Int).toNat]? = some p.rules.xs[n] := by rw [Int.toNat_natCast]; exact hr
        have okr := rk _ (List.getElem_mem hn')
        have hgd : p.rules.xs.getD n default = p.rules.xs[n] := by rw [List.getD_eq_getElem?_getD, hr]; rfl
        have Er := hp2.rules.is.at hn'
        obtain ⟨i0, i1⟩ := hin _ (List.getElem_mem hn')
        have El1 := hI2.el.el (lv_some hsl i0 i1)
        have hqn : q n = decide (lv s.xs p.rules.xs[n].head.pred = k) := by rw [← hq]; unfold ofQ; rw [hgd]
        refine WP.skip ?_
        refine WP.seq ?_
        refine WP.block ?_
        refine WP.seq ?_
        refine WP.seq ?_
        refine WP.region ?_
        refine Ops.y (v := .slice _ _ _) (Y.move rfl) ?_
        refine Ops.y (v := .pointer (some ⟨_, _, none⟩)) (Y.fa fa_25_1 rfl) ?_
        refine Ops.y (v := .slice _ _ _) (Y.loadv ty_23 rfl (I.rdbox 1 rfl 1 1) rfl rfl) ?_
        refine Ops.y (v := .int .i64 _) (Y.move rfl) ?_
        refine Ops.y (v := .pointer (some ⟨_, _, none⟩)) (Y.idxEl Er Tryz.underlying23 Tryz.sizeOf68 rfl rfl (Int.natCast_nonneg _) rfl) ?_
        refine Ops.y (v := .pointer (some ⟨_, _, none⟩)) (Y.fa0 fa_68_0 rfl) ?_
        refine Ops.y (v := .pointer (some ⟨_, _, none⟩)) (Y.fa0 fa_65_0 rfl) ?_
        refine Ops.y (v := .int .i64 _) (Y.loadv ty_3 rfl (I.rd (Er.rd.part 0 1)) rfl rfl) ?_
        refine Ops.y (v := .pointer (some ⟨_, _, none⟩)) (Y.idxEl El1 Tryz.underlying45 Tryz.sizeOf3 rfl rfl i0 rfl) ?_
        refine Ops.y (v := .int .i64 _) (Y.loadv ty_3 rfl (I.rd (El1.rd.part 0 1)) rfl rfl) ?_
        refine Ops.y (v := .int .i64 _) (Y.move rfl) ?_
        refine Ops.y (v := .bool (decide _)) (Y.nei rfl rfl) ?_
        refine Ops.nil ?_
        refine WP.cond_dec rfl (fun h13 => ?_) (fun h13 => ?_)
        · have hk2 : trK p q (f1.xs, xs1) (n + 1) = (f2.xs, xs2) := by rw [trK, hqn, decide_eq_false h13, if_neg (by decide), ← hs2]
          refine WP.exit ?_
          refine WP.region ?_
          refine Ops.y (v := .int .i64 _) (Y.move rfl) ?_
          refine Ops.y (v := .int .i64 _) (Y.addi rfl rfl ⟨by omega, by omega⟩) ?_
          refine Ops.y (v := .int .i64 _) (Y.assign rfl) ?_
          refine Ops.nil ?_
          exact ⟨(n + 1, ⟨f2, v2, xs2, g2⟩), ⟨⟨rfl, rfl, rfl, rfl, rfl, rfl, rfl, trivial⟩, I, by dsimp only; omega, gl2, hf2, hk2.symm⟩, by dsimp only; omega⟩
        have hlv : lv s.xs p.rules.xs[n].head.pred = k := Decidable.not_not.1 h13
        have hk2 : trK p q (f1.xs, xs1) (n + 1) = trL p.preds.xs p.rules.xs[n] (stepsF f2.xs n p.rules.xs[n]) (f2.xs, xs2) := by rw [trK, hqn, decide_eq_true hlv, if_pos rfl, ← hs2]; unfold trRule; rw [hgd]
        refine WP.skip ?_
        refine WP.seq ?_
        refine WP.region ?_
        refine Ops.y (v := .agg #[_, _]) (Y.loadv ty_25 rfl (I.rdbox 1 rfl 0 2) rfl rfl) ?_
        refine Ops.y (v := .slice _ _ _) (Y.move rfl) ?_
        refine Ops.y (v := .int .i64 _) (Y.move rfl) ?_
        refine Ops.go (O.call I Tryz.call47 (AllOf_ok _ I.base_ok p hp2 f2 hf2 n p.rules.xs[n] (by omega) hr' okr okf2) rfl ?_)
        rintro _ h8 w I le8 ⟨sl, rfl, hss, isl⟩
        refine Ops.y (v := .slice _ _ _) (Y.assign rfl) ?_
        refine Ops.nil ?_
        rw [← hss] at hk2
        have hsm := isl.small
        refine WP.seq ?_
        refine WP.region ?_
        refine Ops.y (v := .int .i64 _) (Y.assign rfl) ?_
        refine Ops.nil ?_
        refine WP.block ?_
        refine WP.loopE (σ := Nat × TrV) (fun s' => [(1, .pointer (some ⟨b1, 0, none⟩)), (3, s.val), (4, s'.2.f.val), (5, s'.2.v), (6, .int .i64 k), (7, .bool (decide (s'.2.xs.length ≠ xs1.length))), (8, .int .i64 n), (9, sl.val), (10, .int .i64 s'.1)])
          (fun s' w => Inv B s'.2.h (tvM p b1 s'.2) w ∧ s'.1 ≤ sl.xs.length ∧ h8.le s'.2.h ∧ Fcts s'.2.f s'.2.h ∧ (s'.2.f.xs, s'.2.xs) = trL p.preds.xs p.rules.xs[n] (sl.xs.take s'.1) (f2.xs, xs2)) (fun s' => sl.xs.length - s'.1)
          ⟨(0, ⟨f2, v2, xs2, h8⟩), ⟨rfl, rfl, rfl, rfl, rfl, rfl, rfl, rfl, rfl, trivial⟩, I, Nat.zero_le _, Heap.le.refl _, hf2.le le8, rfl⟩ ?_
        rintro ⟨j, f3, v3, xs3, g3⟩ e w ⟨I, hj, gl3, hf3, hs3⟩
        dsimp only at I hj gl3 hf3 hs3 ⊢
        have hst : ∀ x ∈ sl.xs, x ∈ stepsF f2.xs n p.rules.xs[n] := fun x hx => hss ▸ hx
        have ht3 : TSteps p s.xs k (f2.xs, xs2) (f3.xs, xs3) := by rw [hs3]; exact trL_steps rk hS.sol (s0 := (f2.xs, xs2)) hr hlv okf2 _ _ (fun x hx => hst x (List.mem_of_mem_take hx)) .refl
        have okf3 : FOk p.preds.xs f3.xs := (tsteps_tg rk (s0 := (f2.xs, xs2)) okf2 ht3).fok
        have hpl3 := potF_le p.preds.xs f3.xs
        have hl3 : xs3.length ≤ potF p.preds.xs f3.xs := tsteps_len rk (s0 := (f2.xs, xs2)) okf2 ht3 hl2
        have hm3 : xs2.length ≤ xs3.length := by have := trL_mono (l := p.preds.xs) (r := p.rules.xs[n]) (sl.xs.take j) (f2.xs, xs2); rw [← hs3] at this; exact this
        have hp3 := hp2.le (le8.trans gl3)
        refine WP.seq ?_
        refine WP.seq ?_
        refine WP.region ?_
        refine Ops.y (v := .int .i64 _) (Y.move rfl) ?_
        refine Ops.y (v := .slice _ _ _) (Y.move rfl) ?_
        refine Ops.y (v := .int .i64 _) (Y.lens Tryz.underlying36 rfl) ?_
        refine Ops.y (v := .bool (decide _)) (Y.lti rfl rfl) ?_
        refine Ops.nil ?_
        refine WP.cond_dec rfl (fun h16 => ?_) (fun h16 => ?_)
        · have hjj : j < sl.xs.length := by omega
          have E := (isl.le gl3).at hjj
          have hfi : Fires p s.xs k f3.xs n p.rules.xs[n] sl.xs[j] := fires_up rk hS.sol (tsteps_tg rk (s0 := (f2.xs, xs2)) okf2 ht3) (fires_steps hr hlv (hst _ (List.getElem_mem hjj)))
          obtain ⟨y, hy⟩ : ∃ y, headF p.preds.xs f3.xs p.rules.xs[n] sl.xs[j].vars = y := ⟨_, rfl⟩
          have hyF : holdsF p.preds.xs f3.xs p.rules.xs[n] sl.xs[j].vars = (true, y) := by unfold holdsF; rw [if_pos hfi.holds, hy]
          have hfine : factFine p.preds.xs y = true := hy ▸ fires_fine rk okf3 hfi
          have hnx : trPut p.preds.xs (f3.xs, xs3) sl.xs[j] y = trL p.preds.xs p.rules.xs[n] (sl.xs.take (j + 1)) (f2.xs, xs2) := by
            rw [trL_take hjj, ← hs3, ← hy]; rfl
          refine WP.skip ?_
          refine WP.seq ?_
          refine WP.block ?_
          refine WP.seq ?_
          refine WP.regionG mixed RBx.pre ⟨g3, none, none⟩ (J := JBx B [ownSl 82 4 v3 xs3.length (xs3.flatMap Stp.enc), box b1 p.enc 25] 52 [.int .i64 0, .int .i64 0, .int .i64 0, .int .i64 0] y.enc 12 99 14) ⟨rfl, rfl, fun h => (by cases h), I.drew⟩ 15 (by kernel_rfl) ?_
          refine OpsG.y_ (v := .agg #[_, _]) (fun _ => runsG_none _) RBx.pre (JBx.set (by decide)) (fun _ s w us hl hj => have I := hj.base; have hl := hl.h; Y.loadv ty_25 rfl (I.rdbox 1 rfl 0 2) rfl rfl) ?_
          refine OpsG.y_ (v := .slice _ _ _) (fun _ => runsG_none _) RBx.pre (JBx.set (by decide)) (fun _ s w us hl hj => have I := hj.base; have hl := hl.h; Y.move rfl) ?_
          refine OpsG.y_ (v := .int .i64 _) (fun _ => runsG_none _) RBx.pre (JBx.set (by decide)) (fun _ s w us hl hj => have I := hj.base; have hl := hl.h; Y.move rfl) ?_
          refine OpsG.y_ (v := .slice _ _ _) (fun _ => runsG_none _) RBx.pre (JBx.set (by decide)) (fun _ s w us hl hj => have I := hj.base; have hl := hl.h; Y.move rfl) ?_
          refine OpsG.y_ (v := .int .i64 _) (fun _ => runsG_none _) RBx.pre (JBx.set (by decide)) (fun _ s w us hl hj => have I := hj.base; have hl := hl.h; Y.move rfl) ?_
          refine OpsG.y_ (v := .pointer (some ⟨_, _, none⟩)) (fun _ => runsG_none _) RBx.pre (JBx.set (by decide)) (fun _ s w us hl hj => have I := hj.base; have hl := hl.h; Y.idxEl E Tryz.underlying36 Tryz.sizeOf82 rfl rfl (Int.natCast_nonneg _) rfl) ?_
          refine OpsG.y_ (v := .pointer (some ⟨_, _, none⟩)) (fun _ => runsG_none _) RBx.pre (JBx.set (by decide)) (fun _ s w us hl hj => have I := hj.base; have hl := hl.h; Y.fa fa_82_1 rfl) ?_
          refine OpsG.y_ (v := .agg #[_, _, _]) (fun _ => runsG_none _) RBx.pre (JBx.set (by decide)) (fun _ s w us hl hj => have I := hj.base; have hl := hl.h; Y.loadv ty_80 rfl (I.rd ((E.rd.part 1 3).le hl)) rfl rfl) ?_
          refine OpsG.c_ (by decide) (fun _ s w us hl hj => have I := hj.inv; have hl := hl.h; O.callv I Tryz.call78 (hyF ▸ rholds_ok _ I.base_ok p (hp3.le hl) f3 (hf3.le hl) n p.rules.xs[n] (by omega) hr' okr okf3 sl.xs[j].vars hfi.vs) rfl (fun w' I' => ⟨rfl, ⟨hj.h7, hj.h8, hj.ord, I'⟩⟩)) ?_
          refine OpsG.y_ (v := .tuple #[_, _]) (fun _ => runsG_none _) RBx.pre (JBx.set (by decide)) (fun _ s w us hl hj => have I := hj.base; have hl := hl.h; Y.move rfl) ?_
          refine OpsG.y_ (v := .bool _) (fun _ => runsG_none _) RBx.pre (JBx.set (by decide)) (fun _ s w us hl hj => have I := hj.base; have hl := hl.h; Y.extract rfl rfl) ?_
          refine OpsG.y_ (v := .agg #[_, _, _, _]) (fun _ => runsG_none _) RBx.pre (JBx.set (by decide)) (fun _ s w us hl hj => have I := hj.base; have hl := hl.h; Y.extract rfl rfl) ?_
          refine OpsG.make7 Tryz.zeroValue52 rfl (by decide) (by decide) ?_
          refine OpsG.y_ (v := .bool _) (fun _ => runsG_none _) RBx.pre (JBx.set (by decide)) (fun _ s w us hl hj => have I := hj.base; have hl := hl.h; Y.assign rfl) ?_
          refine OpsG.store7 ty_52 rfl rfl (fun s => by intro u15 q15; exact ⟨q15 rfl, rfl⟩) rfl rfl (by decide) (by decide) ?_
          refine OpsG.nil ?_
          intro D s' w hD hl hj' u12 q12
          refine Ops.nil ?_
          obtain ⟨b12, rfl, h12⟩ := q12 rfl
          have I := hj'.inv
          rw [h12, hD 14 (by omega)] at I
          have hl := hl.h
          generalize s'.o8 = o8 at I
          generalize s'.h = h13 at I hl
          have I : Inv B h13 [box b12 y.enc 52, ownSl 82 4 v3 xs3.length (xs3.flatMap Stp.enc), box b1 p.enc 25] w := by
            cases o8 with
            | none => exact I
            | some b8 => exact I.weak (List.Sublist.cons_cons _ (List.sublist_cons_self _ _))
          have hp3 := hp3.le hl
          have hf3 := hf3.le hl
          have E := E.le hl
          obtain ⟨tr, htr⟩ : ∃ t, addF (predOf p.preds.xs y.pred).kind f3.xs y = t := ⟨_, rfl⟩
          have hput : trPut p.preds.xs (f3.xs, xs3) sl.xs[j] y = if tr.2 = true then (tr.1, xs3 ++ [sl.xs[j]]) else (f3.xs, xs3) := by unfold trPut; rw [htr]
          refine WP.seq ?_
          refine WP.region ?_
          refine Ops.y (v := .pointer (some ⟨_, _, none⟩)) (Y.fa0 fa_25_0 rfl) ?_
          refine Ops.y (v := .slice _ _ _) (Y.loadv ty_22 rfl (I.rdbox 2 rfl 0 1) rfl rfl) ?_
          refine Ops.y (v := .slice _ _ _) (Y.move rfl) ?_
          refine Ops.y (v := .agg #[_, _, _, _]) (Y.loadv ty_52 rfl (I.rdbox 0 rfl 0 4) rfl rfl) ?_
          refine Ops.go (O.call I Tryz.call79 (htr ▸ radd_ok _ I.base_ok p.preds hp3.preds f3 hf3 okf3 y hfine) rfl ?_)
          rintro _ h5 w I le5 ⟨s6, rfl, e6, i6⟩
          refine Ops.y (v := .tuple #[_, _]) (Y.move rfl) ?_
          refine Ops.y (v := .slice _ _ _) (Y.extract rfl rfl) ?_
          refine Ops.y (v := .bool _) (Y.extract rfl rfl) ?_
          refine Ops.y (v := .slice _ _ _) (Y.assign rfl) ?_
          refine Ops.y (v := .bool _) (Y.assign rfl) ?_
          refine Ops.nil ?_
          have E := E.le le5
          refine WP.seq ?_
          refine WP.region ?_
          refine Ops.y (v := .bool _) (Y.move rfl) ?_
          refine Ops.nil ?_
          refine WP.cond rfl (fun h20 => ?_) (fun h20 => ?_)
          · have h20 : tr.2 = true := h20
            rw [if_pos h20] at hput
            refine WP.seq ?_
            refine WP.region ?_
            refine Ops.y (v := .slice _ _ _) (Y.move rfl) ?_
            refine Ops.y (v := .slice _ _ _) (Y.assign rfl) ?_
            refine Ops.nil ?_
            refine WP.seq ?_
            refine WP.region ?_
            refine Ops.y (v := v3) (Y.move rfl) ?_
            refine Ops.y (v := .slice _ _ _) (Y.move rfl) ?_
            refine Ops.y (v := .int .i64 _) (Y.move rfl) ?_
            refine Ops.y (v := .pointer (some ⟨_, _, none⟩)) (Y.idxEl E Tryz.underlying36 Tryz.sizeOf82 rfl rfl (Int.natCast_nonneg _) rfl) ?_
            refine Ops.y (v := .agg #[_, _, _, _]) (Y.loadv ty_82 rfl (I.rd (E.rd.part 0 4)) rfl rfl) ?_
            refine Ops.go (O.mksl (xs := [sl.xs[j]]) (enc := Stp.enc) I Tryz.underlying36 Tryz.sizeOf82 Tryz.zeroValue82 rfl (Nat.le_of_ble_eq_true rfl) rfl rfl (by decide) (fun _ => rfl) ?_)
            intro b80 h80 w I le80 sl80
            refine Ops.go (O.append I Tryz.underlying36 et_82 1 rfl rfl rfl (I.rd (sl80 0 _ rfl).2) rfl rfl (by decide) ((by omega)) (by omega) ?_)
            intro b81 c81 w I
            refine Ops.y (v := .slice _ _ _) (Y.assign rfl) ?_
            refine Ops.nil ?_
            refine WP.region ?_
            refine Ops.y (v := .bool _) (Y.assign rfl) ?_
            refine Ops.nil ?_
            refine WP.region ?_
            refine Ops.y (v := .int .i64 _) (Y.move rfl) ?_
            refine Ops.y (v := .int .i64 _) (Y.addi rfl rfl ⟨by omega, by omega⟩) ?_
            refine Ops.y (v := .int .i64 _) (Y.assign rfl) ?_
            refine Ops.nil ?_
            have I := I.drop
            have e1 : (xs3 ++ [sl.xs[j]]).length = xs3.length + 1 := by simp
            refine ⟨(j + 1, ⟨s6, .slice (some ⟨b81, 0, none⟩) (xs3 ++ [sl.xs[j]]).length c81, xs3 ++ [sl.xs[j]], h80⟩), ⟨⟨rfl, rfl, rfl, by dsimp only; rw [e1]; rfl, rfl, congrArg Value.bool (decide_eq_true (by dsimp only; omega)).symm, rfl, rfl, rfl, trivial⟩, ?_, by dsimp only; omega, gl3.trans (hl.trans (le5.trans le80)), i6.le le80, by dsimp only; rw [← hnx, hput, e6]⟩, by dsimp only; omega⟩
            dsimp only [tvM]
            rw [e1, List.flatMap_append, List.flatMap_singleton]
            exact I
          · have h20 : tr.2 = false := by simpa using h20
            rw [h20, if_neg (by decide)] at hput
            refine WP.skip ?_
            refine WP.region ?_
            refine Ops.y (v := .int .i64 _) (Y.move rfl) ?_
            refine Ops.y (v := .int .i64 _) (Y.addi rfl rfl ⟨by omega, by omega⟩) ?_
            refine Ops.y (v := .int .i64 _) (Y.assign rfl) ?_
            refine Ops.nil ?_
            exact ⟨(j + 1, ⟨f3, v3, xs3, h5⟩), ⟨⟨rfl, rfl, rfl, rfl, rfl, rfl, rfl, rfl, rfl, trivial⟩, I.drop, by dsimp only; omega, gl3.trans (hl.trans le5), hf3.le le5, by dsimp only; rw [← hnx, hput]⟩, by dsimp only; omega⟩
        · obtain rfl : j = sl.xs.length := by omega
          rw [List.take_length] at hs3
          refine WP.exit ?_
          refine WP.region ?_
          refine Ops.y (v := .int .i64 _) (Y.move rfl) ?_
          refine Ops.y (v := .int .i64 _) (Y.addi rfl rfl ⟨by omega, by omega⟩) ?_
          refine Ops.y (v := .int .i64 _) (Y.assign rfl) ?_
          refine Ops.nil ?_
          exact ⟨(n + 1, ⟨f3, v3, xs3, g3⟩), ⟨⟨rfl, rfl, rfl, rfl, rfl, rfl, rfl, trivial⟩, I, by dsimp only; omega, gl2.trans (le8.trans gl3), hf3, by dsimp only; rw [hk2, hs3]⟩, by dsimp only; omega⟩
      · obtain rfl : n = p.rules.xs.length := by omega
        have hpot := tsteps_pot rk (s0 := (f1.xs, xs1)) j1.fok hts
        dsimp only at hpot
        have hT : trPass p (ofQ p s.xs k) (f1.xs, xs1) = (f2.xs, xs2) := by rw [hq]; exact hs2.symm
        refine WP.exit ?_
        refine ⟨(decide (xs2.length ≠ xs1.length), ⟨f2, v2, xs2, g2⟩), ⟨⟨rfl, rfl, rfl, rfl, rfl, rfl, trivial⟩, I, ⟨j1.le.trans gl2, okf2, hf2, hl2⟩, TJ.next tj hT⟩, ?_⟩
        dsimp only
        by_cases he : xs2.length = xs1.length
        · rw [decide_eq_false (fun h => h he)]; simp; omega
        · rw [decide_eq_true he]; simp; omega
    · obtain rfl : ag = false := by simpa using h8
      refine WP.exit ?_
      refine WP.region ?_
      refine Ops.y (v := .int .i64 _) (Y.move rfl) ?_
      refine Ops.y (v := .int .i64 _) (Y.addi rfl rfl ⟨by omega, by omega⟩) ?_
      refine Ops.y (v := .int .i64 _) (Y.assign rfl) ?_
      refine Ops.nil ?_
      exact ⟨(k + 1, ⟨f1, v1, xs1, g1⟩), ⟨⟨rfl, rfl, rfl, rfl, rfl, trivial⟩, I, by dsimp only; omega, ⟨j0.le.trans j1.le, j1.fok, j1.fin, j1.len⟩, (f0.xs, xs0), hm, tj.done⟩, by dsimp only; omega⟩
  · have h5 : ¬ (k : Int) ≤ mostL s.xs := h5
    obtain rfl : k = N := by omega
    have hpl0 := potF_le p.preds.xs f0.xs
    have hl0 := j0.len
    dsimp only at hl0
    obtain ⟨h5', ss, le5, rfl, hx5, in5, I⟩ := I.settleSl stp_len rfl
    have hl5 : ss.xs.length = xs0.length := by rw [hx5]
    refine WP.exit ?_
    refine WP.seq ?_
    refine WP.region ?_
    refine Ops.y (v := .slice _ _ _) (Y.move rfl) ?_
    refine Ops.y (v := .slice _ _ _) (Y.assign rfl) ?_
    refine Ops.nil ?_
    refine WP.ret ?_
    repeat (first | refine thenE_ret ?_ | refine blockE_ret ?_)
    exact retQ.mk (vs := [.slice _ _ _]) rfl ⟨rfl, trivial⟩ I.ext_of (⟨ss, f0.xs, rfl, ⟨in5, by omega⟩, by rw [eM, hN, hx5]; exact hm⟩)
end Go.TF
end
section
/- The laws of the model: closed, told, least. -/
namespace Go.TF
open Go Go.RowKit Go.Proofs
set_option maxRecDepth 20000

end Go.TF
end
section
/- The laws of traces: each returns true. -/
namespace Go.TF
open Go Go.RowKit Go.Proofs
set_option maxRecDepth 20000

theorem Y.cutT {α : Type} {P : Program} {e : Env} {w : World} {t : TypeId} {pos : String} {af : Array Edge} {g : Option (Nat × Bool)} {d : Option Nat} {T el c k : Nat} {ik : IntKind} {x q : Operand} {s : Sl α} (hs : s.Fl) (hT : Und P T (.slice el)) (hk : ∀ w, (sizeOf el).run P w = .ok c w) (hx : ev e x = s.val) (hq : ev e q = .int ik (k : Int)) (hle : k ≤ s.xs.length) :
    Y P ⟨d, .slice T x none (some q) none, t, pos, af, g⟩ e w (⟨s.at_, s.cap, s.xs.take k⟩ : Sl α).val := by
  rcases hs with rfl | ⟨b, h1, h2⟩
  · obtain rfl : k = 0 := by simpa using hle
    exact Y.slicenil hT hk hx (.inl rfl) (.inr ⟨q, ik, rfl, hq⟩)
  · obtain ⟨a, cp, xs⟩ := s
    have h1 : a = some ⟨b, 0, none⟩ := h1
    have h2 : xs.length ≤ cp := h2
    have hle : k ≤ xs.length := hle
    subst h1
    refine (Y.slicesl (b := b) (o := 0) (l := 0) (h := k) hT hk hx (.inl ⟨rfl, rfl⟩) (.inr ⟨q, ik, rfl, hq⟩) (Nat.zero_le _) (by omega)).is ?_
    simp [Sl.val, List.length_take, Nat.min_eq_left hle]
theorem stpnil {h : Heap} : Stps (⟨none, 0, []⟩ : Sl Stp) h := ⟨fun i x hx => by simp at hx, by simp⟩
theorem ModP.shape {p : Prg} {v : Value} {h : Heap} (hv : ModP p v h) : ∃ (s : Sl Fct) (ev : Int), v = .tuple #[s.val, .int .i64 ev] := by
  rcases hv with ⟨_, rfl⟩ | ⟨_, s, rs, rfl, _⟩
  · exact ⟨⟨none, 0, []⟩, _, rfl⟩
  · exact ⟨s, _, rfl⟩
theorem stps_take {s : Sl Stp} {h : Heap} (hs : Stps s h) (k : Nat) : Stps (⟨s.at_, s.cap, s.xs.take k⟩ : Sl Stp) h := by
  refine ⟨fun i x hx => hs.el i x ?_, ?_⟩
  · rw [List.getElem?_take] at hx
    split at hx
    · exact hx
    · cases hx
  · have := hs.small
    show (s.xs.take k).length ≤ _
    rw [List.length_take]; omega
theorem Replay_at (B : Base) (hB : B.ok) (p : Prg) (hp : p.In B.h) (hnm : p.Nm) (l : Sl Stp) (hl : Stps l B.h) (r : (List Fct × Nat) × Int) (h : replayOf p l.xs = r) : Fn Tryz.prog 26 [p.val, l.val] B (RepP r) := h ▸ Replay_ok B hB p hp hnm l hl
theorem rd_Trace (B : Base) (hB : B.ok) (p : Prg) (hp : RoadsAt p B.h) : Fn Tryz.prog 22 [p.val] B (fun v h => ∃ s : Sl Stp, v = .tuple #[s.val, .int .i64 0] ∧ s.xs = rdT.2 ∧ Stps s h) :=
  (Trace_ok B hB p hp.is hp.nm).mono fun v h' _ hv => by
    rcases hv with ⟨h1, _⟩ | ⟨_, s, f, rfl, hs, _, _, hm⟩
    · exact absurd hp.check h1
    · exact ⟨s, rfl, congrArg Prod.snd ((rd_traK hp).uniq hm), hs⟩
theorem traceBegun_ok (B : Base) (hB : B.ok) : Fn Tryz.prog 24 [] B (fun v _ => v = .bool true) := by
  refine Fn.of Tryz.func24 rfl Tryz.ntmps24 (by kernel_rfl) (by simp) ?_
  intro e
  have I := Inv.start hB
  refine WP.seq ?_
  refine WP.region ?_
  refine Ops.y (v := .bool _) (Y.assign rfl) ?_
  refine Ops.nil ?_
  refine WP.seq ?_
  refine WP.region ?_
  refine Ops.go (O.call I Tryz.call81 (roads_ok _ I.base_ok) rfl ?_)
  rintro _ h1 w I le1 ⟨p1, rfl, hp1⟩
  refine Ops.go (O.call I Tryz.call22 (rd_Trace _ I.base_ok p1 hp1) rfl ?_)
  rintro _ h2 w I le2 ⟨m, rfl, em, im⟩
  refine Ops.y (v := .tuple #[_, _]) (Y.move rfl) ?_
  refine Ops.y (v := .slice _ _ _) (Y.extract rfl rfl) ?_
  refine Ops.y (v := .int .i64 _) (Y.extract rfl rfl) ?_
  refine Ops.y (v := .slice _ _ _) (Y.assign rfl) ?_
  refine Ops.y (v := .int .i64 _) (Y.assign rfl) ?_
  refine Ops.nil ?_
  refine WP.seq ?_
  refine WP.region ?_
  refine Ops.go (O.call I Tryz.call81 (roads_ok _ I.base_ok) rfl ?_)
  rintro _ h3 w I le3 ⟨p2, rfl, hp2⟩
  refine Ops.y (v := .slice _ _ _) (Y.move rfl) ?_
  refine Ops.go (O.call I Tryz.call26 (Replay_at _ I.base_ok p2 hp2.is hp2.nm m (im.le le3) ((rdM, 17), 0) (by rw [em]; exact rd_rep hp2)) rfl ?_)
  rintro _ h4 w I le4 ⟨m2, rfl, em2, im2⟩
  refine Ops.y (v := .tuple #[_, _, _]) (Y.move rfl) ?_
  refine Ops.y (v := .slice _ _ _) (Y.extract rfl rfl) ?_
  refine Ops.y (v := .int .i64 _) (Y.extract rfl rfl) ?_
  refine Ops.y (v := .int .i64 _) (Y.extract rfl rfl) ?_
  refine Ops.y (v := .slice _ _ _) (Y.assign rfl) ?_
  refine Ops.y (v := .int .i64 _) (Y.assign rfl) ?_
  refine Ops.y (v := .int .i64 _) (Y.assign rfl) ?_
  refine Ops.nil ?_
  refine WP.seq ?_
  refine WP.region ?_
  refine Ops.go (O.call I Tryz.call81 (roads_ok _ I.base_ok) rfl ?_)
  rintro _ h5 w I le5 ⟨p3, rfl, hp3⟩
  refine Ops.y (v := .agg #[.int .i64 _, .int .i64 _, .int .i64 _, .int .i64 _]) (Y.build pl_82 Tryz.zeroValue82 rfl rfl) ?_
  refine Ops.y (v := .agg #[.int .i64 _, .int .i64 _, .int .i64 _, .int .i64 _]) (Y.build pl_82 Tryz.zeroValue82 rfl rfl) ?_
  refine Ops.go (O.mksl (xs := [(⟨0, ⟨0, 0, 0⟩⟩ : Stp), ⟨5, ⟨0, 0, 0⟩⟩]) (enc := Stp.enc) I Tryz.underlying36 Tryz.sizeOf82 Tryz.zeroValue82 rfl (Nat.le_of_ble_eq_true rfl) rfl rfl (by decide) (fun _ => rfl) ?_)
  intro b25 h25 w I le25 sl25
  refine Ops.go (O.call I Tryz.call26 (Replay_at _ I.base_ok p3 (hp3.is.le le25) hp3.nm ⟨some ⟨b25, 0, none⟩, 2, [⟨0, ⟨0, 0, 0⟩⟩, ⟨5, ⟨0, 0, 0⟩⟩]⟩ ⟨sl25, by simp⟩ (([], 1), 1) (rd_bad hp3)) rfl ?_)
  rintro _ h6 w I le6 ⟨m3, rfl, em3, im3⟩
  refine Ops.y (v := .tuple #[_, _, _]) (Y.move rfl) ?_
  refine Ops.y (v := .slice _ _ _) (Y.extract rfl rfl) ?_
  refine Ops.y (v := .int .i64 _) (Y.extract rfl rfl) ?_
  refine Ops.y (v := .int .i64 _) (Y.extract rfl rfl) ?_
  refine Ops.y (v := .slice _ _ _) (Y.assign rfl) ?_
  refine Ops.y (v := .int .i64 _) (Y.assign rfl) ?_
  refine Ops.y (v := .int .i64 _) (Y.assign rfl) ?_
  refine Ops.nil ?_
  have n1 : m.xs.length = 17 := by rw [em]; exact rdT_len
  have n2 : m2.xs.length = 17 := by rw [em2]; kernel_rfl
  refine WP.seq ?_
  refine WP.region ?_
  refine Ops.y (v := .int .i64 _) (Y.move rfl) ?_
  refine Ops.y (v := .bool true) (Y.dec_t (Y.eqi rfl rfl) (rfl)) ?_
  refine Ops.y (v := .bool _) (Y.move rfl) ?_
  refine Ops.ygt rfl (v := .int .i64 _) (Y.move rfl) ?_
  refine Ops.ygt rfl (v := .bool true) (Y.dec_t (Y.eqi rfl rfl) (rfl)) ?_
  refine Ops.y (v := .bool _) (Y.pick_t rfl rfl) ?_
  refine Ops.y (v := .bool _) (Y.move rfl) ?_
  refine Ops.ygt rfl (v := .int .i64 _) (Y.move rfl) ?_
  refine Ops.ygt rfl (v := .bool true) (Y.dec_t (Y.eqi rfl rfl) (rfl)) ?_
  refine Ops.y (v := .bool _) (Y.pick_t rfl rfl) ?_
  refine Ops.y (v := .bool _) (Y.move rfl) ?_
  refine Ops.ygt rfl (v := .slice _ _ _) (Y.move rfl) ?_
  refine Ops.ygt rfl (v := .int .i64 _) (Y.lens Tryz.underlying36 rfl) ?_
  refine Ops.ygt rfl (v := .bool true) (Y.dec_t (Y.eqi rfl rfl) ((by rw [n1]; rfl))) ?_
  refine Ops.y (v := .bool _) (Y.pick_t rfl rfl) ?_
  refine Ops.y (v := .bool _) (Y.move rfl) ?_
  refine Ops.ygt rfl (v := .int .i64 _) (Y.move rfl) ?_
  refine Ops.ygt rfl (v := .bool true) (Y.dec_t (Y.eqi rfl rfl) (rfl)) ?_
  refine Ops.y (v := .bool _) (Y.pick_t rfl rfl) ?_
  refine Ops.y (v := .bool _) (Y.move rfl) ?_
  refine Ops.ygt rfl (v := .slice _ _ _) (Y.move rfl) ?_
  refine Ops.ygt rfl (v := .int .i64 _) (Y.lens Tryz.underlying26 rfl) ?_
  refine Ops.ygt rfl (v := .bool true) (Y.dec_t (Y.eqi rfl rfl) ((by rw [n2]; rfl))) ?_
  refine Ops.y (v := .bool _) (Y.pick_t rfl rfl) ?_
  refine Ops.y (v := .bool _) (Y.move rfl) ?_
  refine Ops.ygt rfl (v := .int .i64 _) (Y.move rfl) ?_
  refine Ops.ygt rfl (v := .bool true) (Y.dec_t (Y.eqi rfl rfl) (rfl)) ?_
  refine Ops.y (v := .bool _) (Y.pick_t rfl rfl) ?_
  refine Ops.y (v := .bool _) (Y.assign rfl) ?_
  refine Ops.nil ?_
  refine WP.ret ?_
  repeat (first | refine thenE_ret ?_ | refine blockE_ret ?_)
  exact retQ.mk (vs := [.bool _]) rfl ⟨rfl, trivial⟩ I.ext_of (rfl)
set_option maxHeartbeats 4000000 in
theorem TraceTells_ok (B : Base) (hB : B.ok) (p : Prg) (hp : p.In B.h) (hnm : p.Nm) : Fn Tryz.prog 4 [p.val] B (fun v _ => v = .bool true) := by
  refine Fn.of Tryz.func4 rfl Tryz.ntmps4 (by kernel_rfl) (by simp) ?_
  intro e
  have I := Inv.start hB
  refine WP.seq ?_
  refine WP.region ?_
  refine Ops.go (O.box (v := .agg #[_, _]) I rfl rfl ?_)
  intro b1 w I
  refine Ops.y (v := .bool _) (Y.assign rfl) ?_
  refine Ops.nil ?_
  by_cases hpr : checkProg p = 0
  · refine WP.seq ?_
    refine WP.region ?_
    refine Ops.y (v := .agg #[_, _]) (Y.loadv ty_25 rfl (I.rdbox 0 rfl 0 2) rfl rfl) ?_
    refine Ops.go (O.call I Tryz.call22 (Trace_ok _ I.base_ok p hp hnm) rfl ?_)
    rintro v12 h1 w I le1 hv
    rcases hv with ⟨h, _⟩ | ⟨_, s, f, rfl, hs, _, _, hm⟩
    exact absurd hpr h
    refine Ops.y (v := .tuple #[_, _]) (Y.move rfl) ?_
    refine Ops.y (v := .slice _ _ _) (Y.extract rfl rfl) ?_
    refine Ops.y (v := .int .i64 _) (Y.extract rfl rfl) ?_
    refine Ops.y (v := .slice _ _ _) (Y.assign rfl) ?_
    refine Ops.y (v := .int .i64 _) (Y.assign rfl) ?_
    refine Ops.nil ?_
    have hp := hp.le le1
    refine WP.seq ?_
    refine WP.region ?_
    refine Ops.y (v := .agg #[_, _]) (Y.loadv ty_25 rfl (I.rdbox 0 rfl 0 2) rfl rfl) ?_
    refine Ops.go (O.callv I Tryz.call18 (CheckProg_ok _ I.base_ok p hp hnm) rfl ?_)
    intro w I
    refine Ops.y (v := .int .i64 _) (Y.assign rfl) ?_
    refine Ops.nil ?_
    refine WP.seq ?_
    refine WP.region ?_
    refine Ops.y (v := .slice _ _ _) (Y.assign rfl) ?_
    refine Ops.nil ?_
    refine WP.seq ?_
    refine WP.seq ?_
    refine WP.region ?_
    refine Ops.y (v := .int .i64 _) (Y.move rfl) ?_
    refine Ops.y (v := .bool (decide _)) (Y.eqi rfl rfl) ?_
    refine Ops.nil ?_
    refine WP.cond_decT rfl (hpr) ?_
    refine WP.region ?_
    refine Ops.y (v := .agg #[_, _]) (Y.loadv ty_25 rfl (I.rdbox 0 rfl 0 2) rfl rfl) ?_
    refine Ops.go (O.call I Tryz.call23 (TraceOf_ok _ I.base_ok p hp hpr) rfl ?_)
    rintro _ h5 w I le5 ⟨s2, f2, rfl, hs2, hm2⟩
    refine Ops.y (v := .slice _ _ _) (Y.assign rfl) ?_
    refine Ops.nil ?_
    refine WP.seq ?_
    refine WP.region ?_
    refine Ops.go (O.callv I Tryz.call24 (traceBegun_ok _ I.base_ok) rfl ?_)
    intro w I
    refine Ops.y (v := .bool _) (Y.move rfl) ?_
    refine Ops.ygt rfl (v := .slice _ _ _) (Y.move rfl) ?_
    refine Ops.ygt rfl (v := .slice _ _ _) (Y.move rfl) ?_
    refine Ops.gt rfl (O.callv I Tryz.call25 (SameSteps_at _ I.base_ok s s2 (hs.le le5) hs2 (congrArg Prod.snd (hm2.uniq hm))) rfl ?_)
    intro w I
    refine Ops.y (v := .bool _) (Y.pick_t rfl rfl) ?_
    refine Ops.y (v := .bool _) (Y.move rfl) ?_
    refine Ops.ygt rfl (v := .int .i64 _) (Y.move rfl) ?_
    refine Ops.ygt rfl (v := .int .i64 _) (Y.move rfl) ?_
    refine Ops.ygt rfl (v := .bool true) (Y.dec_t (Y.eqi rfl rfl) (hpr.symm)) ?_
    refine Ops.y (v := .bool _) (Y.pick_t rfl rfl) ?_
    refine Ops.y (v := .bool _) (Y.assign rfl) ?_
    refine Ops.nil ?_
    refine WP.ret ?_
    repeat (first | refine thenE_ret ?_ | refine blockE_ret ?_)
    exact retQ.mk (vs := [.bool _]) rfl ⟨rfl, trivial⟩ I.ext_of (rfl)
  · refine WP.seq ?_
    refine WP.region ?_
    refine Ops.y (v := .agg #[_, _]) (Y.loadv ty_25 rfl (I.rdbox 0 rfl 0 2) rfl rfl) ?_
    refine Ops.go (O.call I Tryz.call22 (Trace_ok _ I.base_ok p hp hnm) rfl ?_)
    rintro v12 h1 w I le1 hv
    rcases hv with ⟨_, rfl⟩ | ⟨h, _⟩
    rotate_left
    exact absurd h hpr
    refine Ops.y (v := .tuple #[_, _]) (Y.move rfl) ?_
    refine Ops.y (v := .slice _ _ _) (Y.extract rfl rfl) ?_
    refine Ops.y (v := .int .i64 _) (Y.extract rfl rfl) ?_
    refine Ops.y (v := .slice _ _ _) (Y.assign rfl) ?_
    refine Ops.y (v := .int .i64 _) (Y.assign rfl) ?_
    refine Ops.nil ?_
    have hp := hp.le le1
    refine WP.seq ?_
    refine WP.region ?_
    refine Ops.y (v := .agg #[_, _]) (Y.loadv ty_25 rfl (I.rdbox 0 rfl 0 2) rfl rfl) ?_
    refine Ops.go (O.callv I Tryz.call18 (CheckProg_ok _ I.base_ok p hp hnm) rfl ?_)
    intro w I
    refine Ops.y (v := .int .i64 _) (Y.assign rfl) ?_
    refine Ops.nil ?_
    refine WP.seq ?_
    refine WP.region ?_
    refine Ops.y (v := .slice _ _ _) (Y.assign rfl) ?_
    refine Ops.nil ?_
    refine WP.seq ?_
    refine WP.seq ?_
    refine WP.region ?_
    refine Ops.y (v := .int .i64 _) (Y.move rfl) ?_
    refine Ops.y (v := .bool (decide _)) (Y.eqi rfl rfl) ?_
    refine Ops.nil ?_
    refine WP.cond_decF rfl (hpr) ?_
    refine WP.skip ?_
    refine WP.seq ?_
    refine WP.region ?_
    refine Ops.go (O.callv I Tryz.call24 (traceBegun_ok _ I.base_ok) rfl ?_)
    intro w I
    refine Ops.y (v := .bool _) (Y.move rfl) ?_
    refine Ops.ygt rfl (v := .slice _ _ _) (Y.move rfl) ?_
    refine Ops.ygt rfl (v := .slice _ _ _) (Y.move rfl) ?_
    refine Ops.gt rfl (O.callv I Tryz.call25 (SameSteps_at _ I.base_ok ⟨none, 0, []⟩ ⟨none, 0, []⟩ stpnil stpnil rfl) rfl ?_)
    intro w I
    refine Ops.y (v := .bool _) (Y.pick_t rfl rfl) ?_
    refine Ops.y (v := .bool _) (Y.move rfl) ?_
    refine Ops.ygt rfl (v := .int .i64 _) (Y.move rfl) ?_
    refine Ops.ygt rfl (v := .int .i64 _) (Y.move rfl) ?_
    refine Ops.ygt rfl (v := .bool true) (Y.dec_t (Y.eqi rfl rfl) (rfl)) ?_
    refine Ops.y (v := .bool _) (Y.pick_t rfl rfl) ?_
    refine Ops.y (v := .bool _) (Y.assign rfl) ?_
    refine Ops.nil ?_
    refine WP.ret ?_
    repeat (first | refine thenE_ret ?_ | refine blockE_ret ?_)
    exact retQ.mk (vs := [.bool _]) rfl ⟨rfl, trivial⟩ I.ext_of (rfl)
theorem TraceReplays_ok (B : Base) (hB : B.ok) (p : Prg) (hp : p.In B.h) (hnm : p.Nm) (l : Sl Stp) (hl : Stps l B.h) : Fn Tryz.prog 5 [p.val, l.val] B (fun v _ => v = .bool true) := by
  refine Fn.of Tryz.func5 rfl Tryz.ntmps5 (by kernel_rfl) (by simp) ?_
  intro e
  have I := Inv.start hB
  refine WP.seq ?_
  refine WP.region ?_
  refine Ops.go (O.box (v := .agg #[_, _]) I rfl rfl ?_)
  intro b2 w I
  refine Ops.y (v := .bool _) (Y.assign rfl) ?_
  refine Ops.nil ?_
  refine WP.seq ?_
  refine WP.region ?_
  refine Ops.y (v := .agg #[_, _]) (Y.loadv ty_25 rfl (I.rdbox 0 rfl 0 2) rfl rfl) ?_
  refine Ops.y (v := .slice _ _ _) (Y.move rfl) ?_
  refine Ops.go (O.call I Tryz.call26 (Replay_ok _ I.base_ok p hp hnm l hl) rfl ?_)
  rintro _ h1 w I le1 ⟨s1, rfl, e1, i1⟩
  refine Ops.y (v := .tuple #[_, _, _]) (Y.move rfl) ?_
  refine Ops.y (v := .slice _ _ _) (Y.extract rfl rfl) ?_
  refine Ops.y (v := .int .i64 _) (Y.extract rfl rfl) ?_
  refine Ops.y (v := .int .i64 _) (Y.extract rfl rfl) ?_
  refine Ops.y (v := .slice _ _ _) (Y.assign rfl) ?_
  refine Ops.y (v := .int .i64 _) (Y.assign rfl) ?_
  refine Ops.y (v := .int .i64 _) (Y.assign rfl) ?_
  refine Ops.nil ?_
  refine WP.seq ?_
  refine WP.region ?_
  refine Ops.y (v := .agg #[_, _]) (Y.loadv ty_25 rfl (I.rdbox 0 rfl 0 2) rfl rfl) ?_
  refine Ops.y (v := .slice _ _ _) (Y.move rfl) ?_
  refine Ops.go (O.call I Tryz.call27 (ReplayOf_ok _ I.base_ok p (hp.le le1) hnm l (hl.le le1)) rfl ?_)
  rintro _ h2 w I le2 ⟨s2, rfl, e2, i2⟩
  refine Ops.y (v := .tuple #[_, _, _]) (Y.move rfl) ?_
  refine Ops.y (v := .slice _ _ _) (Y.extract rfl rfl) ?_
  refine Ops.y (v := .int .i64 _) (Y.extract rfl rfl) ?_
  refine Ops.y (v := .int .i64 _) (Y.extract rfl rfl) ?_
  refine Ops.y (v := .slice _ _ _) (Y.assign rfl) ?_
  refine Ops.y (v := .int .i64 _) (Y.assign rfl) ?_
  refine Ops.y (v := .int .i64 _) (Y.assign rfl) ?_
  refine Ops.nil ?_
  refine WP.seq ?_
  refine WP.region ?_
  refine Ops.go (O.callv I Tryz.call24 (traceBegun_ok _ I.base_ok) rfl ?_)
  intro w I
  refine Ops.y (v := .bool _) (Y.move rfl) ?_
  refine Ops.ygt rfl (v := .slice _ _ _) (Y.move rfl) ?_
  refine Ops.ygt rfl (v := .slice _ _ _) (Y.move rfl) ?_
  refine Ops.gt rfl (O.callv I Tryz.call21 (SameFacts_at _ I.base_ok s1 s2 (i1.le le2) i2 (by rw [e1, e2])) rfl ?_)
  intro w I
  refine Ops.y (v := .bool _) (Y.pick_t rfl rfl) ?_
  refine Ops.y (v := .bool _) (Y.move rfl) ?_
  refine Ops.ygt rfl (v := .int .i64 _) (Y.move rfl) ?_
  refine Ops.ygt rfl (v := .int .i64 _) (Y.move rfl) ?_
  refine Ops.ygt rfl (v := .bool true) (Y.dec_t (Y.eqi rfl rfl) (rfl)) ?_
  refine Ops.y (v := .bool _) (Y.pick_t rfl rfl) ?_
  refine Ops.y (v := .bool _) (Y.move rfl) ?_
  refine Ops.ygt rfl (v := .int .i64 _) (Y.move rfl) ?_
  refine Ops.ygt rfl (v := .int .i64 _) (Y.move rfl) ?_
  refine Ops.ygt rfl (v := .bool true) (Y.dec_t (Y.eqi rfl rfl) (rfl)) ?_
  refine Ops.y (v := .bool _) (Y.pick_t rfl rfl) ?_
  refine Ops.y (v := .bool _) (Y.assign rfl) ?_
  refine Ops.nil ?_
  refine WP.ret ?_
  repeat (first | refine thenE_ret ?_ | refine blockE_ret ?_)
  exact retQ.mk (vs := [.bool _]) rfl ⟨rfl, trivial⟩ I.ext_of (rfl)
set_option maxHeartbeats 4000000 in
theorem TraceSound_ok (B : Base) (hB : B.ok) (p : Prg) (hp : p.In B.h) (hnm : p.Nm) (l : Sl Stp) (hl : Stps l B.h) : Fn Tryz.prog 16 [p.val, l.val] B (fun v _ => v = .bool true) := by
  refine Fn.of Tryz.func16 rfl Tryz.ntmps16 (by kernel_rfl) (by simp) ?_
  intro e
  have I := Inv.start hB
  refine WP.seq ?_
  refine WP.region ?_
  refine Ops.go (O.box (v := .agg #[_, _]) I rfl rfl ?_)
  intro b2 w I
  refine Ops.y (v := .bool _) (Y.assign rfl) ?_
  refine Ops.nil ?_
  refine WP.seq ?_
  refine WP.region ?_
  refine Ops.y (v := .agg #[_, _]) (Y.loadv ty_25 rfl (I.rdbox 0 rfl 0 2) rfl rfl) ?_
  refine Ops.y (v := .slice _ _ _) (Y.move rfl) ?_
  refine Ops.go (O.call I Tryz.call26 (Replay_ok _ I.base_ok p hp hnm l hl) rfl ?_)
  rintro _ h1 w I le1 ⟨s1, rfl, e1, i1⟩
  refine Ops.y (v := .tuple #[_, _, _]) (Y.move rfl) ?_
  refine Ops.y (v := .slice _ _ _) (Y.extract rfl rfl) ?_
  refine Ops.y (v := .int .i64 _) (Y.extract rfl rfl) ?_
  refine Ops.y (v := .int .i64 _) (Y.extract rfl rfl) ?_
  refine Ops.y (v := .slice _ _ _) (Y.assign rfl) ?_
  refine Ops.y (v := .int .i64 _) (Y.assign rfl) ?_
  refine Ops.y (v := .int .i64 _) (Y.assign rfl) ?_
  refine Ops.nil ?_
  have hp := hp.le le1
  by_cases hc : (replayOf p l.xs).2 ≠ 0
  · refine WP.seq ?_
    refine WP.region ?_
    refine Ops.y (v := .agg #[_, _]) (Y.loadv ty_25 rfl (I.rdbox 0 rfl 0 2) rfl rfl) ?_
    refine Ops.go (O.call I Tryz.call28 (Model_ok _ I.base_ok p hp hnm) rfl ?_)
    rintro v13 h2 w I le2 hv
    obtain ⟨s, ev, rfl⟩ := ModP.shape hv
    refine Ops.y (v := .tuple #[_, _]) (Y.move rfl) ?_
    refine Ops.y (v := .slice _ _ _) (Y.extract rfl rfl) ?_
    refine Ops.y (v := .int .i64 _) (Y.extract rfl rfl) ?_
    refine Ops.y (v := .slice _ _ _) (Y.assign rfl) ?_
    refine Ops.y (v := .int .i64 _) (Y.assign rfl) ?_
    refine Ops.nil ?_
    refine WP.seq ?_
    refine WP.seq ?_
    refine WP.region ?_
    refine Ops.y (v := .int .i64 _) (Y.move rfl) ?_
    refine Ops.y (v := .bool true) (Y.dec_t (Y.nei rfl rfl) (hc)) ?_
    refine Ops.y (v := .bool _) (Y.move rfl) ?_
    refine Ops.gf rfl ?_
    refine Ops.gf rfl ?_
    refine Ops.y (v := .bool _) (Y.pick_t rfl rfl) ?_
    refine Ops.y (v := .bool _) (Y.move rfl) ?_
    refine Ops.gf rfl ?_
    refine Ops.gf rfl ?_
    refine Ops.gf rfl ?_
    refine Ops.y (v := .bool _) (Y.pick_t rfl rfl) ?_
    refine Ops.nil ?_
    refine WP.cond_t rfl ?_
    refine WP.seq ?_
    refine WP.region ?_
    refine Ops.go (O.callv I Tryz.call24 (traceBegun_ok _ I.base_ok) rfl ?_)
    intro w I
    refine Ops.y (v := .bool _) (Y.assign rfl) ?_
    refine Ops.nil ?_
    refine WP.ret ?_
    repeat (first | refine thenE_ret ?_ | refine blockE_ret ?_)
    exact retQ.mk (vs := [.bool _]) rfl ⟨rfl, trivial⟩ I.ext_of (rfl)
  have hc0 := Decidable.not_not.1 hc
  have hpr : checkProg p = 0 := by
    unfold replayOf at hc0
    split at hc0
    · rename_i h; exact absurd hc0 h
    · rename_i h; exact Decidable.not_not.1 h
  refine WP.seq ?_
  refine WP.region ?_
  refine Ops.y (v := .agg #[_, _]) (Y.loadv ty_25 rfl (I.rdbox 0 rfl 0 2) rfl rfl) ?_
  refine Ops.go (O.call I Tryz.call28 (Model_ok _ I.base_ok p hp hnm) rfl ?_)
  rintro v13 h2 w I le2 hv
  rcases hv with ⟨h, _⟩ | ⟨_, m, rs, rfl, hm, mk⟩
  exact absurd hpr h
  refine Ops.y (v := .tuple #[_, _]) (Y.move rfl) ?_
  refine Ops.y (v := .slice _ _ _) (Y.extract rfl rfl) ?_
  refine Ops.y (v := .int .i64 _) (Y.extract rfl rfl) ?_
  refine Ops.y (v := .slice _ _ _) (Y.assign rfl) ?_
  refine Ops.y (v := .int .i64 _) (Y.assign rfl) ?_
  refine Ops.nil ?_
  have hp := hp.le le2
  have i1 := i1.le le2
  cases hpo : posP p
  · refine WP.seq ?_
    refine WP.seq ?_
    refine WP.region ?_
    refine Ops.y (v := .int .i64 _) (Y.move rfl) ?_
    refine Ops.y (v := .bool false) (Y.dec_f (Y.nei rfl rfl) (hc)) ?_
    refine Ops.y (v := .bool _) (Y.move rfl) ?_
    refine Ops.ygt rfl (v := .int .i64 _) (Y.move rfl) ?_
    refine Ops.ygt rfl (v := .bool false) (Y.dec_f (Y.nei rfl rfl) ((fun h => h rfl))) ?_
    refine Ops.y (v := .bool _) (Y.pick_f rfl rfl) ?_
    refine Ops.y (v := .bool _) (Y.move rfl) ?_
    refine Ops.ygt rfl (v := .agg #[_, _]) (Y.loadv ty_25 rfl (I.rdbox 0 rfl 0 2) rfl rfl) ?_
    refine Ops.gt rfl (O.callv I Tryz.call49 (hpo ▸ positive_ok _ I.base_ok p hp) rfl ?_)
    intro w I
    refine Ops.ygt rfl (v := .bool true) (Y.b (Y.not rfl) (rfl)) ?_
    refine Ops.y (v := .bool _) (Y.pick_f rfl rfl) ?_
    refine Ops.nil ?_
    refine WP.cond_t rfl ?_
    refine WP.seq ?_
    refine WP.region ?_
    refine Ops.go (O.callv I Tryz.call24 (traceBegun_ok _ I.base_ok) rfl ?_)
    intro w I
    refine Ops.y (v := .bool _) (Y.assign rfl) ?_
    refine Ops.nil ?_
    refine WP.ret ?_
    repeat (first | refine thenE_ret ?_ | refine blockE_ret ?_)
    exact retQ.mk (vs := [.bool _]) rfl ⟨rfl, trivial⟩ I.ext_of (rfl)
  refine WP.seq ?_
  refine WP.seq ?_
  refine WP.region ?_
  refine Ops.y (v := .int .i64 _) (Y.move rfl) ?_
  refine Ops.y (v := .bool false) (Y.dec_f (Y.nei rfl rfl) (hc)) ?_
  refine Ops.y (v := .bool _) (Y.move rfl) ?_
  refine Ops.ygt rfl (v := .int .i64 _) (Y.move rfl) ?_
  refine Ops.ygt rfl (v := .bool false) (Y.dec_f (Y.nei rfl rfl) ((fun h => h rfl))) ?_
  refine Ops.y (v := .bool _) (Y.pick_f rfl rfl) ?_
  refine Ops.y (v := .bool _) (Y.move rfl) ?_
  refine Ops.ygt rfl (v := .agg #[_, _]) (Y.loadv ty_25 rfl (I.rdbox 0 rfl 0 2) rfl rfl) ?_
  refine Ops.gt rfl (O.callv I Tryz.call49 (hpo ▸ positive_ok _ I.base_ok p hp) rfl ?_)
  intro w I
  refine Ops.ygt rfl (v := .bool false) (Y.b (Y.not rfl) (rfl)) ?_
  refine Ops.y (v := .bool _) (Y.pick_f rfl rfl) ?_
  refine Ops.nil ?_
  refine WP.cond_f rfl ?_
  have rk := chk_rok hpr
  obtain ⟨j, hcl⟩ := mod_closed hpr (strataM_least hpr) mk
  have hrep : repL p l.xs 0 [] = ((s1.xs, (replayOf p l.xs).1.2), 0) := by
    have e : replayOf p l.xs = repL p l.xs 0 [] := by
      unfold replayOf at hc0 ⊢
      rw [if_neg (fun h => h hpr)] at hc0 ⊢
      split at hc0
      · cases hc0
      · rename_i h; rw [if_neg h]
    rw [← e, e1, ← hc0]
  have okr := rep_fok rk (chk_nil hpr) hrep
  have hu := rep_sound rk j.fok hpo hcl (chk_nil hpr) (underF_iff.2 fun y hy => by cases hy) hrep
  refine WP.skip ?_
  refine WP.seq ?_
  refine WP.region ?_
  refine Ops.y (v := .pointer (some ⟨_, _, none⟩)) (Y.fa0 fa_25_0 rfl) ?_
  refine Ops.y (v := .slice _ _ _) (Y.loadv ty_22 rfl (I.rdbox 0 rfl 0 1) rfl rfl) ?_
  refine Ops.y (v := .slice _ _ _) (Y.move rfl) ?_
  refine Ops.y (v := .slice _ _ _) (Y.move rfl) ?_
  refine Ops.go (O.callv I Tryz.call50 (Under_at _ I.base_ok p.preds hp.preds s1 m i1 hm (true, 0) (by rw [underOf_of okr j.fok, hu])) rfl ?_)
  intro w I
  refine Ops.y (v := .tuple #[_, _]) (Y.move rfl) ?_
  refine Ops.y (v := .bool _) (Y.extract rfl rfl) ?_
  refine Ops.y (v := .int .i64 _) (Y.extract rfl rfl) ?_
  refine Ops.y (v := .bool _) (Y.assign rfl) ?_
  refine Ops.y (v := .int .i64 _) (Y.assign rfl) ?_
  refine Ops.nil ?_
  refine WP.seq ?_
  refine WP.region ?_
  refine Ops.go (O.callv I Tryz.call24 (traceBegun_ok _ I.base_ok) rfl ?_)
  intro w I
  refine Ops.y (v := .bool _) (Y.move rfl) ?_
  refine Ops.ygt rfl (v := .int .i64 _) (Y.move rfl) ?_
  refine Ops.ygt rfl (v := .bool true) (Y.dec_t (Y.eqi rfl rfl) (rfl)) ?_
  refine Ops.y (v := .bool _) (Y.pick_t rfl rfl) ?_
  refine Ops.y (v := .bool _) (Y.move rfl) ?_
  refine Ops.ygt rfl (v := .bool _) (Y.move rfl) ?_
  refine Ops.y (v := .bool _) (Y.pick_t rfl rfl) ?_
  refine Ops.y (v := .bool _) (Y.assign rfl) ?_
  refine Ops.nil ?_
  refine WP.ret ?_
  repeat (first | refine thenE_ret ?_ | refine blockE_ret ?_)
  exact retQ.mk (vs := [.bool _]) rfl ⟨rfl, trivial⟩ I.ext_of (rfl)
set_option maxHeartbeats 4000000 in
theorem TraceSame_ok (B : Base) (hB : B.ok) (p : Prg) (hp : p.In B.h) (hnm : p.Nm) (c : Int) (hc : I64 c) : Fn Tryz.prog 15 [p.val, .int .i64 c] B (fun v _ => v = .bool true) := by
  refine Fn.of Tryz.func15 rfl Tryz.ntmps15 (by kernel_rfl) (by simp) ?_
  intro e
  have I := Inv.start hB
  refine WP.seq ?_
  refine WP.region ?_
  refine Ops.go (O.box (v := .agg #[_, _]) I rfl rfl ?_)
  intro b2 w I
  refine Ops.y (v := .bool _) (Y.assign rfl) ?_
  refine Ops.nil ?_
  by_cases hpr : checkProg p ≠ 0
  · refine WP.seq ?_
    refine WP.region ?_
    refine Ops.y (v := .agg #[_, _]) (Y.loadv ty_25 rfl (I.rdbox 0 rfl 0 2) rfl rfl) ?_
    refine Ops.go (O.call I Tryz.call22 (Trace_ok _ I.base_ok p hp hnm) rfl ?_)
    rintro v12 h1 w I le1 hv
    rcases hv with ⟨_, rfl⟩ | ⟨h, _⟩
    rotate_left
    exact absurd h hpr
    refine Ops.y (v := .tuple #[_, _]) (Y.move rfl) ?_
    refine Ops.y (v := .slice _ _ _) (Y.extract rfl rfl) ?_
    refine Ops.y (v := .int .i64 _) (Y.extract rfl rfl) ?_
    refine Ops.y (v := .slice _ _ _) (Y.assign rfl) ?_
    refine Ops.y (v := .int .i64 _) (Y.assign rfl) ?_
    refine Ops.nil ?_
    refine WP.seq ?_
    refine WP.seq ?_
    refine WP.region ?_
    refine Ops.y (v := .int .i64 _) (Y.move rfl) ?_
    refine Ops.y (v := .bool true) (Y.dec_t (Y.nei rfl rfl) (hpr)) ?_
    refine Ops.y (v := .bool _) (Y.move rfl) ?_
    refine Ops.gf rfl ?_
    refine Ops.gf rfl ?_
    refine Ops.gf rfl ?_
    refine Ops.y (v := .bool _) (Y.pick_t rfl rfl) ?_
    refine Ops.nil ?_
    refine WP.cond_t rfl ?_
    refine WP.seq ?_
    refine WP.region ?_
    refine Ops.go (O.callv I Tryz.call24 (traceBegun_ok _ I.base_ok) rfl ?_)
    intro w I
    refine Ops.y (v := .bool _) (Y.assign rfl) ?_
    refine Ops.nil ?_
    refine WP.ret ?_
    repeat (first | refine thenE_ret ?_ | refine blockE_ret ?_)
    exact retQ.mk (vs := [.bool _]) rfl ⟨rfl, trivial⟩ I.ext_of (rfl)
  have hpr := Decidable.not_not.1 hpr
  refine WP.seq ?_
  refine WP.region ?_
  refine Ops.y (v := .agg #[_, _]) (Y.loadv ty_25 rfl (I.rdbox 0 rfl 0 2) rfl rfl) ?_
  refine Ops.go (O.call I Tryz.call22 (Trace_ok _ I.base_ok p hp hnm) rfl ?_)
  rintro v12 h1 w I le1 hv
  rcases hv with ⟨h, _⟩ | ⟨_, s, f0, rfl, hs, hfl, hlen, ht⟩
  exact absurd hpr h
  refine Ops.y (v := .tuple #[_, _]) (Y.move rfl) ?_
  refine Ops.y (v := .slice _ _ _) (Y.extract rfl rfl) ?_
  refine Ops.y (v := .int .i64 _) (Y.extract rfl rfl) ?_
  refine Ops.y (v := .slice _ _ _) (Y.assign rfl) ?_
  refine Ops.y (v := .int .i64 _) (Y.assign rfl) ?_
  refine Ops.nil ?_
  have hp := hp.le le1
  refine WP.seq ?_
  refine WP.seq ?_
  refine WP.region ?_
  refine Ops.y (v := .int .i64 _) (Y.move rfl) ?_
  refine Ops.y (v := .bool false) (Y.dec_f (Y.nei rfl rfl) ((fun h => h rfl))) ?_
  refine Ops.y (v := .bool _) (Y.move rfl) ?_
  refine Ops.ygt rfl (v := .slice _ _ _) (Y.move rfl) ?_
  refine Ops.ygt rfl (v := .int .i64 _) (Y.lens Tryz.underlying36 rfl) ?_
  refine Ops.ygt rfl (v := .bool false) (Y.dec_f (Y.gti rfl rfl) ((by omega))) ?_
  refine Ops.y (v := .bool _) (Y.pick_f rfl rfl) ?_
  refine Ops.nil ?_
  refine WP.cond_f rfl ?_
  refine WP.skip ?_
  refine WP.seq ?_
  refine WP.region ?_
  refine Ops.y (v := .agg #[_, _]) (Y.loadv ty_25 rfl (I.rdbox 0 rfl 0 2) rfl rfl) ?_
  refine Ops.y (v := .slice _ _ _) (Y.move rfl) ?_
  refine Ops.go (O.call I Tryz.call26 (Replay_ok _ I.base_ok p hp hnm s hs) rfl ?_)
  rintro _ h4 w I le4 ⟨s1, rfl, e1, i1⟩
  refine Ops.y (v := .tuple #[_, _, _]) (Y.move rfl) ?_
  refine Ops.y (v := .slice _ _ _) (Y.extract rfl rfl) ?_
  refine Ops.y (v := .int .i64 _) (Y.extract rfl rfl) ?_
  refine Ops.y (v := .int .i64 _) (Y.extract rfl rfl) ?_
  refine Ops.y (v := .slice _ _ _) (Y.assign rfl) ?_
  refine Ops.y (v := .int .i64 _) (Y.assign rfl) ?_
  refine Ops.y (v := .int .i64 _) (Y.assign rfl) ?_
  refine Ops.nil ?_
  have hp := hp.le le4
  refine WP.seq ?_
  refine WP.region ?_
  refine Ops.y (v := .agg #[_, _]) (Y.loadv ty_25 rfl (I.rdbox 0 rfl 0 2) rfl rfl) ?_
  refine Ops.go (O.call I Tryz.call28 (Model_ok _ I.base_ok p hp hnm) rfl ?_)
  rintro v13 h2 w I le2 hv
  rcases hv with ⟨h, _⟩ | ⟨_, m, rs, rfl, hm, mk⟩
  exact absurd hpr h
  refine Ops.y (v := .tuple #[_, _]) (Y.move rfl) ?_
  refine Ops.y (v := .slice _ _ _) (Y.extract rfl rfl) ?_
  refine Ops.y (v := .int .i64 _) (Y.extract rfl rfl) ?_
  refine Ops.y (v := .slice _ _ _) (Y.assign rfl) ?_
  refine Ops.y (v := .int .i64 _) (Y.assign rfl) ?_
  refine Ops.nil ?_
  have hp := hp.le le2
  have hs := (hs.le le4).le le2
  have i1 := i1.le le2
  obtain ⟨e0, tr⟩ := traK_modK (chk_rok hpr) (strataM_least hpr).sol (chk_nil hpr) ht mk
  dsimp only at e0
  have hrp : ∀ xs : List Stp, xs.length ≤ 2000 → replayOf p xs = repL p xs 0 [] := fun xs hx => by
    unfold replayOf
    rw [if_neg (fun h => h hpr), if_neg (by omega)]
  have hall : replayOf p s.xs = ((m.xs, s.xs.length), 0) := by rw [hrp _ hlen, tr.all, e0]
  have hn0 : (0 : Int) < (s.xs.length : Int) + 1 := by omega
  obtain ⟨c0, c1⟩ := chooseI_in (c := c) hn0
  obtain ⟨k, hk⟩ : ∃ k : Nat, chooseI c ((s.xs.length : Int) + 1) = k := ⟨_, (Int.toNat_of_nonneg c0).symm⟩
  have hkl : k ≤ s.xs.length := by omega
  obtain ⟨g, g1, g2, g3⟩ := tr.pre k hkl
  have hcut : replayOf p (s.xs.take k) = ((g, k), 0) := by rw [hrp _ (by rw [List.length_take]; omega), g1]
  have hln := tr.len
  rw [e0] at g3
  dsimp only at hln
  rw [e0] at hln
  have okm : FOk p.preds.xs m.xs := by have := tr.fok; rw [e0] at this; exact this
  rw [hall] at e1
  have e1 : s1.xs = m.xs := e1
  refine WP.seq ?_
  refine WP.region ?_
  refine Ops.y (v := .int .i64 _) (Y.move rfl) ?_
  refine Ops.y (v := .slice _ _ _) (Y.move rfl) ?_
  refine Ops.y (v := .int .i64 _) (Y.lens Tryz.underlying36 rfl) ?_
  refine Ops.y (v := .int .i64 _) (Y.addi rfl rfl ⟨by omega, by omega⟩) ?_
  refine Ops.go (O.callv I Tryz.call46 (hk ▸ choose_ok _ I.base_ok c (s.xs.length + 1) hc hn0) rfl ?_)
  intro w I
  refine Ops.y (v := .int .i64 _) (Y.assign rfl) ?_
  refine Ops.nil ?_
  refine WP.seq ?_
  refine WP.regionF mixed I 12 (by kernel_rfl) ?_
  refine OpsF.y_ (v := .agg #[_, _]) (fun _ => runs_none _) (fun _ w us hl I => Y.loadv ty_25 rfl (I.rdbox 0 rfl 0 2) rfl rfl) ?_
  refine OpsF.y_ (v := .slice _ _ _) (fun _ => runs_none _) (fun _ w us hl I => Y.move rfl) ?_
  refine OpsF.y_ (v := .int .i64 _) (fun _ => runs_none _) (fun _ w us hl I => Y.move rfl) ?_
  refine OpsF.y_ (v := .slice _ _ _) (fun _ => runs_none _) (fun _ w us hl I => Y.cutT hfl Tryz.underlying36 Tryz.sizeOf82 rfl rfl hkl) ?_
  refine OpsF.x_ (Φ := RepP ((g, k), 0)) RepP.mono (fun _ => runs_none _) ?_ ?_
  · intro _ w hl I
    try unfold AllL
    refine O.call I Tryz.call26 (Replay_at _ I.base_ok p (hp.le hl) hnm ⟨s.at_, s.cap, s.xs.take k⟩ (stps_take (hs.le hl) k) ((g, k), 0) hcut) rfl ?_
    rintro _ h7 w I hl' hx
    exact ⟨_, hl', I, hx⟩
  refine OpsF.x_ (Φ := RepP ((g, k), 0)) RepP.mono (fun _ => runs_none _) ?_ ?_
  · intro _ w hl I u53 q53
    exact O.yx I (Y.move rfl) (q53 rfl)
  refine OpsF.x_ (Φ := SlS 4 Fct.enc g) SlS.mono (fun _ => runs_none _) ?_ ?_
  · intro _ w hl I u53 q53 u48 q48
    obtain ⟨s7, rfl, e7, i7⟩ := q48 rfl
    exact O.yx I (Y.extract rfl rfl) (⟨s7, rfl, e7, i7⟩)
  refine OpsF.d_ (v := .int .i64 k) (fun _ => runs_none _) ?_ ?_
  · intro _ w hl I u53 q53 u48 q48 u54 q54
    obtain ⟨s7, rfl, e7, i7⟩ := q48 rfl
    exact O.yd I (Y.extract rfl rfl) (rfl)
  refine OpsF.d_ (v := .int .i64 0) (fun _ => runs_none _) ?_ ?_
  · intro _ w hl I u53 q53 u48 q48 u54 q54
    obtain ⟨s7, rfl, e7, i7⟩ := q48 rfl
    exact O.yd I (Y.extract rfl rfl) (rfl)
  refine OpsF.x_ (Φ := SlS 4 Fct.enc g) SlS.mono (fun _ => runs_none _) ?_ ?_
  · intro _ w hl I u53 q53 u48 q48 u54 q54
    exact O.yx I (Y.assign rfl) (q54 rfl)
  refine OpsF.y_ (v := .int .i64 _) (fun _ => runs_none _) (fun _ w us hl I => Y.assign rfl) ?_
  refine OpsF.y_ (v := .int .i64 _) (fun _ => runs_none _) (fun _ w us hl I => Y.assign rfl) ?_
  refine OpsF.nil ?_
  intro _ w hl I u53 q53 u48 q48 u54 q54 u13 q13
  refine Ops.nil ?_
  obtain ⟨s7, rfl, e7, i7⟩ := q13 rfl

  have hp := hp.le hl
  have hm := hm.le hl
  have i1 := i1.le hl
  refine WP.seq ?_
  refine WP.region ?_
  refine Ops.y (v := .pointer (some ⟨_, _, none⟩)) (Y.fa0 fa_25_0 rfl) ?_
  refine Ops.y (v := .slice _ _ _) (Y.loadv ty_22 rfl (I.rdbox 0 rfl 0 1) rfl rfl) ?_
  refine Ops.y (v := .slice _ _ _) (Y.move rfl) ?_
  refine Ops.y (v := .slice _ _ _) (Y.move rfl) ?_
  refine Ops.go (O.callv I Tryz.call50 (Under_at _ I.base_ok p.preds hp.preds s7 m i7 hm (true, 0) (by rw [underOf_of (e7 ▸ g2) okm, e7, g3])) rfl ?_)
  intro w I
  refine Ops.y (v := .tuple #[_, _]) (Y.move rfl) ?_
  refine Ops.y (v := .bool _) (Y.extract rfl rfl) ?_
  refine Ops.y (v := .int .i64 _) (Y.extract rfl rfl) ?_
  refine Ops.y (v := .bool _) (Y.assign rfl) ?_
  refine Ops.y (v := .int .i64 _) (Y.assign rfl) ?_
  refine Ops.nil ?_
  refine WP.seq ?_
  refine WP.region ?_
  refine Ops.go (O.callv I Tryz.call24 (traceBegun_ok _ I.base_ok) rfl ?_)
  intro w I
  refine Ops.y (v := .bool _) (Y.move rfl) ?_
  refine Ops.ygt rfl (v := .int .i64 _) (Y.move rfl) ?_
  refine Ops.ygt rfl (v := .bool true) (Y.dec_t (Y.eqi rfl rfl) ((by rw [hall]))) ?_
  refine Ops.y (v := .bool _) (Y.pick_t rfl rfl) ?_
  refine Ops.y (v := .bool _) (Y.move rfl) ?_
  refine Ops.ygt rfl (v := .int .i64 _) (Y.move rfl) ?_
  refine Ops.ygt rfl (v := .bool true) (Y.dec_t (Y.eqi rfl rfl) (rfl)) ?_
  refine Ops.y (v := .bool _) (Y.pick_t rfl rfl) ?_
  refine Ops.y (v := .bool _) (Y.move rfl) ?_
  refine Ops.ygt rfl (v := .int .i64 _) (Y.move rfl) ?_
  refine Ops.ygt rfl (v := .bool true) (Y.dec_t (Y.eqi rfl rfl) (rfl)) ?_
  refine Ops.y (v := .bool _) (Y.pick_t rfl rfl) ?_
  refine Ops.y (v := .bool _) (Y.move rfl) ?_
  refine Ops.ygt rfl (v := .int .i64 _) (Y.move rfl) ?_
  refine Ops.ygt rfl (v := .bool true) (Y.dec_t (Y.eqi rfl rfl) (rfl)) ?_
  refine Ops.y (v := .bool _) (Y.pick_t rfl rfl) ?_
  refine Ops.y (v := .bool _) (Y.move rfl) ?_
  refine Ops.ygt rfl (v := .int .i64 _) (Y.move rfl) ?_
  refine Ops.ygt rfl (v := .slice _ _ _) (Y.move rfl) ?_
  refine Ops.ygt rfl (v := .int .i64 _) (Y.lens Tryz.underlying36 rfl) ?_
  refine Ops.ygt rfl (v := .bool true) (Y.dec_t (Y.eqi rfl rfl) ((by rw [hall]))) ?_
  refine Ops.y (v := .bool _) (Y.pick_t rfl rfl) ?_
  refine Ops.y (v := .bool _) (Y.move rfl) ?_
  refine Ops.ygt rfl (v := .int .i64 _) (Y.move rfl) ?_
  refine Ops.ygt rfl (v := .int .i64 _) (Y.move rfl) ?_
  refine Ops.ygt rfl (v := .bool true) (Y.dec_t (Y.eqi rfl rfl) (rfl)) ?_
  refine Ops.y (v := .bool _) (Y.pick_t rfl rfl) ?_
  refine Ops.y (v := .bool _) (Y.move rfl) ?_
  refine Ops.ygt rfl (v := .slice _ _ _) (Y.move rfl) ?_
  refine Ops.ygt rfl (v := .int .i64 _) (Y.lens Tryz.underlying36 rfl) ?_
  refine Ops.ygt rfl (v := .slice _ _ _) (Y.move rfl) ?_
  refine Ops.ygt rfl (v := .int .i64 _) (Y.lens Tryz.underlying26 rfl) ?_
  refine Ops.ygt rfl (v := .bool true) (Y.dec_t (Y.gei rfl rfl) ((by rw [e1]; omega))) ?_
  refine Ops.y (v := .bool _) (Y.pick_t rfl rfl) ?_
  refine Ops.y (v := .bool _) (Y.move rfl) ?_
  refine Ops.ygt rfl (v := .slice _ _ _) (Y.move rfl) ?_
  refine Ops.ygt rfl (v := .slice _ _ _) (Y.move rfl) ?_
  refine Ops.gt rfl (O.callv I Tryz.call21 (SameFacts_at _ I.base_ok s1 m i1 hm e1) rfl ?_)
  intro w I
  refine Ops.y (v := .bool _) (Y.pick_t rfl rfl) ?_
  refine Ops.y (v := .bool _) (Y.move rfl) ?_
  refine Ops.ygt rfl (v := .bool _) (Y.move rfl) ?_
  refine Ops.y (v := .bool _) (Y.pick_t rfl rfl) ?_
  refine Ops.y (v := .bool _) (Y.assign rfl) ?_
  refine Ops.nil ?_
  refine WP.ret ?_
  repeat (first | refine thenE_ret ?_ | refine blockE_ret ?_)
  exact retQ.mk (vs := [.bool _]) rfl ⟨rfl, trivial⟩ I.ext_of (rfl)
end Go.TF
end
