/- uses: the iterator; its contract. -/
import Derived.Test.YthgjilgghgkodaaTab
import Derived.Test.YthgjilgghgkodaaBase10
import Derived.Test.YthgjilgghgkodaaSpStrata
namespace Go.TF
open Go Go.RowKit Go.Proofs
set_option maxRecDepth 20000

/-- A program as it lies in a box that is never written again. -/
def PBox (h : Heap) (b : Nat) (p : Prg) : Prop := h b = some (.cells [p.preds.val, p.rules.val].toArray 54 (0, 0))
theorem uses_ok (B : Base) (hB : B.ok) (p : Prg) : Fn Try.prog 80 [p.val] B (fun v h' => ∃ b, v = .func (.func 94) #[] #[.pointer (some ⟨b, 0, none⟩)] ∧ PBox h' b p) := by
  refine Fn.of Try.func80 rfl Try.ntmps80 (by kernel_rfl) (by simp) ?_
  intro e
  have I := Inv.start hB
  refine WP.seq ?_
  refine WP.region ?_
  refine Ops.go (O.box (v := .agg #[_, _]) I rfl rfl ?_)
  intro b1 w I
  refine Ops.y (v := .nilFunc) (Y.assign rfl) ?_
  refine Ops.nil ?_
  refine WP.seq ?_
  refine WP.region ?_
  refine Ops.y (v := .func _ _ _) (Y.mkfunc rfl rfl) ?_
  refine Ops.y (v := .func _ _ _) (Y.assign rfl) ?_
  refine Ops.nil ?_
  have hb0 := I.at 0 rfl
  obtain ⟨h1, le1, hb, I⟩ := I.settle
  refine WP.ret ?_
  repeat (first | refine thenE_ret ?_ | refine blockE_ret ?_)
  exact retQ.mk (vs := [.func _ _ _]) rfl ⟨rfl, trivial⟩ I.ext_of (⟨b1, rfl, (hb b1 (by simp [box])).trans hb0⟩)
theorem usesL_take {rs : List Rul} {n : Nat} (hn : n < rs.length) : usesL (rs.take (n + 1)) = usesL (rs.take n) ++ rs[n].body.xs.map fun x => (rs[n].head.pred, x) := by
  rw [List.take_succ_eq_append_getElem hn]
  unfold usesL
  rw [List.flatMap_append]
  simp only [List.flatMap_cons, List.flatMap_nil, List.append_nil]
theorem usesL_split (rs : List Rul) (n : Nat) : usesL rs = usesL (rs.take n) ++ usesL (rs.drop n) := by
  have := congrArg usesL (List.take_append_drop n rs)
  unfold usesL at this ⊢
  rw [List.flatMap_append] at this
  exact this.symm
theorem usesL_get {rs : List Rul} {n : Nat} (hn : n < rs.length) {k : Nat} (hk : k < rs[n].body.xs.length) : (usesL rs)[(usesL (rs.take n)).length + k]? = some (rs[n].head.pred, rs[n].body.xs[k]) := by
  rw [usesL_split rs (n + 1), usesL_take hn, List.append_assoc, List.getElem?_append_right (by omega), List.getElem?_append_left (by simp; omega)]
  simp [hk]
def cEnc (c : Int × Ltl) : List Value := [.int .i64 c.1, c.2.val]
set_option maxHeartbeats 2000000 in
theorem uses1_iter (p : Prg) (bp : Nat) (h : Heap) (hb : PBox h bp p) (hr : Ruls p.rules h) : Iter Try.prog 94 [.pointer (some ⟨bp, 0, none⟩)] cEnc (usesL p.rules.xs) h := by
  intro l J Jx hg W hle j0 hok hext hround
  have hsm := hr.is.small
  refine Calls.ofWP (args := [.func (.yield l) #[] #[], .pointer (some ⟨bp, 0, none⟩)]) Try.func94 rfl Try.ntmps94 (by kernel_rfl) (by simp) ?_
  intro e
  have I := Inv.start (hok _ _ _ j0)
  refine WP.seq ?_
  refine WP.region ?_
  refine Ops.y (v := .pointer (some ⟨_, _, none⟩)) (Y.fa fa_54_1 rfl) ?_
  refine Ops.y (v := .slice _ _ _) (Y.loadv ty_52 rfl (I.rd ((rdHb hb 1 1).le hle)) rfl rfl) ?_
  refine Ops.y (v := .int .i64 _) (Y.lens Try.underlying52 rfl) ?_
  refine Ops.y (v := .int .i64 _) (Y.move rfl) ?_
  refine Ops.nil ?_
  refine WP.block ?_
  refine WP.loopE (σ := Nat) (fun n => [(0, .func (.yield l) #[] #[]), (1, .pointer (some ⟨bp, 0, none⟩)), (8, p.rules.val), (9, .int .i64 p.rules.xs.length), (10, .int .i64 n)])
    (fun n w => n ≤ p.rules.xs.length ∧ ∃ h1, hg.le h1 ∧ J h1 (usesL (p.rules.xs.take n)).length w) (fun n => p.rules.xs.length - n)
    ⟨0, ⟨rfl, rfl, rfl, rfl, rfl, trivial⟩, Nat.zero_le _, hg, Heap.le.refl _, j0⟩ ?_
  rintro n e w ⟨hn, h1, gl1, j1⟩
  have I := Inv.start (hok _ _ _ j1)
  refine WP.seq ?_
  refine WP.region ?_
  refine Ops.y (v := .bool (decide _)) (Y.lti rfl rfl) ?_
  refine Ops.nil ?_
  refine WP.seq ?_
  refine WP.cond_dec rfl (fun hc => ?_) (fun hc => ?_)
  · have hn' : n < p.rules.xs.length := by omega
    have E1 := (hr.is.le (hle.trans gl1)).at hn'
    have hbd := (hr.each _ (List.getElem_mem hn')).body.le (hle.trans gl1)
    have hbs := hbd.is.small
    refine WP.skip ?_
    refine WP.seq ?_
    refine WP.block ?_
    refine WP.seq ?_
    refine WP.region ?_
    refine Ops.y (v := .pointer (some ⟨_, _, none⟩)) (Y.idxEl E1 Try.underlying52 Try.sizeOf38 rfl rfl (Int.natCast_nonneg _) rfl) ?_
    refine Ops.y (v := .agg #[_, _, _, _, _]) (Y.loadv ty_38 rfl (I.rd (E1.rd.part 0 5)) rfl rfl) ?_
    refine Ops.go (O.alloc I Try.zeroValue38 rfl ?_)
    intro b4 w I
    refine Ops.go (O.store (v := .agg #[_, _, _, _, _]) I ty_38 0 rfl rfl rfl rfl rfl rfl (Nat.le_of_ble_eq_true rfl) rfl ?_)
    intro w I
    refine Ops.nil ?_
    refine WP.seq ?_
    refine WP.region ?_
    refine Ops.y (v := .pointer (some ⟨_, _, none⟩)) (Y.fa fa_38_3 rfl) ?_
    refine Ops.y (v := .slice _ _ _) (Y.loadv ty_36 rfl (I.rdbox 0 rfl 4 1) rfl rfl) ?_
    refine Ops.y (v := .int .i64 _) (Y.lens Try.underlying36 rfl) ?_
    refine Ops.y (v := .int .i64 _) (Y.move rfl) ?_
    refine Ops.nil ?_
    have hb4 := I.at 0 rfl
    obtain ⟨h2, le2, hh4, I⟩ := I.settle
    have hb4 := (hh4 b4 (by simp [box])).trans hb4
    refine WP.block ?_
    refine WP.loopE (σ := Nat) (fun k => [(0, .func (.yield l) #[] #[]), (1, .pointer (some ⟨bp, 0, none⟩)), (8, p.rules.val), (9, .int .i64 p.rules.xs.length), (10, .int .i64 n), (4, .pointer (some ⟨b4, 0, none⟩)), (15, p.rules.xs[n].body.val), (16, .int .i64 p.rules.xs[n].body.xs.length), (17, .int .i64 k)])
      (fun k w => k ≤ p.rules.xs[n].body.xs.length ∧ ∃ h3, h2.le h3 ∧ J h3 ((usesL (p.rules.xs.take n)).length + k) w) (fun k => p.rules.xs[n].body.xs.length - k)
      ⟨0, ⟨rfl, rfl, rfl, rfl, rfl, rfl, rfl, rfl, rfl, trivial⟩, Nat.zero_le _, h2, Heap.le.refl _, hext _ _ _ _ _ j1 I⟩ ?_
    rintro k e w ⟨hk, h3, gl3, j3⟩
    have I := Inv.start (hok _ _ _ j3)
    refine WP.seq ?_
    refine WP.region ?_
    refine Ops.y (v := .bool (decide _)) (Y.lti rfl rfl) ?_
    refine Ops.nil ?_
    refine WP.seq ?_
    refine WP.cond_dec rfl (fun hd => ?_) (fun hd => ?_)
    · have hk' : k < p.rules.xs[n].body.xs.length := by omega
      have E2 := (hbd.is.le (le2.trans gl3)).at hk'
      refine WP.skip ?_
      refine WP.seq ?_
      refine WP.block ?_
      refine WP.seq ?_
      refine WP.region ?_
      refine Ops.y (v := .pointer (some ⟨_, _, none⟩)) (Y.idxEl E2 Try.underlying36 Try.sizeOf71 rfl rfl (Int.natCast_nonneg _) rfl) ?_
      refine Ops.y (v := .agg #[_, _, _]) (Y.loadv ty_71 rfl (I.rd (E2.rd.part 0 3)) rfl rfl) ?_
      refine Ops.go (O.alloc I Try.zeroValue71 rfl ?_)
      intro b6 w I
      refine Ops.go (O.store (v := .agg #[_, _, _]) I ty_71 0 rfl rfl rfl rfl rfl rfl (Nat.le_of_ble_eq_true rfl) rfl ?_)
      intro w I
      refine Ops.nil ?_
      refine WP.seq ?_
      refine WP.regionX (by kernel_rfl) ?_
      refine OpsX.y (v := .func _ _ _) (Y.move rfl) ?_
      refine OpsX.y (v := .pointer (some ⟨_, _, none⟩)) (Y.fa0 fa_38_0 rfl) ?_
      refine OpsX.y (v := .pointer (some ⟨_, _, none⟩)) (Y.fa0 fa_35_0 rfl) ?_
      refine OpsX.y (v := .int .i64 _) (Y.loadv ty_3 rfl (I.rd ((rdHb hb4 0 1).le gl3)) rfl rfl) ?_
      refine OpsX.y (v := .agg #[_, _, _]) (Y.loadv ty_71 rfl (I.rdbox 0 rfl 0 3) rfl rfl) ?_
      refine OpsX.yield rfl rfl (hround h3 _ _ _ (gl1.trans (le2.trans gl3)) (usesL_get hn' hk') (hext _ _ _ _ _ j3 I.ext_of)) ?_
      rintro ed w (⟨rfl, h4, gl4, j4⟩ | ⟨rfl, jx⟩)
      · refine ⟨_, rfl, ?_⟩
        refine OpsX.y (v := .bool _) (Y.not rfl) ?_
        refine OpsX.nil ?_
        refine WP.cond_f rfl ?_
        refine WP.skip ?_
        refine WP.region ?_
        refine Ops.y (v := .int .i64 _) (Y.addi rfl rfl ⟨by omega, by omega⟩) ?_
        refine Ops.y (v := .int .i64 _) (Y.move rfl) ?_
        refine Ops.nil ?_
        exact ⟨k + 1, ⟨⟨rfl, rfl, rfl, rfl, rfl, rfl, rfl, rfl, rfl, trivial⟩, by omega, h4, gl3.trans gl4, j4⟩, by omega⟩
      · refine ⟨_, rfl, ?_⟩
        refine OpsX.y (v := .bool _) (Y.not rfl) ?_
        refine OpsX.nil ?_
        refine WP.cond_t rfl ?_
        refine WP.ret ?_
        repeat (first | refine thenE_ret ?_ | refine blockE_ret ?_)
        exact ⟨.inl rfl, [], trivial, ⟨_, rfl⟩, .inr jx⟩
    refine WP.exit ?_
    refine WP.region ?_
    refine Ops.y (v := .int .i64 _) (Y.addi rfl rfl ⟨by omega, by omega⟩) ?_
    refine Ops.y (v := .int .i64 _) (Y.move rfl) ?_
    refine Ops.nil ?_
    have hk2 : k = p.rules.xs[n].body.xs.length := by omega
    exact ⟨n + 1, ⟨⟨rfl, rfl, rfl, rfl, rfl, trivial⟩, by omega, h3, gl1.trans (le2.trans gl3), by rw [usesL_take hn', List.length_append, List.length_map, ← hk2]; exact j3⟩, by omega⟩
  refine WP.exit ?_
  have hn2 : n = p.rules.xs.length := by omega
  rw [hn2, List.take_length] at j1
  exact ⟨.inr rfl, [], trivial, ⟨_, rfl⟩, .inl ⟨h1, gl1, j1⟩⟩
end Go.TF
