/- Strata, StrataOf, NeedsOf. -/
import Derived.Test.YthgjilgghgkodaaProg7
namespace Go.TF
open Go Go.RowKit Go.Proofs
set_option maxRecDepth 20000

def StrP (p : Prg) (v : Value) (h : Heap) : Prop :=
  (checkProg p ≠ 0 ∧ v = .tuple #[.slice none 0 0, .int .i64 (checkProg p)]) ∨ (checkProg p = 0 ∧ ∃ s : Sl Int, Least (usesL p.rules.xs) p.preds.xs.length s.xs ∧ s.Is 1 iEnc h ∧ v = .tuple #[s.val, .int .i64 0])
theorem heads_in {p : Prg} (h : rulesErr p.preds.xs p.rules.xs = 0) : ∀ r ∈ p.rules.xs, 0 ≤ r.head.pred ∧ r.head.pred < p.preds.xs.length := fun r hr => checkAtom_in' (checkRule_ok (rulesErr_zero.1 h r hr)).1
theorem Strata_ok (B : Base) (hB : B.ok) (p : Prg) (hp : p.In B.h) (hnm : p.Nm) : Fn Try.prog 37 [p.val] B (fun v h => StrP p v h) := by
  refine Fn.of Try.func37 rfl Try.ntmps37 (by kernel_rfl) (by simp) ?_
  intro e
  have I := Inv.start hB
  refine WP.seq ?_
  refine WP.region ?_
  refine Ops.go (O.box (v := .agg #[_, _]) I rfl rfl ?_)
  intro b1 w I
  refine Ops.y (v := .slice _ _ _) (Y.assign rfl) ?_
  refine Ops.y (v := .int .i64 _) (Y.assign rfl) ?_
  refine Ops.nil ?_
  refine WP.seq ?_
  refine WP.seq ?_
  refine WP.region ?_
  refine Ops.y (v := .agg #[_, _]) (Y.loadv ty_54 rfl (I.rdbox 0 rfl 0 2) rfl rfl) ?_
  refine Ops.go (O.callv I Try.call33 (PCheck_ok _ I.base_ok p hp hnm) rfl ?_)
  intro w I
  refine Ops.y (v := .int .i64 _) (Y.assign rfl) ?_
  refine Ops.nil ?_
  refine WP.seq ?_
  refine WP.region ?_
  refine Ops.y (v := .int .i64 _) (Y.move rfl) ?_
  refine Ops.y (v := .bool (decide _)) (Y.nei rfl rfl) ?_
  refine Ops.nil ?_
  refine WP.cond_dec rfl (fun h => ?_) (fun h => ?_)
  · refine WP.seq ?_
    refine WP.region ?_
    refine Ops.y (v := .int .i64 _) (Y.move rfl) ?_
    refine Ops.y (v := .slice _ _ _) (Y.assign rfl) ?_
    refine Ops.y (v := .int .i64 _) (Y.assign rfl) ?_
    refine Ops.nil ?_
    refine WP.ret ?_
    repeat (first | refine thenE_ret ?_ | refine blockE_ret ?_)
    exact retQ.mk (vs := [.slice _ _ _, .int .i64 _]) rfl ⟨rfl, rfl, trivial⟩ I.ext_of (.inl ⟨h, rfl⟩)
  have h0 := Decidable.not_not.1 h
  obtain ⟨k1, k2, k3, M, hM⟩ := checkProg_ok h0
  refine WP.skip ?_
  refine WP.seq ?_
  refine WP.region ?_
  refine Ops.y (v := .agg #[_, _]) (Y.loadv ty_54 rfl (I.rdbox 0 rfl 0 2) rfl rfl) ?_
  refine Ops.go (O.call I Try.call76 (Levels_ok _ I.base_ok p hp (inR_of k3) k1) rfl ?_)
  rintro v14 h3 w I le3 hL
  rcases hL with ⟨s, hS, hI, rfl⟩ | ⟨hno, rfl⟩
  rotate_left
  exact absurd hM (hno M)
  refine Ops.y (v := .tuple #[_, _]) (Y.move rfl) ?_
  refine Ops.y (v := .slice _ _ _) (Y.extract rfl rfl) ?_
  refine Ops.y (v := .bool _) (Y.extract rfl rfl) ?_
  refine Ops.y (v := .slice _ _ _) (Y.assign rfl) ?_
  refine Ops.y (v := .bool _) (Y.assign rfl) ?_
  refine Ops.nil ?_
  refine WP.seq ?_
  refine WP.region ?_
  refine Ops.y (v := .slice _ _ _) (Y.move rfl) ?_
  refine Ops.y (v := .slice _ _ _) (Y.assign rfl) ?_
  refine Ops.y (v := .int .i64 _) (Y.assign rfl) ?_
  refine Ops.nil ?_
  refine WP.ret ?_
  repeat (first | refine thenE_ret ?_ | refine blockE_ret ?_)
  exact retQ.mk (vs := [.slice _ _ _, .int .i64 _]) rfl ⟨rfl, rfl, trivial⟩ I.ext_of (.inr ⟨h0, s, hS, hI, rfl⟩)
theorem StrataOf_ok (B : Base) (hB : B.ok) (p : Prg) (hp : p.In B.h) (h0 : checkProg p = 0) : Fn Try.prog 39 [p.val] B (fun v h => ∃ s : Sl Int, Least (usesL p.rules.xs) p.preds.xs.length s.xs ∧ s.Is 1 iEnc h ∧ v = s.val) := by
  obtain ⟨k1, k2, k3, M, hM⟩ := checkProg_ok h0
  refine Fn.of Try.func39 rfl Try.ntmps39 (by kernel_rfl) (by simp) ?_
  intro e
  have I := Inv.start hB
  refine WP.seq ?_
  refine WP.region ?_
  refine Ops.go (O.box (v := .agg #[_, _]) I rfl rfl ?_)
  intro b1 w I
  refine Ops.y (v := .slice _ _ _) (Y.assign rfl) ?_
  refine Ops.nil ?_
  refine WP.seq ?_
  refine WP.region ?_
  refine Ops.y (v := .agg #[_, _]) (Y.loadv ty_54 rfl (I.rdbox 0 rfl 0 2) rfl rfl) ?_
  refine Ops.go (O.call I Try.call77 (strata_ok _ I.base_ok p hp (inR_of k3) k1 k2 (fun r hr => (checkRule_ok (rulesErr_zero.1 k3 r hr)).2.1)) rfl ?_)
  rintro v14 h3 w I le3 hL
  rcases hL with ⟨s, hS, hI, rfl⟩ | ⟨hno, rfl⟩
  rotate_left
  exact absurd hM (hno M)
  refine Ops.y (v := .tuple #[_, _]) (Y.move rfl) ?_
  refine Ops.y (v := .slice _ _ _) (Y.extract rfl rfl) ?_
  refine Ops.y (v := .bool _) (Y.extract rfl rfl) ?_
  refine Ops.y (v := .slice _ _ _) (Y.assign rfl) ?_
  refine Ops.y (v := .bool _) (Y.assign rfl) ?_
  refine Ops.nil ?_
  refine WP.seq ?_
  refine WP.region ?_
  refine Ops.y (v := .slice _ _ _) (Y.move rfl) ?_
  refine Ops.y (v := .slice _ _ _) (Y.assign rfl) ?_
  refine Ops.nil ?_
  refine WP.ret ?_
  repeat (first | refine thenE_ret ?_ | refine blockE_ret ?_)
  exact retQ.mk (vs := [.slice _ _ _]) rfl ⟨rfl, trivial⟩ I.ext_of (⟨s, hS, hI, rfl⟩)
theorem boxIsB {b : Nat} {L : List Bool} {T : TypeId} {h : Heap} {c : Nat} (hb : h b = some (.cells (L.map vB).toArray T (0, 0))) (hs : L.length ≤ 140737488355328) : (⟨some ⟨b, 0, none⟩, c, L⟩ : Sl Bool).Is 1 bEnc h :=
  ⟨fun i x hx => ⟨rfl, fun j v hv => by
    cases j with
    | zero => simp at hv; subst hv; simp only [Heap.cell, Sl.blk, Sl.off, Option.getD_some, hb]; simp [hx]
    | succ j => simp at hv⟩, hs⟩
theorem bv_some {L : List Bool} {n : Nat} (hl : L.length = n) {i : Int} (h0 : 0 ≤ i) (h1 : i < n) : L[i.toNat]? = some (bv L i) := by
  have : i.toNat < L.length := by omega
  simp [bv, List.getD_eq_getElem?_getD, this]
set_option maxHeartbeats 4000000 in
theorem NeedsOf_ok (B : Base) (hB : B.ok) (p : Prg) (hp : p.In B.h) (pr : Int) (h0 : checkProg p = 0) (q0 : 0 ≤ pr) (q1 : pr < p.preds.xs.length) :
    Fn Try.prog 40 [p.val, .int .i64 pr] B (fun v h => ∃ s : Sl Bool, NeedsR (usesL p.rules.xs) p.preds.xs.length pr s.xs ∧ s.Is 1 bEnc h ∧ v = s.val) := by
  obtain ⟨k1, k2, k3, M, hM⟩ := checkProg_ok h0
  have hr := inR_of k3
  refine Fn.of Try.func40 rfl Try.ntmps40 (by kernel_rfl) (by simp) ?_
  intro e
  have I := Inv.start hB
  refine WP.seq ?_
  refine WP.region ?_
  refine Ops.go (O.box (v := .agg #[_, _]) I rfl rfl ?_)
  intro b2 w I
  refine Ops.y (v := .slice _ _ _) (Y.assign rfl) ?_
  refine Ops.nil ?_
  refine WP.seq ?_
  refine WP.region ?_
  refine Ops.y (v := .pointer (some ⟨_, _, none⟩)) (Y.fa0 fa_54_0 rfl) ?_
  refine Ops.y (v := .slice _ _ _) (Y.loadv ty_32 rfl (I.rdbox 0 rfl 0 1) rfl rfl) ?_
  refine Ops.y (v := .int .i64 _) (Y.lens Try.underlying32 rfl) ?_
  refine Ops.go (O.make1 (n := p.preds.xs.length) (zc := (vB false)) I Try.underlying61 et_4 rfl rfl rfl (by omega) (by omega) ?_)
  intro b12 w I
  refine Ops.y (v := .slice _ _ _) (Y.assign rfl) ?_
  refine Ops.nil ?_
  rw [← List.map_replicate (f := vB)] at I
  refine WP.seq ?_
  refine WP.region ?_
  refine Ops.y (v := .slice _ _ _) (Y.move rfl) ?_
  refine Ops.y (v := .int .i64 _) (Y.move rfl) ?_
  refine Ops.y (v := .pointer (some ⟨_, _, none⟩)) (Y.idx Try.underlying61 Try.sizeOf4 rfl rfl q0 q1) ?_
  refine Ops.go (O.store1 I ty_4 0 rfl rfl (i := pr.toNat) (v := true) (by omega) (by simp; omega) rfl rfl rfl ?_)
  intro w I
  refine Ops.nil ?_
  refine WP.seq ?_
  refine WP.seq ?_
  refine WP.region ?_
  refine Ops.y (v := .int .i64 _) (Y.assign rfl) ?_
  refine Ops.nil ?_
  have hst : ∀ i : Int, 0 ≤ i → i < p.preds.xs.length → bv ((List.replicate p.preds.xs.length false).set pr.toNat true) i = true → Reach (usesL p.rules.xs) pr i := fun i i0 i1 h => by
    rw [bv_set q0 (by simpa using q1) _ _ i0] at h
    split at h
    · rename_i e; rw [e]; exact .refl
    · rw [bv_none] at h; cases h
  refine WP.block ?_
  refine WP.loopE (σ := Nat × List Bool) (fun s => [(2, .pointer (some ⟨b2, 0, none⟩)), (5, .slice (some ⟨b12, 0, none⟩) p.preds.xs.length p.preds.xs.length), (6, .int .i64 s.1)])
    (fun s w => Inv B B.h [box b12 (s.2.map vB) 4, box b2 p.enc 54] w ∧ s.1 ≤ p.preds.xs.length ∧ s.2.length = p.preds.xs.length ∧ (∀ i : Int, 0 ≤ i → i < p.preds.xs.length → bv s.2 i = true → Reach (usesL p.rules.xs) pr i) ∧ bv s.2 pr = true ∧ (ClosedN (usesL p.rules.xs) s.2 ∨ s.1 + 1 ≤ trues s.2))
    (fun s => p.preds.xs.length - s.1) ⟨(0, (List.replicate p.preds.xs.length false).set pr.toNat true), ⟨rfl, rfl, rfl, trivial⟩, I, Nat.zero_le _, by simp, hst, by rw [bv_set q0 (by simpa using q1) _ _ q0, if_pos rfl], .inr (by rw [trues_set _ _ (by simp; omega) (by simp), trues_none]; omega)⟩ ?_
  rintro ⟨rd, N⟩ e w ⟨I, hrd, hlen, hsnd, hhas, hor⟩
  dsimp only at I hrd hlen hsnd hhas hor ⊢
  refine WP.seq ?_
  refine WP.seq ?_
  refine WP.region ?_
  refine Ops.y (v := .int .i64 _) (Y.move rfl) ?_
  refine Ops.y (v := .pointer (some ⟨_, _, none⟩)) (Y.fa0 fa_54_0 rfl) ?_
  refine Ops.y (v := .slice _ _ _) (Y.loadv ty_32 rfl (I.rdbox 1 rfl 0 1) rfl rfl) ?_
  refine Ops.y (v := .int .i64 _) (Y.lens Try.underlying32 rfl) ?_
  refine Ops.y (v := .bool (decide _)) (Y.lti rfl rfl) ?_
  refine Ops.nil ?_
  refine WP.cond_dec rfl (fun h4 => ?_) (fun h4 => ?_)
  · refine WP.skip ?_
    refine WP.seq ?_
    refine WP.block ?_
    refine WP.seq ?_
    refine WP.region ?_
    refine Ops.y (v := .int .i64 _) (Y.assign rfl) ?_
    refine Ops.nil ?_
    refine WP.block ?_
    refine WP.loopE (σ := Nat × List Bool) (fun s => [(2, .pointer (some ⟨b2, 0, none⟩)), (5, .slice (some ⟨b12, 0, none⟩) p.preds.xs.length p.preds.xs.length), (6, .int .i64 rd), (7, .int .i64 s.1)])
      (fun s w => Inv B B.h [box b12 (s.2.map vB) 4, box b2 p.enc 54] w ∧ s.1 ≤ p.rules.xs.length ∧ PassN (usesL p.rules.xs) p.preds.xs.length pr N s.2 (usesL (p.rules.xs.take s.1)))
      (fun s => p.rules.xs.length - s.1) ⟨(0, N), ⟨rfl, rfl, rfl, rfl, trivial⟩, I, Nat.zero_le _, hlen, hsnd, hhas, .inl ⟨rfl, fun c hc => by simp [usesL] at hc⟩, fun _ => rfl⟩ ?_
    rintro ⟨m, N1⟩ e w ⟨I, hm, pa⟩
    dsimp only at I hm pa ⊢
    refine WP.seq ?_
    refine WP.seq ?_
    refine WP.region ?_
    refine Ops.y (v := .int .i64 _) (Y.move rfl) ?_
    refine Ops.y (v := .pointer (some ⟨_, _, none⟩)) (Y.fa fa_54_1 rfl) ?_
    refine Ops.y (v := .slice _ _ _) (Y.loadv ty_52 rfl (I.rdbox 1 rfl 1 1) rfl rfl) ?_
    refine Ops.y (v := .int .i64 _) (Y.lens Try.underlying52 rfl) ?_
    refine Ops.y (v := .bool (decide _)) (Y.lti rfl rfl) ?_
    refine Ops.nil ?_
    refine WP.cond_dec rfl (fun h7 => ?_) (fun h7 => ?_)
    · have hm' : m < p.rules.xs.length := by omega
      have E1 := hp.rules.is.at hm'
      have hh := heads_in k3 _ (List.getElem_mem hm')
      have hbd2 := (hp.rules.each _ (List.getElem_mem hm')).body
      have hbs := hbd2.is.small
      refine WP.skip ?_
      refine WP.seq ?_
      refine WP.block ?_
      refine WP.seq ?_
      refine WP.region ?_
      refine Ops.y (v := .int .i64 _) (Y.assign rfl) ?_
      refine Ops.nil ?_
      refine WP.block ?_
      refine WP.loopE (σ := Nat × List Bool) (fun s => [(2, .pointer (some ⟨b2, 0, none⟩)), (5, .slice (some ⟨b12, 0, none⟩) p.preds.xs.length p.preds.xs.length), (6, .int .i64 rd), (7, .int .i64 m), (8, .int .i64 s.1)])
        (fun s w => Inv B B.h [box b12 (s.2.map vB) 4, box b2 p.enc 54] w ∧ s.1 ≤ p.rules.xs[m].body.xs.length ∧ PassN (usesL p.rules.xs) p.preds.xs.length pr N s.2 (usesL (p.rules.xs.take m) ++ (p.rules.xs[m].body.xs.take s.1).map fun x => (p.rules.xs[m].head.pred, x)))
        (fun s => p.rules.xs[m].body.xs.length - s.1) ⟨(0, N1), ⟨rfl, rfl, rfl, rfl, rfl, trivial⟩, I, Nat.zero_le _, by simpa using pa⟩ ?_
      rintro ⟨k, N2⟩ e w ⟨I, hk, pa2⟩
      dsimp only at I hk pa2 ⊢
      by_cases hkl : (k : Int) < p.rules.xs[m].body.xs.length
      · have hk' : k < p.rules.xs[m].body.xs.length := by omega
        have E2 := hbd2.is.at hk'
        have hmem := usesL_mem hm' hk'
        have hb := hr.b _ hmem
        dsimp only at hb
        cases hhd : bv N2 p.rules.xs[m].head.pred
        · refine WP.seq ?_
          refine WP.seq ?_
          refine WP.region ?_
          refine Ops.y (v := .int .i64 _) (Y.move rfl) ?_
          refine Ops.y (v := .pointer (some ⟨_, _, none⟩)) (Y.fa fa_54_1 rfl) ?_
          refine Ops.y (v := .slice _ _ _) (Y.loadv ty_52 rfl (I.rdbox 1 rfl 1 1) rfl rfl) ?_
          refine Ops.y (v := .int .i64 _) (Y.move rfl) ?_
          refine Ops.y (v := .pointer (some ⟨_, _, none⟩)) (Y.idxEl E1 Try.underlying52 Try.sizeOf38 rfl rfl (Int.natCast_nonneg _) rfl) ?_
          refine Ops.y (v := .pointer (some ⟨_, _, none⟩)) (Y.fa fa_38_3 rfl) ?_
          refine Ops.y (v := .slice _ _ _) (Y.loadv ty_36 rfl (I.rd (E1.rd.part 4 1)) rfl rfl) ?_
          refine Ops.y (v := .int .i64 _) (Y.lens Try.underlying36 rfl) ?_
          refine Ops.y (v := .bool true) (Y.dec_t (Y.lti rfl rfl) (hkl)) ?_
          refine Ops.y (v := .bool _) (Y.move rfl) ?_
          refine Ops.ygt rfl (v := .slice _ _ _) (Y.move rfl) ?_
          refine Ops.ygt rfl (v := .pointer (some ⟨_, _, none⟩)) (Y.fa fa_54_1 rfl) ?_
          refine Ops.ygt rfl (v := .slice _ _ _) (Y.loadv ty_52 rfl (I.rdbox 1 rfl 1 1) rfl rfl) ?_
          refine Ops.ygt rfl (v := .int .i64 _) (Y.move rfl) ?_
          refine Ops.ygt rfl (v := .pointer (some ⟨_, _, none⟩)) (Y.idxEl E1 Try.underlying52 Try.sizeOf38 rfl rfl (Int.natCast_nonneg _) rfl) ?_
          refine Ops.ygt rfl (v := .pointer (some ⟨_, _, none⟩)) (Y.fa0 fa_38_0 rfl) ?_
          refine Ops.ygt rfl (v := .pointer (some ⟨_, _, none⟩)) (Y.fa0 fa_35_0 rfl) ?_
          refine Ops.ygt rfl (v := .int .i64 _) (Y.loadv ty_3 rfl (I.rd (E1.rd.part 0 1)) rfl rfl) ?_
          refine Ops.ygt rfl (v := .pointer (some ⟨_, _, none⟩)) (Y.idx Try.underlying61 Try.sizeOf4 rfl rfl hh.1 hh.2) ?_
          refine Ops.ygt rfl (v := .bool false) (Y.b (Y.loadv ty_4 rfl (I.rdL 0 rfl (by omega) (bv_some pa2.len hh.1 hh.2)) rfl rfl) (hhd)) ?_
          refine Ops.y (v := .bool _) (Y.pick_t rfl rfl) ?_
          refine Ops.nil ?_
          refine WP.cond_f rfl ?_
          refine WP.exit ?_
          refine WP.region ?_
          refine Ops.y (v := .int .i64 _) (Y.move rfl) ?_
          refine Ops.y (v := .int .i64 _) (Y.addi rfl rfl ⟨by omega, by omega⟩) ?_
          refine Ops.y (v := .int .i64 _) (Y.assign rfl) ?_
          refine Ops.nil ?_
          refine ⟨(m + 1, N2), ⟨⟨rfl, rfl, rfl, rfl, trivial⟩, I, hm', ?_⟩, by dsimp only; omega⟩
          dsimp only
          rw [usesL_take hm', ← List.take_append_drop k p.rules.xs[m].body.xs, List.map_append, ← List.append_assoc]
          refine PassN.skip (by simpa using pa2) fun c hc => ?_
          obtain ⟨x, _, rfl⟩ := List.mem_map.1 hc
          exact hhd
        · refine WP.seq ?_
          refine WP.seq ?_
          refine WP.region ?_
          refine Ops.y (v := .int .i64 _) (Y.move rfl) ?_
          refine Ops.y (v := .pointer (some ⟨_, _, none⟩)) (Y.fa fa_54_1 rfl) ?_
          refine Ops.y (v := .slice _ _ _) (Y.loadv ty_52 rfl (I.rdbox 1 rfl 1 1) rfl rfl) ?_
          refine Ops.y (v := .int .i64 _) (Y.move rfl) ?_
          refine Ops.y (v := .pointer (some ⟨_, _, none⟩)) (Y.idxEl E1 Try.underlying52 Try.sizeOf38 rfl rfl (Int.natCast_nonneg _) rfl) ?_
          refine Ops.y (v := .pointer (some ⟨_, _, none⟩)) (Y.fa fa_38_3 rfl) ?_
          refine Ops.y (v := .slice _ _ _) (Y.loadv ty_36 rfl (I.rd (E1.rd.part 4 1)) rfl rfl) ?_
          refine Ops.y (v := .int .i64 _) (Y.lens Try.underlying36 rfl) ?_
          refine Ops.y (v := .bool true) (Y.dec_t (Y.lti rfl rfl) (hkl)) ?_
          refine Ops.y (v := .bool _) (Y.move rfl) ?_
          refine Ops.ygt rfl (v := .slice _ _ _) (Y.move rfl) ?_
          refine Ops.ygt rfl (v := .pointer (some ⟨_, _, none⟩)) (Y.fa fa_54_1 rfl) ?_
          refine Ops.ygt rfl (v := .slice _ _ _) (Y.loadv ty_52 rfl (I.rdbox 1 rfl 1 1) rfl rfl) ?_
          refine Ops.ygt rfl (v := .int .i64 _) (Y.move rfl) ?_
          refine Ops.ygt rfl (v := .pointer (some ⟨_, _, none⟩)) (Y.idxEl E1 Try.underlying52 Try.sizeOf38 rfl rfl (Int.natCast_nonneg _) rfl) ?_
          refine Ops.ygt rfl (v := .pointer (some ⟨_, _, none⟩)) (Y.fa0 fa_38_0 rfl) ?_
          refine Ops.ygt rfl (v := .pointer (some ⟨_, _, none⟩)) (Y.fa0 fa_35_0 rfl) ?_
          refine Ops.ygt rfl (v := .int .i64 _) (Y.loadv ty_3 rfl (I.rd (E1.rd.part 0 1)) rfl rfl) ?_
          refine Ops.ygt rfl (v := .pointer (some ⟨_, _, none⟩)) (Y.idx Try.underlying61 Try.sizeOf4 rfl rfl hh.1 hh.2) ?_
          refine Ops.ygt rfl (v := .bool true) (Y.b (Y.loadv ty_4 rfl (I.rdL 0 rfl (by omega) (bv_some pa2.len hh.1 hh.2)) rfl rfl) (hhd)) ?_
          refine Ops.y (v := .bool _) (Y.pick_t rfl rfl) ?_
          refine Ops.nil ?_
          refine WP.cond_t rfl ?_
          refine WP.skip ?_
          refine WP.seq ?_
          refine WP.block ?_
          refine WP.region ?_
          refine Ops.y (v := .slice _ _ _) (Y.move rfl) ?_
          refine Ops.y (v := .pointer (some ⟨_, _, none⟩)) (Y.fa fa_54_1 rfl) ?_
          refine Ops.y (v := .slice _ _ _) (Y.loadv ty_52 rfl (I.rdbox 1 rfl 1 1) rfl rfl) ?_
          refine Ops.y (v := .int .i64 _) (Y.move rfl) ?_
          refine Ops.y (v := .pointer (some ⟨_, _, none⟩)) (Y.idxEl E1 Try.underlying52 Try.sizeOf38 rfl rfl (Int.natCast_nonneg _) rfl) ?_
          refine Ops.y (v := .pointer (some ⟨_, _, none⟩)) (Y.fa fa_38_3 rfl) ?_
          refine Ops.y (v := .slice _ _ _) (Y.loadv ty_36 rfl (I.rd (E1.rd.part 4 1)) rfl rfl) ?_
          refine Ops.y (v := .int .i64 _) (Y.move rfl) ?_
          refine Ops.y (v := .pointer (some ⟨_, _, none⟩)) (Y.idxEl E2 Try.underlying36 Try.sizeOf71 rfl rfl (Int.natCast_nonneg _) rfl) ?_
          refine Ops.y (v := .pointer (some ⟨_, _, none⟩)) (Y.fa fa_71_1 rfl) ?_
          refine Ops.y (v := .pointer (some ⟨_, _, none⟩)) (Y.fa0 fa_35_0 rfl) ?_
          refine Ops.y (v := .int .i64 _) (Y.loadv ty_3 rfl (I.rd (E2.rd.part 1 1)) rfl rfl) ?_
          refine Ops.y (v := .pointer (some ⟨_, _, none⟩)) (Y.idx Try.underlying61 Try.sizeOf4 rfl rfl hb.1 hb.2) ?_
          refine Ops.go (O.store1 I ty_4 0 rfl rfl (i := p.rules.xs[m].body.xs[k].atom.pred.toNat) (v := true) (by omega) (by rw [pa2.len]; omega) rfl rfl rfl ?_)
          intro w I
          refine Ops.nil ?_
          refine WP.region ?_
          refine Ops.y (v := .int .i64 _) (Y.move rfl) ?_
          refine Ops.y (v := .int .i64 _) (Y.addi rfl rfl ⟨by omega, by omega⟩) ?_
          refine Ops.y (v := .int .i64 _) (Y.assign rfl) ?_
          refine Ops.nil ?_
          exact ⟨(k + 1, N2.set p.rules.xs[m].body.xs[k].atom.pred.toNat true), ⟨⟨rfl, rfl, rfl, rfl, rfl, trivial⟩, I, hk', by rw [map_take _ hk', ← List.append_assoc]; exact pa2.put hr q0 hmem hhd⟩, by dsimp only; omega⟩
      · refine WP.seq ?_
        refine WP.seq ?_
        refine WP.region ?_
        refine Ops.y (v := .int .i64 _) (Y.move rfl) ?_
        refine Ops.y (v := .pointer (some ⟨_, _, none⟩)) (Y.fa fa_54_1 rfl) ?_
        refine Ops.y (v := .slice _ _ _) (Y.loadv ty_52 rfl (I.rdbox 1 rfl 1 1) rfl rfl) ?_
        refine Ops.y (v := .int .i64 _) (Y.move rfl) ?_
        refine Ops.y (v := .pointer (some ⟨_, _, none⟩)) (Y.idxEl E1 Try.underlying52 Try.sizeOf38 rfl rfl (Int.natCast_nonneg _) rfl) ?_
        refine Ops.y (v := .pointer (some ⟨_, _, none⟩)) (Y.fa fa_38_3 rfl) ?_
        refine Ops.y (v := .slice _ _ _) (Y.loadv ty_36 rfl (I.rd (E1.rd.part 4 1)) rfl rfl) ?_
        refine Ops.y (v := .int .i64 _) (Y.lens Try.underlying36 rfl) ?_
        refine Ops.y (v := .bool false) (Y.dec_f (Y.lti rfl rfl) (hkl)) ?_
        refine Ops.y (v := .bool _) (Y.move rfl) ?_
        refine Ops.gf rfl ?_
        refine Ops.gf rfl ?_
        refine Ops.gf rfl ?_
        refine Ops.gf rfl ?_
        refine Ops.gf rfl ?_
        refine Ops.gf rfl ?_
        refine Ops.gf rfl ?_
        refine Ops.gf rfl ?_
        refine Ops.gf rfl ?_
        refine Ops.gf rfl ?_
        refine Ops.y (v := .bool _) (Y.pick_f rfl rfl) ?_
        refine Ops.nil ?_
        refine WP.cond_f rfl ?_
        refine WP.exit ?_
        refine WP.region ?_
        refine Ops.y (v := .int .i64 _) (Y.move rfl) ?_
        refine Ops.y (v := .int .i64 _) (Y.addi rfl rfl ⟨by omega, by omega⟩) ?_
        refine Ops.y (v := .int .i64 _) (Y.assign rfl) ?_
        refine Ops.nil ?_
        have hke : k = p.rules.xs[m].body.xs.length := by omega
        exact ⟨(m + 1, N2), ⟨⟨rfl, rfl, rfl, rfl, trivial⟩, I, hm', by rw [usesL_take' hm', ← hke]; exact pa2⟩, by dsimp only; omega⟩
    · have hme : m = p.rules.xs.length := by omega
      rw [hme, List.take_length] at pa
      refine WP.exit ?_
      refine WP.region ?_
      refine Ops.y (v := .int .i64 _) (Y.move rfl) ?_
      refine Ops.y (v := .int .i64 _) (Y.addi rfl rfl ⟨by omega, by omega⟩) ?_
      refine Ops.y (v := .int .i64 _) (Y.assign rfl) ?_
      refine Ops.nil ?_
      refine ⟨(rd + 1, N1), ⟨⟨rfl, rfl, rfl, trivial⟩, I, by dsimp only; omega, pa.len, pa.snd, pa.has, ?_⟩, by dsimp only; omega⟩
      dsimp only
      rcases pa.or with ⟨e, hs⟩ | h
      · exact .inl (by rw [e]; exact hs)
      · rcases hor with hc | ht
        · have := pa.closed hc; subst this; omega
        · exact .inr (by omega)
  · have hcl : ClosedN (usesL p.rules.xs) N := by
      rcases hor with h | h
      · exact h
      · have := trues_le N; omega
    refine WP.exit ?_
    refine WP.seq ?_
    refine WP.region ?_
    refine Ops.y (v := .slice _ _ _) (Y.move rfl) ?_
    refine Ops.y (v := .slice _ _ _) (Y.assign rfl) ?_
    refine Ops.nil ?_
    have hbo := I.at 0 rfl
    obtain ⟨h5, le5, hb5, I⟩ := I.settle
    refine WP.ret ?_
    repeat (first | refine thenE_ret ?_ | refine blockE_ret ?_)
    exact retQ.mk (vs := [.slice _ _ _]) rfl ⟨rfl, trivial⟩ I.ext_of (⟨⟨some ⟨b12, 0, none⟩, p.preds.xs.length, N⟩, NeedsR.of hlen hsnd hhas hcl, boxIsB ((hb5 b12 (by simp [box])).trans hbo) (by rw [hlen]; omega), by simp [tup, Sl.val, hlen]⟩)
end Go.TF
