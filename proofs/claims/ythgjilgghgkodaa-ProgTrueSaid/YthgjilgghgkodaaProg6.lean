/- prog.Check, whole. -/
import Derived.Test.YthgjilgghgkodaaProg5
namespace Go.TF
open Go Go.RowKit Go.Proofs
set_option maxRecDepth 20000

def SeenJ (B : Base) (h0 : Heap) (l : List Prd) (b4 bm : Nat) (hg : Heap) (k : Nat) (W : World) : Prop :=
  h0.le hg ∧ ∃ es, Inv B hg [box b4 [.map (some bm)] 98, smap bm es] W ∧ ∀ s, (slook es s).getD 0 = (((l.take k).countP fun y => decide (y.name = s) : Nat) : Int)
theorem early_iff {l : List Prd} {k : Nat} {x : Prd} (hx : l[k]? = some x) : early l k = decide ((1 : Int) < (((l.take k).countP fun y => decide (y.name = x.name) : Nat) : Int) + 1) := by
  have hd : (l.getD k default).name = x.name := by simp [List.getD_eq_getElem?_getD, hx]
  unfold early
  rw [hd]
  by_cases h : (l.take k).any (fun y => decide (y.name = x.name)) = true
  · rw [h]
    rw [List.any_eq_true] at h
    have := List.countP_pos_iff.2 h
    exact (decide_eq_true (by omega)).symm
  · have h' : (l.take k).any (fun y => decide (y.name = x.name)) = false := by simpa using h
    rw [h']
    have h0 : ¬ 0 < (l.take k).countP fun y => decide (y.name = x.name) := fun hp => h (List.any_eq_true.2 (List.countP_pos_iff.1 hp))
    exact (decide_eq_false (by omega)).symm
theorem seen_round (B : Base) (h0 : Heap) (l : List Prd) (b4 bm : Nat) (h5 : l.length ≤ 5) (hg : Heap) (k : Nat) (x : Prd) (W : World) (hx : l[k]? = some x) (j : SeenJ B h0 l b4 bm hg k W) :
    Calls Try.prog 73 (([] : List Value) ++ [x.val] ++ [Value.pointer (some ⟨b4, 0, none⟩)]).toArray W fun ed W' => ed = .returned (.bool (early l k)) ∧ ∃ hg', hg.le hg' ∧ SeenJ B h0 l b4 bm hg' (k + 1) W' := by
  obtain ⟨gl, es, I, hes⟩ := j
  have hk := (List.getElem?_eq_some_iff.1 hx).1
  have hle : (l.take k).countP (fun y => decide (y.name = x.name)) ≤ 5 := Nat.le_trans List.countP_le_length (by simp; omega)
  refine (Check3_S B hg b4 bm es W I x (by rw [hes]; exact ⟨by omega, by omega⟩)).mono ?_
  rintro ed W' ⟨rfl, I'⟩
  refine ⟨by rw [early_iff hx, hes], hg, Heap.le.refl _, gl, _, I', fun s => ?_⟩
  have hx' : l[k] = x := (List.getElem?_eq_some_iff.1 hx).2
  rw [slook_sset, List.take_succ_eq_append_getElem hk, List.countP_append, hx']
  by_cases e : s = x.name
  · subst e; simp [hes]
  · rw [if_neg e, hes]
    simp [Ne.symm e]
set_option maxHeartbeats 4000000 in
theorem PCheck_ok (B : Base) (hB : B.ok) (p : Prg) (hp : p.In B.h) (hnm : p.Nm) : Fn Try.prog 33 [p.val] B (fun v _ => v = .int .i64 (checkProg p)) := by
  refine Fn.of Try.func33 rfl Try.ntmps33 (by kernel_rfl) (by simp) ?_
  intro e
  have I := Inv.start hB
  refine WP.seq ?_
  refine WP.region ?_
  refine Ops.go (O.box (v := .agg #[_, _]) I rfl rfl ?_)
  intro b1 w I
  refine Ops.y (v := .int .i64 _) (Y.assign rfl) ?_
  refine Ops.nil ?_
  have hb1 := I.at 0 rfl
  obtain ⟨h1, le1, hh1, I⟩ := I.settle
  have hb1 : PBox h1 b1 p := (hh1 b1 (by simp [box])).trans hb1
  have hp := hp.le le1
  have hsp := hp.preds.small
  have hsr := hp.rules.is.small
  refine WP.seq ?_
  refine WP.seq ?_
  by_cases o0 : 5 < (p.preds.xs.length : Int)
  · refine WP.region ?_
    refine Ops.y (v := .pointer (some ⟨_, _, none⟩)) (Y.fa0 fa_54_0 rfl) ?_
    refine Ops.y (v := .slice _ _ _) (Y.loadv ty_32 rfl (I.rd (rdHb hb1 0 1)) rfl rfl) ?_
    refine Ops.y (v := .int .i64 _) (Y.lens Try.underlying32 rfl) ?_
    refine Ops.y (v := .bool true) (Y.dec_t (Y.gti rfl rfl) (o0)) ?_
    refine Ops.y (v := .bool _) (Y.move rfl) ?_
    refine Ops.gf rfl ?_
    refine Ops.gf rfl ?_
    refine Ops.gf rfl ?_
    refine Ops.gf rfl ?_
    refine Ops.y (v := .bool _) (Y.pick_t rfl rfl) ?_
    refine Ops.nil ?_
    refine WP.cond_t rfl ?_
    refine WP.seq ?_
    refine WP.region ?_
    refine Ops.y (v := .int .i64 _) (Y.assign rfl) ?_
    refine Ops.nil ?_
    refine WP.ret ?_
    repeat (first | refine thenE_ret ?_ | refine blockE_ret ?_)
    exact retQ.mk (vs := [.int .i64 _]) rfl ⟨rfl, trivial⟩ I.ext_of (by simp only [tup, checkProg]; rw [if_pos (by omega)])
  by_cases o1 : 8 < (p.rules.xs.length : Int)
  · refine WP.region ?_
    refine Ops.y (v := .pointer (some ⟨_, _, none⟩)) (Y.fa0 fa_54_0 rfl) ?_
    refine Ops.y (v := .slice _ _ _) (Y.loadv ty_32 rfl (I.rd (rdHb hb1 0 1)) rfl rfl) ?_
    refine Ops.y (v := .int .i64 _) (Y.lens Try.underlying32 rfl) ?_
    refine Ops.y (v := .bool false) (Y.dec_f (Y.gti rfl rfl) (o0)) ?_
    refine Ops.y (v := .bool _) (Y.move rfl) ?_
    refine Ops.ygt rfl (v := .pointer (some ⟨_, _, none⟩)) (Y.fa fa_54_1 rfl) ?_
    refine Ops.ygt rfl (v := .slice _ _ _) (Y.loadv ty_52 rfl (I.rd (rdHb hb1 1 1)) rfl rfl) ?_
    refine Ops.ygt rfl (v := .int .i64 _) (Y.lens Try.underlying52 rfl) ?_
    refine Ops.ygt rfl (v := .bool true) (Y.dec_t (Y.gti rfl rfl) (o1)) ?_
    refine Ops.y (v := .bool _) (Y.pick_f rfl rfl) ?_
    refine Ops.nil ?_
    refine WP.cond_t rfl ?_
    refine WP.seq ?_
    refine WP.region ?_
    refine Ops.y (v := .int .i64 _) (Y.assign rfl) ?_
    refine Ops.nil ?_
    refine WP.ret ?_
    repeat (first | refine thenE_ret ?_ | refine blockE_ret ?_)
    exact retQ.mk (vs := [.int .i64 _]) rfl ⟨rfl, trivial⟩ I.ext_of (by simp only [tup, checkProg]; rw [if_pos (by omega)])
  refine WP.region ?_
  refine Ops.y (v := .pointer (some ⟨_, _, none⟩)) (Y.fa0 fa_54_0 rfl) ?_
  refine Ops.y (v := .slice _ _ _) (Y.loadv ty_32 rfl (I.rd (rdHb hb1 0 1)) rfl rfl) ?_
  refine Ops.y (v := .int .i64 _) (Y.lens Try.underlying32 rfl) ?_
  refine Ops.y (v := .bool false) (Y.dec_f (Y.gti rfl rfl) (o0)) ?_
  refine Ops.y (v := .bool _) (Y.move rfl) ?_
  refine Ops.ygt rfl (v := .pointer (some ⟨_, _, none⟩)) (Y.fa fa_54_1 rfl) ?_
  refine Ops.ygt rfl (v := .slice _ _ _) (Y.loadv ty_52 rfl (I.rd (rdHb hb1 1 1)) rfl rfl) ?_
  refine Ops.ygt rfl (v := .int .i64 _) (Y.lens Try.underlying52 rfl) ?_
  refine Ops.ygt rfl (v := .bool false) (Y.dec_f (Y.gti rfl rfl) (o1)) ?_
  refine Ops.y (v := .bool _) (Y.pick_f rfl rfl) ?_
  refine Ops.nil ?_
  refine WP.cond_f rfl ?_
  have c0 : ¬ (5 < p.preds.xs.length ∨ 8 < p.rules.xs.length) := by omega
  refine WP.skip ?_
  refine WP.seq ?_
  refine WP.region ?_
  refine Ops.y (v := .func _ _ _) (Y.mkfunc rfl rfl) ?_
  refine Ops.y (v := .func _ _ _) (Y.assign rfl) ?_
  refine Ops.nil ?_
  refine WP.seq ?_
  refine WP.region ?_
  refine Ops.go (O.mkmaps I ?_)
  intro bm w I
  refine Ops.go (O.alloc I Try.zeroValue98 rfl ?_)
  intro b4 w I
  refine Ops.go (O.store (v := .map _) I ty_98 0 rfl rfl rfl rfl rfl rfl (Nat.le_of_ble_eq_true rfl) rfl ?_)
  intro w I
  refine Ops.nil ?_
  refine WP.seq ?_
  refine WP.block ?_
  refine WP.seq ?_
  refine WP.region ?_
  refine Ops.y (v := .func _ _ _) (Y.move rfl) ?_
  refine Ops.go (O.callcv I Try.call70 (fs := []) (cs := [.pointer (some ⟨b1, 0, none⟩)]) rfl (Check1_ok _ I.base_ok p b1 hb1 hp.preds 72 Try.call72 [] [] (fun x => !isName x.name) (fun B' hB' _ x hx => Check2_ok B' hB' x (hnm x hx))) rfl ?_)
  intro w I
  refine Ops.y (v := .bool _) (Y.assign rfl) ?_
  refine Ops.nil ?_
  refine WP.cond rfl (fun c1 => ?_) (fun c1 => ?_)
  · refine WP.seq ?_
    refine WP.region ?_
    refine Ops.y (v := .int .i64 _) (Y.assign rfl) ?_
    refine Ops.nil ?_
    refine WP.ret ?_
    repeat (first | refine thenE_ret ?_ | refine blockE_ret ?_)
    exact retQ.mk (vs := [.int .i64 _]) rfl ⟨rfl, trivial⟩ I.ext_of (by simp only [tup, checkProg]; rw [if_neg c0, if_pos c1])
  refine WP.seq ?_
  refine WP.region ?_
  refine Ops.y (v := .func _ _ _) (Y.move rfl) ?_
  refine Ops.y (v := .func _ _ _) (Y.mkfunc rfl rfl) ?_
  refine Ops.go (O.callcs Try.call70 (fs := []) (cs := [.pointer (some ⟨b1, 0, none⟩)]) rfl (Check1_S p b1 h1 hb1 hp.preds 73 Try.call73 [] [.pointer (some ⟨b4, 0, none⟩)] (SeenJ B h1 p.preds.xs b4 bm) (early p.preds.xs)
    (fun hg k W ⟨_, es, I, _⟩ => I.base_ok) (fun hg k x W _ hx j => seen_round B h1 p.preds.xs b4 bm (by omega) hg k x W hx j) h1 _ (Heap.le.refl _) ⟨Heap.le.refl _, [], I, fun s => by simp [slook]⟩) rfl ?_)
  rintro ed w ⟨rfl, h2, k2, gl2, gl3, es, I, _⟩
  refine ⟨_, rfl, ?_⟩
  have hb1 : PBox h2 b1 p := gl2 _ _ hb1
  have hp := hp.le gl2
  refine Ops.y (v := .bool _) (Y.assign rfl) ?_
  refine Ops.nil ?_
  refine WP.cond rfl (fun c2 => ?_) (fun c2 => ?_)
  · refine WP.seq ?_
    refine WP.region ?_
    refine Ops.y (v := .int .i64 _) (Y.assign rfl) ?_
    refine Ops.nil ?_
    refine WP.ret ?_
    repeat (first | refine thenE_ret ?_ | refine blockE_ret ?_)
    exact retQ.mk (vs := [.int .i64 _]) rfl ⟨rfl, trivial⟩ I.ext_of (by simp only [tup, checkProg]; rw [if_neg c0, if_neg (by rw [c1]; decide), if_pos (show twice p.preds.xs = true from c2)])
  refine WP.seq ?_
  refine WP.region ?_
  refine Ops.y (v := .func _ _ _) (Y.move rfl) ?_
  refine Ops.go (O.callcv I Try.call70 (fs := []) (cs := [.pointer (some ⟨b1, 0, none⟩)]) rfl (Check1_ok _ I.base_ok p b1 hb1 hp.preds 74 Try.call74 [] [] badArity (fun B' hB' _ x _ => Check4_ok B' hB' x)) rfl ?_)
  intro w I
  refine Ops.y (v := .bool _) (Y.assign rfl) ?_
  refine Ops.nil ?_
  refine WP.cond rfl (fun c3 => ?_) (fun c3 => ?_)
  · refine WP.seq ?_
    refine WP.region ?_
    refine Ops.y (v := .int .i64 _) (Y.assign rfl) ?_
    refine Ops.nil ?_
    refine WP.ret ?_
    repeat (first | refine thenE_ret ?_ | refine blockE_ret ?_)
    exact retQ.mk (vs := [.int .i64 _]) rfl ⟨rfl, trivial⟩ I.ext_of (by simp only [tup, checkProg]; rw [if_neg c0, if_neg (by rw [c1]; decide), if_neg (by unfold twice; rw [c2]; decide), if_pos c3])
  refine WP.seq ?_
  refine WP.region ?_
  refine Ops.y (v := .func _ _ _) (Y.move rfl) ?_
  refine Ops.go (O.callcv I Try.call70 (fs := []) (cs := [.pointer (some ⟨b1, 0, none⟩)]) rfl (Check1_ok _ I.base_ok p b1 hb1 hp.preds 75 Try.call75 [] [] badKind (fun B' hB' _ x _ => Check5_ok B' hB' x)) rfl ?_)
  intro w I
  refine Ops.y (v := .bool _) (Y.assign rfl) ?_
  refine Ops.nil ?_
  refine WP.cond rfl (fun c4 => ?_) (fun c4 => ?_)
  · refine WP.seq ?_
    refine WP.region ?_
    refine Ops.y (v := .int .i64 _) (Y.assign rfl) ?_
    refine Ops.nil ?_
    refine WP.ret ?_
    repeat (first | refine thenE_ret ?_ | refine blockE_ret ?_)
    exact retQ.mk (vs := [.int .i64 _]) rfl ⟨rfl, trivial⟩ I.ext_of (by simp only [tup, checkProg]; rw [if_neg c0, if_neg (by rw [c1]; decide), if_neg (by unfold twice; rw [c2]; decide), if_neg (by rw [c3]; decide), if_pos c4])
  have e4 : checkProg p = if rulesErr p.preds.xs p.rules.xs ≠ 0 then rulesErr p.preds.xs p.rules.xs else @ite Int (∃ M, Sol (usesL p.rules.xs) p.preds.xs.length M) (Classical.propDecidable _) 0 8 := by
    unfold checkProg; rw [if_neg c0, if_neg (by rw [c1]; decide), if_neg (by unfold twice; rw [c2]; decide), if_neg (by rw [c3]; decide), if_neg (by rw [c4]; decide)]
  refine WP.skip ?_
  refine WP.seq ?_
  refine WP.seq ?_
  refine WP.region ?_
  refine Ops.y (v := .pointer (some ⟨_, _, none⟩)) (Y.fa fa_54_1 rfl) ?_
  refine Ops.y (v := .slice _ _ _) (Y.loadv ty_52 rfl (I.rd (rdHb hb1 1 1)) rfl rfl) ?_
  refine Ops.y (v := .int .i64 _) (Y.lens Try.underlying52 rfl) ?_
  refine Ops.y (v := .int .i64 _) (Y.move rfl) ?_
  refine Ops.nil ?_
  refine WP.block ?_
  refine WP.loopE (σ := Nat) (fun k => [(1, .pointer (some ⟨b1, 0, none⟩)), (36, p.rules.val), (37, .int .i64 p.rules.xs.length), (38, .int .i64 k)]) (fun k w => Inv B h2 [] w ∧ k ≤ p.rules.xs.length ∧ ∀ j, j < k → ∀ hj : j < p.rules.xs.length, checkRule p.preds.xs p.rules.xs[j] = 0) (fun k => p.rules.xs.length - k)
    ⟨0, ⟨rfl, rfl, rfl, rfl, trivial⟩, I.clear, Nat.zero_le _, fun j hj => by omega⟩ ?_
  rintro k e w ⟨I, hk, hn⟩
  refine WP.seq ?_
  refine WP.region ?_
  refine Ops.y (v := .bool (decide _)) (Y.lti rfl rfl) ?_
  refine Ops.nil ?_
  refine WP.seq ?_
  refine WP.cond_dec rfl (fun h14 => ?_) (fun h14 => ?_)
  · have hk' : k < p.rules.xs.length := by omega
    have E1 := hp.rules.is.at hk'
    refine WP.skip ?_
    refine WP.seq ?_
    refine WP.block ?_
    refine WP.seq ?_
    refine WP.region ?_
    refine Ops.y (v := .pointer (some ⟨_, _, none⟩)) (Y.idxEl E1 Try.underlying52 Try.sizeOf38 rfl rfl (Int.natCast_nonneg _) rfl) ?_
    refine Ops.y (v := .agg #[_, _, _, _, _]) (Y.loadv ty_38 rfl (I.rd (E1.rd.part 0 5)) rfl rfl) ?_
    refine Ops.go (O.alloc I Try.zeroValue38 rfl ?_)
    intro b6 w I
    refine Ops.go (O.store (v := .agg #[_, _, _, _, _]) I ty_38 0 rfl rfl rfl rfl rfl rfl (Nat.le_of_ble_eq_true rfl) rfl ?_)
    intro w I
    refine Ops.nil ?_
    refine WP.seq ?_
    refine WP.region ?_
    refine Ops.y (v := .pointer (some ⟨_, _, none⟩)) (Y.fa0 fa_54_0 rfl) ?_
    refine Ops.y (v := .slice _ _ _) (Y.loadv ty_32 rfl (I.rd (rdHb hb1 0 1)) rfl rfl) ?_
    refine Ops.y (v := .agg #[_, _, _, _, _]) (Y.loadv ty_38 rfl (I.rdbox 0 rfl 0 5) rfl rfl) ?_
    refine Ops.go (O.callv I Try.call26 (RCheck_ok _ I.base_ok p.preds hp.preds p.rules.xs[k] (hp.rules.each _ (List.getElem_mem hk'))) rfl ?_)
    intro w I
    refine Ops.y (v := .int .i64 _) (Y.assign rfl) ?_
    refine Ops.nil ?_
    refine WP.seq ?_
    refine WP.region ?_
    refine Ops.y (v := .int .i64 _) (Y.move rfl) ?_
    refine Ops.y (v := .bool (decide _)) (Y.nei rfl rfl) ?_
    refine Ops.nil ?_
    refine WP.cond_dec rfl (fun h17 => ?_) (fun h17 => ?_)
    · refine WP.seq ?_
      refine WP.region ?_
      refine Ops.y (v := .int .i64 _) (Y.move rfl) ?_
      refine Ops.y (v := .int .i64 _) (Y.assign rfl) ?_
      refine Ops.nil ?_
      refine WP.ret ?_
      repeat (first | refine thenE_ret ?_ | refine blockE_ret ?_)
      exact retQ.mk (vs := [.int .i64 _]) rfl ⟨rfl, trivial⟩ I.ext_of (by simp only [tup, e4]; rw [rulesErr_at hk' hn h17, if_pos h17])
    refine WP.skip ?_
    refine WP.region ?_
    refine Ops.y (v := .int .i64 _) (Y.addi rfl rfl ⟨by omega, by omega⟩) ?_
    refine Ops.y (v := .int .i64 _) (Y.move rfl) ?_
    refine Ops.nil ?_
    exact ⟨k + 1, ⟨⟨rfl, rfl, rfl, rfl, trivial⟩, I.drop, hk', fun j hj hj' => by
      rcases Nat.lt_succ_iff_lt_or_eq.1 hj with h' | rfl
      · exact hn j h' hj'
      · exact Decidable.not_not.1 h17⟩, by omega⟩
  have hr0 : rulesErr p.preds.xs p.rules.xs = 0 := rulesErr_zero.2 fun r hr => by
    obtain ⟨j, hj, rfl⟩ := List.getElem_of_mem hr
    exact hn j (by omega) hj
  have e5 : checkProg p = @ite Int (∃ M, Sol (usesL p.rules.xs) p.preds.xs.length M) (Classical.propDecidable _) 0 8 := by rw [e4, if_neg (by rw [hr0]; decide)]
  refine WP.exit ?_
  refine WP.seq ?_
  refine WP.seq ?_
  refine WP.region ?_
  refine Ops.y (v := .agg #[_, _]) (Y.loadv ty_54 rfl (I.rd (rdHb hb1 0 2)) rfl rfl) ?_
  refine Ops.go (O.call I Try.call76 (Levels_ok _ I.base_ok p hp (inR_of hr0) (by omega)) rfl ?_)
  rintro v52 h3 w I le3 hL
  rcases hL with ⟨s, hS, hI, rfl⟩ | ⟨hno, rfl⟩
  · refine Ops.y (v := .tuple #[_, _]) (Y.move rfl) ?_
    refine Ops.y (v := .slice _ _ _) (Y.extract rfl rfl) ?_
    refine Ops.y (v := .bool _) (Y.extract rfl rfl) ?_
    refine Ops.y (v := .slice _ _ _) (Y.assign rfl) ?_
    refine Ops.y (v := .bool _) (Y.assign rfl) ?_
    refine Ops.nil ?_
    refine WP.seq ?_
    refine WP.region ?_
    refine Ops.y (v := .bool _) (Y.move rfl) ?_
    refine Ops.y (v := .bool _) (Y.not rfl) ?_
    refine Ops.nil ?_
    refine WP.cond_f rfl ?_
    refine WP.skip ?_
    refine WP.seq ?_
    refine WP.region ?_
    refine Ops.y (v := .int .i64 _) (Y.assign rfl) ?_
    refine Ops.nil ?_
    refine WP.ret ?_
    repeat (first | refine thenE_ret ?_ | refine blockE_ret ?_)
    exact retQ.mk (vs := [.int .i64 _]) rfl ⟨rfl, trivial⟩ I.ext_of (by simp only [tup, e5]; rw [if_pos ⟨_, hS.sol⟩])
  · refine Ops.y (v := .tuple #[_, _]) (Y.move rfl) ?_
    refine Ops.y (v := .slice _ _ _) (Y.extract rfl rfl) ?_
    refine Ops.y (v := .bool _) (Y.extract rfl rfl) ?_
    refine Ops.y (v := .slice _ _ _) (Y.assign rfl) ?_
    refine Ops.y (v := .bool _) (Y.assign rfl) ?_
    refine Ops.nil ?_
    refine WP.seq ?_
    refine WP.region ?_
    refine Ops.y (v := .bool _) (Y.move rfl) ?_
    refine Ops.y (v := .bool _) (Y.not rfl) ?_
    refine Ops.nil ?_
    refine WP.cond_t rfl ?_
    refine WP.seq ?_
    refine WP.region ?_
    refine Ops.y (v := .int .i64 _) (Y.assign rfl) ?_
    refine Ops.nil ?_
    refine WP.ret ?_
    repeat (first | refine thenE_ret ?_ | refine blockE_ret ?_)
    exact retQ.mk (vs := [.int .i64 _]) rfl ⟨rfl, trivial⟩ I.ext_of (by simp only [tup, e5]; rw [if_neg (fun ⟨M, hM⟩ => hno M hM)])
end Go.TF
