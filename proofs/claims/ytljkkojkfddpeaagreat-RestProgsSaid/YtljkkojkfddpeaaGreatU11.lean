/- Texts Rst2. -/
import Derived.Test.YtljkkojkfddpeaaGreatU10
section
/- What came and was changed changes nothing: the law returns true. -/
namespace Go.TF
open Go Go.RowKit Go.Proofs
set_option maxRecDepth 20000

@[reducible] def flE (s : Sl Fct) : List Value := [s.val]
theorem prd_len (x : Prd) : x.enc.length = 3 := rfl
theorem at_of {B : Base} {h : Heap} {M : List SA} {w : World} {T k n c : Nat} {a : Option Addr} {xs : List Value} (I : Inv B h M w) (i : Nat) (hi : M[i]? = some (ownSl T k (.slice a n c) n xs)) (hn : 0 < n) : ∃ g, a = some ⟨g, 0, none⟩ := by
  rcases (I.at i hi).2 with ⟨h1, h2⟩ | ⟨gg, cap, cur, h1, _⟩
  · omega
  · injection h1 with h1; exact ⟨gg, h1⟩
set_option maxHeartbeats 16000000 in
theorem RestProgs_ok (B : Base) (hB : B.ok) (p : Prg) (hp : p.In B.h) (hnm : p.Nm) (hcap : p.rules.xs.length ≤ p.rules.cap) (f : Sl Fct) (hf : Fcts f B.h) (x : Fct) : Fn Tryz.prog 3 [p.val, f.val, x.val] B (fun v _ => v = .bool true) := by
  refine Fn.of Tryz.func3 rfl Tryz.ntmps3 (by kernel_rfl) (by simp) ?_
  intro e
  have I := Inv.start hB
  refine WP.seq ?_
  refine WP.region ?_
  refine Ops.go (O.box (v := .agg #[_, _]) I rfl rfl ?_)
  intro b3 w I
  refine Ops.go (O.box (v := .agg #[_, _, _, _]) I rfl rfl ?_)
  intro b5 w I
  refine Ops.y (v := .bool _) (Y.assign rfl) ?_
  refine Ops.nil ?_
  refine WP.seq ?_
  refine WP.seq ?_
  refine WP.region ?_
  refine Ops.y (v := .agg #[_, _]) (Y.loadv ty_25 rfl (I.rdbox 1 rfl 0 2) rfl rfl) ?_
  refine Ops.y (v := .slice _ _ _) (Y.move rfl) ?_
  refine Ops.go (O.callv I Tryz.call4 (RoundError_ok _ I.base_ok p hp hnm f hf) rfl ?_)
  intro w I
  refine Ops.y (v := .bool (decide _)) (Y.nei rfl rfl) ?_
  refine Ops.nil ?_
  refine WP.cond_dec rfl (fun h1 => ?_) (fun h1 => ?_)
  · refine WP.seq ?_
    refine WP.region ?_
    refine Ops.go (O.callv I Tryz.call5 (roundBegun_ok _ I.base_ok) rfl ?_)
    intro w I
    refine Ops.y (v := .bool _) (Y.assign rfl) ?_
    refine Ops.nil ?_
    refine WP.ret ?_
    repeat (first | refine thenE_ret ?_ | refine blockE_ret ?_)
    exact retQ.mk (vs := [.bool _]) rfl ⟨rfl, trivial⟩ I.ext_of (rfl)
  have ha : askR p f.xs = 0 := Decidable.not_not.1 h1
  obtain ⟨hpr, okf⟩ := askR_iff.1 ha
  obtain ⟨n5, n8, _⟩ := checkProg_ok hpr
  have h125 := okf.le125
  refine WP.skip ?_
  refine WP.seq ?_
  refine WP.region ?_
  refine Ops.go (O.mkE (α := Fct) Fct.enc I Tryz.underlying26 Tryz.sizeOf28 ?_)
  intro s42 h42 w I le42 e42 c42 a42 o42
  refine Ops.y (v := .slice _ _ _) (Y.move rfl) ?_
  refine Ops.go (O.appendE (α := Fct) I Tryz.underlying26 et_28 (fun _ => rfl) o42 le42 e42 c42 a42 (hf.el.le le42) rfl rfl (by omega) (by omega) ?_)
  intro rr h2 w I le2 hrx o2 r0
  refine Ops.y (v := rr.val) (Y.assign rfl) ?_
  refine Ops.nil ?_
  have iw : Fcts rr h2 := ⟨o2.in (fun _ => rfl), by rw [hrx]; omega⟩
  have g2 : B.h.le h2 := le42.trans le2
  refine WP.seq ?_
  refine WP.region ?_
  refine Ops.y (v := .agg #[_, _]) (Y.loadv ty_25 rfl (I.rdbox 1 rfl 0 2) rfl rfl) ?_
  refine Ops.go (O.callv I Tryz.call6 (ProgText_ok _ I.base_ok p (hp.le g2) hnm hpr) rfl ?_)
  intro w I
  refine Ops.y (v := .string _) (Y.assign rfl) ?_
  refine Ops.nil ?_
  refine WP.seq ?_
  refine WP.region ?_
  refine Ops.y (v := .agg #[_, _]) (Y.loadv ty_25 rfl (I.rdbox 1 rfl 0 2) rfl rfl) ?_
  refine Ops.y (v := .slice _ _ _) (Y.move rfl) ?_
  refine Ops.go (O.call I Tryz.call7 (Once_own _ I.base_ok p (hp.le g2) hnm f (hf.le g2) ha 0) rfl ?_)
  rintro _ h3 w I le3 ⟨a, rfl, ea, ia, oa⟩
  refine Ops.y (v := .tuple #[_, _, _]) (Y.move rfl) ?_
  refine Ops.y (v := .slice _ _ _) (Y.extract rfl rfl) ?_
  refine Ops.y (v := .bool _) (Y.extract rfl rfl) ?_
  refine Ops.y (v := .int .i64 _) (Y.extract rfl rfl) ?_
  refine Ops.y (v := .slice _ _ _) (Y.assign rfl) ?_
  refine Ops.y (v := .bool _) (Y.assign rfl) ?_
  refine Ops.y (v := .int .i64 _) (Y.assign rfl) ?_
  refine Ops.nil ?_
  have g3 := g2.trans le3
  refine WP.seq ?_
  refine WP.region ?_
  refine Ops.y (v := .pointer (some ⟨_, _, none⟩)) (Y.fa0 fa_25_0 rfl) ?_
  refine Ops.y (v := .slice _ _ _) (Y.loadv ty_22 rfl (I.rdbox 1 rfl 0 1) rfl rfl) ?_
  refine Ops.y (v := .slice _ _ _) (Y.move rfl) ?_
  refine Ops.y (v := .agg #[_, _, _, _]) (Y.loadv ty_28 rfl (I.rdbox 0 rfl 0 4) rfl rfl) ?_
  refine Ops.go (O.call I Tryz.call8 (Add_own _ I.base_ok p.preds (hp.le g3).preds f (hf.le g3) x) rfl ?_)
  rintro _ h4 w I le4 ⟨b, rfl, eb, ib, ob⟩
  refine Ops.y (v := .tuple #[_, _, _]) (Y.move rfl) ?_
  refine Ops.y (v := .slice _ _ _) (Y.extract rfl rfl) ?_
  refine Ops.y (v := .bool _) (Y.extract rfl rfl) ?_
  refine Ops.y (v := .int .i64 _) (Y.extract rfl rfl) ?_
  refine Ops.y (v := .slice _ _ _) (Y.assign rfl) ?_
  refine Ops.y (v := .bool _) (Y.assign rfl) ?_
  refine Ops.y (v := .int .i64 _) (Y.assign rfl) ?_
  refine Ops.nil ?_
  have g4 := g3.trans le4
  refine WP.seq ?_
  refine WP.region ?_
  refine Ops.y (v := .agg #[_, _]) (Y.loadv ty_25 rfl (I.rdbox 1 rfl 0 2) rfl rfl) ?_
  refine Ops.go (O.call I Tryz.call9 (Without_own _ I.base_ok p (hp.le g4) hnm 0) rfl ?_)
  rintro _ h5 w I le5 ⟨d, rfl, ed1, ed2, od1, od2⟩
  refine Ops.y (v := .tuple #[_, _]) (Y.move rfl) ?_
  refine Ops.y (v := .agg #[_, _]) (Y.extract rfl rfl) ?_
  refine Ops.y (v := .int .i64 _) (Y.extract rfl rfl) ?_
  refine Ops.go (O.alloc I Tryz.zeroValue25 rfl ?_)
  intro b15 w I
  refine Ops.go (O.store (v := .agg #[_, _]) I ty_25 0 rfl rfl rfl rfl rfl rfl (Nat.le_of_ble_eq_true rfl) rfl ?_)
  intro w I
  refine Ops.y (v := .int .i64 _) (Y.assign rfl) ?_
  refine Ops.nil ?_
  obtain ⟨h6, I, mono6, keep6⟩ := I.unsettle od2 g4
  have od1 := od1.apart od2 (by decide) keep6
  obtain ⟨h7, I, mono7, _⟩ := I.unsettle od1 g4
  have k7 : h4.le h7 := mono7 _ (mono6 _ le5 (Heap.le.refl _)) (Heap.le.refl _)
  obtain ⟨h8, I, mono8, _⟩ := I.unsettle (ob.le k7) g3
  have k8 : h3.le h8 := mono8 _ (le4.trans k7) (Heap.le.refl _)
  obtain ⟨h9, I, mono9, _⟩ := I.unsettle (oa.le k8) g2
  have k9 : h2.le h9 := mono9 _ (le3.trans k8) (Heap.le.refl _)
  have g9 := g2.trans k9
  obtain ⟨aa, ac, ax⟩ := a
  obtain ⟨ba, bc, bx⟩ := b
  obtain ⟨⟨pa, pc, px⟩, ⟨ra, rc, rx⟩⟩ := d
  have I : Inv B h9 [ownSl 28 4 (.slice aa ax.length ac) ax.length (ax.flatMap Fct.enc), ownSl 28 4 (.slice ba bx.length bc) bx.length (bx.flatMap Fct.enc), ownSl 40 3 (.slice pa px.length pc) px.length (px.flatMap Prd.enc), ownSl 46 5 (.slice ra rx.length rc) rx.length (rx.flatMap Rul.enc), box b15 [.slice pa px.length pc, .slice ra rx.length rc] 25, box b5 x.enc 28, box b3 p.enc 25] w := I
  have la : ax.length ≤ 140737488355328 := ia.small
  have lb : bx.length ≤ 140737488355328 := ib.small
  have lp : px.length ≤ 5 := by
    have h := ed1
    dsimp only at h
    rw [h]; exact without_short.1
  have lr : rx.length ≤ 16 := by
    have h := ed2
    dsimp only at h
    rw [h]; exact without_short.2.1
  refine WP.seq ?_
  refine WP.region ?_
  refine Ops.y (v := .slice _ _ _) (Y.move rfl) ?_
  refine Ops.y (v := .slice _ _ _) (Y.move rfl) ?_
  refine Ops.go (O.mksl (xs := [(⟨aa, ac, ax⟩ : Sl Fct), ⟨ba, bc, bx⟩]) (enc := flE) I Tryz.underlying38 Tryz.sizeOf26 Tryz.zeroValue26 rfl (Nat.le_of_ble_eq_true rfl) rfl rfl (by decide) (fun _ => rfl) ?_)
  intro b70 h70 w I le70 sl70
  refine Ops.y (v := .slice _ _ _) (Y.assign rfl) ?_
  refine Ops.nil ?_
  refine WP.seq ?_
  refine WP.seq ?_
  refine WP.region ?_
  refine Ops.y (v := .int .i64 _) (Y.assign rfl) ?_
  refine Ops.nil ?_
  refine WP.block ?_
  have g70 : B.h.le h70 := g9.trans le70
  refine WP.loopE (σ := Nat × List Fct × List Fct) (fun s => [(1, f.val), (3, .pointer (some ⟨b3, 0, none⟩)), (5, .pointer (some ⟨b5, 0, none⟩)), (7, rr.val), (8, .string (progT p)), (11, .int .i64 0), (14, .int .i64 (addOf p.preds.xs f.xs x).2.2), (15, .pointer (some ⟨b15, 0, none⟩)), (16, .int .i64 (withoutOf p 0).2), (17, .slice (some ⟨b70, 0, none⟩) 2 2), (18, .int .i64 s.1)])
    (fun s w => Inv B h70 [ownSl 28 4 (.slice aa ax.length ac) ax.length (s.2.1.flatMap Fct.enc), ownSl 28 4 (.slice ba bx.length bc) bx.length (s.2.2.flatMap Fct.enc), ownSl 40 3 (.slice pa px.length pc) px.length (px.flatMap Prd.enc), ownSl 46 5 (.slice ra rx.length rc) rx.length (rx.flatMap Rul.enc), box b15 [.slice pa px.length pc, .slice ra rx.length rc] 25, box b5 x.enc 28, box b3 p.enc 25] w ∧ s.1 ≤ 2 ∧ s.2.1.length = ax.length ∧ s.2.2.length = bx.length) (fun s => 2 - s.1)
    ⟨(0, ax, bx), ⟨rfl, rfl, rfl, rfl, rfl, rfl, rfl, rfl, rfl, rfl, rfl, trivial⟩, I, Nat.zero_le _, rfl, rfl⟩ ?_
  rintro ⟨i, za, zb⟩ e w ⟨I, hi, hza, hzb⟩
  dsimp only at I hi hza hzb ⊢
  refine WP.seq ?_
  refine WP.seq ?_
  refine WP.region ?_
  refine Ops.y (v := .int .i64 _) (Y.move rfl) ?_
  refine Ops.y (v := .slice _ _ _) (Y.move rfl) ?_
  refine Ops.y (v := .int .i64 _) (Y.lens Tryz.underlying38 rfl) ?_
  refine Ops.y (v := .bool (decide _)) (Y.lti rfl rfl) ?_
  refine Ops.nil ?_
  refine WP.cond_dec rfl (fun h10 => ?_) (fun h10 => ?_)
  · have hi2 : i = 0 ∨ i = 1 := by omega
    refine WP.skip ?_
    refine WP.seq ?_
    refine WP.block ?_
    refine WP.seq ?_
    refine WP.region ?_
    refine Ops.y (v := .int .i64 _) (Y.assign rfl) ?_
    refine Ops.nil ?_
    rcases hi2 with rfl | rfl
    · have E : El (⟨some ⟨b70, 0, none⟩, 2, [⟨aa, ac, ax⟩, ⟨ba, bc, bx⟩]⟩ : Sl (Sl Fct)) 1 flE h70 0 ⟨aa, ac, ax⟩ := sl70.el rfl
      refine WP.block ?_
      refine WP.loopE (σ := Nat × List Fct) (fun s => [(1, f.val), (3, .pointer (some ⟨b3, 0, none⟩)), (5, .pointer (some ⟨b5, 0, none⟩)), (7, rr.val), (8, .string (progT p)), (11, .int .i64 0), (14, .int .i64 (addOf p.preds.xs f.xs x).2.2), (15, .pointer (some ⟨b15, 0, none⟩)), (16, .int .i64 (withoutOf p 0).2), (17, .slice (some ⟨b70, 0, none⟩) 2 2), (18, .int .i64 ((0 : Nat) : Int)), (19, .int .i64 s.1)])
        (fun s w => Inv B h70 [ownSl 28 4 (.slice aa ax.length ac) ax.length (s.2.flatMap Fct.enc), ownSl 28 4 (.slice ba bx.length bc) bx.length (zb.flatMap Fct.enc), ownSl 40 3 (.slice pa px.length pc) px.length (px.flatMap Prd.enc), ownSl 46 5 (.slice ra rx.length rc) rx.length (rx.flatMap Rul.enc), box b15 [.slice pa px.length pc, .slice ra rx.length rc] 25, box b5 x.enc 28, box b3 p.enc 25] w ∧ s.1 ≤ ax.length ∧ s.2.length = ax.length) (fun s => ax.length - s.1)
        ⟨(0, za), ⟨rfl, rfl, rfl, rfl, rfl, rfl, rfl, rfl, rfl, rfl, rfl, rfl, trivial⟩, I, Nat.zero_le _, hza⟩ ?_
      rintro ⟨j, zs⟩ e w ⟨I, hj, hzs⟩
      dsimp only at I hj hzs ⊢
      refine WP.seq ?_
      refine WP.seq ?_
      refine WP.region ?_
      refine Ops.y (v := .int .i64 _) (Y.move rfl) ?_
      refine Ops.y (v := .slice _ _ _) (Y.move rfl) ?_
      refine Ops.y (v := .int .i64 _) (Y.move rfl) ?_
      refine Ops.y (v := .pointer (some ⟨_, _, none⟩)) (Y.idxEl E Tryz.underlying38 Tryz.sizeOf26 rfl rfl (Int.natCast_nonneg _) rfl) ?_
      refine Ops.y (v := .slice _ _ _) (Y.loadv ty_26 rfl (I.rd (E.rd.part 0 1)) rfl rfl) ?_
      refine Ops.y (v := .int .i64 _) (Y.lens Tryz.underlying26 rfl) ?_
      refine Ops.y (v := .bool (decide _)) (Y.lti rfl rfl) ?_
      refine Ops.nil ?_
      refine WP.cond_dec rfl (fun h13 => ?_) (fun h13 => ?_)
      · have h13 : (j : Int) < ax.length := h13
        have hj' : j < ax.length := by omega
        obtain ⟨gg, rfl⟩ := at_of I 0 rfl (by omega)
        refine WP.skip ?_
        refine WP.seq ?_
        refine WP.block ?_
        refine WP.region ?_
        refine Ops.y (v := .slice _ _ _) (Y.move rfl) ?_
        refine Ops.y (v := .int .i64 _) (Y.move rfl) ?_
        refine Ops.y (v := .pointer (some ⟨_, _, none⟩)) (Y.idxEl E Tryz.underlying38 Tryz.sizeOf26 rfl rfl (Int.natCast_nonneg _) rfl) ?_
        refine Ops.y (v := .slice _ _ _) (Y.loadv ty_26 rfl (I.rd (E.rd.part 0 1)) rfl rfl) ?_
        refine Ops.y (v := .int .i64 _) (Y.move rfl) ?_
        refine Ops.y (v := .agg #[.int .i64 _, .int .i64 _, .int .i64 _, .int .i64 _]) (Y.build pl_28 Tryz.zeroValue28 rfl rfl) ?_
        refine Ops.y (v := .pointer (some ⟨_, _, none⟩)) (Y.idx Tryz.underlying26 Tryz.sizeOf28 rfl rfl (by omega) (by omega)) ?_
        refine Ops.go (O.storeE (vs := (⟨0, 0, 0, 0⟩ : Fct).enc) I ty_28 et_28 0 rfl rfl rfl rfl rfl rfl (by rw [flat_len Fct_len, Fct_len]; omega) ?_)
        intro w I
        refine Ops.nil ?_
        refine WP.region ?_
        refine Ops.y (v := .int .i64 _) (Y.move rfl) ?_
        refine Ops.y (v := .int .i64 _) (Y.addi rfl rfl ⟨by omega, by omega⟩) ?_
        refine Ops.y (v := .int .i64 _) (Y.assign rfl) ?_
        refine Ops.nil ?_
        refine ⟨(j + 1, zs.set j ⟨0, 0, 0, 0⟩), ⟨⟨rfl, rfl, rfl, rfl, rfl, rfl, rfl, rfl, rfl, rfl, rfl, rfl, trivial⟩, ?_, by dsimp only; omega, by dsimp only; rw [List.length_set]; exact hzs⟩, by dsimp only; omega⟩
        dsimp only
        rw [← flat_overG Fct_len _ _ _ (by omega)]
        have J := I
        simp only [Int.toNat_natCast, Nat.zero_add] at J
        exact J
      · have h13 : ¬ (j : Int) < ax.length := h13
        obtain rfl : j = ax.length := by omega
        refine WP.exit ?_
        refine WP.region ?_
        refine Ops.y (v := .int .i64 _) (Y.move rfl) ?_
        refine Ops.y (v := .int .i64 _) (Y.addi rfl rfl ⟨by omega, by omega⟩) ?_
        refine Ops.y (v := .int .i64 _) (Y.assign rfl) ?_
        refine Ops.nil ?_
        exact ⟨(0 + 1, zs, zb), ⟨⟨rfl, rfl, rfl, rfl, rfl, rfl, rfl, rfl, rfl, rfl, rfl, trivial⟩, I, by dsimp only; omega, hzs, hzb⟩, by dsimp only; omega⟩
    · have E : El (⟨some ⟨b70, 0, none⟩, 2, [⟨aa, ac, ax⟩, ⟨ba, bc, bx⟩]⟩ : Sl (Sl Fct)) 1 flE h70 1 ⟨ba, bc, bx⟩ := sl70.el rfl
      refine WP.block ?_
      refine WP.loopE (σ := Nat × List Fct) (fun s => [(1, f.val), (3, .pointer (some ⟨b3, 0, none⟩)), (5, .pointer (some ⟨b5, 0, none⟩)), (7, rr.val), (8, .string (progT p)), (11, .int .i64 0), (14, .int .i64 (addOf p.preds.xs f.xs x).2.2), (15, .pointer (some ⟨b15, 0, none⟩)), (16, .int .i64 (withoutOf p 0).2), (17, .slice (some ⟨b70, 0, none⟩) 2 2), (18, .int .i64 ((1 : Nat) : Int)), (19, .int .i64 s.1)])
        (fun s w => Inv B h70 [ownSl 28 4 (.slice aa ax.length ac) ax.length (za.flatMap Fct.enc), ownSl 28 4 (.slice ba bx.length bc) bx.length (s.2.flatMap Fct.enc), ownSl 40 3 (.slice pa px.length pc) px.length (px.flatMap Prd.enc), ownSl 46 5 (.slice ra rx.length rc) rx.length (rx.flatMap Rul.enc), box b15 [.slice pa px.length pc, .slice ra rx.length rc] 25, box b5 x.enc 28, box b3 p.enc 25] w ∧ s.1 ≤ bx.length ∧ s.2.length = bx.length) (fun s => bx.length - s.1)
        ⟨(0, zb), ⟨rfl, rfl, rfl, rfl, rfl, rfl, rfl, rfl, rfl, rfl, rfl, rfl, trivial⟩, I, Nat.zero_le _, hzb⟩ ?_
      rintro ⟨j, zs⟩ e w ⟨I, hj, hzs⟩
      dsimp only at I hj hzs ⊢
      refine WP.seq ?_
      refine WP.seq ?_
      refine WP.region ?_
      refine Ops.y (v := .int .i64 _) (Y.move rfl) ?_
      refine Ops.y (v := .slice _ _ _) (Y.move rfl) ?_
      refine Ops.y (v := .int .i64 _) (Y.move rfl) ?_
      refine Ops.y (v := .pointer (some ⟨_, _, none⟩)) (Y.idxEl E Tryz.underlying38 Tryz.sizeOf26 rfl rfl (Int.natCast_nonneg _) rfl) ?_
      refine Ops.y (v := .slice _ _ _) (Y.loadv ty_26 rfl (I.rd (E.rd.part 0 1)) rfl rfl) ?_
      refine Ops.y (v := .int .i64 _) (Y.lens Tryz.underlying26 rfl) ?_
      refine Ops.y (v := .bool (decide _)) (Y.lti rfl rfl) ?_
      refine Ops.nil ?_
      refine WP.cond_dec rfl (fun h13 => ?_) (fun h13 => ?_)
      · have h13 : (j : Int) < bx.length := h13
        have hj' : j < bx.length := by omega
        obtain ⟨gg, rfl⟩ := at_of I 1 rfl (by omega)
        refine WP.skip ?_
        refine WP.seq ?_
        refine WP.block ?_
        refine WP.region ?_
        refine Ops.y (v := .slice _ _ _) (Y.move rfl) ?_
        refine Ops.y (v := .int .i64 _) (Y.move rfl) ?_
        refine Ops.y (v := .pointer (some ⟨_, _, none⟩)) (Y.idxEl E Tryz.underlying38 Tryz.sizeOf26 rfl rfl (Int.natCast_nonneg _) rfl) ?_
        refine Ops.y (v := .slice _ _ _) (Y.loadv ty_26 rfl (I.rd (E.rd.part 0 1)) rfl rfl) ?_
        refine Ops.y (v := .int .i64 _) (Y.move rfl) ?_
        refine Ops.y (v := .agg #[.int .i64 _, .int .i64 _, .int .i64 _, .int .i64 _]) (Y.build pl_28 Tryz.zeroValue28 rfl rfl) ?_
        refine Ops.y (v := .pointer (some ⟨_, _, none⟩)) (Y.idx Tryz.underlying26 Tryz.sizeOf28 rfl rfl (by omega) (by omega)) ?_
        refine Ops.go (O.storeE (vs := (⟨0, 0, 0, 0⟩ : Fct).enc) I ty_28 et_28 1 rfl rfl rfl rfl rfl rfl (by rw [flat_len Fct_len, Fct_len]; omega) ?_)
        intro w I
        refine Ops.nil ?_
        refine WP.region ?_
        refine Ops.y (v := .int .i64 _) (Y.move rfl) ?_
        refine Ops.y (v := .int .i64 _) (Y.addi rfl rfl ⟨by omega, by omega⟩) ?_
        refine Ops.y (v := .int .i64 _) (Y.assign rfl) ?_
        refine Ops.nil ?_
        refine ⟨(j + 1, zs.set j ⟨0, 0, 0, 0⟩), ⟨⟨rfl, rfl, rfl, rfl, rfl, rfl, rfl, rfl, rfl, rfl, rfl, rfl, trivial⟩, ?_, by dsimp only; omega, by dsimp only; rw [List.length_set]; exact hzs⟩, by dsimp only; omega⟩
        dsimp only
        rw [← flat_overG Fct_len _ _ _ (by omega)]
        have J := I
        simp only [Int.toNat_natCast, Nat.zero_add] at J
        exact J
      · have h13 : ¬ (j : Int) < bx.length := h13
        obtain rfl : j = bx.length := by omega
        refine WP.exit ?_
        refine WP.region ?_
        refine Ops.y (v := .int .i64 _) (Y.move rfl) ?_
        refine Ops.y (v := .int .i64 _) (Y.addi rfl rfl ⟨by omega, by omega⟩) ?_
        refine Ops.y (v := .int .i64 _) (Y.assign rfl) ?_
        refine Ops.nil ?_
        exact ⟨(1 + 1, za, zs), ⟨⟨rfl, rfl, rfl, rfl, rfl, rfl, rfl, rfl, rfl, rfl, rfl, trivial⟩, I, by dsimp only; omega, hza, hzs⟩, by dsimp only; omega⟩
  have I := I.weak (M' := [ownSl 40 3 (.slice pa px.length pc) px.length (px.flatMap Prd.enc), ownSl 46 5 (.slice ra rx.length rc) rx.length (rx.flatMap Rul.enc), box b15 [.slice pa px.length pc, .slice ra rx.length rc] 25, box b5 x.enc 28, box b3 p.enc 25]) (.cons _ (.cons _ (List.Sublist.refl _)))
  refine WP.exit ?_
  refine WP.seq ?_
  refine WP.seq ?_
  refine WP.region ?_
  refine Ops.y (v := .int .i64 _) (Y.assign rfl) ?_
  refine Ops.nil ?_
  refine WP.block ?_
  refine WP.loopE (σ := Nat × List Prd) (fun s => [(1, f.val), (3, .pointer (some ⟨b3, 0, none⟩)), (5, .pointer (some ⟨b5, 0, none⟩)), (7, rr.val), (8, .string (progT p)), (11, .int .i64 0), (14, .int .i64 (addOf p.preds.xs f.xs x).2.2), (15, .pointer (some ⟨b15, 0, none⟩)), (16, .int .i64 (withoutOf p 0).2), (20, .int .i64 s.1)])
    (fun s w => Inv B h70 [ownSl 40 3 (.slice pa px.length pc) px.length (s.2.flatMap Prd.enc), ownSl 46 5 (.slice ra rx.length rc) rx.length (rx.flatMap Rul.enc), box b15 [.slice pa px.length pc, .slice ra rx.length rc] 25, box b5 x.enc 28, box b3 p.enc 25] w ∧ s.1 ≤ px.length ∧ s.2.length = px.length) (fun s => px.length - s.1)
    ⟨(0, px), ⟨rfl, rfl, rfl, rfl, rfl, rfl, rfl, rfl, rfl, rfl, trivial⟩, I, Nat.zero_le _, rfl⟩ ?_
  rintro ⟨j, zs⟩ e w ⟨I, hj, hzs⟩
  dsimp only at I hj hzs ⊢
  refine WP.seq ?_
  refine WP.seq ?_
  refine WP.region ?_
  refine Ops.y (v := .int .i64 _) (Y.move rfl) ?_
  refine Ops.y (v := .pointer (some ⟨_, _, none⟩)) (Y.fa0 fa_25_0 rfl) ?_
  refine Ops.y (v := .slice _ _ _) (Y.loadv ty_22 rfl (I.rdbox 2 rfl 0 1) rfl rfl) ?_
  refine Ops.y (v := .int .i64 _) (Y.lens Tryz.underlying22 rfl) ?_
  refine Ops.y (v := .bool (decide _)) (Y.lti rfl rfl) ?_
  refine Ops.nil ?_
  refine WP.cond_dec rfl (fun h17 => ?_) (fun h17 => ?_)
  · have hj' : j < px.length := by omega
    obtain ⟨gg, rfl⟩ := at_of I 0 rfl (by omega)
    refine WP.skip ?_
    refine WP.seq ?_
    refine WP.block ?_
    refine WP.region ?_
    refine Ops.y (v := .pointer (some ⟨_, _, none⟩)) (Y.fa0 fa_25_0 rfl) ?_
    refine Ops.y (v := .slice _ _ _) (Y.loadv ty_22 rfl (I.rdbox 2 rfl 0 1) rfl rfl) ?_
    refine Ops.y (v := .int .i64 _) (Y.move rfl) ?_
    refine Ops.y (v := .agg #[.string _, .int .i64 _, .int .i64 _]) (Y.build pl_40 Tryz.zeroValue40 rfl rfl) ?_
    refine Ops.y (v := .pointer (some ⟨_, _, none⟩)) (Y.idx Tryz.underlying22 Tryz.sizeOf40 rfl rfl (by omega) (by omega)) ?_
    refine Ops.go (O.storeE (vs := (⟨ByteArray.empty, 0, 0⟩ : Prd).enc) I ty_40 et_40 0 rfl rfl rfl rfl rfl rfl (by rw [flat_len prd_len, prd_len]; omega) ?_)
    intro w I
    refine Ops.nil ?_
    refine WP.region ?_
    refine Ops.y (v := .int .i64 _) (Y.move rfl) ?_
    refine Ops.y (v := .int .i64 _) (Y.addi rfl rfl ⟨by omega, by omega⟩) ?_
    refine Ops.y (v := .int .i64 _) (Y.assign rfl) ?_
    refine Ops.nil ?_
    refine ⟨(j + 1, zs.set j ⟨ByteArray.empty, 0, 0⟩), ⟨⟨rfl, rfl, rfl, rfl, rfl, rfl, rfl, rfl, rfl, rfl, trivial⟩, ?_, by dsimp only; omega, by dsimp only; rw [List.length_set]; exact hzs⟩, by dsimp only; omega⟩
    dsimp only
    rw [← flat_overG prd_len _ _ _ (by omega)]
    have J := I
    simp only [Int.toNat_natCast, Nat.zero_add] at J
    exact J
  have I := I.weak (M' := [ownSl 46 5 (.slice ra rx.length rc) rx.length (rx.flatMap Rul.enc), box b15 [.slice pa px.length pc, .slice ra rx.length rc] 25, box b5 x.enc 28, box b3 p.enc 25]) (.cons _ (List.Sublist.refl _))
  refine WP.exit ?_
  refine WP.seq ?_
  refine WP.seq ?_
  refine WP.region ?_
  refine Ops.y (v := .int .i64 _) (Y.assign rfl) ?_
  refine Ops.nil ?_
  refine WP.block ?_
  refine WP.loopE (σ := Nat × List Rul) (fun s => [(1, f.val), (3, .pointer (some ⟨b3, 0, none⟩)), (5, .pointer (some ⟨b5, 0, none⟩)), (7, rr.val), (8, .string (progT p)), (11, .int .i64 0), (14, .int .i64 (addOf p.preds.xs f.xs x).2.2), (15, .pointer (some ⟨b15, 0, none⟩)), (16, .int .i64 (withoutOf p 0).2), (21, .int .i64 s.1)])
    (fun s w => Inv B h70 [ownSl 46 5 (.slice ra rx.length rc) rx.length (s.2.flatMap Rul.enc), box b15 [.slice pa px.length pc, .slice ra rx.length rc] 25, box b5 x.enc 28, box b3 p.enc 25] w ∧ s.1 ≤ rx.length ∧ s.2.length = rx.length) (fun s => rx.length - s.1)
    ⟨(0, rx), ⟨rfl, rfl, rfl, rfl, rfl, rfl, rfl, rfl, rfl, rfl, trivial⟩, I, Nat.zero_le _, rfl⟩ ?_
  rintro ⟨j, zs⟩ e w ⟨I, hj, hzs⟩
  dsimp only at I hj hzs ⊢
  refine WP.seq ?_
  refine WP.seq ?_
  refine WP.region ?_
  refine Ops.y (v := .int .i64 _) (Y.move rfl) ?_
  refine Ops.y (v := .pointer (some ⟨_, _, none⟩)) (Y.fa fa_25_1 rfl) ?_
  refine Ops.y (v := .slice _ _ _) (Y.loadv ty_23 rfl (I.rdbox 1 rfl 1 1) rfl rfl) ?_
  refine Ops.y (v := .int .i64 _) (Y.lens Tryz.underlying23 rfl) ?_
  refine Ops.y (v := .bool (decide _)) (Y.lti rfl rfl) ?_
  refine Ops.nil ?_
  refine WP.cond_dec rfl (fun h21 => ?_) (fun h21 => ?_)
  · have hj' : j < rx.length := by omega
    obtain ⟨gg, rfl⟩ := at_of I 0 rfl (by omega)
    refine WP.skip ?_
    refine WP.seq ?_
    refine WP.block ?_
    refine WP.region ?_
    refine Ops.y (v := .pointer (some ⟨_, _, none⟩)) (Y.fa fa_25_1 rfl) ?_
    refine Ops.y (v := .slice _ _ _) (Y.loadv ty_23 rfl (I.rdbox 1 rfl 1 1) rfl rfl) ?_
    refine Ops.y (v := .int .i64 _) (Y.move rfl) ?_
    refine Ops.y (v := .agg #[.int .i64 _, .slice _ _ _, .int .i64 _, .int .i64 _, .slice _ _ _]) (Y.build pl_46 Tryz.zeroValue46 rfl rfl) ?_
    refine Ops.y (v := .pointer (some ⟨_, _, none⟩)) (Y.idx Tryz.underlying23 Tryz.sizeOf46 rfl rfl (by omega) (by omega)) ?_
    refine Ops.go (O.storeE (vs := (⟨⟨0, ⟨none, 0, []⟩⟩, 0, 0, ⟨none, 0, []⟩⟩ : Rul).enc) I ty_46 et_46 0 rfl rfl rfl rfl rfl rfl (by rw [flat_len rul_len, rul_len]; omega) ?_)
    intro w I
    refine Ops.nil ?_
    refine WP.region ?_
    refine Ops.y (v := .int .i64 _) (Y.move rfl) ?_
    refine Ops.y (v := .int .i64 _) (Y.addi rfl rfl ⟨by omega, by omega⟩) ?_
    refine Ops.y (v := .int .i64 _) (Y.assign rfl) ?_
    refine Ops.nil ?_
    refine ⟨(j + 1, zs.set j ⟨⟨0, ⟨none, 0, []⟩⟩, 0, 0, ⟨none, 0, []⟩⟩), ⟨⟨rfl, rfl, rfl, rfl, rfl, rfl, rfl, rfl, rfl, rfl, trivial⟩, ?_, by dsimp only; omega, by dsimp only; rw [List.length_set]; exact hzs⟩, by dsimp only; omega⟩
    dsimp only
    rw [← flat_overG rul_len _ _ _ (by omega)]
    have J := I
    simp only [Int.toNat_natCast, Nat.zero_add] at J
    exact J
  have hp := hp.le g70
  have hf := hf.le g70
  have iw := (iw.le k9).le le70
  have I := I.drop
  refine WP.exit ?_
  refine WP.seq ?_
  refine WP.region ?_
  refine Ops.y (v := .agg #[_, _]) (Y.loadv ty_25 rfl (I.rdbox 2 rfl 0 2) rfl rfl) ?_
  refine Ops.y (v := .slice _ _ _) (Y.move rfl) ?_
  refine Ops.go (O.call I Tryz.call7 (Once_own _ I.base_ok p hp hnm f hf ha 0) rfl ?_)
  rintro _ k1 w I l1 ⟨y, rfl, ey, iy, _⟩
  refine Ops.y (v := .tuple #[_, _, _]) (Y.move rfl) ?_
  refine Ops.y (v := .slice _ _ _) (Y.extract rfl rfl) ?_
  refine Ops.y (v := .bool _) (Y.extract rfl rfl) ?_
  refine Ops.y (v := .int .i64 _) (Y.extract rfl rfl) ?_
  refine Ops.y (v := .slice _ _ _) (Y.assign rfl) ?_
  refine Ops.y (v := .bool _) (Y.assign rfl) ?_
  refine Ops.y (v := .int .i64 _) (Y.assign rfl) ?_
  refine Ops.nil ?_
  refine WP.seq ?_
  refine WP.region ?_
  refine Ops.y (v := .pointer (some ⟨_, _, none⟩)) (Y.fa0 fa_25_0 rfl) ?_
  refine Ops.y (v := .slice _ _ _) (Y.loadv ty_22 rfl (I.rdbox 2 rfl 0 1) rfl rfl) ?_
  refine Ops.y (v := .slice _ _ _) (Y.move rfl) ?_
  refine Ops.y (v := .agg #[_, _, _, _]) (Y.loadv ty_28 rfl (I.rdbox 1 rfl 0 4) rfl rfl) ?_
  refine Ops.go (O.call I Tryz.call8 (Add_own _ I.base_ok p.preds (hp.le l1).preds f (hf.le l1) x) rfl ?_)
  rintro _ k2 w I l2 ⟨z, rfl, ez, iz, _⟩
  refine Ops.y (v := .tuple #[_, _, _]) (Y.move rfl) ?_
  refine Ops.y (v := .slice _ _ _) (Y.extract rfl rfl) ?_
  refine Ops.y (v := .bool _) (Y.extract rfl rfl) ?_
  refine Ops.y (v := .int .i64 _) (Y.extract rfl rfl) ?_
  refine Ops.y (v := .slice _ _ _) (Y.assign rfl) ?_
  refine Ops.y (v := .bool _) (Y.assign rfl) ?_
  refine Ops.y (v := .int .i64 _) (Y.assign rfl) ?_
  refine Ops.nil ?_
  have hp := (hp.le l1).le l2
  have hf := (hf.le l1).le l2
  refine WP.seq ?_
  refine WP.region ?_
  refine Ops.y (v := .agg #[_, _]) (Y.loadv ty_25 rfl (I.rdbox 2 rfl 0 2) rfl rfl) ?_
  refine Ops.go (O.call I Tryz.call9 (Without_ok _ I.base_ok p hp hnm 0) rfl ?_)
  rintro _ k3 w I l3 ⟨u, rfl, eu1, eu2, iu, _⟩
  refine Ops.y (v := .tuple #[_, _]) (Y.move rfl) ?_
  refine Ops.y (v := .agg #[_, _]) (Y.extract rfl rfl) ?_
  refine Ops.y (v := .int .i64 _) (Y.extract rfl rfl) ?_
  refine Ops.go (O.alloc I Tryz.zeroValue25 rfl ?_)
  intro b28 w I
  refine Ops.go (O.store (v := .agg #[_, _]) I ty_25 0 rfl rfl rfl rfl rfl rfl (Nat.le_of_ble_eq_true rfl) rfl ?_)
  intro w I
  refine Ops.y (v := .int .i64 _) (Y.assign rfl) ?_
  refine Ops.nil ?_
  refine WP.seq ?_
  refine WP.region ?_
  refine Ops.y (v := .agg #[_, _]) (Y.loadv ty_25 rfl (I.rdbox 3 rfl 0 2) rfl rfl) ?_
  refine Ops.y (v := .slice _ _ _) (Y.move rfl) ?_
  refine Ops.go (O.call I Tryz.call10 (OnceOf_ok _ I.base_ok p (hp.le l3) hpr f (hf.le l3) okf 0) rfl ?_)
  rintro _ k4 w I l4 ⟨y2, rfl, ey2, iy2⟩
  refine Ops.y (v := .tuple #[_, _]) (Y.move rfl) ?_
  refine Ops.y (v := .slice _ _ _) (Y.extract rfl rfl) ?_
  refine Ops.y (v := .bool _) (Y.extract rfl rfl) ?_
  refine Ops.y (v := .slice _ _ _) (Y.assign rfl) ?_
  refine Ops.y (v := .bool _) (Y.assign rfl) ?_
  refine Ops.nil ?_
  refine WP.seq ?_
  refine WP.region ?_
  refine Ops.y (v := .pointer (some ⟨_, _, none⟩)) (Y.fa0 fa_25_0 rfl) ?_
  refine Ops.y (v := .slice _ _ _) (Y.loadv ty_22 rfl (I.rdbox 3 rfl 0 1) rfl rfl) ?_
  refine Ops.y (v := .slice _ _ _) (Y.move rfl) ?_
  refine Ops.y (v := .agg #[_, _, _, _]) (Y.loadv ty_28 rfl (I.rdbox 2 rfl 0 4) rfl rfl) ?_
  refine Ops.go (O.call I Tryz.call11 (AddOf_ok _ I.base_ok p.preds ((hp.le l3).le l4).preds f ((hf.le l3).le l4) x) rfl ?_)
  rintro _ k5 w I l5 ⟨z2, rfl, ez2, iz2⟩
  refine Ops.y (v := .tuple #[_, _, _]) (Y.move rfl) ?_
  refine Ops.y (v := .slice _ _ _) (Y.extract rfl rfl) ?_
  refine Ops.y (v := .bool _) (Y.extract rfl rfl) ?_
  refine Ops.y (v := .int .i64 _) (Y.extract rfl rfl) ?_
  refine Ops.y (v := .slice _ _ _) (Y.assign rfl) ?_
  refine Ops.y (v := .bool _) (Y.assign rfl) ?_
  refine Ops.y (v := .int .i64 _) (Y.assign rfl) ?_
  refine Ops.nil ?_
  have hp := ((hp.le l3).le l4).le l5
  have hf := ((hf.le l3).le l4).le l5
  refine WP.seq ?_
  refine WP.region ?_
  refine Ops.y (v := .agg #[_, _]) (Y.loadv ty_25 rfl (I.rdbox 3 rfl 0 2) rfl rfl) ?_
  refine Ops.go (O.call I Tryz.call12 (WithoutOf_ok _ I.base_ok p hp hnm 0 hcap) rfl ?_)
  rintro _ k6 w I l6 ⟨u2, rfl, eu3, eu4, iu2, _⟩
  refine Ops.y (v := .tuple #[_, _]) (Y.move rfl) ?_
  refine Ops.y (v := .agg #[_, _]) (Y.extract rfl rfl) ?_
  refine Ops.y (v := .int .i64 _) (Y.extract rfl rfl) ?_
  refine Ops.go (O.alloc I Tryz.zeroValue25 rfl ?_)
  intro b35 w I
  refine Ops.go (O.store (v := .agg #[_, _]) I ty_25 0 rfl rfl rfl rfl rfl rfl (Nat.le_of_ble_eq_true rfl) rfl ?_)
  intro w I
  refine Ops.y (v := .int .i64 _) (Y.assign rfl) ?_
  refine Ops.nil ?_
  have iw := ((((((iw.le l1).le l2).le l3).le l4).le l5).le l6)
  refine WP.seq ?_
  refine WP.region ?_
  refine Ops.go (O.callv I Tryz.call5 (roundBegun_ok _ I.base_ok) rfl ?_)
  intro w I
  refine Ops.y (v := .bool _) (Y.move rfl) ?_
  refine Ops.ygt rfl (v := .int .i64 _) (Y.move rfl) ?_
  refine Ops.ygt rfl (v := .bool true) (Y.dec_t (Y.eqi rfl rfl) (rfl)) ?_
  refine Ops.y (v := .bool _) (Y.pick_t rfl rfl) ?_
  refine Ops.y (v := .bool _) (Y.move rfl) ?_
  refine Ops.ygt rfl (v := .int .i64 _) (Y.move rfl) ?_
  refine Ops.ygt rfl (v := .bool true) (Y.dec_t (Y.eqi rfl rfl) (rfl)) ?_
  refine Ops.y (v := .bool _) (Y.pick_t rfl rfl) ?_
  refine Ops.y (v := .bool _) (Y.move rfl) ?_
  refine Ops.ygt rfl (v := .int .i64 _) (Y.move rfl) ?_
  refine Ops.ygt rfl (v := .int .i64 _) (Y.move rfl) ?_
  refine Ops.ygt rfl (v := .bool true) (Y.dec_t (Y.eqi rfl rfl) (rfl)) ?_
  refine Ops.y (v := .bool _) (Y.pick_t rfl rfl) ?_
  refine Ops.y (v := .bool _) (Y.move rfl) ?_
  refine Ops.ygt rfl (v := .int .i64 _) (Y.move rfl) ?_
  refine Ops.ygt rfl (v := .int .i64 _) (Y.move rfl) ?_
  refine Ops.ygt rfl (v := .bool true) (Y.dec_t (Y.eqi rfl rfl) (rfl)) ?_
  refine Ops.y (v := .bool _) (Y.pick_t rfl rfl) ?_
  refine Ops.y (v := .bool _) (Y.move rfl) ?_
  refine Ops.ygt rfl (v := .int .i64 _) (Y.move rfl) ?_
  refine Ops.ygt rfl (v := .int .i64 _) (Y.move rfl) ?_
  refine Ops.ygt rfl (v := .bool true) (Y.dec_t (Y.eqi rfl rfl) (rfl)) ?_
  refine Ops.y (v := .bool _) (Y.pick_t rfl rfl) ?_
  refine Ops.y (v := .bool _) (Y.move rfl) ?_
  refine Ops.ygt rfl (v := .int .i64 _) (Y.move rfl) ?_
  refine Ops.ygt rfl (v := .int .i64 _) (Y.move rfl) ?_
  refine Ops.ygt rfl (v := .bool true) (Y.dec_t (Y.eqi rfl rfl) (rfl)) ?_
  refine Ops.y (v := .bool _) (Y.pick_t rfl rfl) ?_
  refine Ops.y (v := .bool _) (Y.move rfl) ?_
  refine Ops.ygt rfl (v := .slice _ _ _) (Y.move rfl) ?_
  refine Ops.ygt rfl (v := .slice _ _ _) (Y.move rfl) ?_
  refine Ops.gt rfl (O.callv I Tryz.call13 (SameFacts_at _ I.base_ok f rr (hf.le l6) iw hrx.symm) rfl ?_)
  intro w I
  refine Ops.y (v := .bool _) (Y.pick_t rfl rfl) ?_
  refine Ops.y (v := .bool _) (Y.move rfl) ?_
  refine Ops.ygt rfl (v := .agg #[_, _]) (Y.loadv ty_25 rfl (I.rdbox 4 rfl 0 2) rfl rfl) ?_
  refine Ops.gt rfl (O.callv I Tryz.call6 (ProgText_ok _ I.base_ok p (hp.le l6) hnm hpr) rfl ?_)
  intro w I
  refine Ops.ygt rfl (v := .string _) (Y.move rfl) ?_
  refine Ops.ygt rfl (v := .bool true) (Y.is (Y.eqs rfl rfl) ((by simp))) ?_
  refine Ops.y (v := .bool _) (Y.pick_t rfl rfl) ?_
  refine Ops.y (v := .bool _) (Y.move rfl) ?_
  refine Ops.ygt rfl (v := .slice _ _ _) (Y.move rfl) ?_
  refine Ops.ygt rfl (v := .slice _ _ _) (Y.move rfl) ?_
  refine Ops.gt rfl (O.callv I Tryz.call13 (SameFacts_at _ I.base_ok y y2 (((((iy.le l2).le l3).le l4).le l5).le l6) ((iy2.le l5).le l6) (by rw [ey, ey2])) rfl ?_)
  intro w I
  refine Ops.y (v := .bool _) (Y.pick_t rfl rfl) ?_
  refine Ops.y (v := .bool _) (Y.move rfl) ?_
  refine Ops.ygt rfl (v := .slice _ _ _) (Y.move rfl) ?_
  refine Ops.ygt rfl (v := .slice _ _ _) (Y.move rfl) ?_
  refine Ops.gt rfl (O.callv I Tryz.call13 (SameFacts_at _ I.base_ok z z2 ((((iz.le l3).le l4).le l5).le l6) (iz2.le l6) (by rw [ez, ez2])) rfl ?_)
  intro w I
  refine Ops.y (v := .bool _) (Y.pick_t rfl rfl) ?_
  refine Ops.y (v := .bool _) (Y.move rfl) ?_
  refine Ops.ygt rfl (v := .agg #[_, _]) (Y.loadv ty_25 rfl (I.rdbox 1 rfl 0 2) rfl rfl) ?_
  refine Ops.ygt rfl (v := .agg #[_, _]) (Y.loadv ty_25 rfl (I.rdbox 0 rfl 0 2) rfl rfl) ?_
  refine Ops.gt rfl (O.callv I Tryz.call14 (SameProgs_at _ I.base_ok u u2 (((iu.le l4).le l5).le l6) iu2 (er_same (eu1.trans eu3.symm) (eu2.trans eu4.symm))) rfl ?_)
  intro w I
  refine Ops.y (v := .bool _) (Y.pick_t rfl rfl) ?_
  refine Ops.y (v := .bool _) (Y.assign rfl) ?_
  refine Ops.nil ?_
  refine WP.ret ?_
  repeat (first | refine thenE_ret ?_ | refine blockE_ret ?_)
  exact retQ.mk (vs := [.bool _]) rfl ⟨rfl, trivial⟩ I.ext_of (rfl)
end Go.TF
end
