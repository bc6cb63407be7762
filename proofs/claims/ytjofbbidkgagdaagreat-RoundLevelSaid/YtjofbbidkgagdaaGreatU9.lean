/- Texts Rnd3 SpRound2 Rnd4 Open RndLaw RndLaw2 RndLaw3. -/
import Derived.Test.YtjofbbidkgagdaaGreatU8
import Derived.Test.YtjofbbidkgagdaaGreatU2
import Derived.Deep.Slices
import Derived.SizedLaws
import Derived.OpenShut
import Derived.ChangeArms
section
/- What the document says of a round, and of what is closed. -/
namespace Go.TF
open Go Go.RowKit Go.Proofs
set_option maxRecDepth 20000

set_option maxHeartbeats 8000000 in
theorem OnceOf_ok (B : Base) (hB : B.ok) (p : Prg) (hp : p.In B.h) (hpr : checkProg p = 0) (f : Sl Fct) (hf : Fcts f B.h) (okf : FOk p.preds.xs f.xs) (st : Int) : Fn Tryz.prog 19 [p.val, f.val, .int .i64 st] B (PutP (turnL p.preds.xs f.xs (toldL p.preds.xs f.xs p.rules.xs (ofQ p (strataM p) st)))) := by
  have h125 := okf.le125
  obtain ⟨k1, k2, k3, _, _⟩ := checkProg_ok hpr
  have hin := heads_in k3
  have hsr := hp.rules.is.small
  refine Fn.of Tryz.func19 rfl Tryz.ntmps19 (by kernel_rfl) (by simp) ?_
  intro e
  have I := Inv.start hB
  refine WP.seq ?_
  refine WP.region ?_
  refine Ops.go (O.box (v := .agg #[_, _]) I rfl rfl ?_)
  intro b3 w I
  refine Ops.y (v := .slice _ _ _) (Y.assign rfl) ?_
  refine Ops.y (v := .bool _) (Y.assign rfl) ?_
  refine Ops.nil ?_
  refine WP.seq ?_
  refine WP.region ?_
  refine Ops.y (v := .agg #[_, _]) (Y.loadv ty_25 rfl (I.rdbox 0 rfl 0 2) rfl rfl) ?_
  refine Ops.go (O.call I Tryz.call45 (StrataOf_ok _ I.base_ok p hp hpr) rfl ?_)
  rintro _ h1 w I le1 ⟨s, hS, hI, rfl⟩
  refine Ops.y (v := .slice _ _ _) (Y.assign rfl) ?_
  refine Ops.nil ?_
  have eM := strataM_eq hS
  have hsl : s.xs.length = p.preds.xs.length := hS.sol.len
  obtain ⟨q, hqd⟩ : ∃ q, ofQ p (strataM p) st = q := ⟨_, rfl⟩
  rw [hqd]
  refine WP.seq ?_
  refine WP.region ?_
  refine Ops.go (O.mkE (α := Fct) Fct.enc I Tryz.underlying26 Tryz.sizeOf29 ?_)
  intro s19 h19 w I le19 e19 c19 a19 o19
  refine Ops.y (v := .slice _ _ _) (Y.move rfl) ?_
  refine Ops.go (O.appendE (α := Fct) I Tryz.underlying26 et_29 (fun _ => rfl) o19 le19 e19 c19 a19 (hf.el.le (le1.trans le19)) rfl rfl (by omega) (by omega) ?_)
  intro rr h2 w I le2 hrx o2 r0
  refine Ops.y (v := rr.val) (Y.assign rfl) ?_
  refine Ops.nil ?_
  have gl2 := (le1.trans le19).trans le2
  have irr : Fcts rr h2 := ⟨o2.in (fun _ => rfl), by rw [hrx]; omega⟩
  refine WP.seq ?_
  refine WP.region ?_
  refine Ops.y (v := .bool _) (Y.assign rfl) ?_
  refine Ops.nil ?_
  refine WP.seq ?_
  refine WP.seq ?_
  refine WP.region ?_
  refine Ops.y (v := .int .i64 _) (Y.assign rfl) ?_
  refine Ops.nil ?_
  refine WP.block ?_
  refine WP.loopE (σ := Nat × Sl Fct × Bool × Heap) (fun s' => [(1, f.val), (2, .int .i64 st), (3, .pointer (some ⟨b3, 0, none⟩)), (8, s.val), (9, s'.2.1.val), (10, .bool s'.2.2.1), (11, .int .i64 s'.1)])
    (fun s' w => Inv B s'.2.2.2 [box b3 p.enc 25] w ∧ s'.1 ≤ p.rules.xs.length ∧ h2.le s'.2.2.2 ∧ (s'.2.1.xs, s'.2.2.1) = turnL p.preds.xs f.xs (toldK p.preds.xs f.xs p.rules.xs q s'.1) ∧ Fcts s'.2.1 s'.2.2.2) (fun s' => p.rules.xs.length - s'.1)
    ⟨(0, rr, false, h2), ⟨rfl, rfl, rfl, rfl, rfl, rfl, rfl, trivial⟩, I, Nat.zero_le _, Heap.le.refl _, by dsimp only; rw [hrx]; rfl, irr⟩ ?_
  rintro ⟨n, u, ch, hh⟩ e w ⟨I, hn, gl, hj, iu⟩
  dsimp only at I hn gl hj iu ⊢
  have hp := hp.le (gl2.trans gl)
  have hf := hf.le (gl2.trans gl)
  have hI := hI.le ((le19.trans le2).trans gl)
  refine WP.seq ?_
  refine WP.seq ?_
  refine WP.region ?_
  refine Ops.y (v := .int .i64 _) (Y.move rfl) ?_
  refine Ops.y (v := .pointer (some ⟨_, _, none⟩)) (Y.fa fa_25_1 rfl) ?_
  refine Ops.y (v := .slice _ _ _) (Y.loadv ty_23 rfl (I.rdbox 0 rfl 1 1) rfl rfl) ?_
  refine Ops.y (v := .int .i64 _) (Y.lens Tryz.underlying23 rfl) ?_
  refine Ops.y (v := .bool (decide _)) (Y.lti rfl rfl) ?_
  refine Ops.nil ?_
  refine WP.cond_dec rfl (fun h5 => ?_) (fun h5 => ?_)
  · have hn' : n < p.rules.xs.length := by omega
    have hr : p.rules.xs[n]? = some p.rules.xs[n] := List.getElem?_eq_getElem hn'
    have hr' : p.rules.xs[(n : Int).toNat]? = some p.rules.xs[n] := by rw [Int.toNat_natCast]; exact hr
    have ok := rules_rok hpr okf _ (List.getElem_mem hn')
    have hgd : p.rules.xs.getD n default = p.rules.xs[n] := by rw [List.getD_eq_getElem?_getD, hr]; rfl
    have Er := hp.rules.is.at hn'
    obtain ⟨i0, i1⟩ := hin _ (List.getElem_mem hn')
    have El1 := hI.el.el (lv_some hsl i0 i1)
    have hqn : q n = decide (lv s.xs p.rules.xs[n].head.pred = st) := by rw [← hqd, eM]; unfold ofQ; rw [hgd]
    refine WP.skip ?_
    refine WP.seq ?_
    refine WP.block ?_
    refine WP.seq ?_
    refine WP.seq ?_
    refine WP.region ?_
    refine Ops.y (v := .slice _ _ _) (Y.move rfl) ?_
    refine Ops.y (v := .pointer (some ⟨_, _, none⟩)) (Y.fa fa_25_1 rfl) ?_
    refine Ops.y (v := .slice _ _ _) (Y.loadv ty_23 rfl (I.rdbox 0 rfl 1 1) rfl rfl) ?_
    refine Ops.y (v := .int .i64 _) (Y.move rfl) ?_
    refine Ops.y (v := .pointer (some ⟨_, _, none⟩)) (Y.idxEl Er Tryz.underlying23 Tryz.sizeOf74 rfl rfl (Int.natCast_nonneg _) rfl) ?_
    refine Ops.y (v := .pointer (some ⟨_, _, none⟩)) (Y.fa0 fa_74_0 rfl) ?_
    refine Ops.y (v := .pointer (some ⟨_, _, none⟩)) (Y.fa0 fa_71_0 rfl) ?_
    refine Ops.y (v := .int .i64 _) (Y.loadv ty_3 rfl (I.rd (Er.rd.part 0 1)) rfl rfl) ?_
    refine Ops.y (v := .pointer (some ⟨_, _, none⟩)) (Y.idxEl El1 Tryz.underlying51 Tryz.sizeOf3 rfl rfl i0 rfl) ?_
    refine Ops.y (v := .int .i64 _) (Y.loadv ty_3 rfl (I.rd (El1.rd.part 0 1)) rfl rfl) ?_
    refine Ops.y (v := .int .i64 _) (Y.move rfl) ?_
    refine Ops.y (v := .bool (decide _)) (Y.nei rfl rfl) ?_
    refine Ops.nil ?_
    refine WP.cond_dec rfl (fun h7 => ?_) (fun h7 => ?_)
    · have hN : toldN p.preds.xs f.xs p.rules.xs q n = [] := by unfold toldN; rw [hqn, decide_eq_false h7]; rfl
      refine WP.exit ?_
      refine WP.region ?_
      refine Ops.y (v := .int .i64 _) (Y.move rfl) ?_
      refine Ops.y (v := .int .i64 _) (Y.addi rfl rfl ⟨by omega, by omega⟩) ?_
      refine Ops.y (v := .int .i64 _) (Y.assign rfl) ?_
      refine Ops.nil ?_
      exact ⟨(n + 1, u, ch, hh), ⟨⟨rfl, rfl, rfl, rfl, rfl, rfl, rfl, trivial⟩, I, by dsimp only; omega, gl, by dsimp only; rw [toldK_succ, hN, List.append_nil]; exact hj, iu⟩, by dsimp only; omega⟩
    have hN : toldN p.preds.xs f.xs p.rules.xs q n = (stepsF f.xs n p.rules.xs[n]).map fun s => (s, headF p.preds.xs f.xs p.rules.xs[n] s.vars) := by unfold toldN; rw [hqn, decide_eq_true (Decidable.not_not.1 h7), if_pos rfl, hgd]
    refine WP.skip ?_
    refine WP.seq ?_
    refine WP.region ?_
    refine Ops.y (v := .agg #[_, _]) (Y.loadv ty_25 rfl (I.rdbox 0 rfl 0 2) rfl rfl) ?_
    refine Ops.y (v := .slice _ _ _) (Y.move rfl) ?_
    refine Ops.y (v := .int .i64 _) (Y.move rfl) ?_
    refine Ops.go (O.call I Tryz.call14 (AllOf_ok _ I.base_ok p hp f hf n p.rules.xs[n] (by omega) hr' ok okf) rfl ?_)
    rintro _ h8 w I le8 ⟨sl, rfl, hsl, isl⟩
    refine Ops.y (v := .slice _ _ _) (Y.assign rfl) ?_
    refine Ops.nil ?_
    have hp := hp.le le8
    have hf := hf.le le8
    have hI := hI.le le8
    have hss := isl.small
    have hNl : (toldN p.preds.xs f.xs p.rules.xs q n).length = sl.xs.length := by rw [hN, List.length_map, hsl]
    refine WP.seq ?_
    refine WP.region ?_
    refine Ops.y (v := .int .i64 _) (Y.assign rfl) ?_
    refine Ops.nil ?_
    refine WP.block ?_
    refine WP.loopE (σ := Nat × Sl Fct × Bool × Heap) (fun s' => [(1, f.val), (2, .int .i64 st), (3, .pointer (some ⟨b3, 0, none⟩)), (8, s.val), (9, s'.2.1.val), (10, .bool s'.2.2.1), (11, .int .i64 n), (12, sl.val), (13, .int .i64 s'.1)])
      (fun s' w => Inv B s'.2.2.2 [box b3 p.enc 25] w ∧ s'.1 ≤ sl.xs.length ∧ h8.le s'.2.2.2 ∧ (s'.2.1.xs, s'.2.2.1) = turnL p.preds.xs f.xs (toldK p.preds.xs f.xs p.rules.xs q n ++ (toldN p.preds.xs f.xs p.rules.xs q n).take s'.1) ∧ Fcts s'.2.1 s'.2.2.2) (fun s' => sl.xs.length - s'.1)
      ⟨(0, u, ch, h8), ⟨rfl, rfl, rfl, rfl, rfl, rfl, rfl, rfl, rfl, trivial⟩, I, Nat.zero_le _, Heap.le.refl _, by dsimp only; rw [List.take_zero, List.append_nil]; exact hj, iu.le le8⟩ ?_
    rintro ⟨k, u, ch, h9⟩ e w ⟨I, hk, gl9, hj, iu⟩
    dsimp only at I hk gl9 hj iu ⊢
    have hp := hp.le gl9
    have hf := hf.le gl9
    refine WP.seq ?_
    refine WP.seq ?_
    refine WP.region ?_
    refine Ops.y (v := .int .i64 _) (Y.move rfl) ?_
    refine Ops.y (v := .slice _ _ _) (Y.move rfl) ?_
    refine Ops.y (v := .int .i64 _) (Y.lens Tryz.underlying35 rfl) ?_
    refine Ops.y (v := .bool (decide _)) (Y.lti rfl rfl) ?_
    refine Ops.nil ?_
    refine WP.cond_dec rfl (fun h10 => ?_) (fun h10 => ?_)
    · have hk' : k < sl.xs.length := by omega
      have E := (isl.le gl9).at hk'
      have hmem : sl.xs[k] ∈ stepsF f.xs n p.rules.xs[n] := hsl ▸ List.getElem_mem hk'
      obtain ⟨_, hvs, hhf⟩ := steps_holds hmem
      obtain ⟨y, hy⟩ : ∃ y, headF p.preds.xs f.xs p.rules.xs[n] sl.xs[k].vars = y := ⟨_, rfl⟩
      have hyF : holdsF p.preds.xs f.xs p.rules.xs[n] sl.xs[k].vars = (true, y) := by unfold holdsF; rw [if_pos hhf, hy]
      have hfine : factFine p.preds.xs y = true := hy ▸ headF_fine ok okf hvs hhf
      have oku : FOk p.preds.xs u.xs := by
        have := turn_fok okf (ts := toldK p.preds.xs f.xs p.rules.xs q n ++ (toldN p.preds.xs f.xs p.rules.xs q n).take k) fun t ht => told_fine (q := q) (rules_rok hpr okf) okf t (by
          rcases List.mem_append.1 ht with ht | ht
          · unfold toldK at ht
            obtain ⟨m, hm, ht⟩ := List.mem_flatMap.1 ht
            exact List.mem_flatMap.2 ⟨m, List.mem_range.2 (by have := List.mem_range.1 hm; omega), ht⟩
          · exact List.mem_flatMap.2 ⟨n, List.mem_range.2 hn', List.mem_of_mem_take ht⟩)
        rw [← hj] at this; exact this
      have hget : (toldN p.preds.xs f.xs p.rules.xs q n)[k]'(by omega) = (sl.xs[k], y) := by
        have h1 : (toldN p.preds.xs f.xs p.rules.xs q n)[k]? = some (sl.xs[k], y) := by rw [hN, List.getElem?_map, ← hsl, List.getElem?_eq_getElem hk', ← hy]; rfl
        exact (List.getElem?_eq_some_iff.1 h1).2
      have hnx : putS p.preds.xs (u.xs, ch) y = turnL p.preds.xs f.xs (toldK p.preds.xs f.xs p.rules.xs q n ++ (toldN p.preds.xs f.xs p.rules.xs q n).take (k + 1)) := by
        rw [List.take_succ_eq_append_getElem (by omega), hget, ← List.append_assoc, turnL_snoc, ← hj]
      refine WP.skip ?_
      refine WP.seq ?_
      refine WP.block ?_
      refine WP.seq ?_
      refine WP.regionG mixed RBx.pre ⟨h9, none, none⟩ (J := JBx B [box b3 p.enc 25] 29 [.int .i64 0, .int .i64 0, .int .i64 0, .int .i64 0] y.enc 12 99 14) ⟨rfl, rfl, fun h => (by cases h), I.drew⟩ 15 (by kernel_rfl) ?_
      refine OpsG.y_ (v := .agg #[_, _]) (fun _ => runsG_none _) RBx.pre (JBx.set (by decide)) (fun _ s w us hl hj => have I := hj.base; have hl := hl.h; Y.loadv ty_25 rfl (I.rdbox 0 rfl 0 2) rfl rfl) ?_
      refine OpsG.y_ (v := .slice _ _ _) (fun _ => runsG_none _) RBx.pre (JBx.set (by decide)) (fun _ s w us hl hj => have I := hj.base; have hl := hl.h; Y.move rfl) ?_
      refine OpsG.y_ (v := .int .i64 _) (fun _ => runsG_none _) RBx.pre (JBx.set (by decide)) (fun _ s w us hl hj => have I := hj.base; have hl := hl.h; Y.move rfl) ?_
      refine OpsG.y_ (v := .slice _ _ _) (fun _ => runsG_none _) RBx.pre (JBx.set (by decide)) (fun _ s w us hl hj => have I := hj.base; have hl := hl.h; Y.move rfl) ?_
      refine OpsG.y_ (v := .int .i64 _) (fun _ => runsG_none _) RBx.pre (JBx.set (by decide)) (fun _ s w us hl hj => have I := hj.base; have hl := hl.h; Y.move rfl) ?_
      refine OpsG.y_ (v := .pointer (some ⟨_, _, none⟩)) (fun _ => runsG_none _) RBx.pre (JBx.set (by decide)) (fun _ s w us hl hj => have I := hj.base; have hl := hl.h; Y.idxEl E Tryz.underlying35 Tryz.sizeOf63 rfl rfl (Int.natCast_nonneg _) rfl) ?_
      refine OpsG.y_ (v := .pointer (some ⟨_, _, none⟩)) (fun _ => runsG_none _) RBx.pre (JBx.set (by decide)) (fun _ s w us hl hj => have I := hj.base; have hl := hl.h; Y.fa fa_63_1 rfl) ?_
      refine OpsG.y_ (v := .agg #[_, _, _]) (fun _ => runsG_none _) RBx.pre (JBx.set (by decide)) (fun _ s w us hl hj => have I := hj.base; have hl := hl.h; Y.loadv ty_27 rfl (I.rd ((E.rd.part 1 3).le hl)) rfl rfl) ?_
      refine OpsG.c_ (by decide) (fun _ s w us hl hj => have I := hj.inv; have hl := hl.h; O.callv I Tryz.call30 (hyF ▸ rholds_ok _ I.base_ok p (hp.le hl) f (hf.le hl) n p.rules.xs[n] (by omega) hr' ok okf sl.xs[k].vars hvs) rfl (fun w' I' => ⟨rfl, ⟨hj.h7, hj.h8, hj.ord, I'⟩⟩)) ?_
      refine OpsG.y_ (v := .tuple #[_, _]) (fun _ => runsG_none _) RBx.pre (JBx.set (by decide)) (fun _ s w us hl hj => have I := hj.base; have hl := hl.h; Y.move rfl) ?_
      refine OpsG.y_ (v := .bool _) (fun _ => runsG_none _) RBx.pre (JBx.set (by decide)) (fun _ s w us hl hj => have I := hj.base; have hl := hl.h; Y.extract rfl rfl) ?_
      refine OpsG.y_ (v := .agg #[_, _, _, _]) (fun _ => runsG_none _) RBx.pre (JBx.set (by decide)) (fun _ s w us hl hj => have I := hj.base; have hl := hl.h; Y.extract rfl rfl) ?_
      refine OpsG.make7 Tryz.zeroValue29 rfl (by decide) (by decide) ?_
      refine OpsG.y_ (v := .bool _) (fun _ => runsG_none _) RBx.pre (JBx.set (by decide)) (fun _ s w us hl hj => have I := hj.base; have hl := hl.h; Y.assign rfl) ?_
      refine OpsG.store7 ty_29 rfl rfl (fun s => by intro u15 q15; exact ⟨q15 rfl, rfl⟩) rfl rfl (by decide) (by decide) ?_
      refine OpsG.nil ?_
      intro D s' w hD hl hj' u15 q15
      refine Ops.nil ?_
      obtain ⟨b15, rfl, h15⟩ := q15 rfl
      have I := hj'.inv
      rw [h15, hD 14 (by omega)] at I
      have hl := hl.h
      generalize s'.o8 = o8 at I
      generalize s'.h = h12 at I hl
      have I : Inv B h12 [box b15 y.enc 29, box b3 p.enc 25] w := by
        cases o8 with
        | none => exact I
        | some b8 => exact I.weak (List.Sublist.cons_cons _ (List.sublist_cons_self _ _))
      have hp := hp.le hl
      refine WP.seq ?_
      refine WP.region ?_
      refine Ops.y (v := .bool _) (Y.assign rfl) ?_
      refine Ops.nil ?_
      refine WP.seq ?_
      refine WP.region ?_
      refine Ops.y (v := .pointer (some ⟨_, _, none⟩)) (Y.fa0 fa_25_0 rfl) ?_
      refine Ops.y (v := .slice _ _ _) (Y.loadv ty_22 rfl (I.rdbox 1 rfl 0 1) rfl rfl) ?_
      refine Ops.y (v := u.val) (Y.move rfl) ?_
      refine Ops.y (v := .agg #[_, _, _, _]) (Y.loadv ty_29 rfl (I.rdbox 0 rfl 0 4) rfl rfl) ?_
      refine Ops.go (O.call I Tryz.call46 (radd_ok _ I.base_ok p.preds hp.preds u (iu.le hl) oku y hfine) rfl ?_)
      rintro _ h5 w I le5 ⟨u2, rfl, hu2, iu2⟩
      refine Ops.y (v := .tuple #[_, _]) (Y.move rfl) ?_
      refine Ops.y (v := .slice _ _ _) (Y.extract rfl rfl) ?_
      refine Ops.y (v := .bool _) (Y.extract rfl rfl) ?_
      refine Ops.y (v := .slice _ _ _) (Y.assign rfl) ?_
      refine Ops.y (v := .bool _) (Y.assign rfl) ?_
      refine Ops.nil ?_
      cases ch
      · refine WP.region ?_
        refine Ops.y (v := .bool _) (Y.move rfl) ?_
        refine Ops.y (v := .bool false) (Y.b (Y.move rfl) (rfl)) ?_
        refine Ops.ygt rfl (v := .bool _) (Y.move rfl) ?_
        refine Ops.y (v := .bool _) (Y.pick_f rfl rfl) ?_
        refine Ops.y (v := .bool _) (Y.assign rfl) ?_
        refine Ops.nil ?_
        refine WP.region ?_
        refine Ops.y (v := .int .i64 _) (Y.move rfl) ?_
        refine Ops.y (v := .int .i64 _) (Y.addi rfl rfl ⟨by omega, by omega⟩) ?_
        refine Ops.y (v := .int .i64 _) (Y.assign rfl) ?_
        refine Ops.nil ?_
        exact ⟨(k + 1, u2, _, h5), ⟨⟨rfl, rfl, rfl, rfl, rfl, rfl, rfl, rfl, rfl, trivial⟩, I.drop, by dsimp only; omega, (gl9.trans hl).trans le5, by dsimp only; rw [← hnx, hu2]; rfl, iu2⟩, by dsimp only; omega⟩
      · refine WP.region ?_
        refine Ops.y (v := .bool _) (Y.move rfl) ?_
        refine Ops.y (v := .bool true) (Y.b (Y.move rfl) (rfl)) ?_
        refine Ops.gf rfl ?_
        refine Ops.y (v := .bool _) (Y.pick_t rfl rfl) ?_
        refine Ops.y (v := .bool _) (Y.assign rfl) ?_
        refine Ops.nil ?_
        refine WP.region ?_
        refine Ops.y (v := .int .i64 _) (Y.move rfl) ?_
        refine Ops.y (v := .int .i64 _) (Y.addi rfl rfl ⟨by omega, by omega⟩) ?_
        refine Ops.y (v := .int .i64 _) (Y.assign rfl) ?_
        refine Ops.nil ?_
        exact ⟨(k + 1, u2, _, h5), ⟨⟨rfl, rfl, rfl, rfl, rfl, rfl, rfl, rfl, rfl, trivial⟩, I.drop, by dsimp only; omega, (gl9.trans hl).trans le5, by dsimp only; rw [← hnx, hu2]; rfl, iu2⟩, by dsimp only; omega⟩
    obtain rfl : k = sl.xs.length := by omega
    refine WP.exit ?_
    refine WP.region ?_
    refine Ops.y (v := .int .i64 _) (Y.move rfl) ?_
    refine Ops.y (v := .int .i64 _) (Y.addi rfl rfl ⟨by omega, by omega⟩) ?_
    refine Ops.y (v := .int .i64 _) (Y.assign rfl) ?_
    refine Ops.nil ?_
    exact ⟨(n + 1, u, ch, h9), ⟨⟨rfl, rfl, rfl, rfl, rfl, rfl, rfl, trivial⟩, I, by dsimp only; omega, (gl.trans le8).trans gl9, by dsimp only; rw [toldK_succ, hj, ← hNl, List.take_length], iu⟩, by dsimp only; omega⟩
  obtain rfl : n = p.rules.xs.length := by omega
  refine WP.exit ?_
  refine WP.seq ?_
  refine WP.region ?_
  refine Ops.y (v := .slice _ _ _) (Y.move rfl) ?_
  refine Ops.y (v := .bool _) (Y.move rfl) ?_
  refine Ops.y (v := .slice _ _ _) (Y.assign rfl) ?_
  refine Ops.y (v := .bool _) (Y.assign rfl) ?_
  refine Ops.nil ?_
  refine WP.ret ?_
  repeat (first | refine thenE_ret ?_ | refine blockE_ret ?_)
  exact retQ.mk (vs := [.slice _ _ _, .bool _]) rfl ⟨rfl, rfl, trivial⟩ I.ext_of (⟨u, by rw [← hj]; rfl, by rw [← hj], iu⟩)
end Go.TF
end
section
/- What is told and put is the least above both; levels; more facts: plain. -/
namespace Go.TF
open Go

section
variable {l : List Prd} {f b : List Fct} {x : Fct}
theorem add_least (hf : FOk l f) (hb : FOk l b) (hx : factFine l x = true) (h1 : underF l f b = true) (h2 : underF l [x] b = true) : underF l (addL l f x) b = true := underF_iff.2 fun z hz => by
  have okA : FOk l (addL l f x) := addF_fok hf hx
  have hzf := okA.fine z hz
  have hlz := lkF_of_mem okA.srt hz
  rw [lkF_addL hf] at hlz
  obtain ⟨v, hv1, hv2⟩ := underF_iff.1 h2 x (List.mem_singleton_self _)
  split at hlz
  · rename_i e
    have hpz := same_pred hf.len hzf hx e
    rw [e] at hlz
    rw [e, hpz]
    refine ⟨v, hv1, ?_⟩
    injection hlz with hlz
    rw [← hlz]
    cases hu : lkF f (placeF x) with
    | none => exact hv2
    | some u =>
      obtain ⟨y, hy, ey, rfl⟩ := lkF_mem hu
      obtain ⟨v', k1, k2⟩ := underF_iff.1 h1 y hy
      rw [ey, hv1] at k1
      injection k1 with k1; subst k1
      have hyp := same_pred hf.len (hf.fine y hy) hx ey
      rw [hyp] at k2
      have hvo := hb.look hx hv1
      have hyo := fine_v (hf.fine y hy); rw [hyp] at hyo
      exact (leV_join_iff hyo (fine_v hx) hvo).2 ⟨k2, hv2⟩
  · obtain ⟨y, hy, ey, e2⟩ := lkF_mem hlz
    obtain ⟨v', k1, k2⟩ := underF_iff.1 h1 y hy
    have hyp := same_pred hf.len (hf.fine y hy) hzf ey
    rw [ey] at k1
    rw [hyp, e2] at k2
    exact ⟨v', k1, k2⟩
theorem under_put (hf : FOk l f) (hx : factFine l x = true) (h : underF l [x] f = true) : addF (predOf l x.pred).kind f x = (f, false) := by
  obtain ⟨v, h1, h2⟩ := underF_iff.1 h x (List.mem_singleton_self _)
  have hv := hf.look hx h1
  have hc : (addF (predOf l x.pred).kind f x).2 = false := by
    rw [addF_chg hf.srt, h1]
    apply decide_eq_false
    intro hh
    apply hh
    show some v = some (joinV _ v x.v)
    rw [joinV_comm hv (fine_v hx), show joinV _ x.v v = v from h2]
  exact Prod.ext (addF_same hc) hc
end
def runL (l : List Prd) (s : List Fct × Bool) (ts : List (Stp × Fct)) : List Fct × Bool := ts.foldl (fun s t => putS l s t.2) s
structure RunUp (l : List Prd) (s r : List Fct × Bool) (ts : List (Stp × Fct)) : Prop where
  fok : FOk l r.1
  up : underF l s.1 r.1 = true
  each : ∀ t ∈ ts, underF l [t.2] r.1 = true
  no : r.2 = false → s.2 = false ∧ r.1 = s.1
  yes : r.2 = true → s.2 = true ∨ r.1 ≠ s.1
theorem run_up {l : List Prd} : ∀ (ts : List (Stp × Fct)) (s : List Fct × Bool), FOk l s.1 → (∀ t ∈ ts, factFine l t.2 = true) → RunUp l s (runL l s ts) ts
  | [], s, hs, _ => ⟨hs, under_refl hs, fun t ht => by simp at ht, fun h => ⟨h, rfl⟩, fun h => .inl h⟩
  | t :: ts, s, hs, hf => by
    have hx := hf t List.mem_cons_self
    have hs' : FOk l (putS l s t.2).1 := addF_fok hs hx
    have ih := run_up ts (putS l s t.2) hs' fun u hu => hf u (List.mem_cons_of_mem _ hu)
    have hr : runL l s (t :: ts) = runL l (putS l s t.2) ts := rfl
    rw [hr]
    have u1 : underF l s.1 (putS l s t.2).1 = true := under_add hs hx
    have u2 : underF l [t.2] (putS l s t.2).1 = true := under_one hs hx
    have hch : (putS l s t.2).2 = (s.2 || decide ((putS l s t.2).1 ≠ s.1)) := by show (s.2 || (addF _ s.1 t.2).2) = _; rw [add_chg hs]; rfl
    refine ⟨ih.fok, under_trans hs hs' ih.fok u1 ih.up, fun u hu => ?_, fun h => ?_, fun h => ?_⟩
    · rcases List.mem_cons.1 hu with rfl | hu
      · exact under_trans (fok_one hs.len hs.preds hx) hs' ih.fok u2 ih.up
      · exact ih.each u hu
    · obtain ⟨h1, h2⟩ := ih.no h
      rw [hch, Bool.or_eq_false_iff, decide_eq_false_iff_not, Decidable.not_not] at h1
      exact ⟨h1.1, h2.trans h1.2⟩
    · have key : (runL l (putS l s t.2) ts).1 = s.1 → (putS l s t.2).1 = s.1 := fun e => by
        have := ih.up
        rw [e] at this
        exact under_anti hs' hs this u1
      rcases ih.yes h with h1 | h1
      · rw [hch, Bool.or_eq_true, decide_eq_true_eq] at h1
        rcases h1 with h1 | h1
        · exact .inl h1
        · exact .inr fun e => h1 (key e)
      · exact .inr fun e => h1 (e.trans (key e).symm)
theorem run_least {l : List Prd} {b : List Fct} (hb : FOk l b) : ∀ (ts : List (Stp × Fct)) (s : List Fct × Bool), FOk l s.1 → (∀ t ∈ ts, factFine l t.2 = true) → underF l s.1 b = true → (∀ t ∈ ts, underF l [t.2] b = true) → underF l (runL l s ts).1 b = true
  | [], s, _, _, h, _ => h
  | t :: ts, s, hs, hf, h, ht => by
    have hx := hf t List.mem_cons_self
    exact run_least hb ts (putS l s t.2) (addF_fok hs hx) (fun u hu => hf u (List.mem_cons_of_mem _ hu)) (add_least hs hb hx h (ht t List.mem_cons_self)) fun u hu => ht u (List.mem_cons_of_mem _ hu)
theorem run_same {l : List Prd} {f : List Fct} (hf : FOk l f) : ∀ (ts : List (Stp × Fct)), (∀ t ∈ ts, factFine l t.2 = true) → (∀ t ∈ ts, underF l [t.2] f = true) → runL l (f, false) ts = (f, false)
  | [], _, _ => rfl
  | t :: ts, h1, h2 => by
    have : putS l (f, false) t.2 = (f, false) := by
      unfold putS
      rw [under_put hf (h1 t List.mem_cons_self) (h2 t List.mem_cons_self)]
      rfl
    show runL l (putS l (f, false) t.2) ts = _
    rw [this]
    exact run_same hf ts (fun u hu => h1 u (List.mem_cons_of_mem _ hu)) fun u hu => h2 u (List.mem_cons_of_mem _ hu)
theorem turn_run (l : List Prd) (f : List Fct) (ts : List (Stp × Fct)) : turnL l f ts = runL l (f, false) ts := rfl
section
variable {l : List Prd} {f : List Fct} {ts : List (Stp × Fct)} (hf : FOk l f) (ht : ∀ t ∈ ts, factFine l t.2 = true)
include hf ht
theorem turn_chg : (turnL l f ts).2 = decide ((turnL l f ts).1 ≠ f) := by
  have r := run_up ts (f, false) hf ht
  rw [turn_run]
  cases h : (runL l (f, false) ts).2
  · exact (decide_eq_false (fun e => e (r.no h).2)).symm
  · rcases r.yes h with h1 | h1
    · cases h1
    · exact (decide_eq_true h1).symm
theorem turn_above : underF l f (turnL l f ts).1 = true := (run_up ts (f, false) hf ht).up
theorem turn_no : (turnL l f ts).2 = false ↔ ∀ t ∈ ts, underF l [t.2] f = true := by
  have r := run_up ts (f, false) hf ht
  constructor
  · intro h t htm
    have := r.each t htm
    rwa [(r.no h).2] at this
  · intro h
    rw [turn_run, run_same hf ts ht h]
end
/-! ### Levels -/
theorem filter_add {M : List Int} {st k : Int} {x : Fct} (hx : lv M x.pred = st) : ∀ {f : List Fct}, (∀ y ∈ f, placeF y = placeF x → y.pred = x.pred) → (addF k f x).1.filter (fun y => decide (lv M y.pred ≠ st)) = f.filter fun y => decide (lv M y.pred ≠ st)
  | [], _ => by simp [addF, hx]
  | y :: r, h => by
    rw [addF]
    split
    · rename_i e
      have hy : lv M y.pred = st := by rw [h y List.mem_cons_self e]; exact hx
      simp [hy]
    · split
      · simp [hx]
      · show (y :: (addF k r x).1).filter _ = _
        rw [List.filter_cons, List.filter_cons, filter_add hx fun z hz => h z (List.mem_cons_of_mem _ hz)]
theorem filter_run {l : List Prd} {M : List Int} {st : Int} : ∀ (ts : List (Stp × Fct)) (s : List Fct × Bool), FOk l s.1 → (∀ t ∈ ts, factFine l t.2 = true) → (∀ t ∈ ts, lv M t.2.pred = st) → (runL l s ts).1.filter (fun y => decide (lv M y.pred ≠ st)) = s.1.filter fun y => decide (lv M y.pred ≠ st)
  | [], s, _, _, _ => rfl
  | t :: ts, s, hs, hf, ht => by
    have hx := hf t List.mem_cons_self
    have := filter_run ts (putS l s t.2) (addF_fok hs hx) (fun u hu => hf u (List.mem_cons_of_mem _ hu)) fun u hu => ht u (List.mem_cons_of_mem _ hu)
    exact this.trans (filter_add (ht t List.mem_cons_self) fun y hy e => same_pred hs.len (hs.fine y hy) hx e)
end Go.TF
end
section
/- What the document says of what is closed; what must be in any case; laws of a round: plain. -/
namespace Go.TF
open Go Go.RowKit Go.Proofs
set_option maxRecDepth 20000

set_option maxHeartbeats 8000000 in
theorem ClosedOf_ok (B : Base) (hB : B.ok) (p : Prg) (hp : p.In B.h) (hpr : checkProg p = 0) (f : Sl Fct) (hf : Fcts f B.h) (okf : FOk p.preds.xs f.xs) : Fn Tryz.prog 20 [p.val, f.val] B (fun v _ => v = .bool (closedB p f.xs)) := by
  have hsr := hp.rules.is.small
  refine Fn.of Tryz.func20 rfl Tryz.ntmps20 (by kernel_rfl) (by simp) ?_
  intro e
  have I := Inv.start hB
  refine WP.seq ?_
  refine WP.region ?_
  refine Ops.go (O.box (v := .agg #[_, _]) I rfl rfl ?_)
  intro b2 w I
  refine Ops.y (v := .bool _) (Y.assign rfl) ?_
  refine Ops.nil ?_
  refine WP.seq ?_
  refine WP.seq ?_
  refine WP.region ?_
  refine Ops.y (v := .int .i64 _) (Y.assign rfl) ?_
  refine Ops.nil ?_
  refine WP.block ?_
  refine WP.loopE (σ := Nat × Heap) (fun s' => [(1, f.val), (2, .pointer (some ⟨b2, 0, none⟩)), (5, .int .i64 s'.1)])
    (fun s' w => Inv B s'.2 [box b2 p.enc 25] w ∧ s'.1 ≤ p.rules.xs.length ∧ B.h.le s'.2 ∧ ∀ t ∈ toldK p.preds.xs f.xs p.rules.xs (fun _ => true) s'.1, underF p.preds.xs [t.2] f.xs = true) (fun s' => p.rules.xs.length - s'.1)
    ⟨(0, B.h), ⟨rfl, rfl, rfl, trivial⟩, I, Nat.zero_le _, Heap.le.refl _, fun t ht => by simp [toldK] at ht⟩ ?_
  rintro ⟨n, hh⟩ e w ⟨I, hn, gl, hj⟩
  dsimp only at I hn gl hj ⊢
  have hp := hp.le gl
  have hf := hf.le gl
  refine WP.seq ?_
  refine WP.seq ?_
  refine WP.region ?_
  refine Ops.y (v := .int .i64 _) (Y.move rfl) ?_
  refine Ops.y (v := .pointer (some ⟨_, _, none⟩)) (Y.fa fa_25_1 rfl) ?_
  refine Ops.y (v := .slice _ _ _) (Y.loadv ty_23 rfl (I.rdbox 0 rfl 1 1) rfl rfl) ?_
  refine Ops.y (v := .int .i64 _) (Y.lens Tryz.underlying23 rfl) ?_
  refine Ops.y (v := .bool (decide _)) (Y.lti rfl rfl) ?_
  refine Ops.nil ?_
  refine WP.cond_dec rfl (fun h2 => ?_) (fun h2 => ?_)
  · have hn' : n < p.rules.xs.length := by omega
    have hr : p.rules.xs[n]? = some p.rules.xs[n] := List.getElem?_eq_getElem hn'
    have hr' : p.rules.xs[(n : Int).toNat]? = some p.rules.xs[n] := by rw [Int.toNat_natCast]; exact hr
    have ok := rules_rok hpr okf _ (List.getElem_mem hn')
    have hgd : p.rules.xs.getD n default = p.rules.xs[n] := by rw [List.getD_eq_getElem?_getD, hr]; rfl
    have hN : toldN p.preds.xs f.xs p.rules.xs (fun _ => true) n = (stepsF f.xs n p.rules.xs[n]).map fun s => (s, headF p.preds.xs f.xs p.rules.xs[n] s.vars) := by unfold toldN; rw [if_pos rfl, hgd]
    refine WP.skip ?_
    refine WP.seq ?_
    refine WP.block ?_
    refine WP.seq ?_
    refine WP.region ?_
    refine Ops.y (v := .agg #[_, _]) (Y.loadv ty_25 rfl (I.rdbox 0 rfl 0 2) rfl rfl) ?_
    refine Ops.y (v := .slice _ _ _) (Y.move rfl) ?_
    refine Ops.y (v := .int .i64 _) (Y.move rfl) ?_
    refine Ops.go (O.call I Tryz.call14 (AllOf_ok _ I.base_ok p hp f hf n p.rules.xs[n] (by omega) hr' ok okf) rfl ?_)
    rintro _ h8 w I le8 ⟨sl, rfl, hsl, isl⟩
    refine Ops.y (v := .slice _ _ _) (Y.assign rfl) ?_
    refine Ops.nil ?_
    have hp := hp.le le8
    have hf := hf.le le8
    have hss := isl.small
    have hNl : (toldN p.preds.xs f.xs p.rules.xs (fun _ => true) n).length = sl.xs.length := by rw [hN, List.length_map, hsl]
    refine WP.seq ?_
    refine WP.region ?_
    refine Ops.y (v := .int .i64 _) (Y.assign rfl) ?_
    refine Ops.nil ?_
    refine WP.block ?_
    refine WP.loopE (σ := Nat × Heap) (fun s' => [(1, f.val), (2, .pointer (some ⟨b2, 0, none⟩)), (5, .int .i64 n), (6, sl.val), (7, .int .i64 s'.1)])
      (fun s' w => Inv B s'.2 [box b2 p.enc 25] w ∧ s'.1 ≤ sl.xs.length ∧ h8.le s'.2 ∧ ∀ t ∈ (toldN p.preds.xs f.xs p.rules.xs (fun _ => true) n).take s'.1, underF p.preds.xs [t.2] f.xs = true) (fun s' => sl.xs.length - s'.1)
      ⟨(0, h8), ⟨rfl, rfl, rfl, rfl, rfl, trivial⟩, I, Nat.zero_le _, Heap.le.refl _, fun t ht => by simp at ht⟩ ?_
    rintro ⟨k, h9⟩ e w ⟨I, hk, gl9, hm⟩
    dsimp only at I hk gl9 hm ⊢
    have hp := hp.le gl9
    have hf := hf.le gl9
    refine WP.seq ?_
    refine WP.seq ?_
    refine WP.region ?_
    refine Ops.y (v := .int .i64 _) (Y.move rfl) ?_
    refine Ops.y (v := .slice _ _ _) (Y.move rfl) ?_
    refine Ops.y (v := .int .i64 _) (Y.lens Tryz.underlying35 rfl) ?_
    refine Ops.y (v := .bool (decide _)) (Y.lti rfl rfl) ?_
    refine Ops.nil ?_
    refine WP.cond_dec rfl (fun h6 => ?_) (fun h6 => ?_)
    · have hk' : k < sl.xs.length := by omega
      have E := (isl.le gl9).at hk'
      have hmem : sl.xs[k] ∈ stepsF f.xs n p.rules.xs[n] := hsl ▸ List.getElem_mem hk'
      obtain ⟨_, hvs, hhf⟩ := steps_holds hmem
      obtain ⟨y, hy⟩ : ∃ y, headF p.preds.xs f.xs p.rules.xs[n] sl.xs[k].vars = y := ⟨_, rfl⟩
      have hyF : holdsF p.preds.xs f.xs p.rules.xs[n] sl.xs[k].vars = (true, y) := by unfold holdsF; rw [if_pos hhf, hy]
      have hfine : factFine p.preds.xs y = true := hy ▸ headF_fine ok okf hvs hhf
      have hget : (toldN p.preds.xs f.xs p.rules.xs (fun _ => true) n)[k]'(by omega) = (sl.xs[k], y) := by
        have h1 : (toldN p.preds.xs f.xs p.rules.xs (fun _ => true) n)[k]? = some (sl.xs[k], y) := by rw [hN, List.getElem?_map, ← hsl, List.getElem?_eq_getElem hk', ← hy]; rfl
        exact (List.getElem?_eq_some_iff.1 h1).2
      refine WP.skip ?_
      refine WP.seq ?_
      refine WP.block ?_
      refine WP.seq ?_
      refine WP.regionG mixed RBx.pre ⟨h9, none, none⟩ (J := JBx B [box b2 p.enc 25] 29 [.int .i64 0, .int .i64 0, .int .i64 0, .int .i64 0] y.enc 12 99 14) ⟨rfl, rfl, fun h => (by cases h), I.drew⟩ 15 (by kernel_rfl) ?_
      refine OpsG.y_ (v := .agg #[_, _]) (fun _ => runsG_none _) RBx.pre (JBx.set (by decide)) (fun _ s w us hl hj => have I := hj.base; have hl := hl.h; Y.loadv ty_25 rfl (I.rdbox 0 rfl 0 2) rfl rfl) ?_
      refine OpsG.y_ (v := .slice _ _ _) (fun _ => runsG_none _) RBx.pre (JBx.set (by decide)) (fun _ s w us hl hj => have I := hj.base; have hl := hl.h; Y.move rfl) ?_
      refine OpsG.y_ (v := .int .i64 _) (fun _ => runsG_none _) RBx.pre (JBx.set (by decide)) (fun _ s w us hl hj => have I := hj.base; have hl := hl.h; Y.move rfl) ?_
      refine OpsG.y_ (v := .slice _ _ _) (fun _ => runsG_none _) RBx.pre (JBx.set (by decide)) (fun _ s w us hl hj => have I := hj.base; have hl := hl.h; Y.move rfl) ?_
      refine OpsG.y_ (v := .int .i64 _) (fun _ => runsG_none _) RBx.pre (JBx.set (by decide)) (fun _ s w us hl hj => have I := hj.base; have hl := hl.h; Y.move rfl) ?_
      refine OpsG.y_ (v := .pointer (some ⟨_, _, none⟩)) (fun _ => runsG_none _) RBx.pre (JBx.set (by decide)) (fun _ s w us hl hj => have I := hj.base; have hl := hl.h; Y.idxEl E Tryz.underlying35 Tryz.sizeOf63 rfl rfl (Int.natCast_nonneg _) rfl) ?_
      refine OpsG.y_ (v := .pointer (some ⟨_, _, none⟩)) (fun _ => runsG_none _) RBx.pre (JBx.set (by decide)) (fun _ s w us hl hj => have I := hj.base; have hl := hl.h; Y.fa fa_63_1 rfl) ?_
      refine OpsG.y_ (v := .agg #[_, _, _]) (fun _ => runsG_none _) RBx.pre (JBx.set (by decide)) (fun _ s w us hl hj => have I := hj.base; have hl := hl.h; Y.loadv ty_27 rfl (I.rd ((E.rd.part 1 3).le hl)) rfl rfl) ?_
      refine OpsG.c_ (by decide) (fun _ s w us hl hj => have I := hj.inv; have hl := hl.h; O.callv I Tryz.call30 (hyF ▸ rholds_ok _ I.base_ok p (hp.le hl) f (hf.le hl) n p.rules.xs[n] (by omega) hr' ok okf sl.xs[k].vars hvs) rfl (fun w' I' => ⟨rfl, ⟨hj.h7, hj.h8, hj.ord, I'⟩⟩)) ?_
      refine OpsG.y_ (v := .tuple #[_, _]) (fun _ => runsG_none _) RBx.pre (JBx.set (by decide)) (fun _ s w us hl hj => have I := hj.base; have hl := hl.h; Y.move rfl) ?_
      refine OpsG.y_ (v := .bool _) (fun _ => runsG_none _) RBx.pre (JBx.set (by decide)) (fun _ s w us hl hj => have I := hj.base; have hl := hl.h; Y.extract rfl rfl) ?_
      refine OpsG.y_ (v := .agg #[_, _, _, _]) (fun _ => runsG_none _) RBx.pre (JBx.set (by decide)) (fun _ s w us hl hj => have I := hj.base; have hl := hl.h; Y.extract rfl rfl) ?_
      refine OpsG.make7 Tryz.zeroValue29 rfl (by decide) (by decide) ?_
      refine OpsG.y_ (v := .bool _) (fun _ => runsG_none _) RBx.pre (JBx.set (by decide)) (fun _ s w us hl hj => have I := hj.base; have hl := hl.h; Y.assign rfl) ?_
      refine OpsG.store7 ty_29 rfl rfl (fun s => by intro u9 q9; exact ⟨q9 rfl, rfl⟩) rfl rfl (by decide) (by decide) ?_
      refine OpsG.nil ?_
      intro D s' w hD hl hj' u9 q9
      refine Ops.nil ?_
      obtain ⟨b9, rfl, hq9⟩ := q9 rfl
      have I := hj'.inv
      rw [hq9, hD 14 (by omega)] at I
      have hl := hl.h
      generalize s'.o8 = o8 at I
      generalize s'.h = h12 at I hl
      have I : Inv B h12 [box b9 y.enc 29, box b2 p.enc 25] w := by
        cases o8 with
        | none => exact I
        | some b8 => exact I.weak (List.Sublist.cons_cons _ (List.sublist_cons_self _ _))
      have hp := hp.le hl
      have hf := hf.le hl
      refine WP.seq ?_
      refine WP.region ?_
      refine Ops.y (v := .pointer (some ⟨_, _, none⟩)) (Y.fa0 fa_25_0 rfl) ?_
      refine Ops.y (v := .slice _ _ _) (Y.loadv ty_22 rfl (I.rdbox 1 rfl 0 1) rfl rfl) ?_
      refine Ops.y (v := .agg #[_, _, _, _]) (Y.loadv ty_29 rfl (I.rdbox 0 rfl 0 4) rfl rfl) ?_
      refine Ops.go (O.mksl (xs := [y]) (enc := Fct.enc) I Tryz.underlying26 Tryz.sizeOf29 Tryz.zeroValue29 rfl (Nat.le_of_ble_eq_true rfl) rfl rfl (by decide) (fun _ => rfl) ?_)
      intro b42 h42 w I le42 sl42
      refine Ops.y (v := .slice _ _ _) (Y.move rfl) ?_
      refine Ops.go (O.callv I Tryz.call47 (runder_ok _ I.base_ok p.preds (hp.preds.le le42) ⟨some ⟨b42, 0, none⟩, 1, [y]⟩ f ⟨sl42, by simp⟩ (hf.le le42) (fok_one okf.len okf.preds hfine) okf) rfl ?_)
      intro w I
      refine Ops.y (v := .bool _) (Y.not rfl) ?_
      refine Ops.nil ?_
      refine WP.cond rfl (fun h9 => ?_) (fun h9 => ?_)
      · have h9 : underF p.preds.xs [y] f.xs = false := by simpa using h9
        refine WP.seq ?_
        refine WP.region ?_
        refine Ops.y (v := .bool _) (Y.assign rfl) ?_
        refine Ops.nil ?_
        refine WP.ret ?_
        repeat (first | refine thenE_ret ?_ | refine blockE_ret ?_)
        exact retQ.mk (vs := [.bool _]) rfl ⟨rfl, trivial⟩ I.ext_of (by simp only [tup]; rw [show closedB p f.xs = false from by unfold closedB; rw [List.all_eq_false]; exact ⟨(sl.xs[k], y), List.mem_flatMap.2 ⟨n, List.mem_range.2 hn', hget ▸ List.getElem_mem _⟩, by rw [h9]; decide⟩])
      · have h9 : underF p.preds.xs [y] f.xs = true := by simpa using h9
        refine WP.skip ?_
        refine WP.region ?_
        refine Ops.y (v := .int .i64 _) (Y.move rfl) ?_
        refine Ops.y (v := .int .i64 _) (Y.addi rfl rfl ⟨by omega, by omega⟩) ?_
        refine Ops.y (v := .int .i64 _) (Y.assign rfl) ?_
        refine Ops.nil ?_
        exact ⟨(k + 1, _), ⟨⟨rfl, rfl, rfl, rfl, rfl, trivial⟩, I.drop, by dsimp only; omega, (gl9.trans hl).trans le42, fun t ht => by
          rw [List.take_succ_eq_append_getElem (by omega), hget, List.mem_append, List.mem_singleton] at ht
          rcases ht with ht | rfl
          · exact hm t ht
          · exact h9⟩, by dsimp only; omega⟩
    obtain rfl : k = sl.xs.length := by omega
    rw [← hNl, List.take_length] at hm
    refine WP.exit ?_
    refine WP.region ?_
    refine Ops.y (v := .int .i64 _) (Y.move rfl) ?_
    refine Ops.y (v := .int .i64 _) (Y.addi rfl rfl ⟨by omega, by omega⟩) ?_
    refine Ops.y (v := .int .i64 _) (Y.assign rfl) ?_
    refine Ops.nil ?_
    exact ⟨(n + 1, h9), ⟨⟨rfl, rfl, rfl, trivial⟩, I, by dsimp only; omega, (gl.trans le8).trans gl9, fun t ht => by
      dsimp only at ht
      rw [toldK_succ, List.mem_append] at ht
      rcases ht with ht | ht
      · exact hj t ht
      · exact hm t ht⟩, by dsimp only; omega⟩
  obtain rfl : n = p.rules.xs.length := by omega
  refine WP.exit ?_
  refine WP.seq ?_
  refine WP.region ?_
  refine Ops.y (v := .bool _) (Y.assign rfl) ?_
  refine Ops.nil ?_
  refine WP.ret ?_
  repeat (first | refine thenE_ret ?_ | refine blockE_ret ?_)
  exact retQ.mk (vs := [.bool _]) rfl ⟨rfl, trivial⟩ I.ext_of (by simp only [tup]; rw [show closedB p f.xs = true from List.all_eq_true.2 hj])
/-! ### The roads' rounds -/
theorem toldK_er (l : List Prd) (f : List Fct) (rs : List Rul) (q : Nat → Bool) (k : Nat) (hk : k ≤ rs.length) : toldK l f (rs.map Rul.er) q k = toldK l f rs q k := by
  unfold toldK
  have : ∀ n ∈ List.range k, toldN l f (rs.map Rul.er) q n = toldN l f rs q n := fun n hn => by
    have hn' : n < rs.length := by have := List.mem_range.1 hn; omega
    have hg : (rs.map Rul.er).getD n default = (rs.getD n default).er := by
      rw [List.getD_eq_getElem?_getD, List.getD_eq_getElem?_getD, List.getElem?_map, List.getElem?_eq_getElem hn']; rfl
    unfold toldN
    rw [hg, stepsF_er]
    simp only [headF_er]
  rw [List.flatMap_def, List.flatMap_def, List.map_congr_left this]
theorem toldL_er (l : List Prd) (f : List Fct) (rs : List Rul) (q : Nat → Bool) : toldL l f (rs.map Rul.er) q = toldL l f rs q := by
  unfold toldL; rw [List.length_map]; exact toldK_er l f rs q _ (Nat.le_refl _)
theorem toldK_congr {l : List Prd} {f : List Fct} {rs : List Rul} {q q' : Nat → Bool} {k : Nat} (hq : ∀ n, n < k → q n = q' n) : toldK l f rs q k = toldK l f rs q' k := by
  unfold toldK
  have : ∀ n ∈ List.range k, toldN l f rs q n = toldN l f rs q' n := fun n hn => by unfold toldN; rw [hq n (List.mem_range.1 hn)]
  rw [List.flatMap_def, List.flatMap_def, List.map_congr_left this]
def rndF : List Fct := [⟨0, 0, 1, 0⟩, ⟨0, 1, 2, 0⟩, ⟨0, 2, 0, 0⟩, ⟨0, 3, 0, 0⟩, ⟨1, 0, 1, 1⟩, ⟨1, 0, 2, 5⟩, ⟨1, 1, 2, 1⟩]
section
variable {p : Prg} {h : Heap} (hp : RoadsAt p h)
include hp
theorem rd_check : checkProg p = 0 := by rw [← checkProg_er, hp.er, roads_check]
theorem rd_rules : p.rules.xs.map Rul.er = roadsC.rules.xs := by have := congrArg (fun q : Prg => q.rules.xs) hp.er; exact this
theorem rd_strata : strataM p = [0, 0, 1] := by
  refine strataM_eq (least_er ?_)
  rw [← usesL_er, rd_rules hp, rd_preds hp]
  exact roads_least
theorem rd_ofQ (n : Nat) (hn : n < 7) : ofQ p [0, 0, 1] 0 n = ofQ roadsC [0, 0, 1] 0 n := by
  have h1 : (p.rules.xs.map Rul.er).getD n default = roadsC.rules.xs.getD n default := by rw [rd_rules hp]
  have h2 : n < p.rules.xs.length := by rw [rd_len hp]; exact hn
  rw [List.getD_eq_getElem?_getD, List.getElem?_map, List.getElem?_eq_getElem h2] at h1
  unfold ofQ
  rw [← h1, List.getD_eq_getElem?_getD, List.getElem?_eq_getElem h2]
  rfl
theorem rd_once : onceOf p pathsC 0 = ((rndF, true), 0) := by
  have hck : askR p pathsC = 0 := askR_iff.2 ⟨rd_check hp, checkFacts_ok.1 (by rw [rd_preds hp]; kernel_rfl)⟩
  unfold onceOf
  rw [if_neg (by rw [hck]; decide), rd_strata hp, rd_preds hp]
  have : toldL roadsC.preds.xs pathsC p.rules.xs (ofQ p [0, 0, 1] 0) = toldL roadsC.preds.xs pathsC roadsC.rules.xs (ofQ roadsC [0, 0, 1] 0) := by
    rw [← rd_rules hp, toldL_er]
    exact toldK_congr fun n hn => rd_ofQ hp n (by rw [rd_len hp] at hn; exact hn)
  rw [this]
  have : turnL roadsC.preds.xs pathsC (toldL roadsC.preds.xs pathsC roadsC.rules.xs (ofQ roadsC [0, 0, 1] 0)) = (rndF, true) := by kernel_rfl
  rw [this]
theorem rd_closed : closedOf p rndF = (false, 0) := by
  have hck : askR p rndF = 0 := askR_iff.2 ⟨rd_check hp, checkFacts_ok.1 (by rw [rd_preds hp]; kernel_rfl)⟩
  unfold closedOf closedB
  rw [if_neg (by rw [hck]; decide), rd_preds hp, ← toldL_er, rd_rules hp]
  have : ((toldL roadsC.preds.xs rndF roadsC.rules.xs fun _ => true).all fun t => underF roadsC.preds.xs [t.2] rndF) = false := by kernel_rfl
  rw [this]
/-- The roads' predicates with no rules. -/
theorem rd0_check : checkProg ⟨p.preds, ⟨none, 0, []⟩⟩ = 0 := by
  unfold checkProg
  simp only
  rw [rd_preds hp]
  rw [if_neg (by decide), if_neg (ne_true (show (roadsC.preds.xs.any fun x => !isName x.name) = false by kernel_rfl)), if_neg (ne_true (show twice roadsC.preds.xs = false by kernel_rfl)), if_neg (ne_true (show roadsC.preds.xs.any badArity = false by kernel_rfl)), if_neg (ne_true (show roadsC.preds.xs.any badKind = false by kernel_rfl)), if_neg (by rw [show rulesErr roadsC.preds.xs [] = 0 by kernel_rfl]; decide)]
  exact if_pos ⟨[0, 0, 0], ⟨rfl, fun i => by rw [show ([0, 0, 0] : List Int) = List.replicate 3 0 from rfl, lv_zero]; decide, fun c hc => by simp [usesL] at hc⟩⟩
theorem rd0_ask : askR ⟨p.preds, ⟨none, 0, []⟩⟩ pathsC = 0 := askR_iff.2 ⟨rd0_check hp, checkFacts_ok.1 (by show checkFacts p.preds.xs pathsC = 0; rw [rd_preds hp]; kernel_rfl)⟩
theorem rd0_once : onceOf ⟨p.preds, ⟨none, 0, []⟩⟩ pathsC 0 = ((pathsC, false), 0) := by
  unfold onceOf
  rw [if_neg (by rw [rd0_ask hp]; decide)]
  rfl
theorem rd0_closed : closedOf ⟨p.preds, ⟨none, 0, []⟩⟩ pathsC = (true, 0) := by
  unfold closedOf
  rw [if_neg (by rw [rd0_ask hp]; decide)]
  rfl
theorem rd0_in : (⟨p.preds, ⟨none, 0, []⟩⟩ : Prg).In h := ⟨hp.is.preds, ⟨fun i x hx => by simp at hx, by simp⟩, fun y hy => by simp at hy⟩
theorem rd0_nm : (⟨p.preds, ⟨none, 0, []⟩⟩ : Prg).Nm := fun x hx => rd_nm hp x hx
end
theorem Once_at (B : Base) (hB : B.ok) (p : Prg) (hp : p.In B.h) (hnm : p.Nm) (f : Sl Fct) (hf : Fcts f B.h) (st : Int) (r : (List Fct × Bool) × Int) (h : onceOf p f.xs st = r) : Fn Tryz.prog 16 [p.val, f.val, .int .i64 st] B (OnceR r) := h ▸ Once_ok B hB p hp hnm f hf st
theorem Closed_at (B : Base) (hB : B.ok) (p : Prg) (hp : p.In B.h) (hnm : p.Nm) (f : Sl Fct) (hf : Fcts f B.h) (r : Bool × Int) (h : closedOf p f.xs = r) : Fn Tryz.prog 17 [p.val, f.val] B (fun v _ => v = vBE r) := h ▸ Closed_ok B hB p hp hnm f hf
set_option maxHeartbeats 4000000 in
theorem roundBegun_ok (B : Base) (hB : B.ok) : Fn Tryz.prog 21 [] B (fun v _ => v = .bool true) := by
  refine Fn.of Tryz.func21 rfl Tryz.ntmps21 (by kernel_rfl) (by simp) ?_
  intro e
  have I := Inv.start hB
  refine WP.seq ?_
  refine WP.region ?_
  refine Ops.y (v := .bool _) (Y.assign rfl) ?_
  refine Ops.nil ?_
  refine WP.seq ?_
  refine WP.region ?_
  refine Ops.go (O.call I Tryz.call31 (roads_ok _ I.base_ok) rfl ?_)
  rintro _ h1 w I le1 ⟨p1, rfl, hp1⟩
  refine Ops.go (O.call I Tryz.call32 (paths_ok _ I.base_ok) rfl ?_)
  rintro _ h2 w I le2 ⟨s1, rfl, e1, i1⟩
  refine Ops.go (O.call I Tryz.call16 (Once_at _ I.base_ok p1 (hp1.is.le le2) (rd_nm hp1) s1 i1 0 ((rndF, true), 0) (by rw [e1]; exact rd_once hp1)) rfl ?_)
  rintro _ h3 w I le3 ⟨m1, rfl, em1, im1⟩
  refine Ops.y (v := .tuple #[_, _, _]) (Y.move rfl) ?_
  refine Ops.y (v := .slice _ _ _) (Y.extract rfl rfl) ?_
  refine Ops.y (v := .bool _) (Y.extract rfl rfl) ?_
  refine Ops.y (v := .int .i64 _) (Y.extract rfl rfl) ?_
  refine Ops.y (v := .slice _ _ _) (Y.assign rfl) ?_
  refine Ops.y (v := .bool _) (Y.assign rfl) ?_
  refine Ops.y (v := .int .i64 _) (Y.assign rfl) ?_
  refine Ops.nil ?_
  dsimp only at em1
  refine WP.seq ?_
  refine WP.region ?_
  refine Ops.go (O.call I Tryz.call31 (roads_ok _ I.base_ok) rfl ?_)
  rintro _ h4 w I le4 ⟨p2, rfl, hp2⟩
  refine Ops.y (v := .slice _ _ _) (Y.move rfl) ?_
  refine Ops.go (O.callv I Tryz.call17 (Closed_at _ I.base_ok p2 hp2.is (rd_nm hp2) m1 (im1.le le4) (false, 0) (by rw [em1]; exact rd_closed hp2)) rfl ?_)
  intro w I
  refine Ops.y (v := .tuple #[_, _]) (Y.move rfl) ?_
  refine Ops.y (v := .bool _) (Y.extract rfl rfl) ?_
  refine Ops.y (v := .int .i64 _) (Y.extract rfl rfl) ?_
  refine Ops.y (v := .bool _) (Y.assign rfl) ?_
  refine Ops.y (v := .int .i64 _) (Y.assign rfl) ?_
  refine Ops.nil ?_
  refine WP.seq ?_
  refine WP.region ?_
  refine Ops.go (O.call I Tryz.call31 (roads_ok _ I.base_ok) rfl ?_)
  rintro _ h5 w I le5 ⟨p3, rfl, hp3⟩
  refine Ops.y (v := .slice _ _ _) (Y.field fd_25_0 ty_22 rfl rfl rfl rfl) ?_
  refine Ops.y (v := .agg #[.slice _ _ _, .slice _ _ _]) (Y.build pl_25 Tryz.zeroValue25 rfl rfl) ?_
  refine Ops.go (O.call I Tryz.call32 (paths_ok _ I.base_ok) rfl ?_)
  rintro _ h6 w I le6 ⟨s3, rfl, e3, i3⟩
  refine Ops.go (O.call I Tryz.call16 (Once_at _ I.base_ok ⟨p3.preds, ⟨none, 0, []⟩⟩ (Prg.In.le (rd0_in hp3) le6) (rd0_nm hp3) s3 i3 0 ((pathsC, false), 0) (by rw [e3]; exact rd0_once hp3)) rfl ?_)
  rintro _ h7 w I le7 ⟨m3, rfl, em3, im3⟩
  refine Ops.y (v := .tuple #[_, _, _]) (Y.move rfl) ?_
  refine Ops.y (v := .slice _ _ _) (Y.extract rfl rfl) ?_
  refine Ops.y (v := .bool _) (Y.extract rfl rfl) ?_
  refine Ops.y (v := .int .i64 _) (Y.extract rfl rfl) ?_
  refine Ops.y (v := .slice _ _ _) (Y.assign rfl) ?_
  refine Ops.y (v := .bool _) (Y.assign rfl) ?_
  refine Ops.y (v := .int .i64 _) (Y.assign rfl) ?_
  refine Ops.nil ?_
  refine WP.seq ?_
  refine WP.region ?_
  refine Ops.go (O.call I Tryz.call31 (roads_ok _ I.base_ok) rfl ?_)
  rintro _ h8 w I le8 ⟨p4, rfl, hp4⟩
  refine Ops.y (v := .slice _ _ _) (Y.field fd_25_0 ty_22 rfl rfl rfl rfl) ?_
  refine Ops.y (v := .agg #[.slice _ _ _, .slice _ _ _]) (Y.build pl_25 Tryz.zeroValue25 rfl rfl) ?_
  refine Ops.go (O.call I Tryz.call32 (paths_ok _ I.base_ok) rfl ?_)
  rintro _ h9 w I le9 ⟨s4, rfl, e4, i4⟩
  refine Ops.go (O.callv I Tryz.call17 (Closed_at _ I.base_ok ⟨p4.preds, ⟨none, 0, []⟩⟩ (Prg.In.le (rd0_in hp4) le9) (rd0_nm hp4) s4 i4 (true, 0) (by rw [e4]; exact rd0_closed hp4)) rfl ?_)
  intro w I
  refine Ops.y (v := .tuple #[_, _]) (Y.move rfl) ?_
  refine Ops.y (v := .bool _) (Y.extract rfl rfl) ?_
  refine Ops.y (v := .int .i64 _) (Y.extract rfl rfl) ?_
  refine Ops.y (v := .bool _) (Y.assign rfl) ?_
  refine Ops.y (v := .int .i64 _) (Y.assign rfl) ?_
  refine Ops.nil ?_
  have n1 : m1.xs.length = 7 := by rw [em1]; rfl
  have g1 : m1.xs[4]? = some ⟨1, 0, 1, 1⟩ := by rw [em1]; rfl
  have im1 := ((((im1.le le4).le le5).le le6).le le7).le (le8.trans le9)
  have E1 := im1.el.el g1
  refine WP.seq ?_
  refine WP.region ?_
  refine Ops.y (v := .int .i64 _) (Y.move rfl) ?_
  refine Ops.y (v := .bool true) (Y.dec_t (Y.eqi rfl rfl) (rfl)) ?_
  refine Ops.y (v := .bool _) (Y.move rfl) ?_
  refine Ops.ygt rfl (v := .int .i64 _) (Y.move rfl) ?_
  refine Ops.ygt rfl (v := .bool true) (Y.dec_t (Y.eqi rfl rfl) (rfl)) ?_
  refine Ops.y (v := .bool _) (Y.pick_t rfl rfl) ?_
  refine Ops.y (v := .bool _) (Y.move rfl) ?_
  refine Ops.ygt rfl (v := .int .i64 _) (Y.move rfl) ?_
  refine Ops.ygt rfl (v := .bool true) (Y.dec_t (Y.eqi rfl rfl) (rfl)) ?_
  refine Ops.y (v := .bool _) (Y.pick_t rfl rfl) ?_
  refine Ops.y (v := .bool _) (Y.move rfl) ?_
  refine Ops.ygt rfl (v := .int .i64 _) (Y.move rfl) ?_
  refine Ops.ygt rfl (v := .bool true) (Y.dec_t (Y.eqi rfl rfl) (rfl)) ?_
  refine Ops.y (v := .bool _) (Y.pick_t rfl rfl) ?_
  refine Ops.y (v := .bool _) (Y.move rfl) ?_
  refine Ops.ygt rfl (v := .bool _) (Y.move rfl) ?_
  refine Ops.y (v := .bool _) (Y.pick_t rfl rfl) ?_
  refine Ops.y (v := .bool _) (Y.move rfl) ?_
  refine Ops.ygt rfl (v := .bool _) (Y.move rfl) ?_
  refine Ops.ygt rfl (v := .bool true) (Y.b (Y.not rfl) (rfl)) ?_
  refine Ops.y (v := .bool _) (Y.pick_t rfl rfl) ?_
  refine Ops.y (v := .bool _) (Y.move rfl) ?_
  refine Ops.ygt rfl (v := .bool _) (Y.move rfl) ?_
  refine Ops.ygt rfl (v := .bool true) (Y.b (Y.not rfl) (rfl)) ?_
  refine Ops.y (v := .bool _) (Y.pick_t rfl rfl) ?_
  refine Ops.y (v := .bool _) (Y.move rfl) ?_
  refine Ops.ygt rfl (v := .bool _) (Y.move rfl) ?_
  refine Ops.y (v := .bool _) (Y.pick_t rfl rfl) ?_
  refine Ops.y (v := .bool _) (Y.move rfl) ?_
  refine Ops.ygt rfl (v := .slice _ _ _) (Y.move rfl) ?_
  refine Ops.ygt rfl (v := .int .i64 _) (Y.lens Tryz.underlying26 rfl) ?_
  refine Ops.ygt rfl (v := .bool true) (Y.dec_t (Y.eqi rfl rfl) ((by rw [n1]; rfl))) ?_
  refine Ops.y (v := .bool _) (Y.pick_t rfl rfl) ?_
  refine Ops.y (v := .bool _) (Y.move rfl) ?_
  refine Ops.ygt rfl (v := .slice _ _ _) (Y.move rfl) ?_
  refine Ops.ygt rfl (v := .pointer (some ⟨_, _, none⟩)) (Y.idxEl E1 Tryz.underlying26 Tryz.sizeOf29 rfl rfl (by decide) rfl) ?_
  refine Ops.ygt rfl (v := .agg #[_, _, _, _]) (Y.loadv ty_29 rfl (I.rd (E1.rd.part 0 4)) rfl rfl) ?_
  refine Ops.ygt rfl (v := .agg #[.int .i64 _, .int .i64 _, .int .i64 _, .int .i64 _]) (Y.build pl_29 Tryz.zeroValue29 rfl rfl) ?_
  refine Ops.ygt rfl (v := .bool true) (Y.b (Y.eqst Tryz.eqGuardType29 (eq_29 _ _ _ _ _ _ _ _) rfl rfl) (rfl)) ?_
  refine Ops.y (v := .bool _) (Y.pick_t rfl rfl) ?_
  refine Ops.y (v := .bool _) (Y.assign rfl) ?_
  refine Ops.nil ?_
  refine WP.ret ?_
  repeat (first | refine thenE_ret ?_ | refine blockE_ret ?_)
  exact retQ.mk (vs := [.bool _]) rfl ⟨rfl, trivial⟩ I.ext_of (rfl)
end Go.TF
end
section
/- Arguments as they come in: what is read as data lies in memory as located data. -/
namespace Go.TF
open Go Go.RowKit Go.Proofs Go.Deep

def memH (W : World) : Heap := fun b => W.heap[b]?
theorem memH_cell {W : World} {b o : Nat} {v : Value} (h : W.cell? ⟨b, o, none⟩ = some v) : (memH W).cell b o = some v := by
  unfold World.cell? at h
  unfold Heap.cell memH
  split at h
  · rename_i c t f hb; rw [hb]; simpa using h
  · cases h
def Opens (P : Program) (T : TypeId) {α : Type} (enc : α → List Value) (In : α → Heap → Prop) : Prop :=
  ∀ (H : Type) (en : TypeId × Value → H) (W : World) (fuel : Nat) (cs : List Value) (x : DataW H × List MemPlace), DataW.trod en P W 0 (fun _ => true) true fuel T cs = some x → (∀ n ∈ x.1.weights P T, n ≤ reachBytes) → ∃ y : α, cs = enc y ∧ In y (memH W)
/-- A slice, its elements, and that there are not too many. -/
structure Sl.Ok {α : Type} (s : Sl α) (k b : Nat) (enc : α → List Value) (In : α → Heap → Prop) (h : Heap) : Prop where
  is : s.Is k enc h
  each : ∀ x ∈ s.xs, In x h
  cap : s.xs.length ≤ s.cap
  size : s.cap * b ≤ reachBytes
section
variable {P : Program} {T : TypeId}
theorem op_int (hT : P.underlying T = some (.int .i64)) : Opens P T (fun n : Int => [.int .i64 n]) (fun n _ => I64 n) := fun H en W fuel cs x h _ => by
  obtain ⟨n, rfl, _, hw⟩ := DataW.trod_int hT h
  refine ⟨n, rfl, ?_⟩
  simp only [Lit.wf, Bool.and_eq_true, decide_eq_true_eq] at hw
  have h1 : IntKind.i64.min = -9223372036854775808 := rfl
  have h2 : IntKind.i64.max = 9223372036854775807 := rfl
  exact ⟨by omega, by omega⟩
theorem op_bool (hT : P.underlying T = some .bool) : Opens P T (fun n : Bool => [.bool n]) (fun _ _ => True) := fun H en W fuel cs x h _ => by
  obtain ⟨n, rfl, _⟩ := DataW.trod_bool hT h
  exact ⟨n, rfl, trivial⟩
theorem op_string (hT : P.underlying T = some .string) : Opens P T (fun n : ByteArray => [.string n]) (fun s _ => s.size ≤ reachBytes) := fun H en W fuel cs x h hw => by
  obtain ⟨n, rfl, rfl, _⟩ := DataW.trod_string hT h
  refine ⟨n, rfl, ?_⟩
  have := hw n.data.toList.length (by simp [DataW.weights])
  simpa using this
theorem weightsAll_mem {H : Type} {e : TypeId} : ∀ {l : List (DataW H)} {d : DataW H}, d ∈ l → ∀ n ∈ d.weights P e, n ∈ DataW.weightsAll P e l
  | x :: l, d, hd, n, hn => by
    simp only [DataW.weightsAll]
    rcases List.mem_cons.1 hd with rfl | hd
    · exact List.mem_append_left _ hn
    · exact List.mem_append_right _ (weightsAll_mem hd n hn)
theorem op_slice {e k b : Nat} {α : Type} {enc : α → List Value} {In : α → Heap → Prop} (hT : P.underlying T = some (.slice e)) (hk : P.cellsOf e = k) (hb : P.bytesOf e = b) (hb0 : 0 < b) (hk0 : 0 < k) (he : Opens P e enc In) :
    Opens P T (fun s : Sl α => [s.val]) (fun s h => s.Ok k b enc In h) := fun H en W fuel cs x h hw => by
  rcases open_slice hT h with ⟨rfl, rfl⟩ | ⟨a, len, cap, m, n, D, Pl, rfl, _, hl, _, hmm, rfl, hall⟩
  · exact ⟨⟨none, 0, []⟩, rfl, ⟨⟨fun i x hx => by simp at hx, by simp⟩, fun x hx => by simp at hx, by simp, by simp [reachBytes]⟩⟩
  · simp only [if_true] at hmm
    subst hmm
    have hel : ∀ i, i < len → ∃ (y : α), W.cells? 0 (a.add (i * k)) k = some (enc y) ∧ In y (memH W) := fun i hi => by
      obtain ⟨cs', h1, h2⟩ := hall i (by omega)
      obtain ⟨y, rfl, hy⟩ := he H en W n cs' _ h2 fun q hq => hw q (by
        simp only [DataW.weights, hT]
        refine List.mem_cons_of_mem _ (List.mem_append_left _ (weightsAll_mem (d := D i) (List.mem_map.2 ⟨i, List.mem_range.2 hi, rfl⟩) q hq)))
      rw [hk] at h1
      exact ⟨y, h1, hy⟩
    have hsz : m * b ≤ reachBytes := by
      have := hw ((len + (m - len)) * b) (by simp [DataW.weights, hT, hb])
      rwa [show len + (m - len) = m by omega] at this
    have hm47 : m ≤ 140737488355328 := by
      have h1 : m ≤ m * b := Nat.le_mul_of_pos_right m hb0
      have h2 : reachBytes ≤ 140737488355328 := by decide
      omega
    have key : ∃ xs : List α, xs.length = len ∧ ∀ i y, xs[i]? = some y → W.cells? 0 (a.add (i * k)) k = some (enc y) ∧ In y (memH W) := by
      have : ∀ l, l ≤ len → ∃ xs : List α, xs.length = l ∧ ∀ i y, xs[i]? = some y → W.cells? 0 (a.add (i * k)) k = some (enc y) ∧ In y (memH W) := by
        intro l
        induction l with
        | zero => intro _; exact ⟨[], rfl, fun i y hy => by simp at hy⟩
        | succ l ih =>
          intro hl'
          obtain ⟨xs, h1, h2⟩ := ih (by omega)
          obtain ⟨y, h3⟩ := hel l (by omega)
          refine ⟨xs ++ [y], by simp [h1], fun i z hz => ?_⟩
          rw [List.getElem?_append] at hz
          split at hz
          · exact h2 i z hz
          · have : i = l := by
              have := (List.getElem?_eq_some_iff.1 hz).1
              simp at this; omega
            subst this
            simp [h1] at hz
            subst hz; exact h3
      exact this len (Nat.le_refl _)
    obtain ⟨xs, hxs, hx⟩ := key
    obtain ⟨ab, ao, spot⟩ := a
    have hspot : 0 < len → spot = none := fun h0 => by
      obtain ⟨y, h1, _⟩ := hel 0 h0
      obtain ⟨_, hlen, hc⟩ := World.cells?_some h1
      have hc0 := hc 0 hk0
      have : ∃ v, (enc y)[0]? = some v := ⟨(enc y)[0]'(by omega), by simp⟩
      obtain ⟨v, hv⟩ := this
      rw [hv] at hc0
      have := World.cell?_spot hc0
      simpa [Addr.add] using this
    refine ⟨⟨some ⟨ab, ao, spot⟩, m, xs⟩, by simp [Sl.val, hxs], ⟨⟨fun i y hy => ?_, by simp only [hxs]; omega⟩, fun y hy => ?_, by simp only [hxs]; omega, hsz⟩⟩
    · have hi : i < xs.length := (List.getElem?_eq_some_iff.1 hy).1
      have hs := hspot (by omega)
      subst hs
      refine ⟨rfl, fun j v hj => ?_⟩
      obtain ⟨_, hlen, hc⟩ := World.cells?_some (hx i y hy).1
      have hjk : j < k := by have := (List.getElem?_eq_some_iff.1 hj).1; omega
      have := hc j hjk
      rw [hj, addr_add, addr_add] at this
      exact memH_cell this
    · obtain ⟨i, hi, rfl⟩ := List.getElem_of_mem hy
      exact (hx i xs[i] (List.getElem?_eq_getElem hi)).2
theorem op_field {fs : Array Field} {H : Type} {en : TypeId × Value → H} {W : World} {fuel : Nat} {cs : List Value} {x : DataW H × List MemPlace} (hT : P.underlying T = some (.struct fs)) (h : DataW.trod en P W 0 (fun _ => true) true fuel T cs = some x) (hw : ∀ n ∈ x.1.weights P T, n ≤ reachBytes)
    {α : Type} {enc : α → List Value} {In : α → Heap → Prop} (i : Nat) {f : Field} (hf : fs[i]? = some f) {k : Nat} (hk : P.cellsOf f.type = k) (he : Opens P f.type enc In) : ∃ y : α, (cs.drop f.offset).take k = enc y ∧ In y (memH W) := by
  subst hk
  obtain ⟨xs, n, _, rfl, _, hlen, hfs⟩ := DataW.trod_struct hT h
  have hi : i < xs.length := by rw [hlen]; exact (Array.getElem?_eq_some_iff.1 hf).1
  have h1 := hfs i f hf
  rw [List.getElem?_eq_getElem hi] at h1
  refine he H en W n _ xs[i] h1 fun q hq => hw q ?_
  simp only [DataW.weights, hT]
  exact DataW.weights_mem_each (j := i) (t := f.type) (d := xs[i].1) (by simp [hf]) (by simp [hi]) q hq
theorem op_len {fs : Array Field} {H : Type} {en : TypeId × Value → H} {W : World} {fuel : Nat} {cs : List Value} {x : DataW H × List MemPlace} (hT : P.underlying T = some (.struct fs)) (h : DataW.trod en P W 0 (fun _ => true) true fuel T cs = some x) : cs.length = P.cellsOf T := by
  obtain ⟨xs, n, _, rfl, hl, _, _⟩ := DataW.trod_struct hT h
  exact hl
/-- From the argument's cells to its value. -/
theorem val_slice {W : World} {r : Go.Reach} {b0 e : Nat} {v w : Value} (hT : P.underlying T = some (.slice e)) (hval : Value.okWide P W r b0 T v) (hc : v.cells.toList = [w]) : v = w := by
  unfold Value.okWide at hval
  rw [hT] at hval
  simp only at hval
  cases v <;> simp_all [Value.cells, Cell.okWide, Cell.ok]
theorem val_struct {W : World} {r : Go.Reach} {b0 : Nat} {fs : Array Field} {v : Value} {cs : List Value} (hT : P.underlying T = some (.struct fs)) (hval : Value.okWide P W r b0 T v) (hc : v.cells.toList = cs) : v = .agg cs.toArray := by
  unfold Value.okWide at hval
  rw [hT] at hval
  obtain ⟨cs', rfl, _⟩ := hval
  subst hc; simp [Value.cells]
theorem weights_of {H : Type} {ts : List TypeId} {ds : List (DataW H)} (hz : (DataW.weightsEach P ts ds).all (· ≤ reachBytes) = true) (j : Nat) {t : TypeId} {d : DataW H} (ht : ts[j]? = some t) (hd : ds[j]? = some d) : ∀ n ∈ d.weights P t, n ≤ reachBytes := fun n hn => by
  have := List.all_eq_true.1 hz n (DataW.weights_mem_each ht hd n hn)
  simpa using this
end
theorem open_of {P : Program} {T : TypeId} {α : Type} {enc : α → List Value} {In : α → Heap → Prop} {H : Type} {en : TypeId × Value → H} {W : World} {v : Value} {d : DataW H} {ps : List MemPlace} (he : Opens P T enc In) (hd : DataW.Trod en P W 0 (fun _ => true) true T v d ps) (hw : ∀ n ∈ d.weights P T, n ≤ reachBytes) :
    ∃ y : α, v.cells.toList = enc y ∧ In y (memH W) := by
  obtain ⟨fuel, h⟩ := hd
  exact he H en W fuel _ _ h hw

/-! ### This program's types -/
theorem len2 {cs : List Value} (h : cs.length = 2) : ∃ c0 c1, cs = [c0, c1] := by
  match cs, h with
  | [c0, c1], _ => exact ⟨c0, c1, rfl⟩
theorem len3 {cs : List Value} (h : cs.length = 3) : ∃ c0 c1 c2, cs = [c0, c1, c2] := by
  match cs, h with
  | [c0, c1, c2], _ => exact ⟨c0, c1, c2, rfl⟩
theorem len4 {cs : List Value} (h : cs.length = 4) : ∃ c0 c1 c2 c3, cs = [c0, c1, c2, c3] := by
  match cs, h with
  | [c0, c1, c2, c3], _ => exact ⟨c0, c1, c2, c3, rfl⟩
theorem len5 {cs : List Value} (h : cs.length = 5) : ∃ c0 c1 c2 c3 c4, cs = [c0, c1, c2, c3, c4] := by
  match cs, h with
  | [c0, c1, c2, c3, c4], _ => exact ⟨c0, c1, c2, c3, c4, rfl⟩
def TrmOk (t : Trm) (_ : Heap) : Prop := I64 t.n
structure PrdOk (p : Prd) (_ : Heap) : Prop where
  name : p.name.size ≤ reachBytes
  arity : I64 p.arity
  kind : I64 p.kind
structure AtmOk (a : Atm) (h : Heap) : Prop where
  pred : I64 a.pred
  args : a.args.Ok 2 16 Trm.enc TrmOk h
def LtlOk (x : Ltl) (h : Heap) : Prop := AtmOk x.atom h
structure RulOk (r : Rul) (h : Heap) : Prop where
  head : AtmOk r.head h
  src : I64 r.src
  n : I64 r.n
  body : r.body.Ok 3 40 Ltl.enc LtlOk h
structure PrgOk (p : Prg) (h : Heap) : Prop where
  preds : p.preds.Ok 3 32 Prd.enc PrdOk h
  rules : p.rules.Ok 5 72 Rul.enc RulOk h
structure FctOk (x : Fct) (_ : Heap) : Prop where
  pred : I64 x.pred
  a : I64 x.a
  b : I64 x.b
  v : I64 x.v
structure VrsOk (x : Vrs) (_ : Heap) : Prop where
  x0 : I64 x.x0
  x1 : I64 x.x1
  x2 : I64 x.x2
structure StpOk (x : Stp) (h : Heap) : Prop where
  rule : I64 x.rule
  vars : VrsOk x.vars h
theorem AtmOk.in_ {a : Atm} {h : Heap} (x : AtmOk a h) : a.In h := x.args.is
theorem RulOk.in_ {r : Rul} {h : Heap} (x : RulOk r h) : r.In h := ⟨x.head.in_, x.body.is, fun y hy => AtmOk.in_ (x.body.each y hy)⟩
theorem PrgOk.in_ {p : Prg} {h : Heap} (x : PrgOk p h) : p.In h := ⟨x.preds.is, x.rules.is, fun y hy => (x.rules.each y hy).in_⟩
theorem op_Trm : Opens Tryz.prog 97 Trm.enc TrmOk := fun H en W fuel cs x h hw => by
  have hl := op_len Tryz.underlying97 h
  rw [show Tryz.prog.cellsOf 97 = 2 by kernel_rfl] at hl
  obtain ⟨y0, e0, g0⟩ := op_field Tryz.underlying97 h hw 0 rfl (k := 1) (by kernel_rfl) (op_bool Tryz.underlying4)
  obtain ⟨y1, e1, g1⟩ := op_field Tryz.underlying97 h hw 1 rfl (k := 1) (by kernel_rfl) (op_int Tryz.underlying3)
  obtain ⟨c0, c1, rfl⟩ := len2 hl
  replace e0 : [c0] = _ := e0
  replace e1 : [c1] = _ := e1
  simp only [List.cons.injEq, and_true] at e0 e1
  exact ⟨⟨y0, y1⟩, by simp [*], g1⟩
theorem op_SlTrm : Opens Tryz.prog 69 (fun s : Sl Trm => [s.val]) (fun s h => s.Ok 2 16 Trm.enc TrmOk h) := op_slice Tryz.underlying69 (by kernel_rfl) (by kernel_rfl) (by decide) (by decide) op_Trm
theorem op_Prd : Opens Tryz.prog 94 Prd.enc PrdOk := fun H en W fuel cs x h hw => by
  have hl := op_len Tryz.underlying94 h
  rw [show Tryz.prog.cellsOf 94 = 3 by kernel_rfl] at hl
  obtain ⟨y0, e0, g0⟩ := op_field Tryz.underlying94 h hw 0 rfl (k := 1) (by kernel_rfl) (op_string Tryz.underlying9)
  obtain ⟨y1, e1, g1⟩ := op_field Tryz.underlying94 h hw 1 rfl (k := 1) (by kernel_rfl) (op_int Tryz.underlying3)
  obtain ⟨y2, e2, g2⟩ := op_field Tryz.underlying94 h hw 2 rfl (k := 1) (by kernel_rfl) (op_int Tryz.underlying3)
  obtain ⟨c0, c1, c2, rfl⟩ := len3 hl
  replace e0 : [c0] = _ := e0
  replace e1 : [c1] = _ := e1
  replace e2 : [c2] = _ := e2
  simp only [List.cons.injEq, and_true] at e0 e1 e2
  exact ⟨⟨y0, y1, y2⟩, by simp [*], ⟨g0, g1, g2⟩⟩
theorem op_SlPrd : Opens Tryz.prog 22 (fun s : Sl Prd => [s.val]) (fun s h => s.Ok 3 32 Prd.enc PrdOk h) := op_slice Tryz.underlying22 (by kernel_rfl) (by kernel_rfl) (by decide) (by decide) op_Prd
theorem op_Atm : Opens Tryz.prog 71 Atm.enc AtmOk := fun H en W fuel cs x h hw => by
  have hl := op_len Tryz.underlying71 h
  rw [show Tryz.prog.cellsOf 71 = 2 by kernel_rfl] at hl
  obtain ⟨y0, e0, g0⟩ := op_field Tryz.underlying71 h hw 0 rfl (k := 1) (by kernel_rfl) (op_int Tryz.underlying3)
  obtain ⟨y1, e1, g1⟩ := op_field Tryz.underlying71 h hw 1 rfl (k := 1) (by kernel_rfl) (op_SlTrm)
  obtain ⟨c0, c1, rfl⟩ := len2 hl
  replace e0 : [c0] = _ := e0
  replace e1 : [c1] = _ := e1
  simp only [List.cons.injEq, and_true] at e0 e1
  exact ⟨⟨y0, y1⟩, by simp [*], ⟨g0, g1⟩⟩
theorem op_Ltl : Opens Tryz.prog 87 Ltl.enc LtlOk := fun H en W fuel cs x h hw => by
  have hl := op_len Tryz.underlying87 h
  rw [show Tryz.prog.cellsOf 87 = 3 by kernel_rfl] at hl
  obtain ⟨y0, e0, g0⟩ := op_field Tryz.underlying87 h hw 0 rfl (k := 1) (by kernel_rfl) (op_bool Tryz.underlying4)
  obtain ⟨y1, e1, g1⟩ := op_field Tryz.underlying87 h hw 1 rfl (k := 2) (by kernel_rfl) (op_Atm)
  obtain ⟨c0, c1, c2, rfl⟩ := len3 hl
  replace e0 : [c0] = _ := e0
  replace e1 : [c1, c2] = _ := e1
  simp only [List.cons.injEq, and_true] at e0 e1
  exact ⟨⟨y0, y1⟩, by simp [*], g1⟩
theorem op_SlLtl : Opens Tryz.prog 72 (fun s : Sl Ltl => [s.val]) (fun s h => s.Ok 3 40 Ltl.enc LtlOk h) := op_slice Tryz.underlying72 (by kernel_rfl) (by kernel_rfl) (by decide) (by decide) op_Ltl
theorem op_Rul : Opens Tryz.prog 74 Rul.enc RulOk := fun H en W fuel cs x h hw => by
  have hl := op_len Tryz.underlying74 h
  rw [show Tryz.prog.cellsOf 74 = 5 by kernel_rfl] at hl
  obtain ⟨y0, e0, g0⟩ := op_field Tryz.underlying74 h hw 0 rfl (k := 2) (by kernel_rfl) (op_Atm)
  obtain ⟨y1, e1, g1⟩ := op_field Tryz.underlying74 h hw 1 rfl (k := 1) (by kernel_rfl) (op_int Tryz.underlying3)
  obtain ⟨y2, e2, g2⟩ := op_field Tryz.underlying74 h hw 2 rfl (k := 1) (by kernel_rfl) (op_int Tryz.underlying3)
  obtain ⟨y3, e3, g3⟩ := op_field Tryz.underlying74 h hw 3 rfl (k := 1) (by kernel_rfl) (op_SlLtl)
  obtain ⟨c0, c1, c2, c3, c4, rfl⟩ := len5 hl
  replace e0 : [c0, c1] = _ := e0
  replace e1 : [c2] = _ := e1
  replace e2 : [c3] = _ := e2
  replace e3 : [c4] = _ := e3
  simp only [List.cons.injEq, and_true] at e0 e1 e2 e3
  exact ⟨⟨y0, y1, y2, y3⟩, by simp [*], ⟨g0, g1, g2, g3⟩⟩
theorem op_SlRul : Opens Tryz.prog 23 (fun s : Sl Rul => [s.val]) (fun s h => s.Ok 5 72 Rul.enc RulOk h) := op_slice Tryz.underlying23 (by kernel_rfl) (by kernel_rfl) (by decide) (by decide) op_Rul
theorem op_Prg : Opens Tryz.prog 25 Prg.enc PrgOk := fun H en W fuel cs x h hw => by
  have hl := op_len Tryz.underlying25 h
  rw [show Tryz.prog.cellsOf 25 = 2 by kernel_rfl] at hl
  obtain ⟨y0, e0, g0⟩ := op_field Tryz.underlying25 h hw 0 rfl (k := 1) (by kernel_rfl) (op_SlPrd)
  obtain ⟨y1, e1, g1⟩ := op_field Tryz.underlying25 h hw 1 rfl (k := 1) (by kernel_rfl) (op_SlRul)
  obtain ⟨c0, c1, rfl⟩ := len2 hl
  replace e0 : [c0] = _ := e0
  replace e1 : [c1] = _ := e1
  simp only [List.cons.injEq, and_true] at e0 e1
  exact ⟨⟨y0, y1⟩, by simp [*], ⟨g0, g1⟩⟩
theorem op_Fct : Opens Tryz.prog 29 Fct.enc FctOk := fun H en W fuel cs x h hw => by
  have hl := op_len Tryz.underlying29 h
  rw [show Tryz.prog.cellsOf 29 = 4 by kernel_rfl] at hl
  obtain ⟨y0, e0, g0⟩ := op_field Tryz.underlying29 h hw 0 rfl (k := 1) (by kernel_rfl) (op_int Tryz.underlying3)
  obtain ⟨y1, e1, g1⟩ := op_field Tryz.underlying29 h hw 1 rfl (k := 1) (by kernel_rfl) (op_int Tryz.underlying3)
  obtain ⟨y2, e2, g2⟩ := op_field Tryz.underlying29 h hw 2 rfl (k := 1) (by kernel_rfl) (op_int Tryz.underlying3)
  obtain ⟨y3, e3, g3⟩ := op_field Tryz.underlying29 h hw 3 rfl (k := 1) (by kernel_rfl) (op_int Tryz.underlying3)
  obtain ⟨c0, c1, c2, c3, rfl⟩ := len4 hl
  replace e0 : [c0] = _ := e0
  replace e1 : [c1] = _ := e1
  replace e2 : [c2] = _ := e2
  replace e3 : [c3] = _ := e3
  simp only [List.cons.injEq, and_true] at e0 e1 e2 e3
  exact ⟨⟨y0, y1, y2, y3⟩, by simp [*], ⟨g0, g1, g2, g3⟩⟩
theorem op_SlFct : Opens Tryz.prog 26 (fun s : Sl Fct => [s.val]) (fun s h => s.Ok 4 32 Fct.enc FctOk h) := op_slice Tryz.underlying26 (by kernel_rfl) (by kernel_rfl) (by decide) (by decide) op_Fct
end Go.TF
end
section
/- The laws of a round: each returns true. -/
namespace Go.TF
open Go Go.RowKit Go.Proofs
set_option maxRecDepth 20000

theorem PrgOk.nm3 {p : Prg} {h : Heap} (x : PrgOk p h) : p.Nm := fun y hy => by
  have := (x.preds.each y hy).1
  simp only [reachBytes] at this; omega
theorem once_err {p : Prg} {f : List Fct} {st : Int} : (onceOf p f st).2 = askR p f := by
  unfold onceOf
  split
  · rfl
  · rename_i h; exact (Decidable.not_not.1 h).symm
theorem closed_err {p : Prg} {f : List Fct} : (closedOf p f).2 = askR p f := by
  unfold closedOf
  split
  · rfl
  · rename_i h; exact (Decidable.not_not.1 h).symm
theorem once_turn {p : Prg} {f : List Fct} {st : Int} (h : askR p f = 0) : onceOf p f st = (turnL p.preds.xs f (toldL p.preds.xs f p.rules.xs (ofQ p (strataM p) st)), 0) := by
  unfold onceOf; rw [if_neg (by rw [h]; decide)]
theorem closed_of {p : Prg} {f : List Fct} (h : askR p f = 0) : closedOf p f = (closedB p f, 0) := by
  unfold closedOf; rw [if_neg (by rw [h]; decide)]
set_option maxHeartbeats 4000000 in
theorem RoundTells_ok (B : Base) (hB : B.ok) (p : Prg) (hp : p.In B.h) (hnm : p.Nm) (f : Sl Fct) (hf : Fcts f B.h) (st : Int) : Fn Tryz.prog 5 [p.val, f.val, .int .i64 st] B (fun v _ => v = .bool true) := by
  refine Fn.of Tryz.func5 rfl Tryz.ntmps5 (by kernel_rfl) (by simp) ?_
  intro e
  have I := Inv.start hB
  refine WP.seq ?_
  refine WP.region ?_
  refine Ops.go (O.box (v := .agg #[_, _]) I rfl rfl ?_)
  intro b3 w I
  refine Ops.y (v := .bool _) (Y.assign rfl) ?_
  refine Ops.nil ?_
  refine WP.seq ?_
  refine WP.region ?_
  refine Ops.y (v := .agg #[_, _]) (Y.loadv ty_25 rfl (I.rdbox 0 rfl 0 2) rfl rfl) ?_
  refine Ops.y (v := .slice _ _ _) (Y.move rfl) ?_
  refine Ops.y (v := .int .i64 _) (Y.move rfl) ?_
  refine Ops.go (O.call I Tryz.call16 (Once_ok _ I.base_ok p hp hnm f hf st) rfl ?_)
  rintro _ h1 w I le1 ⟨s1, rfl, e1, i1⟩
  refine Ops.y (v := .tuple #[_, _, _]) (Y.move rfl) ?_
  refine Ops.y (v := .slice _ _ _) (Y.extract rfl rfl) ?_
  refine Ops.y (v := .bool _) (Y.extract rfl rfl) ?_
  refine Ops.y (v := .int .i64 _) (Y.extract rfl rfl) ?_
  refine Ops.y (v := .slice _ _ _) (Y.assign rfl) ?_
  refine Ops.y (v := .bool _) (Y.assign rfl) ?_
  refine Ops.y (v := .int .i64 _) (Y.assign rfl) ?_
  refine Ops.nil ?_
  have hp := hp.le le1
  have hf := hf.le le1
  refine WP.seq ?_
  refine WP.region ?_
  refine Ops.y (v := .agg #[_, _]) (Y.loadv ty_25 rfl (I.rdbox 0 rfl 0 2) rfl rfl) ?_
  refine Ops.y (v := .slice _ _ _) (Y.move rfl) ?_
  refine Ops.go (O.callv I Tryz.call17 (Closed_ok _ I.base_ok p hp hnm f hf) rfl ?_)
  intro w I
  refine Ops.y (v := .tuple #[_, _]) (Y.move rfl) ?_
  refine Ops.y (v := .bool _) (Y.extract rfl rfl) ?_
  refine Ops.y (v := .int .i64 _) (Y.extract rfl rfl) ?_
  refine Ops.y (v := .bool _) (Y.assign rfl) ?_
  refine Ops.y (v := .int .i64 _) (Y.assign rfl) ?_
  refine Ops.nil ?_
  refine WP.seq ?_
  refine WP.region ?_
  refine Ops.y (v := .agg #[_, _]) (Y.loadv ty_25 rfl (I.rdbox 0 rfl 0 2) rfl rfl) ?_
  refine Ops.y (v := .slice _ _ _) (Y.move rfl) ?_
  refine Ops.go (O.callv I Tryz.call18 (RoundError_ok _ I.base_ok p hp hnm f hf) rfl ?_)
  intro w I
  refine Ops.y (v := .int .i64 _) (Y.assign rfl) ?_
  refine Ops.nil ?_
  refine WP.seq ?_
  refine WP.region ?_
  refine Ops.y (v := .slice _ _ _) (Y.assign rfl) ?_
  refine Ops.nil ?_
  refine WP.seq ?_
  refine WP.region ?_
  refine Ops.y (v := .bool _) (Y.assign rfl) ?_
  refine Ops.y (v := .bool _) (Y.assign rfl) ?_
  refine Ops.nil ?_
  refine WP.seq ?_
  refine WP.seq ?_
  refine WP.region ?_
  refine Ops.y (v := .int .i64 _) (Y.move rfl) ?_
  refine Ops.y (v := .bool (decide _)) (Y.eqi rfl rfl) ?_
  refine Ops.nil ?_
  refine WP.cond_dec rfl (fun h6 => ?_) (fun h6 => ?_)
  · have h6 : askR p f.xs = 0 := h6
    obtain ⟨hpr, okf⟩ := askR_iff.1 h6
    have eo := once_turn (st := st) h6
    have ec := closed_of h6
    refine WP.seq ?_
    refine WP.region ?_
    refine Ops.y (v := .agg #[_, _]) (Y.loadv ty_25 rfl (I.rdbox 0 rfl 0 2) rfl rfl) ?_
    refine Ops.y (v := .slice _ _ _) (Y.move rfl) ?_
    refine Ops.y (v := .int .i64 _) (Y.move rfl) ?_
    refine Ops.go (O.call I Tryz.call19 (OnceOf_ok _ I.base_ok p hp hpr f hf okf st) rfl ?_)
    rintro _ h7 w I le7 ⟨s7, rfl, e7, i7⟩
    refine Ops.y (v := .tuple #[_, _]) (Y.move rfl) ?_
    refine Ops.y (v := .slice _ _ _) (Y.extract rfl rfl) ?_
    refine Ops.y (v := .bool _) (Y.extract rfl rfl) ?_
    refine Ops.y (v := .slice _ _ _) (Y.assign rfl) ?_
    refine Ops.y (v := .bool _) (Y.assign rfl) ?_
    refine Ops.nil ?_
    refine WP.region ?_
    refine Ops.y (v := .agg #[_, _]) (Y.loadv ty_25 rfl (I.rdbox 0 rfl 0 2) rfl rfl) ?_
    refine Ops.y (v := .slice _ _ _) (Y.move rfl) ?_
    refine Ops.go (O.callv I Tryz.call20 (ClosedOf_ok _ I.base_ok p (hp.le le7) hpr f (hf.le le7) okf) rfl ?_)
    intro w I
    refine Ops.y (v := .bool _) (Y.assign rfl) ?_
    refine Ops.nil ?_
    refine WP.seq ?_
    refine WP.region ?_
    refine Ops.go (O.callv I Tryz.call21 (roundBegun_ok _ I.base_ok) rfl ?_)
    intro w I
    refine Ops.y (v := .bool _) (Y.move rfl) ?_
    refine Ops.ygt rfl (v := .slice _ _ _) (Y.move rfl) ?_
    refine Ops.ygt rfl (v := .slice _ _ _) (Y.move rfl) ?_
    refine Ops.gt rfl (O.callv I Tryz.call22 (SameFacts_at _ I.base_ok s1 s7 (i1.le le7) i7 (by rw [e1, e7, eo])) rfl ?_)
    intro w I
    refine Ops.y (v := .bool _) (Y.pick_t rfl rfl) ?_
    refine Ops.y (v := .bool _) (Y.move rfl) ?_
    refine Ops.ygt rfl (v := .bool _) (Y.move rfl) ?_
    refine Ops.ygt rfl (v := .bool _) (Y.move rfl) ?_
    refine Ops.ygt rfl (v := .bool true) (Y.dec_t (Y.eqb Tryz.underlying4 rfl rfl) ((by rw [eo]))) ?_
    refine Ops.y (v := .bool _) (Y.pick_t rfl rfl) ?_
    refine Ops.y (v := .bool _) (Y.move rfl) ?_
    refine Ops.ygt rfl (v := .int .i64 _) (Y.move rfl) ?_
    refine Ops.ygt rfl (v := .int .i64 _) (Y.move rfl) ?_
    refine Ops.ygt rfl (v := .bool true) (Y.dec_t (Y.eqi rfl rfl) (once_err)) ?_
    refine Ops.y (v := .bool _) (Y.pick_t rfl rfl) ?_
    refine Ops.y (v := .bool _) (Y.move rfl) ?_
    refine Ops.ygt rfl (v := .bool _) (Y.move rfl) ?_
    refine Ops.ygt rfl (v := .bool _) (Y.move rfl) ?_
    refine Ops.ygt rfl (v := .bool true) (Y.dec_t (Y.eqb Tryz.underlying4 rfl rfl) ((by rw [ec]))) ?_
    refine Ops.y (v := .bool _) (Y.pick_t rfl rfl) ?_
    refine Ops.y (v := .bool _) (Y.move rfl) ?_
    refine Ops.ygt rfl (v := .int .i64 _) (Y.move rfl) ?_
    refine Ops.ygt rfl (v := .int .i64 _) (Y.move rfl) ?_
    refine Ops.ygt rfl (v := .bool true) (Y.dec_t (Y.eqi rfl rfl) (closed_err)) ?_
    refine Ops.y (v := .bool _) (Y.pick_t rfl rfl) ?_
    refine Ops.y (v := .bool _) (Y.assign rfl) ?_
    refine Ops.nil ?_
    refine WP.ret ?_
    repeat (first | refine thenE_ret ?_ | refine blockE_ret ?_)
    exact retQ.mk (vs := [.bool _]) rfl ⟨rfl, trivial⟩ I.ext_of (rfl)
  · have h6 : askR p f.xs ≠ 0 := h6
    have eo : onceOf p f.xs st = (([], false), askR p f.xs) := by unfold onceOf; rw [if_pos h6]
    have ec : closedOf p f.xs = (false, askR p f.xs) := by unfold closedOf; rw [if_pos h6]
    refine WP.skip ?_
    refine WP.seq ?_
    refine WP.region ?_
    refine Ops.go (O.callv I Tryz.call21 (roundBegun_ok _ I.base_ok) rfl ?_)
    intro w I
    refine Ops.y (v := .bool _) (Y.move rfl) ?_
    refine Ops.ygt rfl (v := .slice _ _ _) (Y.move rfl) ?_
    refine Ops.ygt rfl (v := .slice _ _ _) (Y.move rfl) ?_
    refine Ops.gt rfl (O.callv I Tryz.call22 (SameFacts_at _ I.base_ok s1 ⟨none, 0, []⟩ i1 fnil (by rw [e1, eo])) rfl ?_)
    intro w I
    refine Ops.y (v := .bool _) (Y.pick_t rfl rfl) ?_
    refine Ops.y (v := .bool _) (Y.move rfl) ?_
    refine Ops.ygt rfl (v := .bool _) (Y.move rfl) ?_
    refine Ops.ygt rfl (v := .bool _) (Y.move rfl) ?_
    refine Ops.ygt rfl (v := .bool true) (Y.dec_t (Y.eqb Tryz.underlying4 rfl rfl) ((by rw [eo]))) ?_
    refine Ops.y (v := .bool _) (Y.pick_t rfl rfl) ?_
    refine Ops.y (v := .bool _) (Y.move rfl) ?_
    refine Ops.ygt rfl (v := .int .i64 _) (Y.move rfl) ?_
    refine Ops.ygt rfl (v := .int .i64 _) (Y.move rfl) ?_
    refine Ops.ygt rfl (v := .bool true) (Y.dec_t (Y.eqi rfl rfl) (once_err)) ?_
    refine Ops.y (v := .bool _) (Y.pick_t rfl rfl) ?_
    refine Ops.y (v := .bool _) (Y.move rfl) ?_
    refine Ops.ygt rfl (v := .bool _) (Y.move rfl) ?_
    refine Ops.ygt rfl (v := .bool _) (Y.move rfl) ?_
    refine Ops.ygt rfl (v := .bool true) (Y.dec_t (Y.eqb Tryz.underlying4 rfl rfl) ((by rw [ec]))) ?_
    refine Ops.y (v := .bool _) (Y.pick_t rfl rfl) ?_
    refine Ops.y (v := .bool _) (Y.move rfl) ?_
    refine Ops.ygt rfl (v := .int .i64 _) (Y.move rfl) ?_
    refine Ops.ygt rfl (v := .int .i64 _) (Y.move rfl) ?_
    refine Ops.ygt rfl (v := .bool true) (Y.dec_t (Y.eqi rfl rfl) (closed_err)) ?_
    refine Ops.y (v := .bool _) (Y.pick_t rfl rfl) ?_
    refine Ops.y (v := .bool _) (Y.assign rfl) ?_
    refine Ops.nil ?_
    refine WP.ret ?_
    repeat (first | refine thenE_ret ?_ | refine blockE_ret ?_)
    exact retQ.mk (vs := [.bool _]) rfl ⟨rfl, trivial⟩ I.ext_of (rfl)
/-! ### RoundMore -/
theorem told_more {l : List Prd} {f g : List Fct} {rs : List Rul} {q : Nat → Bool} (ok : ∀ r ∈ rs, ROk l r) (okf : FOk l f) (okg : FOk l g) (hu : underF l f g = true) (hp : rs.all posR = true) : ∀ t ∈ toldL l f rs q, ∃ u ∈ toldL l g rs q, underF l [t.2] [u.2] = true := fun t ht => by
  obtain ⟨n, r, hr, hq, hs, he⟩ := mem_told.1 ht
  have hrm := List.mem_of_getElem? hr
  have hpr : posR r = true := List.all_eq_true.1 hp r hrm
  unfold stepsF at hs
  obtain ⟨x, hx, hxe⟩ := List.mem_map.1 hs
  obtain ⟨hv, hb⟩ := List.mem_filter.1 hx
  rw [Bool.and_eq_true] at hb
  have hvo := mem_vecs.1 hv
  have hbg := holdsB_up hu hpr hb.2
  have hxv : t.1.vars = x := by rw [← hxe]
  refine ⟨(t.1, headF l g r x), mem_told.2 ⟨n, r, hr, hq, ?_, by rw [hxv]⟩, ?_⟩
  · unfold stepsF
    exact List.mem_map.2 ⟨x, List.mem_filter.2 ⟨hv, by rw [hb.1, hbg]; rfl⟩, hxe⟩
  · have := head_under (ok r hrm) okf okg hvo hu hpr hb.2
    rw [underOf_of (fok_one okf.len okf.preds (headF_fine (ok r hrm) okf hvo hb.2)) (fok_one okf.len okf.preds (headF_fine (ok r hrm) okg hvo hbg))] at this
    have h1 : t.2 = headF l f r x := by rw [he, hxv]
    rw [h1]
    exact congrArg Prod.fst this
theorem turn_more {l : List Prd} {f g : List Fct} {rs : List Rul} {q : Nat → Bool} (ok : ∀ r ∈ rs, ROk l r) (okf : FOk l f) (okg : FOk l g) (hu : underF l f g = true) (hp : rs.all posR = true) : underF l (turnL l f (toldL l f rs q)).1 (turnL l g (toldL l g rs q)).1 = true := by
  have tf := told_fine (q := q) ok okf
  have tg := told_fine (q := q) ok okg
  have ru := run_up (toldL l g rs q) (g, false) okg tg
  refine run_least ru.fok (toldL l f rs q) (f, false) okf tf (under_trans okf okg ru.fok hu ru.up) fun t ht => ?_
  obtain ⟨u, hum, hu2⟩ := told_more ok okf okg hu hp t ht
  exact under_trans (fok_one okf.len okf.preds (tf t ht)) (fok_one okf.len okf.preds (tg u hum)) ru.fok hu2 (ru.each u hum)
set_option maxHeartbeats 4000000 in
theorem RoundMore_ok (B : Base) (hB : B.ok) (p : Prg) (hp : p.In B.h) (hnm : p.Nm) (f g : Sl Fct) (hf : Fcts f B.h) (hg : Fcts g B.h) (st : Int) : Fn Tryz.prog 8 [p.val, f.val, g.val, .int .i64 st] B (fun v _ => v = .bool true) := by
  refine Fn.of Tryz.func8 rfl Tryz.ntmps8 (by kernel_rfl) (by simp) ?_
  intro e
  have I := Inv.start hB
  refine WP.seq ?_
  refine WP.region ?_
  refine Ops.go (O.box (v := .agg #[_, _]) I rfl rfl ?_)
  intro b4 w I
  refine Ops.y (v := .bool _) (Y.assign rfl) ?_
  refine Ops.nil ?_
  refine WP.seq ?_
  refine WP.region ?_
  refine Ops.y (v := .agg #[_, _]) (Y.loadv ty_25 rfl (I.rdbox 0 rfl 0 2) rfl rfl) ?_
  refine Ops.y (v := .slice _ _ _) (Y.move rfl) ?_
  refine Ops.y (v := .int .i64 _) (Y.move rfl) ?_
  refine Ops.go (O.call I Tryz.call16 (Once_ok _ I.base_ok p hp hnm f hf st) rfl ?_)
  rintro _ h1 w I le1 ⟨s1, rfl, e1, i1⟩
  refine Ops.y (v := .tuple #[_, _, _]) (Y.move rfl) ?_
  refine Ops.y (v := .slice _ _ _) (Y.extract rfl rfl) ?_
  refine Ops.y (v := .bool _) (Y.extract rfl rfl) ?_
  refine Ops.y (v := .int .i64 _) (Y.extract rfl rfl) ?_
  refine Ops.y (v := .slice _ _ _) (Y.assign rfl) ?_
  refine Ops.y (v := .bool _) (Y.assign rfl) ?_
  refine Ops.y (v := .int .i64 _) (Y.assign rfl) ?_
  refine Ops.nil ?_
  have hp := hp.le le1
  have hf := hf.le le1
  have hg := hg.le le1
  refine WP.seq ?_
  refine WP.region ?_
  refine Ops.y (v := .agg #[_, _]) (Y.loadv ty_25 rfl (I.rdbox 0 rfl 0 2) rfl rfl) ?_
  refine Ops.y (v := .slice _ _ _) (Y.move rfl) ?_
  refine Ops.y (v := .int .i64 _) (Y.move rfl) ?_
  refine Ops.go (O.call I Tryz.call16 (Once_ok _ I.base_ok p hp hnm g hg st) rfl ?_)
  rintro _ h2 w I le2 ⟨s2, rfl, e2, i2⟩
  refine Ops.y (v := .tuple #[_, _, _]) (Y.move rfl) ?_
  refine Ops.y (v := .slice _ _ _) (Y.extract rfl rfl) ?_
  refine Ops.y (v := .bool _) (Y.extract rfl rfl) ?_
  refine Ops.y (v := .int .i64 _) (Y.extract rfl rfl) ?_
  refine Ops.y (v := .slice _ _ _) (Y.assign rfl) ?_
  refine Ops.y (v := .bool _) (Y.assign rfl) ?_
  refine Ops.y (v := .int .i64 _) (Y.assign rfl) ?_
  refine Ops.nil ?_
  have hp := hp.le le2
  have hf := hf.le le2
  have hg := hg.le le2
  have i1 := i1.le le2
  by_cases o1 : (onceOf p f.xs st).2 ≠ 0
  · refine WP.seq ?_
    refine WP.seq ?_
    refine WP.region ?_
    refine Ops.y (v := .int .i64 _) (Y.move rfl) ?_
    refine Ops.y (v := .bool true) (Y.dec_t (Y.nei rfl rfl) (o1)) ?_
    refine Ops.y (v := .bool _) (Y.move rfl) ?_
    refine Ops.gf rfl ?_
    refine Ops.gf rfl ?_
    refine Ops.y (v := .bool _) (Y.pick_t rfl rfl) ?_
    refine Ops.y (v := .bool _) (Y.move rfl) ?_
    refine Ops.gf rfl ?_
    refine Ops.gf rfl ?_
    refine Ops.gf rfl ?_
    refine Ops.y (v := .bool _) (Y.pick_t rfl rfl) ?_
    refine Ops.nil ?_
    refine WP.cond_t rfl ?_
    refine WP.seq ?_
    refine WP.region ?_
    refine Ops.go (O.callv I Tryz.call21 (roundBegun_ok _ I.base_ok) rfl ?_)
    intro w I
    refine Ops.y (v := .bool _) (Y.assign rfl) ?_
    refine Ops.nil ?_
    refine WP.ret ?_
    repeat (first | refine thenE_ret ?_ | refine blockE_ret ?_)
    exact retQ.mk (vs := [.bool _]) rfl ⟨rfl, trivial⟩ I.ext_of (rfl)
  by_cases o2 : (onceOf p g.xs st).2 ≠ 0
  · refine WP.seq ?_
    refine WP.seq ?_
    refine WP.region ?_
    refine Ops.y (v := .int .i64 _) (Y.move rfl) ?_
    refine Ops.y (v := .bool false) (Y.dec_f (Y.nei rfl rfl) (o1)) ?_
    refine Ops.y (v := .bool _) (Y.move rfl) ?_
    refine Ops.ygt rfl (v := .int .i64 _) (Y.move rfl) ?_
    refine Ops.ygt rfl (v := .bool true) (Y.dec_t (Y.nei rfl rfl) (o2)) ?_
    refine Ops.y (v := .bool _) (Y.pick_f rfl rfl) ?_
    refine Ops.y (v := .bool _) (Y.move rfl) ?_
    refine Ops.gf rfl ?_
    refine Ops.gf rfl ?_
    refine Ops.gf rfl ?_
    refine Ops.y (v := .bool _) (Y.pick_t rfl rfl) ?_
    refine Ops.nil ?_
    refine WP.cond_t rfl ?_
    refine WP.seq ?_
    refine WP.region ?_
    refine Ops.go (O.callv I Tryz.call21 (roundBegun_ok _ I.base_ok) rfl ?_)
    intro w I
    refine Ops.y (v := .bool _) (Y.assign rfl) ?_
    refine Ops.nil ?_
    refine WP.ret ?_
    repeat (first | refine thenE_ret ?_ | refine blockE_ret ?_)
    exact retQ.mk (vs := [.bool _]) rfl ⟨rfl, trivial⟩ I.ext_of (rfl)
  cases hpo : posP p
  · refine WP.seq ?_
    refine WP.seq ?_
    refine WP.region ?_
    refine Ops.y (v := .int .i64 _) (Y.move rfl) ?_
    refine Ops.y (v := .bool false) (Y.dec_f (Y.nei rfl rfl) (o1)) ?_
    refine Ops.y (v := .bool _) (Y.move rfl) ?_
    refine Ops.ygt rfl (v := .int .i64 _) (Y.move rfl) ?_
    refine Ops.ygt rfl (v := .bool false) (Y.dec_f (Y.nei rfl rfl) (o2)) ?_
    refine Ops.y (v := .bool _) (Y.pick_f rfl rfl) ?_
    refine Ops.y (v := .bool _) (Y.move rfl) ?_
    refine Ops.ygt rfl (v := .agg #[_, _]) (Y.loadv ty_25 rfl (I.rdbox 0 rfl 0 2) rfl rfl) ?_
    refine Ops.gt rfl (O.callv I Tryz.call25 (hpo ▸ positive_ok _ I.base_ok p hp) rfl ?_)
    intro w I
    refine Ops.ygt rfl (v := .bool true) (Y.b (Y.not rfl) (rfl)) ?_
    refine Ops.y (v := .bool _) (Y.pick_f rfl rfl) ?_
    refine Ops.nil ?_
    refine WP.cond_t rfl ?_
    refine WP.seq ?_
    refine WP.region ?_
    refine Ops.go (O.callv I Tryz.call21 (roundBegun_ok _ I.base_ok) rfl ?_)
    intro w I
    refine Ops.y (v := .bool _) (Y.assign rfl) ?_
    refine Ops.nil ?_
    refine WP.ret ?_
    repeat (first | refine thenE_ret ?_ | refine blockE_ret ?_)
    exact retQ.mk (vs := [.bool _]) rfl ⟨rfl, trivial⟩ I.ext_of (rfl)
  refine WP.seq ?_
  refine WP.seq ?_
  refine WP.region ?_
  refine Ops.y (v := .int .i64 _) (Y.move rfl) ?_
  refine Ops.y (v := .bool false) (Y.dec_f (Y.nei rfl rfl) (o1)) ?_
  refine Ops.y (v := .bool _) (Y.move rfl) ?_
  refine Ops.ygt rfl (v := .int .i64 _) (Y.move rfl) ?_
  refine Ops.ygt rfl (v := .bool false) (Y.dec_f (Y.nei rfl rfl) (o2)) ?_
  refine Ops.y (v := .bool _) (Y.pick_f rfl rfl) ?_
  refine Ops.y (v := .bool _) (Y.move rfl) ?_
  refine Ops.ygt rfl (v := .agg #[_, _]) (Y.loadv ty_25 rfl (I.rdbox 0 rfl 0 2) rfl rfl) ?_
  refine Ops.gt rfl (O.callv I Tryz.call25 (hpo ▸ positive_ok _ I.base_ok p hp) rfl ?_)
  intro w I
  refine Ops.ygt rfl (v := .bool false) (Y.b (Y.not rfl) (rfl)) ?_
  refine Ops.y (v := .bool _) (Y.pick_f rfl rfl) ?_
  refine Ops.nil ?_
  refine WP.cond_f rfl ?_
  have a1 : askR p f.xs = 0 := once_err.symm.trans (Decidable.not_not.1 o1)
  have a2 : askR p g.xs = 0 := once_err.symm.trans (Decidable.not_not.1 o2)
  obtain ⟨hpr, okf⟩ := askR_iff.1 a1
  obtain ⟨_, okg⟩ := askR_iff.1 a2
  have rk := rules_rok hpr okf
  rw [once_turn a1] at e1
  rw [once_turn a2] at e2
  dsimp only at e1 e2
  have ok1 : FOk p.preds.xs s1.xs := by rw [e1]; exact turn_fok okf (told_fine rk okf)
  have ok2 : FOk p.preds.xs s2.xs := by rw [e2]; exact turn_fok okg (told_fine rk okg)
  cases hu : underF p.preds.xs f.xs g.xs
  · refine WP.skip ?_
    refine WP.seq ?_
    refine WP.region ?_
    refine Ops.y (v := .pointer (some ⟨_, _, none⟩)) (Y.fa0 fa_25_0 rfl) ?_
    refine Ops.y (v := .slice _ _ _) (Y.loadv ty_22 rfl (I.rdbox 0 rfl 0 1) rfl rfl) ?_
    refine Ops.y (v := .slice _ _ _) (Y.move rfl) ?_
    refine Ops.y (v := .slice _ _ _) (Y.move rfl) ?_
    refine Ops.go (O.callv I Tryz.call24 (Under_at _ I.base_ok p.preds hp.preds f g hf hg (false, 0) (by rw [underOf_of okf okg, hu])) rfl ?_)
    intro w I
    refine Ops.y (v := .tuple #[_, _]) (Y.move rfl) ?_
    refine Ops.y (v := .bool _) (Y.extract rfl rfl) ?_
    refine Ops.y (v := .int .i64 _) (Y.extract rfl rfl) ?_
    refine Ops.y (v := .bool _) (Y.assign rfl) ?_
    refine Ops.y (v := .int .i64 _) (Y.assign rfl) ?_
    refine Ops.nil ?_
    refine WP.seq ?_
    refine WP.region ?_
    refine Ops.y (v := .pointer (some ⟨_, _, none⟩)) (Y.fa0 fa_25_0 rfl) ?_
    refine Ops.y (v := .slice _ _ _) (Y.loadv ty_22 rfl (I.rdbox 0 rfl 0 1) rfl rfl) ?_
    refine Ops.y (v := .slice _ _ _) (Y.move rfl) ?_
    refine Ops.y (v := .slice _ _ _) (Y.move rfl) ?_
    refine Ops.go (O.callv I Tryz.call24 (Under_at _ I.base_ok p.preds hp.preds s1 s2 i1 i2 _ (underOf_of ok1 ok2)) rfl ?_)
    intro w I
    refine Ops.y (v := .tuple #[_, _]) (Y.move rfl) ?_
    refine Ops.y (v := .bool _) (Y.extract rfl rfl) ?_
    refine Ops.y (v := .int .i64 _) (Y.extract rfl rfl) ?_
    refine Ops.y (v := .bool _) (Y.assign rfl) ?_
    refine Ops.y (v := .int .i64 _) (Y.assign rfl) ?_
    refine Ops.nil ?_
    refine WP.seq ?_
    refine WP.region ?_
    refine Ops.go (O.callv I Tryz.call21 (roundBegun_ok _ I.base_ok) rfl ?_)
    intro w I
    refine Ops.y (v := .bool _) (Y.move rfl) ?_
    refine Ops.ygt rfl (v := .int .i64 _) (Y.move rfl) ?_
    refine Ops.ygt rfl (v := .bool true) (Y.dec_t (Y.eqi rfl rfl) (rfl)) ?_
    refine Ops.y (v := .bool _) (Y.pick_t rfl rfl) ?_
    refine Ops.y (v := .bool _) (Y.move rfl) ?_
    refine Ops.ygt rfl (v := .int .i64 _) (Y.move rfl) ?_
    refine Ops.ygt rfl (v := .bool true) (Y.dec_t (Y.eqi rfl rfl) (rfl)) ?_
    refine Ops.y (v := .bool _) (Y.pick_t rfl rfl) ?_
    refine Ops.y (v := .bool _) (Y.move rfl) ?_
    refine Ops.ygt rfl (v := .bool _) (Y.move rfl) ?_
    refine Ops.ygt rfl (v := .bool true) (Y.b (Y.not rfl) (rfl)) ?_
    refine Ops.ygt rfl (v := .bool _) (Y.move rfl) ?_
    refine Ops.gf rfl ?_
    refine Ops.ygt rfl (v := .bool _) (Y.pick_t rfl rfl) ?_
    refine Ops.y (v := .bool _) (Y.pick_t rfl rfl) ?_
    refine Ops.y (v := .bool _) (Y.assign rfl) ?_
    refine Ops.nil ?_
    refine WP.ret ?_
    repeat (first | refine thenE_ret ?_ | refine blockE_ret ?_)
    exact retQ.mk (vs := [.bool _]) rfl ⟨rfl, trivial⟩ I.ext_of (rfl)
  · have h2 : underF p.preds.xs s1.xs s2.xs = true := by rw [e1, e2]; exact turn_more rk okf okg hu hpo
    refine WP.skip ?_
    refine WP.seq ?_
    refine WP.region ?_
    refine Ops.y (v := .pointer (some ⟨_, _, none⟩)) (Y.fa0 fa_25_0 rfl) ?_
    refine Ops.y (v := .slice _ _ _) (Y.loadv ty_22 rfl (I.rdbox 0 rfl 0 1) rfl rfl) ?_
    refine Ops.y (v := .slice _ _ _) (Y.move rfl) ?_
    refine Ops.y (v := .slice _ _ _) (Y.move rfl) ?_
    refine Ops.go (O.callv I Tryz.call24 (Under_at _ I.base_ok p.preds hp.preds f g hf hg (true, 0) (by rw [underOf_of okf okg, hu])) rfl ?_)
    intro w I
    refine Ops.y (v := .tuple #[_, _]) (Y.move rfl) ?_
    refine Ops.y (v := .bool _) (Y.extract rfl rfl) ?_
    refine Ops.y (v := .int .i64 _) (Y.extract rfl rfl) ?_
    refine Ops.y (v := .bool _) (Y.assign rfl) ?_
    refine Ops.y (v := .int .i64 _) (Y.assign rfl) ?_
    refine Ops.nil ?_
    refine WP.seq ?_
    refine WP.region ?_
    refine Ops.y (v := .pointer (some ⟨_, _, none⟩)) (Y.fa0 fa_25_0 rfl) ?_
    refine Ops.y (v := .slice _ _ _) (Y.loadv ty_22 rfl (I.rdbox 0 rfl 0 1) rfl rfl) ?_
    refine Ops.y (v := .slice _ _ _) (Y.move rfl) ?_
    refine Ops.y (v := .slice _ _ _) (Y.move rfl) ?_
    refine Ops.go (O.callv I Tryz.call24 (Under_at _ I.base_ok p.preds hp.preds s1 s2 i1 i2 (true, 0) (by rw [underOf_of ok1 ok2, h2])) rfl ?_)
    intro w I
    refine Ops.y (v := .tuple #[_, _]) (Y.move rfl) ?_
    refine Ops.y (v := .bool _) (Y.extract rfl rfl) ?_
    refine Ops.y (v := .int .i64 _) (Y.extract rfl rfl) ?_
    refine Ops.y (v := .bool _) (Y.assign rfl) ?_
    refine Ops.y (v := .int .i64 _) (Y.assign rfl) ?_
    refine Ops.nil ?_
    refine WP.seq ?_
    refine WP.region ?_
    refine Ops.go (O.callv I Tryz.call21 (roundBegun_ok _ I.base_ok) rfl ?_)
    intro w I
    refine Ops.y (v := .bool _) (Y.move rfl) ?_
    refine Ops.ygt rfl (v := .int .i64 _) (Y.move rfl) ?_
    refine Ops.ygt rfl (v := .bool true) (Y.dec_t (Y.eqi rfl rfl) (rfl)) ?_
    refine Ops.y (v := .bool _) (Y.pick_t rfl rfl) ?_
    refine Ops.y (v := .bool _) (Y.move rfl) ?_
    refine Ops.ygt rfl (v := .int .i64 _) (Y.move rfl) ?_
    refine Ops.ygt rfl (v := .bool true) (Y.dec_t (Y.eqi rfl rfl) (rfl)) ?_
    refine Ops.y (v := .bool _) (Y.pick_t rfl rfl) ?_
    refine Ops.y (v := .bool _) (Y.move rfl) ?_
    refine Ops.ygt rfl (v := .bool _) (Y.move rfl) ?_
    refine Ops.ygt rfl (v := .bool false) (Y.b (Y.not rfl) (rfl)) ?_
    refine Ops.ygt rfl (v := .bool _) (Y.move rfl) ?_
    refine Ops.ygt rfl (v := .bool _) (Y.move rfl) ?_
    refine Ops.ygt rfl (v := .bool _) (Y.pick_f rfl rfl) ?_
    refine Ops.y (v := .bool _) (Y.pick_t rfl rfl) ?_
    refine Ops.y (v := .bool _) (Y.assign rfl) ?_
    refine Ops.nil ?_
    refine WP.ret ?_
    repeat (first | refine thenE_ret ?_ | refine blockE_ret ?_)
    exact retQ.mk (vs := [.bool _]) rfl ⟨rfl, trivial⟩ I.ext_of (rfl)
end Go.TF
end
section
/- The laws of a round, the other two: each returns true. -/
namespace Go.TF
open Go Go.RowKit Go.Proofs
set_option maxRecDepth 20000

def sumN (L : List Int) : Nat := (L.map Int.toNat).sum
theorem sum_min : ∀ (L M : List Int), L.length = M.length → (∀ x ∈ L, 0 ≤ x) → (∀ x ∈ M, 0 ≤ x) → sumN (List.zipWith min L M) ≤ sumN L ∧ (sumN (List.zipWith min L M) = sumN L → ∀ (j : Nat) (h1 : j < L.length) (h2 : j < M.length), L[j] ≤ M[j])
  | [], _, _, _, _ => ⟨by simp [sumN], fun _ j h1 => by simp at h1⟩
  | _ :: _, [], h, _, _ => by simp at h
  | a :: L, b :: M, h, hp, hp2 => by
    obtain ⟨i1, i2⟩ := sum_min L M (by simpa using h) (fun x hx => hp x (List.mem_cons_of_mem _ hx)) fun x hx => hp2 x (List.mem_cons_of_mem _ hx)
    have hb := hp2 b List.mem_cons_self
    have ha := hp a List.mem_cons_self
    have e1 : sumN (List.zipWith min (a :: L) (b :: M)) = (min a b).toNat + sumN (List.zipWith min L M) := by simp [sumN]
    have e2 : sumN (a :: L) = a.toNat + sumN L := by simp [sumN]
    rw [e1, e2]
    refine ⟨by omega, fun e j h1 h2 => ?_⟩
    cases j with
    | zero => show a ≤ b; omega
    | succ j => exact i2 (by omega) j (by simpa using h1) (by simpa using h2)
theorem least_ex {cs : List (Int × Ltl)} {n : Nat} {M0 : List Int} (h0 : Sol cs n M0) : ∃ L, Least cs n L := by
  have hmin : ∀ k : Nat, ∀ L, Sol cs n L → sumN L = k → ∃ L, Sol cs n L ∧ ∀ M, Sol cs n M → sumN L ≤ sumN M := by
    intro k
    induction k using Nat.strongRecOn with
    | ind k ih =>
      intro L hL hk
      by_cases hx : ∃ M, Sol cs n M ∧ sumN M < k
      · obtain ⟨M, hM, hlt⟩ := hx
        exact ih _ hlt M hM rfl
      · refine ⟨L, hL, fun M hM => ?_⟩
        rcases Nat.lt_or_ge (sumN M) k with h | h
        · exact absurd ⟨M, hM, h⟩ hx
        · omega
  obtain ⟨L, hL, hm⟩ := hmin _ M0 h0 rfl
  refine ⟨L, hL, fun M hM i => ?_⟩
  have hlv : ∀ i, lv (List.zipWith min L M) i = min (lv L i) (lv M i) := fun i => by
    simp only [lv, List.getD_eq_getElem?_getD, List.getElem?_zipWith]
    by_cases hi : i.toNat < n
    · rw [List.getElem?_eq_getElem (by rw [hL.len]; exact hi), List.getElem?_eq_getElem (by rw [hM.len]; exact hi)]; rfl
    · rw [List.getElem?_eq_none (by rw [hL.len]; omega), List.getElem?_eq_none (by rw [hM.len]; omega)]; rfl
  have hS : Sol cs n (List.zipWith min L M) := by
    refine ⟨by rw [List.length_zipWith, hL.len, hM.len, Nat.min_self], fun i => ?_, fun c hc => ?_⟩
    · rw [hlv]; have := hL.pos i; have := hM.pos i; omega
    · have h1 := hL.sat c hc
      have h2 := hM.sat c hc
      unfold SatC lst at *
      rw [hlv, hlv]; omega
  have hnn : ∀ K, Sol cs n K → ∀ x ∈ K, 0 ≤ x := fun K hK x hx => by
    obtain ⟨j, hj, rfl⟩ := List.getElem_of_mem hx
    have := hK.pos j
    rw [lv_get hj] at this; exact this
  obtain ⟨s1, s2⟩ := sum_min L M (hL.len.trans hM.len.symm) (hnn L hL) (hnn M hM)
  have := s2 (Nat.le_antisymm s1 (hm _ hS))
  by_cases hi : i.toNat < n
  · simp only [lv, List.getD_eq_getElem?_getD]
    rw [List.getElem?_eq_getElem (by rw [hL.len]; exact hi), List.getElem?_eq_getElem (by rw [hM.len]; exact hi)]
    exact this _ _ _
  · simp only [lv, List.getD_eq_getElem?_getD]
    rw [List.getElem?_eq_none (by rw [hL.len]; omega), List.getElem?_eq_none (by rw [hM.len]; omega)]; exact Int.le_refl _
theorem strataM_least {p : Prg} (h : checkProg p = 0) : Least (usesL p.rules.xs) p.preds.xs.length (strataM p) := by
  obtain ⟨_, _, _, M, hM⟩ := checkProg_ok h
  obtain ⟨L, hL⟩ := least_ex hM
  rw [strataM_eq hL]; exact hL
theorem least_lt {cs : List (Int × Ltl)} {n : Nat} {L : List Int} (hr : InR cs n) (h : Least cs n L) {i : Int} (h0 : 0 ≤ i) (h1 : i < n) : lv L i < n := by
  obtain ⟨M', hM', hlt⟩ := h.sol.small hr
  exact Int.lt_of_le_of_lt (h.least M' hM' i) (hlt i h0 h1)
def onceAny (p : Prg) (f : List Fct) (M : List Int) (k : Nat) : Bool := (List.range k).any fun s => (turnL p.preds.xs f (toldL p.preds.xs f p.rules.xs (ofQ p M s))).2
theorem onceAny_succ (p : Prg) (f : List Fct) (M : List Int) (k : Nat) : onceAny p f M (k + 1) = (onceAny p f M k || (turnL p.preds.xs f (toldL p.preds.xs f p.rules.xs (ofQ p M k))).2) := by
  unfold onceAny; rw [List.range_succ, List.any_append]; simp
theorem closed_any {p : Prg} {f : List Fct} {M : List Int} (hpr : checkProg p = 0) (okf : FOk p.preds.xs f) (hM : Least (usesL p.rules.xs) p.preds.xs.length M) : closedB p f = !onceAny p f M p.preds.xs.length := by
  obtain ⟨k1, k2, k3, _, _⟩ := checkProg_ok hpr
  have rk := rules_rok hpr okf
  rw [Bool.eq_iff_iff, Bool.not_eq_true', closedB, List.all_eq_true, onceAny, List.any_eq_false]
  constructor
  · intro h s _
    rw [Bool.not_eq_true, turn_no okf (told_fine rk okf)]
    intro t ht
    obtain ⟨n, r, hr, _, hs, he⟩ := mem_told.1 ht
    exact h t (mem_told.2 ⟨n, r, hr, rfl, hs, he⟩)
  · intro h t ht
    obtain ⟨n, r, hr, _, hs, he⟩ := mem_told.1 ht
    obtain ⟨i0, i1⟩ := heads_in k3 r (List.mem_of_getElem? hr)
    have hlt := least_lt (inR_of k3) hM i0 i1
    have h0 := hM.sol.pos r.head.pred
    have := h (lv M r.head.pred).toNat (List.mem_range.2 (by omega))
    rw [Bool.not_eq_true, turn_no okf (told_fine rk okf)] at this
    refine this t (mem_told.2 ⟨n, r, hr, ?_, hs, he⟩)
    unfold ofQ
    rw [List.getD_eq_getElem?_getD, hr]
    exact decide_eq_true (by simp only [Option.getD_some]; omega)
set_option maxHeartbeats 4000000 in
theorem RoundTrue_ok (B : Base) (hB : B.ok) (p : Prg) (hp : p.In B.h) (hnm : p.Nm) (f : Sl Fct) (hf : Fcts f B.h) (st : Int) : Fn Tryz.prog 7 [p.val, f.val, .int .i64 st] B (fun v _ => v = .bool true) := by
  have hsp := hp.preds.small
  refine Fn.of Tryz.func7 rfl Tryz.ntmps7 (by kernel_rfl) (by simp) ?_
  intro e
  have I := Inv.start hB
  refine WP.seq ?_
  refine WP.region ?_
  refine Ops.go (O.box (v := .agg #[_, _]) I rfl rfl ?_)
  intro b3 w I
  refine Ops.y (v := .bool _) (Y.assign rfl) ?_
  refine Ops.nil ?_
  refine WP.seq ?_
  refine WP.region ?_
  refine Ops.y (v := .agg #[_, _]) (Y.loadv ty_25 rfl (I.rdbox 0 rfl 0 2) rfl rfl) ?_
  refine Ops.y (v := .slice _ _ _) (Y.move rfl) ?_
  refine Ops.y (v := .int .i64 _) (Y.move rfl) ?_
  refine Ops.go (O.call I Tryz.call16 (Once_ok _ I.base_ok p hp hnm f hf st) rfl ?_)
  rintro _ h1 w I le1 ⟨s1, rfl, e1, i1⟩
  refine Ops.y (v := .tuple #[_, _, _]) (Y.move rfl) ?_
  refine Ops.y (v := .slice _ _ _) (Y.extract rfl rfl) ?_
  refine Ops.y (v := .bool _) (Y.extract rfl rfl) ?_
  refine Ops.y (v := .int .i64 _) (Y.extract rfl rfl) ?_
  refine Ops.y (v := .slice _ _ _) (Y.assign rfl) ?_
  refine Ops.y (v := .bool _) (Y.assign rfl) ?_
  refine Ops.y (v := .int .i64 _) (Y.assign rfl) ?_
  refine Ops.nil ?_
  have hp := hp.le le1
  have hf := hf.le le1
  refine WP.seq ?_
  refine WP.seq ?_
  refine WP.region ?_
  refine Ops.y (v := .int .i64 _) (Y.move rfl) ?_
  refine Ops.y (v := .bool (decide _)) (Y.nei rfl rfl) ?_
  refine Ops.nil ?_
  refine WP.cond_dec rfl (fun h2 => ?_) (fun h2 => ?_)
  · refine WP.seq ?_
    refine WP.region ?_
    refine Ops.go (O.callv I Tryz.call21 (roundBegun_ok _ I.base_ok) rfl ?_)
    intro w I
    refine Ops.y (v := .bool _) (Y.assign rfl) ?_
    refine Ops.nil ?_
    refine WP.ret ?_
    repeat (first | refine thenE_ret ?_ | refine blockE_ret ?_)
    exact retQ.mk (vs := [.bool _]) rfl ⟨rfl, trivial⟩ I.ext_of (rfl)
  have a1 : askR p f.xs = 0 := once_err.symm.trans (Decidable.not_not.1 h2)
  obtain ⟨hpr, okf⟩ := askR_iff.1 a1
  obtain ⟨k1, k2, k3, M0, hM0⟩ := checkProg_ok hpr
  have rk := rules_rok hpr okf
  have tf := told_fine (q := ofQ p (strataM p) st) rk okf
  have ech : (onceOf p f.xs st).1.2 = decide (s1.xs ≠ f.xs) := by rw [e1, once_turn a1]; exact turn_chg okf tf
  rw [once_turn a1] at e1
  dsimp only at e1
  have ok1 : FOk p.preds.xs s1.xs := by rw [e1]; exact turn_fok okf tf
  have hup : underF p.preds.xs f.xs s1.xs = true := by rw [e1]; exact turn_above okf tf
  have hM := strataM_least hpr
  refine WP.skip ?_
  refine WP.seq ?_
  refine WP.region ?_
  refine Ops.y (v := .pointer (some ⟨_, _, none⟩)) (Y.fa0 fa_25_0 rfl) ?_
  refine Ops.y (v := .slice _ _ _) (Y.loadv ty_22 rfl (I.rdbox 0 rfl 0 1) rfl rfl) ?_
  refine Ops.y (v := .slice _ _ _) (Y.move rfl) ?_
  refine Ops.y (v := .slice _ _ _) (Y.move rfl) ?_
  refine Ops.go (O.callv I Tryz.call24 (Under_at _ I.base_ok p.preds hp.preds f s1 hf i1 (true, 0) (by rw [underOf_of okf ok1, hup])) rfl ?_)
  intro w I
  refine Ops.y (v := .tuple #[_, _]) (Y.move rfl) ?_
  refine Ops.y (v := .bool _) (Y.extract rfl rfl) ?_
  refine Ops.y (v := .int .i64 _) (Y.extract rfl rfl) ?_
  refine Ops.y (v := .bool _) (Y.assign rfl) ?_
  refine Ops.y (v := .int .i64 _) (Y.assign rfl) ?_
  refine Ops.nil ?_
  refine WP.seq ?_
  refine WP.region ?_
  refine Ops.y (v := .agg #[_, _]) (Y.loadv ty_25 rfl (I.rdbox 0 rfl 0 2) rfl rfl) ?_
  refine Ops.y (v := .slice _ _ _) (Y.move rfl) ?_
  refine Ops.go (O.callv I Tryz.call17 (Closed_at _ I.base_ok p hp hnm f hf (closedB p f.xs, 0) (closed_of a1)) rfl ?_)
  intro w I
  refine Ops.y (v := .tuple #[_, _]) (Y.move rfl) ?_
  refine Ops.y (v := .bool _) (Y.extract rfl rfl) ?_
  refine Ops.y (v := .int .i64 _) (Y.extract rfl rfl) ?_
  refine Ops.y (v := .bool _) (Y.assign rfl) ?_
  refine Ops.y (v := .int .i64 _) (Y.assign rfl) ?_
  refine Ops.nil ?_
  have hne : ¬ ((onceOf p f.xs st).1.2 = decide (f.xs = s1.xs)) := by
    rw [ech, decide_not]
    by_cases e : s1.xs = f.xs
    · rw [decide_eq_true e, decide_eq_true e.symm]; decide
    · rw [decide_eq_false e, decide_eq_false fun x => e x.symm]; decide
  refine WP.seq ?_
  refine WP.seq ?_
  refine WP.region ?_
  refine Ops.y (v := .int .i64 _) (Y.move rfl) ?_
  refine Ops.y (v := .bool false) (Y.dec_f (Y.nei rfl rfl) ((fun h => h rfl))) ?_
  refine Ops.y (v := .bool _) (Y.move rfl) ?_
  refine Ops.ygt rfl (v := .int .i64 _) (Y.move rfl) ?_
  refine Ops.ygt rfl (v := .bool false) (Y.dec_f (Y.nei rfl rfl) ((fun h => h rfl))) ?_
  refine Ops.y (v := .bool _) (Y.pick_f rfl rfl) ?_
  refine Ops.y (v := .bool _) (Y.move rfl) ?_
  refine Ops.ygt rfl (v := .bool _) (Y.move rfl) ?_
  refine Ops.ygt rfl (v := .bool false) (Y.b (Y.not rfl) (rfl)) ?_
  refine Ops.y (v := .bool _) (Y.pick_f rfl rfl) ?_
  refine Ops.y (v := .bool _) (Y.move rfl) ?_
  refine Ops.ygt rfl (v := .bool _) (Y.move rfl) ?_
  refine Ops.ygt rfl (v := .slice _ _ _) (Y.move rfl) ?_
  refine Ops.ygt rfl (v := .slice _ _ _) (Y.move rfl) ?_
  refine Ops.gt rfl (O.callv I Tryz.call22 (SameFacts_ok _ I.base_ok f s1 hf i1) rfl ?_)
  intro w I
  refine Ops.ygt rfl (v := .bool false) (Y.dec_f (Y.eqb Tryz.underlying4 rfl rfl) (hne)) ?_
  refine Ops.y (v := .bool _) (Y.pick_f rfl rfl) ?_
  refine Ops.nil ?_
  refine WP.cond_f rfl ?_
  refine WP.skip ?_
  refine WP.seq ?_
  refine WP.region ?_
  refine Ops.y (v := .bool _) (Y.assign rfl) ?_
  refine Ops.nil ?_
  refine WP.seq ?_
  refine WP.seq ?_
  refine WP.region ?_
  refine Ops.y (v := .int .i64 _) (Y.assign rfl) ?_
  refine Ops.nil ?_
  refine WP.block ?_
  refine WP.loopE (σ := Nat × Heap) (fun s' => [(1, f.val), (3, .pointer (some ⟨b3, 0, none⟩)), (12, .bool (closedB p f.xs)), (14, .bool (onceAny p f.xs (strataM p) s'.1)), (15, .int .i64 s'.1)])
    (fun s' w => Inv B s'.2 [box b3 p.enc 25] w ∧ s'.1 ≤ p.preds.xs.length ∧ h1.le s'.2) (fun s' => p.preds.xs.length - s'.1)
    ⟨(0, h1), ⟨rfl, rfl, rfl, rfl, rfl, trivial⟩, I, Nat.zero_le _, Heap.le.refl _⟩ ?_
  rintro ⟨k, hh⟩ e w ⟨I, hk, gl⟩
  dsimp only at I hk gl ⊢
  have hp := hp.le gl
  have hf := hf.le gl
  refine WP.seq ?_
  refine WP.seq ?_
  refine WP.region ?_
  refine Ops.y (v := .int .i64 _) (Y.move rfl) ?_
  refine Ops.y (v := .pointer (some ⟨_, _, none⟩)) (Y.fa0 fa_25_0 rfl) ?_
  refine Ops.y (v := .slice _ _ _) (Y.loadv ty_22 rfl (I.rdbox 0 rfl 0 1) rfl rfl) ?_
  refine Ops.y (v := .int .i64 _) (Y.lens Tryz.underlying22 rfl) ?_
  refine Ops.y (v := .bool (decide _)) (Y.lti rfl rfl) ?_
  refine Ops.nil ?_
  refine WP.cond_dec rfl (fun h10 => ?_) (fun h10 => ?_)
  · have hok := once_turn (st := k) a1
    refine WP.skip ?_
    refine WP.seq ?_
    refine WP.block ?_
    refine WP.seq ?_
    refine WP.region ?_
    refine Ops.y (v := .agg #[_, _]) (Y.loadv ty_25 rfl (I.rdbox 0 rfl 0 2) rfl rfl) ?_
    refine Ops.y (v := .slice _ _ _) (Y.move rfl) ?_
    refine Ops.y (v := .int .i64 _) (Y.move rfl) ?_
    refine Ops.go (O.call I Tryz.call16 (Once_at _ I.base_ok p hp hnm f hf k _ hok) rfl ?_)
    rintro _ h12 w I le12 ⟨s2, rfl, e2, i2⟩
    refine Ops.y (v := .tuple #[_, _, _]) (Y.move rfl) ?_
    refine Ops.y (v := .slice _ _ _) (Y.extract rfl rfl) ?_
    refine Ops.y (v := .bool _) (Y.extract rfl rfl) ?_
    refine Ops.y (v := .int .i64 _) (Y.extract rfl rfl) ?_
    refine Ops.y (v := .slice _ _ _) (Y.assign rfl) ?_
    refine Ops.y (v := .bool _) (Y.assign rfl) ?_
    refine Ops.y (v := .int .i64 _) (Y.assign rfl) ?_
    refine Ops.nil ?_
    refine WP.seq ?_
    refine WP.seq ?_
    refine WP.region ?_
    refine Ops.y (v := .int .i64 _) (Y.move rfl) ?_
    refine Ops.y (v := .bool false) (Y.dec_f (Y.nei rfl rfl) ((fun h => h rfl))) ?_
    refine Ops.nil ?_
    refine WP.cond_f rfl ?_
    cases hany : onceAny p f.xs (strataM p) k
    · refine WP.skip ?_
      refine WP.region ?_
      refine Ops.y (v := .bool _) (Y.move rfl) ?_
      refine Ops.y (v := .bool false) (Y.b (Y.move rfl) (rfl)) ?_
      refine Ops.ygt rfl (v := .bool _) (Y.move rfl) ?_
      refine Ops.y (v := .bool _) (Y.pick_f rfl rfl) ?_
      refine Ops.y (v := .bool _) (Y.assign rfl) ?_
      refine Ops.nil ?_
      refine WP.region ?_
      refine Ops.y (v := .int .i64 _) (Y.move rfl) ?_
      refine Ops.y (v := .int .i64 _) (Y.addi rfl rfl ⟨by omega, by omega⟩) ?_
      refine Ops.y (v := .int .i64 _) (Y.assign rfl) ?_
      refine Ops.nil ?_
      exact ⟨(k + 1, h12), ⟨⟨rfl, rfl, rfl, by dsimp only; rw [onceAny_succ, hany, Bool.false_or]; rfl, rfl, trivial⟩, I, by dsimp only; omega, gl.trans le12⟩, by dsimp only; omega⟩
    · refine WP.skip ?_
      refine WP.region ?_
      refine Ops.y (v := .bool _) (Y.move rfl) ?_
      refine Ops.y (v := .bool true) (Y.b (Y.move rfl) (rfl)) ?_
      refine Ops.gf rfl ?_
      refine Ops.y (v := .bool _) (Y.pick_t rfl rfl) ?_
      refine Ops.y (v := .bool _) (Y.assign rfl) ?_
      refine Ops.nil ?_
      refine WP.region ?_
      refine Ops.y (v := .int .i64 _) (Y.move rfl) ?_
      refine Ops.y (v := .int .i64 _) (Y.addi rfl rfl ⟨by omega, by omega⟩) ?_
      refine Ops.y (v := .int .i64 _) (Y.assign rfl) ?_
      refine Ops.nil ?_
      exact ⟨(k + 1, h12), ⟨⟨rfl, rfl, rfl, by dsimp only; rw [onceAny_succ, hany, Bool.true_or]; rfl, rfl, trivial⟩, I, by dsimp only; omega, gl.trans le12⟩, by dsimp only; omega⟩
  obtain rfl : k = p.preds.xs.length := by omega
  refine WP.exit ?_
  refine WP.seq ?_
  refine WP.region ?_
  refine Ops.go (O.callv I Tryz.call21 (roundBegun_ok _ I.base_ok) rfl ?_)
  intro w I
  refine Ops.y (v := .bool _) (Y.move rfl) ?_
  refine Ops.ygt rfl (v := .bool _) (Y.move rfl) ?_
  refine Ops.ygt rfl (v := .bool _) (Y.move rfl) ?_
  refine Ops.ygt rfl (v := .bool _) (Y.not rfl) ?_
  refine Ops.ygt rfl (v := .bool true) (Y.dec_t (Y.eqb Tryz.underlying4 rfl rfl) ((closed_any hpr okf hM))) ?_
  refine Ops.y (v := .bool _) (Y.pick_t rfl rfl) ?_
  refine Ops.y (v := .bool _) (Y.assign rfl) ?_
  refine Ops.nil ?_
  refine WP.ret ?_
  repeat (first | refine thenE_ret ?_ | refine blockE_ret ?_)
  exact retQ.mk (vs := [.bool _]) rfl ⟨rfl, trivial⟩ I.ext_of (rfl)
end Go.TF
end
section
/- The law of levels: returns true. -/
namespace Go.TF
open Go Go.RowKit Go.Proofs
set_option maxRecDepth 20000

def offL (M : List Int) (st : Int) (f : List Fct) : List Fct := f.filter fun y => decide (lv M y.pred ≠ st)
theorem offL_take {M : List Int} {st : Int} {f : List Fct} {k : Nat} (hk : k < f.length) : offL M st (f.take (k + 1)) = offL M st (f.take k) ++ if lv M f[k].pred ≠ st then [f[k]] else [] := by
  unfold offL
  rw [List.take_succ_eq_append_getElem hk, List.filter_append]
  congr 1
  by_cases h : lv M f[k].pred ≠ st
  · rw [if_pos h, List.filter_cons, if_pos (decide_eq_true h)]; rfl
  · rw [if_neg h, List.filter_cons, if_neg (by simpa using h)]; rfl
theorem offL_le (M : List Int) (st : Int) (f : List Fct) : (offL M st f).length ≤ f.length := List.length_filter_le ..
theorem flatF (acc : List Fct) (y : Fct) : (acc ++ [y]).flatMap Fct.enc = acc.flatMap Fct.enc ++ y.enc := by simp
def thereB (M : List Int) (st : Int) (k : Nat) : Bool := (M.take k).any fun x => decide (x = st)
theorem thereB_succ {M : List Int} {st : Int} {k : Nat} (hk : k < M.length) : thereB M st (k + 1) = (thereB M st k || decide (M[k] = st)) := by unfold thereB; exact any_take _ hk
set_option maxHeartbeats 8000000 in
theorem RoundLevel_ok (B : Base) (hB : B.ok) (p : Prg) (hp : p.In B.h) (hnm : p.Nm) (f : Sl Fct) (hf : Fcts f B.h) (st : Int) : Fn Tryz.prog 6 [p.val, f.val, .int .i64 st] B (fun v _ => v = .bool true) := by
  have hsp := hp.preds.small
  refine Fn.of Tryz.func6 rfl Tryz.ntmps6 (by kernel_rfl) (by simp) ?_
  intro e
  have I := Inv.start hB
  refine WP.seq ?_
  refine WP.region ?_
  refine Ops.go (O.box (v := .agg #[_, _]) I rfl rfl ?_)
  intro b3 w I
  refine Ops.y (v := .bool _) (Y.assign rfl) ?_
  refine Ops.nil ?_
  refine WP.seq ?_
  refine WP.region ?_
  refine Ops.y (v := .agg #[_, _]) (Y.loadv ty_25 rfl (I.rdbox 0 rfl 0 2) rfl rfl) ?_
  refine Ops.y (v := .slice _ _ _) (Y.move rfl) ?_
  refine Ops.y (v := .int .i64 _) (Y.move rfl) ?_
  refine Ops.go (O.call I Tryz.call16 (Once_ok _ I.base_ok p hp hnm f hf st) rfl ?_)
  rintro _ h1 w I le1 ⟨s1, rfl, e1, i1⟩
  refine Ops.y (v := .tuple #[_, _, _]) (Y.move rfl) ?_
  refine Ops.y (v := .slice _ _ _) (Y.extract rfl rfl) ?_
  refine Ops.y (v := .bool _) (Y.extract rfl rfl) ?_
  refine Ops.y (v := .int .i64 _) (Y.extract rfl rfl) ?_
  refine Ops.y (v := .slice _ _ _) (Y.assign rfl) ?_
  refine Ops.y (v := .bool _) (Y.assign rfl) ?_
  refine Ops.y (v := .int .i64 _) (Y.assign rfl) ?_
  refine Ops.nil ?_
  have hp := hp.le le1
  have hf := hf.le le1
  by_cases hc : checkProg p ≠ 0
  · have o1 : (onceOf p f.xs st).2 ≠ 0 := by rw [once_err]; unfold askR; rw [if_pos hc]; exact hc
    refine WP.seq ?_
    refine WP.region ?_
    refine Ops.y (v := .agg #[_, _]) (Y.loadv ty_25 rfl (I.rdbox 0 rfl 0 2) rfl rfl) ?_
    refine Ops.go (O.call I Tryz.call23 (Strata_ok _ I.base_ok p hp hnm) rfl ?_)
    rintro v28 h2 w I le2 hS
    rcases hS with ⟨_, rfl⟩ | ⟨h0, _⟩
    rotate_left
    exact absurd h0 hc
    refine Ops.y (v := .tuple #[_, _]) (Y.move rfl) ?_
    refine Ops.y (v := .slice _ _ _) (Y.extract rfl rfl) ?_
    refine Ops.y (v := .int .i64 _) (Y.extract rfl rfl) ?_
    refine Ops.y (v := .slice _ _ _) (Y.assign rfl) ?_
    refine Ops.y (v := .int .i64 _) (Y.assign rfl) ?_
    refine Ops.nil ?_
    refine WP.seq ?_
    refine WP.seq ?_
    refine WP.region ?_
    refine Ops.y (v := .int .i64 _) (Y.move rfl) ?_
    refine Ops.y (v := .bool true) (Y.dec_t (Y.nei rfl rfl) (o1)) ?_
    refine Ops.y (v := .bool _) (Y.move rfl) ?_
    refine Ops.gf rfl ?_
    refine Ops.gf rfl ?_
    refine Ops.y (v := .bool _) (Y.pick_t rfl rfl) ?_
    refine Ops.nil ?_
    refine WP.cond_t rfl ?_
    refine WP.seq ?_
    refine WP.region ?_
    refine Ops.go (O.callv I Tryz.call21 (roundBegun_ok _ I.base_ok) rfl ?_)
    intro w I
    refine Ops.y (v := .bool _) (Y.assign rfl) ?_
    refine Ops.nil ?_
    refine WP.ret ?_
    repeat (first | refine thenE_ret ?_ | refine blockE_ret ?_)
    exact retQ.mk (vs := [.bool _]) rfl ⟨rfl, trivial⟩ I.ext_of (rfl)
  have hpr := Decidable.not_not.1 hc
  obtain ⟨k1, k2, k3, _, _⟩ := checkProg_ok hpr
  refine WP.seq ?_
  refine WP.region ?_
  refine Ops.y (v := .agg #[_, _]) (Y.loadv ty_25 rfl (I.rdbox 0 rfl 0 2) rfl rfl) ?_
  refine Ops.go (O.call I Tryz.call23 (Strata_ok _ I.base_ok p hp hnm) rfl ?_)
  rintro v28 h2 w I le2 hS
  rcases hS with ⟨h0, _⟩ | ⟨_, s, hS, hI, rfl⟩
  exact absurd h0 hc
  refine Ops.y (v := .tuple #[_, _]) (Y.move rfl) ?_
  refine Ops.y (v := .slice _ _ _) (Y.extract rfl rfl) ?_
  refine Ops.y (v := .int .i64 _) (Y.extract rfl rfl) ?_
  refine Ops.y (v := .slice _ _ _) (Y.assign rfl) ?_
  refine Ops.y (v := .int .i64 _) (Y.assign rfl) ?_
  refine Ops.nil ?_
  have hp := hp.le le2
  have hf := hf.le le2
  have i1 := i1.le le2
  have eM := strataM_eq hS
  have hsl : s.xs.length = p.preds.xs.length := hS.sol.len
  by_cases o1 : (onceOf p f.xs st).2 ≠ 0
  · refine WP.seq ?_
    refine WP.seq ?_
    refine WP.region ?_
    refine Ops.y (v := .int .i64 _) (Y.move rfl) ?_
    refine Ops.y (v := .bool true) (Y.dec_t (Y.nei rfl rfl) (o1)) ?_
    refine Ops.y (v := .bool _) (Y.move rfl) ?_
    refine Ops.gf rfl ?_
    refine Ops.gf rfl ?_
    refine Ops.y (v := .bool _) (Y.pick_t rfl rfl) ?_
    refine Ops.nil ?_
    refine WP.cond_t rfl ?_
    refine WP.seq ?_
    refine WP.region ?_
    refine Ops.go (O.callv I Tryz.call21 (roundBegun_ok _ I.base_ok) rfl ?_)
    intro w I
    refine Ops.y (v := .bool _) (Y.assign rfl) ?_
    refine Ops.nil ?_
    refine WP.ret ?_
    repeat (first | refine thenE_ret ?_ | refine blockE_ret ?_)
    exact retQ.mk (vs := [.bool _]) rfl ⟨rfl, trivial⟩ I.ext_of (rfl)
  have a1 : askR p f.xs = 0 := once_err.symm.trans (Decidable.not_not.1 o1)
  obtain ⟨_, okf⟩ := askR_iff.1 a1
  have rk := rules_rok hpr okf
  have tf := told_fine (q := ofQ p s.xs st) rk okf
  have et := once_turn (st := st) a1
  rw [eM] at et
  obtain ⟨ch, hch⟩ : ∃ c, (onceOf p f.xs st).1.2 = c := ⟨_, rfl⟩
  rw [hch]
  have hch2 : (turnL p.preds.xs f.xs (toldL p.preds.xs f.xs p.rules.xs (ofQ p s.xs st))).2 = ch := by rw [← hch, et]
  rw [et] at e1
  dsimp only at e1
  have ok1 : FOk p.preds.xs s1.xs := by rw [e1]; exact turn_fok okf tf
  have tl : ∀ t ∈ toldL p.preds.xs f.xs p.rules.xs (ofQ p s.xs st), lv s.xs t.2.pred = st := fun t ht => by
    obtain ⟨n, r, hr, hq, hs, he⟩ := mem_told.1 ht
    unfold ofQ at hq
    rw [List.getD_eq_getElem?_getD, hr, decide_eq_true_eq] at hq
    rw [he]; exact hq
  have hoff : offL s.xs st s1.xs = offL s.xs st f.xs := by rw [e1, turn_run]; exact filter_run _ (f.xs, false) okf tf tl
  have hno : thereB s.xs st s.xs.length = false → ch = false := fun h => by
    rw [← hch2, turn_no okf tf]
    intro t ht
    exfalso
    obtain ⟨n, r, hr, hq, hs, he⟩ := mem_told.1 ht
    obtain ⟨i0, i1⟩ := heads_in k3 r (List.mem_of_getElem? hr)
    unfold ofQ at hq
    rw [List.getD_eq_getElem?_getD, hr, decide_eq_true_eq] at hq
    unfold thereB at h
    rw [List.take_length, List.any_eq_false] at h
    have hm : lv s.xs r.head.pred ∈ s.xs := List.mem_of_getElem? (lv_some hsl i0 i1)
    exact h _ hm (decide_eq_true hq)
  have l125 := okf.le125
  have m125 := ok1.le125
  refine WP.seq ?_
  refine WP.seq ?_
  refine WP.region ?_
  refine Ops.y (v := .int .i64 _) (Y.move rfl) ?_
  refine Ops.y (v := .bool false) (Y.dec_f (Y.nei rfl rfl) (o1)) ?_
  refine Ops.y (v := .bool _) (Y.move rfl) ?_
  refine Ops.ygt rfl (v := .int .i64 _) (Y.move rfl) ?_
  refine Ops.ygt rfl (v := .bool false) (Y.dec_f (Y.nei rfl rfl) ((fun h => h rfl))) ?_
  refine Ops.y (v := .bool _) (Y.pick_f rfl rfl) ?_
  refine Ops.nil ?_
  refine WP.cond_f rfl ?_
  refine WP.skip ?_
  refine WP.seq ?_
  refine WP.seq ?_
  refine WP.region ?_
  refine Ops.y (v := .slice _ _ _) (Y.move rfl) ?_
  refine Ops.y (v := .int .i64 _) (Y.lens Tryz.underlying51 rfl) ?_
  refine Ops.y (v := .pointer (some ⟨_, _, none⟩)) (Y.fa0 fa_25_0 rfl) ?_
  refine Ops.y (v := .slice _ _ _) (Y.loadv ty_22 rfl (I.rdbox 0 rfl 0 1) rfl rfl) ?_
  refine Ops.y (v := .int .i64 _) (Y.lens Tryz.underlying22 rfl) ?_
  refine Ops.y (v := .bool (decide _)) (Y.nei rfl rfl) ?_
  refine Ops.nil ?_
  refine WP.cond_decF rfl ((by rw [hsl]; exact fun h => h rfl)) ?_
  refine WP.skip ?_
  refine WP.seq ?_
  refine WP.region ?_
  refine Ops.y (v := .bool _) (Y.assign rfl) ?_
  refine Ops.nil ?_
  refine WP.seq ?_
  refine WP.seq ?_
  refine WP.region ?_
  refine Ops.y (v := .int .i64 _) (Y.assign rfl) ?_
  refine Ops.nil ?_
  refine WP.block ?_
  refine WP.loopE (σ := Nat) (fun k => [(1, f.val), (2, .int .i64 st), (7, s1.val), (8, .bool ch), (10, s.val), (12, .bool (thereB s.xs st k)), (13, .int .i64 k)])
    (fun k w => Inv B h2 [] w ∧ k ≤ s.xs.length) (fun k => s.xs.length - k)
    ⟨0, ⟨rfl, rfl, rfl, rfl, rfl, rfl, rfl, trivial⟩, I.weak (List.nil_sublist _), Nat.zero_le _⟩ ?_
  rintro k e w ⟨I, hk⟩
  refine WP.seq ?_
  refine WP.seq ?_
  refine WP.region ?_
  refine Ops.y (v := .int .i64 _) (Y.move rfl) ?_
  refine Ops.y (v := .slice _ _ _) (Y.move rfl) ?_
  refine Ops.y (v := .int .i64 _) (Y.lens Tryz.underlying51 rfl) ?_
  refine Ops.y (v := .bool (decide _)) (Y.lti rfl rfl) ?_
  refine Ops.nil ?_
  refine WP.cond_dec rfl (fun h9 => ?_) (fun h9 => ?_)
  · have hk' : k < s.xs.length := by omega
    have E := hI.at hk'
    cases hth : thereB s.xs st k
    · refine WP.skip ?_
      refine WP.seq ?_
      refine WP.block ?_
      refine WP.region ?_
      refine Ops.y (v := .bool _) (Y.move rfl) ?_
      refine Ops.y (v := .bool false) (Y.b (Y.move rfl) (rfl)) ?_
      refine Ops.ygt rfl (v := .slice _ _ _) (Y.move rfl) ?_
      refine Ops.ygt rfl (v := .int .i64 _) (Y.move rfl) ?_
      refine Ops.ygt rfl (v := .pointer (some ⟨_, _, none⟩)) (Y.idxEl E Tryz.underlying51 Tryz.sizeOf3 rfl rfl (Int.natCast_nonneg _) rfl) ?_
      refine Ops.ygt rfl (v := .int .i64 _) (Y.loadv ty_3 rfl (I.rd (E.rd.part 0 1)) rfl rfl) ?_
      refine Ops.ygt rfl (v := .int .i64 _) (Y.move rfl) ?_
      refine Ops.ygt rfl (v := .bool (decide _)) (Y.eqi rfl rfl) ?_
      refine Ops.y (v := .bool _) (Y.pick_f rfl rfl) ?_
      refine Ops.y (v := .bool _) (Y.assign rfl) ?_
      refine Ops.nil ?_
      refine WP.region ?_
      refine Ops.y (v := .int .i64 _) (Y.move rfl) ?_
      refine Ops.y (v := .int .i64 _) (Y.addi rfl rfl ⟨by omega, by omega⟩) ?_
      refine Ops.y (v := .int .i64 _) (Y.assign rfl) ?_
      refine Ops.nil ?_
      exact ⟨k + 1, ⟨⟨rfl, rfl, rfl, rfl, rfl, by rw [thereB_succ hk', hth, Bool.false_or]; rfl, rfl, trivial⟩, I, by omega⟩, by omega⟩
    · refine WP.skip ?_
      refine WP.seq ?_
      refine WP.block ?_
      refine WP.region ?_
      refine Ops.y (v := .bool _) (Y.move rfl) ?_
      refine Ops.y (v := .bool true) (Y.b (Y.move rfl) (rfl)) ?_
      refine Ops.gf rfl ?_
      refine Ops.gf rfl ?_
      refine Ops.gf rfl ?_
      refine Ops.gf rfl ?_
      refine Ops.gf rfl ?_
      refine Ops.gf rfl ?_
      refine Ops.y (v := .bool _) (Y.pick_t rfl rfl) ?_
      refine Ops.y (v := .bool _) (Y.assign rfl) ?_
      refine Ops.nil ?_
      refine WP.region ?_
      refine Ops.y (v := .int .i64 _) (Y.move rfl) ?_
      refine Ops.y (v := .int .i64 _) (Y.addi rfl rfl ⟨by omega, by omega⟩) ?_
      refine Ops.y (v := .int .i64 _) (Y.assign rfl) ?_
      refine Ops.nil ?_
      exact ⟨k + 1, ⟨⟨rfl, rfl, rfl, rfl, rfl, by rw [thereB_succ hk', hth, Bool.true_or]; rfl, rfl, trivial⟩, I, by omega⟩, by omega⟩
  obtain rfl : k = s.xs.length := by omega
  refine WP.exit ?_
  refine WP.seq ?_
  refine WP.region ?_
  refine Ops.y (v := .slice _ _ _) (Y.assign rfl) ?_
  refine Ops.y (v := .slice _ _ _) (Y.assign rfl) ?_
  refine Ops.nil ?_
  refine WP.seq ?_
  refine WP.seq ?_
  refine WP.region ?_
  refine Ops.y (v := .int .i64 _) (Y.assign rfl) ?_
  refine Ops.nil ?_
  refine WP.block ?_
  refine WP.loopE (σ := Nat × Value × Heap) (fun s' => [(1, f.val), (2, .int .i64 st), (7, s1.val), (8, .bool ch), (10, s.val), (12, .bool (thereB s.xs st s.xs.length)), (14, s'.2.1), (15, .slice none 0 0), (16, .int .i64 s'.1)])
    (fun s' w => Inv B s'.2.2 [ownSl 29 4 s'.2.1 (offL s.xs st (f.xs.take s'.1)).length ((offL s.xs st (f.xs.take s'.1)).flatMap Fct.enc)] w ∧ s'.1 ≤ f.xs.length ∧ h2.le s'.2.2) (fun s' => f.xs.length - s'.1)
    ⟨(0, .slice none 0 0, h2), ⟨rfl, rfl, rfl, rfl, rfl, rfl, rfl, rfl, rfl, trivial⟩, I.nilSl 29 4, Nat.zero_le _, Heap.le.refl _⟩ ?_
  rintro ⟨k, va, hh⟩ e w ⟨I, hk, gl⟩
  dsimp only at I hk gl ⊢
  have hf := hf.le gl
  have hI := hI.le gl
  refine WP.seq ?_
  refine WP.seq ?_
  refine WP.region ?_
  refine Ops.y (v := .int .i64 _) (Y.move rfl) ?_
  refine Ops.y (v := .slice _ _ _) (Y.move rfl) ?_
  refine Ops.y (v := .int .i64 _) (Y.lens Tryz.underlying26 rfl) ?_
  refine Ops.y (v := .bool (decide _)) (Y.lti rfl rfl) ?_
  refine Ops.nil ?_
  refine WP.cond_dec rfl (fun h14 => ?_) (fun h14 => ?_)
  · have hk' : k < f.xs.length := by omega
    have E := hf.at hk'
    have hfn := fine_iff.1 (okf.fine _ (List.getElem_mem hk'))
    have El1 := hI.el.el (lv_some hsl hfn.1.1 hfn.1.2)
    have hot := offL_take (M := s.xs) (st := st) hk'
    have hol := offL_le s.xs st (f.xs.take k)
    rw [List.length_take] at hol
    refine WP.skip ?_
    refine WP.seq ?_
    refine WP.block ?_
    refine WP.seq ?_
    refine WP.region ?_
    refine Ops.y (v := .slice _ _ _) (Y.move rfl) ?_
    refine Ops.y (v := .slice _ _ _) (Y.move rfl) ?_
    refine Ops.y (v := .int .i64 _) (Y.move rfl) ?_
    refine Ops.y (v := .pointer (some ⟨_, _, none⟩)) (Y.idxEl E Tryz.underlying26 Tryz.sizeOf29 rfl rfl (Int.natCast_nonneg _) rfl) ?_
    refine Ops.y (v := .pointer (some ⟨_, _, none⟩)) (Y.fa0 fa_29_0 rfl) ?_
    refine Ops.y (v := .int .i64 _) (Y.loadv ty_3 rfl (I.rd (E.rd.part 0 1)) rfl rfl) ?_
    refine Ops.y (v := .pointer (some ⟨_, _, none⟩)) (Y.idxEl El1 Tryz.underlying51 Tryz.sizeOf3 rfl rfl hfn.1.1 rfl) ?_
    refine Ops.y (v := .int .i64 _) (Y.loadv ty_3 rfl (I.rd (El1.rd.part 0 1)) rfl rfl) ?_
    refine Ops.y (v := .int .i64 _) (Y.move rfl) ?_
    refine Ops.y (v := .bool (decide _)) (Y.nei rfl rfl) ?_
    refine Ops.nil ?_
    refine WP.cond_dec rfl (fun h16 => ?_) (fun h16 => ?_)
    · rw [if_pos h16] at hot
      refine WP.region ?_
      refine Ops.y (v := va) (Y.move rfl) ?_
      refine Ops.y (v := .slice _ _ _) (Y.move rfl) ?_
      refine Ops.y (v := .int .i64 _) (Y.move rfl) ?_
      refine Ops.y (v := .pointer (some ⟨_, _, none⟩)) (Y.idxEl E Tryz.underlying26 Tryz.sizeOf29 rfl rfl (Int.natCast_nonneg _) rfl) ?_
      refine Ops.y (v := .agg #[_, _, _, _]) (Y.loadv ty_29 rfl (I.rd (E.rd.part 0 4)) rfl rfl) ?_
      refine Ops.go (O.mksl (xs := [f.xs[k]]) (enc := Fct.enc) I Tryz.underlying26 Tryz.sizeOf29 Tryz.zeroValue29 rfl (Nat.le_of_ble_eq_true rfl) rfl rfl (by decide) (fun _ => rfl) ?_)
      intro b80 h80 w I le80 sl80
      refine Ops.go (O.append I Tryz.underlying26 et_29 0 rfl rfl rfl (I.rd (sl80 0 _ rfl).2) rfl rfl (by decide) ((by omega)) (by omega) ?_)
      intro b81 c81 w I
      refine Ops.y (v := .slice _ _ _) (Y.assign rfl) ?_
      refine Ops.nil ?_
      refine WP.region ?_
      refine Ops.y (v := .int .i64 _) (Y.move rfl) ?_
      refine Ops.y (v := .int .i64 _) (Y.addi rfl rfl ⟨by omega, by omega⟩) ?_
      refine Ops.y (v := .int .i64 _) (Y.assign rfl) ?_
      refine Ops.nil ?_
      exact ⟨(k + 1, .slice (some ⟨b81, 0, none⟩) ((offL s.xs st (f.xs.take k)).length + 1) c81, h80), ⟨⟨rfl, rfl, rfl, rfl, rfl, rfl, rfl, rfl, rfl, trivial⟩, by dsimp only; rw [hot, flatF, List.length_append, List.length_singleton]; exact I, by dsimp only; omega, gl.trans le80⟩, by dsimp only; omega⟩
    · rw [if_neg h16, List.append_nil] at hot
      refine WP.skip ?_
      refine WP.region ?_
      refine Ops.y (v := .int .i64 _) (Y.move rfl) ?_
      refine Ops.y (v := .int .i64 _) (Y.addi rfl rfl ⟨by omega, by omega⟩) ?_
      refine Ops.y (v := .int .i64 _) (Y.assign rfl) ?_
      refine Ops.nil ?_
      exact ⟨(k + 1, va, hh), ⟨⟨rfl, rfl, rfl, rfl, rfl, rfl, rfl, rfl, rfl, trivial⟩, by dsimp only; rw [hot]; exact I, by dsimp only; omega, gl⟩, by dsimp only; omega⟩
  obtain rfl : k = f.xs.length := by omega
  rw [List.take_length] at I
  obtain ⟨h3, wa, le3, rfl, hwa, iwa, I⟩ := I.settleSl (fun _ => rfl) rfl
  have gl3 := gl.trans le3
  refine WP.exit ?_
  refine WP.seq ?_
  refine WP.seq ?_
  refine WP.region ?_
  refine Ops.y (v := .int .i64 _) (Y.assign rfl) ?_
  refine Ops.nil ?_
  refine WP.block ?_
  refine WP.loopE (σ := Nat × Value × Heap) (fun s' => [(2, .int .i64 st), (7, s1.val), (8, .bool ch), (10, s.val), (12, .bool (thereB s.xs st s.xs.length)), (14, wa.val), (15, s'.2.1), (17, .int .i64 s'.1)])
    (fun s' w => Inv B s'.2.2 [ownSl 29 4 s'.2.1 (offL s.xs st (s1.xs.take s'.1)).length ((offL s.xs st (s1.xs.take s'.1)).flatMap Fct.enc)] w ∧ s'.1 ≤ s1.xs.length ∧ h3.le s'.2.2) (fun s' => s1.xs.length - s'.1)
    ⟨(0, .slice none 0 0, h3), ⟨rfl, rfl, rfl, rfl, rfl, rfl, rfl, rfl, trivial⟩, I.nilSl 29 4, Nat.zero_le _, Heap.le.refl _⟩ ?_
  rintro ⟨k, va, h4⟩ e w ⟨I, hk, gl4⟩
  dsimp only at I hk gl4 ⊢
  have i1 := (i1.le gl3).le gl4
  have hI := (hI.le le3).le gl4
  refine WP.seq ?_
  refine WP.seq ?_
  refine WP.region ?_
  refine Ops.y (v := .int .i64 _) (Y.move rfl) ?_
  refine Ops.y (v := .slice _ _ _) (Y.move rfl) ?_
  refine Ops.y (v := .int .i64 _) (Y.lens Tryz.underlying26 rfl) ?_
  refine Ops.y (v := .bool (decide _)) (Y.lti rfl rfl) ?_
  refine Ops.nil ?_
  refine WP.cond_dec rfl (fun h19 => ?_) (fun h19 => ?_)
  · have hk' : k < s1.xs.length := by omega
    have E := i1.at hk'
    have hfn := fine_iff.1 (ok1.fine _ (List.getElem_mem hk'))
    have El1 := hI.el.el (lv_some hsl hfn.1.1 hfn.1.2)
    have hot := offL_take (M := s.xs) (st := st) hk'
    have hol := offL_le s.xs st (s1.xs.take k)
    rw [List.length_take] at hol
    refine WP.skip ?_
    refine WP.seq ?_
    refine WP.block ?_
    refine WP.seq ?_
    refine WP.seq ?_
    refine WP.region ?_
    refine Ops.y (v := .slice _ _ _) (Y.move rfl) ?_
    refine Ops.y (v := .int .i64 _) (Y.move rfl) ?_
    refine Ops.y (v := .pointer (some ⟨_, _, none⟩)) (Y.idxEl E Tryz.underlying26 Tryz.sizeOf29 rfl rfl (Int.natCast_nonneg _) rfl) ?_
    refine Ops.y (v := .pointer (some ⟨_, _, none⟩)) (Y.fa0 fa_29_0 rfl) ?_
    refine Ops.y (v := .int .i64 _) (Y.loadv ty_3 rfl (I.rd (E.rd.part 0 1)) rfl rfl) ?_
    refine Ops.y (v := .bool false) (Y.dec_f (Y.lti rfl rfl) ((by omega))) ?_
    refine Ops.y (v := .bool _) (Y.move rfl) ?_
    refine Ops.ygt rfl (v := .slice _ _ _) (Y.move rfl) ?_
    refine Ops.ygt rfl (v := .int .i64 _) (Y.move rfl) ?_
    refine Ops.ygt rfl (v := .pointer (some ⟨_, _, none⟩)) (Y.idxEl E Tryz.underlying26 Tryz.sizeOf29 rfl rfl (Int.natCast_nonneg _) rfl) ?_
    refine Ops.ygt rfl (v := .pointer (some ⟨_, _, none⟩)) (Y.fa0 fa_29_0 rfl) ?_
    refine Ops.ygt rfl (v := .int .i64 _) (Y.loadv ty_3 rfl (I.rd (E.rd.part 0 1)) rfl rfl) ?_
    refine Ops.ygt rfl (v := .slice _ _ _) (Y.move rfl) ?_
    refine Ops.ygt rfl (v := .int .i64 _) (Y.lens Tryz.underlying51 rfl) ?_
    refine Ops.ygt rfl (v := .bool false) (Y.dec_f (Y.gei rfl rfl) ((by omega))) ?_
    refine Ops.y (v := .bool _) (Y.pick_f rfl rfl) ?_
    refine Ops.nil ?_
    refine WP.cond_f rfl ?_
    refine WP.skip ?_
    refine WP.seq ?_
    refine WP.region ?_
    refine Ops.y (v := .slice _ _ _) (Y.move rfl) ?_
    refine Ops.y (v := .slice _ _ _) (Y.move rfl) ?_
    refine Ops.y (v := .int .i64 _) (Y.move rfl) ?_
    refine Ops.y (v := .pointer (some ⟨_, _, none⟩)) (Y.idxEl E Tryz.underlying26 Tryz.sizeOf29 rfl rfl (Int.natCast_nonneg _) rfl) ?_
    refine Ops.y (v := .pointer (some ⟨_, _, none⟩)) (Y.fa0 fa_29_0 rfl) ?_
    refine Ops.y (v := .int .i64 _) (Y.loadv ty_3 rfl (I.rd (E.rd.part 0 1)) rfl rfl) ?_
    refine Ops.y (v := .pointer (some ⟨_, _, none⟩)) (Y.idxEl El1 Tryz.underlying51 Tryz.sizeOf3 rfl rfl hfn.1.1 rfl) ?_
    refine Ops.y (v := .int .i64 _) (Y.loadv ty_3 rfl (I.rd (El1.rd.part 0 1)) rfl rfl) ?_
    refine Ops.y (v := .int .i64 _) (Y.move rfl) ?_
    refine Ops.y (v := .bool (decide _)) (Y.nei rfl rfl) ?_
    refine Ops.nil ?_
    refine WP.cond_dec rfl (fun h23 => ?_) (fun h23 => ?_)
    · rw [if_pos h23] at hot
      refine WP.region ?_
      refine Ops.y (v := va) (Y.move rfl) ?_
      refine Ops.y (v := .slice _ _ _) (Y.move rfl) ?_
      refine Ops.y (v := .int .i64 _) (Y.move rfl) ?_
      refine Ops.y (v := .pointer (some ⟨_, _, none⟩)) (Y.idxEl E Tryz.underlying26 Tryz.sizeOf29 rfl rfl (Int.natCast_nonneg _) rfl) ?_
      refine Ops.y (v := .agg #[_, _, _, _]) (Y.loadv ty_29 rfl (I.rd (E.rd.part 0 4)) rfl rfl) ?_
      refine Ops.go (O.mksl (xs := [s1.xs[k]]) (enc := Fct.enc) I Tryz.underlying26 Tryz.sizeOf29 Tryz.zeroValue29 rfl (Nat.le_of_ble_eq_true rfl) rfl rfl (by decide) (fun _ => rfl) ?_)
      intro b119 h119 w I le119 sl119
      refine Ops.go (O.append I Tryz.underlying26 et_29 0 rfl rfl rfl (I.rd (sl119 0 _ rfl).2) rfl rfl (by decide) ((by omega)) (by omega) ?_)
      intro b120 c120 w I
      refine Ops.y (v := .slice _ _ _) (Y.assign rfl) ?_
      refine Ops.nil ?_
      refine WP.region ?_
      refine Ops.y (v := .int .i64 _) (Y.move rfl) ?_
      refine Ops.y (v := .int .i64 _) (Y.addi rfl rfl ⟨by omega, by omega⟩) ?_
      refine Ops.y (v := .int .i64 _) (Y.assign rfl) ?_
      refine Ops.nil ?_
      exact ⟨(k + 1, .slice (some ⟨b120, 0, none⟩) ((offL s.xs st (s1.xs.take k)).length + 1) c120, h119), ⟨⟨rfl, rfl, rfl, rfl, rfl, rfl, rfl, rfl, trivial⟩, by dsimp only; rw [hot, flatF, List.length_append, List.length_singleton]; exact I, by dsimp only; omega, gl4.trans le119⟩, by dsimp only; omega⟩
    · rw [if_neg h23, List.append_nil] at hot
      refine WP.skip ?_
      refine WP.region ?_
      refine Ops.y (v := .int .i64 _) (Y.move rfl) ?_
      refine Ops.y (v := .int .i64 _) (Y.addi rfl rfl ⟨by omega, by omega⟩) ?_
      refine Ops.y (v := .int .i64 _) (Y.assign rfl) ?_
      refine Ops.nil ?_
      exact ⟨(k + 1, va, h4), ⟨⟨rfl, rfl, rfl, rfl, rfl, rfl, rfl, rfl, trivial⟩, by dsimp only; rw [hot]; exact I, by dsimp only; omega, gl4⟩, by dsimp only; omega⟩
  obtain rfl : k = s1.xs.length := by omega
  rw [List.take_length] at I
  obtain ⟨h5, wb, le5, rfl, hwb, iwb, I⟩ := I.settleSl (fun _ => rfl) rfl
  have isA : Fcts wa h5 := ⟨(iwa.le gl4).le le5, by rw [hwa]; have := offL_le s.xs st f.xs; omega⟩
  have isB : Fcts wb h5 := ⟨iwb, by rw [hwb]; have := offL_le s.xs st s1.xs; omega⟩
  refine WP.exit ?_
  refine WP.seq ?_
  cases hth : thereB s.xs st s.xs.length
  · have hc0 := hno hth
    subst hc0
    refine WP.region ?_
    refine Ops.go (O.callv I Tryz.call21 (roundBegun_ok _ I.base_ok) rfl ?_)
    intro w I
    refine Ops.y (v := .bool _) (Y.move rfl) ?_
    refine Ops.ygt rfl (v := .slice _ _ _) (Y.move rfl) ?_
    refine Ops.ygt rfl (v := .slice _ _ _) (Y.move rfl) ?_
    refine Ops.gt rfl (O.callv I Tryz.call22 (SameFacts_at _ I.base_ok wa wb isA isB (by rw [hwa, hwb, hoff])) rfl ?_)
    intro w I
    refine Ops.y (v := .bool _) (Y.pick_t rfl rfl) ?_
    refine Ops.y (v := .bool _) (Y.move rfl) ?_
    refine Ops.ygt rfl (v := .bool _) (Y.move rfl) ?_
    refine Ops.ygt rfl (v := .bool false) (Y.b (Y.move rfl) (rfl)) ?_
    refine Ops.ygt rfl (v := .bool _) (Y.move rfl) ?_
    refine Ops.ygt rfl (v := .bool true) (Y.b (Y.not rfl) (rfl)) ?_
    refine Ops.ygt rfl (v := .bool _) (Y.pick_f rfl rfl) ?_
    refine Ops.y (v := .bool _) (Y.pick_t rfl rfl) ?_
    refine Ops.y (v := .bool _) (Y.assign rfl) ?_
    refine Ops.nil ?_
    refine WP.ret ?_
    repeat (first | refine thenE_ret ?_ | refine blockE_ret ?_)
    exact retQ.mk (vs := [.bool _]) rfl ⟨rfl, trivial⟩ I.ext_of (rfl)
  · refine WP.region ?_
    refine Ops.go (O.callv I Tryz.call21 (roundBegun_ok _ I.base_ok) rfl ?_)
    intro w I
    refine Ops.y (v := .bool _) (Y.move rfl) ?_
    refine Ops.ygt rfl (v := .slice _ _ _) (Y.move rfl) ?_
    refine Ops.ygt rfl (v := .slice _ _ _) (Y.move rfl) ?_
    refine Ops.gt rfl (O.callv I Tryz.call22 (SameFacts_at _ I.base_ok wa wb isA isB (by rw [hwa, hwb, hoff])) rfl ?_)
    intro w I
    refine Ops.y (v := .bool _) (Y.pick_t rfl rfl) ?_
    refine Ops.y (v := .bool _) (Y.move rfl) ?_
    refine Ops.ygt rfl (v := .bool _) (Y.move rfl) ?_
    refine Ops.ygt rfl (v := .bool true) (Y.b (Y.move rfl) (rfl)) ?_
    refine Ops.gf rfl ?_
    refine Ops.gf rfl ?_
    refine Ops.ygt rfl (v := .bool _) (Y.pick_t rfl rfl) ?_
    refine Ops.y (v := .bool _) (Y.pick_t rfl rfl) ?_
    refine Ops.y (v := .bool _) (Y.assign rfl) ?_
    refine Ops.nil ?_
    refine WP.ret ?_
    repeat (first | refine thenE_ret ?_ | refine blockE_ret ?_)
    exact retQ.mk (vs := [.bool _]) rfl ⟨rfl, trivial⟩ I.ext_of (rfl)
end Go.TF
end
