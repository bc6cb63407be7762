/- Texts Rnd1 Rnd2 Rnd3 Rnd4 Open RndLaw SpNaive2 RndLaw2 SpChk SpSub SpSum Sum1. -/
import Derived.Test.YtljkkojkfddpeaaGreatU5
import Derived.Test.YtljkkojkfddpeaaGreatU8
import Derived.Test.YtljkkojkfddpeaaGreatU2
import Derived.Deep.Slices
import Derived.SizedLaws
import Derived.OpenShut
import Derived.ChangeArms
import Derived.Test.YtljkkojkfddpeaaGreatU3
import Derived.Test.YtljkkojkfddpeaaGreatU4
section
/- A round: asked, which rules, what they tell; put one behind the other. -/
namespace Go.TF
open Go Go.RowKit Go.Proofs
set_option maxRecDepth 20000

noncomputable def askR (p : Prg) (f : List Fct) : Int := if checkProg p ≠ 0 then checkProg p else checkFacts p.preds.xs f
theorem askR_iff {p : Prg} {f : List Fct} : askR p f = 0 ↔ checkProg p = 0 ∧ FOk p.preds.xs f := by
  unfold askR
  constructor
  · intro h
    split at h
    · rename_i h1; exact absurd h h1
    · rename_i h1; exact ⟨Decidable.not_not.1 h1, checkFacts_ok.1 h⟩
  · rintro ⟨h1, h2⟩
    rw [if_neg (by omega)]; exact checkFacts_ok.2 h2
theorem rules_rok {p : Prg} (h : checkProg p = 0) {f : List Fct} (okf : FOk p.preds.xs f) : ∀ r ∈ p.rules.xs, ROk p.preds.xs r := fun r hr =>
  rok_of okf.len okf.preds (rulesErr_zero.1 (checkProg_ok h).2.2.1 r hr)
theorem rasked_ok (B : Base) (hB : B.ok) (p : Prg) (hp : p.In B.h) (hnm : p.Nm) (f : Sl Fct) (hf : Fcts f B.h) : Fn Tryz.prog 22 [p.val, f.val] B (fun v _ => v = .int .i64 (askR p f.xs)) := by
  refine Fn.of Tryz.func22 rfl Tryz.ntmps22 (by kernel_rfl) (by simp) ?_
  intro e
  have I := Inv.start hB
  refine WP.seq ?_
  refine WP.region ?_
  refine Ops.go (O.box (v := .agg #[_, _]) I rfl rfl ?_)
  intro b2 w I
  refine Ops.y (v := .int .i64 _) (Y.assign rfl) ?_
  refine Ops.nil ?_
  refine WP.seq ?_
  refine WP.seq ?_
  refine WP.region ?_
  refine Ops.y (v := .agg #[_, _]) (Y.loadv ty_25 rfl (I.rdbox 0 rfl 0 2) rfl rfl) ?_
  refine Ops.go (O.callv I Tryz.call28 (PCheck_ok _ I.base_ok p hp hnm) rfl ?_)
  intro w I
  refine Ops.y (v := .int .i64 _) (Y.assign rfl) ?_
  refine Ops.nil ?_
  refine WP.seq ?_
  refine WP.region ?_
  refine Ops.y (v := .int .i64 _) (Y.move rfl) ?_
  refine Ops.y (v := .bool (decide _)) (Y.nei rfl rfl) ?_
  refine Ops.nil ?_
  refine WP.cond_dec rfl (fun h1 => ?_) (fun h1 => ?_)
  · refine WP.seq ?_
    refine WP.region ?_
    refine Ops.y (v := .int .i64 _) (Y.move rfl) ?_
    refine Ops.y (v := .int .i64 _) (Y.assign rfl) ?_
    refine Ops.nil ?_
    refine WP.ret ?_
    repeat (first | refine thenE_ret ?_ | refine blockE_ret ?_)
    exact retQ.mk (vs := [.int .i64 _]) rfl ⟨rfl, trivial⟩ I.ext_of (by simp only [tup, askR]; rw [if_pos h1])
  refine WP.skip ?_
  refine WP.seq ?_
  refine WP.region ?_
  refine Ops.y (v := .pointer (some ⟨_, _, none⟩)) (Y.fa0 fa_25_0 rfl) ?_
  refine Ops.y (v := .slice _ _ _) (Y.loadv ty_22 rfl (I.rdbox 0 rfl 0 1) rfl rfl) ?_
  refine Ops.y (v := .slice _ _ _) (Y.move rfl) ?_
  refine Ops.go (O.callv I Tryz.call51 (BCheck_ok _ I.base_ok p.preds hp.preds f hf) rfl ?_)
  intro w I
  refine Ops.y (v := .int .i64 _) (Y.assign rfl) ?_
  refine Ops.nil ?_
  refine WP.ret ?_
  repeat (first | refine thenE_ret ?_ | refine blockE_ret ?_)
  exact retQ.mk (vs := [.int .i64 _]) rfl ⟨rfl, trivial⟩ I.ext_of (by simp only [tup, askR]; rw [if_neg h1])
theorem RoundError_ok (B : Base) (hB : B.ok) (p : Prg) (hp : p.In B.h) (hnm : p.Nm) (f : Sl Fct) (hf : Fcts f B.h) : Fn Tryz.prog 4 [p.val, f.val] B (fun v _ => v = .int .i64 (askR p f.xs)) := by
  refine Fn.of Tryz.func4 rfl Tryz.ntmps4 (by kernel_rfl) (by simp) ?_
  intro e
  have I := Inv.start hB
  refine WP.seq ?_
  refine WP.region ?_
  refine Ops.go (O.box (v := .agg #[_, _]) I rfl rfl ?_)
  intro b2 w I
  refine Ops.y (v := .int .i64 _) (Y.assign rfl) ?_
  refine Ops.nil ?_
  refine WP.seq ?_
  refine WP.seq ?_
  refine WP.region ?_
  refine Ops.y (v := .agg #[_, _]) (Y.loadv ty_25 rfl (I.rdbox 0 rfl 0 2) rfl rfl) ?_
  refine Ops.go (O.callv I Tryz.call15 (CheckProg_ok _ I.base_ok p hp hnm) rfl ?_)
  intro w I
  refine Ops.y (v := .int .i64 _) (Y.assign rfl) ?_
  refine Ops.nil ?_
  refine WP.seq ?_
  refine WP.region ?_
  refine Ops.y (v := .int .i64 _) (Y.move rfl) ?_
  refine Ops.y (v := .bool (decide _)) (Y.nei rfl rfl) ?_
  refine Ops.nil ?_
  refine WP.cond_dec rfl (fun h1 => ?_) (fun h1 => ?_)
  · refine WP.seq ?_
    refine WP.region ?_
    refine Ops.y (v := .int .i64 _) (Y.move rfl) ?_
    refine Ops.y (v := .int .i64 _) (Y.assign rfl) ?_
    refine Ops.nil ?_
    refine WP.ret ?_
    repeat (first | refine thenE_ret ?_ | refine blockE_ret ?_)
    exact retQ.mk (vs := [.int .i64 _]) rfl ⟨rfl, trivial⟩ I.ext_of (by simp only [tup, askR]; rw [if_pos h1])
  refine WP.skip ?_
  refine WP.seq ?_
  refine WP.region ?_
  refine Ops.y (v := .pointer (some ⟨_, _, none⟩)) (Y.fa0 fa_25_0 rfl) ?_
  refine Ops.y (v := .slice _ _ _) (Y.loadv ty_22 rfl (I.rdbox 0 rfl 0 1) rfl rfl) ?_
  refine Ops.y (v := .slice _ _ _) (Y.move rfl) ?_
  refine Ops.go (O.callv I Tryz.call16 (RCheckFacts_ok _ I.base_ok p.preds hp.preds f hf) rfl ?_)
  intro w I
  refine Ops.y (v := .int .i64 _) (Y.assign rfl) ?_
  refine Ops.nil ?_
  refine WP.ret ?_
  repeat (first | refine thenE_ret ?_ | refine blockE_ret ?_)
  exact retQ.mk (vs := [.int .i64 _]) rfl ⟨rfl, trivial⟩ I.ext_of (by simp only [tup, askR]; rw [if_neg h1])
/-- A test of a rule's number, as a function that keeps cs. -/
def OfC (P : Program) (g : FuncId) (cs : List Value) (h : Heap) (len : Nat) (q : Nat → Bool) : Prop :=
  Enters P g ∧ ∀ B : Base, B.ok → h.le B.h → ∀ n : Nat, n < len → Fn P g ([.int .i64 n] ++ cs) B (fun v _ => v = .bool (q n))
theorem OfC.le {P : Program} {g : FuncId} {cs : List Value} {h h' : Heap} {len : Nat} {q : Nat → Bool} (o : OfC P g cs h len q) (hl : h.le h') : OfC P g cs h' len q := ⟨o.1, fun B hB hle => o.2 B hB (hl.trans hle)⟩
theorem ROf_ok (B : Base) (hB : B.ok) (p : Prg) (s : Sl Int) (st : Int) : Fn Tryz.prog 25 [p.val, s.val, .int .i64 st] B (fun v h => ∃ b4 b3 b5, v = .func (.func 53) #[] #[.pointer (some ⟨b4, 0, none⟩), .pointer (some ⟨b3, 0, none⟩), .pointer (some ⟨b5, 0, none⟩)] ∧ Known h b4 [s.val] ∧ Known h b3 p.enc ∧ Known h b5 [.int .i64 st]) := by
  refine Fn.of Tryz.func25 rfl Tryz.ntmps25 (by kernel_rfl) (by simp) ?_
  intro e
  have I := Inv.start hB
  refine WP.seq ?_
  refine WP.region ?_
  refine Ops.go (O.box (v := .agg #[_, _]) I rfl rfl ?_)
  intro b3 w I
  refine Ops.go (O.box (v := .slice _ _ _) I rfl rfl ?_)
  intro b4 w I
  refine Ops.go (O.box (v := .int .i64 _) I rfl rfl ?_)
  intro b5 w I
  refine Ops.y (v := .nilFunc) (Y.assign rfl) ?_
  refine Ops.nil ?_
  refine WP.seq ?_
  refine WP.region ?_
  refine Ops.y (v := .func _ _ _) (Y.mkfunc rfl rfl) ?_
  refine Ops.y (v := .func _ _ _) (Y.assign rfl) ?_
  refine Ops.nil ?_
  obtain ⟨h5, le5, k5, I⟩ := I.settleBox
  obtain ⟨h4, le4, k4, I⟩ := I.settleBox
  obtain ⟨h3, le3, k3, I⟩ := I.settleBox
  refine WP.ret ?_
  repeat (first | refine thenE_ret ?_ | refine blockE_ret ?_)
  exact retQ.mk (vs := [.func _ _ _]) rfl ⟨rfl, trivial⟩ I.ext_of (⟨b4, b3, b5, rfl, k4.le le3, k3, k5.le (le4.trans le3)⟩)
theorem ROf1_ok (p : Prg) (s : Sl Int) (st : Int) (b4 b3 b5 : Nat) {h : Heap} (k4 : Known h b4 [s.val]) (k3 : Known h b3 p.enc) (k5 : Known h b5 [.int .i64 st]) (hp : p.In h) (hs : s.Is 1 iEnc h) (hl : s.xs.length = p.preds.xs.length) (hin : ∀ r ∈ p.rules.xs, 0 ≤ r.head.pred ∧ r.head.pred < p.preds.xs.length) :
    OfC Tryz.prog 53 [.pointer (some ⟨b4, 0, none⟩), .pointer (some ⟨b3, 0, none⟩), .pointer (some ⟨b5, 0, none⟩)] h p.rules.xs.length (ofQ p s.xs st) := by
  refine ⟨Tryz.call53, fun B hB hle n hn => ?_⟩
  have k4 := k4.le hle
  have k3 := k3.le hle
  have k5 := k5.le hle
  have hp := hp.le hle
  have Er := hp.rules.is.at hn
  obtain ⟨i0, i1⟩ := hin _ (List.getElem_mem hn)
  have El1 := (hs.le hle).el.el (lv_some hl i0 i1)
  have hq : ofQ p s.xs st n = decide (lv s.xs p.rules.xs[n].head.pred = st) := by unfold ofQ; rw [List.getD_eq_getElem?_getD, List.getElem?_eq_getElem hn]; rfl
  show Fn Tryz.prog 53 [.int .i64 n, .pointer (some ⟨b4, 0, none⟩), .pointer (some ⟨b3, 0, none⟩), .pointer (some ⟨b5, 0, none⟩)] B _
  refine Fn.of Tryz.func53 rfl Tryz.ntmps53 (by kernel_rfl) (by simp) ?_
  intro e
  have I := Inv.start hB
  refine WP.seq ?_
  refine WP.region ?_
  refine Ops.y (v := .bool _) (Y.assign rfl) ?_
  refine Ops.nil ?_
  refine WP.seq ?_
  refine WP.regionQ mixed I (by kernel_rfl) ?_
  refine OpsQ.y (v := .slice _ _ _) (fun w I => Y.loadv ty_62 rfl (I.rd (k4.rd.part 0 1)) rfl rfl) ?_
  refine OpsQ.y (v := .pointer (some ⟨_, _, none⟩)) (fun w I => Y.fa fa_25_1 rfl) ?_
  refine OpsQ.y (v := .slice _ _ _) (fun w I => Y.loadv ty_23 rfl (I.rd (k3.rd.part 1 1)) rfl rfl) ?_
  refine OpsQ.y (v := .int .i64 _) (fun w I => Y.move rfl) ?_
  refine OpsQ.y (v := .pointer (some ⟨_, _, none⟩)) (fun w I => Y.idxEl Er Tryz.underlying23 Tryz.sizeOf46 rfl rfl (Int.natCast_nonneg _) rfl) ?_
  refine OpsQ.y (v := .pointer (some ⟨_, _, none⟩)) (fun w I => Y.fa0 fa_46_0 rfl) ?_
  refine OpsQ.y (v := .pointer (some ⟨_, _, none⟩)) (fun w I => Y.fa0 fa_43_0 rfl) ?_
  refine OpsQ.y (v := .int .i64 _) (fun w I => Y.loadv ty_3 rfl (I.rd (Er.rd.part 0 1)) rfl rfl) ?_
  refine OpsQ.y (v := .pointer (some ⟨_, _, none⟩)) (fun w I => Y.idxEl El1 Tryz.underlying62 Tryz.sizeOf3 rfl rfl i0 rfl) ?_
  refine OpsQ.y (v := .int .i64 _) (fun w I => Y.loadv ty_3 rfl (I.rd (El1.rd.part 0 1)) rfl rfl) ?_
  refine OpsQ.y (v := .int .i64 _) (fun w I => Y.loadv ty_3 rfl (I.rd (k5.rd.part 0 1)) rfl rfl) ?_
  refine OpsQ.y (v := .bool (decide _)) (fun w I => Y.eqi rfl rfl) ?_
  refine OpsQ.y (v := .bool _) (fun w I => Y.assign rfl) ?_
  refine OpsQ.nil ?_
  intro w I
  refine WP.ret ?_
  repeat (first | refine thenE_ret ?_ | refine blockE_ret ?_)
  exact retQ.mk (vs := [.bool _]) rfl ⟨rfl, trivial⟩ I.ext_of (by simp only [tup]; rw [hq])
theorem Told_ok (B : Base) (hB : B.ok) (p : Prg) (f : Sl Fct) (g : FuncId) (cs : List Value) : Fn Tryz.prog 48 [p.val, f.val, .func (.func g) #[] cs.toArray] B (fun v h => ∃ b3 b5 b4, v = .func (.func 76) #[] #[.pointer (some ⟨b3, 0, none⟩), .pointer (some ⟨b5, 0, none⟩), .pointer (some ⟨b4, 0, none⟩)] ∧ Known h b3 p.enc ∧ Known h b5 [.func (.func g) #[] cs.toArray] ∧ Known h b4 [f.val]) := by
  refine Fn.of Tryz.func48 rfl Tryz.ntmps48 (by kernel_rfl) (by simp) ?_
  intro e
  have I := Inv.start hB
  refine WP.seq ?_
  refine WP.region ?_
  refine Ops.go (O.box (v := .agg #[_, _]) I rfl rfl ?_)
  intro b3 w I
  refine Ops.go (O.box (v := .slice _ _ _) I rfl rfl ?_)
  intro b4 w I
  refine Ops.go (O.box (v := .func _ _ _) I rfl rfl ?_)
  intro b5 w I
  refine Ops.y (v := .nilFunc) (Y.assign rfl) ?_
  refine Ops.nil ?_
  refine WP.seq ?_
  refine WP.region ?_
  refine Ops.y (v := .func _ _ _) (Y.mkfunc rfl rfl) ?_
  refine Ops.y (v := .func _ _ _) (Y.assign rfl) ?_
  refine Ops.nil ?_
  obtain ⟨h5, le5, k5, I⟩ := I.settleBox
  obtain ⟨h4, le4, k4, I⟩ := I.settleBox
  obtain ⟨h3, le3, k3, I⟩ := I.settleBox
  refine WP.ret ?_
  repeat (first | refine thenE_ret ?_ | refine blockE_ret ?_)
  exact retQ.mk (vs := [.func _ _ _]) rfl ⟨rfl, trivial⟩ I.ext_of (⟨b3, b5, b4, rfl, k3, k5.le (le4.trans le3), k4.le le3⟩)
def tEnc (t : Stp × Fct) : List Value := [t.1.val, t.2.val]
set_option maxHeartbeats 4000000 in
theorem Told1_iter (p : Prg) (f : Sl Fct) (g : FuncId) (cs : List Value) (q : Nat → Bool) (bp bo bf : Nat) (h : Heap) (kp : Known h bp p.enc) (ko : Known h bo [.func (.func g) #[] cs.toArray]) (kf : Known h bf [f.val]) (hp : p.In h) (hf : Fcts f h)
    (hpr : checkProg p = 0) (okf : FOk p.preds.xs f.xs) (ho : OfC Tryz.prog g cs h p.rules.xs.length q) :
    Iter Tryz.prog 76 [.pointer (some ⟨bp, 0, none⟩), .pointer (some ⟨bo, 0, none⟩), .pointer (some ⟨bf, 0, none⟩)] tEnc (toldL p.preds.xs f.xs p.rules.xs q) h := by
  intro l J Jx hg W hle j0 hok hext hround
  have hsm := hp.rules.is.small
  refine Calls.ofWP (args := [.func (.yield l) #[] #[], .pointer (some ⟨bp, 0, none⟩), .pointer (some ⟨bo, 0, none⟩), .pointer (some ⟨bf, 0, none⟩)]) Tryz.func76 rfl Tryz.ntmps76 (by kernel_rfl) (by simp) ?_
  intro e
  have I := Inv.start (hok _ _ _ j0)
  have kp0 := kp.le hle
  refine WP.seq ?_
  refine WP.region ?_
  refine Ops.y (v := .pointer (some ⟨_, _, none⟩)) (Y.fa fa_25_1 rfl) ?_
  refine Ops.y (v := .slice _ _ _) (Y.loadv ty_23 rfl (I.rd (kp0.rd.part 1 1)) rfl rfl) ?_
  refine Ops.y (v := .int .i64 _) (Y.lens Tryz.underlying23 rfl) ?_
  refine Ops.y (v := .int .i64 _) (Y.move rfl) ?_
  refine Ops.nil ?_
  refine WP.block ?_
  refine WP.loopE (σ := Nat) (fun n => [(0, .func (.yield l) #[] #[]), (1, .pointer (some ⟨bp, 0, none⟩)), (2, .pointer (some ⟨bo, 0, none⟩)), (3, .pointer (some ⟨bf, 0, none⟩)), (12, .int .i64 p.rules.xs.length), (13, .int .i64 n)])
    (fun n w => n ≤ p.rules.xs.length ∧ ∃ h1, hg.le h1 ∧ J h1 (toldK p.preds.xs f.xs p.rules.xs q n).length w) (fun n => p.rules.xs.length - n)
    ⟨0, ⟨rfl, rfl, rfl, rfl, rfl, rfl, trivial⟩, Nat.zero_le _, hg, Heap.le.refl _, j0⟩ ?_
  rintro n e w ⟨hn, h1, gl1, j1⟩
  have I := Inv.start (hok _ _ _ j1)
  have l1 := hle.trans gl1
  have kp := kp.le l1
  have ko := ko.le l1
  have kf := kf.le l1
  have hp := hp.le l1
  have hf := hf.le l1
  refine WP.seq ?_
  refine WP.region ?_
  refine Ops.y (v := .bool (decide _)) (Y.lti rfl rfl) ?_
  refine Ops.nil ?_
  refine WP.seq ?_
  refine WP.cond_dec rfl (fun hc => ?_) (fun hc => ?_)
  · have hn' : n < p.rules.xs.length := by omega
    have hr : p.rules.xs[n]? = some p.rules.xs[n] := List.getElem?_eq_getElem hn'
    have hr' : p.rules.xs[(n : Int).toNat]? = some p.rules.xs[n] := by rw [Int.toNat_natCast]; exact hr
    have ok := rules_rok hpr okf _ (List.getElem_mem hn')
    have hgd : p.rules.xs.getD n default = p.rules.xs[n] := by rw [List.getD_eq_getElem?_getD, hr]; rfl
    refine WP.skip ?_
    refine WP.seq ?_
    refine WP.block ?_
    refine WP.seq ?_
    refine WP.region ?_
    refine Ops.y (v := .int .i64 _) (Y.move rfl) ?_
    refine Ops.y (v := .int .i64 _) (Y.assign rfl) ?_
    refine Ops.nil ?_
    refine WP.seq ?_
    refine WP.seq ?_
    refine WP.region ?_
    refine Ops.y (v := .func _ _ _) (Y.loadv ty_66 rfl (I.rd (ko.rd.part 0 1)) rfl rfl) ?_
    refine Ops.y (v := .int .i64 _) (Y.move rfl) ?_
    refine Ops.go (O.callcv I ho.1 (fs := []) (cs := cs) rfl (ho.2 _ I.base_ok l1 n hn') rfl ?_)
    intro w I
    refine Ops.y (v := .bool _) (Y.not rfl) ?_
    refine Ops.nil ?_
    refine WP.cond rfl (fun h3 => ?_) (fun h3 => ?_)
    · have hq : q n = false := by simpa using h3
      have hN : toldN p.preds.xs f.xs p.rules.xs q n = [] := by unfold toldN; rw [hq]; rfl
      refine WP.exit ?_
      refine WP.region ?_
      refine Ops.y (v := .int .i64 _) (Y.addi rfl rfl ⟨by omega, by omega⟩) ?_
      refine Ops.y (v := .int .i64 _) (Y.move rfl) ?_
      refine Ops.nil ?_
      exact ⟨n + 1, ⟨⟨rfl, rfl, rfl, rfl, rfl, rfl, trivial⟩, by omega, h1, gl1, by rw [toldK_succ, hN, List.append_nil]; exact hext _ _ _ _ _ j1 I.ext_of⟩, by omega⟩
    have hq : q n = true := by simpa using h3
    have hN : toldN p.preds.xs f.xs p.rules.xs q n = (stepsF f.xs n p.rules.xs[n]).map fun s => (s, headF p.preds.xs f.xs p.rules.xs[n] s.vars) := by unfold toldN; rw [hq, if_pos rfl, hgd]
    refine WP.skip ?_
    refine WP.seq ?_
    refine WP.region ?_
    refine Ops.y (v := .agg #[_, _]) (Y.loadv ty_25 rfl (I.rd (kp.rd.part 0 2)) rfl rfl) ?_
    refine Ops.y (v := .slice _ _ _) (Y.loadv ty_26 rfl (I.rd (kf.rd.part 0 1)) rfl rfl) ?_
    refine Ops.y (v := .int .i64 _) (Y.move rfl) ?_
    refine Ops.go (O.call I Tryz.call77 (Steps_ok _ I.base_ok p hp f hf n p.rules.xs[n] (by omega) hr' ok okf) rfl ?_)
    rintro _ h2 w I le2 ⟨s, rfl, hs, is⟩
    refine Ops.y (v := .int .i64 _) (Y.lens Tryz.underlying74 rfl) ?_
    refine Ops.y (v := .int .i64 _) (Y.move rfl) ?_
    refine Ops.nil ?_
    have kp := kp.le le2
    have ko := ko.le le2
    have kf := kf.le le2
    have hp := hp.le le2
    have hf := hf.le le2
    have hss := is.small
    refine WP.block ?_
    refine WP.loopE (σ := Nat) (fun k => [(0, .func (.yield l) #[] #[]), (1, .pointer (some ⟨bp, 0, none⟩)), (2, .pointer (some ⟨bo, 0, none⟩)), (3, .pointer (some ⟨bf, 0, none⟩)), (12, .int .i64 p.rules.xs.length), (13, .int .i64 n), (5, .int .i64 n), (23, s.val), (24, .int .i64 s.xs.length), (25, .int .i64 k)])
      (fun k w => k ≤ s.xs.length ∧ ∃ h3, h2.le h3 ∧ J h3 ((toldK p.preds.xs f.xs p.rules.xs q n).length + k) w) (fun k => s.xs.length - k)
      ⟨0, ⟨rfl, rfl, rfl, rfl, rfl, rfl, rfl, rfl, rfl, rfl, trivial⟩, Nat.zero_le _, h2, Heap.le.refl _, hext _ _ _ _ _ j1 I.ext_of⟩ ?_
    rintro k e w ⟨hk, h3, gl3, j3⟩
    have I := Inv.start (hok _ _ _ j3)
    have kp := kp.le gl3
    have ko := ko.le gl3
    have kf := kf.le gl3
    have hp := hp.le gl3
    have hf := hf.le gl3
    refine WP.seq ?_
    refine WP.region ?_
    refine Ops.y (v := .bool (decide _)) (Y.lti rfl rfl) ?_
    refine Ops.nil ?_
    refine WP.seq ?_
    refine WP.cond_dec rfl (fun h5 => ?_) (fun h5 => ?_)
    · have hk' : k < s.xs.length := by omega
      have E := (is.le gl3).at hk'
      have hmem : s.xs[k] ∈ stepsF f.xs n p.rules.xs[n] := hs ▸ List.getElem_mem hk'
      obtain ⟨_, hvs, hhf⟩ := steps_holds hmem
      obtain ⟨y, hy⟩ : ∃ y, headF p.preds.xs f.xs p.rules.xs[n] s.xs[k].vars = y := ⟨_, rfl⟩
      have hyF : holdsF p.preds.xs f.xs p.rules.xs[n] s.xs[k].vars = (true, y) := by unfold holdsF; rw [if_pos hhf, hy]
      have hget : (toldN p.preds.xs f.xs p.rules.xs q n)[k]? = some (s.xs[k], y) := by rw [hN, List.getElem?_map, ← hs, List.getElem?_eq_getElem hk', ← hy]; rfl
      refine WP.skip ?_
      refine WP.seq ?_
      refine WP.block ?_
      refine WP.seq ?_
      refine WP.region ?_
      refine Ops.y (v := .pointer (some ⟨_, _, none⟩)) (Y.idxEl E Tryz.underlying74 Tryz.sizeOf80 rfl rfl (Int.natCast_nonneg _) rfl) ?_
      refine Ops.y (v := .agg #[_, _, _, _]) (Y.loadv ty_80 rfl (I.rd (E.rd.part 0 4)) rfl rfl) ?_
      refine Ops.go (O.alloc I Tryz.zeroValue80 rfl ?_)
      intro b7 w I
      refine Ops.go (O.store (v := .agg #[_, _, _, _]) I ty_80 0 rfl rfl rfl rfl rfl rfl (Nat.le_of_ble_eq_true rfl) rfl ?_)
      intro w I
      refine Ops.nil ?_
      refine WP.seq ?_
      refine WP.region ?_
      refine Ops.y (v := .agg #[_, _]) (Y.loadv ty_25 rfl (I.rd (kp.rd.part 0 2)) rfl rfl) ?_
      refine Ops.y (v := .slice _ _ _) (Y.loadv ty_26 rfl (I.rd (kf.rd.part 0 1)) rfl rfl) ?_
      refine Ops.y (v := .int .i64 _) (Y.move rfl) ?_
      refine Ops.y (v := .pointer (some ⟨_, _, none⟩)) (Y.fa fa_80_1 rfl) ?_
      refine Ops.y (v := .agg #[_, _, _]) (Y.loadv ty_78 rfl (I.rdbox 0 rfl 1 3) rfl rfl) ?_
      refine Ops.go (O.callv I Tryz.call78 (FOf_at _ I.base_ok p hp f hf n p.rules.xs[n] (by omega) hr' ok okf s.xs[k].vars hvs (true, y) hyF) rfl ?_)
      intro w I
      refine Ops.y (v := .tuple #[_, _]) (Y.move rfl) ?_
      refine Ops.y (v := .bool _) (Y.extract rfl rfl) ?_
      refine Ops.y (v := .agg #[_, _, _, _]) (Y.extract rfl rfl) ?_
      refine Ops.go (O.alloc I Tryz.zeroValue28 rfl ?_)
      intro b9 w I
      refine Ops.y (v := .bool _) (Y.assign rfl) ?_
      refine Ops.go (O.store (v := .agg #[_, _, _, _]) I ty_28 0 rfl rfl rfl rfl rfl rfl (Nat.le_of_ble_eq_true rfl) rfl ?_)
      intro w I
      refine Ops.nil ?_
      refine WP.seq ?_
      refine WP.regionX (by kernel_rfl) ?_
      refine OpsX.y (v := .func _ _ _) (Y.move rfl) ?_
      refine OpsX.y (v := .agg #[_, _, _, _]) (Y.loadv ty_80 rfl (I.rdbox 1 rfl 0 4) rfl rfl) ?_
      refine OpsX.y (v := .agg #[_, _, _, _]) (Y.loadv ty_28 rfl (I.rdbox 0 rfl 0 4) rfl rfl) ?_
      refine OpsX.yield rfl rfl (hround h3 _ _ _ (gl1.trans (le2.trans gl3)) (toldK_get hn' hget) (hext _ _ _ _ _ j3 I.ext_of)) ?_
      rintro ed w (⟨rfl, h4, gl4, j4⟩ | ⟨rfl, jx⟩)
      · refine ⟨_, rfl, ?_⟩
        refine OpsX.y (v := .bool _) (Y.not rfl) ?_
        refine OpsX.nil ?_
        refine WP.cond_f rfl ?_
        refine WP.skip ?_
        refine WP.region ?_
        refine Ops.y (v := .int .i64 _) (Y.addi rfl rfl ⟨by omega, by omega⟩) ?_
        refine Ops.y (v := .int .i64 _) (Y.move rfl) ?_
        refine Ops.nil ?_
        exact ⟨k + 1, ⟨⟨rfl, rfl, rfl, rfl, rfl, rfl, rfl, rfl, rfl, rfl, trivial⟩, by omega, h4, gl3.trans gl4, j4⟩, by omega⟩
      · refine ⟨_, rfl, ?_⟩
        refine OpsX.y (v := .bool _) (Y.not rfl) ?_
        refine OpsX.nil ?_
        refine WP.cond_t rfl ?_
        refine WP.ret ?_
        repeat (first | refine thenE_ret ?_ | refine blockE_ret ?_)
        exact ⟨.inl rfl, [], trivial, ⟨_, rfl⟩, .inr jx⟩
    obtain rfl : k = s.xs.length := by omega
    refine WP.exit ?_
    refine WP.region ?_
    refine Ops.y (v := .int .i64 _) (Y.addi rfl rfl ⟨by omega, by omega⟩) ?_
    refine Ops.y (v := .int .i64 _) (Y.move rfl) ?_
    refine Ops.nil ?_
    exact ⟨n + 1, ⟨⟨rfl, rfl, rfl, rfl, rfl, rfl, trivial⟩, by omega, h3, gl1.trans (le2.trans gl3), by rw [toldK_succ, hN, List.length_append, List.length_map, ← hs]; exact j3⟩, by omega⟩
  obtain rfl : n = p.rules.xs.length := by omega
  refine WP.exit ?_
  exact ⟨.inr rfl, [], trivial, ⟨_, rfl⟩, .inl ⟨h1, gl1, j1⟩⟩
end Go.TF
end
section
/- Turn, Once, Closed. -/
namespace Go.TF
open Go Go.RowKit Go.Proofs
set_option maxRecDepth 20000

set_option maxHeartbeats 4000000 in
theorem Turn_own (B : Base) (hB : B.ok) (p : Prg) (hp : p.In B.h) (hpr : checkProg p = 0) (f : Sl Fct) (hf : Fcts f B.h) (okf : FOk p.preds.xs f.xs) (g : FuncId) (cs : List Value) (q : Nat → Bool) (ho : OfC Tryz.prog g cs B.h p.rules.xs.length q) :
    Fn Tryz.prog 24 [p.val, f.val, .func (.func g) #[] cs.toArray] B (PutO B.h (turnL p.preds.xs f.xs (toldL p.preds.xs f.xs p.rules.xs q))) := by
  have h125 := okf.le125
  refine Fn.ofD Tryz.func24 rfl Tryz.ntmps24 (by kernel_rfl) (by simp) ?_
  intro e
  have I := Inv.start hB
  refine WPD.seq ?_
  refine WPD.region ?_
  refine Ops.go (O.box (v := .agg #[_, _]) I rfl rfl ?_)
  intro b3 w I
  refine Ops.y (v := .slice _ _ _) (Y.assign rfl) ?_
  refine Ops.y (v := .bool _) (Y.assign rfl) ?_
  refine Ops.nil ?_
  refine WPD.seq ?_
  refine WPD.region ?_
  refine Ops.go (O.mkE (α := Fct) Fct.enc I Tryz.underlying26 Tryz.sizeOf28 ?_)
  intro s13 h13 w I le13 e13 c13 a13 o13
  refine Ops.y (v := .slice _ _ _) (Y.move rfl) ?_
  refine Ops.go (O.appendE (α := Fct) I Tryz.underlying26 et_28 (fun _ => rfl) o13 le13 e13 c13 a13 (hf.el.le le13) rfl rfl (by omega) (by omega) ?_)
  intro rr h2 w I le2 hrx o2 r0
  refine Ops.go (O.alloc I Tryz.zeroValue26 rfl ?_)
  intro b8 w I
  refine Ops.go (O.alloc I Tryz.zeroValue4 rfl ?_)
  intro b9 w I
  refine Ops.go (O.store (v := rr.val) I ty_26 1 rfl rfl rfl rfl rfl rfl (Nat.le_of_ble_eq_true rfl) rfl ?_)
  intro w I
  refine Ops.go (O.store (v := .bool _) I ty_4 0 rfl rfl rfl rfl rfl rfl (Nat.le_of_ble_eq_true rfl) rfl ?_)
  intro w I
  refine Ops.nil ?_
  have gl2 := le13.trans le2
  have irr : Fcts rr h2 := ⟨o2.in (fun _ => rfl), by rw [hrx]; omega⟩
  refine WPD.seq ?_
  refine WPD.seq ?_
  refine WPD.region ?_
  refine Ops.y (v := .agg #[_, _]) (Y.loadv ty_25 rfl (I.rdbox 2 rfl 0 2) rfl rfl) ?_
  refine Ops.y (v := .slice _ _ _) (Y.move rfl) ?_
  refine Ops.y (v := .func _ _ _) (Y.move rfl) ?_
  refine Ops.go (O.call I Tryz.call48 (Told_ok _ I.base_ok p f g cs) rfl ?_)
  rintro _ h3 w I le3 ⟨bp, bo, bf, rfl, kp, ko, kf⟩
  refine Ops.nil ?_
  have gl3 := gl2.trans le3
  refine WPD.block ?_
  refine WPD.rangeFuncH (ms := []) (σ := Sl Fct × Bool) (fun s => [box b9 [.bool s.2] 4, box b8 [s.1.val] 26, box b3 p.enc 25]) (fun k s h => (s.1.xs, s.2) = turnL p.preds.xs f.xs ((toldL p.preds.xs f.xs p.rules.xs q).take k) ∧ Fcts s.1 h ∧ OwnH 28 4 s.1 Fct.enc B.h h) (fun _ _ _ => False) (fun _ _ _ _ hl hj => ⟨hj.1, hj.2.1.le hl, hj.2.2.le hl⟩) (rr, false) I ⟨by rw [List.take_zero, hrx]; rfl, irr.le le3, o2.le le3⟩ rfl Tryz.call76
    (Told1_iter p f g cs q bp bo bf h3 kp ko kf (hp.le gl3) (hf.le gl3) hpr okf (ho.le gl3)) (fun _ => rfl) (by kernel_rfl) (by kernel_rfl) (by kernel_rfl) ?_ ?_ ?_
  · rintro l r ms' hg k t ⟨u, ch⟩ W hx gl I ⟨hj, iu, ou⟩
    dsimp only at hj iu ou
    have hk := (List.getElem?_eq_some_iff.1 hx).1
    have hxk := (List.getElem?_eq_some_iff.1 hx).2
    have hfine := told_fine (q := q) (rules_rok hpr okf) okf t (List.mem_of_getElem? hx)
    have oku : FOk p.preds.xs u.xs := by
      have := turn_fok okf (ts := (toldL p.preds.xs f.xs p.rules.xs q).take k) fun x hx => told_fine (rules_rok hpr okf) okf x (List.mem_of_mem_take hx)
      rw [← hj] at this; exact this
    have hnx : putS p.preds.xs (u.xs, ch) t.2 = turnL p.preds.xs f.xs ((toldL p.preds.xs f.xs p.rules.xs q).take (k + 1)) := by rw [turnL_take hk, ← hj, hxk]
    refine WPI.region (by kernel_rfl) ?_
    refine Ops.go (O.alloc I Tryz.zeroValue28 rfl ?_)
    intro b11 w I
    refine Ops.go (O.store (v := .agg #[_, _, _, _]) I ty_28 0 rfl rfl rfl rfl rfl rfl (Nat.le_of_ble_eq_true rfl) rfl ?_)
    intro w I
    refine Ops.nil ?_
    refine ⟨hg, [box b11 t.2.enc 28], Heap.le.refl _, I, fun r' W2 I => ?_⟩
    refine WPI.block ?_
    refine WPI.seq ?_
    refine WPI.region (by kernel_rfl) ?_
    refine Ops.y (v := .bool _) (Y.assign rfl) ?_
    refine Ops.nil ?_
    refine WPI.seq ?_
    refine WPI.region (by kernel_rfl) ?_
    refine Ops.y (v := .pointer (some ⟨_, _, none⟩)) (Y.fa0 fa_25_0 rfl) ?_
    refine Ops.y (v := .slice _ _ _) (Y.loadv ty_22 rfl (I.rdbox 3 rfl 0 1) rfl rfl) ?_
    refine Ops.y (v := .slice _ _ _) (Y.loadv ty_26 rfl (I.rdbox 2 rfl 0 1) rfl rfl) ?_
    refine Ops.y (v := .agg #[_, _, _, _]) (Y.loadv ty_28 rfl (I.rdbox 0 rfl 0 4) rfl rfl) ?_
    refine Ops.go (O.call I Tryz.call27 (Put_own _ I.base_ok p.preds (hp.preds.le (gl3.trans gl)) u iu oku t.2 hfine) rfl ?_)
    rintro _ h5 w I le5 ⟨u2, rfl, hu2, iu2, ou2⟩
    refine Ops.y (v := .tuple #[_, _]) (Y.move rfl) ?_
    refine Ops.y (v := .slice _ _ _) (Y.extract rfl rfl) ?_
    refine Ops.y (v := .bool _) (Y.extract rfl rfl) ?_
    refine Ops.go (O.store (v := .slice _ _ _) I ty_26 2 rfl rfl rfl rfl rfl rfl (Nat.le_of_ble_eq_true rfl) rfl ?_)
    intro w I
    refine Ops.y (v := .bool _) (Y.assign rfl) ?_
    refine Ops.nil ?_
    cases ch
    · refine WPI.region (by kernel_rfl) ?_
      refine Ops.y (v := .bool false) (Y.b (Y.loadv ty_4 rfl (I.rdbox 1 rfl 0 1) rfl rfl) (rfl)) ?_
      refine Ops.y (v := .bool _) (Y.move rfl) ?_
      refine Ops.ygt rfl (v := .bool _) (Y.move rfl) ?_
      refine Ops.y (v := .bool _) (Y.pick_f rfl rfl) ?_
      refine Ops.go (O.store (v := .bool _) I ty_4 1 rfl rfl rfl rfl rfl rfl (Nat.le_of_ble_eq_true rfl) rfl ?_)
      intro w I
      refine Ops.nil ?_
      exact ⟨h5, (u2, _), [box b11 t.2.enc 28], le5, I, by rw [← hnx, hu2]; rfl, iu2, ou2.older (gl3.trans gl)⟩
    · refine WPI.region (by kernel_rfl) ?_
      refine Ops.y (v := .bool true) (Y.b (Y.loadv ty_4 rfl (I.rdbox 1 rfl 0 1) rfl rfl) (rfl)) ?_
      refine Ops.y (v := .bool _) (Y.move rfl) ?_
      refine Ops.gf rfl ?_
      refine Ops.y (v := .bool _) (Y.pick_t rfl rfl) ?_
      refine Ops.go (O.store (v := .bool _) I ty_4 1 rfl rfl rfl rfl rfl rfl (Nat.le_of_ble_eq_true rfl) rfl ?_)
      intro w I
      refine Ops.nil ?_
      exact ⟨h5, (u2, _), [box b11 t.2.enc 28], le5, I, by rw [← hnx, hu2]; rfl, iu2, ou2.older (gl3.trans gl)⟩
  · rintro D h4 ⟨u, ch⟩ W gl I ⟨hj, iu, ou⟩
    dsimp only at hj iu ou
    rw [List.take_length] at hj
    refine WPD.seq ?_
    refine WPD.regionQ mixed I (by kernel_rfl) ?_
    refine OpsQ.y (v := .slice _ _ _) (fun w I => Y.loadv ty_26 rfl (I.rdbox 1 rfl 0 1) rfl rfl) ?_
    refine OpsQ.y (v := .bool _) (fun w I => Y.loadv ty_4 rfl (I.rdbox 0 rfl 0 1) rfl rfl) ?_
    refine OpsQ.y (v := .slice _ _ _) (fun w I => Y.assign rfl) ?_
    refine OpsQ.y (v := .bool _) (fun w I => Y.assign rfl) ?_
    refine OpsQ.nil ?_
    intro w I
    refine WPD.ret ?_
    repeat (first | refine thenD_ret ?_ | refine blockD_ret ?_)
    show doneQ _ _ _ _ _ _ _ _
    exact ⟨.inl rfl, [D], _, h4, [u.val, .bool ch], rfl, I, fun w2 I2 => ⟨rfl, rfl, trivial⟩, ⟨u, by rw [← hj]; rfl, by rw [← hj], iu, ou⟩⟩
  · rintro D c h4 s W gl I hx
    exact hx.elim
theorem Turn_ok (B : Base) (hB : B.ok) (p : Prg) (hp : p.In B.h) (hpr : checkProg p = 0) (f : Sl Fct) (hf : Fcts f B.h) (okf : FOk p.preds.xs f.xs) (g : FuncId) (cs : List Value) (q : Nat → Bool) (ho : OfC Tryz.prog g cs B.h p.rules.xs.length q) :
    Fn Tryz.prog 24 [p.val, f.val, .func (.func g) #[] cs.toArray] B (PutP (turnL p.preds.xs f.xs (toldL p.preds.xs f.xs p.rules.xs q))) := (Turn_own B hB p hp hpr f hf okf g cs q ho).mono fun _ _ _ h => h.put
theorem lv_eq_of_least {cs : List (Int × Ltl)} {n : Nat} {L M : List Int} (h1 : Least cs n L) (h2 : Least cs n M) : L = M :=
  lv_ext (h1.sol.len.trans h2.sol.len.symm) fun i => Int.le_antisymm (h1.least M h2.sol i) (h2.least L h1.sol i)
open Classical in
noncomputable def strataM (p : Prg) : List Int := if h : ∃ M, Least (usesL p.rules.xs) p.preds.xs.length M then Classical.choose h else []
theorem strataM_eq {p : Prg} {M : List Int} (h : Least (usesL p.rules.xs) p.preds.xs.length M) : strataM p = M := by
  have he : ∃ M, Least (usesL p.rules.xs) p.preds.xs.length M := ⟨M, h⟩
  unfold strataM
  rw [dif_pos he]
  exact lv_eq_of_least (Classical.choose_spec he) h
noncomputable def onceOf (p : Prg) (f : List Fct) (st : Int) : (List Fct × Bool) × Int :=
  if askR p f ≠ 0 then (([], false), askR p f) else (turnL p.preds.xs f (toldL p.preds.xs f p.rules.xs (ofQ p (strataM p) st)), 0)
def OnceR (r : (List Fct × Bool) × Int) : Sp := fun v h => ∃ s : Sl Fct, v = .tuple #[s.val, .bool r.1.2, .int .i64 r.2] ∧ s.xs = r.1.1 ∧ Fcts s h
theorem PutP.mono {r : List Fct × Bool} : MonoS (PutP r) := fun _ _ _ hl ⟨s, a, b, c⟩ => ⟨s, a, b, c.le hl⟩
def ROfS (p : Prg) (M : List Int) (st : Int) : Sp := fun v h => ∃ cs, v = .func (.func 53) #[] (List.toArray cs) ∧ OfC Tryz.prog 53 cs h p.rules.xs.length (ofQ p M st)
theorem ROfS.mono {p : Prg} {M : List Int} {st : Int} : MonoS (ROfS p M st) := fun _ _ _ hl ⟨cs, a, b⟩ => ⟨cs, a, b.le hl⟩
theorem fnil {h : Heap} : Fcts ⟨none, 0, []⟩ h := ⟨fun i x hx => by simp at hx, by simp⟩
set_option maxHeartbeats 2000000 in
theorem Once_ok (B : Base) (hB : B.ok) (p : Prg) (hp : p.In B.h) (hnm : p.Nm) (f : Sl Fct) (hf : Fcts f B.h) (st : Int) : Fn Tryz.prog 7 [p.val, f.val, .int .i64 st] B (OnceR (onceOf p f.xs st)) := by
  refine Fn.of Tryz.func7 rfl Tryz.ntmps7 (by kernel_rfl) (by simp) ?_
  intro e
  have I := Inv.start hB
  refine WP.seq ?_
  refine WP.region ?_
  refine Ops.go (O.box (v := .agg #[_, _]) I rfl rfl ?_)
  intro b3 w I
  refine Ops.y (v := .slice _ _ _) (Y.assign rfl) ?_
  refine Ops.y (v := .bool _) (Y.assign rfl) ?_
  refine Ops.y (v := .int .i64 _) (Y.assign rfl) ?_
  refine Ops.nil ?_
  refine WP.seq ?_
  refine WP.seq ?_
  refine WP.region ?_
  refine Ops.y (v := .agg #[_, _]) (Y.loadv ty_25 rfl (I.rdbox 0 rfl 0 2) rfl rfl) ?_
  refine Ops.y (v := .slice _ _ _) (Y.move rfl) ?_
  refine Ops.go (O.callv I Tryz.call22 (rasked_ok _ I.base_ok p hp hnm f hf) rfl ?_)
  intro w I
  refine Ops.y (v := .int .i64 _) (Y.assign rfl) ?_
  refine Ops.nil ?_
  refine WP.seq ?_
  refine WP.region ?_
  refine Ops.y (v := .int .i64 _) (Y.move rfl) ?_
  refine Ops.y (v := .bool (decide _)) (Y.nei rfl rfl) ?_
  refine Ops.nil ?_
  refine WP.cond_dec rfl (fun h1 => ?_) (fun h1 => ?_)
  · refine WP.seq ?_
    refine WP.region ?_
    refine Ops.y (v := .int .i64 _) (Y.move rfl) ?_
    refine Ops.y (v := .slice _ _ _) (Y.assign rfl) ?_
    refine Ops.y (v := .bool _) (Y.assign rfl) ?_
    refine Ops.y (v := .int .i64 _) (Y.assign rfl) ?_
    refine Ops.nil ?_
    refine WP.ret ?_
    repeat (first | refine thenE_ret ?_ | refine blockE_ret ?_)
    exact retQ.mk (vs := [.slice _ _ _, .bool _, .int .i64 _]) rfl ⟨rfl, rfl, rfl, trivial⟩ I.ext_of (⟨⟨none, 0, []⟩, by simp only [tup, onceOf]; rw [if_pos h1]; rfl, by simp only [onceOf]; rw [if_pos h1], fnil⟩)
  obtain ⟨hpr, okf⟩ := askR_iff.1 (Decidable.not_not.1 h1)
  obtain ⟨k1, k2, k3, M, hM⟩ := checkProg_ok hpr
  refine WP.skip ?_
  refine WP.seq ?_
  refine WP.region ?_
  refine Ops.y (v := .agg #[_, _]) (Y.loadv ty_25 rfl (I.rdbox 0 rfl 0 2) rfl rfl) ?_
  refine Ops.go (O.call I Tryz.call23 (Levels_ok _ I.base_ok p hp (inR_of k3) k1) rfl ?_)
  rintro v22 h3 w I le3 hL
  rcases hL with ⟨s, hS, hI, rfl⟩ | ⟨hno, rfl⟩
  rotate_left
  exact absurd hM (hno M)
  refine Ops.y (v := .tuple #[_, _]) (Y.move rfl) ?_
  refine Ops.y (v := .slice _ _ _) (Y.extract rfl rfl) ?_
  refine Ops.y (v := .bool _) (Y.extract rfl rfl) ?_
  refine Ops.y (v := .slice _ _ _) (Y.assign rfl) ?_
  refine Ops.y (v := .bool _) (Y.assign rfl) ?_
  refine Ops.nil ?_
  have hS : Least (usesL p.rules.xs) p.preds.xs.length s.xs := hS
  have hp := hp.le le3
  have hf := hf.le le3
  obtain ⟨tr, htr⟩ : ∃ t, turnL p.preds.xs f.xs (toldL p.preds.xs f.xs p.rules.xs (ofQ p s.xs st)) = t := ⟨_, rfl⟩
  refine WP.seq ?_
  refine WP.regionF mixed I 12 (by kernel_rfl) ?_
  refine OpsF.y_ (v := .agg #[_, _]) (fun _ => runs_none _) (fun _ w us hl I => Y.loadv ty_25 rfl (I.rdbox 0 rfl 0 2) rfl rfl) ?_
  refine OpsF.y_ (v := .slice _ _ _) (fun _ => runs_none _) (fun _ w us hl I => Y.move rfl) ?_
  refine OpsF.y_ (v := .agg #[_, _]) (fun _ => runs_none _) (fun _ w us hl I => Y.loadv ty_25 rfl (I.rdbox 0 rfl 0 2) rfl rfl) ?_
  refine OpsF.y_ (v := .slice _ _ _) (fun _ => runs_none _) (fun _ w us hl I => Y.move rfl) ?_
  refine OpsF.y_ (v := .int .i64 _) (fun _ => runs_none _) (fun _ w us hl I => Y.move rfl) ?_
  refine OpsF.x_ (Φ := ROfS p s.xs st) ROfS.mono (fun _ => runs_none _) ?_ ?_
  · intro _ w hl I
    try unfold AllL
    refine O.call I Tryz.call25 (ROf_ok _ I.base_ok p s st) rfl ?_
    rintro _ h5 w I hl' ⟨b4, b3, b5, rfl, k4, k3', k5⟩
    exact ⟨_, hl', I, ⟨_, rfl, ROf1_ok p s st b4 b3 b5 k4 k3' k5 ((hp.le hl).le hl') ((hI.le hl).le hl') hS.sol.len (heads_in k3)⟩⟩
  refine OpsF.x_ (Φ := PutP tr) PutP.mono (fun _ => runs_none _) ?_ ?_
  · intro _ w hl I u31 q31
    obtain ⟨cs, rfl, hoc⟩ := q31 rfl
    try unfold AllL
    refine O.call I Tryz.call24 (htr ▸ Turn_ok _ I.base_ok p (hp.le hl) hpr f (hf.le hl) okf 53 cs _ hoc) rfl ?_
    rintro _ h6 w I hl' hx
    exact ⟨_, hl', I, hx⟩
  refine OpsF.x_ (Φ := PutP tr) PutP.mono (fun _ => runs_none _) ?_ ?_
  · intro _ w hl I u31 q31 u32 q32
    exact O.yx I (Y.move rfl) (q32 rfl)
  refine OpsF.x_ (Φ := SlS 4 Fct.enc tr.1) SlS.mono (fun _ => runs_none _) ?_ ?_
  · intro _ w hl I u31 q31 u32 q32 u25 q25
    obtain ⟨s6, rfl, e6, i6⟩ := q25 rfl
    exact O.yx I (Y.extract rfl rfl) (⟨s6, rfl, e6, i6⟩)
  refine OpsF.d_ (v := .bool tr.2) (fun _ => runs_none _) ?_ ?_
  · intro _ w hl I u31 q31 u32 q32 u25 q25 u33 q33
    obtain ⟨s6, rfl, e6, i6⟩ := q25 rfl
    exact O.yd I (Y.extract rfl rfl) (rfl)
  refine OpsF.x_ (Φ := SlS 4 Fct.enc tr.1) SlS.mono (fun _ => runs_none _) ?_ ?_
  · intro _ w hl I u31 q31 u32 q32 u25 q25 u33 q33
    exact O.yx I (Y.assign rfl) (q33 rfl)
  refine OpsF.y_ (v := .bool _) (fun _ => runs_none _) (fun _ w us hl I => Y.assign rfl) ?_
  refine OpsF.nil ?_
  intro _ w hl I u31 q31 u32 q32 u25 q25 u33 q33 u12 q12
  refine Ops.nil ?_
  obtain ⟨s6, rfl, hs6, is6⟩ := q12 rfl
  refine WP.seq ?_
  refine WP.region ?_
  refine Ops.y (v := .slice _ _ _) (Y.move rfl) ?_
  refine Ops.y (v := .bool _) (Y.move rfl) ?_
  refine Ops.y (v := .slice _ _ _) (Y.assign rfl) ?_
  refine Ops.y (v := .bool _) (Y.assign rfl) ?_
  refine Ops.y (v := .int .i64 _) (Y.assign rfl) ?_
  refine Ops.nil ?_
  refine WP.ret ?_
  repeat (first | refine thenE_ret ?_ | refine blockE_ret ?_)
  exact retQ.mk (vs := [.slice _ _ _, .bool _, .int .i64 _]) rfl ⟨rfl, rfl, rfl, trivial⟩ I.ext_of (⟨s6, by simp only [tup, onceOf]; rw [if_neg h1, strataM_eq hS, htr], by simp only [onceOf]; rw [if_neg h1, strataM_eq hS, htr, hs6], is6⟩)
/-! ### Closed -/
theorem Closed1_of {h : Heap} {len : Nat} : OfC Tryz.prog 49 [] h len (fun _ => true) := by
  refine ⟨Tryz.call49, fun B hB _ n _ => ?_⟩
  show Fn Tryz.prog 49 [.int .i64 n] B _
  refine Fn.of Tryz.func49 rfl Tryz.ntmps49 (by kernel_rfl) (by simp) ?_
  intro e
  have I := Inv.start hB
  refine WP.seq ?_
  refine WP.region ?_
  refine Ops.y (v := .bool _) (Y.assign rfl) ?_
  refine Ops.nil ?_
  refine WP.seq ?_
  refine WP.region ?_
  refine Ops.y (v := .bool _) (Y.assign rfl) ?_
  refine Ops.nil ?_
  refine WP.ret ?_
  repeat (first | refine thenE_ret ?_ | refine blockE_ret ?_)
  exact retQ.mk (vs := [.bool _]) rfl ⟨rfl, trivial⟩ I.ext_of (rfl)
def closedB (p : Prg) (f : List Fct) : Bool := (toldL p.preds.xs f p.rules.xs fun _ => true).all fun t => underF p.preds.xs [t.2] f
noncomputable def closedOf (p : Prg) (f : List Fct) : Bool × Int := if askR p f ≠ 0 then (false, askR p f) else (closedB p f, 0)
set_option maxHeartbeats 4000000 in
theorem Closed_ok (B : Base) (hB : B.ok) (p : Prg) (hp : p.In B.h) (hnm : p.Nm) (f : Sl Fct) (hf : Fcts f B.h) : Fn Tryz.prog 19 [p.val, f.val] B (fun v _ => v = vBE (closedOf p f.xs)) := by
  refine Fn.ofD Tryz.func19 rfl Tryz.ntmps19 (by kernel_rfl) (by simp) ?_
  intro e
  have I := Inv.start hB
  refine WPD.seq ?_
  refine WPD.region ?_
  refine Ops.go (O.box (v := .agg #[_, _]) I rfl rfl ?_)
  intro b2 w I
  refine Ops.go (O.box (v := .slice _ _ _) I rfl rfl ?_)
  intro b3 w I
  refine Ops.go (O.alloc I Tryz.zeroValue4 rfl ?_)
  intro b4 w I
  refine Ops.go (O.alloc I Tryz.zeroValue29 rfl ?_)
  intro b5 w I
  refine Ops.nil ?_
  refine WPD.seq ?_
  refine WPD.seq ?_
  refine WPD.region ?_
  refine Ops.y (v := .agg #[_, _]) (Y.loadv ty_25 rfl (I.rdbox 3 rfl 0 2) rfl rfl) ?_
  refine Ops.y (v := .slice _ _ _) (Y.loadv ty_26 rfl (I.rdbox 2 rfl 0 1) rfl rfl) ?_
  refine Ops.go (O.callv I Tryz.call22 (rasked_ok _ I.base_ok p hp hnm f hf) rfl ?_)
  intro w I
  refine Ops.y (v := .int .i64 _) (Y.assign rfl) ?_
  refine Ops.nil ?_
  refine WPD.seq ?_
  refine WPD.region ?_
  refine Ops.y (v := .int .i64 _) (Y.move rfl) ?_
  refine Ops.y (v := .bool (decide _)) (Y.nei rfl rfl) ?_
  refine Ops.nil ?_
  refine WPD.cond_dec rfl (fun h1 => ?_) (fun h1 => ?_)
  · refine WPD.seq ?_
    refine WPD.region ?_
    refine Ops.y (v := .int .i64 _) (Y.move rfl) ?_
    refine Ops.go (O.store (v := .bool _) I ty_4 1 rfl rfl rfl rfl rfl rfl (Nat.le_of_ble_eq_true rfl) rfl ?_)
    intro w I
    refine Ops.go (O.store (v := .int .i64 _) I ty_29 0 rfl rfl rfl rfl rfl rfl (Nat.le_of_ble_eq_true rfl) rfl ?_)
    intro w I
    refine Ops.nil ?_
    refine WPD.ret ?_
    repeat (first | refine thenD_ret ?_ | refine blockD_ret ?_)
    show doneQ _ _ _ _ _ _ _ _
    exact ⟨.inl rfl, [], _, _, [.bool false, .int .i64 (askR p f.xs)], rfl, by rw [List.map_nil, List.append_nil]; exact I, fun w2 I2 => ⟨⟨b4, 0, 1, false, _, rfl, ty_4, I2.rdbox 1 rfl 0 1, rfl, rfl⟩, ⟨b5, 0, 1, false, _, rfl, ty_29, I2.rdbox 0 rfl 0 1, rfl, rfl⟩, trivial⟩, by simp only [tup, closedOf]; rw [if_pos h1]; rfl⟩
  obtain ⟨hpr, okf⟩ := askR_iff.1 (Decidable.not_not.1 h1)
  refine WPD.skip ?_
  refine WPD.seq ?_
  refine WPD.seq ?_
  refine WPD.region ?_
  refine Ops.y (v := .agg #[_, _]) (Y.loadv ty_25 rfl (I.rdbox 3 rfl 0 2) rfl rfl) ?_
  refine Ops.y (v := .slice _ _ _) (Y.loadv ty_26 rfl (I.rdbox 2 rfl 0 1) rfl rfl) ?_
  refine Ops.go (O.call I Tryz.call48 (Told_ok _ I.base_ok p f 49 []) rfl ?_)
  rintro _ h3 w I le3 ⟨bp, bo, bf, rfl, kp, ko, kf⟩
  refine Ops.nil ?_
  refine WPD.block ?_
  refine WPD.rangeFunc (ms := []) (σ := Unit) (fun _ => [box b5 [.int .i64 0] 29, box b4 [.bool false] 4, box b3 [f.val] 26, box b2 p.enc 25]) (fun k _ => ∀ t ∈ (toldL p.preds.xs f.xs p.rules.xs fun _ => true).take k, underF p.preds.xs [t.2] f.xs = true) (fun c _ => c = .ret ∧ closedB p f.xs = false) () I (fun t ht => by simp at ht) rfl Tryz.call76
    (Told1_iter p f 49 [] (fun _ => true) bp bo bf h3 kp ko kf (hp.le le3) (hf.le le3) hpr okf Closed1_of) (fun _ => rfl) (by kernel_rfl) (by kernel_rfl) (by kernel_rfl) ?_ ?_ ?_
  · rintro l r ms' hg k t _ W hx gl I hj
    have hk := (List.getElem?_eq_some_iff.1 hx).1
    have hxk := (List.getElem?_eq_some_iff.1 hx).2
    have hfine := told_fine (q := fun _ => true) (rules_rok hpr okf) okf t (List.mem_of_getElem? hx)
    refine WPI.region (by kernel_rfl) ?_
    refine Ops.go (O.alloc I Tryz.zeroValue28 rfl ?_)
    intro b8 w I
    refine Ops.go (O.store (v := .agg #[_, _, _, _]) I ty_28 0 rfl rfl rfl rfl rfl rfl (Nat.le_of_ble_eq_true rfl) rfl ?_)
    intro w I
    refine Ops.nil ?_
    refine ⟨hg, [box b8 t.2.enc 28], Heap.le.refl _, I, fun r' W2 I => ?_⟩
    have gl3 := le3.trans gl
    refine WPI.block ?_
    refine WPI.seq ?_
    refine WPI.region (by kernel_rfl) ?_
    refine Ops.y (v := .pointer (some ⟨_, _, none⟩)) (Y.fa0 fa_25_0 rfl) ?_
    refine Ops.y (v := .slice _ _ _) (Y.loadv ty_22 rfl (I.rdbox 4 rfl 0 1) rfl rfl) ?_
    refine Ops.y (v := .agg #[_, _, _, _]) (Y.loadv ty_28 rfl (I.rdbox 0 rfl 0 4) rfl rfl) ?_
    refine Ops.go (O.mksl (xs := [t.2]) (enc := Fct.enc) I Tryz.underlying26 Tryz.sizeOf28 Tryz.zeroValue28 rfl (Nat.le_of_ble_eq_true rfl) rfl rfl (by decide) (fun _ => rfl) ?_)
    intro b23 h23 w I le23 sl23
    refine Ops.y (v := .slice _ _ _) (Y.loadv ty_26 rfl (I.rdbox 3 rfl 0 1) rfl rfl) ?_
    refine Ops.go (O.callv I Tryz.call50 (Below_ok _ I.base_ok p.preds (hp.preds.le (gl3.trans le23)) ⟨some ⟨b23, 0, none⟩, 1, [t.2]⟩ f ⟨sl23, by simp⟩ (hf.le (gl3.trans le23)) (fok_one okf.len okf.preds hfine) okf) rfl ?_)
    intro w I
    refine Ops.y (v := .bool _) (Y.not rfl) ?_
    refine Ops.nil ?_
    refine WPI.cond rfl (fun h6 => ?_) (fun h6 => ?_)
    · have h6 : underF p.preds.xs [t.2] f.xs = false := by simpa using h6
      refine WPI.seq ?_
      refine WPI.region (by kernel_rfl) ?_
      refine Ops.go (O.store (v := .bool _) I ty_4 2 rfl rfl rfl rfl rfl rfl (Nat.le_of_ble_eq_true rfl) rfl ?_)
      intro w I
      refine Ops.go (O.store (v := .int .i64 _) I ty_29 1 rfl rfl rfl rfl rfl rfl (Nat.le_of_ble_eq_true rfl) rfl ?_)
      intro w I
      refine Ops.nil ?_
      refine WPI.ret ?_
      repeat (first | refine thenE_ret ?_ | refine blockE_ret ?_)
      exact ⟨h23, (), [box b8 t.2.enc 28], le23, I, rfl, by unfold closedB; rw [List.all_eq_false]; exact ⟨t, List.mem_of_getElem? hx, by rw [h6]; decide⟩⟩
    · have h6 : underF p.preds.xs [t.2] f.xs = true := by simpa using h6
      refine WPI.skip ?_
      exact ⟨h23, (), [box b8 t.2.enc 28], le23, I, fun u hu => by
        rw [List.take_succ_eq_append_getElem hk, List.mem_append, List.mem_singleton] at hu
        rcases hu with hu | rfl
        · exact hj u hu
        · rw [hxk]; exact h6⟩
  · rintro D h4 _ W gl I hj
    rw [List.take_length] at hj
    refine WPD.seq ?_
    refine WPD.region ?_
    refine Ops.go (O.store (v := .bool _) I ty_4 1 rfl rfl rfl rfl rfl rfl (Nat.le_of_ble_eq_true rfl) rfl ?_)
    intro w I
    refine Ops.go (O.store (v := .int .i64 _) I ty_29 0 rfl rfl rfl rfl rfl rfl (Nat.le_of_ble_eq_true rfl) rfl ?_)
    intro w I
    refine Ops.nil ?_
    refine WPD.ret ?_
    repeat (first | refine thenD_ret ?_ | refine blockD_ret ?_)
    show doneQ _ _ _ _ _ _ _ _
    exact ⟨.inl rfl, [D], [box b5 [.int .i64 0] 29, box b4 [.bool true] 4, box b3 [f.val] 26, box b2 p.enc 25], h4, [.bool true, .int .i64 0], rfl, I, fun w2 I2 => ⟨⟨b4, 0, 1, false, _, rfl, ty_4, I2.rdbox 1 rfl 0 1, rfl, rfl⟩, ⟨b5, 0, 1, false, _, rfl, ty_29, I2.rdbox 0 rfl 0 1, rfl, rfl⟩, trivial⟩, by simp only [tup, closedOf]; rw [if_neg h1, show closedB p f.xs = true from List.all_eq_true.2 hj]; rfl⟩
  · rintro D c h4 _ W gl I ⟨rfl, hx⟩
    refine blockD_ret (thenD_ret ?_)
    show doneQ _ _ _ _ _ _ _ _
    exact ⟨.inl rfl, [D], [box b5 [.int .i64 0] 29, box b4 [.bool false] 4, box b3 [f.val] 26, box b2 p.enc 25], h4, [.bool false, .int .i64 0], rfl, I, fun w2 I2 => ⟨⟨b4, 0, 1, false, _, rfl, ty_4, I2.rdbox 1 rfl 0 1, rfl, rfl⟩, ⟨b5, 0, 1, false, _, rfl, ty_29, I2.rdbox 0 rfl 0 1, rfl, rfl⟩, trivial⟩, by simp only [tup, closedOf]; rw [if_neg h1, hx]; rfl⟩
end Go.TF
end
section
/- What the document says of a round, and of what is closed. -/
namespace Go.TF
open Go Go.RowKit Go.Proofs
set_option maxRecDepth 20000

set_option maxHeartbeats 8000000 in
theorem OnceOf_ok (B : Base) (hB : B.ok) (p : Prg) (hp : p.In B.h) (hpr : checkProg p = 0) (f : Sl Fct) (hf : Fcts f B.h) (okf : FOk p.preds.xs f.xs) (st : Int) : Fn Tryz.prog 10 [p.val, f.val, .int .i64 st] B (PutP (turnL p.preds.xs f.xs (toldL p.preds.xs f.xs p.rules.xs (ofQ p (strataM p) st)))) := by
  have h125 := okf.le125
  obtain ⟨k1, k2, k3, _, _⟩ := checkProg_ok hpr
  have hin := heads_in k3
  have hsr := hp.rules.is.small
  refine Fn.of Tryz.func10 rfl Tryz.ntmps10 (by kernel_rfl) (by simp) ?_
  intro e
  have I := Inv.start hB
  refine WP.seq ?_
  refine WP.region ?_
  refine Ops.go (O.box (v := .agg #[_, _]) I rfl rfl ?_)
  intro b3 w I
  refine Ops.y (v := .slice _ _ _) (Y.assign rfl) ?_
  refine Ops.y (v := .bool _) (Y.assign rfl) ?_
  refine Ops.nil ?_
  refine WP.seq ?_
  refine WP.region ?_
  refine Ops.y (v := .agg #[_, _]) (Y.loadv ty_25 rfl (I.rdbox 0 rfl 0 2) rfl rfl) ?_
  refine Ops.go (O.call I Tryz.call32 (StrataOf_ok _ I.base_ok p hp hpr) rfl ?_)
  rintro _ h1 w I le1 ⟨s, hS, hI, rfl⟩
  refine Ops.y (v := .slice _ _ _) (Y.assign rfl) ?_
  refine Ops.nil ?_
  have eM := strataM_eq hS
  have hsl : s.xs.length = p.preds.xs.length := hS.sol.len
  obtain ⟨q, hqd⟩ : ∃ q, ofQ p (strataM p) st = q := ⟨_, rfl⟩
  rw [hqd]
  refine WP.seq ?_
  refine WP.region ?_
  refine Ops.go (O.mkE (α := Fct) Fct.enc I Tryz.underlying26 Tryz.sizeOf28 ?_)
  intro s19 h19 w I le19 e19 c19 a19 o19
  refine Ops.y (v := .slice _ _ _) (Y.move rfl) ?_
  refine Ops.go (O.appendE (α := Fct) I Tryz.underlying26 et_28 (fun _ => rfl) o19 le19 e19 c19 a19 (hf.el.le (le1.trans le19)) rfl rfl (by omega) (by omega) ?_)
  intro rr h2 w I le2 hrx o2 r0
  refine Ops.y (v := rr.val) (Y.assign rfl) ?_
  refine Ops.nil ?_
  have gl2 := (le1.trans le19).trans le2
  have irr : Fcts rr h2 := ⟨o2.in (fun _ => rfl), by rw [hrx]; omega⟩
  refine WP.seq ?_
  refine WP.region ?_
  refine Ops.y (v := .bool _) (Y.assign rfl) ?_
  refine Ops.nil ?_
  refine WP.seq ?_
  refine WP.seq ?_
  refine WP.region ?_
  refine Ops.y (v := .int .i64 _) (Y.assign rfl) ?_
  refine Ops.nil ?_
  refine WP.block ?_
  refine WP.loopE (σ := Nat × Sl Fct × Bool × Heap) (fun s' => [(1, f.val), (2, .int .i64 st), (3, .pointer (some ⟨b3, 0, none⟩)), (8, s.val), (9, s'.2.1.val), (10, .bool s'.2.2.1), (11, .int .i64 s'.1)])
    (fun s' w => Inv B s'.2.2.2 [box b3 p.enc 25] w ∧ s'.1 ≤ p.rules.xs.length ∧ h2.le s'.2.2.2 ∧ (s'.2.1.xs, s'.2.2.1) = turnL p.preds.xs f.xs (toldK p.preds.xs f.xs p.rules.xs q s'.1) ∧ Fcts s'.2.1 s'.2.2.2) (fun s' => p.rules.xs.length - s'.1)
    ⟨(0, rr, false, h2), ⟨rfl, rfl, rfl, rfl, rfl, rfl, rfl, trivial⟩, I, Nat.zero_le _, Heap.le.refl _, by dsimp only; rw [hrx]; rfl, irr⟩ ?_
  rintro ⟨n, u, ch, hh⟩ e w ⟨I, hn, gl, hj, iu⟩
  dsimp only at I hn gl hj iu ⊢
  have hp := hp.le (gl2.trans gl)
  have hf := hf.le (gl2.trans gl)
  have hI := hI.le ((le19.trans le2).trans gl)
  refine WP.seq ?_
  refine WP.seq ?_
  refine WP.region ?_
  refine Ops.y (v := .int .i64 _) (Y.move rfl) ?_
  refine Ops.y (v := .pointer (some ⟨_, _, none⟩)) (Y.fa fa_25_1 rfl) ?_
  refine Ops.y (v := .slice _ _ _) (Y.loadv ty_23 rfl (I.rdbox 0 rfl 1 1) rfl rfl) ?_
  refine Ops.y (v := .int .i64 _) (Y.lens Tryz.underlying23 rfl) ?_
  refine Ops.y (v := .bool (decide _)) (Y.lti rfl rfl) ?_
  refine Ops.nil ?_
  refine WP.cond_dec rfl (fun h5 => ?_) (fun h5 => ?_)
  · have hn' : n < p.rules.xs.length := by omega
    have hr : p.rules.xs[n]? = some p.rules.xs[n] := List.getElem?_eq_getElem hn'
    have hr' : p.rules.xs[(n : Int).toNat]? = some p.rules.xs[n] := by rw [Int.toNat_natCast]; exact hr
    have ok := rules_rok hpr okf _ (List.getElem_mem hn')
    have hgd : p.rules.xs.getD n default = p.rules.xs[n] := by rw [List.getD_eq_getElem?_getD, hr]; rfl
    have Er := hp.rules.is.at hn'
    obtain ⟨i0, i1⟩ := hin _ (List.getElem_mem hn')
    have El1 := hI.el.el (lv_some hsl i0 i1)
    have hqn : q n = decide (lv s.xs p.rules.xs[n].head.pred = st) := by rw [← hqd, eM]; unfold ofQ; rw [hgd]
    refine WP.skip ?_
    refine WP.seq ?_
    refine WP.block ?_
    refine WP.seq ?_
    refine WP.seq ?_
    refine WP.region ?_
    refine Ops.y (v := .slice _ _ _) (Y.move rfl) ?_
    refine Ops.y (v := .pointer (some ⟨_, _, none⟩)) (Y.fa fa_25_1 rfl) ?_
    refine Ops.y (v := .slice _ _ _) (Y.loadv ty_23 rfl (I.rdbox 0 rfl 1 1) rfl rfl) ?_
    refine Ops.y (v := .int .i64 _) (Y.move rfl) ?_
    refine Ops.y (v := .pointer (some ⟨_, _, none⟩)) (Y.idxEl Er Tryz.underlying23 Tryz.sizeOf46 rfl rfl (Int.natCast_nonneg _) rfl) ?_
    refine Ops.y (v := .pointer (some ⟨_, _, none⟩)) (Y.fa0 fa_46_0 rfl) ?_
    refine Ops.y (v := .pointer (some ⟨_, _, none⟩)) (Y.fa0 fa_43_0 rfl) ?_
    refine Ops.y (v := .int .i64 _) (Y.loadv ty_3 rfl (I.rd (Er.rd.part 0 1)) rfl rfl) ?_
    refine Ops.y (v := .pointer (some ⟨_, _, none⟩)) (Y.idxEl El1 Tryz.underlying62 Tryz.sizeOf3 rfl rfl i0 rfl) ?_
    refine Ops.y (v := .int .i64 _) (Y.loadv ty_3 rfl (I.rd (El1.rd.part 0 1)) rfl rfl) ?_
    refine Ops.y (v := .int .i64 _) (Y.move rfl) ?_
    refine Ops.y (v := .bool (decide _)) (Y.nei rfl rfl) ?_
    refine Ops.nil ?_
    refine WP.cond_dec rfl (fun h7 => ?_) (fun h7 => ?_)
    · have hN : toldN p.preds.xs f.xs p.rules.xs q n = [] := by unfold toldN; rw [hqn, decide_eq_false h7]; rfl
      refine WP.exit ?_
      refine WP.region ?_
      refine Ops.y (v := .int .i64 _) (Y.move rfl) ?_
      refine Ops.y (v := .int .i64 _) (Y.addi rfl rfl ⟨by omega, by omega⟩) ?_
      refine Ops.y (v := .int .i64 _) (Y.assign rfl) ?_
      refine Ops.nil ?_
      exact ⟨(n + 1, u, ch, hh), ⟨⟨rfl, rfl, rfl, rfl, rfl, rfl, rfl, trivial⟩, I, by dsimp only; omega, gl, by dsimp only; rw [toldK_succ, hN, List.append_nil]; exact hj, iu⟩, by dsimp only; omega⟩
    have hN : toldN p.preds.xs f.xs p.rules.xs q n = (stepsF f.xs n p.rules.xs[n]).map fun s => (s, headF p.preds.xs f.xs p.rules.xs[n] s.vars) := by unfold toldN; rw [hqn, decide_eq_true (Decidable.not_not.1 h7), if_pos rfl, hgd]
    refine WP.skip ?_
    refine WP.seq ?_
    refine WP.region ?_
    refine Ops.y (v := .agg #[_, _]) (Y.loadv ty_25 rfl (I.rdbox 0 rfl 0 2) rfl rfl) ?_
    refine Ops.y (v := .slice _ _ _) (Y.move rfl) ?_
    refine Ops.y (v := .int .i64 _) (Y.move rfl) ?_
    refine Ops.go (O.call I Tryz.call33 (AllOf_ok _ I.base_ok p hp f hf n p.rules.xs[n] (by omega) hr' ok okf) rfl ?_)
    rintro _ h8 w I le8 ⟨sl, rfl, hsl, isl⟩
    refine Ops.y (v := .slice _ _ _) (Y.assign rfl) ?_
    refine Ops.nil ?_
    have hp := hp.le le8
    have hf := hf.le le8
    have hI := hI.le le8
    have hss := isl.small
    have hNl : (toldN p.preds.xs f.xs p.rules.xs q n).length = sl.xs.length := by rw [hN, List.length_map, hsl]
    refine WP.seq ?_
    refine WP.region ?_
    refine Ops.y (v := .int .i64 _) (Y.assign rfl) ?_
    refine Ops.nil ?_
    refine WP.block ?_
    refine WP.loopE (σ := Nat × Sl Fct × Bool × Heap) (fun s' => [(1, f.val), (2, .int .i64 st), (3, .pointer (some ⟨b3, 0, none⟩)), (8, s.val), (9, s'.2.1.val), (10, .bool s'.2.2.1), (11, .int .i64 n), (12, sl.val), (13, .int .i64 s'.1)])
      (fun s' w => Inv B s'.2.2.2 [box b3 p.enc 25] w ∧ s'.1 ≤ sl.xs.length ∧ h8.le s'.2.2.2 ∧ (s'.2.1.xs, s'.2.2.1) = turnL p.preds.xs f.xs (toldK p.preds.xs f.xs p.rules.xs q n ++ (toldN p.preds.xs f.xs p.rules.xs q n).take s'.1) ∧ Fcts s'.2.1 s'.2.2.2) (fun s' => sl.xs.length - s'.1)
      ⟨(0, u, ch, h8), ⟨rfl, rfl, rfl, rfl, rfl, rfl, rfl, rfl, rfl, trivial⟩, I, Nat.zero_le _, Heap.le.refl _, by dsimp only; rw [List.take_zero, List.append_nil]; exact hj, iu.le le8⟩ ?_
    rintro ⟨k, u, ch, h9⟩ e w ⟨I, hk, gl9, hj, iu⟩
    dsimp only at I hk gl9 hj iu ⊢
    have hp := hp.le gl9
    have hf := hf.le gl9
    refine WP.seq ?_
    refine WP.seq ?_
    refine WP.region ?_
    refine Ops.y (v := .int .i64 _) (Y.move rfl) ?_
    refine Ops.y (v := .slice _ _ _) (Y.move rfl) ?_
    refine Ops.y (v := .int .i64 _) (Y.lens Tryz.underlying74 rfl) ?_
    refine Ops.y (v := .bool (decide _)) (Y.lti rfl rfl) ?_
    refine Ops.nil ?_
    refine WP.cond_dec rfl (fun h10 => ?_) (fun h10 => ?_)
    · have hk' : k < sl.xs.length := by omega
      have E := (isl.le gl9).at hk'
      have hmem : sl.xs[k] ∈ stepsF f.xs n p.rules.xs[n] := hsl ▸ List.getElem_mem hk'
      obtain ⟨_, hvs, hhf⟩ := steps_holds hmem
      obtain ⟨y, hy⟩ : ∃ y, headF p.preds.xs f.xs p.rules.xs[n] sl.xs[k].vars = y := ⟨_, rfl⟩
      have hyF : holdsF p.preds.xs f.xs p.rules.xs[n] sl.xs[k].vars = (true, y) := by unfold holdsF; rw [if_pos hhf, hy]
      have hfine : factFine p.preds.xs y = true := hy ▸ headF_fine ok okf hvs hhf
      have oku : FOk p.preds.xs u.xs := by
        have := turn_fok okf (ts := toldK p.preds.xs f.xs p.rules.xs q n ++ (toldN p.preds.xs f.xs p.rules.xs q n).take k) fun t ht => told_fine (q := q) (rules_rok hpr okf) okf t (by
          rcases List.mem_append.1 ht with ht | ht
          · unfold toldK at ht
            obtain ⟨m, hm, ht⟩ := List.mem_flatMap.1 ht
            exact List.mem_flatMap.2 ⟨m, List.mem_range.2 (by have := List.mem_range.1 hm; omega), ht⟩
          · exact List.mem_flatMap.2 ⟨n, List.mem_range.2 hn', List.mem_of_mem_take ht⟩)
        rw [← hj] at this; exact this
      have hget : (toldN p.preds.xs f.xs p.rules.xs q n)[k]'(by omega) = (sl.xs[k], y) := by
        have h1 : (toldN p.preds.xs f.xs p.rules.xs q n)[k]? = some (sl.xs[k], y) := by rw [hN, List.getElem?_map, ← hsl, List.getElem?_eq_getElem hk', ← hy]; rfl
        exact (List.getElem?_eq_some_iff.1 h1).2
      have hnx : putS p.preds.xs (u.xs, ch) y = turnL p.preds.xs f.xs (toldK p.preds.xs f.xs p.rules.xs q n ++ (toldN p.preds.xs f.xs p.rules.xs q n).take (k + 1)) := by
        rw [List.take_succ_eq_append_getElem (by omega), hget, ← List.append_assoc, turnL_snoc, ← hj]
      refine WP.skip ?_
      refine WP.seq ?_
      refine WP.block ?_
      refine WP.seq ?_
      refine WP.regionG mixed RBx.pre ⟨h9, none, none⟩ (J := JBx B [box b3 p.enc 25] 28 [.int .i64 0, .int .i64 0, .int .i64 0, .int .i64 0] y.enc 12 99 14) ⟨rfl, rfl, fun h => (by cases h), I.drew⟩ 15 (by kernel_rfl) ?_
      refine OpsG.y_ (v := .agg #[_, _]) (fun _ => runsG_none _) RBx.pre (JBx.set (by decide)) (fun _ s w us hl hj => have I := hj.base; have hl := hl.h; Y.loadv ty_25 rfl (I.rdbox 0 rfl 0 2) rfl rfl) ?_
      refine OpsG.y_ (v := .slice _ _ _) (fun _ => runsG_none _) RBx.pre (JBx.set (by decide)) (fun _ s w us hl hj => have I := hj.base; have hl := hl.h; Y.move rfl) ?_
      refine OpsG.y_ (v := .int .i64 _) (fun _ => runsG_none _) RBx.pre (JBx.set (by decide)) (fun _ s w us hl hj => have I := hj.base; have hl := hl.h; Y.move rfl) ?_
      refine OpsG.y_ (v := .slice _ _ _) (fun _ => runsG_none _) RBx.pre (JBx.set (by decide)) (fun _ s w us hl hj => have I := hj.base; have hl := hl.h; Y.move rfl) ?_
      refine OpsG.y_ (v := .int .i64 _) (fun _ => runsG_none _) RBx.pre (JBx.set (by decide)) (fun _ s w us hl hj => have I := hj.base; have hl := hl.h; Y.move rfl) ?_
      refine OpsG.y_ (v := .pointer (some ⟨_, _, none⟩)) (fun _ => runsG_none _) RBx.pre (JBx.set (by decide)) (fun _ s w us hl hj => have I := hj.base; have hl := hl.h; Y.idxEl E Tryz.underlying74 Tryz.sizeOf80 rfl rfl (Int.natCast_nonneg _) rfl) ?_
      refine OpsG.y_ (v := .pointer (some ⟨_, _, none⟩)) (fun _ => runsG_none _) RBx.pre (JBx.set (by decide)) (fun _ s w us hl hj => have I := hj.base; have hl := hl.h; Y.fa fa_80_1 rfl) ?_
      refine OpsG.y_ (v := .agg #[_, _, _]) (fun _ => runsG_none _) RBx.pre (JBx.set (by decide)) (fun _ s w us hl hj => have I := hj.base; have hl := hl.h; Y.loadv ty_78 rfl (I.rd ((E.rd.part 1 3).le hl)) rfl rfl) ?_
      refine OpsG.c_ (by decide) (fun _ s w us hl hj => have I := hj.inv; have hl := hl.h; O.callv I Tryz.call34 (hyF ▸ rholds_ok _ I.base_ok p (hp.le hl) f (hf.le hl) n p.rules.xs[n] (by omega) hr' ok okf sl.xs[k].vars hvs) rfl (fun w' I' => ⟨rfl, ⟨hj.h7, hj.h8, hj.ord, I'⟩⟩)) ?_
      refine OpsG.y_ (v := .tuple #[_, _]) (fun _ => runsG_none _) RBx.pre (JBx.set (by decide)) (fun _ s w us hl hj => have I := hj.base; have hl := hl.h; Y.move rfl) ?_
      refine OpsG.y_ (v := .bool _) (fun _ => runsG_none _) RBx.pre (JBx.set (by decide)) (fun _ s w us hl hj => have I := hj.base; have hl := hl.h; Y.extract rfl rfl) ?_
      refine OpsG.y_ (v := .agg #[_, _, _, _]) (fun _ => runsG_none _) RBx.pre (JBx.set (by decide)) (fun _ s w us hl hj => have I := hj.base; have hl := hl.h; Y.extract rfl rfl) ?_
      refine OpsG.make7 Tryz.zeroValue28 rfl (by decide) (by decide) ?_
      refine OpsG.y_ (v := .bool _) (fun _ => runsG_none _) RBx.pre (JBx.set (by decide)) (fun _ s w us hl hj => have I := hj.base; have hl := hl.h; Y.assign rfl) ?_
      refine OpsG.store7 ty_28 rfl rfl (fun s => by intro u15 q15; exact ⟨q15 rfl, rfl⟩) rfl rfl (by decide) (by decide) ?_
      refine OpsG.nil ?_
      intro D s' w hD hl hj' u15 q15
      refine Ops.nil ?_
      obtain ⟨b15, rfl, h15⟩ := q15 rfl
      have I := hj'.inv
      rw [h15, hD 14 (by omega)] at I
      have hl := hl.h
      generalize s'.o8 = o8 at I
      generalize s'.h = h12 at I hl
      have I : Inv B h12 [box b15 y.enc 28, box b3 p.enc 25] w := by
        cases o8 with
        | none => exact I
        | some b8 => exact I.weak (List.Sublist.cons_cons _ (List.sublist_cons_self _ _))
      have hp := hp.le hl
      refine WP.seq ?_
      refine WP.region ?_
      refine Ops.y (v := .bool _) (Y.assign rfl) ?_
      refine Ops.nil ?_
      refine WP.seq ?_
      refine WP.region ?_
      refine Ops.y (v := .pointer (some ⟨_, _, none⟩)) (Y.fa0 fa_25_0 rfl) ?_
      refine Ops.y (v := .slice _ _ _) (Y.loadv ty_22 rfl (I.rdbox 1 rfl 0 1) rfl rfl) ?_
      refine Ops.y (v := u.val) (Y.move rfl) ?_
      refine Ops.y (v := .agg #[_, _, _, _]) (Y.loadv ty_28 rfl (I.rdbox 0 rfl 0 4) rfl rfl) ?_
      refine Ops.go (O.call I Tryz.call35 (radd_ok _ I.base_ok p.preds hp.preds u (iu.le hl) oku y hfine) rfl ?_)
      rintro _ h5 w I le5 ⟨u2, rfl, hu2, iu2⟩
      refine Ops.y (v := .tuple #[_, _]) (Y.move rfl) ?_
      refine Ops.y (v := .slice _ _ _) (Y.extract rfl rfl) ?_
      refine Ops.y (v := .bool _) (Y.extract rfl rfl) ?_
      refine Ops.y (v := .slice _ _ _) (Y.assign rfl) ?_
      refine Ops.y (v := .bool _) (Y.assign rfl) ?_
      refine Ops.nil ?_
      cases ch
      · refine WP.region ?_
        refine Ops.y (v := .bool _) (Y.move rfl) ?_
        refine Ops.y (v := .bool false) (Y.b (Y.move rfl) (rfl)) ?_
        refine Ops.ygt rfl (v := .bool _) (Y.move rfl) ?_
        refine Ops.y (v := .bool _) (Y.pick_f rfl rfl) ?_
        refine Ops.y (v := .bool _) (Y.assign rfl) ?_
        refine Ops.nil ?_
        refine WP.region ?_
        refine Ops.y (v := .int .i64 _) (Y.move rfl) ?_
        refine Ops.y (v := .int .i64 _) (Y.addi rfl rfl ⟨by omega, by omega⟩) ?_
        refine Ops.y (v := .int .i64 _) (Y.assign rfl) ?_
        refine Ops.nil ?_
        exact ⟨(k + 1, u2, _, h5), ⟨⟨rfl, rfl, rfl, rfl, rfl, rfl, rfl, rfl, rfl, trivial⟩, I.drop, by dsimp only; omega, (gl9.trans hl).trans le5, by dsimp only; rw [← hnx, hu2]; rfl, iu2⟩, by dsimp only; omega⟩
      · refine WP.region ?_
        refine Ops.y (v := .bool _) (Y.move rfl) ?_
        refine Ops.y (v := .bool true) (Y.b (Y.move rfl) (rfl)) ?_
        refine Ops.gf rfl ?_
        refine Ops.y (v := .bool _) (Y.pick_t rfl rfl) ?_
        refine Ops.y (v := .bool _) (Y.assign rfl) ?_
        refine Ops.nil ?_
        refine WP.region ?_
        refine Ops.y (v := .int .i64 _) (Y.move rfl) ?_
        refine Ops.y (v := .int .i64 _) (Y.addi rfl rfl ⟨by omega, by omega⟩) ?_
        refine Ops.y (v := .int .i64 _) (Y.assign rfl) ?_
        refine Ops.nil ?_
        exact ⟨(k + 1, u2, _, h5), ⟨⟨rfl, rfl, rfl, rfl, rfl, rfl, rfl, rfl, rfl, trivial⟩, I.drop, by dsimp only; omega, (gl9.trans hl).trans le5, by dsimp only; rw [← hnx, hu2]; rfl, iu2⟩, by dsimp only; omega⟩
    obtain rfl : k = sl.xs.length := by omega
    refine WP.exit ?_
    refine WP.region ?_
    refine Ops.y (v := .int .i64 _) (Y.move rfl) ?_
    refine Ops.y (v := .int .i64 _) (Y.addi rfl rfl ⟨by omega, by omega⟩) ?_
    refine Ops.y (v := .int .i64 _) (Y.assign rfl) ?_
    refine Ops.nil ?_
    exact ⟨(n + 1, u, ch, h9), ⟨⟨rfl, rfl, rfl, rfl, rfl, rfl, rfl, trivial⟩, I, by dsimp only; omega, (gl.trans le8).trans gl9, by dsimp only; rw [toldK_succ, hj, ← hNl, List.take_length], iu⟩, by dsimp only; omega⟩
  obtain rfl : n = p.rules.xs.length := by omega
  refine WP.exit ?_
  refine WP.seq ?_
  refine WP.region ?_
  refine Ops.y (v := .slice _ _ _) (Y.move rfl) ?_
  refine Ops.y (v := .bool _) (Y.move rfl) ?_
  refine Ops.y (v := .slice _ _ _) (Y.assign rfl) ?_
  refine Ops.y (v := .bool _) (Y.assign rfl) ?_
  refine Ops.nil ?_
  refine WP.ret ?_
  repeat (first | refine thenE_ret ?_ | refine blockE_ret ?_)
  exact retQ.mk (vs := [.slice _ _ _, .bool _]) rfl ⟨rfl, rfl, trivial⟩ I.ext_of (⟨u, by rw [← hj]; rfl, by rw [← hj], iu⟩)
end Go.TF
end
section
/- What the document says of what is closed; what must be in any case; laws of a round: plain. -/
namespace Go.TF
open Go Go.RowKit Go.Proofs
set_option maxRecDepth 20000

/-! ### The roads' rounds -/
theorem toldK_er (l : List Prd) (f : List Fct) (rs : List Rul) (q : Nat → Bool) (k : Nat) (hk : k ≤ rs.length) : toldK l f (rs.map Rul.er) q k = toldK l f rs q k := by
  unfold toldK
  have : ∀ n ∈ List.range k, toldN l f (rs.map Rul.er) q n = toldN l f rs q n := fun n hn => by
    have hn' : n < rs.length := by have := List.mem_range.1 hn; omega
    have hg : (rs.map Rul.er).getD n default = (rs.getD n default).er := by
      rw [List.getD_eq_getElem?_getD, List.getD_eq_getElem?_getD, List.getElem?_map, List.getElem?_eq_getElem hn']; rfl
    unfold toldN
    rw [hg, stepsF_er]
    simp only [headF_er]
  rw [List.flatMap_def, List.flatMap_def, List.map_congr_left this]
theorem toldL_er (l : List Prd) (f : List Fct) (rs : List Rul) (q : Nat → Bool) : toldL l f (rs.map Rul.er) q = toldL l f rs q := by
  unfold toldL; rw [List.length_map]; exact toldK_er l f rs q _ (Nat.le_refl _)
theorem toldK_congr {l : List Prd} {f : List Fct} {rs : List Rul} {q q' : Nat → Bool} {k : Nat} (hq : ∀ n, n < k → q n = q' n) : toldK l f rs q k = toldK l f rs q' k := by
  unfold toldK
  have : ∀ n ∈ List.range k, toldN l f rs q n = toldN l f rs q' n := fun n hn => by unfold toldN; rw [hq n (List.mem_range.1 hn)]
  rw [List.flatMap_def, List.flatMap_def, List.map_congr_left this]
def rndF : List Fct := [⟨0, 0, 1, 0⟩, ⟨0, 1, 2, 0⟩, ⟨0, 2, 0, 0⟩, ⟨0, 3, 0, 0⟩, ⟨1, 0, 1, 1⟩, ⟨1, 0, 2, 5⟩, ⟨1, 1, 2, 1⟩]
section
variable {p : Prg} {h : Heap} (hp : RoadsAt p h)
include hp
theorem rd_check : checkProg p = 0 := by rw [← checkProg_er, hp.er, roads_check]
theorem rd_rules : p.rules.xs.map Rul.er = roadsC.rules.xs := by have := congrArg (fun q : Prg => q.rules.xs) hp.er; exact this
theorem rd_strata : strataM p = [0, 0, 1] := by
  refine strataM_eq (least_er ?_)
  rw [← usesL_er, rd_rules hp, rd_preds hp]
  exact roads_least
theorem rd_ofQ (n : Nat) (hn : n < 7) : ofQ p [0, 0, 1] 0 n = ofQ roadsC [0, 0, 1] 0 n := by
  have h1 : (p.rules.xs.map Rul.er).getD n default = roadsC.rules.xs.getD n default := by rw [rd_rules hp]
  have h2 : n < p.rules.xs.length := by rw [rd_len hp]; exact hn
  rw [List.getD_eq_getElem?_getD, List.getElem?_map, List.getElem?_eq_getElem h2] at h1
  unfold ofQ
  rw [← h1, List.getD_eq_getElem?_getD, List.getElem?_eq_getElem h2]
  rfl
theorem rd_once : onceOf p pathsC 0 = ((rndF, true), 0) := by
  have hck : askR p pathsC = 0 := askR_iff.2 ⟨rd_check hp, checkFacts_ok.1 (by rw [rd_preds hp]; kernel_rfl)⟩
  unfold onceOf
  rw [if_neg (by rw [hck]; decide), rd_strata hp, rd_preds hp]
  have : toldL roadsC.preds.xs pathsC p.rules.xs (ofQ p [0, 0, 1] 0) = toldL roadsC.preds.xs pathsC roadsC.rules.xs (ofQ roadsC [0, 0, 1] 0) := by
    rw [← rd_rules hp, toldL_er]
    exact toldK_congr fun n hn => rd_ofQ hp n (by rw [rd_len hp] at hn; exact hn)
  rw [this]
  have : turnL roadsC.preds.xs pathsC (toldL roadsC.preds.xs pathsC roadsC.rules.xs (ofQ roadsC [0, 0, 1] 0)) = (rndF, true) := by kernel_rfl
  rw [this]
theorem rd_closed : closedOf p rndF = (false, 0) := by
  have hck : askR p rndF = 0 := askR_iff.2 ⟨rd_check hp, checkFacts_ok.1 (by rw [rd_preds hp]; kernel_rfl)⟩
  unfold closedOf closedB
  rw [if_neg (by rw [hck]; decide), rd_preds hp, ← toldL_er, rd_rules hp]
  have : ((toldL roadsC.preds.xs rndF roadsC.rules.xs fun _ => true).all fun t => underF roadsC.preds.xs [t.2] rndF) = false := by kernel_rfl
  rw [this]
/-- The roads' predicates with no rules. -/
theorem rd0_check : checkProg ⟨p.preds, ⟨none, 0, []⟩⟩ = 0 := by
  unfold checkProg
  simp only
  rw [rd_preds hp]
  rw [if_neg (by decide), if_neg (ne_true (show (roadsC.preds.xs.any fun x => !isName x.name) = false by kernel_rfl)), if_neg (ne_true (show twice roadsC.preds.xs = false by kernel_rfl)), if_neg (ne_true (show roadsC.preds.xs.any badArity = false by kernel_rfl)), if_neg (ne_true (show roadsC.preds.xs.any badKind = false by kernel_rfl)), if_neg (by rw [show rulesErr roadsC.preds.xs [] = 0 by kernel_rfl]; decide)]
  exact if_pos ⟨[0, 0, 0], ⟨rfl, fun i => by rw [show ([0, 0, 0] : List Int) = List.replicate 3 0 from rfl, lv_zero]; decide, fun c hc => by simp [usesL] at hc⟩⟩
theorem rd0_ask : askR ⟨p.preds, ⟨none, 0, []⟩⟩ pathsC = 0 := askR_iff.2 ⟨rd0_check hp, checkFacts_ok.1 (by show checkFacts p.preds.xs pathsC = 0; rw [rd_preds hp]; kernel_rfl)⟩
theorem rd0_once : onceOf ⟨p.preds, ⟨none, 0, []⟩⟩ pathsC 0 = ((pathsC, false), 0) := by
  unfold onceOf
  rw [if_neg (by rw [rd0_ask hp]; decide)]
  rfl
theorem rd0_closed : closedOf ⟨p.preds, ⟨none, 0, []⟩⟩ pathsC = (true, 0) := by
  unfold closedOf
  rw [if_neg (by rw [rd0_ask hp]; decide)]
  rfl
theorem rd0_in : (⟨p.preds, ⟨none, 0, []⟩⟩ : Prg).In h := ⟨hp.is.preds, ⟨fun i x hx => by simp at hx, by simp⟩, fun y hy => by simp at hy⟩
theorem rd0_nm : (⟨p.preds, ⟨none, 0, []⟩⟩ : Prg).Nm := fun x hx => rd_nm hp x hx
end
theorem Once_at (B : Base) (hB : B.ok) (p : Prg) (hp : p.In B.h) (hnm : p.Nm) (f : Sl Fct) (hf : Fcts f B.h) (st : Int) (r : (List Fct × Bool) × Int) (h : onceOf p f.xs st = r) : Fn Tryz.prog 7 [p.val, f.val, .int .i64 st] B (OnceR r) := h ▸ Once_ok B hB p hp hnm f hf st
theorem Closed_at (B : Base) (hB : B.ok) (p : Prg) (hp : p.In B.h) (hnm : p.Nm) (f : Sl Fct) (hf : Fcts f B.h) (r : Bool × Int) (h : closedOf p f.xs = r) : Fn Tryz.prog 19 [p.val, f.val] B (fun v _ => v = vBE r) := h ▸ Closed_ok B hB p hp hnm f hf
set_option maxHeartbeats 4000000 in
theorem roundBegun_ok (B : Base) (hB : B.ok) : Fn Tryz.prog 5 [] B (fun v _ => v = .bool true) := by
  refine Fn.of Tryz.func5 rfl Tryz.ntmps5 (by kernel_rfl) (by simp) ?_
  intro e
  have I := Inv.start hB
  refine WP.seq ?_
  refine WP.region ?_
  refine Ops.y (v := .bool _) (Y.assign rfl) ?_
  refine Ops.nil ?_
  refine WP.seq ?_
  refine WP.region ?_
  refine Ops.go (O.call I Tryz.call17 (roads_ok _ I.base_ok) rfl ?_)
  rintro _ h1 w I le1 ⟨p1, rfl, hp1⟩
  refine Ops.go (O.call I Tryz.call18 (paths_ok _ I.base_ok) rfl ?_)
  rintro _ h2 w I le2 ⟨s1, rfl, e1, i1⟩
  refine Ops.go (O.call I Tryz.call7 (Once_at _ I.base_ok p1 (hp1.is.le le2) (rd_nm hp1) s1 i1 0 ((rndF, true), 0) (by rw [e1]; exact rd_once hp1)) rfl ?_)
  rintro _ h3 w I le3 ⟨m1, rfl, em1, im1⟩
  refine Ops.y (v := .tuple #[_, _, _]) (Y.move rfl) ?_
  refine Ops.y (v := .slice _ _ _) (Y.extract rfl rfl) ?_
  refine Ops.y (v := .bool _) (Y.extract rfl rfl) ?_
  refine Ops.y (v := .int .i64 _) (Y.extract rfl rfl) ?_
  refine Ops.y (v := .slice _ _ _) (Y.assign rfl) ?_
  refine Ops.y (v := .bool _) (Y.assign rfl) ?_
  refine Ops.y (v := .int .i64 _) (Y.assign rfl) ?_
  refine Ops.nil ?_
  dsimp only at em1
  refine WP.seq ?_
  refine WP.region ?_
  refine Ops.go (O.call I Tryz.call17 (roads_ok _ I.base_ok) rfl ?_)
  rintro _ h4 w I le4 ⟨p2, rfl, hp2⟩
  refine Ops.y (v := .slice _ _ _) (Y.move rfl) ?_
  refine Ops.go (O.callv I Tryz.call19 (Closed_at _ I.base_ok p2 hp2.is (rd_nm hp2) m1 (im1.le le4) (false, 0) (by rw [em1]; exact rd_closed hp2)) rfl ?_)
  intro w I
  refine Ops.y (v := .tuple #[_, _]) (Y.move rfl) ?_
  refine Ops.y (v := .bool _) (Y.extract rfl rfl) ?_
  refine Ops.y (v := .int .i64 _) (Y.extract rfl rfl) ?_
  refine Ops.y (v := .bool _) (Y.assign rfl) ?_
  refine Ops.y (v := .int .i64 _) (Y.assign rfl) ?_
  refine Ops.nil ?_
  refine WP.seq ?_
  refine WP.region ?_
  refine Ops.go (O.call I Tryz.call17 (roads_ok _ I.base_ok) rfl ?_)
  rintro _ h5 w I le5 ⟨p3, rfl, hp3⟩
  refine Ops.y (v := .slice _ _ _) (Y.field fd_25_0 ty_22 rfl rfl rfl rfl) ?_
  refine Ops.y (v := .agg #[.slice _ _ _, .slice _ _ _]) (Y.build pl_25 Tryz.zeroValue25 rfl rfl) ?_
  refine Ops.go (O.call I Tryz.call18 (paths_ok _ I.base_ok) rfl ?_)
  rintro _ h6 w I le6 ⟨s3, rfl, e3, i3⟩
  refine Ops.go (O.call I Tryz.call7 (Once_at _ I.base_ok ⟨p3.preds, ⟨none, 0, []⟩⟩ (Prg.In.le (rd0_in hp3) le6) (rd0_nm hp3) s3 i3 0 ((pathsC, false), 0) (by rw [e3]; exact rd0_once hp3)) rfl ?_)
  rintro _ h7 w I le7 ⟨m3, rfl, em3, im3⟩
  refine Ops.y (v := .tuple #[_, _, _]) (Y.move rfl) ?_
  refine Ops.y (v := .slice _ _ _) (Y.extract rfl rfl) ?_
  refine Ops.y (v := .bool _) (Y.extract rfl rfl) ?_
  refine Ops.y (v := .int .i64 _) (Y.extract rfl rfl) ?_
  refine Ops.y (v := .slice _ _ _) (Y.assign rfl) ?_
  refine Ops.y (v := .bool _) (Y.assign rfl) ?_
  refine Ops.y (v := .int .i64 _) (Y.assign rfl) ?_
  refine Ops.nil ?_
  refine WP.seq ?_
  refine WP.region ?_
  refine Ops.go (O.call I Tryz.call17 (roads_ok _ I.base_ok) rfl ?_)
  rintro _ h8 w I le8 ⟨p4, rfl, hp4⟩
  refine Ops.y (v := .slice _ _ _) (Y.field fd_25_0 ty_22 rfl rfl rfl rfl) ?_
  refine Ops.y (v := .agg #[.slice _ _ _, .slice _ _ _]) (Y.build pl_25 Tryz.zeroValue25 rfl rfl) ?_
  refine Ops.go (O.call I Tryz.call18 (paths_ok _ I.base_ok) rfl ?_)
  rintro _ h9 w I le9 ⟨s4, rfl, e4, i4⟩
  refine Ops.go (O.callv I Tryz.call19 (Closed_at _ I.base_ok ⟨p4.preds, ⟨none, 0, []⟩⟩ (Prg.In.le (rd0_in hp4) le9) (rd0_nm hp4) s4 i4 (true, 0) (by rw [e4]; exact rd0_closed hp4)) rfl ?_)
  intro w I
  refine Ops.y (v := .tuple #[_, _]) (Y.move rfl) ?_
  refine Ops.y (v := .bool _) (Y.extract rfl rfl) ?_
  refine Ops.y (v := .int .i64 _) (Y.extract rfl rfl) ?_
  refine Ops.y (v := .bool _) (Y.assign rfl) ?_
  refine Ops.y (v := .int .i64 _) (Y.assign rfl) ?_
  refine Ops.nil ?_
  have n1 : m1.xs.length = 7 := by rw [em1]; rfl
  have g1 : m1.xs[4]? = some ⟨1, 0, 1, 1⟩ := by rw [em1]; rfl
  have im1 := ((((im1.le le4).le le5).le le6).le le7).le (le8.trans le9)
  have E1 := im1.el.el g1
  refine WP.seq ?_
  refine WP.region ?_
  refine Ops.y (v := .int .i64 _) (Y.move rfl) ?_
  refine Ops.y (v := .bool true) (Y.dec_t (Y.eqi rfl rfl) (rfl)) ?_
  refine Ops.y (v := .bool _) (Y.move rfl) ?_
  refine Ops.ygt rfl (v := .int .i64 _) (Y.move rfl) ?_
  refine Ops.ygt rfl (v := .bool true) (Y.dec_t (Y.eqi rfl rfl) (rfl)) ?_
  refine Ops.y (v := .bool _) (Y.pick_t rfl rfl) ?_
  refine Ops.y (v := .bool _) (Y.move rfl) ?_
  refine Ops.ygt rfl (v := .int .i64 _) (Y.move rfl) ?_
  refine Ops.ygt rfl (v := .bool true) (Y.dec_t (Y.eqi rfl rfl) (rfl)) ?_
  refine Ops.y (v := .bool _) (Y.pick_t rfl rfl) ?_
  refine Ops.y (v := .bool _) (Y.move rfl) ?_
  refine Ops.ygt rfl (v := .int .i64 _) (Y.move rfl) ?_
  refine Ops.ygt rfl (v := .bool true) (Y.dec_t (Y.eqi rfl rfl) (rfl)) ?_
  refine Ops.y (v := .bool _) (Y.pick_t rfl rfl) ?_
  refine Ops.y (v := .bool _) (Y.move rfl) ?_
  refine Ops.ygt rfl (v := .bool _) (Y.move rfl) ?_
  refine Ops.y (v := .bool _) (Y.pick_t rfl rfl) ?_
  refine Ops.y (v := .bool _) (Y.move rfl) ?_
  refine Ops.ygt rfl (v := .bool _) (Y.move rfl) ?_
  refine Ops.ygt rfl (v := .bool true) (Y.b (Y.not rfl) (rfl)) ?_
  refine Ops.y (v := .bool _) (Y.pick_t rfl rfl) ?_
  refine Ops.y (v := .bool _) (Y.move rfl) ?_
  refine Ops.ygt rfl (v := .bool _) (Y.move rfl) ?_
  refine Ops.ygt rfl (v := .bool true) (Y.b (Y.not rfl) (rfl)) ?_
  refine Ops.y (v := .bool _) (Y.pick_t rfl rfl) ?_
  refine Ops.y (v := .bool _) (Y.move rfl) ?_
  refine Ops.ygt rfl (v := .bool _) (Y.move rfl) ?_
  refine Ops.y (v := .bool _) (Y.pick_t rfl rfl) ?_
  refine Ops.y (v := .bool _) (Y.move rfl) ?_
  refine Ops.ygt rfl (v := .slice _ _ _) (Y.move rfl) ?_
  refine Ops.ygt rfl (v := .int .i64 _) (Y.lens Tryz.underlying26 rfl) ?_
  refine Ops.ygt rfl (v := .bool true) (Y.dec_t (Y.eqi rfl rfl) ((by rw [n1]; rfl))) ?_
  refine Ops.y (v := .bool _) (Y.pick_t rfl rfl) ?_
  refine Ops.y (v := .bool _) (Y.move rfl) ?_
  refine Ops.ygt rfl (v := .slice _ _ _) (Y.move rfl) ?_
  refine Ops.ygt rfl (v := .pointer (some ⟨_, _, none⟩)) (Y.idxEl E1 Tryz.underlying26 Tryz.sizeOf28 rfl rfl (by decide) rfl) ?_
  refine Ops.ygt rfl (v := .agg #[_, _, _, _]) (Y.loadv ty_28 rfl (I.rd (E1.rd.part 0 4)) rfl rfl) ?_
  refine Ops.ygt rfl (v := .agg #[.int .i64 _, .int .i64 _, .int .i64 _, .int .i64 _]) (Y.build pl_28 Tryz.zeroValue28 rfl rfl) ?_
  refine Ops.ygt rfl (v := .bool true) (Y.b (Y.eqst Tryz.eqGuardType28 (eq_28 _ _ _ _ _ _ _ _) rfl rfl) (rfl)) ?_
  refine Ops.y (v := .bool _) (Y.pick_t rfl rfl) ?_
  refine Ops.y (v := .bool _) (Y.assign rfl) ?_
  refine Ops.nil ?_
  refine WP.ret ?_
  repeat (first | refine thenE_ret ?_ | refine blockE_ret ?_)
  exact retQ.mk (vs := [.bool _]) rfl ⟨rfl, trivial⟩ I.ext_of (rfl)
end Go.TF
end
section
/- Arguments as they come in: what is read as data lies in memory as located data. -/
namespace Go.TF
open Go Go.RowKit Go.Proofs Go.Deep

def memH (W : World) : Heap := fun b => W.heap[b]?
theorem memH_cell {W : World} {b o : Nat} {v : Value} (h : W.cell? ⟨b, o, none⟩ = some v) : (memH W).cell b o = some v := by
  unfold World.cell? at h
  unfold Heap.cell memH
  split at h
  · rename_i c t f hb; rw [hb]; simpa using h
  · cases h
def Opens (P : Program) (T : TypeId) {α : Type} (enc : α → List Value) (In : α → Heap → Prop) : Prop :=
  ∀ (H : Type) (en : TypeId × Value → H) (W : World) (fuel : Nat) (cs : List Value) (x : DataW H × List MemPlace), DataW.trod en P W 0 (fun _ => true) true fuel T cs = some x → (∀ n ∈ x.1.weights P T, n ≤ reachBytes) → ∃ y : α, cs = enc y ∧ In y (memH W)
/-- A slice, its elements, and that there are not too many. -/
structure Sl.Ok {α : Type} (s : Sl α) (k b : Nat) (enc : α → List Value) (In : α → Heap → Prop) (h : Heap) : Prop where
  is : s.Is k enc h
  each : ∀ x ∈ s.xs, In x h
  cap : s.xs.length ≤ s.cap
  size : s.cap * b ≤ reachBytes
section
variable {P : Program} {T : TypeId}
theorem op_int (hT : P.underlying T = some (.int .i64)) : Opens P T (fun n : Int => [.int .i64 n]) (fun n _ => I64 n) := fun H en W fuel cs x h _ => by
  obtain ⟨n, rfl, _, hw⟩ := DataW.trod_int hT h
  refine ⟨n, rfl, ?_⟩
  simp only [Lit.wf, Bool.and_eq_true, decide_eq_true_eq] at hw
  have h1 : IntKind.i64.min = -9223372036854775808 := rfl
  have h2 : IntKind.i64.max = 9223372036854775807 := rfl
  exact ⟨by omega, by omega⟩
theorem op_bool (hT : P.underlying T = some .bool) : Opens P T (fun n : Bool => [.bool n]) (fun _ _ => True) := fun H en W fuel cs x h _ => by
  obtain ⟨n, rfl, _⟩ := DataW.trod_bool hT h
  exact ⟨n, rfl, trivial⟩
theorem op_string (hT : P.underlying T = some .string) : Opens P T (fun n : ByteArray => [.string n]) (fun s _ => s.size ≤ reachBytes) := fun H en W fuel cs x h hw => by
  obtain ⟨n, rfl, rfl, _⟩ := DataW.trod_string hT h
  refine ⟨n, rfl, ?_⟩
  have := hw n.data.toList.length (by simp [DataW.weights])
  simpa using this
theorem weightsAll_mem {H : Type} {e : TypeId} : ∀ {l : List (DataW H)} {d : DataW H}, d ∈ l → ∀ n ∈ d.weights P e, n ∈ DataW.weightsAll P e l
  | x :: l, d, hd, n, hn => by
    simp only [DataW.weightsAll]
    rcases List.mem_cons.1 hd with rfl | hd
    · exact List.mem_append_left _ hn
    · exact List.mem_append_right _ (weightsAll_mem hd n hn)
theorem op_slice {e k b : Nat} {α : Type} {enc : α → List Value} {In : α → Heap → Prop} (hT : P.underlying T = some (.slice e)) (hk : P.cellsOf e = k) (hb : P.bytesOf e = b) (hb0 : 0 < b) (hk0 : 0 < k) (he : Opens P e enc In) :
    Opens P T (fun s : Sl α => [s.val]) (fun s h => s.Ok k b enc In h) := fun H en W fuel cs x h hw => by
  rcases open_slice hT h with ⟨rfl, rfl⟩ | ⟨a, len, cap, m, n, D, Pl, rfl, _, hl, _, hmm, rfl, hall⟩
  · exact ⟨⟨none, 0, []⟩, rfl, ⟨⟨fun i x hx => by simp at hx, by simp⟩, fun x hx => by simp at hx, by simp, by simp [reachBytes]⟩⟩
  · simp only [if_true] at hmm
    subst hmm
    have hel : ∀ i, i < len → ∃ (y : α), W.cells? 0 (a.add (i * k)) k = some (enc y) ∧ In y (memH W) := fun i hi => by
      obtain ⟨cs', h1, h2⟩ := hall i (by omega)
      obtain ⟨y, rfl, hy⟩ := he H en W n cs' _ h2 fun q hq => hw q (by
        simp only [DataW.weights, hT]
        refine List.mem_cons_of_mem _ (List.mem_append_left _ (weightsAll_mem (d := D i) (List.mem_map.2 ⟨i, List.mem_range.2 hi, rfl⟩) q hq)))
      rw [hk] at h1
      exact ⟨y, h1, hy⟩
    have hsz : m * b ≤ reachBytes := by
      have := hw ((len + (m - len)) * b) (by simp [DataW.weights, hT, hb])
      rwa [show len + (m - len) = m by omega] at this
    have hm47 : m ≤ 140737488355328 := by
      have h1 : m ≤ m * b := Nat.le_mul_of_pos_right m hb0
      have h2 : reachBytes ≤ 140737488355328 := by decide
      omega
    have key : ∃ xs : List α, xs.length = len ∧ ∀ i y, xs[i]? = some y → W.cells? 0 (a.add (i * k)) k = some (enc y) ∧ In y (memH W) := by
      have : ∀ l, l ≤ len → ∃ xs : List α, xs.length = l ∧ ∀ i y, xs[i]? = some y → W.cells? 0 (a.add (i * k)) k = some (enc y) ∧ In y (memH W) := by
        intro l
        induction l with
        | zero => intro _; exact ⟨[], rfl, fun i y hy => by simp at hy⟩
        | succ l ih =>
          intro hl'
          obtain ⟨xs, h1, h2⟩ := ih (by omega)
          obtain ⟨y, h3⟩ := hel l (by omega)
          refine ⟨xs ++ [y], by simp [h1], fun i z hz => ?_⟩
          rw [List.getElem?_append] at hz
          split at hz
          · exact h2 i z hz
          · have : i = l := by
              have := (List.getElem?_eq_some_iff.1 hz).1
              simp at this; omega
            subst this
            simp [h1] at hz
            subst hz; exact h3
      exact this len (Nat.le_refl _)
    obtain ⟨xs, hxs, hx⟩ := key
    obtain ⟨ab, ao, spot⟩ := a
    have hspot : 0 < len → spot = none := fun h0 => by
      obtain ⟨y, h1, _⟩ := hel 0 h0
      obtain ⟨_, hlen, hc⟩ := World.cells?_some h1
      have hc0 := hc 0 hk0
      have : ∃ v, (enc y)[0]? = some v := ⟨(enc y)[0]'(by omega), by simp⟩
      obtain ⟨v, hv⟩ := this
      rw [hv] at hc0
      have := World.cell?_spot hc0
      simpa [Addr.add] using this
    refine ⟨⟨some ⟨ab, ao, spot⟩, m, xs⟩, by simp [Sl.val, hxs], ⟨⟨fun i y hy => ?_, by simp only [hxs]; omega⟩, fun y hy => ?_, by simp only [hxs]; omega, hsz⟩⟩
    · have hi : i < xs.length := (List.getElem?_eq_some_iff.1 hy).1
      have hs := hspot (by omega)
      subst hs
      refine ⟨rfl, fun j v hj => ?_⟩
      obtain ⟨_, hlen, hc⟩ := World.cells?_some (hx i y hy).1
      have hjk : j < k := by have := (List.getElem?_eq_some_iff.1 hj).1; omega
      have := hc j hjk
      rw [hj, addr_add, addr_add] at this
      exact memH_cell this
    · obtain ⟨i, hi, rfl⟩ := List.getElem_of_mem hy
      exact (hx i xs[i] (List.getElem?_eq_getElem hi)).2
theorem op_field {fs : Array Field} {H : Type} {en : TypeId × Value → H} {W : World} {fuel : Nat} {cs : List Value} {x : DataW H × List MemPlace} (hT : P.underlying T = some (.struct fs)) (h : DataW.trod en P W 0 (fun _ => true) true fuel T cs = some x) (hw : ∀ n ∈ x.1.weights P T, n ≤ reachBytes)
    {α : Type} {enc : α → List Value} {In : α → Heap → Prop} (i : Nat) {f : Field} (hf : fs[i]? = some f) {k : Nat} (hk : P.cellsOf f.type = k) (he : Opens P f.type enc In) : ∃ y : α, (cs.drop f.offset).take k = enc y ∧ In y (memH W) := by
  subst hk
  obtain ⟨xs, n, _, rfl, _, hlen, hfs⟩ := DataW.trod_struct hT h
  have hi : i < xs.length := by rw [hlen]; exact (Array.getElem?_eq_some_iff.1 hf).1
  have h1 := hfs i f hf
  rw [List.getElem?_eq_getElem hi] at h1
  refine he H en W n _ xs[i] h1 fun q hq => hw q ?_
  simp only [DataW.weights, hT]
  exact DataW.weights_mem_each (j := i) (t := f.type) (d := xs[i].1) (by simp [hf]) (by simp [hi]) q hq
theorem op_len {fs : Array Field} {H : Type} {en : TypeId × Value → H} {W : World} {fuel : Nat} {cs : List Value} {x : DataW H × List MemPlace} (hT : P.underlying T = some (.struct fs)) (h : DataW.trod en P W 0 (fun _ => true) true fuel T cs = some x) : cs.length = P.cellsOf T := by
  obtain ⟨xs, n, _, rfl, hl, _, _⟩ := DataW.trod_struct hT h
  exact hl
/-- From the argument's cells to its value. -/
theorem val_slice {W : World} {r : Go.Reach} {b0 e : Nat} {v w : Value} (hT : P.underlying T = some (.slice e)) (hval : Value.okWide P W r b0 T v) (hc : v.cells.toList = [w]) : v = w := by
  unfold Value.okWide at hval
  rw [hT] at hval
  simp only at hval
  cases v <;> simp_all [Value.cells, Cell.okWide, Cell.ok]
theorem val_struct {W : World} {r : Go.Reach} {b0 : Nat} {fs : Array Field} {v : Value} {cs : List Value} (hT : P.underlying T = some (.struct fs)) (hval : Value.okWide P W r b0 T v) (hc : v.cells.toList = cs) : v = .agg cs.toArray := by
  unfold Value.okWide at hval
  rw [hT] at hval
  obtain ⟨cs', rfl, _⟩ := hval
  subst hc; simp [Value.cells]
theorem weights_of {H : Type} {ts : List TypeId} {ds : List (DataW H)} (hz : (DataW.weightsEach P ts ds).all (· ≤ reachBytes) = true) (j : Nat) {t : TypeId} {d : DataW H} (ht : ts[j]? = some t) (hd : ds[j]? = some d) : ∀ n ∈ d.weights P t, n ≤ reachBytes := fun n hn => by
  have := List.all_eq_true.1 hz n (DataW.weights_mem_each ht hd n hn)
  simpa using this
end
theorem open_of {P : Program} {T : TypeId} {α : Type} {enc : α → List Value} {In : α → Heap → Prop} {H : Type} {en : TypeId × Value → H} {W : World} {v : Value} {d : DataW H} {ps : List MemPlace} (he : Opens P T enc In) (hd : DataW.Trod en P W 0 (fun _ => true) true T v d ps) (hw : ∀ n ∈ d.weights P T, n ≤ reachBytes) :
    ∃ y : α, v.cells.toList = enc y ∧ In y (memH W) := by
  obtain ⟨fuel, h⟩ := hd
  exact he H en W fuel _ _ h hw

/-! ### This program's types -/
theorem len2 {cs : List Value} (h : cs.length = 2) : ∃ c0 c1, cs = [c0, c1] := by
  match cs, h with
  | [c0, c1], _ => exact ⟨c0, c1, rfl⟩
theorem len3 {cs : List Value} (h : cs.length = 3) : ∃ c0 c1 c2, cs = [c0, c1, c2] := by
  match cs, h with
  | [c0, c1, c2], _ => exact ⟨c0, c1, c2, rfl⟩
theorem len4 {cs : List Value} (h : cs.length = 4) : ∃ c0 c1 c2 c3, cs = [c0, c1, c2, c3] := by
  match cs, h with
  | [c0, c1, c2, c3], _ => exact ⟨c0, c1, c2, c3, rfl⟩
theorem len5 {cs : List Value} (h : cs.length = 5) : ∃ c0 c1 c2 c3 c4, cs = [c0, c1, c2, c3, c4] := by
  match cs, h with
  | [c0, c1, c2, c3, c4], _ => exact ⟨c0, c1, c2, c3, c4, rfl⟩
def TrmOk (t : Trm) (_ : Heap) : Prop := I64 t.n
structure PrdOk (p : Prd) (_ : Heap) : Prop where
  name : p.name.size ≤ reachBytes
  arity : I64 p.arity
  kind : I64 p.kind
structure AtmOk (a : Atm) (h : Heap) : Prop where
  pred : I64 a.pred
  args : a.args.Ok 2 16 Trm.enc TrmOk h
def LtlOk (x : Ltl) (h : Heap) : Prop := AtmOk x.atom h
structure RulOk (r : Rul) (h : Heap) : Prop where
  head : AtmOk r.head h
  src : I64 r.src
  n : I64 r.n
  body : r.body.Ok 3 40 Ltl.enc LtlOk h
structure PrgOk (p : Prg) (h : Heap) : Prop where
  preds : p.preds.Ok 3 32 Prd.enc PrdOk h
  rules : p.rules.Ok 5 72 Rul.enc RulOk h
structure FctOk (x : Fct) (_ : Heap) : Prop where
  pred : I64 x.pred
  a : I64 x.a
  b : I64 x.b
  v : I64 x.v
structure VrsOk (x : Vrs) (_ : Heap) : Prop where
  x0 : I64 x.x0
  x1 : I64 x.x1
  x2 : I64 x.x2
structure StpOk (x : Stp) (h : Heap) : Prop where
  rule : I64 x.rule
  vars : VrsOk x.vars h
theorem AtmOk.in_ {a : Atm} {h : Heap} (x : AtmOk a h) : a.In h := x.args.is
theorem RulOk.in_ {r : Rul} {h : Heap} (x : RulOk r h) : r.In h := ⟨x.head.in_, x.body.is, fun y hy => AtmOk.in_ (x.body.each y hy)⟩
theorem PrgOk.in_ {p : Prg} {h : Heap} (x : PrgOk p h) : p.In h := ⟨x.preds.is, x.rules.is, fun y hy => (x.rules.each y hy).in_⟩
theorem op_Trm : Opens Tryz.prog 89 Trm.enc TrmOk := fun H en W fuel cs x h hw => by
  have hl := op_len Tryz.underlying89 h
  rw [show Tryz.prog.cellsOf 89 = 2 by kernel_rfl] at hl
  obtain ⟨y0, e0, g0⟩ := op_field Tryz.underlying89 h hw 0 rfl (k := 1) (by kernel_rfl) (op_bool Tryz.underlying4)
  obtain ⟨y1, e1, g1⟩ := op_field Tryz.underlying89 h hw 1 rfl (k := 1) (by kernel_rfl) (op_int Tryz.underlying3)
  obtain ⟨c0, c1, rfl⟩ := len2 hl
  replace e0 : [c0] = _ := e0
  replace e1 : [c1] = _ := e1
  simp only [List.cons.injEq, and_true] at e0 e1
  exact ⟨⟨y0, y1⟩, by simp [*], g1⟩
theorem op_SlTrm : Opens Tryz.prog 41 (fun s : Sl Trm => [s.val]) (fun s h => s.Ok 2 16 Trm.enc TrmOk h) := op_slice Tryz.underlying41 (by kernel_rfl) (by kernel_rfl) (by decide) (by decide) op_Trm
theorem op_Prd : Opens Tryz.prog 40 Prd.enc PrdOk := fun H en W fuel cs x h hw => by
  have hl := op_len Tryz.underlying40 h
  rw [show Tryz.prog.cellsOf 40 = 3 by kernel_rfl] at hl
  obtain ⟨y0, e0, g0⟩ := op_field Tryz.underlying40 h hw 0 rfl (k := 1) (by kernel_rfl) (op_string Tryz.underlying9)
  obtain ⟨y1, e1, g1⟩ := op_field Tryz.underlying40 h hw 1 rfl (k := 1) (by kernel_rfl) (op_int Tryz.underlying3)
  obtain ⟨y2, e2, g2⟩ := op_field Tryz.underlying40 h hw 2 rfl (k := 1) (by kernel_rfl) (op_int Tryz.underlying3)
  obtain ⟨c0, c1, c2, rfl⟩ := len3 hl
  replace e0 : [c0] = _ := e0
  replace e1 : [c1] = _ := e1
  replace e2 : [c2] = _ := e2
  simp only [List.cons.injEq, and_true] at e0 e1 e2
  exact ⟨⟨y0, y1, y2⟩, by simp [*], ⟨g0, g1, g2⟩⟩
theorem op_SlPrd : Opens Tryz.prog 22 (fun s : Sl Prd => [s.val]) (fun s h => s.Ok 3 32 Prd.enc PrdOk h) := op_slice Tryz.underlying22 (by kernel_rfl) (by kernel_rfl) (by decide) (by decide) op_Prd
theorem op_Atm : Opens Tryz.prog 43 Atm.enc AtmOk := fun H en W fuel cs x h hw => by
  have hl := op_len Tryz.underlying43 h
  rw [show Tryz.prog.cellsOf 43 = 2 by kernel_rfl] at hl
  obtain ⟨y0, e0, g0⟩ := op_field Tryz.underlying43 h hw 0 rfl (k := 1) (by kernel_rfl) (op_int Tryz.underlying3)
  obtain ⟨y1, e1, g1⟩ := op_field Tryz.underlying43 h hw 1 rfl (k := 1) (by kernel_rfl) (op_SlTrm)
  obtain ⟨c0, c1, rfl⟩ := len2 hl
  replace e0 : [c0] = _ := e0
  replace e1 : [c1] = _ := e1
  simp only [List.cons.injEq, and_true] at e0 e1
  exact ⟨⟨y0, y1⟩, by simp [*], ⟨g0, g1⟩⟩
theorem op_Ltl : Opens Tryz.prog 61 Ltl.enc LtlOk := fun H en W fuel cs x h hw => by
  have hl := op_len Tryz.underlying61 h
  rw [show Tryz.prog.cellsOf 61 = 3 by kernel_rfl] at hl
  obtain ⟨y0, e0, g0⟩ := op_field Tryz.underlying61 h hw 0 rfl (k := 1) (by kernel_rfl) (op_bool Tryz.underlying4)
  obtain ⟨y1, e1, g1⟩ := op_field Tryz.underlying61 h hw 1 rfl (k := 2) (by kernel_rfl) (op_Atm)
  obtain ⟨c0, c1, c2, rfl⟩ := len3 hl
  replace e0 : [c0] = _ := e0
  replace e1 : [c1, c2] = _ := e1
  simp only [List.cons.injEq, and_true] at e0 e1
  exact ⟨⟨y0, y1⟩, by simp [*], g1⟩
theorem op_SlLtl : Opens Tryz.prog 44 (fun s : Sl Ltl => [s.val]) (fun s h => s.Ok 3 40 Ltl.enc LtlOk h) := op_slice Tryz.underlying44 (by kernel_rfl) (by kernel_rfl) (by decide) (by decide) op_Ltl
theorem op_Rul : Opens Tryz.prog 46 Rul.enc RulOk := fun H en W fuel cs x h hw => by
  have hl := op_len Tryz.underlying46 h
  rw [show Tryz.prog.cellsOf 46 = 5 by kernel_rfl] at hl
  obtain ⟨y0, e0, g0⟩ := op_field Tryz.underlying46 h hw 0 rfl (k := 2) (by kernel_rfl) (op_Atm)
  obtain ⟨y1, e1, g1⟩ := op_field Tryz.underlying46 h hw 1 rfl (k := 1) (by kernel_rfl) (op_int Tryz.underlying3)
  obtain ⟨y2, e2, g2⟩ := op_field Tryz.underlying46 h hw 2 rfl (k := 1) (by kernel_rfl) (op_int Tryz.underlying3)
  obtain ⟨y3, e3, g3⟩ := op_field Tryz.underlying46 h hw 3 rfl (k := 1) (by kernel_rfl) (op_SlLtl)
  obtain ⟨c0, c1, c2, c3, c4, rfl⟩ := len5 hl
  replace e0 : [c0, c1] = _ := e0
  replace e1 : [c2] = _ := e1
  replace e2 : [c3] = _ := e2
  replace e3 : [c4] = _ := e3
  simp only [List.cons.injEq, and_true] at e0 e1 e2 e3
  exact ⟨⟨y0, y1, y2, y3⟩, by simp [*], ⟨g0, g1, g2, g3⟩⟩
theorem op_SlRul : Opens Tryz.prog 23 (fun s : Sl Rul => [s.val]) (fun s h => s.Ok 5 72 Rul.enc RulOk h) := op_slice Tryz.underlying23 (by kernel_rfl) (by kernel_rfl) (by decide) (by decide) op_Rul
theorem op_Prg : Opens Tryz.prog 25 Prg.enc PrgOk := fun H en W fuel cs x h hw => by
  have hl := op_len Tryz.underlying25 h
  rw [show Tryz.prog.cellsOf 25 = 2 by kernel_rfl] at hl
  obtain ⟨y0, e0, g0⟩ := op_field Tryz.underlying25 h hw 0 rfl (k := 1) (by kernel_rfl) (op_SlPrd)
  obtain ⟨y1, e1, g1⟩ := op_field Tryz.underlying25 h hw 1 rfl (k := 1) (by kernel_rfl) (op_SlRul)
  obtain ⟨c0, c1, rfl⟩ := len2 hl
  replace e0 : [c0] = _ := e0
  replace e1 : [c1] = _ := e1
  simp only [List.cons.injEq, and_true] at e0 e1
  exact ⟨⟨y0, y1⟩, by simp [*], ⟨g0, g1⟩⟩
theorem op_Fct : Opens Tryz.prog 28 Fct.enc FctOk := fun H en W fuel cs x h hw => by
  have hl := op_len Tryz.underlying28 h
  rw [show Tryz.prog.cellsOf 28 = 4 by kernel_rfl] at hl
  obtain ⟨y0, e0, g0⟩ := op_field Tryz.underlying28 h hw 0 rfl (k := 1) (by kernel_rfl) (op_int Tryz.underlying3)
  obtain ⟨y1, e1, g1⟩ := op_field Tryz.underlying28 h hw 1 rfl (k := 1) (by kernel_rfl) (op_int Tryz.underlying3)
  obtain ⟨y2, e2, g2⟩ := op_field Tryz.underlying28 h hw 2 rfl (k := 1) (by kernel_rfl) (op_int Tryz.underlying3)
  obtain ⟨y3, e3, g3⟩ := op_field Tryz.underlying28 h hw 3 rfl (k := 1) (by kernel_rfl) (op_int Tryz.underlying3)
  obtain ⟨c0, c1, c2, c3, rfl⟩ := len4 hl
  replace e0 : [c0] = _ := e0
  replace e1 : [c1] = _ := e1
  replace e2 : [c2] = _ := e2
  replace e3 : [c3] = _ := e3
  simp only [List.cons.injEq, and_true] at e0 e1 e2 e3
  exact ⟨⟨y0, y1, y2, y3⟩, by simp [*], ⟨g0, g1, g2, g3⟩⟩
theorem op_SlFct : Opens Tryz.prog 26 (fun s : Sl Fct => [s.val]) (fun s h => s.Ok 4 32 Fct.enc FctOk h) := op_slice Tryz.underlying26 (by kernel_rfl) (by kernel_rfl) (by decide) (by decide) op_Fct
end Go.TF
end
section
/- The laws of a round: each returns true. -/
namespace Go.TF
open Go Go.RowKit Go.Proofs
set_option maxRecDepth 20000

theorem PrgOk.nm3 {p : Prg} {h : Heap} (x : PrgOk p h) : p.Nm := fun y hy => by
  have := (x.preds.each y hy).1
  simp only [reachBytes] at this; omega
/-! ### RoundMore -/
end Go.TF
end
section
/- The model is closed, each of its facts is told, it is the least, and the order of the rules is nothing to it: plain. -/
namespace Go.TF
open Go

theorem mem_uses {rs : List Rul} {r : Rul} {x : Ltl} (hr : r ∈ rs) (hx : x ∈ r.body.xs) : (r.head.pred, x) ∈ usesL rs := by
  unfold usesL
  exact List.mem_flatMap.2 ⟨r, hr, List.mem_map.2 ⟨x, hx, rfl⟩⟩
def SameLv (M : List Int) (P : Int → Prop) (f g : List Fct) : Prop := ∀ y : Fct, PF y → P (lv M y.pred) → lkF f (placeF y) = lkF g (placeF y)
theorem isF_lv {M : List Int} {P : Int → Prop} {f g : List Fct} (h : SameLv M P f g) {y : Fct} (hy : PF y) (hp : P (lv M y.pred)) : isF f y = isF g y := by unfold isF; rw [h y hy hp]
theorem ng_ge (x : Ltl) : 0 ≤ ng x := by unfold ng; split <;> omega
theorem same_symm {M : List Int} {P : Int → Prop} {f g : List Fct} (h : SameLv M P f g) : SameLv M P g f := fun y a b => (h y a b).symm
theorem lit_lv {p : Prg} {M : List Int} (hM : Sol (usesL p.rules.xs) p.preds.xs.length M) {r : Rul} (hr : r ∈ p.rules.xs) {x : Ltl} (hx : x ∈ r.body.xs) : lv M x.atom.pred + ng x ≤ lv M r.head.pred := hM.sat _ (mem_uses hr hx)
theorem run_off {l : List Prd} {M : List Int} {st : Int} {y : Fct} (hy : PF y) (hl : lv M y.pred ≠ st) : ∀ (ts : List (Stp × Fct)) (s : List Fct × Bool), FOk l s.1 → (∀ t ∈ ts, factFine l t.2 = true) → (∀ t ∈ ts, lv M t.2.pred = st) → lkF (runL l s ts).1 (placeF y) = lkF s.1 (placeF y)
  | [], s, _, _, _ => rfl
  | t :: ts, s, hs, hf, ht => by
    have hx := hf t List.mem_cons_self
    have := run_off hy hl ts (putS l s t.2) (addF_fok hs hx) (fun u hu => hf u (List.mem_cons_of_mem _ hu)) fun u hu => ht u (List.mem_cons_of_mem _ hu)
    refine this.trans ?_
    show lkF (addL l s.1 t.2) (placeF y) = _
    rw [lkF_addL hs, if_neg]
    intro e
    have := (hy.inj (fine_pf hs.len hx) e).1
    exact hl (by rw [this]; exact ht t List.mem_cons_self)
theorem run_mem {l : List Prd} {y : Fct} : ∀ (ts : List (Stp × Fct)) (s : List Fct × Bool), y ∈ (runL l s ts).1 → (∃ z ∈ s.1, placeF z = placeF y) ∨ ∃ t ∈ ts, placeF t.2 = placeF y
  | [], s, h => .inl ⟨y, h, rfl⟩
  | t :: ts, s, h => by
    rcases run_mem ts (putS l s t.2) h with ⟨z, hz, e⟩ | ⟨u, hu, e⟩
    · rcases mem_addF hz with hz | rfl | ⟨y', hy', e', rfl⟩
      · exact .inl ⟨z, hz, e⟩
      · exact .inr ⟨t, List.mem_cons_self, e⟩
      · exact .inl ⟨y', hy', e⟩
    · exact .inr ⟨u, List.mem_cons_of_mem _ hu, e⟩
theorem fok_nil {l : List Prd} (h5 : l.length ≤ 5) (hp : ∀ p ∈ l, predFine p = true) : FOk l [] := ⟨h5, hp, fun x hx => by simp at hx, List.Pairwise.nil⟩
section
variable {p : Prg} {M : List Int} (rk : ∀ r ∈ p.rules.xs, ROk p.preds.xs r) (hM : Sol (usesL p.rules.xs) p.preds.xs.length M)
theorem ofQ_iff {s : Int} {n : Nat} {r : Rul} (hr : p.rules.xs[n]? = some r) : ofQ p M s n = true ↔ lv M r.head.pred = s := by
  unfold ofQ
  rw [List.getD_eq_getElem?_getD, hr, decide_eq_true_eq]
  rfl
theorem told_lv {f : List Fct} {s : Int} : ∀ t ∈ toldL p.preds.xs f p.rules.xs (ofQ p M s), lv M t.2.pred = s := fun t ht => by
  obtain ⟨n, r, hr, hq, hs, he⟩ := mem_told.1 ht
  rw [he]; exact (ofQ_iff hr).1 hq
include rk hM
/-- What holds ahead of a round holds behind it. -/
theorem holds_next {f g : List Fct} {s : Int} (hu : underF p.preds.xs f g = true) (hs : SameLv M (· < s) f g) {r : Rul} (hr : r ∈ p.rules.xs) (hl : lv M r.head.pred ≤ s) {x : Vrs} (hx : VsOk x) (h : holdsB f r x = true) : holdsB g r x = true := by
  unfold holdsB at *
  rw [List.all_eq_true] at *
  intro t ht
  have h1 := h t ht
  unfold litOk at h1 ⊢
  rw [decide_eq_true_eq] at h1 ⊢
  have hlv := lit_lv hM hr ht
  cases hn : t.neg
  · rw [hn] at h1
    have := isF_up hu (y := groundF t.atom x) (by simpa using h1)
    rw [this]; decide
  · rw [hn] at h1
    have hng : ng t = 1 := by unfold ng; rw [hn]; rfl
    have ao := aok_of (rk r hr).preds ((rk r hr).body t ht)
    have pf := ao.pf (rk r hr).five hx 0
    have e := isF_lv hs (y := groundF t.atom x) pf (show lv M t.atom.pred < s by omega)
    rw [← e]
    exact h1
theorem holds_same {f g : List Fct} {s : Int} (hs : SameLv M (· ≤ s) f g) {r : Rul} (hr : r ∈ p.rules.xs) (hl : lv M r.head.pred ≤ s) {x : Vrs} (hx : VsOk x) : holdsB f r x = holdsB g r x ∧ headF p.preds.xs f r x = headF p.preds.xs g r x := by
  have hlit : ∀ t ∈ r.body.xs, lkF f (placeF (groundF t.atom x)) = lkF g (placeF (groundF t.atom x)) := fun t ht => by
    have hlv := lit_lv hM hr ht
    have := ng_ge t
    have ao := aok_of (rk r hr).preds ((rk r hr).body t ht)
    exact hs _ (ao.pf (rk r hr).five hx 0) (show lv M t.atom.pred ≤ s by omega)
  constructor
  · unfold holdsB
    rw [Bool.eq_iff_iff, List.all_eq_true, List.all_eq_true]
    have key : ∀ t ∈ r.body.xs, litOk f x t = litOk g x t := fun t ht => by unfold litOk isF; rw [hlit t ht]
    exact ⟨fun h t ht => (key t ht) ▸ h t ht, fun h t ht => (key t ht).symm ▸ h t ht⟩
  · unfold headF headV
    by_cases h0 : 0 ≤ r.src
    · rw [if_pos h0, if_pos h0, hlit _ (litOf_mem ⟨h0, (rk r hr).src.2⟩)]
    · rw [if_neg h0, if_neg h0]
theorem steps_same {f g : List Fct} {s : Int} (hs : SameLv M (· ≤ s) f g) {r : Rul} (hr : r ∈ p.rules.xs) (hl : lv M r.head.pred ≤ s) (n : Int) : ∀ x, x ∈ stepsF f n r → x ∈ stepsF g n r := fun x hx => by
  unfold stepsF at *
  obtain ⟨v, hv, e⟩ := List.mem_map.1 hx
  obtain ⟨h1, h2⟩ := List.mem_filter.1 hv
  refine List.mem_map.2 ⟨v, List.mem_filter.2 ⟨h1, ?_⟩, e⟩
  rw [← (holds_same rk hM hs hr hl (mem_vecs.1 h1)).1]
  exact h2
theorem told_same {f g : List Fct} {s : Int} (hs : SameLv M (· ≤ s) f g) : ∀ t, t ∈ toldL p.preds.xs f p.rules.xs (ofQ p M s) → t ∈ toldL p.preds.xs g p.rules.xs (ofQ p M s) := fun t ht => by
  obtain ⟨n, r, hr, hq, hst, he⟩ := mem_told.1 ht
  have hrm := List.mem_of_getElem? hr
  have hl := (ofQ_iff hr).1 hq
  refine mem_told.2 ⟨n, r, hr, hq, steps_same rk hM hs hrm (Int.le_of_eq hl) n _ hst, ?_⟩
  rw [he]
  exact (holds_same rk hM hs hrm (Int.le_of_eq hl) (steps_holds hst).2.1).2
theorem turn_still {f g : List Fct} {s : Int} (okf : FOk p.preds.xs f) (okg : FOk p.preds.xs g) (hs : SameLv M (· ≤ s) f g) (h : (turnT p M s f).2 = false) : (turnT p M s g).2 = false := by
  unfold turnT at *
  rw [turn_no okf (told_fine rk okf)] at h
  rw [turn_no okg (told_fine rk okg)]
  intro t ht
  have ht' := told_same rk hM (same_symm hs) t ht
  have h1 := h t ht'
  have hfine := told_fine rk okf t ht'
  rw [underF_iff] at h1 ⊢
  intro z hz
  obtain ⟨v, k1, k2⟩ := h1 z hz
  rw [List.mem_singleton.1 hz] at k1 k2 ⊢
  exact ⟨v, by rw [← hs _ (fine_pf okf.len hfine) (Int.le_of_eq (told_lv t ht'))]; exact k1, k2⟩
/-- A fact that is told. -/
def TldF (p : Prg) (f : List Fct) (y : Fct) : Prop := ∃ (n : Nat) (r : Rul) (x : Vrs), p.rules.xs[n]? = some r ∧ VsOk x ∧ stdOk r x = true ∧ holdsB f r x = true ∧ placeF (headF p.preds.xs f r x) = placeF y
structure MJ (p : Prg) (M : List Int) (k : Nat) (f : List Fct) : Prop where
  fok : FOk p.preds.xs f
  still : ∀ s : Nat, s < k → (turnT p M s f).2 = false
  lev : ∀ y ∈ f, lv M y.pred ≤ k
  told : ∀ y ∈ f, TldF p f y
theorem mj_next {k : Nat} {f : List Fct} (j : MJ p M k f) : MJ p M k (turnT p M k f).1 := by
  have tf := told_fine (q := ofQ p M k) rk j.fok
  have tl := told_lv (p := p) (M := M) (f := f) (s := k)
  have hu : underF p.preds.xs f (turnT p M k f).1 = true := turn_above j.fok tf
  have okg : FOk p.preds.xs (turnT p M k f).1 := turn_fok j.fok tf
  have hoff : SameLv M (· ≠ (k : Int)) f (turnT p M k f).1 := fun y hy hl => (run_off hy hl _ (f, false) j.fok tf tl).symm
  have hlt : SameLv M (· < (k : Int)) f (turnT p M k f).1 := fun y hy hl => hoff y hy (Int.ne_of_lt hl)
  have hold : ∀ y, TldF p f y → lv M y.pred ≤ k → PF y → TldF p (turnT p M k f).1 y := fun y ⟨n, r, x, h1, h2, h3, h4, h5⟩ hl hy => by
    have hrm := List.mem_of_getElem? h1
    have hp1 : (headF p.preds.xs f r x).pred = y.pred := ((fine_pf j.fok.len (headF_fine (rk r hrm) j.fok h2 h4)).inj hy h5).1
    exact ⟨n, r, x, h1, h2, h3, holds_next rk hM hu hlt hrm (by rw [show r.head.pred = y.pred from hp1]; exact hl) h2 h4, h5⟩
  have hmem : ∀ y ∈ (turnT p M k f).1, lv M y.pred ≤ k ∧ TldF p (turnT p M k f).1 y := fun y hy => by
    have hyf := fine_pf okg.len (okg.fine y hy)
    rcases run_mem _ (f, false) hy with ⟨z, hz, e⟩ | ⟨t, ht, e⟩
    · have hzp : z.pred = y.pred := ((fine_pf j.fok.len (j.fok.fine z hz)).inj hyf e).1
      have hl := j.lev z hz
      obtain ⟨n, r, x, h1, h2, h3, h4, h5⟩ := hold z (j.told z hz) hl (fine_pf j.fok.len (j.fok.fine z hz))
      exact ⟨hzp ▸ hl, n, r, x, h1, h2, h3, h4, h5.trans e⟩
    · have htp : t.2.pred = y.pred := ((fine_pf j.fok.len (tf t ht)).inj hyf e).1
      have hl := tl t ht
      obtain ⟨n, r, hr, hq, hs, he⟩ := mem_told.1 ht
      unfold stepsF at hs
      obtain ⟨v, hv, ev⟩ := List.mem_map.1 hs
      obtain ⟨v1, v2⟩ := List.mem_filter.1 hv
      rw [Bool.and_eq_true] at v2
      have hvv : t.1.vars = v := by rw [← ev]
      rw [hvv] at he
      obtain ⟨n', r', x', h1, h2, h3, h4, h5⟩ := hold t.2 ⟨n, r, v, hr, mem_vecs.1 v1, v2.1, v2.2, by rw [he]⟩ (Int.le_of_eq hl) (fine_pf j.fok.len (tf t ht))
      exact ⟨by rw [← htp]; exact Int.le_of_eq hl, n', r', x', h1, h2, h3, h4, h5.trans e⟩
  refine ⟨okg, fun s hs => ?_, fun y hy => (hmem y hy).1, fun y hy => (hmem y hy).2⟩
  exact turn_still rk hM j.fok okg (fun y hy hl => hoff y hy (by omega)) (j.still s hs)
theorem modK_mj (h0 : FOk p.preds.xs []) : ∀ {k : Nat} {f : List Fct} {rs : List Int}, ModK p M k f rs → MJ p M k f
  | 0, f, _, ⟨h, _⟩ => by subst h; exact ⟨h0, fun s hs => by omega, fun y hy => by simp at hy, fun y hy => by simp at hy⟩
  | k + 1, f, _, ⟨f0, r0, n, a, b, _⟩ => by
    have j := modK_mj h0 a
    have j2 : MJ p M k f := b.inv (J := MJ p M k) j fun g hg _ => mj_next rk hM hg
    refine ⟨j2.fok, fun s hs => ?_, fun y hy => by have := j2.lev y hy; omega, j2.told⟩
    rcases Nat.lt_succ_iff_lt_or_eq.1 hs with h | rfl
    · exact j2.still s h
    · exact b.end_
end
/-! ### In whatever order -/
end Go.TF
end
section
/- The laws of a round, the other two: each returns true. -/
namespace Go.TF
open Go Go.RowKit Go.Proofs
set_option maxRecDepth 20000

def sumN (L : List Int) : Nat := (L.map Int.toNat).sum
theorem sum_min : ∀ (L M : List Int), L.length = M.length → (∀ x ∈ L, 0 ≤ x) → (∀ x ∈ M, 0 ≤ x) → sumN (List.zipWith min L M) ≤ sumN L ∧ (sumN (List.zipWith min L M) = sumN L → ∀ (j : Nat) (h1 : j < L.length) (h2 : j < M.length), L[j] ≤ M[j])
  | [], _, _, _, _ => ⟨by simp [sumN], fun _ j h1 => by simp at h1⟩
  | _ :: _, [], h, _, _ => by simp at h
  | a :: L, b :: M, h, hp, hp2 => by
    obtain ⟨i1, i2⟩ := sum_min L M (by simpa using h) (fun x hx => hp x (List.mem_cons_of_mem _ hx)) fun x hx => hp2 x (List.mem_cons_of_mem _ hx)
    have hb := hp2 b List.mem_cons_self
    have ha := hp a List.mem_cons_self
    have e1 : sumN (List.zipWith min (a :: L) (b :: M)) = (min a b).toNat + sumN (List.zipWith min L M) := by simp [sumN]
    have e2 : sumN (a :: L) = a.toNat + sumN L := by simp [sumN]
    rw [e1, e2]
    refine ⟨by omega, fun e j h1 h2 => ?_⟩
    cases j with
    | zero => show a ≤ b; omega
    | succ j => exact i2 (by omega) j (by simpa using h1) (by simpa using h2)
theorem least_ex {cs : List (Int × Ltl)} {n : Nat} {M0 : List Int} (h0 : Sol cs n M0) : ∃ L, Least cs n L := by
  have hmin : ∀ k : Nat, ∀ L, Sol cs n L → sumN L = k → ∃ L, Sol cs n L ∧ ∀ M, Sol cs n M → sumN L ≤ sumN M := by
    intro k
    induction k using Nat.strongRecOn with
    | ind k ih =>
      intro L hL hk
      by_cases hx : ∃ M, Sol cs n M ∧ sumN M < k
      · obtain ⟨M, hM, hlt⟩ := hx
        exact ih _ hlt M hM rfl
      · refine ⟨L, hL, fun M hM => ?_⟩
        rcases Nat.lt_or_ge (sumN M) k with h | h
        · exact absurd ⟨M, hM, h⟩ hx
        · omega
  obtain ⟨L, hL, hm⟩ := hmin _ M0 h0 rfl
  refine ⟨L, hL, fun M hM i => ?_⟩
  have hlv : ∀ i, lv (List.zipWith min L M) i = min (lv L i) (lv M i) := fun i => by
    simp only [lv, List.getD_eq_getElem?_getD, List.getElem?_zipWith]
    by_cases hi : i.toNat < n
    · rw [List.getElem?_eq_getElem (by rw [hL.len]; exact hi), List.getElem?_eq_getElem (by rw [hM.len]; exact hi)]; rfl
    · rw [List.getElem?_eq_none (by rw [hL.len]; omega), List.getElem?_eq_none (by rw [hM.len]; omega)]; rfl
  have hS : Sol cs n (List.zipWith min L M) := by
    refine ⟨by rw [List.length_zipWith, hL.len, hM.len, Nat.min_self], fun i => ?_, fun c hc => ?_⟩
    · rw [hlv]; have := hL.pos i; have := hM.pos i; omega
    · have h1 := hL.sat c hc
      have h2 := hM.sat c hc
      unfold SatC lst at *
      rw [hlv, hlv]; omega
  have hnn : ∀ K, Sol cs n K → ∀ x ∈ K, 0 ≤ x := fun K hK x hx => by
    obtain ⟨j, hj, rfl⟩ := List.getElem_of_mem hx
    have := hK.pos j
    rw [lv_get hj] at this; exact this
  obtain ⟨s1, s2⟩ := sum_min L M (hL.len.trans hM.len.symm) (hnn L hL) (hnn M hM)
  have := s2 (Nat.le_antisymm s1 (hm _ hS))
  by_cases hi : i.toNat < n
  · simp only [lv, List.getD_eq_getElem?_getD]
    rw [List.getElem?_eq_getElem (by rw [hL.len]; exact hi), List.getElem?_eq_getElem (by rw [hM.len]; exact hi)]
    exact this _ _ _
  · simp only [lv, List.getD_eq_getElem?_getD]
    rw [List.getElem?_eq_none (by rw [hL.len]; omega), List.getElem?_eq_none (by rw [hM.len]; omega)]; exact Int.le_refl _
theorem strataM_least {p : Prg} (h : checkProg p = 0) : Least (usesL p.rules.xs) p.preds.xs.length (strataM p) := by
  obtain ⟨_, _, _, M, hM⟩ := checkProg_ok h
  obtain ⟨L, hL⟩ := least_ex hM
  rw [strataM_eq hL]; exact hL
end Go.TF
end
section
/- What a right program's predicates and rules are: plain. -/
namespace Go.TF
open Go

theorem chk_preds {p : Prg} (h : checkProg p = 0) : ∀ x ∈ p.preds.xs, predFine x = true := by
  unfold checkProg at h
  split at h
  · cases h
  split at h
  · cases h
  split at h
  · cases h
  split at h
  · cases h
  split at h
  · cases h
  rename_i h1 h2 h3 h4 h5
  intro x hx
  have a : badArity x ≠ true := fun e => h4 (List.any_eq_true.2 ⟨x, hx, e⟩)
  have b : badKind x ≠ true := fun e => h5 (List.any_eq_true.2 ⟨x, hx, e⟩)
  simp only [badArity, badKind, ne_eq, decide_eq_true_eq, not_or, Int.not_lt] at a b
  simp only [predFine, decide_eq_true_eq]
  omega
theorem chk_rok {p : Prg} (h : checkProg p = 0) : ∀ r ∈ p.rules.xs, ROk p.preds.xs r := fun r hr => rok_of (checkProg_ok h).1 (chk_preds h) (rulesErr_zero.1 (checkProg_ok h).2.2.1 r hr)
theorem chk_heads {p : Prg} (h : checkProg p = 0) : ∀ r ∈ p.rules.xs, 0 ≤ r.head.pred ∧ r.head.pred < p.preds.xs.length := fun r hr => (aok_of (chk_preds h) (chk_rok h r hr).head).pred
end Go.TF
end
section
/- A program of some of another's rules: right too, no stratum greater; what is needed follows alike: plain. -/
namespace Go.TF
open Go

theorem chk_nil {p : Prg} (h : checkProg p = 0) : FOk p.preds.xs [] := fok_nil (checkProg_ok h).1 (chk_preds h)
theorem sol_sub {rs rs' : List Rul} {n : Nat} {K : List Int} (hR : ∀ r, r ∈ rs' → r ∈ rs) (h : Sol (usesL rs) n K) : Sol (usesL rs') n K := ⟨h.len, h.pos, fun c hc => by
  unfold usesL at hc
  obtain ⟨r, hr, hc⟩ := List.mem_flatMap.1 hc
  obtain ⟨x, hx, rfl⟩ := List.mem_map.1 hc
  exact h.sat _ (mem_uses (hR r hr) hx)⟩
/-- No stratum is greater. -/
theorem strata_sub {p q : Prg} (hp : q.preds.xs = p.preds.xs) (hR : ∀ r, r ∈ q.rules.xs → r ∈ p.rules.xs) (h : checkProg p = 0) (h2 : checkProg q = 0) (i : Int) : lv (strataM q) i ≤ lv (strataM p) i :=
  (strataM_least h2).least _ (by rw [hp]; exact sol_sub hR (strataM_least h).sol) i
theorem most_sub {K M : List Int} (hl : K.length = M.length) (h : ∀ i, lv K i ≤ lv M i) : mostL K ≤ mostL M := by
  rcases mostL_of K with e | e
  · rw [e]; exact mostL_ge M
  · obtain ⟨j, hj, e⟩ := List.getElem_of_mem e
    have h1 := h j
    rw [lv_get hj, lv_get (hl ▸ hj), e] at h1
    exact Int.le_trans h1 (mostL_mem (List.getElem_mem _))
/-! ### Only what is needed -/
section
variable {l : List Prd} {N : List Bool}
def nd (N : List Bool) (x : Fct) : Bool := bv N x.pred
theorem addF_front {k : Int} {x : Fct} : ∀ {g : List Fct}, (∀ z ∈ g, placeF x < placeF z) → (addF k g x).1 = x :: g
  | [], _ => rfl
  | z :: g, h => by
    have := h z List.mem_cons_self
    rw [addF, if_neg (by omega), if_pos this]
theorem nd_add {k : Int} {x : Fct} : ∀ {f : List Fct}, SrtF f → (∀ y ∈ f, placeF y = placeF x → y.pred = x.pred) → (addF k f x).1.filter (nd N) = if nd N x = true then (addF k (f.filter (nd N)) x).1 else f.filter (nd N)
  | [], _, _ => by
    rw [addF]
    cases h : nd N x <;> simp [h, addF]
  | y :: r, hs, hx => by
    obtain ⟨s1, s2⟩ := List.pairwise_cons.1 hs
    have ih := nd_add (k := k) (x := x) s2 fun z hz => hx z (List.mem_cons_of_mem _ hz)
    rw [addF]
    split
    · rename_i e
      have hp := hx y List.mem_cons_self e
      have hy : nd N y = nd N x := by unfold nd; rw [hp]
      have hy2 : nd N (⟨y.pred, y.a, y.b, joinV k y.v x.v⟩ : Fct) = nd N x := hy
      cases h : nd N x
      · simp [hy, hy2, h]
      · rw [List.filter_cons, if_pos (by rw [hy2, h]), if_pos rfl, List.filter_cons, if_pos (by rw [hy, h]), addF, if_pos e]
    · rename_i e
      split
      · rename_i e2
        cases h : nd N x
        · simp [h]
        · rw [List.filter_cons, if_pos h, if_pos rfl, addF_front]
          intro z hz
          obtain ⟨hz, _⟩ := List.mem_filter.1 hz
          rcases List.mem_cons.1 hz with rfl | hz
          · exact e2
          · exact Int.lt_trans e2 (s1 z hz)
      · rename_i e2
        show (y :: (addF k r x).1).filter _ = _
        rw [List.filter_cons, ih]
        cases h : nd N x
        · simp only [Bool.false_eq_true, if_false]
          rw [List.filter_cons]
        · simp only [if_true]
          cases hy : nd N y
          · simp [hy]
          · rw [if_pos rfl, List.filter_cons, if_pos hy, addF, if_neg e, if_neg e2]
theorem nd_fok {f : List Fct} (h : FOk l f) : FOk l (f.filter (nd N)) := ⟨h.len, h.preds, fun x hx => h.fine x (List.mem_filter.1 hx).1, h.srt.sublist List.filter_sublist⟩
theorem nd_look {f : List Fct} (h : FOk l f) {y : Fct} (hy : PF y) (hn : nd N y = true) : lkF (f.filter (nd N)) (placeF y) = lkF f (placeF y) := by
  have ho := nd_fok (N := N) h
  cases hl : lkF f (placeF y) with
  | none =>
    refine lkF_none.2 fun z hz => lkF_none.1 hl z (List.mem_filter.1 hz).1
  | some v =>
    obtain ⟨z, hz, e, ev⟩ := lkF_mem hl
    refine (lkF_some ho.srt).2 ⟨z, List.mem_filter.2 ⟨hz, ?_⟩, e, ev⟩
    have := ((fine_pf h.len (h.fine z hz)).inj hy e).1
    unfold nd at hn ⊢
    rw [this]; exact hn
theorem nd_run : ∀ (ts : List (Stp × Fct)) (s : List Fct × Bool), FOk l s.1 → (∀ t ∈ ts, factFine l t.2 = true) → ∀ b, (runL l s ts).1.filter (nd N) = (runL l (s.1.filter (nd N), b) (ts.filter fun t => nd N t.2)).1
  | [], s, _, _, b => rfl
  | t :: ts, s, hs, hf, b => by
    have hx := hf t List.mem_cons_self
    have ih := nd_run ts (putS l s t.2) (addF_fok hs hx) fun u hu => hf u (List.mem_cons_of_mem _ hu)
    have hadd := nd_add (N := N) (k := (predOf l t.2.pred).kind) (x := t.2) hs.srt fun y hy e => same_pred hs.len (hs.fine y hy) hx e
    show (runL l (putS l s t.2) ts).1.filter _ = _
    cases h : nd N t.2
    · rw [List.filter_cons, if_neg (by rw [h]; decide), ih b]
      rw [h] at hadd
      rw [show (putS l s t.2).1.filter (nd N) = s.1.filter (nd N) from hadd]
    · rw [List.filter_cons, if_pos h]
      rw [h] at hadd
      show _ = (runL l (putS l (s.1.filter (nd N), b) t.2) _).1
      rw [ih (putS l (s.1.filter (nd N), b) t.2).2]
      rw [show (putS l s t.2).1.filter (nd N) = (putS l (s.1.filter (nd N), b) t.2).1 from hadd]
end
structure Only (p q : Prg) (N : List Bool) : Prop where
  preds : q.preds.xs = p.preds.xs
  rules : ∀ r, r ∈ q.rules.xs ↔ r ∈ p.rules.xs ∧ bv N r.head.pred = true
  cp : checkProg p = 0
  cq : checkProg q = 0
  closed : ClosedN (usesL p.rules.xs) N
section
variable {p q : Prg} {N : List Bool} (o : Only p q N)
include o
theorem Only.sub : ∀ r, r ∈ q.rules.xs → r ∈ p.rules.xs := fun r hr => ((o.rules r).1 hr).1
theorem Only.body {r : Rul} (hr : r ∈ p.rules.xs) (hn : bv N r.head.pred = true) {x : Ltl} (hx : x ∈ r.body.xs) : bv N x.atom.pred = true := o.closed _ (mem_uses hr hx) hn
theorem Only.lv {i : Int} (hn : bv N i = true) : lv (strataM q) i = lv (strataM p) i := by
  have hle := strata_sub o.preds o.sub o.cp o.cq
  refine Int.le_antisymm (hle i) ?_
  have hLp := strataM_least o.cp
  have hLq := strataM_least o.cq
  rw [o.preds] at hLq
  have hcomb : ∃ L : List Int, L.length = p.preds.xs.length ∧ ∀ i, Go.TF.lv L i = if bv N i = true then Go.TF.lv (strataM q) i else Go.TF.lv (strataM p) i := by
    refine ⟨(List.range p.preds.xs.length).map fun (j : Nat) => if bv N j = true then Go.TF.lv (strataM q) j else Go.TF.lv (strataM p) j, by simp, fun i => ?_⟩
    have hbv : bv N i = bv N (i.toNat : Int) := rfl
    have hlq : Go.TF.lv (strataM q) i = Go.TF.lv (strataM q) (i.toNat : Int) := rfl
    have hlp : Go.TF.lv (strataM p) i = Go.TF.lv (strataM p) (i.toNat : Int) := rfl
    rw [hbv, hlq, hlp]
    show (List.map _ _).getD i.toNat 0 = _
    generalize i.toNat = j
    by_cases hi : j < p.preds.xs.length
    · rw [List.getD_eq_getElem?_getD, List.getElem?_map, List.getElem?_range hi]; rfl
    · have e1 : Go.TF.lv (strataM q) (j : Int) = 0 := by unfold Go.TF.lv; rw [List.getD_eq_getElem?_getD, List.getElem?_eq_none (by rw [hLq.sol.len, Int.toNat_natCast]; omega)]; rfl
      have e2 : Go.TF.lv (strataM p) (j : Int) = 0 := by unfold Go.TF.lv; rw [List.getD_eq_getElem?_getD, List.getElem?_eq_none (by rw [hLp.sol.len, Int.toNat_natCast]; omega)]; rfl
      rw [e1, e2, List.getD_eq_getElem?_getD, List.getElem?_eq_none (by rw [List.length_map, List.length_range]; omega)]
      split <;> rfl
  obtain ⟨L, h1, h2⟩ := hcomb
  have hS : Sol (usesL p.rules.xs) p.preds.xs.length L := by
    refine ⟨h1, fun i => ?_, fun c hc => ?_⟩
    · rw [h2]; split
      · exact hLq.sol.pos i
      · exact hLp.sol.pos i
    · unfold usesL at hc
      obtain ⟨r, hr, hc⟩ := List.mem_flatMap.1 hc
      obtain ⟨x, hx, rfl⟩ := List.mem_map.1 hc
      unfold SatC lst
      dsimp only
      rw [h2, h2]
      by_cases hn : bv N r.head.pred = true
      · rw [if_pos hn, if_pos (o.body hr hn hx)]
        exact hLq.sol.sat _ (mem_uses ((o.rules r).2 ⟨hr, hn⟩) hx)
      · rw [if_neg hn]
        have h3 := hLp.sol.sat _ (mem_uses hr hx)
        unfold SatC lst at h3
        dsimp only at h3
        split
        · have := hle x.atom.pred; omega
        · exact h3
  have := hLp.least L hS i
  rw [h2, if_pos hn] at this
  exact this
theorem Only.hold {f : List Fct} (okf : FOk p.preds.xs f) {r : Rul} (hr : r ∈ p.rules.xs) (hn : bv N r.head.pred = true) {x : Vrs} (hx : VsOk x) : holdsB (f.filter (nd N)) r x = holdsB f r x ∧ headF p.preds.xs (f.filter (nd N)) r x = headF p.preds.xs f r x := by
  have rk := chk_rok o.cp
  have hlit : ∀ t ∈ r.body.xs, lkF (f.filter (nd N)) (placeF (groundF t.atom x)) = lkF f (placeF (groundF t.atom x)) := fun t ht => by
    have ao := aok_of (rk r hr).preds ((rk r hr).body t ht)
    exact nd_look okf (ao.pf (rk r hr).five hx 0) (o.body hr hn ht)
  constructor
  · unfold holdsB
    rw [Bool.eq_iff_iff, List.all_eq_true, List.all_eq_true]
    have key : ∀ t ∈ r.body.xs, litOk (f.filter (nd N)) x t = litOk f x t := fun t ht => by unfold litOk isF; rw [hlit t ht]
    exact ⟨fun h t ht => (key t ht) ▸ h t ht, fun h t ht => (key t ht).symm ▸ h t ht⟩
  · unfold headF headV
    by_cases h0 : 0 ≤ r.src
    · rw [if_pos h0, if_pos h0, hlit _ (litOf_mem ⟨h0, (rk r hr).src.2⟩)]
    · rw [if_neg h0, if_neg h0]
theorem Only.told {f : List Fct} (okf : FOk p.preds.xs f) (s : Int) (y : Fct) : (∃ t ∈ toldL q.preds.xs (f.filter (nd N)) q.rules.xs (ofQ q (strataM q) s), t.2 = y) ↔ ∃ t ∈ toldL p.preds.xs f p.rules.xs (ofQ p (strataM p) s), t.2 = y ∧ nd N y = true := by
  constructor
  · rintro ⟨t, ht, rfl⟩
    obtain ⟨n, r, hr, hq, hs, he⟩ := mem_told.1 ht
    obtain ⟨hrp, hn⟩ := (o.rules r).1 (List.mem_of_getElem? hr)
    obtain ⟨m, hm, em⟩ := List.getElem_of_mem hrp
    have hm' : p.rules.xs[m]? = some r := by rw [List.getElem?_eq_getElem hm, em]
    have hlv := (ofQ_iff hr).1 hq
    rw [o.lv hn] at hlv
    unfold stepsF at hs
    obtain ⟨v, hv, ev⟩ := List.mem_map.1 hs
    obtain ⟨v1, v2⟩ := List.mem_filter.1 hv
    have hh := o.hold okf hrp hn (mem_vecs.1 v1)
    have hvv : t.1.vars = v := by rw [← ev]
    refine ⟨(⟨(m : Int), v⟩, t.2), mem_told.2 ⟨m, r, hm', (ofQ_iff hm').2 hlv, ?_, ?_⟩, rfl, ?_⟩
    · unfold stepsF; exact List.mem_map.2 ⟨v, List.mem_filter.2 ⟨v1, by rw [← hh.1]; exact v2⟩, rfl⟩
    · rw [he, hvv, o.preds]; exact hh.2
    · rw [he]; exact hn
  · rintro ⟨t, ht, rfl, hn⟩
    obtain ⟨n, r, hr, hq, hs, he⟩ := mem_told.1 ht
    have hrp := List.mem_of_getElem? hr
    have hn : bv N r.head.pred = true := by rw [he] at hn; exact hn
    obtain ⟨m, hm, em⟩ := List.getElem_of_mem ((o.rules r).2 ⟨hrp, hn⟩)
    have hm' : q.rules.xs[m]? = some r := by rw [List.getElem?_eq_getElem hm, em]
    have hlv := (ofQ_iff hr).1 hq
    rw [← o.lv hn] at hlv
    unfold stepsF at hs
    obtain ⟨v, hv, ev⟩ := List.mem_map.1 hs
    obtain ⟨v1, v2⟩ := List.mem_filter.1 hv
    have hh := o.hold okf hrp hn (mem_vecs.1 v1)
    have hvv : t.1.vars = v := by rw [← ev]
    refine ⟨(⟨(m : Int), v⟩, t.2), mem_told.2 ⟨m, r, hm', (ofQ_iff hm').2 hlv, ?_, ?_⟩, rfl⟩
    · unfold stepsF; exact List.mem_map.2 ⟨v, List.mem_filter.2 ⟨v1, by rw [hh.1]; exact v2⟩, rfl⟩
    · rw [he, hvv, o.preds]; exact hh.2.symm
theorem Only.turn {f : List Fct} (okf : FOk p.preds.xs f) (s : Int) : (turnT q (strataM q) s (f.filter (nd N))).1 = (turnT p (strataM p) s f).1.filter (nd N) := by
  have rk := chk_rok o.cp
  have rkq := chk_rok o.cq
  rw [o.preds] at rkq
  have okF := nd_fok (N := N) okf
  have tp := told_fine (q := ofQ p (strataM p) s) rk okf
  have tq : ∀ t ∈ toldL q.preds.xs (f.filter (nd N)) q.rules.xs (ofQ q (strataM q) s), factFine p.preds.xs t.2 = true := by rw [o.preds]; exact told_fine rkq okF
  have e := nd_run (N := N) _ (f, false) okf tp false
  show (runL q.preds.xs (f.filter (nd N), false) _).1 = (runL p.preds.xs (f, false) _).1.filter (nd N)
  rw [e]
  have t2 : ∀ t ∈ (toldL p.preds.xs f p.rules.xs (ofQ p (strataM p) s)).filter (fun t => nd N t.2), factFine p.preds.xs t.2 = true := fun t ht => tp t (List.mem_filter.1 ht).1
  have r1 := run_up _ (f.filter (nd N), false) okF tq
  have r2 := run_up _ (f.filter (nd N), false) okF t2
  have hpq : runL q.preds.xs = runL p.preds.xs := by rw [o.preds]
  rw [hpq]
  refine under_anti r1.fok r2.fok (run_least r2.fok _ (f.filter (nd N), false) okF tq r2.up fun t ht => ?_) (run_least r1.fok _ (f.filter (nd N), false) okF t2 r1.up fun t ht => ?_)
  · obtain ⟨u, hu, e1, e2⟩ := (o.told okf s t.2).1 ⟨t, ht, rfl⟩
    rw [← e1]
    exact r2.each u (List.mem_filter.2 ⟨hu, by rw [e1]; exact e2⟩)
  · obtain ⟨h1, h2⟩ := List.mem_filter.1 ht
    obtain ⟨u, hu, e1⟩ := (o.told okf s t.2).2 ⟨t, h1, rfl, h2⟩
    rw [← e1]
    exact r1.each u hu
theorem Only.clo {s : Int} {f r : List Fct} {n : Nat} (h : Clo (turnT p (strataM p) s) f r n) : FOk p.preds.xs f → ∃ m, Clo (turnT q (strataM q) s) (f.filter (nd N)) (r.filter (nd N)) m := by
  have rk := chk_rok o.cp
  have rkq := chk_rok o.cq
  have chg : ∀ g, FOk p.preds.xs g → (turnT q (strataM q) s (g.filter (nd N))).2 = decide ((turnT q (strataM q) s (g.filter (nd N))).1 ≠ g.filter (nd N)) := fun g okg => turn_chg (by rw [o.preds]; exact nd_fok okg) (told_fine rkq (by rw [o.preds]; exact nd_fok okg))
  induction h with
  | @stop f h =>
    intro okf
    refine ⟨0, .stop ?_⟩
    rw [chg f okf, o.turn okf]
    have h1 : (turnT p (strataM p) s f).2 = decide ((turnT p (strataM p) s f).1 ≠ f) := turn_chg okf (told_fine rk okf)
    rw [h] at h1
    have h2 := of_decide_eq_false h1.symm
    rw [Decidable.not_not.1 h2]
    exact decide_eq_false fun hh => hh rfl
  | @step f r n h c ih =>
    intro okf
    obtain ⟨m, cm⟩ := ih (turn_fok okf (told_fine rk okf))
    rw [← o.turn okf] at cm
    cases hc : (turnT q (strataM q) s (f.filter (nd N))).2
    · have h1 := chg f okf
      rw [hc] at h1
      have h2 := Decidable.not_not.1 (of_decide_eq_false h1.symm)
      rw [h2] at cm
      exact ⟨m, cm⟩
    · exact ⟨m + 1, .step hc cm⟩
theorem Only.mod : ∀ {k : Nat} {f : List Fct} {rs : List Int}, ModK p (strataM p) k f rs → ∃ rs', ModK q (strataM q) k (f.filter (nd N)) rs'
  | 0, f, rs, ⟨h, _⟩ => ⟨[], by rw [h]; rfl, rfl⟩
  | k + 1, f, rs, ⟨f0, r0, n, a, b, _⟩ => by
    have j := modK_mj (chk_rok o.cp) (strataM_least o.cp).sol (chk_nil o.cp) a
    obtain ⟨rs', m⟩ := Only.mod a
    obtain ⟨n', c⟩ := o.clo b j.fok
    exact ⟨_, _, _, _, m, c, rfl⟩
theorem Only.most : numS (strataM q) ≤ numS (strataM p) := by
  have := most_sub (K := strataM q) (M := strataM p) (by rw [(strataM_least o.cq).sol.len, (strataM_least o.cp).sol.len, o.preds]) (strata_sub o.preds o.sub o.cp o.cq)
  unfold numS; omega
theorem Only.model {f g : List Fct} {rs rs' : List Int} (m : ModK p (strataM p) (numS (strataM p)) f rs) (m2 : ModK q (strataM q) (numS (strataM q)) g rs') : g = f.filter (nd N) := by
  obtain ⟨rs2, h⟩ := o.mod m
  have hLq := strataM_least o.cq
  have key : ∀ (d k : Nat), k = numS (strataM q) + d → ∀ {f rs}, ModK q (strataM q) k f rs → ∃ rs', ModK q (strataM q) (numS (strataM q)) f rs' := by
    intro d
    induction d with
    | zero => intro k hk f rs h; rw [hk] at h; exact ⟨rs, h⟩
    | succ d ih =>
      intro k hk f rs h
      rw [show k = (numS (strataM q) + d) + 1 by omega] at h
      obtain ⟨f0, r0, n, a, b, _⟩ := h
      have hno : ∀ g, (turnT q (strataM q) ((numS (strataM q) + d : Nat) : Int) g).2 = false := fun g => by
        have : toldL q.preds.xs g q.rules.xs (ofQ q (strataM q) ((numS (strataM q) + d : Nat) : Int)) = [] := by
          refine List.eq_nil_iff_forall_not_mem.2 fun t ht => ?_
          obtain ⟨n, r, hr, hq, _, _⟩ := mem_told.1 ht
          have e := (ofQ_iff hr).1 hq
          obtain ⟨_, _, k3, _, _⟩ := checkProg_ok o.cq
          obtain ⟨i0, i1⟩ := heads_in k3 r (List.mem_of_getElem? hr)
          have hlt : r.head.pred.toNat < (strataM q).length := by rw [hLq.sol.len]; omega
          have e2 := lv_get hlt
          rw [Int.toNat_of_nonneg i0] at e2
          have := mostL_mem (List.getElem_mem hlt)
          have := mostL_ge (strataM q)
          rw [e2] at e
          unfold numS at e
          omega
        unfold turnT
        rw [this]; rfl
      cases b with
      | stop _ => exact ih _ rfl a
      | step h2 _ => rw [hno] at h2; cases h2
  have hm := o.most
  obtain ⟨rs3, h3⟩ := key (numS (strataM p) - numS (strataM q)) _ (by omega) h
  exact ((h3.uniq m2).1)
end
end Go.TF
end
section
/- Two programs in one, and one without a rule: plain. -/
namespace Go.TF
open Go

instance : DecidableEq Trm := fun a b => decidable_of_iff (a.var = b.var ∧ a.n = b.n) (by cases a; cases b; simp)
instance : DecidableEq Prd := fun a b => decidable_of_iff (a.name = b.name ∧ a.arity = b.arity ∧ a.kind = b.kind) (by cases a; cases b; simp)
def mkP (l : List Prd) (rs : List Rul) : Prg := ⟨⟨none, 0, l⟩, ⟨none, 0, rs⟩⟩
noncomputable def withoutOf (p : Prg) (n : Int) : (List Prd × List Rul) × Int :=
  if checkProg p ≠ 0 then (([], []), checkProg p) else if n < 0 ∨ (p.rules.xs.length : Int) ≤ n then (([], []), 7) else ((p.preds.xs, p.rules.xs.eraseIdx n.toNat), 0)
theorem withoutOf_ok {p : Prg} {n : Int} (h : (withoutOf p n).2 = 0) : checkProg p = 0 ∧ (0 ≤ n ∧ n < p.rules.xs.length) ∧ (withoutOf p n).1 = (p.preds.xs, p.rules.xs.eraseIdx n.toNat) := by
  unfold withoutOf at h ⊢
  split at h
  · rename_i h1; exact absurd h h1
  rename_i h1
  rw [if_neg h1]
  split at h
  · cases h
  rename_i h2
  rw [if_neg h2]
  exact ⟨Decidable.not_not.1 h1, by omega, rfl⟩
theorem erase_sub {rs : List Rul} {n : Nat} : (rs.eraseIdx n).length ≤ rs.length ∧ ∀ r, r ∈ rs.eraseIdx n → r ∈ rs := ⟨List.length_eraseIdx_le .., fun _ h => List.mem_of_mem_eraseIdx h⟩
end Go.TF
end
section
/- Sameness of predicates, atoms, programs. -/
namespace Go.TF
open Go Go.RowKit Go.Proofs
set_option maxRecDepth 20000

theorem toList_eq {a b : ByteArray} : (a.toList == b.toList) = decide (a = b) := by rw [← beq_bytes, beq_toListBytes]
theorem prd_eq {a b : Prd} : (a.name.toList == b.name.toList && (a.arity == b.arity && (a.kind == b.kind && true))) = decide (a = b) := by
  rw [toList_eq, Bool.eq_iff_iff]
  simp only [Bool.and_eq_true, decide_eq_true_eq, beq_iff_eq]
  cases a; cases b; simp
theorem Atm.er_iff {a b : Atm} : a.er = b.er ↔ a.pred = b.pred ∧ a.args.xs = b.args.xs := by
  obtain ⟨p, ⟨x, y, z⟩⟩ := a; obtain ⟨p', ⟨x', y', z'⟩⟩ := b
  simp [Atm.er, Sl.er]
theorem trm_eq {a b : Trm} : ((a.var == b.var) && ((a.n == b.n) && true)) = decide (a = b) := by
  rw [Bool.eq_iff_iff]
  simp only [Bool.and_eq_true, decide_eq_true_eq, beq_iff_eq]
  cases a; cases b; simp
theorem sameAtoms_ok (B : Base) (hB : B.ok) (a b : Atm) (ha : a.In B.h) (hb : b.In B.h) (he : a.er = b.er) : Fn Tryz.prog 38 [a.val, b.val] B (fun v _ => v = .bool true) := by
  have hsa : a.args.xs.length ≤ 140737488355328 := Sl.Is.small ha
  have hsb : b.args.xs.length ≤ 140737488355328 := Sl.Is.small hb
  obtain ⟨e1, e2⟩ := Atm.er_iff.1 he
  have e3 : a.args.xs.length = b.args.xs.length := by rw [e2]
  refine Fn.of Tryz.func38 rfl Tryz.ntmps38 (by kernel_rfl) (by simp) ?_
  intro e
  have I := Inv.start hB
  refine WP.seq ?_
  refine WP.region ?_
  refine Ops.go (O.box (v := .agg #[_, _]) I rfl rfl ?_)
  intro b2 w I
  refine Ops.go (O.box (v := .agg #[_, _]) I rfl rfl ?_)
  intro b3 w I
  refine Ops.y (v := .bool _) (Y.assign rfl) ?_
  refine Ops.nil ?_
  refine WP.seq ?_
  refine WP.seq ?_
  refine WP.region ?_
  refine Ops.y (v := .pointer (some ⟨_, _, none⟩)) (Y.fa0 fa_43_0 rfl) ?_
  refine Ops.y (v := .int .i64 _) (Y.loadv ty_3 rfl (I.rdbox 1 rfl 0 1) rfl rfl) ?_
  refine Ops.y (v := .pointer (some ⟨_, _, none⟩)) (Y.fa0 fa_43_0 rfl) ?_
  refine Ops.y (v := .int .i64 _) (Y.loadv ty_3 rfl (I.rdbox 0 rfl 0 1) rfl rfl) ?_
  refine Ops.y (v := .bool false) (Y.dec_f (Y.nei rfl rfl) ((fun h => h e1))) ?_
  refine Ops.y (v := .bool _) (Y.move rfl) ?_
  refine Ops.ygt rfl (v := .pointer (some ⟨_, _, none⟩)) (Y.fa fa_43_1 rfl) ?_
  refine Ops.ygt rfl (v := .slice _ _ _) (Y.loadv ty_41 rfl (I.rdbox 1 rfl 1 1) rfl rfl) ?_
  refine Ops.ygt rfl (v := .int .i64 _) (Y.lens Tryz.underlying41 rfl) ?_
  refine Ops.ygt rfl (v := .pointer (some ⟨_, _, none⟩)) (Y.fa fa_43_1 rfl) ?_
  refine Ops.ygt rfl (v := .slice _ _ _) (Y.loadv ty_41 rfl (I.rdbox 0 rfl 1 1) rfl rfl) ?_
  refine Ops.ygt rfl (v := .int .i64 _) (Y.lens Tryz.underlying41 rfl) ?_
  refine Ops.ygt rfl (v := .bool false) (Y.dec_f (Y.nei rfl rfl) ((fun h => h (by rw [e3])))) ?_
  refine Ops.y (v := .bool _) (Y.pick_f rfl rfl) ?_
  refine Ops.nil ?_
  refine WP.cond_f rfl ?_
  refine WP.skip ?_
  refine WP.seq ?_
  refine WP.seq ?_
  refine WP.region ?_
  refine Ops.y (v := .int .i64 _) (Y.assign rfl) ?_
  refine Ops.nil ?_
  refine WP.block ?_
  refine WP.loopE (σ := Nat) (fun k => [(2, .pointer (some ⟨b2, 0, none⟩)), (3, .pointer (some ⟨b3, 0, none⟩)), (5, .int .i64 k)]) (fun k w => Inv B B.h [box b3 b.enc 43, box b2 a.enc 43] w ∧ k ≤ a.args.xs.length) (fun k => a.args.xs.length - k)
    ⟨0, ⟨rfl, rfl, rfl, trivial⟩, I, Nat.zero_le _⟩ ?_
  rintro k e w ⟨I, hk⟩
  refine WP.seq ?_
  refine WP.seq ?_
  refine WP.region ?_
  refine Ops.y (v := .int .i64 _) (Y.move rfl) ?_
  refine Ops.y (v := .pointer (some ⟨_, _, none⟩)) (Y.fa fa_43_1 rfl) ?_
  refine Ops.y (v := .slice _ _ _) (Y.loadv ty_41 rfl (I.rdbox 1 rfl 1 1) rfl rfl) ?_
  refine Ops.y (v := .int .i64 _) (Y.lens Tryz.underlying41 rfl) ?_
  refine Ops.y (v := .bool (decide _)) (Y.lti rfl rfl) ?_
  refine Ops.nil ?_
  refine WP.cond_dec rfl (fun h4 => ?_) (fun h4 => ?_)
  · have hk' : k < a.args.xs.length := by omega
    have hkb : k < b.args.xs.length := by omega
    have E1 := Sl.Is.at ha hk'
    have E2 := Sl.Is.at hb hkb
    have he : a.args.xs[k] = b.args.xs[k] := by simp only [e2]
    refine WP.skip ?_
    refine WP.seq ?_
    refine WP.block ?_
    refine WP.seq ?_
    refine WP.regionQ mixed I (by kernel_rfl) ?_
    refine OpsQ.y (v := .pointer (some ⟨_, _, none⟩)) (fun w I => Y.fa fa_43_1 rfl) ?_
    refine OpsQ.y (v := .slice _ _ _) (fun w I => Y.loadv ty_41 rfl (I.rdbox 1 rfl 1 1) rfl rfl) ?_
    refine OpsQ.y (v := .int .i64 _) (fun w I => Y.move rfl) ?_
    refine OpsQ.y (v := .pointer (some ⟨_, _, none⟩)) (fun w I => Y.idxEl E1 Tryz.underlying41 Tryz.sizeOf89 rfl rfl (Int.natCast_nonneg _) rfl) ?_
    refine OpsQ.y (v := .agg #[_, _]) (fun w I => Y.loadv ty_89 rfl (I.rd (E1.rd.part 0 2)) rfl rfl) ?_
    refine OpsQ.y (v := .pointer (some ⟨_, _, none⟩)) (fun w I => Y.fa fa_43_1 rfl) ?_
    refine OpsQ.y (v := .slice _ _ _) (fun w I => Y.loadv ty_41 rfl (I.rdbox 0 rfl 1 1) rfl rfl) ?_
    refine OpsQ.y (v := .int .i64 _) (fun w I => Y.move rfl) ?_
    refine OpsQ.y (v := .pointer (some ⟨_, _, none⟩)) (fun w I => Y.idxEl E2 Tryz.underlying41 Tryz.sizeOf89 rfl rfl (Int.natCast_nonneg _) rfl) ?_
    refine OpsQ.y (v := .agg #[_, _]) (fun w I => Y.loadv ty_89 rfl (I.rd (E2.rd.part 0 2)) rfl rfl) ?_
    refine OpsQ.y (v := .bool _) (fun w I => Y.nest Tryz.eqGuardType89 (eq_89 _ _ _ _) rfl rfl) ?_
    refine OpsQ.nil ?_
    intro w I
    refine WP.cond rfl (fun h6 => ?_) (fun h6 => ?_)
    · exfalso
      rw [trm_eq, he] at h6; simp at h6
    refine WP.skip ?_
    refine WP.region ?_
    refine Ops.y (v := .int .i64 _) (Y.move rfl) ?_
    refine Ops.y (v := .int .i64 _) (Y.addi rfl rfl ⟨by omega, by omega⟩) ?_
    refine Ops.y (v := .int .i64 _) (Y.assign rfl) ?_
    refine Ops.nil ?_
    exact ⟨k + 1, ⟨⟨rfl, rfl, rfl, trivial⟩, I, hk'⟩, by omega⟩
  refine WP.exit ?_
  refine WP.seq ?_
  refine WP.region ?_
  refine Ops.y (v := .bool _) (Y.assign rfl) ?_
  refine Ops.nil ?_
  refine WP.ret ?_
  repeat (first | refine thenE_ret ?_ | refine blockE_ret ?_)
  exact retQ.mk (vs := [.bool _]) rfl ⟨rfl, trivial⟩ I.ext_of (rfl)
theorem Rul.er_iff {a b : Rul} (h : a.er = b.er) : a.head.er = b.head.er ∧ a.src = b.src ∧ a.n = b.n ∧ a.body.xs.map Ltl.er = b.body.xs.map Ltl.er := by
  have h1 := congrArg Rul.head h; have h2 := congrArg Rul.src h; have h3 := congrArg Rul.n h; have h4 := congrArg (fun r : Rul => r.body.xs) h
  exact ⟨h1, h2, h3, h4⟩
theorem Prg.er_iff {p q : Prg} (h : p.er = q.er) : p.preds.xs = q.preds.xs ∧ p.rules.xs.map Rul.er = q.rules.xs.map Rul.er := by
  have h1 := congrArg (fun p : Prg => p.preds.xs) h; have h2 := congrArg (fun p : Prg => p.rules.xs) h
  exact ⟨h1, h2⟩
theorem map_at {α β : Type} {f : α → β} {l m : List α} (h : l.map f = m.map f) {k : Nat} (h1 : k < l.length) (h2 : k < m.length) : f l[k] = f m[k] := by
  have := congrArg (fun x => x[k]?) h
  simpa [h1, h2] using this
set_option maxHeartbeats 4000000 in
theorem SameProgs_ok (B : Base) (hB : B.ok) (p q : Prg) (hp : p.In B.h) (hq : q.In B.h) (he : p.preds.xs = q.preds.xs → p.er = q.er) : Fn Tryz.prog 14 [p.val, q.val] B (fun v _ => v = .bool (decide (p.preds.xs = q.preds.xs))) := by
  have hs1 := hp.preds.small
  have hs2 := hq.preds.small
  have hs3 := hp.rules.is.small
  have hs4 := hq.rules.is.small
  refine Fn.of Tryz.func14 rfl Tryz.ntmps14 (by kernel_rfl) (by simp) ?_
  intro e
  have I := Inv.start hB
  refine WP.seq ?_
  refine WP.region ?_
  refine Ops.go (O.box (v := .agg #[_, _]) I rfl rfl ?_)
  intro b2 w I
  refine Ops.go (O.box (v := .agg #[_, _]) I rfl rfl ?_)
  intro b3 w I
  refine Ops.y (v := .bool _) (Y.assign rfl) ?_
  refine Ops.nil ?_
  by_cases hpq : p.preds.xs = q.preds.xs
  case neg =>
    by_cases hl : (p.preds.xs.length : Int) ≠ q.preds.xs.length
    · refine WP.seq ?_
      refine WP.seq ?_
      refine WP.region ?_
      refine Ops.y (v := .pointer (some ⟨_, _, none⟩)) (Y.fa0 fa_25_0 rfl) ?_
      refine Ops.y (v := .slice _ _ _) (Y.loadv ty_22 rfl (I.rdbox 1 rfl 0 1) rfl rfl) ?_
      refine Ops.y (v := .int .i64 _) (Y.lens Tryz.underlying22 rfl) ?_
      refine Ops.y (v := .pointer (some ⟨_, _, none⟩)) (Y.fa0 fa_25_0 rfl) ?_
      refine Ops.y (v := .slice _ _ _) (Y.loadv ty_22 rfl (I.rdbox 0 rfl 0 1) rfl rfl) ?_
      refine Ops.y (v := .int .i64 _) (Y.lens Tryz.underlying22 rfl) ?_
      refine Ops.y (v := .bool true) (Y.dec_t (Y.nei rfl rfl) (hl)) ?_
      refine Ops.y (v := .bool _) (Y.move rfl) ?_
      refine Ops.gf rfl ?_
      refine Ops.gf rfl ?_
      refine Ops.gf rfl ?_
      refine Ops.gf rfl ?_
      refine Ops.gf rfl ?_
      refine Ops.gf rfl ?_
      refine Ops.gf rfl ?_
      refine Ops.y (v := .bool _) (Y.pick_t rfl rfl) ?_
      refine Ops.nil ?_
      refine WP.cond_t rfl ?_
      refine WP.seq ?_
      refine WP.region ?_
      refine Ops.y (v := .bool _) (Y.assign rfl) ?_
      refine Ops.nil ?_
      refine WP.ret ?_
      repeat (first | refine thenE_ret ?_ | refine blockE_ret ?_)
      exact retQ.mk (vs := [.bool _]) rfl ⟨rfl, trivial⟩ I.ext_of (by simp only [tup]; rw [decide_eq_false hpq])
    by_cases hl2 : (p.rules.xs.length : Int) ≠ q.rules.xs.length
    · refine WP.seq ?_
      refine WP.seq ?_
      refine WP.region ?_
      refine Ops.y (v := .pointer (some ⟨_, _, none⟩)) (Y.fa0 fa_25_0 rfl) ?_
      refine Ops.y (v := .slice _ _ _) (Y.loadv ty_22 rfl (I.rdbox 1 rfl 0 1) rfl rfl) ?_
      refine Ops.y (v := .int .i64 _) (Y.lens Tryz.underlying22 rfl) ?_
      refine Ops.y (v := .pointer (some ⟨_, _, none⟩)) (Y.fa0 fa_25_0 rfl) ?_
      refine Ops.y (v := .slice _ _ _) (Y.loadv ty_22 rfl (I.rdbox 0 rfl 0 1) rfl rfl) ?_
      refine Ops.y (v := .int .i64 _) (Y.lens Tryz.underlying22 rfl) ?_
      refine Ops.y (v := .bool false) (Y.dec_f (Y.nei rfl rfl) (hl)) ?_
      refine Ops.y (v := .bool _) (Y.move rfl) ?_
      refine Ops.ygt rfl (v := .pointer (some ⟨_, _, none⟩)) (Y.fa fa_25_1 rfl) ?_
      refine Ops.ygt rfl (v := .slice _ _ _) (Y.loadv ty_23 rfl (I.rdbox 1 rfl 1 1) rfl rfl) ?_
      refine Ops.ygt rfl (v := .int .i64 _) (Y.lens Tryz.underlying23 rfl) ?_
      refine Ops.ygt rfl (v := .pointer (some ⟨_, _, none⟩)) (Y.fa fa_25_1 rfl) ?_
      refine Ops.ygt rfl (v := .slice _ _ _) (Y.loadv ty_23 rfl (I.rdbox 0 rfl 1 1) rfl rfl) ?_
      refine Ops.ygt rfl (v := .int .i64 _) (Y.lens Tryz.underlying23 rfl) ?_
      refine Ops.ygt rfl (v := .bool true) (Y.dec_t (Y.nei rfl rfl) (hl2)) ?_
      refine Ops.y (v := .bool _) (Y.pick_f rfl rfl) ?_
      refine Ops.nil ?_
      refine WP.cond_t rfl ?_
      refine WP.seq ?_
      refine WP.region ?_
      refine Ops.y (v := .bool _) (Y.assign rfl) ?_
      refine Ops.nil ?_
      refine WP.ret ?_
      repeat (first | refine thenE_ret ?_ | refine blockE_ret ?_)
      exact retQ.mk (vs := [.bool _]) rfl ⟨rfl, trivial⟩ I.ext_of (by simp only [tup]; rw [decide_eq_false hpq])
    refine WP.seq ?_
    refine WP.seq ?_
    refine WP.region ?_
    refine Ops.y (v := .pointer (some ⟨_, _, none⟩)) (Y.fa0 fa_25_0 rfl) ?_
    refine Ops.y (v := .slice _ _ _) (Y.loadv ty_22 rfl (I.rdbox 1 rfl 0 1) rfl rfl) ?_
    refine Ops.y (v := .int .i64 _) (Y.lens Tryz.underlying22 rfl) ?_
    refine Ops.y (v := .pointer (some ⟨_, _, none⟩)) (Y.fa0 fa_25_0 rfl) ?_
    refine Ops.y (v := .slice _ _ _) (Y.loadv ty_22 rfl (I.rdbox 0 rfl 0 1) rfl rfl) ?_
    refine Ops.y (v := .int .i64 _) (Y.lens Tryz.underlying22 rfl) ?_
    refine Ops.y (v := .bool false) (Y.dec_f (Y.nei rfl rfl) (hl)) ?_
    refine Ops.y (v := .bool _) (Y.move rfl) ?_
    refine Ops.ygt rfl (v := .pointer (some ⟨_, _, none⟩)) (Y.fa fa_25_1 rfl) ?_
    refine Ops.ygt rfl (v := .slice _ _ _) (Y.loadv ty_23 rfl (I.rdbox 1 rfl 1 1) rfl rfl) ?_
    refine Ops.ygt rfl (v := .int .i64 _) (Y.lens Tryz.underlying23 rfl) ?_
    refine Ops.ygt rfl (v := .pointer (some ⟨_, _, none⟩)) (Y.fa fa_25_1 rfl) ?_
    refine Ops.ygt rfl (v := .slice _ _ _) (Y.loadv ty_23 rfl (I.rdbox 0 rfl 1 1) rfl rfl) ?_
    refine Ops.ygt rfl (v := .int .i64 _) (Y.lens Tryz.underlying23 rfl) ?_
    refine Ops.ygt rfl (v := .bool false) (Y.dec_f (Y.nei rfl rfl) (hl2)) ?_
    refine Ops.y (v := .bool _) (Y.pick_f rfl rfl) ?_
    refine Ops.nil ?_
    refine WP.cond_f rfl ?_
    refine WP.skip ?_
    refine WP.seq ?_
    refine WP.seq ?_
    refine WP.region ?_
    refine Ops.y (v := .int .i64 _) (Y.assign rfl) ?_
    refine Ops.nil ?_
    refine WP.block ?_
    refine WP.loopE (σ := Nat) (fun k => [(2, .pointer (some ⟨b2, 0, none⟩)), (3, .pointer (some ⟨b3, 0, none⟩)), (5, .int .i64 k)]) (fun k w => Inv B B.h [box b3 q.enc 25, box b2 p.enc 25] w ∧ k ≤ p.preds.xs.length ∧ ∀ j, j < k → p.preds.xs[j]? = q.preds.xs[j]?) (fun k => p.preds.xs.length - k)
      ⟨0, ⟨rfl, rfl, rfl, trivial⟩, I, Nat.zero_le _, fun j hj => by omega⟩ ?_
    rintro k e w ⟨I, hk, hn⟩
    refine WP.seq ?_
    refine WP.seq ?_
    refine WP.region ?_
    refine Ops.y (v := .int .i64 _) (Y.move rfl) ?_
    refine Ops.y (v := .pointer (some ⟨_, _, none⟩)) (Y.fa0 fa_25_0 rfl) ?_
    refine Ops.y (v := .slice _ _ _) (Y.loadv ty_22 rfl (I.rdbox 1 rfl 0 1) rfl rfl) ?_
    refine Ops.y (v := .int .i64 _) (Y.lens Tryz.underlying22 rfl) ?_
    refine Ops.y (v := .bool (decide _)) (Y.lti rfl rfl) ?_
    refine Ops.nil ?_
    refine WP.cond_dec rfl (fun h4 => ?_) (fun h4 => ?_)
    · have hk' : k < p.preds.xs.length := by omega
      have hkb : k < q.preds.xs.length := by omega
      have E1 := hp.preds.at hk'
      have E2 := hq.preds.at hkb
      refine WP.skip ?_
      refine WP.seq ?_
      refine WP.block ?_
      refine WP.seq ?_
      refine WP.regionQ mixed I (by kernel_rfl) ?_
      refine OpsQ.y (v := .pointer (some ⟨_, _, none⟩)) (fun w I => Y.fa0 fa_25_0 rfl) ?_
      refine OpsQ.y (v := .slice _ _ _) (fun w I => Y.loadv ty_22 rfl (I.rdbox 1 rfl 0 1) rfl rfl) ?_
      refine OpsQ.y (v := .int .i64 _) (fun w I => Y.move rfl) ?_
      refine OpsQ.y (v := .pointer (some ⟨_, _, none⟩)) (fun w I => Y.idxEl E1 Tryz.underlying22 Tryz.sizeOf40 rfl rfl (Int.natCast_nonneg _) rfl) ?_
      refine OpsQ.y (v := .agg #[_, _, _]) (fun w I => Y.loadv ty_40 rfl (I.rd (E1.rd.part 0 3)) rfl rfl) ?_
      refine OpsQ.y (v := .pointer (some ⟨_, _, none⟩)) (fun w I => Y.fa0 fa_25_0 rfl) ?_
      refine OpsQ.y (v := .slice _ _ _) (fun w I => Y.loadv ty_22 rfl (I.rdbox 0 rfl 0 1) rfl rfl) ?_
      refine OpsQ.y (v := .int .i64 _) (fun w I => Y.move rfl) ?_
      refine OpsQ.y (v := .pointer (some ⟨_, _, none⟩)) (fun w I => Y.idxEl E2 Tryz.underlying22 Tryz.sizeOf40 rfl rfl (Int.natCast_nonneg _) rfl) ?_
      refine OpsQ.y (v := .agg #[_, _, _]) (fun w I => Y.loadv ty_40 rfl (I.rd (E2.rd.part 0 3)) rfl rfl) ?_
      refine OpsQ.y (v := .bool _) (fun w I => Y.nest Tryz.eqGuardType40 (eq_40 _ _ _ _ _ _) rfl rfl) ?_
      refine OpsQ.nil ?_
      intro w I
      refine WP.cond rfl (fun h6 => ?_) (fun h6 => ?_)
      · refine WP.seq ?_
        refine WP.region ?_
        refine Ops.y (v := .bool _) (Y.assign rfl) ?_
        refine Ops.nil ?_
        refine WP.ret ?_
        repeat (first | refine thenE_ret ?_ | refine blockE_ret ?_)
        exact retQ.mk (vs := [.bool _]) rfl ⟨rfl, trivial⟩ I.ext_of (by simp only [tup]; rw [decide_eq_false hpq])
      refine WP.skip ?_
      refine WP.region ?_
      refine Ops.y (v := .int .i64 _) (Y.move rfl) ?_
      refine Ops.y (v := .int .i64 _) (Y.addi rfl rfl ⟨by omega, by omega⟩) ?_
      refine Ops.y (v := .int .i64 _) (Y.assign rfl) ?_
      refine Ops.nil ?_
      exact ⟨k + 1, ⟨⟨rfl, rfl, rfl, trivial⟩, I, hk', fun j hj => by
        rcases Nat.lt_succ_iff_lt_or_eq.1 hj with h' | rfl
        · exact hn j h'
        · rw [List.getElem?_eq_getElem hk', List.getElem?_eq_getElem hkb]
          rw [prd_eq] at h6
          congr 1
          simpa using h6⟩, by omega⟩
    exact absurd (List.ext_getElem? fun j => by
      rcases Nat.lt_or_ge j k with h' | h'
      · exact hn j h'
      · rw [List.getElem?_eq_none (by omega), List.getElem?_eq_none (by omega)]) hpq
  obtain ⟨_, hr⟩ := Prg.er_iff (he hpq)
  have hlr : p.rules.xs.length = q.rules.xs.length := by have := congrArg List.length hr; simpa using this
  refine WP.seq ?_
  refine WP.seq ?_
  refine WP.region ?_
  refine Ops.y (v := .pointer (some ⟨_, _, none⟩)) (Y.fa0 fa_25_0 rfl) ?_
  refine Ops.y (v := .slice _ _ _) (Y.loadv ty_22 rfl (I.rdbox 1 rfl 0 1) rfl rfl) ?_
  refine Ops.y (v := .int .i64 _) (Y.lens Tryz.underlying22 rfl) ?_
  refine Ops.y (v := .pointer (some ⟨_, _, none⟩)) (Y.fa0 fa_25_0 rfl) ?_
  refine Ops.y (v := .slice _ _ _) (Y.loadv ty_22 rfl (I.rdbox 0 rfl 0 1) rfl rfl) ?_
  refine Ops.y (v := .int .i64 _) (Y.lens Tryz.underlying22 rfl) ?_
  refine Ops.y (v := .bool false) (Y.dec_f (Y.nei rfl rfl) ((fun h => h (by rw [hpq])))) ?_
  refine Ops.y (v := .bool _) (Y.move rfl) ?_
  refine Ops.ygt rfl (v := .pointer (some ⟨_, _, none⟩)) (Y.fa fa_25_1 rfl) ?_
  refine Ops.ygt rfl (v := .slice _ _ _) (Y.loadv ty_23 rfl (I.rdbox 1 rfl 1 1) rfl rfl) ?_
  refine Ops.ygt rfl (v := .int .i64 _) (Y.lens Tryz.underlying23 rfl) ?_
  refine Ops.ygt rfl (v := .pointer (some ⟨_, _, none⟩)) (Y.fa fa_25_1 rfl) ?_
  refine Ops.ygt rfl (v := .slice _ _ _) (Y.loadv ty_23 rfl (I.rdbox 0 rfl 1 1) rfl rfl) ?_
  refine Ops.ygt rfl (v := .int .i64 _) (Y.lens Tryz.underlying23 rfl) ?_
  refine Ops.ygt rfl (v := .bool false) (Y.dec_f (Y.nei rfl rfl) ((fun h => h (by rw [hlr])))) ?_
  refine Ops.y (v := .bool _) (Y.pick_f rfl rfl) ?_
  refine Ops.nil ?_
  refine WP.cond_f rfl ?_
  refine WP.skip ?_
  refine WP.seq ?_
  refine WP.seq ?_
  refine WP.region ?_
  refine Ops.y (v := .int .i64 _) (Y.assign rfl) ?_
  refine Ops.nil ?_
  refine WP.cutK (σ := Unit) (fun _ => [(2, .pointer (some ⟨b2, 0, none⟩)), (3, .pointer (some ⟨b3, 0, none⟩))]) (fun _ w => Inv B B.h [box b3 q.enc 25, box b2 p.enc 25] w) ?_ ?_
  · refine WP.block ?_
    refine WP.loopE (σ := Nat) (fun k => [(2, .pointer (some ⟨b2, 0, none⟩)), (3, .pointer (some ⟨b3, 0, none⟩)), (5, .int .i64 k)]) (fun k w => Inv B B.h [box b3 q.enc 25, box b2 p.enc 25] w ∧ k ≤ p.preds.xs.length) (fun k => p.preds.xs.length - k)
      ⟨0, ⟨rfl, rfl, rfl, trivial⟩, I, Nat.zero_le _⟩ ?_
    rintro k e w ⟨I, hk⟩
    refine WP.seq ?_
    refine WP.seq ?_
    refine WP.region ?_
    refine Ops.y (v := .int .i64 _) (Y.move rfl) ?_
    refine Ops.y (v := .pointer (some ⟨_, _, none⟩)) (Y.fa0 fa_25_0 rfl) ?_
    refine Ops.y (v := .slice _ _ _) (Y.loadv ty_22 rfl (I.rdbox 1 rfl 0 1) rfl rfl) ?_
    refine Ops.y (v := .int .i64 _) (Y.lens Tryz.underlying22 rfl) ?_
    refine Ops.y (v := .bool (decide _)) (Y.lti rfl rfl) ?_
    refine Ops.nil ?_
    refine WP.cond_dec rfl (fun h4 => ?_) (fun h4 => ?_)
    · have hk' : k < p.preds.xs.length := by omega
      have hkb : k < q.preds.xs.length := by rw [← hpq]; exact hk'
      have E1 := hp.preds.at hk'
      have E2 := hq.preds.at hkb
      have hee : p.preds.xs[k] = q.preds.xs[k] := by simp only [hpq]
      refine WP.skip ?_
      refine WP.seq ?_
      refine WP.block ?_
      refine WP.seq ?_
      refine WP.regionQ mixed I (by kernel_rfl) ?_
      refine OpsQ.y (v := .pointer (some ⟨_, _, none⟩)) (fun w I => Y.fa0 fa_25_0 rfl) ?_
      refine OpsQ.y (v := .slice _ _ _) (fun w I => Y.loadv ty_22 rfl (I.rdbox 1 rfl 0 1) rfl rfl) ?_
      refine OpsQ.y (v := .int .i64 _) (fun w I => Y.move rfl) ?_
      refine OpsQ.y (v := .pointer (some ⟨_, _, none⟩)) (fun w I => Y.idxEl E1 Tryz.underlying22 Tryz.sizeOf40 rfl rfl (Int.natCast_nonneg _) rfl) ?_
      refine OpsQ.y (v := .agg #[_, _, _]) (fun w I => Y.loadv ty_40 rfl (I.rd (E1.rd.part 0 3)) rfl rfl) ?_
      refine OpsQ.y (v := .pointer (some ⟨_, _, none⟩)) (fun w I => Y.fa0 fa_25_0 rfl) ?_
      refine OpsQ.y (v := .slice _ _ _) (fun w I => Y.loadv ty_22 rfl (I.rdbox 0 rfl 0 1) rfl rfl) ?_
      refine OpsQ.y (v := .int .i64 _) (fun w I => Y.move rfl) ?_
      refine OpsQ.y (v := .pointer (some ⟨_, _, none⟩)) (fun w I => Y.idxEl E2 Tryz.underlying22 Tryz.sizeOf40 rfl rfl (Int.natCast_nonneg _) rfl) ?_
      refine OpsQ.y (v := .agg #[_, _, _]) (fun w I => Y.loadv ty_40 rfl (I.rd (E2.rd.part 0 3)) rfl rfl) ?_
      refine OpsQ.y (v := .bool _) (fun w I => Y.nest Tryz.eqGuardType40 (eq_40 _ _ _ _ _ _) rfl rfl) ?_
      refine OpsQ.nil ?_
      intro w I
      refine WP.cond rfl (fun h6 => ?_) (fun h6 => ?_)
      · exfalso
        rw [prd_eq, hee] at h6; simp at h6
      refine WP.skip ?_
      refine WP.region ?_
      refine Ops.y (v := .int .i64 _) (Y.move rfl) ?_
      refine Ops.y (v := .int .i64 _) (Y.addi rfl rfl ⟨by omega, by omega⟩) ?_
      refine Ops.y (v := .int .i64 _) (Y.assign rfl) ?_
      refine Ops.nil ?_
      exact ⟨k + 1, ⟨⟨rfl, rfl, rfl, trivial⟩, I, hk'⟩, by omega⟩
    refine WP.exit ?_
    exact ⟨(), ⟨rfl, rfl, trivial⟩, I⟩
  rintro _ e w I
  refine WP.seq ?_
  refine WP.seq ?_
  refine WP.region ?_
  refine Ops.y (v := .int .i64 _) (Y.assign rfl) ?_
  refine Ops.nil ?_
  refine WP.block ?_
  refine WP.loopE (σ := Nat) (fun k => [(2, .pointer (some ⟨b2, 0, none⟩)), (3, .pointer (some ⟨b3, 0, none⟩)), (6, .int .i64 k)]) (fun k w => (∃ h0, B.h.le h0 ∧ Inv B h0 [box b3 q.enc 25, box b2 p.enc 25] w) ∧ k ≤ p.rules.xs.length) (fun k => p.rules.xs.length - k)
    ⟨0, ⟨rfl, rfl, rfl, trivial⟩, ⟨_, Heap.le.refl _, I⟩, Nat.zero_le _⟩ ?_
  rintro k e w ⟨⟨h0, gl, I⟩, hk⟩
  refine WP.seq ?_
  refine WP.seq ?_
  refine WP.region ?_
  refine Ops.y (v := .int .i64 _) (Y.move rfl) ?_
  refine Ops.y (v := .pointer (some ⟨_, _, none⟩)) (Y.fa fa_25_1 rfl) ?_
  refine Ops.y (v := .slice _ _ _) (Y.loadv ty_23 rfl (I.rdbox 1 rfl 1 1) rfl rfl) ?_
  refine Ops.y (v := .int .i64 _) (Y.lens Tryz.underlying23 rfl) ?_
  refine Ops.y (v := .bool (decide _)) (Y.lti rfl rfl) ?_
  refine Ops.nil ?_
  refine WP.cond_dec rfl (fun h9 => ?_) (fun h9 => ?_)
  · have hk' : k < p.rules.xs.length := by omega
    have hkb : k < q.rules.xs.length := by omega
    have E1 := (hp.rules.is.le gl).at hk'
    have E2 := (hq.rules.is.le gl).at hkb
    have i1 := (hp.rules.each _ (List.getElem_mem hk')).le gl
    have i2 := (hq.rules.each _ (List.getElem_mem hkb)).le gl
    obtain ⟨r1, r2, r3, r4⟩ := Rul.er_iff (map_at hr hk' hkb)
    have r5 : p.rules.xs[k].body.xs.length = q.rules.xs[k].body.xs.length := by have := congrArg List.length r4; simpa using this
    refine WP.skip ?_
    refine WP.seq ?_
    refine WP.block ?_
    refine WP.seq ?_
    refine WP.regionG mixed RBx.pre ⟨h0, none, none⟩ (J := JBx B [box b3 q.enc 25, box b2 p.enc 25] 46 [.int .i64 0, .slice none 0 0, .int .i64 0, .int .i64 0, .slice none 0 0] p.rules.xs[k].enc 10 11 12) ⟨rfl, rfl, fun h => (by cases h), I.drew⟩ 13 (by kernel_rfl) ?_
    refine OpsG.y_ (v := .pointer (some ⟨_, _, none⟩)) (fun _ => runsG_none _) RBx.pre (JBx.set (by decide)) (fun _ s w us hl hj => have I := hj.base; have hl := hl.h; Y.fa fa_25_1 rfl) ?_
    refine OpsG.y_ (v := .slice _ _ _) (fun _ => runsG_none _) RBx.pre (JBx.set (by decide)) (fun _ s w us hl hj => have I := hj.base; have hl := hl.h; Y.loadv ty_23 rfl (I.rdbox 1 rfl 1 1) rfl rfl) ?_
    refine OpsG.y_ (v := .int .i64 _) (fun _ => runsG_none _) RBx.pre (JBx.set (by decide)) (fun _ s w us hl hj => have I := hj.base; have hl := hl.h; Y.move rfl) ?_
    refine OpsG.y_ (v := .pointer (some ⟨_, _, none⟩)) (fun _ => runsG_none _) RBx.pre (JBx.set (by decide)) (fun _ s w us hl hj => have I := hj.base; have hl := hl.h; Y.idxEl E1 Tryz.underlying23 Tryz.sizeOf46 rfl rfl (Int.natCast_nonneg _) rfl) ?_
    refine OpsG.y_ (v := .agg #[_, _, _, _, _]) (fun _ => runsG_none _) RBx.pre (JBx.set (by decide)) (fun _ s w us hl hj => have I := hj.base; have hl := hl.h; Y.loadv ty_46 rfl (I.rd ((E1.rd.part 0 5).le hl)) rfl rfl) ?_
    refine OpsG.y_ (v := .pointer (some ⟨_, _, none⟩)) (fun _ => runsG_none _) RBx.pre (JBx.set (by decide)) (fun _ s w us hl hj => have I := hj.base; have hl := hl.h; Y.fa fa_25_1 rfl) ?_
    refine OpsG.y_ (v := .slice _ _ _) (fun _ => runsG_none _) RBx.pre (JBx.set (by decide)) (fun _ s w us hl hj => have I := hj.base; have hl := hl.h; Y.loadv ty_23 rfl (I.rdbox 0 rfl 1 1) rfl rfl) ?_
    refine OpsG.y_ (v := .int .i64 _) (fun _ => runsG_none _) RBx.pre (JBx.set (by decide)) (fun _ s w us hl hj => have I := hj.base; have hl := hl.h; Y.move rfl) ?_
    refine OpsG.y_ (v := .pointer (some ⟨_, _, none⟩)) (fun _ => runsG_none _) RBx.pre (JBx.set (by decide)) (fun _ s w us hl hj => have I := hj.base; have hl := hl.h; Y.idxEl E2 Tryz.underlying23 Tryz.sizeOf46 rfl rfl (Int.natCast_nonneg _) rfl) ?_
    refine OpsG.y_ (v := .agg #[_, _, _, _, _]) (fun _ => runsG_none _) RBx.pre (JBx.set (by decide)) (fun _ s w us hl hj => have I := hj.base; have hl := hl.h; Y.loadv ty_46 rfl (I.rd ((E2.rd.part 0 5).le hl)) rfl rfl) ?_
    refine OpsG.make7 Tryz.zeroValue46 rfl (by decide) (by decide) ?_
    refine OpsG.make8 Tryz.zeroValue46 rfl (by decide) (by decide) ?_
    refine OpsG.store7 ty_46 rfl rfl (fun s => by intro u7 q7 u8 _; exact ⟨q7 rfl, rfl⟩) rfl rfl (by decide) (by decide) ?_
    refine OpsG.nil ?_
    intro D s w hD hl hj u7 q7 u8 q8
    obtain ⟨b7, rfl, h7⟩ := q7 rfl
    obtain ⟨b8, rfl, h8⟩ := q8 rfl
    have I := hj.inv
    rw [h7, h8, hD 12 (by omega)] at I
    simp only [pcs, if_true, Bool.false_eq_true, if_false, List.cons_append, List.nil_append] at I
    have hl := hl.h
    refine Ops.go (O.store (v := .agg #[_, _, _, _, _]) I ty_46 1 rfl rfl rfl rfl rfl rfl (Nat.le_of_ble_eq_true rfl) rfl ?_)
    intro w I
    refine Ops.nil ?_
    generalize s.h = h1 at I hl
    have i1 := i1.le hl
    have i2 := i2.le hl
    refine WP.seq ?_
    refine WP.seq ?_
    refine WP.region ?_
    refine Ops.y (v := .pointer (some ⟨_, _, none⟩)) (Y.fa0 fa_46_0 rfl) ?_
    refine Ops.y (v := .agg #[_, _]) (Y.loadv ty_43 rfl (I.rdbox 0 rfl 0 2) rfl rfl) ?_
    refine Ops.y (v := .pointer (some ⟨_, _, none⟩)) (Y.fa0 fa_46_0 rfl) ?_
    refine Ops.y (v := .agg #[_, _]) (Y.loadv ty_43 rfl (I.rdbox 1 rfl 0 2) rfl rfl) ?_
    refine Ops.go (O.callv I Tryz.call38 (sameAtoms_ok _ I.base_ok _ _ i1.head i2.head r1) rfl ?_)
    intro w I
    refine Ops.y (v := .bool false) (Y.b (Y.not rfl) (rfl)) ?_
    refine Ops.y (v := .bool _) (Y.move rfl) ?_
    refine Ops.ygt rfl (v := .pointer (some ⟨_, _, none⟩)) (Y.fa fa_46_1 rfl) ?_
    refine Ops.ygt rfl (v := .int .i64 _) (Y.loadv ty_3 rfl (I.rdbox 0 rfl 2 1) rfl rfl) ?_
    refine Ops.ygt rfl (v := .pointer (some ⟨_, _, none⟩)) (Y.fa fa_46_1 rfl) ?_
    refine Ops.ygt rfl (v := .int .i64 _) (Y.loadv ty_3 rfl (I.rdbox 1 rfl 2 1) rfl rfl) ?_
    refine Ops.ygt rfl (v := .bool false) (Y.dec_f (Y.nei rfl rfl) ((fun h => h r2))) ?_
    refine Ops.y (v := .bool _) (Y.pick_f rfl rfl) ?_
    refine Ops.y (v := .bool _) (Y.move rfl) ?_
    refine Ops.ygt rfl (v := .pointer (some ⟨_, _, none⟩)) (Y.fa fa_46_2 rfl) ?_
    refine Ops.ygt rfl (v := .int .i64 _) (Y.loadv ty_3 rfl (I.rdbox 0 rfl 3 1) rfl rfl) ?_
    refine Ops.ygt rfl (v := .pointer (some ⟨_, _, none⟩)) (Y.fa fa_46_2 rfl) ?_
    refine Ops.ygt rfl (v := .int .i64 _) (Y.loadv ty_3 rfl (I.rdbox 1 rfl 3 1) rfl rfl) ?_
    refine Ops.ygt rfl (v := .bool false) (Y.dec_f (Y.nei rfl rfl) ((fun h => h r3))) ?_
    refine Ops.y (v := .bool _) (Y.pick_f rfl rfl) ?_
    refine Ops.y (v := .bool _) (Y.move rfl) ?_
    refine Ops.ygt rfl (v := .pointer (some ⟨_, _, none⟩)) (Y.fa fa_46_3 rfl) ?_
    refine Ops.ygt rfl (v := .slice _ _ _) (Y.loadv ty_44 rfl (I.rdbox 0 rfl 4 1) rfl rfl) ?_
    refine Ops.ygt rfl (v := .int .i64 _) (Y.lens Tryz.underlying44 rfl) ?_
    refine Ops.ygt rfl (v := .pointer (some ⟨_, _, none⟩)) (Y.fa fa_46_3 rfl) ?_
    refine Ops.ygt rfl (v := .slice _ _ _) (Y.loadv ty_44 rfl (I.rdbox 1 rfl 4 1) rfl rfl) ?_
    refine Ops.ygt rfl (v := .int .i64 _) (Y.lens Tryz.underlying44 rfl) ?_
    refine Ops.ygt rfl (v := .bool false) (Y.dec_f (Y.nei rfl rfl) ((fun h => h (by rw [r5])))) ?_
    refine Ops.y (v := .bool _) (Y.pick_f rfl rfl) ?_
    refine Ops.nil ?_
    refine WP.cond_f rfl ?_
    refine WP.skip ?_
    refine WP.seq ?_
    refine WP.region ?_
    refine Ops.y (v := .int .i64 _) (Y.assign rfl) ?_
    refine Ops.nil ?_
    refine WP.block ?_
    refine WP.loopE (σ := Nat) (fun j => [(2, .pointer (some ⟨b2, 0, none⟩)), (3, .pointer (some ⟨b3, 0, none⟩)), (6, .int .i64 k), (7, .pointer (some ⟨b7, 0, none⟩)), (8, .pointer (some ⟨b8, 0, none⟩)), (9, .int .i64 j)]) (fun j w => Inv B h1 [box b7 p.rules.xs[k].enc 46, box b8 q.rules.xs[k].enc 46, box b3 q.enc 25, box b2 p.enc 25] w ∧ j ≤ p.rules.xs[k].body.xs.length) (fun j => p.rules.xs[k].body.xs.length - j)
      ⟨0, ⟨rfl, rfl, rfl, rfl, rfl, rfl, trivial⟩, I, Nat.zero_le _⟩ ?_
    rintro j e w ⟨I, hj⟩
    have hs5 := i1.body.is.small
    refine WP.seq ?_
    refine WP.seq ?_
    refine WP.region ?_
    refine Ops.y (v := .int .i64 _) (Y.move rfl) ?_
    refine Ops.y (v := .pointer (some ⟨_, _, none⟩)) (Y.fa fa_46_3 rfl) ?_
    refine Ops.y (v := .slice _ _ _) (Y.loadv ty_44 rfl (I.rdbox 0 rfl 4 1) rfl rfl) ?_
    refine Ops.y (v := .int .i64 _) (Y.lens Tryz.underlying44 rfl) ?_
    refine Ops.y (v := .bool (decide _)) (Y.lti rfl rfl) ?_
    refine Ops.nil ?_
    refine WP.cond_dec rfl (fun h15 => ?_) (fun h15 => ?_)
    · have hj1 : j < p.rules.xs[k].body.xs.length := by omega
      have hj2 : j < q.rules.xs[k].body.xs.length := by omega
      have F1 := i1.body.is.at hj1
      have F2 := i2.body.is.at hj2
      have b1 := i1.body.each _ (List.getElem_mem hj1)
      have b2' := i2.body.each _ (List.getElem_mem hj2)
      have ee := map_at r4 hj1 hj2
      have e1 : p.rules.xs[k].body.xs[j].neg = q.rules.xs[k].body.xs[j].neg := by have := congrArg Ltl.neg ee; exact this
      have e2 : p.rules.xs[k].body.xs[j].atom.er = q.rules.xs[k].body.xs[j].atom.er := by have := congrArg Ltl.atom ee; exact this
      refine WP.skip ?_
      refine WP.seq ?_
      refine WP.block ?_
      refine WP.seq ?_
      refine WP.regionQ mixed I (by kernel_rfl) ?_
      refine OpsQ.y (v := .pointer (some ⟨_, _, none⟩)) (fun w I => Y.fa fa_46_3 rfl) ?_
      refine OpsQ.y (v := .slice _ _ _) (fun w I => Y.loadv ty_44 rfl (I.rdbox 0 rfl 4 1) rfl rfl) ?_
      refine OpsQ.y (v := .int .i64 _) (fun w I => Y.move rfl) ?_
      refine OpsQ.y (v := .pointer (some ⟨_, _, none⟩)) (fun w I => Y.idxEl F1 Tryz.underlying44 Tryz.sizeOf61 rfl rfl (Int.natCast_nonneg _) rfl) ?_
      refine OpsQ.y (v := .pointer (some ⟨_, _, none⟩)) (fun w I => Y.fa0 fa_61_0 rfl) ?_
      refine OpsQ.y (v := .bool _) (fun w I => Y.loadv ty_4 rfl (I.rd (F1.rd.part 0 1)) rfl rfl) ?_
      refine OpsQ.y (v := .pointer (some ⟨_, _, none⟩)) (fun w I => Y.fa fa_46_3 rfl) ?_
      refine OpsQ.y (v := .slice _ _ _) (fun w I => Y.loadv ty_44 rfl (I.rdbox 1 rfl 4 1) rfl rfl) ?_
      refine OpsQ.y (v := .int .i64 _) (fun w I => Y.move rfl) ?_
      refine OpsQ.y (v := .pointer (some ⟨_, _, none⟩)) (fun w I => Y.idxEl F2 Tryz.underlying44 Tryz.sizeOf61 rfl rfl (Int.natCast_nonneg _) rfl) ?_
      refine OpsQ.y (v := .pointer (some ⟨_, _, none⟩)) (fun w I => Y.fa0 fa_61_0 rfl) ?_
      refine OpsQ.y (v := .bool _) (fun w I => Y.loadv ty_4 rfl (I.rd (F2.rd.part 0 1)) rfl rfl) ?_
      refine OpsQ.y (v := .bool false) (fun w I => Y.dec_f (Y.neb Tryz.underlying4 rfl rfl) ((fun h => h e1))) ?_
      refine OpsQ.y (v := .bool _) (fun w I => Y.move rfl) ?_
      refine OpsQ.ygt rfl (v := .pointer (some ⟨_, _, none⟩)) (fun w I => Y.fa fa_46_3 rfl) ?_
      refine OpsQ.ygt rfl (v := .slice _ _ _) (fun w I => Y.loadv ty_44 rfl (I.rdbox 0 rfl 4 1) rfl rfl) ?_
      refine OpsQ.ygt rfl (v := .int .i64 _) (fun w I => Y.move rfl) ?_
      refine OpsQ.ygt rfl (v := .pointer (some ⟨_, _, none⟩)) (fun w I => Y.idxEl F1 Tryz.underlying44 Tryz.sizeOf61 rfl rfl (Int.natCast_nonneg _) rfl) ?_
      refine OpsQ.ygt rfl (v := .pointer (some ⟨_, _, none⟩)) (fun w I => Y.fa fa_61_1 rfl) ?_
      refine OpsQ.ygt rfl (v := .agg #[_, _]) (fun w I => Y.loadv ty_43 rfl (I.rd (F1.rd.part 1 2)) rfl rfl) ?_
      refine OpsQ.ygt rfl (v := .pointer (some ⟨_, _, none⟩)) (fun w I => Y.fa fa_46_3 rfl) ?_
      refine OpsQ.ygt rfl (v := .slice _ _ _) (fun w I => Y.loadv ty_44 rfl (I.rdbox 1 rfl 4 1) rfl rfl) ?_
      refine OpsQ.ygt rfl (v := .int .i64 _) (fun w I => Y.move rfl) ?_
      refine OpsQ.ygt rfl (v := .pointer (some ⟨_, _, none⟩)) (fun w I => Y.idxEl F2 Tryz.underlying44 Tryz.sizeOf61 rfl rfl (Int.natCast_nonneg _) rfl) ?_
      refine OpsQ.ygt rfl (v := .pointer (some ⟨_, _, none⟩)) (fun w I => Y.fa fa_61_1 rfl) ?_
      refine OpsQ.ygt rfl (v := .agg #[_, _]) (fun w I => Y.loadv ty_43 rfl (I.rd (F2.rd.part 1 2)) rfl rfl) ?_
      refine OpsQ.cgt rfl (fun w I => QC.callv I Tryz.call38 (sameAtoms_ok _ I.base_ok _ _ b1 b2' e2) rfl) ?_
      refine OpsQ.ygt rfl (v := .bool false) (fun w I => Y.b (Y.not rfl) (rfl)) ?_
      refine OpsQ.y (v := .bool _) (fun w I => Y.pick_f rfl rfl) ?_
      refine OpsQ.nil ?_
      intro w I
      refine WP.cond_f rfl ?_
      refine WP.skip ?_
      refine WP.region ?_
      refine Ops.y (v := .int .i64 _) (Y.move rfl) ?_
      refine Ops.y (v := .int .i64 _) (Y.addi rfl rfl ⟨by omega, by omega⟩) ?_
      refine Ops.y (v := .int .i64 _) (Y.assign rfl) ?_
      refine Ops.nil ?_
      exact ⟨j + 1, ⟨⟨rfl, rfl, rfl, rfl, rfl, rfl, trivial⟩, I, hj1⟩, by omega⟩
    refine WP.exit ?_
    refine WP.region ?_
    refine Ops.y (v := .int .i64 _) (Y.move rfl) ?_
    refine Ops.y (v := .int .i64 _) (Y.addi rfl rfl ⟨by omega, by omega⟩) ?_
    refine Ops.y (v := .int .i64 _) (Y.assign rfl) ?_
    refine Ops.nil ?_
    exact ⟨k + 1, ⟨⟨rfl, rfl, rfl, trivial⟩, ⟨h1, gl.trans hl, I.weak ((List.sublist_cons_self _ _).trans (List.sublist_cons_self _ _))⟩, hk'⟩, by omega⟩
  refine WP.exit ?_
  refine WP.seq ?_
  refine WP.region ?_
  refine Ops.y (v := .bool _) (Y.assign rfl) ?_
  refine Ops.nil ?_
  refine WP.ret ?_
  repeat (first | refine thenE_ret ?_ | refine blockE_ret ?_)
  exact retQ.mk (vs := [.bool _]) rfl ⟨rfl, trivial⟩ I.ext_of (by simp only [tup]; rw [decide_eq_true hpq])
end Go.TF
end
