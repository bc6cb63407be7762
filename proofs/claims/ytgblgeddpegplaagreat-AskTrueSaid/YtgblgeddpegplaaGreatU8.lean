/- Texts Ask2 RoadsM Prog10 ProgLaw ProgLaw2 Nai2 Ask3 Ask4. -/
import Derived.Test.YtgblgeddpegplaaGreatU7
import Derived.Test.YtgblgeddpegplaaGreatU3
import Derived.Test.YtgblgeddpegplaaGreatU6
section
/- Match and Only: the program's answers and the document's. -/
namespace Go.TF
open Go Go.RowKit Go.Proofs
set_option maxRecDepth 20000

theorem keep_filter {α : Type} (p : α → Bool) (xs : List α) : keepL (fun x => !p x) xs = xs.filter p := by unfold keepL; simp
theorem matchM1_ok (a : Atm) (b : Nat) (g : List Fct) {h : Heap} (kb : Known h b a.enc) (ha : a.In h) (h2 : a.args.xs.length ≤ 2) : PredFn Tryz.prog 111 [] [.pointer (some ⟨b, 0, none⟩)] h Fct.val g (fun x => !fitB a x) := by
  intro B hB hle x _
  have kb := kb.le hle
  have ha := ha.le hle
  show Fn Tryz.prog 111 [x.val, .pointer (some ⟨b, 0, none⟩)] B _
  refine Fn.of Tryz.func111 rfl Tryz.ntmps111 (by kernel_rfl) (by simp) ?_
  intro e
  have I := Inv.start hB
  refine WP.seq ?_
  refine WP.region ?_
  refine Ops.go (O.box (v := .agg #[_, _, _, _]) I rfl rfl ?_)
  intro b2 w I
  refine Ops.y (v := .bool _) (Y.assign rfl) ?_
  refine Ops.nil ?_
  refine WP.seq ?_
  refine WP.region ?_
  refine Ops.y (v := .agg #[_, _]) (Y.loadv ty_65 rfl (I.rd (kb.rd.part 0 2)) rfl rfl) ?_
  refine Ops.y (v := .agg #[_, _, _, _]) (Y.loadv ty_52 rfl (I.rdbox 0 rfl 0 4) rfl rfl) ?_
  refine Ops.go (O.callv I Tryz.call112 (Fits_ok _ I.base_ok a ha h2 x) rfl ?_)
  intro w I
  refine Ops.y (v := .bool _) (Y.not rfl) ?_
  refine Ops.y (v := .bool _) (Y.assign rfl) ?_
  refine Ops.nil ?_
  refine WP.ret ?_
  repeat (first | refine thenE_ret ?_ | refine blockE_ret ?_)
  exact retQ.mk (vs := [.bool _]) rfl ⟨rfl, trivial⟩ I.ext_of (rfl)
def MatP (r : List Fct × Int) (v : Value) (h : Heap) : Prop := ∃ s : Sl Fct, v = .tuple #[s.val, .int .i64 r.2] ∧ s.xs = r.1 ∧ Fcts s h
set_option maxHeartbeats 4000000 in
theorem Match_ok (B : Base) (hB : B.ok) (p : Prg) (hp : p.In B.h) (hnm : p.Nm) (f : Sl Fct) (hf : Fcts f B.h) (a : Atm) (ha : a.In B.h) : Fn Tryz.prog 51 [p.val, f.val, a.val] B (MatP (matchOf p f.xs a)) := by
  refine Fn.of Tryz.func51 rfl Tryz.ntmps51 (by kernel_rfl) (by simp) ?_
  intro e
  have I := Inv.start hB
  refine WP.seq ?_
  refine WP.region ?_
  refine Ops.go (O.box (v := .agg #[_, _]) I rfl rfl ?_)
  intro b3 w I
  refine Ops.go (O.box (v := .agg #[_, _]) I rfl rfl ?_)
  intro b5 w I
  refine Ops.y (v := .slice _ _ _) (Y.assign rfl) ?_
  refine Ops.y (v := .int .i64 _) (Y.assign rfl) ?_
  refine Ops.nil ?_
  refine WP.seq ?_
  refine WP.seq ?_
  refine WP.region ?_
  refine Ops.y (v := .agg #[_, _]) (Y.loadv ty_25 rfl (I.rdbox 1 rfl 0 2) rfl rfl) ?_
  refine Ops.go (O.callv I Tryz.call56 (PCheck_ok _ I.base_ok p hp hnm) rfl ?_)
  intro w I
  refine Ops.y (v := .int .i64 _) (Y.assign rfl) ?_
  refine Ops.nil ?_
  refine WP.seq ?_
  refine WP.region ?_
  refine Ops.y (v := .int .i64 _) (Y.move rfl) ?_
  refine Ops.y (v := .bool (decide _)) (Y.nei rfl rfl) ?_
  refine Ops.nil ?_
  refine WP.cond_dec rfl (fun h2 => ?_) (fun h2 => ?_)
  · refine WP.seq ?_
    refine WP.region ?_
    refine Ops.y (v := .int .i64 _) (Y.move rfl) ?_
    refine Ops.y (v := .slice _ _ _) (Y.assign rfl) ?_
    refine Ops.y (v := .int .i64 _) (Y.assign rfl) ?_
    refine Ops.nil ?_
    refine WP.ret ?_
    repeat (first | refine thenE_ret ?_ | refine blockE_ret ?_)
    exact retQ.mk (vs := [.slice _ _ _, .int .i64 _]) rfl ⟨rfl, rfl, trivial⟩ I.ext_of (by unfold matchOf askR; rw [if_pos h2, if_pos h2]; exact ⟨⟨none, 0, []⟩, rfl, rfl, nilF⟩)
  have hpr := Decidable.not_not.1 h2
  have hA : askR p f.xs = checkFacts p.preds.xs f.xs := by unfold askR; rw [if_neg h2]
  refine WP.skip ?_
  refine WP.seq ?_
  refine WP.seq ?_
  refine WP.region ?_
  refine Ops.y (v := .pointer (some ⟨_, _, none⟩)) (Y.fa0 fa_25_0 rfl) ?_
  refine Ops.y (v := .slice _ _ _) (Y.loadv ty_22 rfl (I.rdbox 1 rfl 0 1) rfl rfl) ?_
  refine Ops.y (v := .slice _ _ _) (Y.move rfl) ?_
  refine Ops.go (O.callv I Tryz.call45 (BCheck_ok _ I.base_ok p.preds hp.preds f hf) rfl ?_)
  intro w I
  refine Ops.y (v := .int .i64 _) (Y.assign rfl) ?_
  refine Ops.nil ?_
  refine WP.seq ?_
  refine WP.region ?_
  refine Ops.y (v := .int .i64 _) (Y.move rfl) ?_
  refine Ops.y (v := .bool (decide _)) (Y.nei rfl rfl) ?_
  refine Ops.nil ?_
  refine WP.cond_dec rfl (fun h5 => ?_) (fun h5 => ?_)
  · refine WP.seq ?_
    refine WP.region ?_
    refine Ops.y (v := .int .i64 _) (Y.move rfl) ?_
    refine Ops.y (v := .slice _ _ _) (Y.assign rfl) ?_
    refine Ops.y (v := .int .i64 _) (Y.assign rfl) ?_
    refine Ops.nil ?_
    refine WP.ret ?_
    repeat (first | refine thenE_ret ?_ | refine blockE_ret ?_)
    exact retQ.mk (vs := [.slice _ _ _, .int .i64 _]) rfl ⟨rfl, rfl, trivial⟩ I.ext_of (by unfold matchOf; rw [hA, if_pos h5]; exact ⟨⟨none, 0, []⟩, rfl, rfl, nilF⟩)
  have okf := checkFacts_ok.1 (Decidable.not_not.1 h5)
  have h125 := okf.le125
  refine WP.skip ?_
  refine WP.seq ?_
  refine WP.seq ?_
  refine WP.region ?_
  refine Ops.y (v := .pointer (some ⟨_, _, none⟩)) (Y.fa0 fa_25_0 rfl) ?_
  refine Ops.y (v := .slice _ _ _) (Y.loadv ty_22 rfl (I.rdbox 1 rfl 0 1) rfl rfl) ?_
  refine Ops.y (v := .agg #[_, _]) (Y.loadv ty_65 rfl (I.rdbox 0 rfl 0 2) rfl rfl) ?_
  refine Ops.go (O.callv I Tryz.call110 (Atom_ok _ I.base_ok p.preds hp.preds a ha) rfl ?_)
  intro w I
  refine Ops.y (v := .int .i64 _) (Y.assign rfl) ?_
  refine Ops.nil ?_
  refine WP.seq ?_
  refine WP.region ?_
  refine Ops.y (v := .int .i64 _) (Y.move rfl) ?_
  refine Ops.y (v := .bool (decide _)) (Y.nei rfl rfl) ?_
  refine Ops.nil ?_
  refine WP.cond_dec rfl (fun h8 => ?_) (fun h8 => ?_)
  · refine WP.seq ?_
    refine WP.region ?_
    refine Ops.y (v := .int .i64 _) (Y.move rfl) ?_
    refine Ops.y (v := .slice _ _ _) (Y.assign rfl) ?_
    refine Ops.y (v := .int .i64 _) (Y.assign rfl) ?_
    refine Ops.nil ?_
    refine WP.ret ?_
    repeat (first | refine thenE_ret ?_ | refine blockE_ret ?_)
    exact retQ.mk (vs := [.slice _ _ _, .int .i64 _]) rfl ⟨rfl, rfl, trivial⟩ I.ext_of (by unfold matchOf; rw [hA, if_neg h5, if_pos h8]; exact ⟨⟨none, 0, []⟩, rfl, rfl, nilF⟩)
  have h8' := Decidable.not_not.1 h8
  have ao := aok_of okf.preds h8'
  obtain ⟨h6, le6, _, kb5, I, _, _⟩ := I.lend
  have hB6 := I.ext
  refine WP.skip ?_
  refine WP.seq ?_
  refine WP.region ?_
  refine Ops.y (v := .slice _ _ _) (Y.move rfl) ?_
  refine Ops.go (O.call I Tryz.call63 (CloneFct_ok _ I.base_ok f (hf.le le6) (by omega)) rfl ?_)
  rintro _ h7 w I le7 ⟨gs, rfl, eg, og, _⟩
  obtain ⟨h9, I, mono9, _⟩ := I.unsettle og hB6
  rw [eg] at I
  have gl9 : h6.le h9 := mono9 _ le7 (Heap.le.refl _)
  refine Ops.y (v := .func (.func 111) #[] #[.pointer (some ⟨b5, 0, none⟩)]) (Y.mkfunc rfl rfl) ?_
  refine Ops.go (O.calls Tryz.call68 (DeleteFct_v I rfl (by omega) 111 Tryz.call111 [] [.pointer (some ⟨b5, 0, none⟩)] (fun x => !fitB a x) (matchM1_ok a b5 f.xs (kb5.le gl9) ((ha.le le6).le gl9) ao.len)) rfl ?_)
  rintro ed w ⟨v, m, rfl, rfl, I⟩
  refine ⟨_, rfl, ?_⟩
  refine Ops.y (v := v) (Y.assign rfl) ?_
  refine Ops.y (v := .int .i64 _) (Y.assign rfl) ?_
  refine Ops.nil ?_
  obtain ⟨h10, s, le10, rfl, hx, is, I⟩ := I.settleSl Fct_len rfl
  rw [keep_filter] at hx
  have hsl : s.xs.length ≤ f.xs.length := by rw [hx]; exact List.length_filter_le ..
  refine WP.ret ?_
  repeat (first | refine thenE_ret ?_ | refine blockE_ret ?_)
  exact retQ.mk (vs := [.slice _ _ _, .int .i64 _]) rfl ⟨rfl, rfl, trivial⟩ I.ext_of (by unfold matchOf; rw [hA, if_neg h5, if_neg h8]; exact ⟨s, rfl, hx, is, by omega⟩)
theorem take_filter {α : Type} (q : α → Bool) {l : List α} {k : Nat} (hk : k < l.length) : (l.take (k + 1)).filter q = (l.take k).filter q ++ if q l[k] = true then [l[k]] else [] := by
  rw [List.take_succ_eq_append_getElem hk, List.filter_append]
  congr 1
  by_cases h : q l[k] = true
  · rw [if_pos h, List.filter_cons, if_pos h]; rfl
  · rw [if_neg h, List.filter_cons, if_neg h]; rfl
/-! ### Only -/
structure OnlQ (p : Prg) (pr : Int) (l : List Fct) : Prop where
  ex : ∃ q N g rs, Only p q N ∧ bv N pr = true ∧ ModK q (strataM q) (numS (strataM q)) g rs ∧ l = g.filter fun x => decide (x.pred = pr)
theorem OnlQ.eq {p : Prg} {pr : Int} {l f : List Fct} {rs : List Int} (o : OnlQ p pr l) (m : ModK p (strataM p) (numS (strataM p)) f rs) : l = f.filter fun x => decide (x.pred = pr) := by
  obtain ⟨q, N, g, rs', on, hb, mg, rfl⟩ := o.ex
  rw [on.model m mg, List.filter_filter]
  congr 1
  funext x
  by_cases h : x.pred = pr
  · rw [decide_eq_true h, Bool.true_and]; unfold nd; rw [h, hb]
  · rw [decide_eq_false h, Bool.false_and]
noncomputable def onlE (p : Prg) (pr : Int) : Int := if checkProg p ≠ 0 then checkProg p else if pr < 0 ∨ (p.preds.xs.length : Int) ≤ pr then 7 else 0
def OnlP (p : Prg) (pr : Int) (v : Value) (h : Heap) : Prop := (onlE p pr ≠ 0 ∧ v = .tuple #[.slice none 0 0, .int .i64 (onlE p pr)]) ∨ (onlE p pr = 0 ∧ ∃ s : Sl Fct, v = .tuple #[s.val, .int .i64 0] ∧ Fcts s h ∧ OnlQ p pr s.xs)
theorem only_of {p q : Prg} {N : List Bool} {pr : Int} (hpr : checkProg p = 0) (hN : NeedsR (usesL p.rules.xs) p.preds.xs.length pr N) (hp : q.preds.xs = p.preds.xs) (hr : q.rules.xs = p.rules.xs.filter fun r => bv N r.head.pred) : Only p q N := by
  obtain ⟨k1, k2, k3, _, _⟩ := checkProg_ok hpr
  have hm : ∀ r, r ∈ q.rules.xs ↔ r ∈ p.rules.xs ∧ bv N r.head.pred = true := fun r => by rw [hr]; exact List.mem_filter
  refine ⟨hp, hm, hpr, checkProg_sub hp (by rw [hr]; exact Nat.le_trans (List.length_filter_le ..) k2) (fun r h => ((hm r).1 h).1) hpr, fun c hc hb => ?_⟩
  obtain ⟨a0, a1⟩ := (inR_of k3).h c hc
  obtain ⟨b0, b1⟩ := (inR_of k3).b c hc
  exact (hN.iff _ b0 b1).2 (.step ((hN.iff _ a0 a1).1 hb) ⟨c, hc, rfl, rfl⟩)
theorem only_in {p : Prg} {h : Heap} {N : List Bool} {pr : Int} {s : Sl Rul} (hpr : checkProg p = 0) (hN : NeedsR (usesL p.rules.xs) p.preds.xs.length pr N) (hp : p.In h) (is : s.In 5 Rul.enc h) (hx : s.xs = p.rules.xs.filter fun r => bv N r.head.pred) : Prg.In ⟨p.preds, s⟩ h ∧ Only p ⟨p.preds, s⟩ N := by
  refine ⟨⟨hp.preds, ⟨⟨is, ?_⟩, fun r hr => hp.rules.each r ?_⟩⟩, only_of hpr hN rfl hx⟩
  · have h8 := (checkProg_ok hpr).2.1
    show s.xs.length ≤ _
    have : s.xs.length ≤ p.rules.xs.length := by rw [hx]; exact List.length_filter_le ..
    omega
  · have hr : r ∈ s.xs := hr
    rw [hx] at hr
    exact (List.mem_filter.1 hr).1
theorem onlyM1_ok (b : Nat) (N : Sl Bool) (g : List Rul) {h : Heap} (kb : Known h b [N.val]) (hN : N.Is 1 bEnc h) (hg : ∀ r ∈ g, 0 ≤ r.head.pred ∧ r.head.pred < N.xs.length) : PredFn Tryz.prog 118 [] [.pointer (some ⟨b, 0, none⟩)] h Rul.val g (fun r => !bv N.xs r.head.pred) := by
  intro B hB hle r hr
  have kb := kb.le hle
  have hN := hN.le hle
  obtain ⟨i0, i1⟩ := hg r hr
  have E := hN.el.el (bv_some rfl i0 i1)
  show Fn Tryz.prog 118 [r.val, .pointer (some ⟨b, 0, none⟩)] B _
  refine Fn.of Tryz.func118 rfl Tryz.ntmps118 (by kernel_rfl) (by simp) ?_
  intro e
  have I := Inv.start hB
  refine WP.seq ?_
  refine WP.region ?_
  refine Ops.go (O.box (v := .agg #[_, _, _, _, _]) I rfl rfl ?_)
  intro b2 w I
  refine Ops.y (v := .bool _) (Y.assign rfl) ?_
  refine Ops.nil ?_
  refine WP.seq ?_
  refine WP.region ?_
  refine Ops.y (v := .slice _ _ _) (Y.loadv ty_149 rfl (I.rd (kb.rd.part 0 1)) rfl rfl) ?_
  refine Ops.y (v := .pointer (some ⟨_, _, none⟩)) (Y.fa0 fa_68_0 rfl) ?_
  refine Ops.y (v := .pointer (some ⟨_, _, none⟩)) (Y.fa0 fa_65_0 rfl) ?_
  refine Ops.y (v := .int .i64 _) (Y.loadv ty_3 rfl (I.rdbox 0 rfl 0 1) rfl rfl) ?_
  refine Ops.y (v := .pointer (some ⟨_, _, none⟩)) (Y.idxEl E Tryz.underlying149 Tryz.sizeOf4 rfl rfl i0 rfl) ?_
  refine Ops.y (v := .bool _) (Y.loadv ty_4 rfl (I.rd (E.rd.part 0 1)) rfl rfl) ?_
  refine Ops.y (v := .bool _) (Y.not rfl) ?_
  refine Ops.y (v := .bool _) (Y.assign rfl) ?_
  refine Ops.nil ?_
  refine WP.ret ?_
  repeat (first | refine thenE_ret ?_ | refine blockE_ret ?_)
  exact retQ.mk (vs := [.bool _]) rfl ⟨rfl, trivial⟩ I.ext_of (rfl)
theorem onlyM2_ok (b : Nat) (pr : Int) (g : List Fct) {h : Heap} (kb : Known h b [.int .i64 pr]) : PredFn Tryz.prog 119 [] [.pointer (some ⟨b, 0, none⟩)] h Fct.val g (fun x => !decide (x.pred = pr)) := by
  intro B hB hle x _
  have kb := kb.le hle
  show Fn Tryz.prog 119 [x.val, .pointer (some ⟨b, 0, none⟩)] B _
  refine Fn.of Tryz.func119 rfl Tryz.ntmps119 (by kernel_rfl) (by simp) ?_
  intro e
  have I := Inv.start hB
  refine WP.seq ?_
  refine WP.region ?_
  refine Ops.go (O.box (v := .agg #[_, _, _, _]) I rfl rfl ?_)
  intro b2 w I
  refine Ops.y (v := .bool _) (Y.assign rfl) ?_
  refine Ops.nil ?_
  refine WP.seq ?_
  refine WP.region ?_
  refine Ops.y (v := .pointer (some ⟨_, _, none⟩)) (Y.fa0 fa_52_0 rfl) ?_
  refine Ops.y (v := .int .i64 _) (Y.loadv ty_3 rfl (I.rdbox 0 rfl 0 1) rfl rfl) ?_
  refine Ops.y (v := .int .i64 _) (Y.loadv ty_3 rfl (I.rd (kb.rd.part 0 1)) rfl rfl) ?_
  refine Ops.y (v := .bool (decide _)) (Y.nei rfl rfl) ?_
  refine Ops.y (v := .bool _) (Y.assign rfl) ?_
  refine Ops.nil ?_
  refine WP.ret ?_
  repeat (first | refine thenE_ret ?_ | refine blockE_ret ?_)
  exact retQ.mk (vs := [.bool _]) rfl ⟨rfl, trivial⟩ I.ext_of (by simp only [tup]; exact congrArg Value.bool (by simp))
theorem needs_err {p : Prg} {pr : Int} {v : Value} {h : Heap} (he : onlE p pr ≠ 0) (hN : NeeP p pr v h) : v = .tuple #[.slice none 0 0, .int .i64 (onlE p pr)] := by
  unfold onlE at he ⊢
  rcases hN with ⟨h1, rfl⟩ | ⟨h1, h2, rfl⟩ | ⟨h1, h2, _⟩
  · rw [if_pos h1]
  · rw [if_neg (fun h => h h1), if_pos h2]
  · rw [if_neg (fun h => h h1), if_neg (by omega)] at he
    exact absurd rfl he
theorem needs_fine {p : Prg} {pr : Int} {v : Value} {h : Heap} (he : onlE p pr = 0) (hN : NeeP p pr v h) : checkProg p = 0 ∧ (0 ≤ pr ∧ pr < p.preds.xs.length) ∧ ∃ s : Sl Bool, NeedsR (usesL p.rules.xs) p.preds.xs.length pr s.xs ∧ s.Is 1 bEnc h ∧ v = .tuple #[s.val, .int .i64 0] := by
  unfold onlE at he
  rcases hN with ⟨h1, rfl⟩ | ⟨h1, h2, rfl⟩ | hN
  · rw [if_pos h1] at he; exact absurd he h1
  · rw [if_neg (fun h => h h1), if_pos h2] at he; cases he
  · exact hN
set_option maxHeartbeats 8000000 in
theorem AOnly_ok (B : Base) (hB : B.ok) (p : Prg) (hp : p.In B.h) (hnm : p.Nm) (pr : Int) : Fn Tryz.prog 54 [p.val, .int .i64 pr] B (OnlP p pr) := by
  refine Fn.of Tryz.func54 rfl Tryz.ntmps54 (by kernel_rfl) (by simp) ?_
  intro e
  have I := Inv.start hB
  refine WP.seq ?_
  refine WP.region ?_
  refine Ops.go (O.box (v := .agg #[_, _]) I rfl rfl ?_)
  intro b2 w I
  refine Ops.go (O.box (v := .int .i64 _) I rfl rfl ?_)
  intro b3 w I
  refine Ops.y (v := .slice _ _ _) (Y.assign rfl) ?_
  refine Ops.y (v := .int .i64 _) (Y.assign rfl) ?_
  refine Ops.nil ?_
  by_cases he : onlE p pr ≠ 0
  · refine WP.seq ?_
    refine WP.region ?_
    refine Ops.y (v := .agg #[_, _]) (Y.loadv ty_25 rfl (I.rdbox 1 rfl 0 2) rfl rfl) ?_
    refine Ops.y (v := .int .i64 _) (Y.loadv ty_3 rfl (I.rdbox 0 rfl 0 1) rfl rfl) ?_
    refine Ops.go (O.call I Tryz.call116 (Needs_ok _ I.base_ok p hp hnm pr) rfl ?_)
    rintro v14 h1 w I le1 hN
    obtain rfl := needs_err he hN
    refine Ops.y (v := .tuple #[_, _]) (Y.move rfl) ?_
    refine Ops.y (v := .slice _ _ _) (Y.extract rfl rfl) ?_
    refine Ops.y (v := .int .i64 _) (Y.extract rfl rfl) ?_
    refine Ops.go (O.alloc I Tryz.zeroValue149 rfl ?_)
    intro b6 w I
    refine Ops.go (O.store (v := .slice _ _ _) I ty_149 0 rfl rfl rfl rfl rfl rfl (Nat.le_of_ble_eq_true rfl) rfl ?_)
    intro w I
    refine Ops.y (v := .int .i64 _) (Y.assign rfl) ?_
    refine Ops.nil ?_
    refine WP.seq ?_
    refine WP.seq ?_
    refine WP.region ?_
    refine Ops.y (v := .int .i64 _) (Y.move rfl) ?_
    refine Ops.y (v := .bool (decide _)) (Y.nei rfl rfl) ?_
    refine Ops.nil ?_
    refine WP.cond_decT rfl (he) ?_
    refine WP.seq ?_
    refine WP.region ?_
    refine Ops.y (v := .int .i64 _) (Y.move rfl) ?_
    refine Ops.y (v := .slice _ _ _) (Y.assign rfl) ?_
    refine Ops.y (v := .int .i64 _) (Y.assign rfl) ?_
    refine Ops.nil ?_
    refine WP.ret ?_
    repeat (first | refine thenE_ret ?_ | refine blockE_ret ?_)
    exact retQ.mk (vs := [.slice _ _ _, .int .i64 _]) rfl ⟨rfl, rfl, trivial⟩ I.ext_of (.inl ⟨he, rfl⟩)
  have he := Decidable.not_not.1 he
  refine WP.seq ?_
  refine WP.region ?_
  refine Ops.y (v := .agg #[_, _]) (Y.loadv ty_25 rfl (I.rdbox 1 rfl 0 2) rfl rfl) ?_
  refine Ops.y (v := .int .i64 _) (Y.loadv ty_3 rfl (I.rdbox 0 rfl 0 1) rfl rfl) ?_
  refine Ops.go (O.call I Tryz.call116 (Needs_ok _ I.base_ok p hp hnm pr) rfl ?_)
  rintro v14 h1 w I le1 hN
  obtain ⟨hpr, ⟨q0, q1⟩, N, hR, iN, rfl⟩ := needs_fine he hN
  refine Ops.y (v := .tuple #[_, _]) (Y.move rfl) ?_
  refine Ops.y (v := .slice _ _ _) (Y.extract rfl rfl) ?_
  refine Ops.y (v := .int .i64 _) (Y.extract rfl rfl) ?_
  refine Ops.go (O.alloc I Tryz.zeroValue149 rfl ?_)
  intro b6 w I
  refine Ops.go (O.store (v := .slice _ _ _) I ty_149 0 rfl rfl rfl rfl rfl rfl (Nat.le_of_ble_eq_true rfl) rfl ?_)
  intro w I
  refine Ops.y (v := .int .i64 _) (Y.assign rfl) ?_
  refine Ops.nil ?_
  obtain ⟨n5, n8, k3, _, _⟩ := checkProg_ok hpr
  have hin := heads_in k3
  have hp1 := hp.le le1
  refine WP.seq ?_
  refine WP.seq ?_
  refine WP.region ?_
  refine Ops.y (v := .int .i64 _) (Y.move rfl) ?_
  refine Ops.y (v := .bool (decide _)) (Y.nei rfl rfl) ?_
  refine Ops.nil ?_
  refine WP.cond_decF rfl ((fun h => h rfl)) ?_
  refine WP.skip ?_
  refine WP.seq ?_
  refine WP.region ?_
  refine Ops.y (v := .agg #[_, _]) (Y.loadv ty_25 rfl (I.rdbox 2 rfl 0 2) rfl rfl) ?_
  refine Ops.go (O.alloc I Tryz.zeroValue25 rfl ?_)
  intro b8 w I
  refine Ops.go (O.store (v := .agg #[_, _]) I ty_25 0 rfl rfl rfl rfl rfl rfl (Nat.le_of_ble_eq_true rfl) rfl ?_)
  intro w I
  refine Ops.nil ?_
  obtain ⟨h6, le6, _, kb6, I, _, _⟩ := (I.front 1 rfl).lend
  obtain ⟨h7, le7, _, kb3, I, _, _⟩ := (I.front 1 rfl).lend
  have hB7 := I.ext
  have hp7 := (hp1.le le6).le le7
  have iN7 := (iN.le le6).le le7
  refine WP.seq ?_
  refine WP.region ?_
  refine Ops.y (v := .pointer (some ⟨_, _, none⟩)) (Y.fa fa_25_1 rfl) ?_
  refine Ops.y (v := .slice _ _ _) (Y.loadv ty_23 rfl (I.rdbox 1 rfl 1 1) rfl rfl) ?_
  refine Ops.go (O.call I Tryz.call99 (CloneRul_ok _ I.base_ok p.rules hp7.rules.is (by omega)) rfl ?_)
  rintro _ h8 w I le8 ⟨gs, rfl, eg, og, _⟩
  obtain ⟨h9, I, mono9, _⟩ := I.unsettle og hB7
  rw [eg] at I
  have gl9 : h7.le h9 := mono9 _ le8 (Heap.le.refl _)
  refine Ops.y (v := .func (.func 118) #[] #[.pointer (some ⟨b6, 0, none⟩)]) (Y.mkfunc rfl rfl) ?_
  refine Ops.go (O.calls Tryz.call117 (DeleteRul_v I rfl (by omega) 118 Tryz.call118 [] [.pointer (some ⟨b6, 0, none⟩)] (fun r => !bv N.xs r.head.pred) (onlyM1_ok b6 N p.rules.xs ((kb6.le le7).le gl9) (iN7.le gl9) (fun r hr => by rw [hR.len]; exact hin r hr))) rfl ?_)
  rintro ed w ⟨v5, m5, rfl, rfl, I⟩
  refine ⟨_, rfl, ?_⟩
  rw [keep_filter] at I
  refine Ops.y (v := .pointer (some ⟨_, _, none⟩)) (Y.fa fa_25_1 rfl) ?_
  obtain ⟨h10, sq, le10, rfl, hx, is, I⟩ := I.settleSl Rul_len rfl
  refine Ops.go (O.store (v := sq.val) I ty_23 0 rfl rfl rfl rfl rfl rfl (Nat.le_of_ble_eq_true rfl) rfl ?_)
  intro w I
  refine Ops.nil ?_
  have gl10 : h7.le h10 := gl9.trans le10
  obtain ⟨qi, on⟩ := only_in hpr hR (hp7.le gl10) is hx
  refine WP.seq ?_
  refine WP.region ?_
  refine Ops.y (v := .agg #[_, _]) (Y.loadv ty_25 rfl (I.rdbox 0 rfl 0 2) rfl rfl) ?_
  refine Ops.go (O.call I Tryz.call86 (Reckon_own _ I.base_ok ⟨p.preds, sq⟩ qi on.cq) rfl ?_)
  rintro _ h11 w I le11 ⟨f, r, rfl, hf, hr, hm, of⟩
  refine Ops.y (v := .tuple #[_, _]) (Y.move rfl) ?_
  refine Ops.y (v := .slice _ _ _) (Y.extract rfl rfl) ?_
  refine Ops.y (v := .slice _ _ _) (Y.extract rfl rfl) ?_
  refine Ops.y (v := .slice _ _ _) (Y.assign rfl) ?_
  refine Ops.y (v := .slice _ _ _) (Y.assign rfl) ?_
  refine Ops.nil ?_
  have okf := (modK_mj (chk_rok on.cq) (strataM_least on.cq).sol (chk_nil on.cq) hm).fok
  have h125 := okf.le125
  obtain ⟨h12, I, mono12, _⟩ := I.unsettle of (hB7.trans gl10)
  have gl12 : h7.le h12 := mono12 _ (gl10.trans le11) gl10
  refine WP.seq ?_
  refine WP.region ?_
  refine Ops.y (v := .slice _ _ _) (Y.move rfl) ?_
  refine Ops.y (v := .func (.func 119) #[] #[.pointer (some ⟨b3, 0, none⟩)]) (Y.mkfunc rfl rfl) ?_
  refine Ops.go (O.calls Tryz.call68 (DeleteFct_v I rfl (by omega) 119 Tryz.call119 [] [.pointer (some ⟨b3, 0, none⟩)] (fun x => !decide (x.pred = pr)) (onlyM2_ok b3 pr f.xs (kb3.le gl12))) rfl ?_)
  rintro ed w ⟨v7, m7, rfl, rfl, I⟩
  refine ⟨_, rfl, ?_⟩
  refine Ops.y (v := v7) (Y.assign rfl) ?_
  refine Ops.y (v := .int .i64 _) (Y.assign rfl) ?_
  refine Ops.nil ?_
  rw [keep_filter] at I
  obtain ⟨h13, s, le13, rfl, hxs, iss, I⟩ := I.settleSl Fct_len rfl
  have hsl : s.xs.length ≤ f.xs.length := by rw [hxs]; exact List.length_filter_le ..
  refine WP.ret ?_
  repeat (first | refine thenE_ret ?_ | refine blockE_ret ?_)
  exact retQ.mk (vs := [.slice _ _ _, .int .i64 _]) rfl ⟨rfl, rfl, trivial⟩ I.ext_of (.inr ⟨he, s, rfl, ⟨iss, by omega⟩, ⟨_, N.xs, f.xs, r.xs, on, (hR.iff pr q0 q1).2 .refl, hm, hxs⟩⟩)
end Go.TF
end
section
/- The roads, their arrays the caller's own. -/
namespace Go.TF
open Go Go.RowKit Go.Proofs
set_option maxRecDepth 20000

def prC : List Prd := [⟨bEdge, 2, 0⟩, ⟨bFar, 2, 2⟩, ⟨bLone, 1, 0⟩]
structure RoadsM (v : Value) (h : Heap) (M : List SA) (bp br : Nat) (r0 r1 r2 r3 r4 r5 r6 : Rul) : Prop where
  val : v = .agg #[.slice (some ⟨bp, 0, none⟩) 3 3, .slice (some ⟨br, 0, none⟩) 7 7]
  own : M = [box br ([r0, r1, r2, r3, r4, r5, r6].flatMap Rul.enc) 68, box bp (prC.flatMap Prd.enc) 62]
  is : ∀ x ∈ [r0, r1, r2, r3, r4, r5, r6], x.In h
  cap : ∀ x ∈ [r0, r1, r2, r3, r4, r5, r6], x.body.xs.length ≤ x.body.cap
  er : [r0, r1, r2, r3, r4, r5, r6].map Rul.er = roadsC.rules.xs
end Go.TF
end
section
/- What the laws of programs begin with. -/
namespace Go.TF
open Go Go.RowKit Go.Proofs
set_option maxRecDepth 20000

def LtlS (x : Ltl) : Sp := fun u h => ∃ y : Ltl, u = y.val ∧ y.er = x ∧ y.In h
theorem LtlS.mono {x : Ltl} : MonoS (LtlS x) := fun _ _ _ hl ⟨s, a, b, c⟩ => ⟨s, a, b, c.le hl⟩
def LtlsS (xs : List Ltl) : Sp := fun u h => ∃ s : Sl Ltl, u = s.val ∧ s.xs.map Ltl.er = xs ∧ Ltls s h ∧ s.at_ = some ⟨s.blk, s.off, none⟩
theorem LtlsS.mono {xs : List Ltl} : MonoS (LtlsS xs) := fun _ _ _ hl ⟨s, a, b, c, d⟩ => ⟨s, a, b, c.le hl, d⟩
def LtlsF (xs : List Ltl) : Sp := fun u h => ∃ s : Sl Ltl, u = s.val ∧ s.xs.map Ltl.er = xs ∧ Ltls s h ∧ s.at_ = some ⟨s.blk, s.off, none⟩ ∧ s.cap = s.xs.length
theorem LtlsF.mono {xs : List Ltl} : MonoS (LtlsF xs) := fun _ _ _ hl ⟨s, a, b, c, d⟩ => ⟨s, a, b, c.le hl, d⟩
theorem RoadsAt.nm {p : Prg} {h : Heap} (x : RoadsAt p h) : p.Nm := by
  unfold Prg.Nm
  rw [x.preds]
  decide
theorem RoadsAt.check {p : Prg} {h : Heap} (x : RoadsAt p h) : checkProg p = 0 := by rw [← checkProg_er, x.er, roads_check]
theorem RoadsAt.uses {p : Prg} {h : Heap} (x : RoadsAt p h) : (usesL p.rules.xs).map cEr = usesL roadsC.rules.xs := by
  rw [← usesL_er]
  have := congrArg (fun q : Prg => q.rules.xs) x.er
  exact congrArg usesL this
theorem RoadsAt.len {p : Prg} {h : Heap} (x : RoadsAt p h) : p.preds.xs.length = 3 := by rw [x.preds]; rfl
end Go.TF
end
section
/- The laws of programs: each returns true. -/
namespace Go.TF
open Go Go.RowKit Go.Proofs
set_option maxRecDepth 20000

theorem PrgOk.nm {p : Prg} {h : Heap} (x : PrgOk p h) : p.Nm := fun y hy => by
  have := (x.preds.each y hy).name
  have h2 : reachBytes ≤ 140737488355328 := by decide
  omega
end Go.TF
end
section
/- The other two laws of programs: each returns true. -/
namespace Go.TF
open Go Go.RowKit Go.Proofs
set_option maxRecDepth 20000

def chooseI (c n : Int) : Int := (if c < 0 then -(c + 1) else c).tmod n
theorem chooseI_in {c n : Int} (hn : 0 < n) : 0 ≤ chooseI c n ∧ chooseI c n < n :=
  ⟨Int.tmod_nonneg _ (by split <;> omega), Int.tmod_lt_of_pos _ hn⟩
theorem choose_ok (B : Base) (hB : B.ok) (c n : Int) (hc : I64 c) (hn : 0 < n) : Fn Tryz.prog 46 [.int .i64 c, .int .i64 n] B (fun v _ => v = .int .i64 (chooseI c n)) := by
  unfold I64 at hc
  refine Fn.of Tryz.func46 rfl Tryz.ntmps46 (by kernel_rfl) (by simp) ?_
  intro e
  have I := Inv.start hB
  refine WP.seq ?_
  refine WP.region ?_
  refine Ops.y (v := .int .i64 _) (Y.assign rfl) ?_
  refine Ops.nil ?_
  refine WP.seq ?_
  refine WP.seq ?_
  refine WP.region ?_
  refine Ops.y (v := .int .i64 _) (Y.move rfl) ?_
  refine Ops.y (v := .bool (decide _)) (Y.lti rfl rfl) ?_
  refine Ops.nil ?_
  refine WP.cond_dec rfl (fun h => ?_) (fun h => ?_)
  · refine WP.region ?_
    refine Ops.y (v := .int .i64 _) (Y.move rfl) ?_
    refine Ops.y (v := .int .i64 _) (Y.addi rfl rfl ⟨by omega, by omega⟩) ?_
    refine Ops.y (v := .int .i64 _) (Y.negi rfl ⟨by omega, by omega⟩) ?_
    refine Ops.y (v := .int .i64 _) (Y.assign rfl) ?_
    refine Ops.nil ?_
    refine WP.seq ?_
    refine WP.region ?_
    refine Ops.y (v := .int .i64 _) (Y.move rfl) ?_
    refine Ops.y (v := .int .i64 _) (Y.move rfl) ?_
    refine Ops.y (v := .int .i64 _) (Y.remi rfl rfl (by omega)) ?_
    refine Ops.y (v := .int .i64 _) (Y.assign rfl) ?_
    refine Ops.nil ?_
    refine WP.ret ?_
    repeat (first | refine thenE_ret ?_ | refine blockE_ret ?_)
    exact retQ.mk (vs := [.int .i64 _]) rfl ⟨rfl, trivial⟩ I.ext_of (by simp only [tup, chooseI]; rw [if_pos h])
  · refine WP.skip ?_
    refine WP.seq ?_
    refine WP.region ?_
    refine Ops.y (v := .int .i64 _) (Y.move rfl) ?_
    refine Ops.y (v := .int .i64 _) (Y.move rfl) ?_
    refine Ops.y (v := .int .i64 _) (Y.remi rfl rfl (by omega)) ?_
    refine Ops.y (v := .int .i64 _) (Y.assign rfl) ?_
    refine Ops.nil ?_
    refine WP.ret ?_
    repeat (first | refine thenE_ret ?_ | refine blockE_ret ?_)
    exact retQ.mk (vs := [.int .i64 _]) rfl ⟨rfl, trivial⟩ I.ext_of (by simp only [tup, chooseI]; rw [if_neg h])
def Asked (L : List Int) (k : Int) (cs : List (Int × Ltl)) : Prop := lv L k = 0 ∨ ∃ c ∈ cs, c.1 = k ∧ lv L k = lst L c
theorem Least.asked {cs : List (Int × Ltl)} {n : Nat} {L : List Int} (hr : InR cs n) (h : Least cs n L) {k : Int} (k0 : 0 ≤ k) (k1 : k < n) : Asked L k cs := by
  refine Classical.byContradiction fun hno => ?_
  unfold Asked at hno
  have hz : lv L k ≠ 0 := fun e => hno (.inl e)
  have hc : ∀ c ∈ cs, c.1 = k → lv L k ≠ lst L c := fun c hc e e2 => hno (.inr ⟨c, hc, e, e2⟩)
  have hp := h.sol.pos k
  have hkl : k < L.length := by rw [h.sol.len]; exact k1
  have hle : ∀ i : Int, 0 ≤ i → lv (L.set k.toNat (lv L k - 1)) i ≤ lv L i := fun i h0 => by
    rw [lv_set k0 hkl _ _ h0]; split
    · rename_i e; subst e; omega
    · omega
  have hM : Sol cs n (L.set k.toNat (lv L k - 1)) := by
    refine ⟨by simp [h.sol.len], fun i => ?_, fun c hcm => ?_⟩
    · have key : ∀ i : Int, 0 ≤ i → 0 ≤ lv (L.set k.toNat (lv L k - 1)) i := fun i h0 => by
        rw [lv_set k0 hkl _ _ h0]; split
        · omega
        · exact h.sol.pos i
      by_cases h0 : 0 ≤ i
      · exact key i h0
      · rw [lv_neg _ (by omega)]; exact key 0 (Int.le_refl 0)
    · have hh := hr.h c hcm
      have hb := hr.b c hcm
      have hs := h.sol.sat c hcm
      have h2 := hle _ hb.1
      unfold SatC lst at hs ⊢
      rw [lv_set k0 hkl _ c.1 hh.1]
      split
      · rename_i e
        have := hc c hcm e
        unfold lst at this
        rw [e] at hs; omega
      · omega
  have := h.least _ hM k
  rw [lv_set k0 hkl _ _ k0, if_pos rfl] at this
  omega
theorem Least.lt {cs : List (Int × Ltl)} {n : Nat} {L : List Int} (hr : InR cs n) (h : Least cs n L) {i : Int} (h0 : 0 ≤ i) (h1 : i < n) : lv L i < n := by
  obtain ⟨M', hM', hlt⟩ := h.sol.small hr
  exact Int.lt_of_le_of_lt (h.least M' hM' i) (hlt i h0 h1)
theorem Reach.trans {cs : List (Int × Ltl)} {a b c : Int} (h : Reach cs a b) (k : Reach cs b c) : Reach cs a c := by
  induction k with
  | refl => exact h
  | step _ hu ih => exact .step ih hu
end Go.TF
end
section
/- The roads' model; what must be in any case of the model. -/
namespace Go.TF
open Go Go.RowKit Go.Proofs
set_option maxRecDepth 20000

def rdM0 : List Fct := ((cloF (turnT roadsC [0, 0, 1] 0) 8 []).getD ([], 0)).1
def rdM : List Fct := ((cloF (turnT roadsC [0, 0, 1] 1) 8 rdM0).getD ([], 0)).1
theorem rdM0_clo : cloF (turnT roadsC [0, 0, 1] 0) 8 [] = some (rdM0, 4) := by kernel_rfl
theorem rdM_clo : cloF (turnT roadsC [0, 0, 1] 1) 8 rdM0 = some (rdM, 1) := by kernel_rfl
section
variable {p : Prg} {h : Heap} (hp : RoadsAt p h)
include hp
theorem rd_ofQs (st : Int) (n : Nat) (hn : n < 7) : ofQ p [0, 0, 1] st n = ofQ roadsC [0, 0, 1] st n := by
  have h1 : (p.rules.xs.map Rul.er).getD n default = roadsC.rules.xs.getD n default := by rw [rd_rules hp]
  have h2 : n < p.rules.xs.length := by rw [rd_len hp]; exact hn
  rw [List.getD_eq_getElem?_getD, List.getElem?_map, List.getElem?_eq_getElem h2] at h1
  unfold ofQ
  rw [← h1, List.getD_eq_getElem?_getD, List.getElem?_eq_getElem h2]
  rfl
theorem rd_told (st : Int) (f : List Fct) : toldL p.preds.xs f p.rules.xs (ofQ p [0, 0, 1] st) = toldL roadsC.preds.xs f roadsC.rules.xs (ofQ roadsC [0, 0, 1] st) := by
  rw [rd_preds hp, ← rd_rules hp, toldL_er]
  exact toldK_congr fun n hn => rd_ofQs hp st n (by rw [rd_len hp] at hn; exact hn)
theorem rd_turn (st : Int) : turnT p [0, 0, 1] st = turnT roadsC [0, 0, 1] st := by
  funext f
  unfold turnT
  rw [rd_told hp, rd_preds hp]
theorem rd_mod : ModK p (strataM p) (numS (strataM p)) rdM [4, 1] := by
  rw [rd_strata hp, show numS [0, 0, 1] = 2 by decide]
  refine ⟨rdM0, [4], 1, ⟨[], [], 4, ⟨rfl, rfl⟩, ?_, rfl⟩, ?_, rfl⟩
  · rw [rd_turn hp]; exact cloF_clo rdM0_clo
  · rw [rd_turn hp]; exact cloF_clo rdM_clo
end
end Go.TF
end
section
/- What must be of questions in any case; the laws of Match and Only. -/
namespace Go.TF
open Go Go.RowKit Go.Proofs
set_option maxRecDepth 20000

theorem Match_at (B : Base) (hB : B.ok) (p : Prg) (hp : p.In B.h) (hnm : p.Nm) (f : Sl Fct) (hf : Fcts f B.h) (a : Atm) (ha : a.In B.h) (r : List Fct × Int) (h : matchOf p f.xs a = r) : Fn Tryz.prog 51 [p.val, f.val, a.val] B (MatP r) := h ▸ Match_ok B hB p hp hnm f hf a ha
theorem match_rd {p : Prg} {h : Heap} (hp : RoadsAt p h) {a : Atm} {r : List Fct} (h1 : checkAtom roadsC.preds.xs a = 0) (h2 : pathsC.filter (fitB a) = r) : matchOf p pathsC a = (r, 0) := by
  have ha : askR p pathsC = 0 := askR_iff.2 ⟨hp.check, checkFacts_ok.1 (by rw [rd_preds hp]; kernel_rfl)⟩
  unfold matchOf
  rw [if_neg (by rw [ha]; decide), rd_preds hp, if_neg (by rw [h1]; decide), h2]
theorem only_rd {p : Prg} {h : Heap} (hp : RoadsAt p h) : onlE p 2 = 0 ∧ onlE p 3 = 7 := by
  have hl : p.preds.xs.length = 3 := by rw [rd_preds hp]; rfl
  unfold onlE
  rw [if_neg (fun h => h hp.check), if_neg (by rw [hl]; decide), if_neg (fun h => h hp.check), if_pos (by rw [hl]; decide)]
  exact ⟨rfl, rfl⟩
theorem Only_rd2 (B : Base) (hB : B.ok) (p : Prg) (hp : RoadsAt p B.h) : Fn Tryz.prog 54 [p.val, .int .i64 2] B (fun v h => ∃ s : Sl Fct, v = .tuple #[s.val, .int .i64 0] ∧ Fcts s h ∧ s.xs = [⟨2, 3, 0, 0⟩]) :=
  (AOnly_ok B hB p hp.is hp.nm 2).mono fun v h' _ hv => by
    rcases hv with ⟨h1, _⟩ | ⟨_, s, rfl, hs, hq⟩
    · exact absurd (only_rd hp).1 h1
    · exact ⟨s, rfl, hs, by rw [hq.eq (rd_mod hp)]; kernel_rfl⟩
theorem Only_rd3 (B : Base) (hB : B.ok) (p : Prg) (hp : RoadsAt p B.h) : Fn Tryz.prog 54 [p.val, .int .i64 3] B (fun v _ => v = .tuple #[.slice none 0 0, .int .i64 7]) :=
  (AOnly_ok B hB p hp.is hp.nm 3).mono fun v h' _ hv => by
    have e := (only_rd hp).2
    rcases hv with ⟨_, rfl⟩ | ⟨h1, _⟩
    · rw [e]
    · rw [e] at h1; cases h1
theorem fil1 (b : Nat) : pathsC.filter (fitB ⟨0, ⟨some ⟨b, 0, none⟩, 2, [tV 0, tC 2]⟩⟩) = [⟨0, 1, 2, 0⟩] := by kernel_rfl
theorem fil2 (b : Nat) : pathsC.filter (fitB ⟨0, ⟨some ⟨b, 0, none⟩, 2, [tV 0, tV 0]⟩⟩) = [] := by kernel_rfl
theorem chk1 (b : Nat) : checkAtom roadsC.preds.xs ⟨0, ⟨some ⟨b, 0, none⟩, 2, [tV 0, tC 2]⟩⟩ = 0 := by kernel_rfl
theorem chk2 (b : Nat) : checkAtom roadsC.preds.xs ⟨0, ⟨some ⟨b, 0, none⟩, 2, [tV 0, tV 0]⟩⟩ = 0 := by kernel_rfl
set_option maxHeartbeats 4000000 in
theorem askBegun_ok (B : Base) (hB : B.ok) : Fn Tryz.prog 53 [] B (fun v _ => v = .bool true) := by
  refine Fn.of Tryz.func53 rfl Tryz.ntmps53 (by kernel_rfl) (by simp) ?_
  intro e
  have I := Inv.start hB
  refine WP.seq ?_
  refine WP.region ?_
  refine Ops.y (v := .bool _) (Y.assign rfl) ?_
  refine Ops.nil ?_
  refine WP.seq ?_
  refine WP.region ?_
  refine Ops.go (O.call I Tryz.call81 (roads_ok _ I.base_ok) rfl ?_)
  rintro _ h1 w I le1 ⟨p1, rfl, hp1⟩
  refine Ops.go (O.call I Tryz.call90 (paths_ok _ I.base_ok) rfl ?_)
  rintro _ h2 w I le2 ⟨f1, rfl, ef1, if1⟩
  refine Ops.go (O.callv I Tryz.call57 (lV_ok _ I.base_ok 0) rfl ?_)
  intro w I
  refine Ops.go (O.callv I Tryz.call58 (lC_ok _ I.base_ok 2) rfl ?_)
  intro w I
  refine Ops.go (O.mksl (xs := [tV 0, tC 2]) (enc := Trm.enc) I Tryz.underlying63 Tryz.sizeOf91 Tryz.zeroValue91 rfl (Nat.le_of_ble_eq_true rfl) rfl rfl (by decide) (fun _ => rfl) ?_)
  intro b14 h14 w I le14 sl14
  refine Ops.go (O.callv I Tryz.call115 (lAt_ok _ I.base_ok 0 ⟨some ⟨b14, 0, none⟩, 2, [tV 0, tC 2]⟩) rfl ?_)
  intro w I
  refine Ops.go (O.call I Tryz.call51 (Match_at _ I.base_ok p1 ((hp1.is.le le2).le le14) hp1.nm f1 (if1.le le14) ⟨0, ⟨some ⟨b14, 0, none⟩, 2, [tV 0, tC 2]⟩⟩ ⟨sl14, by simp⟩ ([⟨0, 1, 2, 0⟩], 0) (by rw [ef1]; exact match_rd hp1 (chk1 b14) (fil1 b14))) rfl ?_)
  rintro _ h3 w I le3 ⟨m1, rfl, em1, im1⟩
  refine Ops.y (v := .tuple #[_, _]) (Y.move rfl) ?_
  refine Ops.y (v := .slice _ _ _) (Y.extract rfl rfl) ?_
  refine Ops.y (v := .int .i64 _) (Y.extract rfl rfl) ?_
  refine Ops.y (v := .slice _ _ _) (Y.assign rfl) ?_
  refine Ops.y (v := .int .i64 _) (Y.assign rfl) ?_
  refine Ops.nil ?_
  refine WP.seq ?_
  refine WP.region ?_
  refine Ops.go (O.call I Tryz.call81 (roads_ok _ I.base_ok) rfl ?_)
  rintro _ h4 w I le4 ⟨p2, rfl, hp2⟩
  refine Ops.go (O.call I Tryz.call90 (paths_ok _ I.base_ok) rfl ?_)
  rintro _ h5 w I le5 ⟨f2, rfl, ef2, if2⟩
  refine Ops.go (O.callv I Tryz.call57 (lV_ok _ I.base_ok 0) rfl ?_)
  intro w I
  refine Ops.go (O.callv I Tryz.call57 (lV_ok _ I.base_ok 0) rfl ?_)
  intro w I
  refine Ops.go (O.mksl (xs := [tV 0, tV 0]) (enc := Trm.enc) I Tryz.underlying63 Tryz.sizeOf91 Tryz.zeroValue91 rfl (Nat.le_of_ble_eq_true rfl) rfl rfl (by decide) (fun _ => rfl) ?_)
  intro b24 h24 w I le24 sl24
  refine Ops.go (O.callv I Tryz.call115 (lAt_ok _ I.base_ok 0 ⟨some ⟨b24, 0, none⟩, 2, [tV 0, tV 0]⟩) rfl ?_)
  intro w I
  refine Ops.go (O.call I Tryz.call51 (Match_at _ I.base_ok p2 ((hp2.is.le le5).le le24) hp2.nm f2 (if2.le le24) ⟨0, ⟨some ⟨b24, 0, none⟩, 2, [tV 0, tV 0]⟩⟩ ⟨sl24, by simp⟩ ([], 0) (by rw [ef2]; exact match_rd hp2 (chk2 b24) (fil2 b24))) rfl ?_)
  rintro _ h6 w I le6 ⟨m2, rfl, em2, im2⟩
  refine Ops.y (v := .tuple #[_, _]) (Y.move rfl) ?_
  refine Ops.y (v := .slice _ _ _) (Y.extract rfl rfl) ?_
  refine Ops.y (v := .int .i64 _) (Y.extract rfl rfl) ?_
  refine Ops.y (v := .slice _ _ _) (Y.assign rfl) ?_
  refine Ops.y (v := .int .i64 _) (Y.assign rfl) ?_
  refine Ops.nil ?_
  have im1 := ((im1.le le4).le (le5.trans le24)).le le6
  refine WP.seq ?_
  refine WP.region ?_
  refine Ops.go (O.call I Tryz.call81 (roads_ok _ I.base_ok) rfl ?_)
  rintro _ h7 w I le7 ⟨p3, rfl, hp3⟩
  refine Ops.go (O.call I Tryz.call54 (Only_rd2 _ I.base_ok p3 hp3) rfl ?_)
  rintro _ h8 w I le8 ⟨m3, rfl, im3, em3⟩
  refine Ops.y (v := .tuple #[_, _]) (Y.move rfl) ?_
  refine Ops.y (v := .slice _ _ _) (Y.extract rfl rfl) ?_
  refine Ops.y (v := .int .i64 _) (Y.extract rfl rfl) ?_
  refine Ops.y (v := .slice _ _ _) (Y.assign rfl) ?_
  refine Ops.y (v := .int .i64 _) (Y.assign rfl) ?_
  refine Ops.nil ?_
  refine WP.seq ?_
  refine WP.region ?_
  refine Ops.go (O.call I Tryz.call81 (roads_ok _ I.base_ok) rfl ?_)
  rintro _ h9 w I le9 ⟨p4, rfl, hp4⟩
  refine Ops.go (O.callv I Tryz.call54 (Only_rd3 _ I.base_ok p4 hp4) rfl ?_)
  intro w I
  refine Ops.y (v := .tuple #[_, _]) (Y.move rfl) ?_
  refine Ops.y (v := .slice _ _ _) (Y.extract rfl rfl) ?_
  refine Ops.y (v := .int .i64 _) (Y.extract rfl rfl) ?_
  refine Ops.y (v := .slice _ _ _) (Y.assign rfl) ?_
  refine Ops.y (v := .int .i64 _) (Y.assign rfl) ?_
  refine Ops.nil ?_
  have n1 : m1.xs.length = 1 := by rw [em1]; rfl
  have n2 : m2.xs.length = 0 := by rw [em2]; rfl
  have g1 : m1.xs[0]? = some ⟨0, 1, 2, 0⟩ := by rw [em1]; rfl
  have E1 := (((im1.le le7).le le8).le le9).el.el g1
  refine WP.seq ?_
  refine WP.region ?_
  refine Ops.y (v := .int .i64 _) (Y.move rfl) ?_
  refine Ops.y (v := .bool true) (Y.dec_t (Y.eqi rfl rfl) (rfl)) ?_
  refine Ops.y (v := .bool _) (Y.move rfl) ?_
  refine Ops.ygt rfl (v := .int .i64 _) (Y.move rfl) ?_
  refine Ops.ygt rfl (v := .bool true) (Y.dec_t (Y.eqi rfl rfl) (rfl)) ?_
  refine Ops.y (v := .bool _) (Y.pick_t rfl rfl) ?_
  refine Ops.y (v := .bool _) (Y.move rfl) ?_
  refine Ops.ygt rfl (v := .int .i64 _) (Y.move rfl) ?_
  refine Ops.ygt rfl (v := .bool true) (Y.dec_t (Y.eqi rfl rfl) (rfl)) ?_
  refine Ops.y (v := .bool _) (Y.pick_t rfl rfl) ?_
  refine Ops.y (v := .bool _) (Y.move rfl) ?_
  refine Ops.ygt rfl (v := .int .i64 _) (Y.move rfl) ?_
  refine Ops.ygt rfl (v := .bool true) (Y.dec_t (Y.eqi rfl rfl) (rfl)) ?_
  refine Ops.y (v := .bool _) (Y.pick_t rfl rfl) ?_
  refine Ops.y (v := .bool _) (Y.move rfl) ?_
  refine Ops.ygt rfl (v := .slice _ _ _) (Y.move rfl) ?_
  refine Ops.ygt rfl (v := .int .i64 _) (Y.lens Tryz.underlying26 rfl) ?_
  refine Ops.ygt rfl (v := .bool true) (Y.dec_t (Y.eqi rfl rfl) ((by rw [n1]; rfl))) ?_
  refine Ops.y (v := .bool _) (Y.pick_t rfl rfl) ?_
  refine Ops.y (v := .bool _) (Y.move rfl) ?_
  refine Ops.ygt rfl (v := .slice _ _ _) (Y.move rfl) ?_
  refine Ops.ygt rfl (v := .pointer (some ⟨_, _, none⟩)) (Y.idxEl E1 Tryz.underlying26 Tryz.sizeOf52 rfl rfl (by decide) rfl) ?_
  refine Ops.ygt rfl (v := .pointer (some ⟨_, _, none⟩)) (Y.fa fa_52_1 rfl) ?_
  refine Ops.ygt rfl (v := .int .i64 _) (Y.loadv ty_3 rfl (I.rd (E1.rd.part 1 1)) rfl rfl) ?_
  refine Ops.ygt rfl (v := .bool true) (Y.dec_t (Y.eqi rfl rfl) (rfl)) ?_
  refine Ops.y (v := .bool _) (Y.pick_t rfl rfl) ?_
  refine Ops.y (v := .bool _) (Y.move rfl) ?_
  refine Ops.ygt rfl (v := .slice _ _ _) (Y.move rfl) ?_
  refine Ops.ygt rfl (v := .int .i64 _) (Y.lens Tryz.underlying26 rfl) ?_
  refine Ops.ygt rfl (v := .bool true) (Y.dec_t (Y.eqi rfl rfl) ((by rw [n2]; rfl))) ?_
  refine Ops.y (v := .bool _) (Y.pick_t rfl rfl) ?_
  refine Ops.y (v := .bool _) (Y.move rfl) ?_
  refine Ops.ygt rfl (v := .slice _ _ _) (Y.move rfl) ?_
  refine Ops.ygt rfl (v := .agg #[.int .i64 _, .int .i64 _, .int .i64 _, .int .i64 _]) (Y.build pl_52 Tryz.zeroValue52 rfl rfl) ?_
  refine Ops.gt rfl (O.mksl (xs := [(⟨2, 3, 0, 0⟩ : Fct)]) (enc := Fct.enc) I Tryz.underlying26 Tryz.sizeOf52 Tryz.zeroValue52 rfl (Nat.le_of_ble_eq_true rfl) rfl rfl (by decide) (fun _ => rfl) ?_)
  intro b73 h73 w I le73 sl73
  refine Ops.gt rfl (O.callv I Tryz.call21 (SameFacts_at _ I.base_ok m3 ⟨some ⟨b73, 0, none⟩, 1, [⟨2, 3, 0, 0⟩]⟩ ((im3.le le9).le le73) ⟨sl73, by simp⟩ em3) rfl ?_)
  intro w I
  refine Ops.y (v := .bool _) (Y.pick_t rfl rfl) ?_
  refine Ops.y (v := .bool _) (Y.assign rfl) ?_
  refine Ops.nil ?_
  refine WP.ret ?_
  repeat (first | refine thenE_ret ?_ | refine blockE_ret ?_)
  exact retQ.mk (vs := [.bool _]) rfl ⟨rfl, trivial⟩ I.ext_of (rfl)
end Go.TF
end
section
/- Of variables that differ all facts fit; a constant leaves no more: the law returns true. -/
namespace Go.TF
open Go Go.RowKit Go.Proofs
set_option maxRecDepth 20000

def EqV (v0 : Value) : Sp := fun v _ => v = v0
theorem EqV.mono {v0 : Value} : MonoS (EqV v0) := fun _ _ _ _ h => h
abbrev KnAp (Φ : Sp) := KnA Φ
theorem KnAp.mono {Φ : Sp} (hm : MonoS Φ) : MonoG RAp (KnAp Φ) := KnA.mono hm
theorem trm_len (x : Trm) : x.enc.length = 2 := rfl
theorem vars_succ (n : Nat) : varsN (n + 1) = varsN n ++ [tV n] := by unfold varsN; rw [List.range_succ, List.map_append]; rfl
theorem vars_len (n : Nat) : (varsN n).length = n := by simp [varsN]
theorem vars_ok {n : Nat} (h : n ≤ 2) : argsErr (varsN n) = 0 := by
  have : n = 0 ∨ n = 1 ∨ n = 2 := by omega
  rcases this with rfl | rfl | rfl <;> decide
theorem con_ok {n : Nat} {c : Int} (h : n ≤ 2) (c0 : 0 ≤ c) (c4 : c ≤ 4) : argsErr ((varsN n).set 0 (tC c)) = 0 := by
  have hc : termOk (tC c) = true := by unfold termOk; rw [if_neg (by intro h; cases h)]; exact decide_eq_true ⟨c0, c4⟩
  have hv : ∀ i : Nat, i < 3 → termOk (tV i) = true := fun i hi => by unfold termOk; rw [if_pos rfl]; exact decide_eq_true ⟨by show 0 ≤ (i : Int); omega, by show (i : Int) < 3; omega⟩
  have : n = 0 ∨ n = 1 ∨ n = 2 := by omega
  unfold argsErr
  rcases this with rfl | rfl | rfl
  · rfl
  · rw [if_pos]; simp [varsN, List.range, List.range.loop, hc]
  · rw [if_pos]; simp [varsN, List.range, List.range.loop, hc]; exact hv 1 (by omega)
theorem chk_atom {l : List Prd} {k : Nat} {s : Sl Trm} {n : Nat} (hk : k < l.length) (hn : s.xs.length = n) (ha : (n : Int) = (predOf l k).arity) (he : argsErr s.xs = 0) : checkAtom l ⟨k, s⟩ = 0 := by
  unfold checkAtom
  rw [if_neg (by show ¬ ((k : Int) < 0 ∨ (l.length : Int) ≤ k); omega), if_neg (by show ¬ ((s.xs.length : Int) ≠ (predOf l k).arity); rw [hn, ha]; exact fun h => h rfl)]
  exact he
theorem match_of {p : Prg} {f : List Fct} {a : Atm} {q : Fct → Bool} (hpr : checkProg p = 0) (okf : FOk p.preds.xs f) (h1 : checkAtom p.preds.xs a = 0) (h2 : ∀ x, fitB a x = q x) : matchOf p f a = (f.filter q, 0) := by
  unfold matchOf
  rw [if_neg (by rw [askR_iff.2 ⟨hpr, okf⟩]; decide), if_neg (by rw [h1]; decide), funext h2]
set_option maxHeartbeats 16000000 in
theorem AskTrue_ok (B : Base) (hB : B.ok) (p : Prg) (hp : p.In B.h) (hnm : p.Nm) (f : Sl Fct) (hf : Fcts f B.h) (pr n : Int) (hpI : I64 pr) (hnI : I64 n) : Fn Tryz.prog 12 [p.val, f.val, .int .i64 pr, .int .i64 n] B (fun v _ => v = .bool true) := by
  have hsp := hp.preds.small
  refine Fn.of Tryz.func12 rfl Tryz.ntmps12 (by kernel_rfl) (by simp) ?_
  intro e
  have I := Inv.start hB
  refine WP.seq ?_
  refine WP.region ?_
  refine Ops.go (O.box (v := .agg #[_, _]) I rfl rfl ?_)
  intro b4 w I
  refine Ops.y (v := .bool _) (Y.assign rfl) ?_
  refine Ops.nil ?_
  by_cases hpr : checkProg p ≠ 0
  · refine WP.seq ?_
    refine WP.seq ?_
    refine WP.region ?_
    refine Ops.y (v := .agg #[_, _]) (Y.loadv ty_25 rfl (I.rdbox 0 rfl 0 2) rfl rfl) ?_
    refine Ops.go (O.callv I Tryz.call56 (PCheck_ok _ I.base_ok p hp hnm) rfl ?_)
    intro w I
    refine Ops.y (v := .bool true) (Y.dec_t (Y.nei rfl rfl) (hpr)) ?_
    refine Ops.y (v := .bool _) (Y.move rfl) ?_
    refine Ops.gf rfl ?_
    refine Ops.gf rfl ?_
    refine Ops.gf rfl ?_
    refine Ops.gf rfl ?_
    refine Ops.gf rfl ?_
    refine Ops.y (v := .bool _) (Y.pick_t rfl rfl) ?_
    refine Ops.y (v := .bool _) (Y.move rfl) ?_
    refine Ops.gf rfl ?_
    refine Ops.gf rfl ?_
    refine Ops.gf rfl ?_
    refine Ops.gf rfl ?_
    refine Ops.y (v := .bool _) (Y.pick_t rfl rfl) ?_
    refine Ops.nil ?_
    refine WP.cond_t rfl ?_
    refine WP.seq ?_
    refine WP.region ?_
    refine Ops.go (O.callv I Tryz.call53 (askBegun_ok _ I.base_ok) rfl ?_)
    intro w I
    refine Ops.y (v := .bool _) (Y.assign rfl) ?_
    refine Ops.nil ?_
    refine WP.ret ?_
    repeat (first | refine thenE_ret ?_ | refine blockE_ret ?_)
    exact retQ.mk (vs := [.bool _]) rfl ⟨rfl, trivial⟩ I.ext_of (rfl)
  by_cases hcf : checkFacts p.preds.xs f.xs ≠ 0
  · refine WP.seq ?_
    refine WP.seq ?_
    refine WP.region ?_
    refine Ops.y (v := .agg #[_, _]) (Y.loadv ty_25 rfl (I.rdbox 0 rfl 0 2) rfl rfl) ?_
    refine Ops.go (O.callv I Tryz.call56 (PCheck_ok _ I.base_ok p hp hnm) rfl ?_)
    intro w I
    refine Ops.y (v := .bool false) (Y.dec_f (Y.nei rfl rfl) (hpr)) ?_
    refine Ops.y (v := .bool _) (Y.move rfl) ?_
    refine Ops.ygt rfl (v := .pointer (some ⟨_, _, none⟩)) (Y.fa0 fa_25_0 rfl) ?_
    refine Ops.ygt rfl (v := .slice _ _ _) (Y.loadv ty_22 rfl (I.rdbox 0 rfl 0 1) rfl rfl) ?_
    refine Ops.ygt rfl (v := .slice _ _ _) (Y.move rfl) ?_
    refine Ops.gt rfl (O.callv I Tryz.call45 (BCheck_ok _ I.base_ok p.preds hp.preds f hf) rfl ?_)
    intro w I
    refine Ops.ygt rfl (v := .bool true) (Y.dec_t (Y.nei rfl rfl) (hcf)) ?_
    refine Ops.y (v := .bool _) (Y.pick_f rfl rfl) ?_
    refine Ops.y (v := .bool _) (Y.move rfl) ?_
    refine Ops.gf rfl ?_
    refine Ops.gf rfl ?_
    refine Ops.gf rfl ?_
    refine Ops.gf rfl ?_
    refine Ops.y (v := .bool _) (Y.pick_t rfl rfl) ?_
    refine Ops.nil ?_
    refine WP.cond_t rfl ?_
    refine WP.seq ?_
    refine WP.region ?_
    refine Ops.go (O.callv I Tryz.call53 (askBegun_ok _ I.base_ok) rfl ?_)
    intro w I
    refine Ops.y (v := .bool _) (Y.assign rfl) ?_
    refine Ops.nil ?_
    refine WP.ret ?_
    repeat (first | refine thenE_ret ?_ | refine blockE_ret ?_)
    exact retQ.mk (vs := [.bool _]) rfl ⟨rfl, trivial⟩ I.ext_of (rfl)
  by_cases h0 : (p.preds.xs.length : Int) = 0
  · refine WP.seq ?_
    refine WP.seq ?_
    refine WP.region ?_
    refine Ops.y (v := .agg #[_, _]) (Y.loadv ty_25 rfl (I.rdbox 0 rfl 0 2) rfl rfl) ?_
    refine Ops.go (O.callv I Tryz.call56 (PCheck_ok _ I.base_ok p hp hnm) rfl ?_)
    intro w I
    refine Ops.y (v := .bool false) (Y.dec_f (Y.nei rfl rfl) (hpr)) ?_
    refine Ops.y (v := .bool _) (Y.move rfl) ?_
    refine Ops.ygt rfl (v := .pointer (some ⟨_, _, none⟩)) (Y.fa0 fa_25_0 rfl) ?_
    refine Ops.ygt rfl (v := .slice _ _ _) (Y.loadv ty_22 rfl (I.rdbox 0 rfl 0 1) rfl rfl) ?_
    refine Ops.ygt rfl (v := .slice _ _ _) (Y.move rfl) ?_
    refine Ops.gt rfl (O.callv I Tryz.call45 (BCheck_ok _ I.base_ok p.preds hp.preds f hf) rfl ?_)
    intro w I
    refine Ops.ygt rfl (v := .bool false) (Y.dec_f (Y.nei rfl rfl) (hcf)) ?_
    refine Ops.y (v := .bool _) (Y.pick_f rfl rfl) ?_
    refine Ops.y (v := .bool _) (Y.move rfl) ?_
    refine Ops.ygt rfl (v := .pointer (some ⟨_, _, none⟩)) (Y.fa0 fa_25_0 rfl) ?_
    refine Ops.ygt rfl (v := .slice _ _ _) (Y.loadv ty_22 rfl (I.rdbox 0 rfl 0 1) rfl rfl) ?_
    refine Ops.ygt rfl (v := .int .i64 _) (Y.lens Tryz.underlying22 rfl) ?_
    refine Ops.ygt rfl (v := .bool true) (Y.dec_t (Y.eqi rfl rfl) (h0)) ?_
    refine Ops.y (v := .bool _) (Y.pick_f rfl rfl) ?_
    refine Ops.nil ?_
    refine WP.cond_t rfl ?_
    refine WP.seq ?_
    refine WP.region ?_
    refine Ops.go (O.callv I Tryz.call53 (askBegun_ok _ I.base_ok) rfl ?_)
    intro w I
    refine Ops.y (v := .bool _) (Y.assign rfl) ?_
    refine Ops.nil ?_
    refine WP.ret ?_
    repeat (first | refine thenE_ret ?_ | refine blockE_ret ?_)
    exact retQ.mk (vs := [.bool _]) rfl ⟨rfl, trivial⟩ I.ext_of (rfl)
  refine WP.seq ?_
  refine WP.seq ?_
  refine WP.region ?_
  refine Ops.y (v := .agg #[_, _]) (Y.loadv ty_25 rfl (I.rdbox 0 rfl 0 2) rfl rfl) ?_
  refine Ops.go (O.callv I Tryz.call56 (PCheck_ok _ I.base_ok p hp hnm) rfl ?_)
  intro w I
  refine Ops.y (v := .bool false) (Y.dec_f (Y.nei rfl rfl) (hpr)) ?_
  refine Ops.y (v := .bool _) (Y.move rfl) ?_
  refine Ops.ygt rfl (v := .pointer (some ⟨_, _, none⟩)) (Y.fa0 fa_25_0 rfl) ?_
  refine Ops.ygt rfl (v := .slice _ _ _) (Y.loadv ty_22 rfl (I.rdbox 0 rfl 0 1) rfl rfl) ?_
  refine Ops.ygt rfl (v := .slice _ _ _) (Y.move rfl) ?_
  refine Ops.gt rfl (O.callv I Tryz.call45 (BCheck_ok _ I.base_ok p.preds hp.preds f hf) rfl ?_)
  intro w I
  refine Ops.ygt rfl (v := .bool false) (Y.dec_f (Y.nei rfl rfl) (hcf)) ?_
  refine Ops.y (v := .bool _) (Y.pick_f rfl rfl) ?_
  refine Ops.y (v := .bool _) (Y.move rfl) ?_
  refine Ops.ygt rfl (v := .pointer (some ⟨_, _, none⟩)) (Y.fa0 fa_25_0 rfl) ?_
  refine Ops.ygt rfl (v := .slice _ _ _) (Y.loadv ty_22 rfl (I.rdbox 0 rfl 0 1) rfl rfl) ?_
  refine Ops.ygt rfl (v := .int .i64 _) (Y.lens Tryz.underlying22 rfl) ?_
  refine Ops.ygt rfl (v := .bool false) (Y.dec_f (Y.eqi rfl rfl) (h0)) ?_
  refine Ops.y (v := .bool _) (Y.pick_f rfl rfl) ?_
  refine Ops.nil ?_
  refine WP.cond_f rfl ?_
  have hpr := Decidable.not_not.1 hpr
  have okf := checkFacts_ok.1 (Decidable.not_not.1 hcf)
  have h125 := okf.le125
  have hn0 : (0 : Int) < p.preds.xs.length := by omega
  obtain ⟨c0, c1⟩ := chooseI_in (c := pr) hn0
  obtain ⟨k, hk⟩ : ∃ k : Nat, chooseI pr p.preds.xs.length = k := ⟨_, (Int.toNat_of_nonneg c0).symm⟩
  have hkl : k < p.preds.xs.length := by omega
  have Ek := hp.preds.at hkl
  have hpo : predOf p.preds.xs k = p.preds.xs[k] := by unfold predOf; rw [Int.toNat_natCast, List.getD_eq_getElem?_getD, List.getElem?_eq_getElem hkl]; rfl
  have hpf := okf.preds _ (List.getElem_mem hkl)
  unfold predFine at hpf
  obtain ⟨ar0, ar2, _⟩ := of_decide_eq_true hpf
  obtain ⟨m, hm⟩ : ∃ m : Nat, p.preds.xs[k].arity = m := ⟨_, (Int.toNat_of_nonneg ar0).symm⟩
  have hm2 : m ≤ 2 := by omega
  refine WP.skip ?_
  refine WP.seq ?_
  refine WP.region ?_
  refine Ops.y (v := .int .i64 _) (Y.move rfl) ?_
  refine Ops.y (v := .pointer (some ⟨_, _, none⟩)) (Y.fa0 fa_25_0 rfl) ?_
  refine Ops.y (v := .slice _ _ _) (Y.loadv ty_22 rfl (I.rdbox 0 rfl 0 1) rfl rfl) ?_
  refine Ops.y (v := .int .i64 _) (Y.lens Tryz.underlying22 rfl) ?_
  refine Ops.go (O.callv I Tryz.call46 (hk ▸ choose_ok _ I.base_ok pr p.preds.xs.length hpI hn0) rfl ?_)
  intro w I
  refine Ops.y (v := .int .i64 _) (Y.assign rfl) ?_
  refine Ops.nil ?_
  refine WP.seq ?_
  refine WP.region ?_
  refine Ops.y (v := .int .i64 _) (Y.move rfl) ?_
  refine Ops.y (v := .agg #[.int .i64 _, .slice _ _ _]) (Y.build pl_65 Tryz.zeroValue65 rfl rfl) ?_
  refine Ops.go (O.alloc I Tryz.zeroValue65 rfl ?_)
  intro b10 w I
  refine Ops.go (O.store (v := .agg #[_, _]) I ty_65 0 rfl rfl rfl rfl rfl rfl (Nat.le_of_ble_eq_true rfl) rfl ?_)
  intro w I
  refine Ops.nil ?_
  refine WP.seq ?_
  refine WP.seq ?_
  refine WP.region ?_
  refine Ops.y (v := .int .i64 _) (Y.assign rfl) ?_
  refine Ops.nil ?_
  refine WP.block ?_
  refine WP.loopE (σ := Nat × Option Addr × Nat × Heap) (fun s => [(1, f.val), (3, .int .i64 n), (4, .pointer (some ⟨b4, 0, none⟩)), (9, .int .i64 k), (10, .pointer (some ⟨b10, 0, none⟩)), (11, .int .i64 s.1)])
    (fun s w => Inv B s.2.2.2 [ownSl 91 2 (.slice s.2.1 s.1 s.2.2.1) s.1 ((varsN s.1).flatMap Trm.enc), box b10 [.int .i64 k, .slice s.2.1 s.1 s.2.2.1] 65, box b4 p.enc 25] w ∧ s.1 ≤ m ∧ B.h.le s.2.2.2) (fun s => m - s.1)
    ⟨(0, none, 0, B.h), ⟨rfl, rfl, rfl, rfl, rfl, rfl, trivial⟩, I.nilSl 91 2, Nat.zero_le _, Heap.le.refl _⟩ ?_
  rintro ⟨i, a, c, hh⟩ e w ⟨I, hi, gl⟩
  dsimp only at I hi gl ⊢
  have Ek' := Ek.le gl
  refine WP.seq ?_
  refine WP.seq ?_
  by_cases hlt : (i : Int) < p.preds.xs[k].arity
  · have hi' : i < m := by omega
    refine WP.region ?_
    refine Ops.y (v := .int .i64 _) (Y.move rfl) ?_
    refine Ops.y (v := .pointer (some ⟨_, _, none⟩)) (Y.fa0 fa_25_0 rfl) ?_
    refine Ops.y (v := .slice _ _ _) (Y.loadv ty_22 rfl (I.rdbox 2 rfl 0 1) rfl rfl) ?_
    refine Ops.y (v := .int .i64 _) (Y.move rfl) ?_
    refine Ops.y (v := .pointer (some ⟨_, _, none⟩)) (Y.idxEl Ek' Tryz.underlying22 Tryz.sizeOf62 rfl rfl (Int.natCast_nonneg _) rfl) ?_
    refine Ops.y (v := .pointer (some ⟨_, _, none⟩)) (Y.fa fa_62_1 rfl) ?_
    refine Ops.y (v := .int .i64 _) (Y.loadv ty_3 rfl (I.rd (Ek'.rd.part 1 1)) rfl rfl) ?_
    refine Ops.y (v := .bool true) (Y.dec_t (Y.lti rfl rfl) (hlt)) ?_
    refine Ops.y (v := .bool _) (Y.move rfl) ?_
    refine Ops.ygt rfl (v := .int .i64 _) (Y.move rfl) ?_
    refine Ops.ygt rfl (v := .bool true) (Y.dec_t (Y.lti rfl rfl) ((by omega))) ?_
    refine Ops.y (v := .bool _) (Y.pick_t rfl rfl) ?_
    refine Ops.nil ?_
    refine WP.cond_t rfl ?_
    refine WP.skip ?_
    refine WP.seq ?_
    refine WP.block ?_
    refine WP.regionG mixed RAp.pre ⟨hh, none⟩ (J := JAp B [box b10 [.int .i64 k, .slice a i c] 65, box b4 p.enc 25] 91 2 i 1 (.slice a i c) ((varsN i).flatMap Trm.enc) (tV i).enc 5) ⟨rfl, I.drew⟩ 6 (by kernel_rfl) ?_
    refine OpsG.y_ (v := .pointer (some ⟨_, _, none⟩)) (fun _ => runsG_none _) RAp.pre (JAp.set (by decide)) (fun _ s w us hl hj => have I := hj.base; have hl := hl.h; Y.fa fa_65_1 rfl) ?_
    refine OpsG.y_ (v := .slice _ _ _) (fun _ => runsG_none _) RAp.pre (JAp.set (by decide)) (fun _ s w us hl hj => have I := hj.base; have hl := hl.h; Y.loadv ty_63 rfl (I.rdbox 0 rfl 1 1) rfl rfl) ?_
    refine OpsG.y_ (v := .int .i64 _) (fun _ => runsG_none _) RAp.pre (JAp.set (by decide)) (fun _ s w us hl hj => have I := hj.base; have hl := hl.h; Y.move rfl) ?_
    refine OpsG.x_ (Φ := KnAp (EqV (tV i).val)) (KnAp.mono EqV.mono) (fun _ => runsG_none _) (fun D' z w hDk hl hj => ?_) ?_
    · refine AllG.all fun us => ?_
      refine hj.know (by decide) fun N I => ?_
      have hl := hl.h
      refine O.call I Tryz.call57 (lV_ok _ I.base_ok i) rfl ?_
      rintro _ h1 w I hl' rfl
      exact ⟨_, hl', I, rfl⟩
    refine OpsG.x_ (Φ := KnA (LitW 91 (tV i).enc 1)) (KnA.mono LitW.mono) (fun _ => runsG_none _) (fun D' z w hDk hl hj => ?_) ?_
    · intro u63 q63
      obtain rfl : u63 = (tV i).val := q63 rfl
      refine hj.know (by decide) fun N I => ?_
      exact O.mklit (cs := (tV i).enc) I Tryz.underlying63 Tryz.sizeOf91 Tryz.zeroValue91 (by decide) (by decide) rfl rfl (fun v h w I le sl => ⟨h, le, I, sl⟩)
    refine OpsG.x_ (Φ := AtAp (i + 1)) AtAp.mono (fun _ => runsG_none _) (fun D' z w hDk hl hj => ?_) ?_
    · intro u63 q63 u64 q64
      obtain ⟨bl, rfl, hbl⟩ := q64 rfl
      refine hj.app hDk fun I => ?_
      have kb : Known z.h bl (tV i).enc := ⟨fun j v hv => by simp [Heap.cell, hbl, hv]⟩
      refine O.append I Tryz.underlying63 et_91 0 rfl rfl rfl (I.rd kb.rd) rfl rfl (by decide) (by omega) (by omega) ?_
      intro g c w I
      exact ⟨g, c, rfl, I⟩
    refine OpsG.nil ?_
    intro D z w hD hl hj u63 q63 u64 q64 u65 q65
    obtain ⟨g, c2, rfl, h7⟩ := q65 rfl
    have I := hj.inv
    rw [h7] at I
    refine Ops.y (v := .pointer (some ⟨_, _, none⟩)) (Y.fa fa_65_1 rfl) ?_
    refine Ops.go (O.store (v := .slice _ _ _) I ty_63 1 rfl rfl rfl rfl rfl rfl (Nat.le_of_ble_eq_true rfl) rfl ?_)
    intro w I
    refine Ops.nil ?_
    refine WP.region ?_
    refine Ops.y (v := .int .i64 _) (Y.move rfl) ?_
    refine Ops.y (v := .int .i64 _) (Y.addi rfl rfl ⟨by omega, by omega⟩) ?_
    refine Ops.y (v := .int .i64 _) (Y.assign rfl) ?_
    refine Ops.nil ?_
    refine ⟨(i + 1, some ⟨g, 0, none⟩, c2, z.h), ⟨⟨rfl, rfl, rfl, rfl, rfl, rfl, trivial⟩, ?_, by dsimp only; omega, gl.trans hl.h⟩, by dsimp only; omega⟩
    dsimp only
    rw [vars_succ, List.flatMap_append, List.flatMap_singleton]
    exact I
  refine WP.region ?_
  refine Ops.y (v := .int .i64 _) (Y.move rfl) ?_
  refine Ops.y (v := .pointer (some ⟨_, _, none⟩)) (Y.fa0 fa_25_0 rfl) ?_
  refine Ops.y (v := .slice _ _ _) (Y.loadv ty_22 rfl (I.rdbox 2 rfl 0 1) rfl rfl) ?_
  refine Ops.y (v := .int .i64 _) (Y.move rfl) ?_
  refine Ops.y (v := .pointer (some ⟨_, _, none⟩)) (Y.idxEl Ek' Tryz.underlying22 Tryz.sizeOf62 rfl rfl (Int.natCast_nonneg _) rfl) ?_
  refine Ops.y (v := .pointer (some ⟨_, _, none⟩)) (Y.fa fa_62_1 rfl) ?_
  refine Ops.y (v := .int .i64 _) (Y.loadv ty_3 rfl (I.rd (Ek'.rd.part 1 1)) rfl rfl) ?_
  refine Ops.y (v := .bool false) (Y.dec_f (Y.lti rfl rfl) (hlt)) ?_
  refine Ops.y (v := .bool _) (Y.move rfl) ?_
  refine Ops.gf rfl ?_
  refine Ops.gf rfl ?_
  refine Ops.y (v := .bool _) (Y.pick_f rfl rfl) ?_
  refine Ops.nil ?_
  refine WP.cond_f rfl ?_
  obtain rfl : i = m := by omega
  obtain ⟨h5, sa, le5, hva, hxa, osa, I⟩ := I.settleO (vars_len i).symm
  have I : Inv B h5 [box b10 [.int .i64 k, sa.val] 65, box b4 p.enc 25] w := by rw [hva]; exact I
  have isa := osa.in trm_len
  have hsl : sa.xs.length = i := by rw [hxa, vars_len]
  have ca : checkAtom p.preds.xs ⟨k, sa⟩ = 0 := chk_atom hkl hsl (by rw [hpo]; omega) (by rw [hxa]; exact vars_ok hm2)
  have fa : ∀ x, fitB ⟨k, sa⟩ x = decide ((k : Int) = x.pred) := fun x => by
    unfold fitB
    show (decide ((k : Int) = x.pred) && fitK sa.xs x sa.xs.length) = _
    rw [hsl, hxa, fit_vars hm2, Bool.and_true]
  have gl5 := gl.trans le5
  refine WP.exit ?_
  refine WP.seq ?_
  refine WP.region ?_
  refine Ops.y (v := .agg #[_, _]) (Y.loadv ty_25 rfl (I.rdbox 1 rfl 0 2) rfl rfl) ?_
  refine Ops.y (v := .slice _ _ _) (Y.move rfl) ?_
  refine Ops.y (v := .agg #[_, _]) (Y.loadv ty_65 rfl (I.rdbox 0 rfl 0 2) rfl rfl) ?_
  refine Ops.go (O.call I Tryz.call51 (Match_at _ I.base_ok p (hp.le gl5) hnm f (hf.le gl5) ⟨k, sa⟩ ⟨isa, by show sa.xs.length ≤ _; omega⟩ (f.xs.filter fun x => decide ((k : Int) = x.pred), 0) (match_of hpr okf ca fa)) rfl ?_)
  rintro _ h6 w I le6 ⟨all, rfl, eall, iall⟩
  refine Ops.y (v := .tuple #[_, _]) (Y.move rfl) ?_
  refine Ops.y (v := .slice _ _ _) (Y.extract rfl rfl) ?_
  refine Ops.y (v := .int .i64 _) (Y.extract rfl rfl) ?_
  refine Ops.y (v := .slice _ _ _) (Y.assign rfl) ?_
  refine Ops.y (v := .int .i64 _) (Y.assign rfl) ?_
  refine Ops.nil ?_
  have gl6 := gl5.trans le6
  refine WP.seq ?_
  refine WP.region ?_
  refine Ops.y (v := .int .i64 _) (Y.assign rfl) ?_
  refine Ops.nil ?_
  refine WP.seq ?_
  refine WP.seq ?_
  refine WP.region ?_
  refine Ops.y (v := .int .i64 _) (Y.assign rfl) ?_
  refine Ops.nil ?_
  refine WP.block ?_
  refine WP.loopE (σ := Nat) (fun j => [(1, f.val), (3, .int .i64 n), (4, .pointer (some ⟨b4, 0, none⟩)), (9, .int .i64 k), (10, .pointer (some ⟨b10, 0, none⟩)), (12, all.val), (13, .int .i64 0), (14, .int .i64 ((f.xs.take j).filter fun x => decide ((k : Int) = x.pred)).length), (15, .int .i64 j)])
    (fun j w => Inv B h6 [box b10 [.int .i64 k, sa.val] 65, box b4 p.enc 25] w ∧ j ≤ f.xs.length) (fun j => f.xs.length - j)
    ⟨0, ⟨rfl, rfl, rfl, rfl, rfl, rfl, rfl, rfl, rfl, trivial⟩, I, Nat.zero_le _⟩ ?_
  rintro j e w ⟨I, hj⟩
  have hfl : ((f.xs.take j).filter fun x => decide ((k : Int) = x.pred)).length ≤ j := Nat.le_trans (List.length_filter_le ..) (by rw [List.length_take]; omega)
  refine WP.seq ?_
  refine WP.seq ?_
  refine WP.region ?_
  refine Ops.y (v := .int .i64 _) (Y.move rfl) ?_
  refine Ops.y (v := .slice _ _ _) (Y.move rfl) ?_
  refine Ops.y (v := .int .i64 _) (Y.lens Tryz.underlying26 rfl) ?_
  refine Ops.y (v := .bool (decide _)) (Y.lti rfl rfl) ?_
  refine Ops.nil ?_
  refine WP.cond_dec rfl (fun h12 => ?_) (fun h12 => ?_)
  · have hj' : j < f.xs.length := by omega
    have E := (hf.le gl6).at hj'
    have hn := take_filter (fun x : Fct => decide ((k : Int) = x.pred)) hj'
    refine WP.skip ?_
    refine WP.seq ?_
    refine WP.block ?_
    refine WP.seq ?_
    refine WP.region ?_
    refine Ops.y (v := .slice _ _ _) (Y.move rfl) ?_
    refine Ops.y (v := .int .i64 _) (Y.move rfl) ?_
    refine Ops.y (v := .pointer (some ⟨_, _, none⟩)) (Y.idxEl E Tryz.underlying26 Tryz.sizeOf52 rfl rfl (Int.natCast_nonneg _) rfl) ?_
    refine Ops.y (v := .pointer (some ⟨_, _, none⟩)) (Y.fa0 fa_52_0 rfl) ?_
    refine Ops.y (v := .int .i64 _) (Y.loadv ty_3 rfl (I.rd (E.rd.part 0 1)) rfl rfl) ?_
    refine Ops.y (v := .int .i64 _) (Y.move rfl) ?_
    refine Ops.y (v := .bool (decide _)) (Y.eqi rfl rfl) ?_
    refine Ops.nil ?_
    refine WP.cond_dec rfl (fun h14 => ?_) (fun h14 => ?_)
    · rw [if_pos (decide_eq_true h14.symm)] at hn
      refine WP.region ?_
      refine Ops.y (v := .int .i64 _) (Y.move rfl) ?_
      refine Ops.y (v := .int .i64 _) (Y.addi rfl rfl ⟨by omega, by omega⟩) ?_
      refine Ops.y (v := .int .i64 _) (Y.assign rfl) ?_
      refine Ops.nil ?_
      refine WP.region ?_
      refine Ops.y (v := .int .i64 _) (Y.move rfl) ?_
      refine Ops.y (v := .int .i64 _) (Y.addi rfl rfl ⟨by omega, by omega⟩) ?_
      refine Ops.y (v := .int .i64 _) (Y.assign rfl) ?_
      refine Ops.nil ?_
      exact ⟨j + 1, ⟨⟨rfl, rfl, rfl, rfl, rfl, rfl, rfl, by rw [hn, List.length_append]; rfl, rfl, trivial⟩, I, by omega⟩, by omega⟩
    · rw [if_neg (by rw [decide_eq_false (Ne.symm h14)]; decide), List.append_nil] at hn
      refine WP.skip ?_
      refine WP.region ?_
      refine Ops.y (v := .int .i64 _) (Y.move rfl) ?_
      refine Ops.y (v := .int .i64 _) (Y.addi rfl rfl ⟨by omega, by omega⟩) ?_
      refine Ops.y (v := .int .i64 _) (Y.assign rfl) ?_
      refine Ops.nil ?_
      exact ⟨j + 1, ⟨⟨rfl, rfl, rfl, rfl, rfl, rfl, rfl, by rw [hn]; rfl, rfl, trivial⟩, I, by omega⟩, by omega⟩
  obtain rfl : j = f.xs.length := by omega
  have eal : all.xs.length = ((f.xs.take f.xs.length).filter fun x => decide ((k : Int) = x.pred)).length := by rw [List.take_length, eall]
  refine WP.exit ?_
  refine WP.seq ?_
  refine WP.seq ?_
  refine WP.region ?_
  refine Ops.y (v := .int .i64 _) (Y.move rfl) ?_
  refine Ops.y (v := .bool false) (Y.dec_f (Y.nei rfl rfl) ((fun h => h rfl))) ?_
  refine Ops.y (v := .bool _) (Y.move rfl) ?_
  refine Ops.ygt rfl (v := .slice _ _ _) (Y.move rfl) ?_
  refine Ops.ygt rfl (v := .int .i64 _) (Y.lens Tryz.underlying26 rfl) ?_
  refine Ops.ygt rfl (v := .int .i64 _) (Y.move rfl) ?_
  refine Ops.ygt rfl (v := .bool false) (Y.dec_f (Y.nei rfl rfl) ((by rw [eal]; exact fun h => h rfl))) ?_
  refine Ops.y (v := .bool _) (Y.pick_f rfl rfl) ?_
  refine Ops.nil ?_
  refine WP.cond_f rfl ?_
  refine WP.skip ?_
  refine WP.seq ?_
  refine WP.seq ?_
  refine WP.region ?_
  refine Ops.y (v := .pointer (some ⟨_, _, none⟩)) (Y.fa fa_65_1 rfl) ?_
  refine Ops.y (v := .slice _ _ _) (Y.loadv ty_63 rfl (I.rdbox 0 rfl 1 1) rfl rfl) ?_
  refine Ops.y (v := .int .i64 _) (Y.lens Tryz.underlying63 rfl) ?_
  refine Ops.y (v := .bool (decide _)) (Y.eqi rfl rfl) ?_
  refine Ops.nil ?_
  refine WP.cond_dec rfl (fun h18 => ?_) (fun h18 => ?_)
  · refine WP.seq ?_
    refine WP.region ?_
    refine Ops.go (O.callv I Tryz.call53 (askBegun_ok _ I.base_ok) rfl ?_)
    intro w I
    refine Ops.y (v := .bool _) (Y.assign rfl) ?_
    refine Ops.nil ?_
    refine WP.ret ?_
    repeat (first | refine thenE_ret ?_ | refine blockE_ret ?_)
    exact retQ.mk (vs := [.bool _]) rfl ⟨rfl, trivial⟩ I.ext_of (rfl)
  have hi1 : 0 < i := by omega
  have h5c : (0 : Int) < 5 := by decide
  obtain ⟨x0, x1⟩ := chooseI_in (c := n) h5c
  obtain ⟨x, hx⟩ : ∃ x, chooseI n 5 = x := ⟨_, rfl⟩
  rw [hx] at x0 x1
  refine WP.skip ?_
  refine WP.seq ?_
  refine WP.region ?_
  refine Ops.y (v := .int .i64 _) (Y.move rfl) ?_
  refine Ops.go (O.callv I Tryz.call46 (hx ▸ choose_ok _ I.base_ok n 5 hnI h5c) rfl ?_)
  intro w I
  refine Ops.y (v := .int .i64 _) (Y.assign rfl) ?_
  refine Ops.nil ?_
  obtain ⟨gg, hga⟩ : ∃ gg, sa.at_ = some ⟨gg, 0, none⟩ := by
    rcases osa with e | ⟨gg, _, hga, _⟩
    · rw [e] at hsl; exact absurd hsl (by show ¬ (0 = i); omega)
    · exact ⟨gg, hga⟩
  obtain ⟨ra, rc, rx⟩ := sa
  dsimp only at hga hxa hsl
  subst hga
  obtain ⟨h8, I, mono8, _⟩ := I.unsettle (osa.le le6) gl
  have gl8 : B.h.le h8 := mono8 _ gl6 gl
  have I : Inv B h8 [ownSl 91 2 (.slice (some ⟨gg, 0, none⟩) rx.length rc) rx.length (rx.flatMap Trm.enc), box b10 [.int .i64 k, .slice (some ⟨gg, 0, none⟩) rx.length rc] 65, box b4 p.enc 25] w := I
  refine WP.seq ?_
  refine WP.regionF mixed I 5 (by kernel_rfl) ?_
  refine OpsF.y_ (v := .pointer (some ⟨_, _, none⟩)) (fun _ => runs_none _) (fun _ w us hl I => Y.fa fa_65_1 rfl) ?_
  refine OpsF.y_ (v := .slice _ _ _) (fun _ => runs_none _) (fun _ w us hl I => Y.loadv ty_63 rfl (I.rdbox 1 rfl 1 1) rfl rfl) ?_
  refine OpsF.y_ (v := .int .i64 _) (fun _ => runs_none _) (fun _ w us hl I => Y.move rfl) ?_
  refine OpsF.c_ (fun _ => runs_none _) (fun _ w us hl I => O.callv I Tryz.call58 (lC_ok _ I.base_ok x) rfl (fun w' I' => ⟨rfl, I'⟩)) ?_
  refine OpsF.y_ (v := .pointer (some ⟨_, _, none⟩)) (fun _ => runs_none _) (fun _ w us hl I => Y.idx Tryz.underlying63 Tryz.sizeOf91 rfl rfl (by omega) (by omega)) ?_
  refine OpsF.nil ?_
  intro _ w hl I
  try unfold AllL
  refine Ops.go (O.storeE (vs := (tC x).enc) I ty_91 et_91 0 rfl rfl rfl rfl rfl rfl (by rw [flat_len trm_len, trm_len]; omega) ?_)
  intro w I
  refine Ops.nil ?_
  have hl9 := hl
  rename_i h9 _ _
  have gl9 := gl8.trans hl9
  obtain ⟨ys, hys⟩ : ∃ ys, rx.set 0 (tC x) = ys := ⟨_, rfl⟩
  have hyn : rx.length = ys.length := by rw [← hys, List.length_set]
  have I : Inv B h9 [ownSl 91 2 (.slice (some ⟨gg, 0, none⟩) rx.length rc) rx.length (ys.flatMap Trm.enc), box b10 [.int .i64 k, .slice (some ⟨gg, 0, none⟩) rx.length rc] 65, box b4 p.enc 25] w := by
    rw [← hys, ← flat_overG trm_len _ _ _ (by omega)]
    exact I
  obtain ⟨h10, sb, le10, hvb, hxb, isb, I⟩ := I.settleSl trm_len hyn
  have I : Inv B h10 [box b10 [.int .i64 k, sb.val] 65, box b4 p.enc 25] w := by rw [hvb]; exact I
  have hyx : sb.xs = (varsN i).set 0 (tC x) := by rw [hxb, ← hys, hxa]
  have hbl : sb.xs.length = i := by rw [hyx, List.length_set, vars_len]
  have cb : checkAtom p.preds.xs ⟨k, sb⟩ = 0 := chk_atom hkl hbl (by rw [hpo]; omega) (by rw [hyx]; exact con_ok hm2 x0 (by omega))
  have fb : ∀ y, fitB ⟨k, sb⟩ y = (decide ((k : Int) = y.pred) && decide (x = y.a)) := fun y => by
    unfold fitB
    show (decide ((k : Int) = y.pred) && fitK sb.xs y sb.xs.length) = _
    rw [hbl, hyx, fit_con hi1 hm2]
  have gl10 := gl9.trans le10
  refine WP.seq ?_
  refine WP.region ?_
  refine Ops.y (v := .agg #[_, _]) (Y.loadv ty_25 rfl (I.rdbox 1 rfl 0 2) rfl rfl) ?_
  refine Ops.y (v := .slice _ _ _) (Y.move rfl) ?_
  refine Ops.y (v := .agg #[_, _]) (Y.loadv ty_65 rfl (I.rdbox 0 rfl 0 2) rfl rfl) ?_
  refine Ops.go (O.call I Tryz.call51 (Match_at _ I.base_ok p (hp.le gl10) hnm f (hf.le gl10) ⟨k, sb⟩ ⟨isb, by show sb.xs.length ≤ _; omega⟩ (f.xs.filter fun y => decide ((k : Int) = y.pred) && decide (x = y.a), 0) (match_of hpr okf cb fb)) rfl ?_)
  rintro _ h11 w I le11 ⟨so, rfl, eso, iso⟩
  refine Ops.y (v := .tuple #[_, _]) (Y.move rfl) ?_
  refine Ops.y (v := .slice _ _ _) (Y.extract rfl rfl) ?_
  refine Ops.y (v := .int .i64 _) (Y.extract rfl rfl) ?_
  refine Ops.y (v := .slice _ _ _) (Y.assign rfl) ?_
  refine Ops.y (v := .int .i64 _) (Y.assign rfl) ?_
  refine Ops.nil ?_
  have gl11 := gl10.trans le11
  dsimp only at eso
  obtain ⟨ok2, hu⟩ := under_filter okf fun y => decide ((k : Int) = y.pred) && decide (x = y.a)
  rw [← eso] at ok2 hu
  refine WP.seq ?_
  refine WP.region ?_
  refine Ops.y (v := .pointer (some ⟨_, _, none⟩)) (Y.fa0 fa_25_0 rfl) ?_
  refine Ops.y (v := .slice _ _ _) (Y.loadv ty_22 rfl (I.rdbox 1 rfl 0 1) rfl rfl) ?_
  refine Ops.y (v := .slice _ _ _) (Y.move rfl) ?_
  refine Ops.y (v := .slice _ _ _) (Y.move rfl) ?_
  refine Ops.go (O.callv I Tryz.call50 (Under_at _ I.base_ok p.preds (hp.le gl11).preds so f iso (hf.le gl11) (true, 0) (by rw [underOf_of ok2 okf, hu])) rfl ?_)
  intro w I
  refine Ops.y (v := .tuple #[_, _]) (Y.move rfl) ?_
  refine Ops.y (v := .bool _) (Y.extract rfl rfl) ?_
  refine Ops.y (v := .int .i64 _) (Y.extract rfl rfl) ?_
  refine Ops.y (v := .bool _) (Y.assign rfl) ?_
  refine Ops.y (v := .int .i64 _) (Y.assign rfl) ?_
  refine Ops.nil ?_
  have hle : so.xs.length ≤ ((f.xs.take f.xs.length).filter fun x => decide ((k : Int) = x.pred)).length := by
    rw [List.take_length, eso]
    have : (f.xs.filter fun y => decide ((k : Int) = y.pred) && decide (x = y.a)) = (f.xs.filter fun y => decide ((k : Int) = y.pred)).filter fun y => decide (x = y.a) := by
      rw [List.filter_filter]
      congr 1
      funext y
      exact Bool.and_comm _ _
    rw [this]
    exact List.length_filter_le ..
  have hso := iso.small
  refine WP.seq ?_
  refine WP.seq ?_
  refine WP.region ?_
  refine Ops.y (v := .int .i64 _) (Y.assign rfl) ?_
  refine Ops.nil ?_
  refine WP.block ?_
  obtain ⟨ct, hct⟩ : ∃ ct, ((f.xs.take f.xs.length).filter fun x => decide ((k : Int) = x.pred)).length = ct := ⟨_, rfl⟩
  rw [hct] at hle
  refine WP.loopE (σ := Nat) (fun j => [(9, .int .i64 k), (14, .int .i64 ct), (16, .int .i64 x), (17, so.val), (18, .int .i64 0), (19, .bool true), (20, .int .i64 0), (21, .int .i64 j)])
    (fun j w => Inv B h11 [] w ∧ j ≤ so.xs.length) (fun j => so.xs.length - j)
    ⟨0, ⟨rfl, by rw [← hct]; rfl, rfl, rfl, rfl, rfl, rfl, rfl, trivial⟩, I.weak (List.nil_sublist _), Nat.zero_le _⟩ ?_
  rintro j e w ⟨I, hj⟩
  refine WP.seq ?_
  refine WP.seq ?_
  refine WP.region ?_
  refine Ops.y (v := .int .i64 _) (Y.move rfl) ?_
  refine Ops.y (v := .slice _ _ _) (Y.move rfl) ?_
  refine Ops.y (v := .int .i64 _) (Y.lens Tryz.underlying26 rfl) ?_
  refine Ops.y (v := .bool (decide _)) (Y.lti rfl rfl) ?_
  refine Ops.nil ?_
  refine WP.cond_dec rfl (fun h25 => ?_) (fun h25 => ?_)
  · have hj' : j < so.xs.length := by omega
    have E := iso.at hj'
    have hmem : so.xs[j] ∈ f.xs.filter fun y => decide ((k : Int) = y.pred) && decide (x = y.a) := eso ▸ List.getElem_mem hj'
    have hq := (List.mem_filter.1 hmem).2
    rw [Bool.and_eq_true] at hq
    have q1 := of_decide_eq_true hq.1
    have q2 := of_decide_eq_true hq.2
    refine WP.skip ?_
    refine WP.seq ?_
    refine WP.block ?_
    refine WP.seq ?_
    refine WP.region ?_
    refine Ops.y (v := .slice _ _ _) (Y.move rfl) ?_
    refine Ops.y (v := .int .i64 _) (Y.move rfl) ?_
    refine Ops.y (v := .pointer (some ⟨_, _, none⟩)) (Y.idxEl E Tryz.underlying26 Tryz.sizeOf52 rfl rfl (Int.natCast_nonneg _) rfl) ?_
    refine Ops.y (v := .pointer (some ⟨_, _, none⟩)) (Y.fa fa_52_1 rfl) ?_
    refine Ops.y (v := .int .i64 _) (Y.loadv ty_3 rfl (I.rd (E.rd.part 1 1)) rfl rfl) ?_
    refine Ops.y (v := .int .i64 _) (Y.move rfl) ?_
    refine Ops.y (v := .bool false) (Y.dec_f (Y.nei rfl rfl) ((fun h => h q2.symm))) ?_
    refine Ops.y (v := .bool _) (Y.move rfl) ?_
    refine Ops.ygt rfl (v := .slice _ _ _) (Y.move rfl) ?_
    refine Ops.ygt rfl (v := .int .i64 _) (Y.move rfl) ?_
    refine Ops.ygt rfl (v := .pointer (some ⟨_, _, none⟩)) (Y.idxEl E Tryz.underlying26 Tryz.sizeOf52 rfl rfl (Int.natCast_nonneg _) rfl) ?_
    refine Ops.ygt rfl (v := .pointer (some ⟨_, _, none⟩)) (Y.fa0 fa_52_0 rfl) ?_
    refine Ops.ygt rfl (v := .int .i64 _) (Y.loadv ty_3 rfl (I.rd (E.rd.part 0 1)) rfl rfl) ?_
    refine Ops.ygt rfl (v := .int .i64 _) (Y.move rfl) ?_
    refine Ops.ygt rfl (v := .bool false) (Y.dec_f (Y.nei rfl rfl) ((fun h => h q1.symm))) ?_
    refine Ops.y (v := .bool _) (Y.pick_f rfl rfl) ?_
    refine Ops.nil ?_
    refine WP.cond_f rfl ?_
    refine WP.skip ?_
    refine WP.region ?_
    refine Ops.y (v := .int .i64 _) (Y.move rfl) ?_
    refine Ops.y (v := .int .i64 _) (Y.addi rfl rfl ⟨by omega, by omega⟩) ?_
    refine Ops.y (v := .int .i64 _) (Y.assign rfl) ?_
    refine Ops.nil ?_
    exact ⟨j + 1, ⟨⟨rfl, rfl, rfl, rfl, rfl, rfl, rfl, rfl, trivial⟩, I, by omega⟩, by omega⟩
  refine WP.exit ?_
  refine WP.seq ?_
  refine WP.region ?_
  refine Ops.go (O.callv I Tryz.call53 (askBegun_ok _ I.base_ok) rfl ?_)
  intro w I
  refine Ops.y (v := .bool _) (Y.move rfl) ?_
  refine Ops.ygt rfl (v := .int .i64 _) (Y.move rfl) ?_
  refine Ops.ygt rfl (v := .bool true) (Y.dec_t (Y.eqi rfl rfl) (rfl)) ?_
  refine Ops.y (v := .bool _) (Y.pick_t rfl rfl) ?_
  refine Ops.y (v := .bool _) (Y.move rfl) ?_
  refine Ops.ygt rfl (v := .int .i64 _) (Y.move rfl) ?_
  refine Ops.ygt rfl (v := .bool true) (Y.dec_t (Y.eqi rfl rfl) (rfl)) ?_
  refine Ops.y (v := .bool _) (Y.pick_t rfl rfl) ?_
  refine Ops.y (v := .bool _) (Y.move rfl) ?_
  refine Ops.ygt rfl (v := .bool _) (Y.move rfl) ?_
  refine Ops.y (v := .bool _) (Y.pick_t rfl rfl) ?_
  refine Ops.y (v := .bool _) (Y.move rfl) ?_
  refine Ops.ygt rfl (v := .slice _ _ _) (Y.move rfl) ?_
  refine Ops.ygt rfl (v := .int .i64 _) (Y.lens Tryz.underlying26 rfl) ?_
  refine Ops.ygt rfl (v := .int .i64 _) (Y.move rfl) ?_
  refine Ops.ygt rfl (v := .bool true) (Y.dec_t (Y.lei rfl rfl) ((by omega))) ?_
  refine Ops.y (v := .bool _) (Y.pick_t rfl rfl) ?_
  refine Ops.y (v := .bool _) (Y.assign rfl) ?_
  refine Ops.nil ?_
  refine WP.ret ?_
  repeat (first | refine thenE_ret ?_ | refine blockE_ret ?_)
  exact retQ.mk (vs := [.bool _]) rfl ⟨rfl, trivial⟩ I.ext_of (rfl)
end Go.TF
end
