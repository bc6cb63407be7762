/- Texts TxtLaw2 Base31 TxtOpen. -/
import Derived.Test.YtljkkojkfddpeaaGreatDoorU8
import Derived.Test.YtljkkojkfddpeaaGreatDoorU9
import Derived.Stop.LaidErr
import Derived.OpenShut
import Derived.ChangeArms
import Derived.Test.YtljkkojkfddpeaaGreatDoorU4
import Derived.Test.YtljkkojkfddpeaaGreatDoorRows
import Derived.Shelf.Vars
import Derived.MakeChecks
section
/- The law TextBack: it returns true. -/
namespace Go.TF
open Go Go.RowKit Go.Proofs
set_option maxRecDepth 20000

theorem turnT_er (p : Prg) (M : List Int) (st : Int) : turnT p.er M st = turnT p M st := by
  funext f
  unfold turnT
  have h1 : p.er.rules.xs = p.rules.xs.map Rul.er := rfl
  have h2 : p.er.preds.xs = p.preds.xs := rfl
  rw [h1, h2, toldL_er]
  have : toldL p.preds.xs f p.rules.xs (ofQ p.er M st) = toldL p.preds.xs f p.rules.xs (ofQ p M st) := toldK_congr fun n hn => by
    unfold ofQ
    rw [h1, List.getD_eq_getElem?_getD, List.getD_eq_getElem?_getD, List.getElem?_map]
    cases p.rules.xs[n]? <;> rfl
  rw [this]
theorem ModK_congr {p q : Prg} {M : List Int} (h : ∀ st, turnT p M st = turnT q M st) : ∀ {k : Nat} {f : List Fct} {rs : List Int}, ModK p M k f rs → ModK q M k f rs
  | 0, _, _, hm => hm
  | k + 1, _, _, ⟨f0, r0, n, a, b, c⟩ => ⟨f0, r0, n, ModK_congr h a, by rw [← h]; exact b, c⟩
theorem least_iff {cs : List (Int × Ltl)} {n : Nat} {L : List Int} : Least (cs.map cEr) n L ↔ Least cs n L := ⟨least_er, fun h => ⟨sol_er.2 h.sol, fun M hM => h.least M (sol_er.1 hM)⟩⟩
theorem strataM_er {p q : Prg} (he : p.er = q.er) : strataM p = strataM q := by
  have hr : p.rules.xs.map Rul.er = q.rules.xs.map Rul.er := by have := congrArg (fun z : Prg => z.rules.xs) he; exact this
  have hl : p.preds.xs = q.preds.xs := by have := congrArg (fun z : Prg => z.preds.xs) he; exact this
  have key : ∀ L, Least (usesL p.rules.xs) p.preds.xs.length L ↔ Least (usesL q.rules.xs) q.preds.xs.length L := fun L => by
    rw [← least_iff, ← usesL_er, hr, usesL_er, least_iff, hl]
  by_cases h : ∃ M, Least (usesL p.rules.xs) p.preds.xs.length M
  · obtain ⟨M, hM⟩ := h
    rw [strataM_eq hM, strataM_eq ((key M).1 hM)]
  · have h2 : ¬ ∃ M, Least (usesL q.rules.xs) q.preds.xs.length M := fun ⟨M, hM⟩ => h ⟨M, (key M).2 hM⟩
    unfold strataM
    rw [dif_neg h, dif_neg h2]
theorem Model_same {p q : Prg} (he : p.er = q.er) {f g : List Fct} {rs ss : List Int} (h1 : ModK p (strataM p) (numS (strataM p)) f rs) (h2 : ModK q (strataM q) (numS (strataM q)) g ss) : f = g := by
  rw [← strataM_er he] at h2
  have : ∀ st, turnT q (strataM p) st = turnT p (strataM p) st := fun st => by rw [← turnT_er q, ← he, turnT_er]
  exact ((ModK_congr this h2).uniq h1).1
theorem readOK_some {s : ByteArray} {st : St} (h : readOK s = some st) : readE s = 0 ∧ readP s = prgOf st ∧ checkProg (prgOf st) = 0 ∧ progL (prgOf st) = tx s := by
  refine ⟨?_, by unfold readP; rw [h]; rfl, ?_⟩
  · unfold readE
    rw [h]
    unfold readOK at h
    split at h
    · cases h
    · rename_i hs; rw [if_neg hs]; rfl
  · unfold readOK at h
    split at h
    · cases h
    · split at h
      · cases h
      · split at h
        · rename_i hc; injection h with h; subst h; exact hc
        · cases h
theorem Read_some {B : Base} (V : Vars B.h) (hB : B.ok) {s : ByteArray} {st : St} (h : readOK s = some st) : Fn Tryz.prog 8 [.string s] B (fun v h => ∃ g : Prg, v = .tuple #[g.val, .int .i64 0] ∧ g.In h ∧ g.Nm ∧ g.er = prgOf st) :=
  (Read_ok B hB V s).mono fun v h' _ ⟨g, hv, gi, gn, ge⟩ => ⟨g, by rw [hv, (readOK_some h).1], gi, gn, by rw [ge, (readOK_some h).2.1]⟩
theorem Show_some (B : Base) (hB : B.ok) {s : ByteArray} {st : St} (h : readOK s = some st) (g : Prg) (gi : g.In B.h) (gn : g.Nm) (ge : g.er = prgOf st) : Fn Tryz.prog 7 [g.val] B (fun v _ => v = .tuple #[.string s, .int .i64 0]) :=
  (Show_ok B hB g gi gn).mono fun v h' _ hv => by
    obtain ⟨_, _, h3, h4⟩ := readOK_some h
    rw [hv]; unfold showOf
    rw [if_pos (by rw [← checkProg_er, ge, h3]), ← progL_er, ge, h4, show mk (tx s) = s from mk_tx s]
theorem Model_at (B : Base) (hB : B.ok) (p : Prg) (hp : p.In B.h) (hnm : p.Nm) (hpr : checkProg p = 0) : Fn Tryz.prog 9 [p.val] B (fun v h => ∃ (s : Sl Fct) (rs : List Int), v = .tuple #[s.val, .int .i64 0] ∧ Fcts s h ∧ ModK p (strataM p) (numS (strataM p)) s.xs rs) :=
  (Model_ok B hB p hp hnm).mono fun v h' _ hv => by
    rcases hv with ⟨h1, _⟩ | ⟨_, hv⟩
    · exact absurd hpr h1
    · exact hv
set_option maxHeartbeats 4000000 in
theorem TextBack_ok (B : Base) (hB : B.ok) (V : Vars B.h) (p : Prg) (hp : p.In B.h) (hnm : p.Nm) (s : ByteArray) : Fn Tryz.prog 3 [p.val, .string s] B (fun v _ => v = .bool true) := by
  by_cases hp0 : checkProg p = 0
  · have hlen := prog_len hp0
    have hS : ∀ B : Base, B.ok → p.In B.h → Fn Tryz.prog 7 [p.val] B (fun v _ => v = .tuple #[.string (mk (progL p)), .int .i64 0]) := fun B hB hp => (Show_ok B hB p hp hnm).mono fun v h' _ hv => by
      rw [hv]; unfold showOf; rw [if_pos hp0]
    refine Fn.of Tryz.func3 rfl Tryz.ntmps3 (by kernel_rfl) (by simp) ?_
    intro e
    have I := Inv.start hB
    refine WP.seq ?_
    refine WP.region ?_
    refine Ops.go (O.box (v := .agg #[_, _]) I rfl rfl ?_)
    intro b2 w I
    refine Ops.y (v := .bool _) (Y.assign rfl) ?_
    refine Ops.nil ?_
    refine WP.seq ?_
    refine WP.region ?_
    refine Ops.y (v := .agg #[_, _]) (Y.loadv ty_25 rfl (I.rdbox 0 rfl 0 2) rfl rfl) ?_
    refine Ops.go (O.callv I Tryz.call7 (hS _ I.base_ok hp) rfl ?_)
    intro w I
    refine Ops.y (v := .tuple #[_, _]) (Y.move rfl) ?_
    refine Ops.y (v := .string _) (Y.extract rfl rfl) ?_
    refine Ops.y (v := .int .i64 _) (Y.extract rfl rfl) ?_
    refine Ops.y (v := .string _) (Y.assign rfl) ?_
    refine Ops.y (v := .int .i64 _) (Y.assign rfl) ?_
    refine Ops.nil ?_
    refine WP.seq ?_
    refine WP.seq ?_
    refine WP.region ?_
    refine Ops.y (v := .int .i64 _) (Y.move rfl) ?_
    refine Ops.y (v := .bool true) (Y.dec_t (Y.eqi rfl rfl) (rfl)) ?_
    refine Ops.y (v := .bool _) (Y.move rfl) ?_
    refine Ops.ygt rfl (v := .string _) (Y.move rfl) ?_
    refine Ops.ygt rfl (v := .int .i64 _) (Y.lenstr Tryz.underlying9 rfl) ?_
    refine Ops.ygt rfl (v := .bool true) (Y.dec_t (Y.lei rfl rfl) ((by rw [mk_size]; omega))) ?_
    refine Ops.y (v := .bool _) (Y.pick_t rfl rfl) ?_
    refine Ops.nil ?_
    refine WP.cond_t rfl ?_
    refine WP.seq ?_
    refine WP.region ?_
    refine Ops.y (v := .string _) (Y.move rfl) ?_
    refine Ops.go (O.call I Tryz.call8 (Read_some (B := ⟨w, _⟩) V I.base_ok (readOK_show hp0)) rfl ?_)
    rintro _ h1 w I le1 ⟨g, rfl, gi, gn, ge⟩
    refine Ops.y (v := .tuple #[_, _]) (Y.move rfl) ?_
    refine Ops.y (v := .agg #[_, _]) (Y.extract rfl rfl) ?_
    refine Ops.y (v := .int .i64 _) (Y.extract rfl rfl) ?_
    refine Ops.go (O.alloc I Tryz.zeroValue25 rfl ?_)
    intro b7 w I
    refine Ops.go (O.store (v := .agg #[_, _]) I ty_25 0 rfl rfl rfl rfl rfl rfl (Nat.le_of_ble_eq_true rfl) rfl ?_)
    intro w I
    refine Ops.y (v := .int .i64 _) (Y.assign rfl) ?_
    refine Ops.nil ?_
    have he : g.er = p.er := ge
    have hg0 : checkProg g = 0 := by rw [← checkProg_er, he, checkProg_er, hp0]
    refine WP.seq ?_
    refine WP.region ?_
    refine Ops.y (v := .agg #[_, _]) (Y.loadv ty_25 rfl (I.rdbox 1 rfl 0 2) rfl rfl) ?_
    refine Ops.go (O.call I Tryz.call9 (Model_at _ I.base_ok p (hp.le le1) hnm hp0) rfl ?_)
    rintro _ h2 w I le2 ⟨f1, r1, rfl, i1, m1⟩
    refine Ops.y (v := .tuple #[_, _]) (Y.move rfl) ?_
    refine Ops.y (v := .slice _ _ _) (Y.extract rfl rfl) ?_
    refine Ops.y (v := .int .i64 _) (Y.extract rfl rfl) ?_
    refine Ops.y (v := .slice _ _ _) (Y.assign rfl) ?_
    refine Ops.y (v := .int .i64 _) (Y.assign rfl) ?_
    refine Ops.nil ?_
    refine WP.seq ?_
    refine WP.region ?_
    refine Ops.y (v := .agg #[_, _]) (Y.loadv ty_25 rfl (I.rdbox 0 rfl 0 2) rfl rfl) ?_
    refine Ops.go (O.call I Tryz.call9 (Model_at _ I.base_ok g (gi.le le2) gn hg0) rfl ?_)
    rintro _ h3 w I le3 ⟨f2, r2, rfl, i2, m2⟩
    refine Ops.y (v := .tuple #[_, _]) (Y.move rfl) ?_
    refine Ops.y (v := .slice _ _ _) (Y.extract rfl rfl) ?_
    refine Ops.y (v := .int .i64 _) (Y.extract rfl rfl) ?_
    refine Ops.y (v := .slice _ _ _) (Y.assign rfl) ?_
    refine Ops.y (v := .int .i64 _) (Y.assign rfl) ?_
    refine Ops.nil ?_
    refine WP.seq ?_
    refine WP.region ?_
    refine Ops.y (v := .int .i64 _) (Y.move rfl) ?_
    refine Ops.y (v := .bool false) (Y.dec_f (Y.nei rfl rfl) ((fun h => h rfl))) ?_
    refine Ops.y (v := .bool _) (Y.move rfl) ?_
    refine Ops.ygt rfl (v := .int .i64 _) (Y.move rfl) ?_
    refine Ops.ygt rfl (v := .bool false) (Y.dec_f (Y.nei rfl rfl) ((fun h => h rfl))) ?_
    refine Ops.y (v := .bool _) (Y.pick_f rfl rfl) ?_
    refine Ops.y (v := .bool _) (Y.move rfl) ?_
    refine Ops.ygt rfl (v := .int .i64 _) (Y.move rfl) ?_
    refine Ops.ygt rfl (v := .bool false) (Y.dec_f (Y.nei rfl rfl) ((fun h => h rfl))) ?_
    refine Ops.y (v := .bool _) (Y.pick_f rfl rfl) ?_
    refine Ops.y (v := .bool _) (Y.move rfl) ?_
    refine Ops.ygt rfl (v := .agg #[_, _]) (Y.loadv ty_25 rfl (I.rdbox 0 rfl 0 2) rfl rfl) ?_
    refine Ops.ygt rfl (v := .agg #[_, _]) (Y.loadv ty_25 rfl (I.rdbox 1 rfl 0 2) rfl rfl) ?_
    refine Ops.gt rfl (O.callv I Tryz.call10 (SameProgs_at _ I.base_ok g p (gi.le (le2.trans le3)) (hp.le ((le1.trans le2).trans le3)) he) rfl ?_)
    intro w I
    refine Ops.ygt rfl (v := .bool false) (Y.b (Y.not rfl) (rfl)) ?_
    refine Ops.y (v := .bool _) (Y.pick_f rfl rfl) ?_
    refine Ops.y (v := .bool _) (Y.move rfl) ?_
    refine Ops.ygt rfl (v := .slice _ _ _) (Y.move rfl) ?_
    refine Ops.ygt rfl (v := .slice _ _ _) (Y.move rfl) ?_
    refine Ops.gt rfl (O.callv I Tryz.call11 (SameFacts_at _ I.base_ok f1 f2 (i1.le le3) i2 (Model_same he.symm m1 m2)) rfl ?_)
    intro w I
    refine Ops.ygt rfl (v := .bool false) (Y.b (Y.not rfl) (rfl)) ?_
    refine Ops.y (v := .bool _) (Y.pick_f rfl rfl) ?_
    refine Ops.nil ?_
    refine WP.cond_f rfl ?_
    refine WP.skip ?_
    refine WP.seq ?_
    have leA := (le1.trans le2).trans le3
    by_cases hr : readOK s = none
    · have hne : readE s ≠ 0 := by unfold readE; rw [hr]; split <;> decide
      refine WP.region ?_
      refine Ops.y (v := .string _) (Y.move rfl) ?_
      refine Ops.go (O.call I Tryz.call8 (Read_ok _ I.base_ok (V.le leA) s) rfl ?_)
      rintro _ h6 w I le6 ⟨h, rfl, hi, hn, he⟩
      refine Ops.y (v := .tuple #[_, _]) (Y.move rfl) ?_
      refine Ops.y (v := .agg #[_, _]) (Y.extract rfl rfl) ?_
      refine Ops.y (v := .int .i64 _) (Y.extract rfl rfl) ?_
      refine Ops.go (O.alloc I Tryz.zeroValue25 rfl ?_)
      intro b13 w I
      refine Ops.go (O.store (v := .agg #[_, _]) I ty_25 0 rfl rfl rfl rfl rfl rfl (Nat.le_of_ble_eq_true rfl) rfl ?_)
      intro w I
      refine Ops.y (v := .int .i64 _) (Y.assign rfl) ?_
      refine Ops.nil ?_
      refine WP.seq ?_
      refine WP.seq ?_
      refine WP.region ?_
      refine Ops.y (v := .int .i64 _) (Y.move rfl) ?_
      refine Ops.y (v := .bool true) (Y.dec_t (Y.nei rfl rfl) (hne)) ?_
      refine Ops.nil ?_
      refine WP.cond_t rfl ?_
      refine WP.seq ?_
      refine WP.region ?_
      refine Ops.go (O.call I Tryz.call12 (textBegun_ok _ I.base_ok (V.le (leA.trans le6))) rfl ?_)
      rintro _ h7 w I le7 rfl
      refine Ops.y (v := .bool _) (Y.assign rfl) ?_
      refine Ops.nil ?_
      refine WP.ret ?_
      repeat (first | refine thenE_ret ?_ | refine blockE_ret ?_)
      exact retQ.mk (vs := [.bool _]) rfl ⟨rfl, trivial⟩ I.ext_of (rfl)
    · obtain ⟨st, hst⟩ := Option.ne_none_iff_exists'.1 hr
      refine WP.region ?_
      refine Ops.y (v := .string _) (Y.move rfl) ?_
      refine Ops.go (O.call I Tryz.call8 (Read_some (B := ⟨w, _⟩) (V.le leA) I.base_ok hst) rfl ?_)
      rintro _ h6 w I le6 ⟨h, rfl, hi, hn, he⟩
      refine Ops.y (v := .tuple #[_, _]) (Y.move rfl) ?_
      refine Ops.y (v := .agg #[_, _]) (Y.extract rfl rfl) ?_
      refine Ops.y (v := .int .i64 _) (Y.extract rfl rfl) ?_
      refine Ops.go (O.alloc I Tryz.zeroValue25 rfl ?_)
      intro b13 w I
      refine Ops.go (O.store (v := .agg #[_, _]) I ty_25 0 rfl rfl rfl rfl rfl rfl (Nat.le_of_ble_eq_true rfl) rfl ?_)
      intro w I
      refine Ops.y (v := .int .i64 _) (Y.assign rfl) ?_
      refine Ops.nil ?_
      refine WP.seq ?_
      refine WP.seq ?_
      refine WP.region ?_
      refine Ops.y (v := .int .i64 _) (Y.move rfl) ?_
      refine Ops.y (v := .bool false) (Y.dec_f (Y.nei rfl rfl) ((fun h => h rfl))) ?_
      refine Ops.nil ?_
      refine WP.cond_f rfl ?_
      refine WP.skip ?_
      refine WP.seq ?_
      refine WP.region ?_
      refine Ops.y (v := .agg #[_, _]) (Y.loadv ty_25 rfl (I.rdbox 0 rfl 0 2) rfl rfl) ?_
      refine Ops.go (O.callv I Tryz.call7 (Show_some _ I.base_ok hst h hi hn he) rfl ?_)
      intro w I
      refine Ops.y (v := .tuple #[_, _]) (Y.move rfl) ?_
      refine Ops.y (v := .string _) (Y.extract rfl rfl) ?_
      refine Ops.y (v := .int .i64 _) (Y.extract rfl rfl) ?_
      refine Ops.y (v := .string _) (Y.assign rfl) ?_
      refine Ops.y (v := .int .i64 _) (Y.assign rfl) ?_
      refine Ops.nil ?_
      refine WP.seq ?_
      refine WP.region ?_
      refine Ops.go (O.call I Tryz.call12 (textBegun_ok _ I.base_ok (V.le (leA.trans le6))) rfl ?_)
      rintro _ h7 w I le7 rfl
      refine Ops.y (v := .bool true) (Y.b (Y.move rfl) (rfl)) ?_
      refine Ops.ygt rfl (v := .int .i64 _) (Y.move rfl) ?_
      refine Ops.ygt rfl (v := .bool true) (Y.dec_t (Y.eqi rfl rfl) (rfl)) ?_
      refine Ops.y (v := .bool _) (Y.pick_t rfl rfl) ?_
      refine Ops.y (v := .bool _) (Y.move rfl) ?_
      refine Ops.ygt rfl (v := .string _) (Y.move rfl) ?_
      refine Ops.ygt rfl (v := .string _) (Y.move rfl) ?_
      refine Ops.ygt rfl (v := .bool true) (Y.is (Y.eqs rfl rfl) ((by rw [beq_tx]; simp))) ?_
      refine Ops.y (v := .bool _) (Y.pick_t rfl rfl) ?_
      refine Ops.y (v := .bool _) (Y.assign rfl) ?_
      refine Ops.nil ?_
      refine WP.ret ?_
      repeat (first | refine thenE_ret ?_ | refine blockE_ret ?_)
      exact retQ.mk (vs := [.bool _]) rfl ⟨rfl, trivial⟩ I.ext_of (rfl)
  · have hS : ∀ B : Base, B.ok → p.In B.h → Fn Tryz.prog 7 [p.val] B (fun v _ => v = .tuple #[.string ⟨#[]⟩, .int .i64 (checkProg p)]) := fun B hB hp => (Show_ok B hB p hp hnm).mono fun v h' _ hv => by
      rw [hv]; unfold showOf; rw [if_neg hp0]
    refine Fn.of Tryz.func3 rfl Tryz.ntmps3 (by kernel_rfl) (by simp) ?_
    intro e
    have I := Inv.start hB
    refine WP.seq ?_
    refine WP.region ?_
    refine Ops.go (O.box (v := .agg #[_, _]) I rfl rfl ?_)
    intro b2 w I
    refine Ops.y (v := .bool _) (Y.assign rfl) ?_
    refine Ops.nil ?_
    refine WP.seq ?_
    refine WP.region ?_
    refine Ops.y (v := .agg #[_, _]) (Y.loadv ty_25 rfl (I.rdbox 0 rfl 0 2) rfl rfl) ?_
    refine Ops.go (O.callv I Tryz.call7 (hS _ I.base_ok hp) rfl ?_)
    intro w I
    refine Ops.y (v := .tuple #[_, _]) (Y.move rfl) ?_
    refine Ops.y (v := .string _) (Y.extract rfl rfl) ?_
    refine Ops.y (v := .int .i64 _) (Y.extract rfl rfl) ?_
    refine Ops.y (v := .string _) (Y.assign rfl) ?_
    refine Ops.y (v := .int .i64 _) (Y.assign rfl) ?_
    refine Ops.nil ?_
    refine WP.seq ?_
    refine WP.seq ?_
    refine WP.region ?_
    refine Ops.y (v := .int .i64 _) (Y.move rfl) ?_
    refine Ops.y (v := .bool false) (Y.dec_f (Y.eqi rfl rfl) (hp0)) ?_
    refine Ops.y (v := .bool _) (Y.move rfl) ?_
    refine Ops.gf rfl ?_
    refine Ops.gf rfl ?_
    refine Ops.gf rfl ?_
    refine Ops.y (v := .bool _) (Y.pick_f rfl rfl) ?_
    refine Ops.nil ?_
    refine WP.cond_f rfl ?_
    refine WP.skip ?_
    refine WP.seq ?_
    have leA := Heap.le.refl B.h
    by_cases hr : readOK s = none
    · have hne : readE s ≠ 0 := by unfold readE; rw [hr]; split <;> decide
      refine WP.region ?_
      refine Ops.y (v := .string _) (Y.move rfl) ?_
      refine Ops.go (O.call I Tryz.call8 (Read_ok _ I.base_ok (V.le leA) s) rfl ?_)
      rintro _ h6 w I le6 ⟨h, rfl, hi, hn, he⟩
      refine Ops.y (v := .tuple #[_, _]) (Y.move rfl) ?_
      refine Ops.y (v := .agg #[_, _]) (Y.extract rfl rfl) ?_
      refine Ops.y (v := .int .i64 _) (Y.extract rfl rfl) ?_
      refine Ops.go (O.alloc I Tryz.zeroValue25 rfl ?_)
      intro b13 w I
      refine Ops.go (O.store (v := .agg #[_, _]) I ty_25 0 rfl rfl rfl rfl rfl rfl (Nat.le_of_ble_eq_true rfl) rfl ?_)
      intro w I
      refine Ops.y (v := .int .i64 _) (Y.assign rfl) ?_
      refine Ops.nil ?_
      refine WP.seq ?_
      refine WP.seq ?_
      refine WP.region ?_
      refine Ops.y (v := .int .i64 _) (Y.move rfl) ?_
      refine Ops.y (v := .bool true) (Y.dec_t (Y.nei rfl rfl) (hne)) ?_
      refine Ops.nil ?_
      refine WP.cond_t rfl ?_
      refine WP.seq ?_
      refine WP.region ?_
      refine Ops.go (O.call I Tryz.call12 (textBegun_ok _ I.base_ok (V.le (leA.trans le6))) rfl ?_)
      rintro _ h7 w I le7 rfl
      refine Ops.y (v := .bool _) (Y.assign rfl) ?_
      refine Ops.nil ?_
      refine WP.ret ?_
      repeat (first | refine thenE_ret ?_ | refine blockE_ret ?_)
      exact retQ.mk (vs := [.bool _]) rfl ⟨rfl, trivial⟩ I.ext_of (rfl)
    · obtain ⟨st, hst⟩ := Option.ne_none_iff_exists'.1 hr
      refine WP.region ?_
      refine Ops.y (v := .string _) (Y.move rfl) ?_
      refine Ops.go (O.call I Tryz.call8 (Read_some (B := ⟨w, _⟩) (V.le leA) I.base_ok hst) rfl ?_)
      rintro _ h6 w I le6 ⟨h, rfl, hi, hn, he⟩
      refine Ops.y (v := .tuple #[_, _]) (Y.move rfl) ?_
      refine Ops.y (v := .agg #[_, _]) (Y.extract rfl rfl) ?_
      refine Ops.y (v := .int .i64 _) (Y.extract rfl rfl) ?_
      refine Ops.go (O.alloc I Tryz.zeroValue25 rfl ?_)
      intro b13 w I
      refine Ops.go (O.store (v := .agg #[_, _]) I ty_25 0 rfl rfl rfl rfl rfl rfl (Nat.le_of_ble_eq_true rfl) rfl ?_)
      intro w I
      refine Ops.y (v := .int .i64 _) (Y.assign rfl) ?_
      refine Ops.nil ?_
      refine WP.seq ?_
      refine WP.seq ?_
      refine WP.region ?_
      refine Ops.y (v := .int .i64 _) (Y.move rfl) ?_
      refine Ops.y (v := .bool false) (Y.dec_f (Y.nei rfl rfl) ((fun h => h rfl))) ?_
      refine Ops.nil ?_
      refine WP.cond_f rfl ?_
      refine WP.skip ?_
      refine WP.seq ?_
      refine WP.region ?_
      refine Ops.y (v := .agg #[_, _]) (Y.loadv ty_25 rfl (I.rdbox 0 rfl 0 2) rfl rfl) ?_
      refine Ops.go (O.callv I Tryz.call7 (Show_some _ I.base_ok hst h hi hn he) rfl ?_)
      intro w I
      refine Ops.y (v := .tuple #[_, _]) (Y.move rfl) ?_
      refine Ops.y (v := .string _) (Y.extract rfl rfl) ?_
      refine Ops.y (v := .int .i64 _) (Y.extract rfl rfl) ?_
      refine Ops.y (v := .string _) (Y.assign rfl) ?_
      refine Ops.y (v := .int .i64 _) (Y.assign rfl) ?_
      refine Ops.nil ?_
      refine WP.seq ?_
      refine WP.region ?_
      refine Ops.go (O.call I Tryz.call12 (textBegun_ok _ I.base_ok (V.le (leA.trans le6))) rfl ?_)
      rintro _ h7 w I le7 rfl
      refine Ops.y (v := .bool true) (Y.b (Y.move rfl) (rfl)) ?_
      refine Ops.ygt rfl (v := .int .i64 _) (Y.move rfl) ?_
      refine Ops.ygt rfl (v := .bool true) (Y.dec_t (Y.eqi rfl rfl) (rfl)) ?_
      refine Ops.y (v := .bool _) (Y.pick_t rfl rfl) ?_
      refine Ops.y (v := .bool _) (Y.move rfl) ?_
      refine Ops.ygt rfl (v := .string _) (Y.move rfl) ?_
      refine Ops.ygt rfl (v := .string _) (Y.move rfl) ?_
      refine Ops.ygt rfl (v := .bool true) (Y.is (Y.eqs rfl rfl) ((by rw [beq_tx]; simp))) ?_
      refine Ops.y (v := .bool _) (Y.pick_t rfl rfl) ?_
      refine Ops.y (v := .bool _) (Y.assign rfl) ?_
      refine Ops.nil ?_
      refine WP.ret ?_
      repeat (first | refine thenE_ret ?_ | refine blockE_ret ?_)
      exact retQ.mk (vs := [.bool _]) rfl ⟨rfl, trivial⟩ I.ext_of (rfl)
end Go.TF
end
section
/- What a row's listed variables hold: a table of numbers. -/
namespace Go.TF
open Go Go.RowKit

theorem laid_ints {P : Program} {n : String} {k : IntKind} {zs : List Int} {r : List (String × DataW Unit)} {W : World} {g : Nat} {t e : TypeId} (h : laidMet P ((n, .agg (zs.map fun z => .lit (.int k z))) :: r) W)
    (hg : P.globalNamed n = some g) (ht : (P.globals[g]?).map (·.type) = some t) (hu : P.underlying t = some (.array zs.length e)) (he : P.underlying e = some (.int k)) (hce : P.cellsOf e = 1) (hct : P.cellsOf t = zs.length) :
    ∃ T f, W.heap[g]? = some (.cells (zs.map fun z => Value.int k z).toArray T f) := by
  obtain ⟨ps, ⟨g0, t0, cs, fuel, p, q, hg0, ht0, hv, hd, _, _⟩, _, _⟩ := h
  obtain rfl := Option.some.inj (hg.symm.trans hg0)
  obtain rfl := Option.some.inj (ht.symm.trans ht0)
  obtain ⟨xs, m, _, ex, hl, hxl, hel⟩ := DataW.trod_array hu hd
  have e3 : (xs.map (·.1)) = zs.map fun z => (.lit (.int k z) : DataW Unit) := (DataW.agg.inj (Prod.mk.inj ex).1).symm
  have key : cs.toList = zs.map fun z => Value.int k z := by
    refine List.ext_getElem? fun i => ?_
    by_cases hi : i < zs.length
    · have hE := hel i hi
      rw [hce, Nat.mul_one, List.getElem?_eq_getElem (by omega)] at hE
      obtain ⟨z, e1, e2, _⟩ := DataW.trod_int he hE
      have e4 : (xs.map (·.1))[i]? = (zs.map fun z => (.lit (.int k z) : DataW Unit))[i]? := by rw [e3]
      rw [List.getElem?_map, List.getElem?_map, List.getElem?_eq_getElem (by omega : i < xs.length), List.getElem?_eq_getElem hi, e2] at e4
      simp only [Option.map_some, Option.some.injEq, DataW.lit.injEq, Lit.int.injEq, true_and] at e4
      have h0 : ((cs.toList.drop i).take 1)[0]? = some (.int k z) := by rw [e1]; rfl
      rw [List.getElem?_map, List.getElem?_eq_getElem hi, Option.map_some, ← e4]
      simpa using h0
    · rw [List.getElem?_eq_none (by omega), List.getElem?_eq_none (by rw [List.length_map]; omega)]
  unfold World.var? at hv
  rw [hg, Option.bind_some] at hv
  split at hv
  · rename_i c T f hb
    injection hv with hv
    subst hv
    exact ⟨T, f, by rw [hb, ← key]⟩
  · cases hv
end Go.TF
end
section
/- What the rows of the texts' laws say of the package's variables. -/
namespace Go.TF
open Go Go.RowKit Go.Proofs
set_option maxRecDepth 100000
open Go.Proofs.YtljkkojkfddpeaaGreatDoor

abbrev textLaid : List (String × DataW Unit) := Rows.textFactsRow.laid
theorem vars_of {W : World} (hL : laidMetH Tryz.prog textLaid W) (hsh : W.ShapedOpen Tryz.prog) : Vars (memH W) := by
  rw [MakeChecks.laidMetH_plain _ _ _ (by kernel_rfl)] at hL
  have h3 := hL.tail.tail
  have h5 := h3.tail.tail
  have h6 := h5.tail
  obtain ⟨m, hm⟩ := cell_of_shapedOpen_int (g := 0) (t := 3) (zero := #[.int .i64 0]) hsh (of_decide_eq_true (by kernel_rfl)) (by kernel_rfl) rfl (by kernel_rfl) (by kernel_rfl) Tryz.underlying3
  refine ⟨⟨m, memH_cell hm⟩, ?_, ?_, ?_⟩
  · obtain ⟨a, s, hv, _⟩ := laid_sentinel (g := 2) (ti := 55) h6 (by kernel_rfl) (by kernel_rfl) Tryz.underlying55 (tp := 271) (te := 273) (ts := 9) (fun u h => typeName_ptr_named (nm := "errors.errorString") (by kernel_rfl) (by kernel_rfl) (by decide) u h) Tryz.underlying271 Tryz.underlying273 rfl rfl Tryz.underlying9 (by kernel_rfl) (by kernel_rfl)
    exact ⟨_, _, memH_cell (by simpa using World.var?_cell (g := 2) (by kernel_rfl) hv 0)⟩
  · obtain ⟨a, s, hv, _⟩ := laid_sentinel (g := 3) (ti := 55) h5 (by kernel_rfl) (by kernel_rfl) Tryz.underlying55 (tp := 271) (te := 273) (ts := 9) (fun u h => typeName_ptr_named (nm := "errors.errorString") (by kernel_rfl) (by kernel_rfl) (by decide) u h) Tryz.underlying271 Tryz.underlying273 rfl rfl Tryz.underlying9 (by kernel_rfl) (by kernel_rfl)
    exact ⟨_, _, memH_cell (by simpa using World.var?_cell (g := 3) (by kernel_rfl) hv 0)⟩
  · exact laid_ints (g := 1) (t := 226) (e := 199) (k := .u64) (zs := Lib.pow10Tab) h3 (by kernel_rfl) (by kernel_rfl) Tryz.underlying226 Tryz.underlying199 (by kernel_rfl) (by kernel_rfl)
theorem PrgOk.nm5 {p : Prg} {h : Heap} (x : PrgOk p h) : p.Nm := fun y hy => by
  have := (x.preds.each y hy).1
  simp only [reachBytes] at this; omega
end Go.TF
end
