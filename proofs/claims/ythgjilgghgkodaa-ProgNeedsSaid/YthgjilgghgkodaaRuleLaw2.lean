/- The laws of rules: each returns true. -/
import Derived.Test.YthgjilgghgkodaaRuleLaw
namespace Go.TF
open Go Go.RowKit Go.Proofs
set_option maxRecDepth 20000

theorem RoadsAt.le {p : Prg} {h h' : Heap} (x : RoadsAt p h) (hl : h.le h') : RoadsAt p h' := ⟨x.is.le hl, x.er, x.cap⟩
theorem RoadsAt.preds {p : Prg} {h : Heap} (x : RoadsAt p h) : p.preds.xs = roadsC.preds.xs := by have := congrArg (fun q : Prg => q.preds.xs) x.er; exact this
theorem RoadsAt.get {p : Prg} {h : Heap} (x : RoadsAt p h) {i : Nat} {r : Rul} (hr : roadsC.rules.xs[i]? = some r) : ∃ r', p.rules.xs[i]? = some r' ∧ r'.er = r := by
  have h1 := congrArg (fun q : Prg => q.rules.xs[i]?) x.er
  simp only [Prg.er, hr, List.getElem?_map, Option.map_eq_some_iff] at h1
  exact h1
theorem RoadsAt.atom {p : Prg} {h : Heap} (x : RoadsAt p h) {a b : Atm} (e : a.er = b) : checkAtom p.preds.xs a = checkAtom roadsC.preds.xs b := by rw [← checkAtom_er, e, x.preds]
theorem RoadsAt.rule {p : Prg} {h : Heap} (x : RoadsAt p h) {a b : Rul} (e : a.er = b) : checkRule p.preds.xs a = checkRule roadsC.preds.xs b := by rw [← checkRule_er, e, x.preds]
theorem cut1_er (r : Rul) (k : Nat) : Rul.er ⟨r.head, r.src, r.n, r.body.cut k 1 r.body.xs.length⟩ = ⟨r.er.head, r.er.src, r.er.n, ⟨none, 0, r.er.body.xs.drop 1⟩⟩ := by simp [Rul.er, Sl.cut]
theorem grd1_ok (B : Base) (hB : B.ok) (s : Sl Trm) (hs : Trms s B.h) (e : s.xs = [tV 0, tC 2]) : Fn Try.prog 28 [(Atm.mk 1 s).val, (Vrs.mk 3 0 0).val] B (fun v _ => v = .tuple #[(Fct.mk 1 3 2 0).val, .int .i64 0]) :=
  (Ground_ok B hB ⟨1, s⟩ hs ⟨3, 0, 0⟩).mono fun v h' _ hv => by
    have h1 : groundOf ⟨1, s⟩ ⟨3, 0, 0⟩ = groundOf ⟨1, ⟨none, 0, [tV 0, tC 2]⟩⟩ ⟨3, 0, 0⟩ := by obtain ⟨_, _, xs⟩ := s; change xs = _ at e; subst e; rfl
    rw [hv, h1]; rfl
theorem grd2_ok (B : Base) (hB : B.ok) (s : Sl Trm) (hs : Trms s B.h) (e : s.xs = [tV 0]) : Fn Try.prog 28 [(Atm.mk 1 s).val, (Vrs.mk 5 0 0).val] B (fun v _ => v = .tuple #[(Fct.mk 0 0 0 0).val, .int .i64 3]) :=
  (Ground_ok B hB ⟨1, s⟩ hs ⟨5, 0, 0⟩).mono fun v h' _ hv => by
    have h1 : groundOf ⟨1, s⟩ ⟨5, 0, 0⟩ = groundOf ⟨1, ⟨none, 0, [tV 0]⟩⟩ ⟨5, 0, 0⟩ := by obtain ⟨_, _, xs⟩ := s; change xs = _ at e; subst e; rfl
    rw [hv, h1]; rfl
set_option maxHeartbeats 4000000 in
theorem ruleBegun_ok (B : Base) (hB : B.ok) : Fn Try.prog 23 [] B (fun v _ => v = .bool true) := by
  refine Fn.of Try.func23 rfl Try.ntmps23 (by kernel_rfl) (by simp) ?_
  intro e
  have I := Inv.start hB
  refine WP.seq ?_
  refine WP.region ?_
  refine Ops.y (v := .bool _) (Y.assign rfl) ?_
  refine Ops.nil ?_
  refine WP.seq ?_
  refine WP.region ?_
  refine Ops.go (O.call I Try.call57 (roads_ok _ I.base_ok) rfl ?_)
  rintro _ h1 w I le1 ⟨p, rfl, hp⟩
  refine Ops.go (O.alloc I Try.zeroValue54 rfl ?_)
  intro b1 w I
  refine Ops.go (O.store (v := .agg #[_, _]) I ty_54 0 rfl rfl rfl rfl rfl rfl (Nat.le_of_ble_eq_true rfl) rfl ?_)
  intro w I
  refine Ops.nil ?_
  refine WP.seq ?_
  refine WP.region ?_
  refine Ops.go (O.callv I Try.call59 (lV_ok _ I.base_ok 0) rfl ?_)
  intro w I
  refine Ops.go (O.callv I Try.call60 (lC_ok _ I.base_ok 2) rfl ?_)
  intro w I
  refine Ops.go (O.mksl (xs := [tV 0, tC 2]) (enc := Trm.enc) I Try.underlying33 Try.sizeOf83 Try.zeroValue83 rfl (Nat.le_of_ble_eq_true rfl) rfl rfl (by decide) (fun _ => rfl) ?_)
  intro b12 h12 w I le12 sl12
  refine Ops.go (O.callv I Try.call58 (lAt_ok _ I.base_ok 1 ⟨some ⟨b12, 0, none⟩, 2, [tV 0, tC 2]⟩) rfl ?_)
  intro w I
  refine Ops.y (v := .agg #[.int .i64 _, .int .i64 _, .int .i64 _]) (Y.builda Try.underlying42 Try.zeroValue42 Try.sizeOf3 rfl rfl) ?_
  refine Ops.go (O.callv I Try.call28 (grd1_ok _ I.base_ok ⟨some ⟨b12, 0, none⟩, 2, [tV 0, tC 2]⟩ ⟨sl12, by simp⟩ rfl) rfl ?_)
  intro w I
  refine Ops.y (v := .tuple #[_, _]) (Y.move rfl) ?_
  refine Ops.y (v := .agg #[_, _, _, _]) (Y.extract rfl rfl) ?_
  refine Ops.y (v := .int .i64 _) (Y.extract rfl rfl) ?_
  refine Ops.go (O.alloc I Try.zeroValue44 rfl ?_)
  intro b2 w I
  refine Ops.go (O.store (v := .agg #[_, _, _, _]) I ty_44 0 rfl rfl rfl rfl rfl rfl (Nat.le_of_ble_eq_true rfl) rfl ?_)
  intro w I
  refine Ops.y (v := .int .i64 _) (Y.assign rfl) ?_
  refine Ops.nil ?_
  refine WP.seq ?_
  refine WP.region ?_
  refine Ops.go (O.callv I Try.call59 (lV_ok _ I.base_ok 0) rfl ?_)
  intro w I
  refine Ops.go (O.mksl (xs := [tV 0]) (enc := Trm.enc) I Try.underlying33 Try.sizeOf83 Try.zeroValue83 rfl (Nat.le_of_ble_eq_true rfl) rfl rfl (by decide) (fun _ => rfl) ?_)
  intro b20 h20 w I le20 sl20
  refine Ops.go (O.callv I Try.call58 (lAt_ok _ I.base_ok 1 ⟨some ⟨b20, 0, none⟩, 1, [tV 0]⟩) rfl ?_)
  intro w I
  refine Ops.y (v := .agg #[.int .i64 _, .int .i64 _, .int .i64 _]) (Y.builda Try.underlying42 Try.zeroValue42 Try.sizeOf3 rfl rfl) ?_
  refine Ops.go (O.callv I Try.call28 (grd2_ok _ I.base_ok ⟨some ⟨b20, 0, none⟩, 1, [tV 0]⟩ ⟨sl20, by simp⟩ rfl) rfl ?_)
  intro w I
  refine Ops.y (v := .tuple #[_, _]) (Y.move rfl) ?_
  refine Ops.y (v := .agg #[_, _, _, _]) (Y.extract rfl rfl) ?_
  refine Ops.y (v := .int .i64 _) (Y.extract rfl rfl) ?_
  refine Ops.go (O.alloc I Try.zeroValue44 rfl ?_)
  intro b4 w I
  refine Ops.go (O.store (v := .agg #[_, _, _, _]) I ty_44 0 rfl rfl rfl rfl rfl rfl (Nat.le_of_ble_eq_true rfl) rfl ?_)
  intro w I
  refine Ops.y (v := .int .i64 _) (Y.assign rfl) ?_
  refine Ops.nil ?_
  have hp := hp.le (le12.trans le20)
  obtain ⟨r5, m5, e5⟩ := hp.get (i := 5) rfl
  obtain ⟨r6, m6, e6⟩ := hp.get (i := 6) rfl
  have E5 := hp.is.rules.is.el.el m5
  have E6 := hp.is.rules.is.el.el m6
  have i5 := hp.is.rules.each _ (List.mem_of_getElem? m5)
  have i6 := hp.is.rules.each _ (List.mem_of_getElem? m6)
  have c6 := hp.cap _ (List.mem_of_getElem? m6)
  have n6 : r6.body.xs.length = 2 := by have := congrArg (fun r : Rul => r.body.xs.length) e6; simpa [Rul.er, rT] using this
  have if6 : Rul.In ⟨r6.head, r6.src, r6.n, r6.body.cut 3 1 r6.body.xs.length⟩ h20 := ⟨i6.head, ⟨i6.body.is.cut c6, fun x hx => i6.body.each x (List.mem_of_mem_take (List.mem_of_mem_drop hx))⟩⟩
  refine WP.seq ?_
  refine WP.region ?_
  refine Ops.y (v := .pointer (some ⟨_, _, none⟩)) (Y.fa fa_54_1 rfl) ?_
  refine Ops.y (v := .slice _ _ _) (Y.loadv ty_52 rfl (I.rdbox 2 rfl 1 1) rfl rfl) ?_
  refine Ops.y (v := .pointer (some ⟨_, _, none⟩)) (Y.idxEl E6 Try.underlying52 Try.sizeOf38 rfl rfl (by decide) rfl) ?_
  refine Ops.y (v := .agg #[_, _, _, _, _]) (Y.loadv ty_38 rfl (I.rd (E6.rd.part 0 5)) rfl rfl) ?_
  refine Ops.go (O.alloc I Try.zeroValue38 rfl ?_)
  intro b6 w I
  refine Ops.go (O.store (v := .agg #[_, _, _, _, _]) I ty_38 0 rfl rfl rfl rfl rfl rfl (Nat.le_of_ble_eq_true rfl) rfl ?_)
  intro w I
  refine Ops.nil ?_
  refine WP.seq ?_
  refine WP.region ?_
  refine Ops.y (v := .pointer (some ⟨_, _, none⟩)) (Y.fa fa_38_3 rfl) ?_
  refine Ops.y (v := .slice _ _ _) (Y.loadv ty_36 rfl (I.rdbox 0 rfl 4 1) rfl rfl) ?_
  refine Ops.y (v := .slice _ _ _) (Y.cut (l := 1) (h := r6.body.xs.length) Try.underlying36 Try.sizeOf71 (i6.body.is.at (i := 0) (by omega)).at_ c6 rfl (.inr ⟨_, _, rfl, rfl⟩) (.inl ⟨rfl, rfl⟩) (by omega) (Nat.le_refl _)) ?_
  refine Ops.y (v := .pointer (some ⟨_, _, none⟩)) (Y.fa fa_38_3 rfl) ?_
  refine Ops.go (O.store (v := .slice _ _ _) I ty_36 0 rfl rfl rfl rfl rfl rfl (Nat.le_of_ble_eq_true rfl) rfl ?_)
  intro w I
  refine Ops.nil ?_
  refine WP.seq ?_
  refine WP.region ?_
  refine Ops.y (v := .pointer (some ⟨_, _, none⟩)) (Y.fa fa_54_1 rfl) ?_
  refine Ops.y (v := .slice _ _ _) (Y.loadv ty_52 rfl (I.rdbox 3 rfl 1 1) rfl rfl) ?_
  refine Ops.y (v := .pointer (some ⟨_, _, none⟩)) (Y.idxEl E5 Try.underlying52 Try.sizeOf38 rfl rfl (by decide) rfl) ?_
  refine Ops.y (v := .agg #[_, _, _, _, _]) (Y.loadv ty_38 rfl (I.rd (E5.rd.part 0 5)) rfl rfl) ?_
  refine Ops.go (O.alloc I Try.zeroValue38 rfl ?_)
  intro b7 w I
  refine Ops.go (O.store (v := .agg #[_, _, _, _, _]) I ty_38 0 rfl rfl rfl rfl rfl rfl (Nat.le_of_ble_eq_true rfl) rfl ?_)
  intro w I
  refine Ops.nil ?_
  refine WP.seq ?_
  refine WP.region ?_
  refine Ops.y (v := .pointer (some ⟨_, _, none⟩)) (Y.fa fa_38_1 rfl) ?_
  refine Ops.go (O.store (v := .int .i64 _) I ty_3 0 rfl rfl rfl rfl rfl rfl (Nat.le_of_ble_eq_true rfl) rfl ?_)
  intro w I
  refine Ops.nil ?_
  refine WP.seq ?_
  refine WP.regionF mixed I 59 (by kernel_rfl) ?_
  refine OpsF.y_ (v := .int .i64 _) (fun _ => runs_none _) (fun _ w us hl I => Y.move rfl) ?_
  refine OpsF.y_ (v := .bool true) (fun _ => runs_none _) (fun _ w us hl I => Y.dec_t (Y.eqi rfl rfl) (rfl)) ?_
  refine OpsF.y_ (v := .bool _) (fun _ => runs_none _) (fun _ w us hl I => Y.move rfl) ?_
  refine OpsF.y_ (v := .int .i64 _) (fun _ => runs_g rfl) (fun _ w us hl I => Y.move rfl) ?_
  refine OpsF.y_ (v := .bool true) (fun _ => runs_g rfl) (fun _ w us hl I => Y.dec_t (Y.eqi rfl rfl) (rfl)) ?_
  refine OpsF.y_ (v := .bool _) (fun _ => runs_none _) (fun _ w us hl I => Y.pick_t rfl rfl) ?_
  refine OpsF.y_ (v := .bool _) (fun _ => runs_none _) (fun _ w us hl I => Y.move rfl) ?_
  refine OpsF.y_ (v := .agg #[_, _, _, _]) (fun _ => runs_g rfl) (fun _ w us hl I => Y.loadv ty_44 rfl (I.rdbox 3 rfl 0 4) rfl rfl) ?_
  refine OpsF.y_ (v := .agg #[.int .i64 _, .int .i64 _, .int .i64 _, .int .i64 _]) (fun _ => runs_g rfl) (fun _ w us hl I => Y.build pl_44 Try.zeroValue44 rfl rfl) ?_
  refine OpsF.y_ (v := .bool true) (fun _ => runs_g rfl) (fun _ w us hl I => Y.b (Y.eqst Try.eqGuardType44 (eq_44 _ _ _ _ _ _ _ _) rfl rfl) (rfl)) ?_
  refine OpsF.y_ (v := .bool _) (fun _ => runs_none _) (fun _ w us hl I => Y.pick_t rfl rfl) ?_
  refine OpsF.y_ (v := .bool _) (fun _ => runs_none _) (fun _ w us hl I => Y.move rfl) ?_
  refine OpsF.y_ (v := .pointer (some ⟨_, _, none⟩)) (fun _ => runs_g rfl) (fun _ w us hl I => Y.fa0 fa_54_0 rfl) ?_
  refine OpsF.y_ (v := .slice _ _ _) (fun _ => runs_g rfl) (fun _ w us hl I => Y.loadv ty_32 rfl (I.rdbox 4 rfl 0 1) rfl rfl) ?_
  refine OpsF.c_ (fun _ => runs_g rfl) (fun _ w us hl I => O.callv I Try.call59 (lV_ok _ I.base_ok 0) rfl (fun w' I' => ⟨rfl, I'⟩)) ?_
  refine OpsF.x_ (Φ := SlS 2 Trm.enc [tV 0]) SlS.mono (fun _ => runs_g rfl) ?_ ?_
  · intro _ w hl I
    exact O.mksl (xs := [tV 0]) (enc := Trm.enc) I Try.underlying33 Try.sizeOf83 Try.zeroValue83 rfl (Nat.le_of_ble_eq_true rfl) rfl rfl (by decide) (fun _ => rfl) (fun b h w I le sl => ⟨h, le, I, ⟨⟨some ⟨b, 0, none⟩, _, [tV 0]⟩, rfl, rfl, ⟨sl, by simp⟩⟩⟩)
  refine OpsF.x_ (Φ := AtmS 2 [tV 0]) AtmS.mono (fun _ => runs_g rfl) ?_ ?_
  · intro _ w hl I u54 q54
    obtain ⟨s, rfl, es, hs⟩ := q54 rfl
    exact O.callv I Try.call58 (lAt_ok _ I.base_ok 2 s) rfl (fun w' I' => ⟨_, Heap.le.refl _, I', ⟨⟨2, s⟩, rfl, by rw [← es]; rfl, hs⟩⟩)
  refine OpsF.d_ (v := .int .i64 0) (fun _ => runs_g rfl) ?_ ?_
  · intro _ w hl I u54 q54 u55 q55
    obtain ⟨a, rfl, ea, ha⟩ := q55 rfl
    exact O.callv I Try.call24 (Atom_ok _ I.base_ok p.preds (hp.is.preds.le hl) a ha) rfl (fun w' I' => ⟨congrArg (Value.int .i64) ((hp.atom ea).trans (by kernel_rfl)), I'⟩)
  refine OpsF.y_ (v := .bool true) (fun _ => runs_g rfl) (fun _ w us hl I => Y.dec_t (Y.eqi rfl rfl) (rfl)) ?_
  refine OpsF.y_ (v := .bool _) (fun _ => runs_none _) (fun _ w us hl I => Y.pick_t rfl rfl) ?_
  refine OpsF.y_ (v := .bool _) (fun _ => runs_none _) (fun _ w us hl I => Y.move rfl) ?_
  refine OpsF.y_ (v := .pointer (some ⟨_, _, none⟩)) (fun _ => runs_g rfl) (fun _ w us hl I => Y.fa0 fa_54_0 rfl) ?_
  refine OpsF.y_ (v := .slice _ _ _) (fun _ => runs_g rfl) (fun _ w us hl I => Y.loadv ty_32 rfl (I.rdbox 4 rfl 0 1) rfl rfl) ?_
  refine OpsF.c_ (fun _ => runs_g rfl) (fun _ w us hl I => O.callv I Try.call58 (lAt_ok _ I.base_ok 2 ⟨none, 0, []⟩) rfl (fun w' I' => ⟨rfl, I'⟩)) ?_
  refine OpsF.c_ (fun _ => runs_g rfl) (fun _ w us hl I => O.callv I Try.call24 (Atom_ok _ I.base_ok p.preds (hp.is.preds.le hl) ⟨2, ⟨none, 0, []⟩⟩ nilIs) rfl (fun w' I' => ⟨rfl, I'⟩)) ?_
  refine OpsF.y_ (v := .bool true) (fun _ => runs_g rfl) (fun _ w us hl I => Y.dec_t (Y.eqi rfl rfl) (((hp.atom rfl).trans (by kernel_rfl)))) ?_
  refine OpsF.y_ (v := .bool _) (fun _ => runs_none _) (fun _ w us hl I => Y.pick_t rfl rfl) ?_
  refine OpsF.y_ (v := .bool _) (fun _ => runs_none _) (fun _ w us hl I => Y.move rfl) ?_
  refine OpsF.y_ (v := .pointer (some ⟨_, _, none⟩)) (fun _ => runs_g rfl) (fun _ w us hl I => Y.fa0 fa_54_0 rfl) ?_
  refine OpsF.y_ (v := .slice _ _ _) (fun _ => runs_g rfl) (fun _ w us hl I => Y.loadv ty_32 rfl (I.rdbox 4 rfl 0 1) rfl rfl) ?_
  refine OpsF.c_ (fun _ => runs_g rfl) (fun _ w us hl I => O.callv I Try.call58 (lAt_ok _ I.base_ok 3 ⟨none, 0, []⟩) rfl (fun w' I' => ⟨rfl, I'⟩)) ?_
  refine OpsF.c_ (fun _ => runs_g rfl) (fun _ w us hl I => O.callv I Try.call24 (Atom_ok _ I.base_ok p.preds (hp.is.preds.le hl) ⟨3, ⟨none, 0, []⟩⟩ nilIs) rfl (fun w' I' => ⟨rfl, I'⟩)) ?_
  refine OpsF.y_ (v := .bool true) (fun _ => runs_g rfl) (fun _ w us hl I => Y.dec_t (Y.eqi rfl rfl) (((hp.atom rfl).trans (by kernel_rfl)))) ?_
  refine OpsF.y_ (v := .bool _) (fun _ => runs_none _) (fun _ w us hl I => Y.pick_t rfl rfl) ?_
  refine OpsF.y_ (v := .bool _) (fun _ => runs_none _) (fun _ w us hl I => Y.move rfl) ?_
  refine OpsF.y_ (v := .pointer (some ⟨_, _, none⟩)) (fun _ => runs_g rfl) (fun _ w us hl I => Y.fa0 fa_54_0 rfl) ?_
  refine OpsF.y_ (v := .slice _ _ _) (fun _ => runs_g rfl) (fun _ w us hl I => Y.loadv ty_32 rfl (I.rdbox 4 rfl 0 1) rfl rfl) ?_
  refine OpsF.y_ (v := .pointer (some ⟨_, _, none⟩)) (fun _ => runs_g rfl) (fun _ w us hl I => Y.fa fa_54_1 rfl) ?_
  refine OpsF.y_ (v := .slice _ _ _) (fun _ => runs_g rfl) (fun _ w us hl I => Y.loadv ty_52 rfl (I.rdbox 4 rfl 1 1) rfl rfl) ?_
  refine OpsF.y_ (v := .pointer (some ⟨_, _, none⟩)) (fun _ => runs_g rfl) (fun _ w us hl I => Y.idxEl E5 Try.underlying52 Try.sizeOf38 rfl rfl (by decide) rfl) ?_
  refine OpsF.y_ (v := .agg #[_, _, _, _, _]) (fun _ => runs_g rfl) (fun _ w us hl I => Y.loadv ty_38 rfl (I.rd ((E5.rd.part 0 5).le hl)) rfl rfl) ?_
  refine OpsF.c_ (fun _ => runs_g rfl) (fun _ w us hl I => O.callv I Try.call26 (RCheck_ok _ I.base_ok p.preds (hp.is.preds.le hl) r5 (i5.le hl)) rfl (fun w' I' => ⟨rfl, I'⟩)) ?_
  refine OpsF.y_ (v := .bool true) (fun _ => runs_g rfl) (fun _ w us hl I => Y.dec_t (Y.eqi rfl rfl) (((hp.rule e5).trans (by kernel_rfl)))) ?_
  refine OpsF.y_ (v := .bool _) (fun _ => runs_none _) (fun _ w us hl I => Y.pick_t rfl rfl) ?_
  refine OpsF.y_ (v := .bool _) (fun _ => runs_none _) (fun _ w us hl I => Y.move rfl) ?_
  refine OpsF.y_ (v := .pointer (some ⟨_, _, none⟩)) (fun _ => runs_g rfl) (fun _ w us hl I => Y.fa0 fa_54_0 rfl) ?_
  refine OpsF.y_ (v := .slice _ _ _) (fun _ => runs_g rfl) (fun _ w us hl I => Y.loadv ty_32 rfl (I.rdbox 4 rfl 0 1) rfl rfl) ?_
  refine OpsF.y_ (v := .agg #[_, _, _, _, _]) (fun _ => runs_g rfl) (fun _ w us hl I => Y.loadv ty_38 rfl (I.rdbox 1 rfl 0 5) rfl rfl) ?_
  refine OpsF.c_ (fun _ => runs_g rfl) (fun _ w us hl I => O.callv I Try.call26 (RCheck_ok _ I.base_ok p.preds (hp.is.preds.le hl) ⟨r6.head, r6.src, r6.n, r6.body.cut 3 1 r6.body.xs.length⟩ (if6.le hl)) rfl (fun w' I' => ⟨rfl, I'⟩)) ?_
  refine OpsF.y_ (v := .bool true) (fun _ => runs_g rfl) (fun _ w us hl I => Y.dec_t (Y.eqi rfl rfl) (((hp.rule ((cut1_er r6 3).trans (by rw [e6]))).trans (by kernel_rfl)))) ?_
  refine OpsF.y_ (v := .bool _) (fun _ => runs_none _) (fun _ w us hl I => Y.pick_t rfl rfl) ?_
  refine OpsF.y_ (v := .bool _) (fun _ => runs_none _) (fun _ w us hl I => Y.move rfl) ?_
  refine OpsF.y_ (v := .pointer (some ⟨_, _, none⟩)) (fun _ => runs_g rfl) (fun _ w us hl I => Y.fa0 fa_54_0 rfl) ?_
  refine OpsF.y_ (v := .slice _ _ _) (fun _ => runs_g rfl) (fun _ w us hl I => Y.loadv ty_32 rfl (I.rdbox 4 rfl 0 1) rfl rfl) ?_
  refine OpsF.y_ (v := .agg #[_, _, _, _, _]) (fun _ => runs_g rfl) (fun _ w us hl I => Y.loadv ty_38 rfl (I.rdbox 0 rfl 0 5) rfl rfl) ?_
  refine OpsF.c_ (fun _ => runs_g rfl) (fun _ w us hl I => O.callv I Try.call26 (RCheck_ok _ I.base_ok p.preds (hp.is.preds.le hl) ⟨r5.head, 1, r5.n, r5.body⟩ (Rul.In.le (r := ⟨r5.head, 1, r5.n, r5.body⟩) ⟨i5.head, i5.body⟩ hl)) rfl (fun w' I' => ⟨rfl, I'⟩)) ?_
  refine OpsF.y_ (v := .bool true) (fun _ => runs_g rfl) (fun _ w us hl I => Y.dec_t (Y.eqi rfl rfl) (((hp.rule (show Rul.er _ = ⟨r5.er.head, 1, r5.er.n, r5.er.body⟩ from rfl)).trans (by rw [e5]; kernel_rfl)))) ?_
  refine OpsF.y_ (v := .bool _) (fun _ => runs_none _) (fun _ w us hl I => Y.pick_t rfl rfl) ?_
  refine OpsF.y_ (v := .bool _) (fun _ => runs_none _) (fun _ w us hl I => Y.assign rfl) ?_
  refine OpsF.nil ?_
  intro _ w hl I u54 q54 u55 q55
  refine Ops.nil ?_
  refine WP.ret ?_
  repeat (first | refine thenE_ret ?_ | refine blockE_ret ?_)
  exact retQ.mk (vs := [.bool _]) rfl ⟨rfl, trivial⟩ I.ext_of (rfl)

/-- May predicates be asked by their kinds and arities? -/
def predFine (p : Prd) : Bool := decide (0 ≤ p.arity ∧ p.arity ≤ 2 ∧ 0 ≤ p.kind ∧ p.kind ≤ 3)
set_option maxHeartbeats 1000000 in
theorem kinds_ok (B : Base) (hB : B.ok) (l : Sl Prd) (hl : Prds l B.h) : Fn Try.prog 30 [l.val] B (fun v _ => v = .bool (l.xs.all predFine)) := by
  have hsm := hl.small
  refine Fn.of Try.func30 rfl Try.ntmps30 (by kernel_rfl) (by simp) ?_
  intro e
  have I := Inv.start hB
  refine WP.seq ?_
  refine WP.region ?_
  refine Ops.y (v := .bool _) (Y.assign rfl) ?_
  refine Ops.nil ?_
  refine WP.seq ?_
  refine WP.seq ?_
  refine WP.region ?_
  refine Ops.y (v := .int .i64 _) (Y.assign rfl) ?_
  refine Ops.nil ?_
  refine WP.block ?_
  refine WP.loopE (σ := Nat) (fun k => [(0, l.val), (3, .int .i64 k)]) (fun k w => Inv B B.h [] w ∧ k ≤ l.xs.length ∧ ∀ j, j < k → ∀ hj : j < l.xs.length, predFine l.xs[j] = true) (fun k => l.xs.length - k)
    ⟨0, ⟨rfl, rfl, trivial⟩, I, Nat.zero_le _, fun j hj => by omega⟩ ?_
  rintro k e w ⟨I, hk, hn⟩
  refine WP.seq ?_
  refine WP.seq ?_
  refine WP.region ?_
  refine Ops.y (v := .int .i64 _) (Y.move rfl) ?_
  refine Ops.y (v := .slice _ _ _) (Y.move rfl) ?_
  refine Ops.y (v := .int .i64 _) (Y.lens Try.underlying32 rfl) ?_
  refine Ops.y (v := .bool (decide _)) (Y.lti rfl rfl) ?_
  refine Ops.nil ?_
  refine WP.cond_dec rfl (fun h => ?_) (fun h => ?_)
  · have hk' : k < l.xs.length := by omega
    have E1 := hl.at hk'
    refine WP.skip ?_
    refine WP.seq ?_
    refine WP.block ?_
    refine WP.seq ?_
    by_cases o0 : l.xs[k].arity < 0
    · refine WP.region ?_
      refine Ops.y (v := .slice _ _ _) (Y.move rfl) ?_
      refine Ops.y (v := .int .i64 _) (Y.move rfl) ?_
      refine Ops.y (v := .pointer (some ⟨_, _, none⟩)) (Y.idxEl E1 Try.underlying32 Try.sizeOf49 rfl rfl (Int.natCast_nonneg _) rfl) ?_
      refine Ops.y (v := .pointer (some ⟨_, _, none⟩)) (Y.fa fa_49_1 rfl) ?_
      refine Ops.y (v := .int .i64 _) (Y.loadv ty_3 rfl (I.rd (E1.rd.part 1 1)) rfl rfl) ?_
      refine Ops.y (v := .bool true) (Y.dec_t (Y.lti rfl rfl) (o0)) ?_
      refine Ops.y (v := .bool _) (Y.move rfl) ?_
      refine Ops.gf rfl ?_
      refine Ops.gf rfl ?_
      refine Ops.gf rfl ?_
      refine Ops.gf rfl ?_
      refine Ops.gf rfl ?_
      refine Ops.gf rfl ?_
      refine Ops.y (v := .bool _) (Y.pick_t rfl rfl) ?_
      refine Ops.y (v := .bool _) (Y.move rfl) ?_
      refine Ops.gf rfl ?_
      refine Ops.gf rfl ?_
      refine Ops.gf rfl ?_
      refine Ops.gf rfl ?_
      refine Ops.gf rfl ?_
      refine Ops.gf rfl ?_
      refine Ops.y (v := .bool _) (Y.pick_t rfl rfl) ?_
      refine Ops.y (v := .bool _) (Y.move rfl) ?_
      refine Ops.gf rfl ?_
      refine Ops.gf rfl ?_
      refine Ops.gf rfl ?_
      refine Ops.gf rfl ?_
      refine Ops.gf rfl ?_
      refine Ops.gf rfl ?_
      refine Ops.y (v := .bool _) (Y.pick_t rfl rfl) ?_
      refine Ops.nil ?_
      refine WP.cond_t rfl ?_
      refine WP.seq ?_
      refine WP.region ?_
      refine Ops.y (v := .bool _) (Y.assign rfl) ?_
      refine Ops.nil ?_
      refine WP.ret ?_
      repeat (first | refine thenE_ret ?_ | refine blockE_ret ?_)
      exact retQ.mk (vs := [.bool _]) rfl ⟨rfl, trivial⟩ I.ext_of (by simp only [tup]; rw [show l.xs.all predFine = false from by rw [List.all_eq_false]; exact ⟨_, List.getElem_mem hk', by simp only [predFine, decide_eq_true_eq]; omega⟩])
    by_cases o1 : 2 < l.xs[k].arity
    · refine WP.region ?_
      refine Ops.y (v := .slice _ _ _) (Y.move rfl) ?_
      refine Ops.y (v := .int .i64 _) (Y.move rfl) ?_
      refine Ops.y (v := .pointer (some ⟨_, _, none⟩)) (Y.idxEl E1 Try.underlying32 Try.sizeOf49 rfl rfl (Int.natCast_nonneg _) rfl) ?_
      refine Ops.y (v := .pointer (some ⟨_, _, none⟩)) (Y.fa fa_49_1 rfl) ?_
      refine Ops.y (v := .int .i64 _) (Y.loadv ty_3 rfl (I.rd (E1.rd.part 1 1)) rfl rfl) ?_
      refine Ops.y (v := .bool false) (Y.dec_f (Y.lti rfl rfl) (o0)) ?_
      refine Ops.y (v := .bool _) (Y.move rfl) ?_
      refine Ops.ygt rfl (v := .slice _ _ _) (Y.move rfl) ?_
      refine Ops.ygt rfl (v := .int .i64 _) (Y.move rfl) ?_
      refine Ops.ygt rfl (v := .pointer (some ⟨_, _, none⟩)) (Y.idxEl E1 Try.underlying32 Try.sizeOf49 rfl rfl (Int.natCast_nonneg _) rfl) ?_
      refine Ops.ygt rfl (v := .pointer (some ⟨_, _, none⟩)) (Y.fa fa_49_1 rfl) ?_
      refine Ops.ygt rfl (v := .int .i64 _) (Y.loadv ty_3 rfl (I.rd (E1.rd.part 1 1)) rfl rfl) ?_
      refine Ops.ygt rfl (v := .bool true) (Y.dec_t (Y.gti rfl rfl) (o1)) ?_
      refine Ops.y (v := .bool _) (Y.pick_f rfl rfl) ?_
      refine Ops.y (v := .bool _) (Y.move rfl) ?_
      refine Ops.gf rfl ?_
      refine Ops.gf rfl ?_
      refine Ops.gf rfl ?_
      refine Ops.gf rfl ?_
      refine Ops.gf rfl ?_
      refine Ops.gf rfl ?_
      refine Ops.y (v := .bool _) (Y.pick_t rfl rfl) ?_
      refine Ops.y (v := .bool _) (Y.move rfl) ?_
      refine Ops.gf rfl ?_
      refine Ops.gf rfl ?_
      refine Ops.gf rfl ?_
      refine Ops.gf rfl ?_
      refine Ops.gf rfl ?_
      refine Ops.gf rfl ?_
      refine Ops.y (v := .bool _) (Y.pick_t rfl rfl) ?_
      refine Ops.nil ?_
      refine WP.cond_t rfl ?_
      refine WP.seq ?_
      refine WP.region ?_
      refine Ops.y (v := .bool _) (Y.assign rfl) ?_
      refine Ops.nil ?_
      refine WP.ret ?_
      repeat (first | refine thenE_ret ?_ | refine blockE_ret ?_)
      exact retQ.mk (vs := [.bool _]) rfl ⟨rfl, trivial⟩ I.ext_of (by simp only [tup]; rw [show l.xs.all predFine = false from by rw [List.all_eq_false]; exact ⟨_, List.getElem_mem hk', by simp only [predFine, decide_eq_true_eq]; omega⟩])
    by_cases o2 : l.xs[k].kind < 0
    · refine WP.region ?_
      refine Ops.y (v := .slice _ _ _) (Y.move rfl) ?_
      refine Ops.y (v := .int .i64 _) (Y.move rfl) ?_
      refine Ops.y (v := .pointer (some ⟨_, _, none⟩)) (Y.idxEl E1 Try.underlying32 Try.sizeOf49 rfl rfl (Int.natCast_nonneg _) rfl) ?_
      refine Ops.y (v := .pointer (some ⟨_, _, none⟩)) (Y.fa fa_49_1 rfl) ?_
      refine Ops.y (v := .int .i64 _) (Y.loadv ty_3 rfl (I.rd (E1.rd.part 1 1)) rfl rfl) ?_
      refine Ops.y (v := .bool false) (Y.dec_f (Y.lti rfl rfl) (o0)) ?_
      refine Ops.y (v := .bool _) (Y.move rfl) ?_
      refine Ops.ygt rfl (v := .slice _ _ _) (Y.move rfl) ?_
      refine Ops.ygt rfl (v := .int .i64 _) (Y.move rfl) ?_
      refine Ops.ygt rfl (v := .pointer (some ⟨_, _, none⟩)) (Y.idxEl E1 Try.underlying32 Try.sizeOf49 rfl rfl (Int.natCast_nonneg _) rfl) ?_
      refine Ops.ygt rfl (v := .pointer (some ⟨_, _, none⟩)) (Y.fa fa_49_1 rfl) ?_
      refine Ops.ygt rfl (v := .int .i64 _) (Y.loadv ty_3 rfl (I.rd (E1.rd.part 1 1)) rfl rfl) ?_
      refine Ops.ygt rfl (v := .bool false) (Y.dec_f (Y.gti rfl rfl) (o1)) ?_
      refine Ops.y (v := .bool _) (Y.pick_f rfl rfl) ?_
      refine Ops.y (v := .bool _) (Y.move rfl) ?_
      refine Ops.ygt rfl (v := .slice _ _ _) (Y.move rfl) ?_
      refine Ops.ygt rfl (v := .int .i64 _) (Y.move rfl) ?_
      refine Ops.ygt rfl (v := .pointer (some ⟨_, _, none⟩)) (Y.idxEl E1 Try.underlying32 Try.sizeOf49 rfl rfl (Int.natCast_nonneg _) rfl) ?_
      refine Ops.ygt rfl (v := .pointer (some ⟨_, _, none⟩)) (Y.fa fa_49_2 rfl) ?_
      refine Ops.ygt rfl (v := .int .i64 _) (Y.loadv ty_3 rfl (I.rd (E1.rd.part 2 1)) rfl rfl) ?_
      refine Ops.ygt rfl (v := .bool true) (Y.dec_t (Y.lti rfl rfl) (o2)) ?_
      refine Ops.y (v := .bool _) (Y.pick_f rfl rfl) ?_
      refine Ops.y (v := .bool _) (Y.move rfl) ?_
      refine Ops.gf rfl ?_
      refine Ops.gf rfl ?_
      refine Ops.gf rfl ?_
      refine Ops.gf rfl ?_
      refine Ops.gf rfl ?_
      refine Ops.gf rfl ?_
      refine Ops.y (v := .bool _) (Y.pick_t rfl rfl) ?_
      refine Ops.nil ?_
      refine WP.cond_t rfl ?_
      refine WP.seq ?_
      refine WP.region ?_
      refine Ops.y (v := .bool _) (Y.assign rfl) ?_
      refine Ops.nil ?_
      refine WP.ret ?_
      repeat (first | refine thenE_ret ?_ | refine blockE_ret ?_)
      exact retQ.mk (vs := [.bool _]) rfl ⟨rfl, trivial⟩ I.ext_of (by simp only [tup]; rw [show l.xs.all predFine = false from by rw [List.all_eq_false]; exact ⟨_, List.getElem_mem hk', by simp only [predFine, decide_eq_true_eq]; omega⟩])
    by_cases o3 : 3 < l.xs[k].kind
    · refine WP.region ?_
      refine Ops.y (v := .slice _ _ _) (Y.move rfl) ?_
      refine Ops.y (v := .int .i64 _) (Y.move rfl) ?_
      refine Ops.y (v := .pointer (some ⟨_, _, none⟩)) (Y.idxEl E1 Try.underlying32 Try.sizeOf49 rfl rfl (Int.natCast_nonneg _) rfl) ?_
      refine Ops.y (v := .pointer (some ⟨_, _, none⟩)) (Y.fa fa_49_1 rfl) ?_
      refine Ops.y (v := .int .i64 _) (Y.loadv ty_3 rfl (I.rd (E1.rd.part 1 1)) rfl rfl) ?_
      refine Ops.y (v := .bool false) (Y.dec_f (Y.lti rfl rfl) (o0)) ?_
      refine Ops.y (v := .bool _) (Y.move rfl) ?_
      refine Ops.ygt rfl (v := .slice _ _ _) (Y.move rfl) ?_
      refine Ops.ygt rfl (v := .int .i64 _) (Y.move rfl) ?_
      refine Ops.ygt rfl (v := .pointer (some ⟨_, _, none⟩)) (Y.idxEl E1 Try.underlying32 Try.sizeOf49 rfl rfl (Int.natCast_nonneg _) rfl) ?_
      refine Ops.ygt rfl (v := .pointer (some ⟨_, _, none⟩)) (Y.fa fa_49_1 rfl) ?_
      refine Ops.ygt rfl (v := .int .i64 _) (Y.loadv ty_3 rfl (I.rd (E1.rd.part 1 1)) rfl rfl) ?_
      refine Ops.ygt rfl (v := .bool false) (Y.dec_f (Y.gti rfl rfl) (o1)) ?_
      refine Ops.y (v := .bool _) (Y.pick_f rfl rfl) ?_
      refine Ops.y (v := .bool _) (Y.move rfl) ?_
      refine Ops.ygt rfl (v := .slice _ _ _) (Y.move rfl) ?_
      refine Ops.ygt rfl (v := .int .i64 _) (Y.move rfl) ?_
      refine Ops.ygt rfl (v := .pointer (some ⟨_, _, none⟩)) (Y.idxEl E1 Try.underlying32 Try.sizeOf49 rfl rfl (Int.natCast_nonneg _) rfl) ?_
      refine Ops.ygt rfl (v := .pointer (some ⟨_, _, none⟩)) (Y.fa fa_49_2 rfl) ?_
      refine Ops.ygt rfl (v := .int .i64 _) (Y.loadv ty_3 rfl (I.rd (E1.rd.part 2 1)) rfl rfl) ?_
      refine Ops.ygt rfl (v := .bool false) (Y.dec_f (Y.lti rfl rfl) (o2)) ?_
      refine Ops.y (v := .bool _) (Y.pick_f rfl rfl) ?_
      refine Ops.y (v := .bool _) (Y.move rfl) ?_
      refine Ops.ygt rfl (v := .slice _ _ _) (Y.move rfl) ?_
      refine Ops.ygt rfl (v := .int .i64 _) (Y.move rfl) ?_
      refine Ops.ygt rfl (v := .pointer (some ⟨_, _, none⟩)) (Y.idxEl E1 Try.underlying32 Try.sizeOf49 rfl rfl (Int.natCast_nonneg _) rfl) ?_
      refine Ops.ygt rfl (v := .pointer (some ⟨_, _, none⟩)) (Y.fa fa_49_2 rfl) ?_
      refine Ops.ygt rfl (v := .int .i64 _) (Y.loadv ty_3 rfl (I.rd (E1.rd.part 2 1)) rfl rfl) ?_
      refine Ops.ygt rfl (v := .bool true) (Y.dec_t (Y.gti rfl rfl) (o3)) ?_
      refine Ops.y (v := .bool _) (Y.pick_f rfl rfl) ?_
      refine Ops.nil ?_
      refine WP.cond_t rfl ?_
      refine WP.seq ?_
      refine WP.region ?_
      refine Ops.y (v := .bool _) (Y.assign rfl) ?_
      refine Ops.nil ?_
      refine WP.ret ?_
      repeat (first | refine thenE_ret ?_ | refine blockE_ret ?_)
      exact retQ.mk (vs := [.bool _]) rfl ⟨rfl, trivial⟩ I.ext_of (by simp only [tup]; rw [show l.xs.all predFine = false from by rw [List.all_eq_false]; exact ⟨_, List.getElem_mem hk', by simp only [predFine, decide_eq_true_eq]; omega⟩])
    refine WP.region ?_
    refine Ops.y (v := .slice _ _ _) (Y.move rfl) ?_
    refine Ops.y (v := .int .i64 _) (Y.move rfl) ?_
    refine Ops.y (v := .pointer (some ⟨_, _, none⟩)) (Y.idxEl E1 Try.underlying32 Try.sizeOf49 rfl rfl (Int.natCast_nonneg _) rfl) ?_
    refine Ops.y (v := .pointer (some ⟨_, _, none⟩)) (Y.fa fa_49_1 rfl) ?_
    refine Ops.y (v := .int .i64 _) (Y.loadv ty_3 rfl (I.rd (E1.rd.part 1 1)) rfl rfl) ?_
    refine Ops.y (v := .bool false) (Y.dec_f (Y.lti rfl rfl) (o0)) ?_
    refine Ops.y (v := .bool _) (Y.move rfl) ?_
    refine Ops.ygt rfl (v := .slice _ _ _) (Y.move rfl) ?_
    refine Ops.ygt rfl (v := .int .i64 _) (Y.move rfl) ?_
    refine Ops.ygt rfl (v := .pointer (some ⟨_, _, none⟩)) (Y.idxEl E1 Try.underlying32 Try.sizeOf49 rfl rfl (Int.natCast_nonneg _) rfl) ?_
    refine Ops.ygt rfl (v := .pointer (some ⟨_, _, none⟩)) (Y.fa fa_49_1 rfl) ?_
    refine Ops.ygt rfl (v := .int .i64 _) (Y.loadv ty_3 rfl (I.rd (E1.rd.part 1 1)) rfl rfl) ?_
    refine Ops.ygt rfl (v := .bool false) (Y.dec_f (Y.gti rfl rfl) (o1)) ?_
    refine Ops.y (v := .bool _) (Y.pick_f rfl rfl) ?_
    refine Ops.y (v := .bool _) (Y.move rfl) ?_
    refine Ops.ygt rfl (v := .slice _ _ _) (Y.move rfl) ?_
    refine Ops.ygt rfl (v := .int .i64 _) (Y.move rfl) ?_
    refine Ops.ygt rfl (v := .pointer (some ⟨_, _, none⟩)) (Y.idxEl E1 Try.underlying32 Try.sizeOf49 rfl rfl (Int.natCast_nonneg _) rfl) ?_
    refine Ops.ygt rfl (v := .pointer (some ⟨_, _, none⟩)) (Y.fa fa_49_2 rfl) ?_
    refine Ops.ygt rfl (v := .int .i64 _) (Y.loadv ty_3 rfl (I.rd (E1.rd.part 2 1)) rfl rfl) ?_
    refine Ops.ygt rfl (v := .bool false) (Y.dec_f (Y.lti rfl rfl) (o2)) ?_
    refine Ops.y (v := .bool _) (Y.pick_f rfl rfl) ?_
    refine Ops.y (v := .bool _) (Y.move rfl) ?_
    refine Ops.ygt rfl (v := .slice _ _ _) (Y.move rfl) ?_
    refine Ops.ygt rfl (v := .int .i64 _) (Y.move rfl) ?_
    refine Ops.ygt rfl (v := .pointer (some ⟨_, _, none⟩)) (Y.idxEl E1 Try.underlying32 Try.sizeOf49 rfl rfl (Int.natCast_nonneg _) rfl) ?_
    refine Ops.ygt rfl (v := .pointer (some ⟨_, _, none⟩)) (Y.fa fa_49_2 rfl) ?_
    refine Ops.ygt rfl (v := .int .i64 _) (Y.loadv ty_3 rfl (I.rd (E1.rd.part 2 1)) rfl rfl) ?_
    refine Ops.ygt rfl (v := .bool false) (Y.dec_f (Y.gti rfl rfl) (o3)) ?_
    refine Ops.y (v := .bool _) (Y.pick_f rfl rfl) ?_
    refine Ops.nil ?_
    refine WP.cond_f rfl ?_
    refine WP.skip ?_
    refine WP.region ?_
    refine Ops.y (v := .int .i64 _) (Y.move rfl) ?_
    refine Ops.y (v := .int .i64 _) (Y.addi rfl rfl ⟨by omega, by omega⟩) ?_
    refine Ops.y (v := .int .i64 _) (Y.assign rfl) ?_
    refine Ops.nil ?_
    exact ⟨k + 1, ⟨⟨rfl, rfl, trivial⟩, I, by omega, fun j hj hj' => by
      rcases Nat.lt_succ_iff_lt_or_eq.1 hj with h' | h'
      · exact hn j h' hj'
      · subst h'; simp only [predFine, decide_eq_true_eq]; omega⟩, by omega⟩
  refine WP.exit ?_
  refine WP.seq ?_
  refine WP.region ?_
  refine Ops.y (v := .bool _) (Y.assign rfl) ?_
  refine Ops.nil ?_
  refine WP.ret ?_
  repeat (first | refine thenE_ret ?_ | refine blockE_ret ?_)
  exact retQ.mk (vs := [.bool _]) rfl ⟨rfl, trivial⟩ I.ext_of (by simp only [tup]; rw [show l.xs.all predFine = true from by rw [List.all_eq_true]; intro x hx; obtain ⟨j, hj, rfl⟩ := List.getElem_of_mem hx; exact hn j (by omega) hj])

def factFine (l : List Prd) (x : Fct) : Bool :=
  decide (within x.pred 0 (l.length - 1)) && decide (within x.a 0 4) && decide (within x.b 0 4) && (decide (1 ≤ (predOf l x.pred).arity) || decide (x.a = 0)) && (decide (2 ≤ (predOf l x.pred).arity) || decide (x.b = 0)) &&
    decide (checkVal (predOf l x.pred).kind x.v = 0)
set_option maxHeartbeats 2000000 in
theorem FactFine_ok (B : Base) (hB : B.ok) (l : Sl Prd) (hl : Prds l B.h) (x : Fct) : Fn Try.prog 31 [l.val, x.val] B (fun v _ => v = .bool (factFine l.xs x)) := by
  have hsm := hl.small
  refine Fn.of Try.func31 rfl Try.ntmps31 (by kernel_rfl) (by simp) ?_
  intro e
  have I := Inv.start hB
  refine WP.seq ?_
  refine WP.region ?_
  refine Ops.go (O.box (v := .agg #[_, _, _, _]) I rfl rfl ?_)
  intro b3 w I
  refine Ops.y (v := .bool _) (Y.assign rfl) ?_
  refine Ops.nil ?_
  cases w1 : (!decide (within x.pred 0 ((l.xs.length : Int) - 1)))
  case true =>
    refine WP.seq ?_
    refine WP.seq ?_
    refine WP.region ?_
    refine Ops.y (v := .pointer (some ⟨_, _, none⟩)) (Y.fa0 fa_44_0 rfl) ?_
    refine Ops.y (v := .int .i64 _) (Y.loadv ty_3 rfl (I.rdbox 0 rfl 0 1) rfl rfl) ?_
    refine Ops.y (v := .slice _ _ _) (Y.move rfl) ?_
    refine Ops.y (v := .int .i64 _) (Y.lens Try.underlying32 rfl) ?_
    refine Ops.y (v := .int .i64 _) (Y.subi rfl rfl ⟨by omega, by omega⟩) ?_
    refine Ops.go (O.callv I Try.call54 (within_ok _ I.base_ok _ _ _) rfl ?_)
    intro w I
    refine Ops.y (v := .bool _) (Y.not rfl) ?_
    refine Ops.y (v := .bool true) (Y.b (Y.move rfl) (w1)) ?_
    refine Ops.gf rfl ?_
    refine Ops.gf rfl ?_
    refine Ops.gf rfl ?_
    refine Ops.gf rfl ?_
    refine Ops.y (v := .bool _) (Y.pick_t rfl rfl) ?_
    refine Ops.y (v := .bool _) (Y.move rfl) ?_
    refine Ops.gf rfl ?_
    refine Ops.gf rfl ?_
    refine Ops.gf rfl ?_
    refine Ops.gf rfl ?_
    refine Ops.y (v := .bool _) (Y.pick_t rfl rfl) ?_
    refine Ops.nil ?_
    refine WP.cond_t rfl ?_
    refine WP.seq ?_
    refine WP.region ?_
    refine Ops.y (v := .bool _) (Y.assign rfl) ?_
    refine Ops.nil ?_
    refine WP.ret ?_
    repeat (first | refine thenE_ret ?_ | refine blockE_ret ?_)
    exact retQ.mk (vs := [.bool _]) rfl ⟨rfl, trivial⟩ I.ext_of (by simp only [Bool.not_eq_true'] at w1; simp only [tup, factFine, w1, Bool.false_and])
  cases w2 : (!decide (within x.a 0 4))
  case true =>
    refine WP.seq ?_
    refine WP.seq ?_
    refine WP.region ?_
    refine Ops.y (v := .pointer (some ⟨_, _, none⟩)) (Y.fa0 fa_44_0 rfl) ?_
    refine Ops.y (v := .int .i64 _) (Y.loadv ty_3 rfl (I.rdbox 0 rfl 0 1) rfl rfl) ?_
    refine Ops.y (v := .slice _ _ _) (Y.move rfl) ?_
    refine Ops.y (v := .int .i64 _) (Y.lens Try.underlying32 rfl) ?_
    refine Ops.y (v := .int .i64 _) (Y.subi rfl rfl ⟨by omega, by omega⟩) ?_
    refine Ops.go (O.callv I Try.call54 (within_ok _ I.base_ok _ _ _) rfl ?_)
    intro w I
    refine Ops.y (v := .bool _) (Y.not rfl) ?_
    refine Ops.y (v := .bool false) (Y.b (Y.move rfl) (w1)) ?_
    refine Ops.ygt rfl (v := .pointer (some ⟨_, _, none⟩)) (Y.fa fa_44_1 rfl) ?_
    refine Ops.ygt rfl (v := .int .i64 _) (Y.loadv ty_3 rfl (I.rdbox 0 rfl 1 1) rfl rfl) ?_
    refine Ops.gt rfl (O.callv I Try.call54 (within_ok _ I.base_ok _ _ _) rfl ?_)
    intro w I
    refine Ops.ygt rfl (v := .bool true) (Y.b (Y.not rfl) (w2)) ?_
    refine Ops.y (v := .bool _) (Y.pick_f rfl rfl) ?_
    refine Ops.y (v := .bool _) (Y.move rfl) ?_
    refine Ops.gf rfl ?_
    refine Ops.gf rfl ?_
    refine Ops.gf rfl ?_
    refine Ops.gf rfl ?_
    refine Ops.y (v := .bool _) (Y.pick_t rfl rfl) ?_
    refine Ops.nil ?_
    refine WP.cond_t rfl ?_
    refine WP.seq ?_
    refine WP.region ?_
    refine Ops.y (v := .bool _) (Y.assign rfl) ?_
    refine Ops.nil ?_
    refine WP.ret ?_
    repeat (first | refine thenE_ret ?_ | refine blockE_ret ?_)
    exact retQ.mk (vs := [.bool _]) rfl ⟨rfl, trivial⟩ I.ext_of (by simp only [Bool.not_eq_true'] at w2; simp only [tup, factFine, w2, Bool.false_and, Bool.and_false])
  refine WP.seq ?_
  refine WP.seq ?_
  refine WP.region ?_
  refine Ops.y (v := .pointer (some ⟨_, _, none⟩)) (Y.fa0 fa_44_0 rfl) ?_
  refine Ops.y (v := .int .i64 _) (Y.loadv ty_3 rfl (I.rdbox 0 rfl 0 1) rfl rfl) ?_
  refine Ops.y (v := .slice _ _ _) (Y.move rfl) ?_
  refine Ops.y (v := .int .i64 _) (Y.lens Try.underlying32 rfl) ?_
  refine Ops.y (v := .int .i64 _) (Y.subi rfl rfl ⟨by omega, by omega⟩) ?_
  refine Ops.go (O.callv I Try.call54 (within_ok _ I.base_ok _ _ _) rfl ?_)
  intro w I
  refine Ops.y (v := .bool _) (Y.not rfl) ?_
  refine Ops.y (v := .bool false) (Y.b (Y.move rfl) (w1)) ?_
  refine Ops.ygt rfl (v := .pointer (some ⟨_, _, none⟩)) (Y.fa fa_44_1 rfl) ?_
  refine Ops.ygt rfl (v := .int .i64 _) (Y.loadv ty_3 rfl (I.rdbox 0 rfl 1 1) rfl rfl) ?_
  refine Ops.gt rfl (O.callv I Try.call54 (within_ok _ I.base_ok _ _ _) rfl ?_)
  intro w I
  refine Ops.ygt rfl (v := .bool false) (Y.b (Y.not rfl) (w2)) ?_
  refine Ops.y (v := .bool _) (Y.pick_f rfl rfl) ?_
  refine Ops.y (v := .bool _) (Y.move rfl) ?_
  refine Ops.ygt rfl (v := .pointer (some ⟨_, _, none⟩)) (Y.fa fa_44_2 rfl) ?_
  refine Ops.ygt rfl (v := .int .i64 _) (Y.loadv ty_3 rfl (I.rdbox 0 rfl 2 1) rfl rfl) ?_
  refine Ops.gt rfl (O.callv I Try.call54 (within_ok _ I.base_ok _ _ _) rfl ?_)
  intro w I
  refine Ops.ygt rfl (v := .bool _) (Y.not rfl) ?_
  refine Ops.y (v := .bool _) (Y.pick_f rfl rfl) ?_
  refine Ops.nil ?_
  refine WP.cond rfl (fun w3 => ?_) (fun w3 => ?_)
  · refine WP.seq ?_
    refine WP.region ?_
    refine Ops.y (v := .bool _) (Y.assign rfl) ?_
    refine Ops.nil ?_
    refine WP.ret ?_
    repeat (first | refine thenE_ret ?_ | refine blockE_ret ?_)
    exact retQ.mk (vs := [.bool _]) rfl ⟨rfl, trivial⟩ I.ext_of (by simp only [Bool.not_eq_true'] at w3; simp only [tup, factFine, w3, Bool.false_and, Bool.and_false])
  simp only [Bool.not_eq_false', decide_eq_true_eq] at w1 w2 w3
  have h0 : 0 ≤ x.pred ∧ x.pred < l.xs.length := by unfold within at w1; omega
  have hk : x.pred.toNat < l.xs.length := by omega
  have E1 := hl.at hk
  refine WP.skip ?_
  refine WP.seq ?_
  refine WP.region ?_
  refine Ops.y (v := .slice _ _ _) (Y.move rfl) ?_
  refine Ops.y (v := .pointer (some ⟨_, _, none⟩)) (Y.fa0 fa_44_0 rfl) ?_
  refine Ops.y (v := .int .i64 _) (Y.loadv ty_3 rfl (I.rdbox 0 rfl 0 1) rfl rfl) ?_
  refine Ops.y (v := .pointer (some ⟨_, _, none⟩)) (Y.idxEl E1 Try.underlying32 Try.sizeOf49 rfl rfl h0.1 rfl) ?_
  refine Ops.y (v := .agg #[_, _, _]) (Y.loadv ty_49 rfl (I.rd (E1.rd.part 0 3)) rfl rfl) ?_
  refine Ops.go (O.alloc I Try.zeroValue49 rfl ?_)
  intro b5 w I
  refine Ops.go (O.store (v := .agg #[_, _, _]) I ty_49 0 rfl rfl rfl rfl rfl rfl (Nat.le_of_ble_eq_true rfl) rfl ?_)
  intro w I
  refine Ops.nil ?_
  have hpo := predOf_getE h0.1 h0.2
  by_cases p1 : 1 ≤ l.xs[x.pred.toNat].arity
  · by_cases p2 : 2 ≤ l.xs[x.pred.toNat].arity
    · refine WP.seq ?_
      refine WP.region ?_
      refine Ops.y (v := .pointer (some ⟨_, _, none⟩)) (Y.fa fa_49_1 rfl) ?_
      refine Ops.y (v := .int .i64 _) (Y.loadv ty_3 rfl (I.rdbox 0 rfl 1 1) rfl rfl) ?_
      refine Ops.y (v := .bool true) (Y.dec_t (Y.gei rfl rfl) (p1)) ?_
      refine Ops.y (v := .bool _) (Y.move rfl) ?_
      refine Ops.gf rfl ?_
      refine Ops.gf rfl ?_
      refine Ops.gf rfl ?_
      refine Ops.y (v := .bool _) (Y.pick_t rfl rfl) ?_
      refine Ops.y (v := .bool _) (Y.move rfl) ?_
      refine Ops.ygt rfl (v := .pointer (some ⟨_, _, none⟩)) (Y.fa fa_49_1 rfl) ?_
      refine Ops.ygt rfl (v := .int .i64 _) (Y.loadv ty_3 rfl (I.rdbox 0 rfl 1 1) rfl rfl) ?_
      refine Ops.ygt rfl (v := .bool true) (Y.dec_t (Y.gei rfl rfl) (p2)) ?_
      refine Ops.ygt rfl (v := .bool _) (Y.move rfl) ?_
      refine Ops.gf rfl ?_
      refine Ops.gf rfl ?_
      refine Ops.gf rfl ?_
      refine Ops.ygt rfl (v := .bool _) (Y.pick_t rfl rfl) ?_
      refine Ops.y (v := .bool _) (Y.pick_t rfl rfl) ?_
      refine Ops.y (v := .bool _) (Y.move rfl) ?_
      refine Ops.ygt rfl (v := .pointer (some ⟨_, _, none⟩)) (Y.fa fa_49_2 rfl) ?_
      refine Ops.ygt rfl (v := .int .i64 _) (Y.loadv ty_3 rfl (I.rdbox 0 rfl 2 1) rfl rfl) ?_
      refine Ops.ygt rfl (v := .pointer (some ⟨_, _, none⟩)) (Y.fa fa_44_3 rfl) ?_
      refine Ops.ygt rfl (v := .int .i64 _) (Y.loadv ty_3 rfl (I.rdbox 1 rfl 3 1) rfl rfl) ?_
      refine Ops.gt rfl (O.callv I Try.call18 (CheckVal_ok _ I.base_ok _ _) rfl ?_)
      intro w I
      refine Ops.ygt rfl (v := .bool (decide _)) (Y.eqi rfl rfl) ?_
      refine Ops.y (v := .bool _) (Y.pick_t rfl rfl) ?_
      refine Ops.y (v := .bool _) (Y.assign rfl) ?_
      refine Ops.nil ?_
      refine WP.ret ?_
      repeat (first | refine thenE_ret ?_ | refine blockE_ret ?_)
      exact retQ.mk (vs := [.bool _]) rfl ⟨rfl, trivial⟩ I.ext_of (by simp [tup, factFine, w1, w2, w3, hpo, p1, p2])
    · by_cases b0 : x.b = 0
      · refine WP.seq ?_
        refine WP.region ?_
        refine Ops.y (v := .pointer (some ⟨_, _, none⟩)) (Y.fa fa_49_1 rfl) ?_
        refine Ops.y (v := .int .i64 _) (Y.loadv ty_3 rfl (I.rdbox 0 rfl 1 1) rfl rfl) ?_
        refine Ops.y (v := .bool true) (Y.dec_t (Y.gei rfl rfl) (p1)) ?_
        refine Ops.y (v := .bool _) (Y.move rfl) ?_
        refine Ops.gf rfl ?_
        refine Ops.gf rfl ?_
        refine Ops.gf rfl ?_
        refine Ops.y (v := .bool _) (Y.pick_t rfl rfl) ?_
        refine Ops.y (v := .bool _) (Y.move rfl) ?_
        refine Ops.ygt rfl (v := .pointer (some ⟨_, _, none⟩)) (Y.fa fa_49_1 rfl) ?_
        refine Ops.ygt rfl (v := .int .i64 _) (Y.loadv ty_3 rfl (I.rdbox 0 rfl 1 1) rfl rfl) ?_
        refine Ops.ygt rfl (v := .bool false) (Y.dec_f (Y.gei rfl rfl) (p2)) ?_
        refine Ops.ygt rfl (v := .bool _) (Y.move rfl) ?_
        refine Ops.ygt rfl (v := .pointer (some ⟨_, _, none⟩)) (Y.fa fa_44_2 rfl) ?_
        refine Ops.ygt rfl (v := .int .i64 _) (Y.loadv ty_3 rfl (I.rdbox 1 rfl 2 1) rfl rfl) ?_
        refine Ops.ygt rfl (v := .bool true) (Y.dec_t (Y.eqi rfl rfl) (b0)) ?_
        refine Ops.ygt rfl (v := .bool _) (Y.pick_f rfl rfl) ?_
        refine Ops.y (v := .bool _) (Y.pick_t rfl rfl) ?_
        refine Ops.y (v := .bool _) (Y.move rfl) ?_
        refine Ops.ygt rfl (v := .pointer (some ⟨_, _, none⟩)) (Y.fa fa_49_2 rfl) ?_
        refine Ops.ygt rfl (v := .int .i64 _) (Y.loadv ty_3 rfl (I.rdbox 0 rfl 2 1) rfl rfl) ?_
        refine Ops.ygt rfl (v := .pointer (some ⟨_, _, none⟩)) (Y.fa fa_44_3 rfl) ?_
        refine Ops.ygt rfl (v := .int .i64 _) (Y.loadv ty_3 rfl (I.rdbox 1 rfl 3 1) rfl rfl) ?_
        refine Ops.gt rfl (O.callv I Try.call18 (CheckVal_ok _ I.base_ok _ _) rfl ?_)
        intro w I
        refine Ops.ygt rfl (v := .bool (decide _)) (Y.eqi rfl rfl) ?_
        refine Ops.y (v := .bool _) (Y.pick_t rfl rfl) ?_
        refine Ops.y (v := .bool _) (Y.assign rfl) ?_
        refine Ops.nil ?_
        refine WP.ret ?_
        repeat (first | refine thenE_ret ?_ | refine blockE_ret ?_)
        exact retQ.mk (vs := [.bool _]) rfl ⟨rfl, trivial⟩ I.ext_of (by simp only [tup, factFine, w1, w2, w3, hpo, decide_true, Bool.true_and]; simp [p1, b0])
      · refine WP.seq ?_
        refine WP.region ?_
        refine Ops.y (v := .pointer (some ⟨_, _, none⟩)) (Y.fa fa_49_1 rfl) ?_
        refine Ops.y (v := .int .i64 _) (Y.loadv ty_3 rfl (I.rdbox 0 rfl 1 1) rfl rfl) ?_
        refine Ops.y (v := .bool true) (Y.dec_t (Y.gei rfl rfl) (p1)) ?_
        refine Ops.y (v := .bool _) (Y.move rfl) ?_
        refine Ops.gf rfl ?_
        refine Ops.gf rfl ?_
        refine Ops.gf rfl ?_
        refine Ops.y (v := .bool _) (Y.pick_t rfl rfl) ?_
        refine Ops.y (v := .bool _) (Y.move rfl) ?_
        refine Ops.ygt rfl (v := .pointer (some ⟨_, _, none⟩)) (Y.fa fa_49_1 rfl) ?_
        refine Ops.ygt rfl (v := .int .i64 _) (Y.loadv ty_3 rfl (I.rdbox 0 rfl 1 1) rfl rfl) ?_
        refine Ops.ygt rfl (v := .bool false) (Y.dec_f (Y.gei rfl rfl) (p2)) ?_
        refine Ops.ygt rfl (v := .bool _) (Y.move rfl) ?_
        refine Ops.ygt rfl (v := .pointer (some ⟨_, _, none⟩)) (Y.fa fa_44_2 rfl) ?_
        refine Ops.ygt rfl (v := .int .i64 _) (Y.loadv ty_3 rfl (I.rdbox 1 rfl 2 1) rfl rfl) ?_
        refine Ops.ygt rfl (v := .bool false) (Y.dec_f (Y.eqi rfl rfl) (b0)) ?_
        refine Ops.ygt rfl (v := .bool _) (Y.pick_f rfl rfl) ?_
        refine Ops.y (v := .bool _) (Y.pick_t rfl rfl) ?_
        refine Ops.y (v := .bool _) (Y.move rfl) ?_
        refine Ops.gf rfl ?_
        refine Ops.gf rfl ?_
        refine Ops.gf rfl ?_
        refine Ops.gf rfl ?_
        refine Ops.gf rfl ?_
        refine Ops.gf rfl ?_
        refine Ops.y (v := .bool _) (Y.pick_f rfl rfl) ?_
        refine Ops.y (v := .bool _) (Y.assign rfl) ?_
        refine Ops.nil ?_
        refine WP.ret ?_
        repeat (first | refine thenE_ret ?_ | refine blockE_ret ?_)
        exact retQ.mk (vs := [.bool _]) rfl ⟨rfl, trivial⟩ I.ext_of (by simp [tup, factFine, hpo, p2, b0])
  · by_cases a0 : x.a = 0
    · by_cases p2 : 2 ≤ l.xs[x.pred.toNat].arity
      · omega
      · by_cases b0 : x.b = 0
        · refine WP.seq ?_
          refine WP.region ?_
          refine Ops.y (v := .pointer (some ⟨_, _, none⟩)) (Y.fa fa_49_1 rfl) ?_
          refine Ops.y (v := .int .i64 _) (Y.loadv ty_3 rfl (I.rdbox 0 rfl 1 1) rfl rfl) ?_
          refine Ops.y (v := .bool false) (Y.dec_f (Y.gei rfl rfl) (p1)) ?_
          refine Ops.y (v := .bool _) (Y.move rfl) ?_
          refine Ops.ygt rfl (v := .pointer (some ⟨_, _, none⟩)) (Y.fa fa_44_1 rfl) ?_
          refine Ops.ygt rfl (v := .int .i64 _) (Y.loadv ty_3 rfl (I.rdbox 1 rfl 1 1) rfl rfl) ?_
          refine Ops.ygt rfl (v := .bool true) (Y.dec_t (Y.eqi rfl rfl) (a0)) ?_
          refine Ops.y (v := .bool _) (Y.pick_f rfl rfl) ?_
          refine Ops.y (v := .bool _) (Y.move rfl) ?_
          refine Ops.ygt rfl (v := .pointer (some ⟨_, _, none⟩)) (Y.fa fa_49_1 rfl) ?_
          refine Ops.ygt rfl (v := .int .i64 _) (Y.loadv ty_3 rfl (I.rdbox 0 rfl 1 1) rfl rfl) ?_
          refine Ops.ygt rfl (v := .bool false) (Y.dec_f (Y.gei rfl rfl) (p2)) ?_
          refine Ops.ygt rfl (v := .bool _) (Y.move rfl) ?_
          refine Ops.ygt rfl (v := .pointer (some ⟨_, _, none⟩)) (Y.fa fa_44_2 rfl) ?_
          refine Ops.ygt rfl (v := .int .i64 _) (Y.loadv ty_3 rfl (I.rdbox 1 rfl 2 1) rfl rfl) ?_
          refine Ops.ygt rfl (v := .bool true) (Y.dec_t (Y.eqi rfl rfl) (b0)) ?_
          refine Ops.ygt rfl (v := .bool _) (Y.pick_f rfl rfl) ?_
          refine Ops.y (v := .bool _) (Y.pick_t rfl rfl) ?_
          refine Ops.y (v := .bool _) (Y.move rfl) ?_
          refine Ops.ygt rfl (v := .pointer (some ⟨_, _, none⟩)) (Y.fa fa_49_2 rfl) ?_
          refine Ops.ygt rfl (v := .int .i64 _) (Y.loadv ty_3 rfl (I.rdbox 0 rfl 2 1) rfl rfl) ?_
          refine Ops.ygt rfl (v := .pointer (some ⟨_, _, none⟩)) (Y.fa fa_44_3 rfl) ?_
          refine Ops.ygt rfl (v := .int .i64 _) (Y.loadv ty_3 rfl (I.rdbox 1 rfl 3 1) rfl rfl) ?_
          refine Ops.gt rfl (O.callv I Try.call18 (CheckVal_ok _ I.base_ok _ _) rfl ?_)
          intro w I
          refine Ops.ygt rfl (v := .bool (decide _)) (Y.eqi rfl rfl) ?_
          refine Ops.y (v := .bool _) (Y.pick_t rfl rfl) ?_
          refine Ops.y (v := .bool _) (Y.assign rfl) ?_
          refine Ops.nil ?_
          refine WP.ret ?_
          repeat (first | refine thenE_ret ?_ | refine blockE_ret ?_)
          exact retQ.mk (vs := [.bool _]) rfl ⟨rfl, trivial⟩ I.ext_of (by simp only [tup, factFine, w1, w2, w3, hpo, decide_true, Bool.true_and]; simp [a0, b0])
        · refine WP.seq ?_
          refine WP.region ?_
          refine Ops.y (v := .pointer (some ⟨_, _, none⟩)) (Y.fa fa_49_1 rfl) ?_
          refine Ops.y (v := .int .i64 _) (Y.loadv ty_3 rfl (I.rdbox 0 rfl 1 1) rfl rfl) ?_
          refine Ops.y (v := .bool false) (Y.dec_f (Y.gei rfl rfl) (p1)) ?_
          refine Ops.y (v := .bool _) (Y.move rfl) ?_
          refine Ops.ygt rfl (v := .pointer (some ⟨_, _, none⟩)) (Y.fa fa_44_1 rfl) ?_
          refine Ops.ygt rfl (v := .int .i64 _) (Y.loadv ty_3 rfl (I.rdbox 1 rfl 1 1) rfl rfl) ?_
          refine Ops.ygt rfl (v := .bool true) (Y.dec_t (Y.eqi rfl rfl) (a0)) ?_
          refine Ops.y (v := .bool _) (Y.pick_f rfl rfl) ?_
          refine Ops.y (v := .bool _) (Y.move rfl) ?_
          refine Ops.ygt rfl (v := .pointer (some ⟨_, _, none⟩)) (Y.fa fa_49_1 rfl) ?_
          refine Ops.ygt rfl (v := .int .i64 _) (Y.loadv ty_3 rfl (I.rdbox 0 rfl 1 1) rfl rfl) ?_
          refine Ops.ygt rfl (v := .bool false) (Y.dec_f (Y.gei rfl rfl) (p2)) ?_
          refine Ops.ygt rfl (v := .bool _) (Y.move rfl) ?_
          refine Ops.ygt rfl (v := .pointer (some ⟨_, _, none⟩)) (Y.fa fa_44_2 rfl) ?_
          refine Ops.ygt rfl (v := .int .i64 _) (Y.loadv ty_3 rfl (I.rdbox 1 rfl 2 1) rfl rfl) ?_
          refine Ops.ygt rfl (v := .bool false) (Y.dec_f (Y.eqi rfl rfl) (b0)) ?_
          refine Ops.ygt rfl (v := .bool _) (Y.pick_f rfl rfl) ?_
          refine Ops.y (v := .bool _) (Y.pick_t rfl rfl) ?_
          refine Ops.y (v := .bool _) (Y.move rfl) ?_
          refine Ops.gf rfl ?_
          refine Ops.gf rfl ?_
          refine Ops.gf rfl ?_
          refine Ops.gf rfl ?_
          refine Ops.gf rfl ?_
          refine Ops.gf rfl ?_
          refine Ops.y (v := .bool _) (Y.pick_f rfl rfl) ?_
          refine Ops.y (v := .bool _) (Y.assign rfl) ?_
          refine Ops.nil ?_
          refine WP.ret ?_
          repeat (first | refine thenE_ret ?_ | refine blockE_ret ?_)
          exact retQ.mk (vs := [.bool _]) rfl ⟨rfl, trivial⟩ I.ext_of (by simp [tup, factFine, hpo, p2, b0])
    · refine WP.seq ?_
      refine WP.region ?_
      refine Ops.y (v := .pointer (some ⟨_, _, none⟩)) (Y.fa fa_49_1 rfl) ?_
      refine Ops.y (v := .int .i64 _) (Y.loadv ty_3 rfl (I.rdbox 0 rfl 1 1) rfl rfl) ?_
      refine Ops.y (v := .bool false) (Y.dec_f (Y.gei rfl rfl) (p1)) ?_
      refine Ops.y (v := .bool _) (Y.move rfl) ?_
      refine Ops.ygt rfl (v := .pointer (some ⟨_, _, none⟩)) (Y.fa fa_44_1 rfl) ?_
      refine Ops.ygt rfl (v := .int .i64 _) (Y.loadv ty_3 rfl (I.rdbox 1 rfl 1 1) rfl rfl) ?_
      refine Ops.ygt rfl (v := .bool false) (Y.dec_f (Y.eqi rfl rfl) (a0)) ?_
      refine Ops.y (v := .bool _) (Y.pick_f rfl rfl) ?_
      refine Ops.y (v := .bool _) (Y.move rfl) ?_
      refine Ops.gf rfl ?_
      refine Ops.gf rfl ?_
      refine Ops.gf rfl ?_
      refine Ops.gf rfl ?_
      refine Ops.gf rfl ?_
      refine Ops.gf rfl ?_
      refine Ops.gf rfl ?_
      refine Ops.gf rfl ?_
      refine Ops.y (v := .bool _) (Y.pick_f rfl rfl) ?_
      refine Ops.y (v := .bool _) (Y.move rfl) ?_
      refine Ops.gf rfl ?_
      refine Ops.gf rfl ?_
      refine Ops.gf rfl ?_
      refine Ops.gf rfl ?_
      refine Ops.gf rfl ?_
      refine Ops.gf rfl ?_
      refine Ops.y (v := .bool _) (Y.pick_f rfl rfl) ?_
      refine Ops.y (v := .bool _) (Y.assign rfl) ?_
      refine Ops.nil ?_
      refine WP.ret ?_
      repeat (first | refine thenE_ret ?_ | refine blockE_ret ?_)
      exact retQ.mk (vs := [.bool _]) rfl ⟨rfl, trivial⟩ I.ext_of (by simp [tup, factFine, hpo, p1, a0])

theorem RuleChecks_ok (B : Base) (hB : B.ok) (l : Sl Prd) (hl : Prds l B.h) (a : Atm) (ha : a.In B.h) (r : Rul) (hr : r.In B.h) : Fn Try.prog 7 [l.val, a.val, r.val] B (fun v _ => v = .bool true) := by
  refine Fn.of Try.func7 rfl Try.ntmps7 (by kernel_rfl) (by simp) ?_
  intro e
  have I := Inv.start hB
  refine WP.seq ?_
  refine WP.region ?_
  refine Ops.go (O.box (v := .agg #[_, _]) I rfl rfl ?_)
  intro b4 w I
  refine Ops.go (O.box (v := .agg #[_, _, _, _, _]) I rfl rfl ?_)
  intro b5 w I
  refine Ops.y (v := .bool _) (Y.assign rfl) ?_
  refine Ops.nil ?_
  refine WP.seq ?_
  refine WP.regionQ mixed I (by kernel_rfl) ?_
  refine OpsQ.c (fun w I => QC.callv I Try.call23 (ruleBegun_ok _ I.base_ok) rfl) ?_
  refine OpsQ.y (v := .bool _) (fun w I => Y.move rfl) ?_
  refine OpsQ.ygt rfl (v := .slice _ _ _) (fun w I => Y.move rfl) ?_
  refine OpsQ.ygt rfl (v := .agg #[_, _]) (fun w I => Y.loadv ty_35 rfl (I.rdbox 1 rfl 0 2) rfl rfl) ?_
  refine OpsQ.cgt rfl (fun w I => QC.callv I Try.call24 (Atom_ok _ I.base_ok l hl a ha) rfl) ?_
  refine OpsQ.ygt rfl (v := .slice _ _ _) (fun w I => Y.move rfl) ?_
  refine OpsQ.ygt rfl (v := .agg #[_, _]) (fun w I => Y.loadv ty_35 rfl (I.rdbox 1 rfl 0 2) rfl rfl) ?_
  refine OpsQ.cgt rfl (fun w I => QC.callv I Try.call25 (CheckAtom_ok _ I.base_ok l hl a ha) rfl) ?_
  refine OpsQ.ygt rfl (v := .bool true) (fun w I => Y.dec_t (Y.eqi rfl rfl) (rfl)) ?_
  refine OpsQ.y (v := .bool _) (fun w I => Y.pick_t rfl rfl) ?_
  refine OpsQ.y (v := .bool _) (fun w I => Y.move rfl) ?_
  refine OpsQ.ygt rfl (v := .slice _ _ _) (fun w I => Y.move rfl) ?_
  refine OpsQ.ygt rfl (v := .agg #[_, _, _, _, _]) (fun w I => Y.loadv ty_38 rfl (I.rdbox 0 rfl 0 5) rfl rfl) ?_
  refine OpsQ.cgt rfl (fun w I => QC.callv I Try.call26 (RCheck_ok _ I.base_ok l hl r hr) rfl) ?_
  refine OpsQ.ygt rfl (v := .slice _ _ _) (fun w I => Y.move rfl) ?_
  refine OpsQ.ygt rfl (v := .agg #[_, _, _, _, _]) (fun w I => Y.loadv ty_38 rfl (I.rdbox 0 rfl 0 5) rfl rfl) ?_
  refine OpsQ.cgt rfl (fun w I => QC.callv I Try.call27 (CheckRule_ok _ I.base_ok l hl r hr) rfl) ?_
  refine OpsQ.ygt rfl (v := .bool true) (fun w I => Y.dec_t (Y.eqi rfl rfl) (rfl)) ?_
  refine OpsQ.y (v := .bool _) (fun w I => Y.pick_t rfl rfl) ?_
  refine OpsQ.y (v := .bool _) (fun w I => Y.assign rfl) ?_
  refine OpsQ.nil ?_
  intro w I
  refine WP.ret ?_
  repeat (first | refine thenE_ret ?_ | refine blockE_ret ?_)
  exact retQ.mk (vs := [.bool _]) rfl ⟨rfl, trivial⟩ I.ext_of (rfl)
theorem groundOf_fine {l : List Prd} {a : Atm} {x : Vrs} (h : (groundOf a x).2 = 0) (ha : checkAtom l a = 0) :
    (groundOf a x).1 = groundF a x ∧ (0 ≤ a.pred ∧ a.pred < l.length) ∧ within (argv a x 0) 0 4 ∧ within (argv a x 1) 0 4 ∧ (1 ≤ (predOf l a.pred).arity ∨ argv a x 0 = 0) ∧ (2 ≤ (predOf l a.pred).arity ∨ argv a x 1 = 0) := by
  have hp := checkAtom_in ha
  unfold groundOf at h ⊢
  split at h
  · cases h
  split at h
  · rename_i h1 h2; exact absurd h h2
  split at h
  · cases h
  rename_i h1 h2 h3
  rw [if_neg h1, if_neg h2, if_neg h3]
  have harg := argsErr_iff.1 (Decidable.not_not.1 h2)
  have hb : ∀ t ∈ a.args.xs, within (tv t x) 0 4 := fun t ht => by
    have hok := harg t ht
    cases hv : t.var
    · simp only [termOk, hv, Bool.false_eq_true, if_false, decide_eq_true_eq] at hok
      simpa [tv, hv, within] using hok
    · have h4 : grBad a x = false := by simpa using h3
      unfold grBad at h4
      rw [List.any_eq_false] at h4
      have := h4 t ht
      simp only [hv, Bool.true_and, Bool.not_eq_true', decide_eq_false_iff_not, Decidable.not_not] at this
      simpa [tv, hv] using this
  have hlen : (a.args.xs.length : Int) = (predOf l a.pred).arity := by
    unfold checkAtom at ha
    split at ha
    · cases ha
    split at ha
    · cases ha
    rename_i h5 h6; exact Decidable.not_not.1 h6
  have hw : ∀ i, within (argv a x i) 0 4 := fun i => by
    by_cases hi : i < a.args.xs.length
    · rw [argv_get hi]; exact hb _ (List.getElem_mem hi)
    · rw [argv_none (by omega)]; exact ⟨by omega, by omega⟩
  have hz : ∀ i : Nat, (i : Int) + 1 ≤ (predOf l a.pred).arity ∨ argv a x i = 0 := fun i => by
    by_cases hi : i < a.args.xs.length
    · left; omega
    · right; exact argv_none (by omega)
  exact ⟨rfl, hp, hw 0, hw 1, by simpa using hz 0, by simpa using hz 1⟩
set_option maxHeartbeats 2000000 in
theorem RuleGrounds_ok (B : Base) (hB : B.ok) (l : Sl Prd) (hl : Prds l B.h) (a : Atm) (ha : a.In B.h) (x : Vrs) : Fn Try.prog 8 [l.val, a.val, x.val] B (fun v _ => v = .bool true) := by
  refine Fn.of Try.func8 rfl Try.ntmps8 (by kernel_rfl) (by simp) ?_
  intro e
  have I := Inv.start hB
  refine WP.seq ?_
  refine WP.region ?_
  refine Ops.go (O.box (v := .agg #[_, _]) I rfl rfl ?_)
  intro b4 w I
  refine Ops.go (O.box (v := .agg #[_, _, _]) I rfl rfl ?_)
  intro b5 w I
  refine Ops.y (v := .bool _) (Y.assign rfl) ?_
  refine Ops.nil ?_
  refine WP.seq ?_
  refine WP.region ?_
  refine Ops.y (v := .agg #[_, _]) (Y.loadv ty_35 rfl (I.rdbox 1 rfl 0 2) rfl rfl) ?_
  refine Ops.y (v := .agg #[_, _, _]) (Y.loadv ty_42 rfl (I.rdbox 0 rfl 0 3) rfl rfl) ?_
  refine Ops.go (O.callv I Try.call28 (Ground_ok _ I.base_ok a ha x) rfl ?_)
  intro w I
  refine Ops.y (v := .tuple #[_, _]) (Y.move rfl) ?_
  refine Ops.y (v := .agg #[_, _, _, _]) (Y.extract rfl rfl) ?_
  refine Ops.y (v := .int .i64 _) (Y.extract rfl rfl) ?_
  refine Ops.go (O.alloc I Try.zeroValue44 rfl ?_)
  intro b7 w I
  refine Ops.go (O.store (v := .agg #[_, _, _, _]) I ty_44 0 rfl rfl rfl rfl rfl rfl (Nat.le_of_ble_eq_true rfl) rfl ?_)
  intro w I
  refine Ops.y (v := .int .i64 _) (Y.assign rfl) ?_
  refine Ops.nil ?_
  refine WP.seq ?_
  refine WP.region ?_
  refine Ops.y (v := .agg #[_, _]) (Y.loadv ty_35 rfl (I.rdbox 2 rfl 0 2) rfl rfl) ?_
  refine Ops.y (v := .agg #[_, _, _]) (Y.loadv ty_42 rfl (I.rdbox 1 rfl 0 3) rfl rfl) ?_
  refine Ops.go (O.callv I Try.call29 (GroundOf_ok _ I.base_ok a ha x) rfl ?_)
  intro w I
  refine Ops.y (v := .tuple #[_, _]) (Y.move rfl) ?_
  refine Ops.y (v := .agg #[_, _, _, _]) (Y.extract rfl rfl) ?_
  refine Ops.y (v := .int .i64 _) (Y.extract rfl rfl) ?_
  refine Ops.go (O.alloc I Try.zeroValue44 rfl ?_)
  intro b9 w I
  refine Ops.go (O.store (v := .agg #[_, _, _, _]) I ty_44 0 rfl rfl rfl rfl rfl rfl (Nat.le_of_ble_eq_true rfl) rfl ?_)
  intro w I
  refine Ops.y (v := .int .i64 _) (Y.assign rfl) ?_
  refine Ops.nil ?_
  have e0 : ¬ ((groundOf a x).2 ≠ (groundOf a x).2) := by simp
  refine WP.seq ?_
  refine WP.seq ?_
  refine WP.region ?_
  refine Ops.y (v := .int .i64 _) (Y.move rfl) ?_
  refine Ops.y (v := .int .i64 _) (Y.move rfl) ?_
  refine Ops.y (v := .bool false) (Y.dec_f (Y.nei rfl rfl) (e0)) ?_
  refine Ops.y (v := .bool _) (Y.move rfl) ?_
  refine Ops.ygt rfl (v := .agg #[_, _, _, _]) (Y.loadv ty_44 rfl (I.rdbox 1 rfl 0 4) rfl rfl) ?_
  refine Ops.ygt rfl (v := .agg #[_, _, _, _]) (Y.loadv ty_44 rfl (I.rdbox 0 rfl 0 4) rfl rfl) ?_
  refine Ops.ygt rfl (v := .bool false) (Y.b (Y.nest Try.eqGuardType44 (eq_44 _ _ _ _ _ _ _ _) rfl rfl) ((by simp))) ?_
  refine Ops.y (v := .bool _) (Y.pick_f rfl rfl) ?_
  refine Ops.nil ?_
  refine WP.cond_f rfl ?_
  by_cases o0 : (groundOf a x).2 ≠ 0
  · refine WP.skip ?_
    refine WP.seq ?_
    refine WP.seq ?_
    refine WP.region ?_
    refine Ops.y (v := .int .i64 _) (Y.move rfl) ?_
    refine Ops.y (v := .bool true) (Y.dec_t (Y.nei rfl rfl) (o0)) ?_
    refine Ops.y (v := .bool _) (Y.move rfl) ?_
    refine Ops.gf rfl ?_
    refine Ops.gf rfl ?_
    refine Ops.gf rfl ?_
    refine Ops.y (v := .bool _) (Y.pick_t rfl rfl) ?_
    refine Ops.y (v := .bool _) (Y.move rfl) ?_
    refine Ops.gf rfl ?_
    refine Ops.gf rfl ?_
    refine Ops.gf rfl ?_
    refine Ops.gf rfl ?_
    refine Ops.y (v := .bool _) (Y.pick_t rfl rfl) ?_
    refine Ops.nil ?_
    refine WP.cond_t rfl ?_
    refine WP.seq ?_
    refine WP.region ?_
    refine Ops.go (O.callv I Try.call23 (ruleBegun_ok _ I.base_ok) rfl ?_)
    intro w I
    refine Ops.y (v := .bool _) (Y.assign rfl) ?_
    refine Ops.nil ?_
    refine WP.ret ?_
    repeat (first | refine thenE_ret ?_ | refine blockE_ret ?_)
    exact retQ.mk (vs := [.bool _]) rfl ⟨rfl, trivial⟩ I.ext_of (rfl)
  cases hk : l.xs.all predFine
  · refine WP.skip ?_
    refine WP.seq ?_
    refine WP.seq ?_
    refine WP.region ?_
    refine Ops.y (v := .int .i64 _) (Y.move rfl) ?_
    refine Ops.y (v := .bool false) (Y.dec_f (Y.nei rfl rfl) (o0)) ?_
    refine Ops.y (v := .bool _) (Y.move rfl) ?_
    refine Ops.ygt rfl (v := .slice _ _ _) (Y.move rfl) ?_
    refine Ops.gt rfl (O.callv I Try.call30 (kinds_ok _ I.base_ok l hl) rfl ?_)
    intro w I
    refine Ops.ygt rfl (v := .bool true) (Y.b (Y.not rfl) ((by rw [hk]; rfl))) ?_
    refine Ops.y (v := .bool _) (Y.pick_f rfl rfl) ?_
    refine Ops.y (v := .bool _) (Y.move rfl) ?_
    refine Ops.gf rfl ?_
    refine Ops.gf rfl ?_
    refine Ops.gf rfl ?_
    refine Ops.gf rfl ?_
    refine Ops.y (v := .bool _) (Y.pick_t rfl rfl) ?_
    refine Ops.nil ?_
    refine WP.cond_t rfl ?_
    refine WP.seq ?_
    refine WP.region ?_
    refine Ops.go (O.callv I Try.call23 (ruleBegun_ok _ I.base_ok) rfl ?_)
    intro w I
    refine Ops.y (v := .bool _) (Y.assign rfl) ?_
    refine Ops.nil ?_
    refine WP.ret ?_
    repeat (first | refine thenE_ret ?_ | refine blockE_ret ?_)
    exact retQ.mk (vs := [.bool _]) rfl ⟨rfl, trivial⟩ I.ext_of (rfl)
  by_cases o2 : checkAtom l.xs a ≠ 0
  · refine WP.skip ?_
    refine WP.seq ?_
    refine WP.seq ?_
    refine WP.region ?_
    refine Ops.y (v := .int .i64 _) (Y.move rfl) ?_
    refine Ops.y (v := .bool false) (Y.dec_f (Y.nei rfl rfl) (o0)) ?_
    refine Ops.y (v := .bool _) (Y.move rfl) ?_
    refine Ops.ygt rfl (v := .slice _ _ _) (Y.move rfl) ?_
    refine Ops.gt rfl (O.callv I Try.call30 (kinds_ok _ I.base_ok l hl) rfl ?_)
    intro w I
    refine Ops.ygt rfl (v := .bool false) (Y.b (Y.not rfl) ((by rw [hk]; rfl))) ?_
    refine Ops.y (v := .bool _) (Y.pick_f rfl rfl) ?_
    refine Ops.y (v := .bool _) (Y.move rfl) ?_
    refine Ops.ygt rfl (v := .slice _ _ _) (Y.move rfl) ?_
    refine Ops.ygt rfl (v := .agg #[_, _]) (Y.loadv ty_35 rfl (I.rdbox 3 rfl 0 2) rfl rfl) ?_
    refine Ops.gt rfl (O.callv I Try.call25 (CheckAtom_ok _ I.base_ok l hl a ha) rfl ?_)
    intro w I
    refine Ops.ygt rfl (v := .bool true) (Y.dec_t (Y.nei rfl rfl) (o2)) ?_
    refine Ops.y (v := .bool _) (Y.pick_f rfl rfl) ?_
    refine Ops.nil ?_
    refine WP.cond_t rfl ?_
    refine WP.seq ?_
    refine WP.region ?_
    refine Ops.go (O.callv I Try.call23 (ruleBegun_ok _ I.base_ok) rfl ?_)
    intro w I
    refine Ops.y (v := .bool _) (Y.assign rfl) ?_
    refine Ops.nil ?_
    refine WP.ret ?_
    repeat (first | refine thenE_ret ?_ | refine blockE_ret ?_)
    exact retQ.mk (vs := [.bool _]) rfl ⟨rfl, trivial⟩ I.ext_of (rfl)
  refine WP.skip ?_
  refine WP.seq ?_
  refine WP.seq ?_
  refine WP.region ?_
  refine Ops.y (v := .int .i64 _) (Y.move rfl) ?_
  refine Ops.y (v := .bool false) (Y.dec_f (Y.nei rfl rfl) (o0)) ?_
  refine Ops.y (v := .bool _) (Y.move rfl) ?_
  refine Ops.ygt rfl (v := .slice _ _ _) (Y.move rfl) ?_
  refine Ops.gt rfl (O.callv I Try.call30 (kinds_ok _ I.base_ok l hl) rfl ?_)
  intro w I
  refine Ops.ygt rfl (v := .bool false) (Y.b (Y.not rfl) ((by rw [hk]; rfl))) ?_
  refine Ops.y (v := .bool _) (Y.pick_f rfl rfl) ?_
  refine Ops.y (v := .bool _) (Y.move rfl) ?_
  refine Ops.ygt rfl (v := .slice _ _ _) (Y.move rfl) ?_
  refine Ops.ygt rfl (v := .agg #[_, _]) (Y.loadv ty_35 rfl (I.rdbox 3 rfl 0 2) rfl rfl) ?_
  refine Ops.gt rfl (O.callv I Try.call25 (CheckAtom_ok _ I.base_ok l hl a ha) rfl ?_)
  intro w I
  refine Ops.ygt rfl (v := .bool false) (Y.dec_f (Y.nei rfl rfl) (o2)) ?_
  refine Ops.y (v := .bool _) (Y.pick_f rfl rfl) ?_
  refine Ops.nil ?_
  refine WP.cond_f rfl ?_
  obtain ⟨g1, g2, g3, g4, g5, g6⟩ := groundOf_fine (Decidable.not_not.1 o0) (Decidable.not_not.1 o2)
  have E1 := hl.at (show a.pred.toNat < l.xs.length by omega)
  have hpo := predOf_getE g2.1 g2.2
  refine WP.skip ?_
  refine WP.seq ?_
  refine WP.seq ?_
  refine WP.region ?_
  refine Ops.y (v := .slice _ _ _) (Y.move rfl) ?_
  refine Ops.y (v := .pointer (some ⟨_, _, none⟩)) (Y.fa0 fa_35_0 rfl) ?_
  refine Ops.y (v := .int .i64 _) (Y.loadv ty_3 rfl (I.rdbox 3 rfl 0 1) rfl rfl) ?_
  refine Ops.y (v := .pointer (some ⟨_, _, none⟩)) (Y.idxEl E1 Try.underlying32 Try.sizeOf49 rfl rfl g2.1 rfl) ?_
  refine Ops.y (v := .pointer (some ⟨_, _, none⟩)) (Y.fa fa_49_2 rfl) ?_
  refine Ops.y (v := .int .i64 _) (Y.loadv ty_3 rfl (I.rd (E1.rd.part 2 1)) rfl rfl) ?_
  refine Ops.y (v := .bool (decide _)) (Y.eqi rfl rfl) ?_
  refine Ops.nil ?_
  refine WP.cond_dec rfl (fun h => ?_) (fun h => ?_)
  · have hfin : factFine l.xs (groundOf a x).1 = true := by
      have hw : within (groundF a x).pred 0 ((l.xs.length : Int) - 1) := ⟨g2.1, by have := g2.2; simp only [groundF]; omega⟩
      have hc : checkVal (predOf l.xs a.pred).kind (groundF a x).v = 0 := by rw [hpo, h]; rfl
      rw [g1]
      simp only [factFine, Bool.and_eq_true, Bool.or_eq_true, decide_eq_true_eq]
      exact ⟨⟨⟨⟨⟨hw, g3⟩, g4⟩, g5⟩, g6⟩, hc⟩
    refine WP.seq ?_
    refine WP.region ?_
    refine Ops.go (O.callv I Try.call23 (ruleBegun_ok _ I.base_ok) rfl ?_)
    intro w I
    refine Ops.y (v := .bool _) (Y.move rfl) ?_
    refine Ops.ygt rfl (v := .slice _ _ _) (Y.move rfl) ?_
    refine Ops.ygt rfl (v := .agg #[_, _, _, _]) (Y.loadv ty_44 rfl (I.rdbox 1 rfl 0 4) rfl rfl) ?_
    refine Ops.gt rfl (O.callv I Try.call31 (FactFine_ok _ I.base_ok l hl (groundOf a x).1) rfl ?_)
    intro w I
    refine Ops.y (v := .bool _) (Y.pick_t rfl rfl) ?_
    refine Ops.y (v := .bool _) (Y.assign rfl) ?_
    refine Ops.nil ?_
    refine WP.ret ?_
    repeat (first | refine thenE_ret ?_ | refine blockE_ret ?_)
    exact retQ.mk (vs := [.bool _]) rfl ⟨rfl, trivial⟩ I.ext_of (by simp only [tup, hfin])
  refine WP.skip ?_
  refine WP.seq ?_
  refine WP.region ?_
  refine Ops.go (O.callv I Try.call23 (ruleBegun_ok _ I.base_ok) rfl ?_)
  intro w I
  refine Ops.y (v := .bool _) (Y.move rfl) ?_
  refine Ops.ygt rfl (v := .pointer (some ⟨_, _, none⟩)) (Y.fa fa_44_1 rfl) ?_
  refine Ops.ygt rfl (v := .int .i64 _) (Y.loadv ty_3 rfl (I.rdbox 1 rfl 1 1) rfl rfl) ?_
  refine Ops.ygt rfl (v := .bool true) (Y.dec_t (Y.gei rfl rfl) ((by rw [g1]; exact g3.1))) ?_
  refine Ops.y (v := .bool _) (Y.pick_t rfl rfl) ?_
  refine Ops.y (v := .bool _) (Y.move rfl) ?_
  refine Ops.ygt rfl (v := .pointer (some ⟨_, _, none⟩)) (Y.fa fa_44_1 rfl) ?_
  refine Ops.ygt rfl (v := .int .i64 _) (Y.loadv ty_3 rfl (I.rdbox 1 rfl 1 1) rfl rfl) ?_
  refine Ops.ygt rfl (v := .bool true) (Y.dec_t (Y.lei rfl rfl) ((by rw [g1]; exact g3.2))) ?_
  refine Ops.y (v := .bool _) (Y.pick_t rfl rfl) ?_
  refine Ops.y (v := .bool _) (Y.move rfl) ?_
  refine Ops.ygt rfl (v := .pointer (some ⟨_, _, none⟩)) (Y.fa fa_44_2 rfl) ?_
  refine Ops.ygt rfl (v := .int .i64 _) (Y.loadv ty_3 rfl (I.rdbox 1 rfl 2 1) rfl rfl) ?_
  refine Ops.ygt rfl (v := .bool true) (Y.dec_t (Y.gei rfl rfl) ((by rw [g1]; exact g4.1))) ?_
  refine Ops.y (v := .bool _) (Y.pick_t rfl rfl) ?_
  refine Ops.y (v := .bool _) (Y.move rfl) ?_
  refine Ops.ygt rfl (v := .pointer (some ⟨_, _, none⟩)) (Y.fa fa_44_2 rfl) ?_
  refine Ops.ygt rfl (v := .int .i64 _) (Y.loadv ty_3 rfl (I.rdbox 1 rfl 2 1) rfl rfl) ?_
  refine Ops.ygt rfl (v := .bool true) (Y.dec_t (Y.lei rfl rfl) ((by rw [g1]; exact g4.2))) ?_
  refine Ops.y (v := .bool _) (Y.pick_t rfl rfl) ?_
  refine Ops.y (v := .bool _) (Y.assign rfl) ?_
  refine Ops.nil ?_
  refine WP.ret ?_
  repeat (first | refine thenE_ret ?_ | refine blockE_ret ?_)
  exact retQ.mk (vs := [.bool _]) rfl ⟨rfl, trivial⟩ I.ext_of (rfl)
end Go.TF
