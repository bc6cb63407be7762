/- The laws of facts: each returns true. -/
import Derived.Test.YtenigglapeajdaaBas4
namespace Go.TF
open Go Go.RowKit Go.Proofs
set_option maxRecDepth 20000

def pathsC : List Fct := [⟨0, 0, 1, 0⟩, ⟨0, 1, 2, 0⟩, ⟨1, 0, 1, 4⟩]
theorem paths_ok (B : Base) (hB : B.ok) : Fn Try.prog 37 [] B (fun v h => ∃ s : Sl Fct, v = s.val ∧ s.xs = pathsC ∧ Fcts s h) := by
  refine Fn.of Try.func37 rfl Try.ntmps37 (by kernel_rfl) (by simp) ?_
  intro e
  have I := Inv.start hB
  refine WP.seq ?_
  refine WP.region ?_
  refine Ops.y (v := .slice _ _ _) (Y.assign rfl) ?_
  refine Ops.nil ?_
  refine WP.seq ?_
  refine WP.region ?_
  refine Ops.y (v := .agg #[.int .i64 _, .int .i64 _, .int .i64 _, .int .i64 _]) (Y.build pl_35 Try.zeroValue35 rfl rfl) ?_
  refine Ops.y (v := .agg #[.int .i64 _, .int .i64 _, .int .i64 _, .int .i64 _]) (Y.build pl_35 Try.zeroValue35 rfl rfl) ?_
  refine Ops.y (v := .agg #[.int .i64 _, .int .i64 _, .int .i64 _, .int .i64 _]) (Y.build pl_35 Try.zeroValue35 rfl rfl) ?_
  refine Ops.go (O.mksl (xs := [⟨0, 0, 1, 0⟩, ⟨0, 1, 2, 0⟩, ⟨1, 0, 1, 4⟩]) (enc := Fct.enc) I Try.underlying33 Try.sizeOf35 Try.zeroValue35 rfl (Nat.le_of_ble_eq_true rfl) rfl rfl (by decide) (fun _ => rfl) ?_)
  intro b4 h4 w I le4 sl4
  refine Ops.y (v := .slice _ _ _) (Y.assign rfl) ?_
  refine Ops.nil ?_
  refine WP.ret ?_
  repeat (first | refine thenE_ret ?_ | refine blockE_ret ?_)
  exact retQ.mk (vs := [.slice _ _ _]) rfl ⟨rfl, trivial⟩ I.ext_of (⟨⟨some ⟨b4, 0, none⟩, 3, [⟨0, 0, 1, 0⟩, ⟨0, 1, 2, 0⟩, ⟨1, 0, 1, 4⟩]⟩, rfl, rfl, sl4, by simp⟩)
section
variable (B : Base) (hB : B.ok) (l : Sl Prd) (hl : Prds l B.h) (f g : Sl Fct) (hf : Fcts f B.h) (hg : Fcts g B.h) (x : Fct)
include hB hl hf
theorem Find_at (r : Int × Bool × Int) (h : findOf l.xs f.xs x = r) : Fn Try.prog 13 [l.val, f.val, x.val] B (fun v _ => v = tFind r) := h ▸ Find_ok B hB l hl f hf x
theorem Check_at (n : Int) (h : checkFacts l.xs f.xs = n) : Fn Try.prog 16 [l.val, f.val] B (fun v _ => v = .int .i64 n) := h ▸ BCheck_ok B hB l hl f hf
theorem Add_at (r : List Fct × Bool × Int) (h : addOf l.xs f.xs x = r) : Fn Try.prog 18 [l.val, f.val, x.val] B (AddP r) := h ▸ Add_ok B hB l hl f hf x
include hg in
theorem Under_at (r : Bool × Int) (h : underOf l.xs f.xs g.xs = r) : Fn Try.prog 19 [l.val, f.val, g.val] B (fun v _ => v = vBE r) := h ▸ Under_ok B hB l hl f g hf hg
omit hl in
include hg in
theorem SameFacts_at (h : f.xs = g.xs) : Fn Try.prog 22 [f.val, g.val] B (fun v _ => v = .bool true) := by
  have := SameFacts_ok B hB f g hf hg
  rwa [decide_eq_true h] at this
end
theorem baseBegun_ok (B : Base) (hB : B.ok) : Fn Try.prog 15 [] B (fun v _ => v = .bool true) := by
  refine Fn.of Try.func15 rfl Try.ntmps15 (by kernel_rfl) (by simp) ?_
  intro e
  have I := Inv.start hB
  refine WP.seq ?_
  refine WP.region ?_
  refine Ops.y (v := .bool _) (Y.assign rfl) ?_
  refine Ops.nil ?_
  refine WP.seq ?_
  refine WP.region ?_
  refine Ops.go (O.call I Try.call31 (roads_ok _ I.base_ok) rfl ?_)
  rintro _ h1 w I le1 ⟨p, rfl, hp⟩
  refine Ops.y (v := .slice _ _ _) (Y.field fd_25_0 ty_22 rfl rfl rfl rfl) ?_
  refine Ops.y (v := .slice _ _ _) (Y.assign rfl) ?_
  refine Ops.nil ?_
  have hpp := hp.preds
  have hl := hp.is.preds
  generalize p.preds = l at hpp hl
  refine WP.seq ?_
  refine WP.region ?_
  refine Ops.y (v := .slice _ _ _) (Y.move rfl) ?_
  refine Ops.go (O.call I Try.call37 (paths_ok _ I.base_ok) rfl ?_)
  rintro _ h2 w I le2 ⟨s2, rfl, e2, i2⟩
  refine Ops.y (v := .agg #[.int .i64 _, .int .i64 _, .int .i64 _, .int .i64 _]) (Y.build pl_35 Try.zeroValue35 rfl rfl) ?_
  refine Ops.go (O.callv I Try.call13 (Find_at _ I.base_ok l (hl.le le2) s2 i2 ⟨1, 0, 1, 0⟩ (4, true, 0) (by rw [hpp, e2]; kernel_rfl)) rfl ?_)
  intro w I
  refine Ops.y (v := .tuple #[_, _, _]) (Y.move rfl) ?_
  refine Ops.y (v := .int .i64 _) (Y.extract rfl rfl) ?_
  refine Ops.y (v := .bool _) (Y.extract rfl rfl) ?_
  refine Ops.y (v := .int .i64 _) (Y.extract rfl rfl) ?_
  refine Ops.y (v := .int .i64 _) (Y.assign rfl) ?_
  refine Ops.y (v := .bool _) (Y.assign rfl) ?_
  refine Ops.y (v := .int .i64 _) (Y.assign rfl) ?_
  refine Ops.nil ?_
  have hl := hl.le le2
  refine WP.seq ?_
  refine WP.region ?_
  refine Ops.y (v := .slice _ _ _) (Y.move rfl) ?_
  refine Ops.go (O.call I Try.call37 (paths_ok _ I.base_ok) rfl ?_)
  rintro _ h3 w I le3 ⟨s3, rfl, e3, i3⟩
  refine Ops.y (v := .agg #[.int .i64 _, .int .i64 _, .int .i64 _, .int .i64 _]) (Y.build pl_35 Try.zeroValue35 rfl rfl) ?_
  refine Ops.go (O.call I Try.call18 (Add_at _ I.base_ok l (hl.le le3) s3 i3 ⟨1, 0, 1, 2⟩ ([⟨0, 0, 1, 0⟩, ⟨0, 1, 2, 0⟩, ⟨1, 0, 1, 2⟩], true, 0) (by rw [hpp, e3]; kernel_rfl)) rfl ?_)
  rintro _ h4 w I le4 ⟨s4, rfl, e4, i4⟩
  refine Ops.y (v := .tuple #[_, _, _]) (Y.move rfl) ?_
  refine Ops.y (v := .slice _ _ _) (Y.extract rfl rfl) ?_
  refine Ops.y (v := .bool _) (Y.extract rfl rfl) ?_
  refine Ops.y (v := .int .i64 _) (Y.extract rfl rfl) ?_
  refine Ops.y (v := .slice _ _ _) (Y.assign rfl) ?_
  refine Ops.y (v := .bool _) (Y.assign rfl) ?_
  refine Ops.y (v := .int .i64 _) (Y.assign rfl) ?_
  refine Ops.nil ?_
  have hl := (hl.le le3).le le4
  refine WP.seq ?_
  refine WP.region ?_
  refine Ops.y (v := .slice _ _ _) (Y.move rfl) ?_
  refine Ops.go (O.call I Try.call37 (paths_ok _ I.base_ok) rfl ?_)
  rintro _ h5 w I le5 ⟨s5, rfl, e5, i5⟩
  refine Ops.y (v := .agg #[.int .i64 _, .int .i64 _, .int .i64 _, .int .i64 _]) (Y.build pl_35 Try.zeroValue35 rfl rfl) ?_
  refine Ops.go (O.call I Try.call18 (Add_at _ I.base_ok l (hl.le le5) s5 i5 ⟨1, 0, 1, 9⟩ (pathsC, false, 0) (by rw [hpp, e5]; kernel_rfl)) rfl ?_)
  rintro _ h6 w I le6 ⟨s6, rfl, e6, i6⟩
  refine Ops.y (v := .tuple #[_, _, _]) (Y.move rfl) ?_
  refine Ops.y (v := .slice _ _ _) (Y.extract rfl rfl) ?_
  refine Ops.y (v := .bool _) (Y.extract rfl rfl) ?_
  refine Ops.y (v := .int .i64 _) (Y.extract rfl rfl) ?_
  refine Ops.y (v := .slice _ _ _) (Y.assign rfl) ?_
  refine Ops.y (v := .bool _) (Y.assign rfl) ?_
  refine Ops.y (v := .int .i64 _) (Y.assign rfl) ?_
  refine Ops.nil ?_
  have hl := (hl.le le5).le le6
  have i4 := (i4.le le5).le le6
  refine WP.seq ?_
  refine WP.region ?_
  refine Ops.y (v := .slice _ _ _) (Y.move rfl) ?_
  refine Ops.go (O.call I Try.call37 (paths_ok _ I.base_ok) rfl ?_)
  rintro _ h7 w I le7 ⟨s7, rfl, e7, i7⟩
  refine Ops.y (v := .slice _ _ _) (Y.move rfl) ?_
  refine Ops.go (O.callv I Try.call19 (Under_at _ I.base_ok l (hl.le le7) s7 s4 i7 (i4.le le7) (true, 0) (by rw [hpp, e7, e4]; kernel_rfl)) rfl ?_)
  intro w I
  refine Ops.y (v := .tuple #[_, _]) (Y.move rfl) ?_
  refine Ops.y (v := .bool _) (Y.extract rfl rfl) ?_
  refine Ops.y (v := .int .i64 _) (Y.extract rfl rfl) ?_
  refine Ops.y (v := .bool _) (Y.assign rfl) ?_
  refine Ops.y (v := .int .i64 _) (Y.assign rfl) ?_
  refine Ops.nil ?_
  have hl := hl.le le7
  have i4 := i4.le le7
  refine WP.seq ?_
  refine WP.region ?_
  refine Ops.y (v := .slice _ _ _) (Y.move rfl) ?_
  refine Ops.y (v := .slice _ _ _) (Y.move rfl) ?_
  refine Ops.go (O.call I Try.call37 (paths_ok _ I.base_ok) rfl ?_)
  rintro _ h8 w I le8 ⟨s8, rfl, e8, i8⟩
  refine Ops.go (O.callv I Try.call19 (Under_at _ I.base_ok l (hl.le le8) s4 s8 (i4.le le8) i8 (false, 0) (by rw [hpp, e8, e4]; kernel_rfl)) rfl ?_)
  intro w I
  refine Ops.y (v := .tuple #[_, _]) (Y.move rfl) ?_
  refine Ops.y (v := .bool _) (Y.extract rfl rfl) ?_
  refine Ops.y (v := .int .i64 _) (Y.extract rfl rfl) ?_
  refine Ops.y (v := .bool _) (Y.assign rfl) ?_
  refine Ops.y (v := .int .i64 _) (Y.assign rfl) ?_
  refine Ops.nil ?_
  have hl := hl.le le8
  have i4 := i4.le le8
  refine WP.seq ?_
  refine WP.region ?_
  refine Ops.y (v := .slice _ _ _) (Y.move rfl) ?_
  refine Ops.go (O.call I Try.call37 (paths_ok _ I.base_ok) rfl ?_)
  rintro _ h9 w I le9 ⟨s9, rfl, e9, i9⟩
  refine Ops.y (v := .agg #[.int .i64 _, .int .i64 _, .int .i64 _, .int .i64 _]) (Y.build pl_35 Try.zeroValue35 rfl rfl) ?_
  refine Ops.go (O.call I Try.call18 (Add_at _ I.base_ok l (hl.le le9) s9 i9 ⟨2, 0, 1, 0⟩ ([], false, 1) (by rw [hpp, e9]; kernel_rfl)) rfl ?_)
  rintro _ h10 w I le10 ⟨s10, rfl, e10, i10⟩
  refine Ops.y (v := .tuple #[_, _, _]) (Y.move rfl) ?_
  refine Ops.y (v := .slice _ _ _) (Y.extract rfl rfl) ?_
  refine Ops.y (v := .bool _) (Y.extract rfl rfl) ?_
  refine Ops.y (v := .int .i64 _) (Y.extract rfl rfl) ?_
  refine Ops.y (v := .slice _ _ _) (Y.assign rfl) ?_
  refine Ops.y (v := .bool _) (Y.assign rfl) ?_
  refine Ops.y (v := .int .i64 _) (Y.assign rfl) ?_
  refine Ops.nil ?_
  have hl := (hl.le le9).le le10
  have i4 := (i4.le le9).le le10
  have n4 : s4.xs.length = 3 := by rw [e4]; rfl
  have g4 : s4.xs[2]? = some ⟨1, 0, 1, 2⟩ := by rw [e4]; rfl
  have E4 := i4.el.el g4
  refine WP.seq ?_
  refine WP.region ?_
  refine Ops.y (v := .int .i64 _) (Y.move rfl) ?_
  refine Ops.y (v := .bool true) (Y.dec_t (Y.eqi rfl rfl) (rfl)) ?_
  refine Ops.y (v := .bool _) (Y.move rfl) ?_
  refine Ops.ygt rfl (v := .int .i64 _) (Y.move rfl) ?_
  refine Ops.ygt rfl (v := .bool true) (Y.dec_t (Y.eqi rfl rfl) (rfl)) ?_
  refine Ops.y (v := .bool _) (Y.pick_t rfl rfl) ?_
  refine Ops.y (v := .bool _) (Y.move rfl) ?_
  refine Ops.ygt rfl (v := .int .i64 _) (Y.move rfl) ?_
  refine Ops.ygt rfl (v := .bool true) (Y.dec_t (Y.eqi rfl rfl) (rfl)) ?_
  refine Ops.y (v := .bool _) (Y.pick_t rfl rfl) ?_
  refine Ops.y (v := .bool _) (Y.move rfl) ?_
  refine Ops.ygt rfl (v := .int .i64 _) (Y.move rfl) ?_
  refine Ops.ygt rfl (v := .bool true) (Y.dec_t (Y.eqi rfl rfl) (rfl)) ?_
  refine Ops.y (v := .bool _) (Y.pick_t rfl rfl) ?_
  refine Ops.y (v := .bool _) (Y.move rfl) ?_
  refine Ops.ygt rfl (v := .int .i64 _) (Y.move rfl) ?_
  refine Ops.ygt rfl (v := .bool true) (Y.dec_t (Y.eqi rfl rfl) (rfl)) ?_
  refine Ops.y (v := .bool _) (Y.pick_t rfl rfl) ?_
  refine Ops.y (v := .bool _) (Y.move rfl) ?_
  refine Ops.ygt rfl (v := .int .i64 _) (Y.move rfl) ?_
  refine Ops.ygt rfl (v := .bool true) (Y.dec_t (Y.eqi rfl rfl) (rfl)) ?_
  refine Ops.y (v := .bool _) (Y.pick_t rfl rfl) ?_
  refine Ops.y (v := .bool _) (Y.move rfl) ?_
  refine Ops.ygt rfl (v := .slice _ _ _) (Y.move rfl) ?_
  refine Ops.gt rfl (O.call I Try.call37 (paths_ok _ I.base_ok) rfl ?_)
  rintro _ h11 w I le11 ⟨s11, rfl, e11, i11⟩
  refine Ops.gt rfl (O.callv I Try.call16 (Check_at _ I.base_ok l (hl.le le11) s11 i11 0 (by rw [hpp, e11]; kernel_rfl)) rfl ?_)
  intro w I
  refine Ops.ygt rfl (v := .bool true) (Y.dec_t (Y.eqi rfl rfl) (rfl)) ?_
  refine Ops.y (v := .bool _) (Y.pick_t rfl rfl) ?_
  refine Ops.y (v := .bool _) (Y.move rfl) ?_
  refine Ops.ygt rfl (v := .int .i64 _) (Y.move rfl) ?_
  refine Ops.ygt rfl (v := .bool true) (Y.dec_t (Y.eqi rfl rfl) (rfl)) ?_
  refine Ops.y (v := .bool _) (Y.pick_t rfl rfl) ?_
  refine Ops.y (v := .bool _) (Y.move rfl) ?_
  refine Ops.ygt rfl (v := .bool _) (Y.move rfl) ?_
  refine Ops.y (v := .bool _) (Y.pick_t rfl rfl) ?_
  refine Ops.y (v := .bool _) (Y.move rfl) ?_
  refine Ops.ygt rfl (v := .bool _) (Y.move rfl) ?_
  refine Ops.y (v := .bool _) (Y.pick_t rfl rfl) ?_
  refine Ops.y (v := .bool _) (Y.move rfl) ?_
  refine Ops.ygt rfl (v := .bool _) (Y.move rfl) ?_
  refine Ops.ygt rfl (v := .bool true) (Y.not (b := false) rfl) ?_
  refine Ops.y (v := .bool _) (Y.pick_t rfl rfl) ?_
  refine Ops.y (v := .bool _) (Y.move rfl) ?_
  refine Ops.ygt rfl (v := .slice _ _ _) (Y.move rfl) ?_
  refine Ops.ygt rfl (v := .int .i64 _) (Y.lens Try.underlying33 rfl) ?_
  refine Ops.ygt rfl (v := .bool true) (Y.dec_t (Y.eqi rfl rfl) ((by rw [n4]; rfl))) ?_
  refine Ops.y (v := .bool _) (Y.pick_t rfl rfl) ?_
  refine Ops.y (v := .bool _) (Y.move rfl) ?_
  refine Ops.ygt rfl (v := .slice _ _ _) (Y.move rfl) ?_
  refine Ops.ygt rfl (v := .pointer (some ⟨_, _, none⟩)) (Y.idxEl E4 Try.underlying33 Try.sizeOf35 rfl rfl (by decide) rfl) ?_
  refine Ops.ygt rfl (v := .pointer (some ⟨_, _, none⟩)) (Y.fa fa_35_3 rfl) ?_
  have E4 := E4.le le11
  refine Ops.ygt rfl (v := .int .i64 _) (Y.loadv ty_3 rfl (I.rd (E4.rd.part 3 1)) rfl rfl) ?_
  refine Ops.ygt rfl (v := .bool true) (Y.dec_t (Y.eqi rfl rfl) (rfl)) ?_
  refine Ops.y (v := .bool _) (Y.pick_t rfl rfl) ?_
  refine Ops.y (v := .bool _) (Y.move rfl) ?_
  refine Ops.ygt rfl (v := .bool _) (Y.move rfl) ?_
  refine Ops.y (v := .bool _) (Y.pick_t rfl rfl) ?_
  refine Ops.y (v := .bool _) (Y.move rfl) ?_
  refine Ops.ygt rfl (v := .bool _) (Y.move rfl) ?_
  refine Ops.ygt rfl (v := .bool true) (Y.not (b := false) rfl) ?_
  refine Ops.y (v := .bool _) (Y.pick_t rfl rfl) ?_
  refine Ops.y (v := .bool _) (Y.assign rfl) ?_
  refine Ops.nil ?_
  refine WP.ret ?_
  repeat (first | refine thenE_ret ?_ | refine blockE_ret ?_)
  exact retQ.mk (vs := [.bool _]) rfl ⟨rfl, trivial⟩ I.ext_of (rfl)
theorem BaseTells_ok (B : Base) (hB : B.ok) (l : Sl Prd) (hl : Prds l B.h) (f : Sl Fct) (hf : Fcts f B.h) (x : Fct) : Fn Try.prog 4 [l.val, f.val, x.val] B (fun v _ => v = .bool true) := by
  refine Fn.of Try.func4 rfl Try.ntmps4 (by kernel_rfl) (by simp) ?_
  intro e
  have I := Inv.start hB
  refine WP.seq ?_
  refine WP.region ?_
  refine Ops.go (O.box (v := .agg #[_, _, _, _]) I rfl rfl ?_)
  intro b5 w I
  refine Ops.y (v := .bool _) (Y.assign rfl) ?_
  refine Ops.nil ?_
  refine WP.seq ?_
  refine WP.region ?_
  refine Ops.y (v := .slice _ _ _) (Y.move rfl) ?_
  refine Ops.y (v := .slice _ _ _) (Y.move rfl) ?_
  refine Ops.y (v := .agg #[_, _, _, _]) (Y.loadv ty_35 rfl (I.rdbox 0 rfl 0 4) rfl rfl) ?_
  refine Ops.go (O.callv I Try.call13 (Find_ok _ I.base_ok l hl f hf x) rfl ?_)
  intro w I
  refine Ops.y (v := .tuple #[_, _, _]) (Y.move rfl) ?_
  refine Ops.y (v := .int .i64 _) (Y.extract rfl rfl) ?_
  refine Ops.y (v := .bool _) (Y.extract rfl rfl) ?_
  refine Ops.y (v := .int .i64 _) (Y.extract rfl rfl) ?_
  refine Ops.y (v := .int .i64 _) (Y.assign rfl) ?_
  refine Ops.y (v := .bool _) (Y.assign rfl) ?_
  refine Ops.y (v := .int .i64 _) (Y.assign rfl) ?_
  refine Ops.nil ?_
  refine WP.seq ?_
  refine WP.region ?_
  refine Ops.y (v := .slice _ _ _) (Y.move rfl) ?_
  refine Ops.y (v := .slice _ _ _) (Y.move rfl) ?_
  refine Ops.y (v := .agg #[_, _, _, _]) (Y.loadv ty_35 rfl (I.rdbox 0 rfl 0 4) rfl rfl) ?_
  refine Ops.go (O.callv I Try.call14 (FindOf_ok _ I.base_ok l hl f hf x) rfl ?_)
  intro w I
  refine Ops.y (v := .tuple #[_, _, _]) (Y.move rfl) ?_
  refine Ops.y (v := .int .i64 _) (Y.extract rfl rfl) ?_
  refine Ops.y (v := .bool _) (Y.extract rfl rfl) ?_
  refine Ops.y (v := .int .i64 _) (Y.extract rfl rfl) ?_
  refine Ops.y (v := .int .i64 _) (Y.assign rfl) ?_
  refine Ops.y (v := .bool _) (Y.assign rfl) ?_
  refine Ops.y (v := .int .i64 _) (Y.assign rfl) ?_
  refine Ops.nil ?_
  refine WP.seq ?_
  refine WP.region ?_
  refine Ops.go (O.callv I Try.call15 (baseBegun_ok _ I.base_ok) rfl ?_)
  intro w I
  refine Ops.y (v := .bool _) (Y.move rfl) ?_
  refine Ops.ygt rfl (v := .slice _ _ _) (Y.move rfl) ?_
  refine Ops.ygt rfl (v := .slice _ _ _) (Y.move rfl) ?_
  refine Ops.gt rfl (O.callv I Try.call16 (BCheck_ok _ I.base_ok l hl f hf) rfl ?_)
  intro w I
  refine Ops.ygt rfl (v := .slice _ _ _) (Y.move rfl) ?_
  refine Ops.ygt rfl (v := .slice _ _ _) (Y.move rfl) ?_
  refine Ops.gt rfl (O.callv I Try.call17 (RCheckFacts_ok _ I.base_ok l hl f hf) rfl ?_)
  intro w I
  refine Ops.ygt rfl (v := .bool true) (Y.dec_t (Y.eqi rfl rfl) (rfl)) ?_
  refine Ops.y (v := .bool _) (Y.pick_t rfl rfl) ?_
  refine Ops.y (v := .bool _) (Y.move rfl) ?_
  refine Ops.ygt rfl (v := .int .i64 _) (Y.move rfl) ?_
  refine Ops.ygt rfl (v := .int .i64 _) (Y.move rfl) ?_
  refine Ops.ygt rfl (v := .bool true) (Y.dec_t (Y.eqi rfl rfl) (rfl)) ?_
  refine Ops.y (v := .bool _) (Y.pick_t rfl rfl) ?_
  refine Ops.y (v := .bool _) (Y.move rfl) ?_
  refine Ops.ygt rfl (v := .bool _) (Y.move rfl) ?_
  refine Ops.ygt rfl (v := .bool _) (Y.move rfl) ?_
  refine Ops.ygt rfl (v := .bool true) (Y.dec_t (Y.eqb Try.underlying4 rfl rfl) (rfl)) ?_
  refine Ops.y (v := .bool _) (Y.pick_t rfl rfl) ?_
  refine Ops.y (v := .bool _) (Y.move rfl) ?_
  refine Ops.ygt rfl (v := .int .i64 _) (Y.move rfl) ?_
  refine Ops.ygt rfl (v := .int .i64 _) (Y.move rfl) ?_
  refine Ops.ygt rfl (v := .bool true) (Y.dec_t (Y.eqi rfl rfl) (rfl)) ?_
  refine Ops.y (v := .bool _) (Y.pick_t rfl rfl) ?_
  refine Ops.y (v := .bool _) (Y.assign rfl) ?_
  refine Ops.nil ?_
  refine WP.ret ?_
  repeat (first | refine thenE_ret ?_ | refine blockE_ret ?_)
  exact retQ.mk (vs := [.bool _]) rfl ⟨rfl, trivial⟩ I.ext_of (rfl)
theorem BaseAdds_ok (B : Base) (hB : B.ok) (l : Sl Prd) (hl : Prds l B.h) (f g : Sl Fct) (hf : Fcts f B.h) (hg : Fcts g B.h) (x : Fct) : Fn Try.prog 5 [l.val, f.val, g.val, x.val] B (fun v _ => v = .bool true) := by
  refine Fn.of Try.func5 rfl Try.ntmps5 (by kernel_rfl) (by simp) ?_
  intro e
  have I := Inv.start hB
  refine WP.seq ?_
  refine WP.region ?_
  refine Ops.go (O.box (v := .agg #[_, _, _, _]) I rfl rfl ?_)
  intro b7 w I
  refine Ops.y (v := .bool _) (Y.assign rfl) ?_
  refine Ops.nil ?_
  refine WP.seq ?_
  refine WP.region ?_
  refine Ops.y (v := .slice _ _ _) (Y.move rfl) ?_
  refine Ops.y (v := .slice _ _ _) (Y.move rfl) ?_
  refine Ops.y (v := .agg #[_, _, _, _]) (Y.loadv ty_35 rfl (I.rdbox 0 rfl 0 4) rfl rfl) ?_
  refine Ops.go (O.call I Try.call18 (Add_ok _ I.base_ok l hl f hf x) rfl ?_)
  rintro _ h1 w I le1 ⟨s1, rfl, e1, i1⟩
  refine Ops.y (v := .tuple #[_, _, _]) (Y.move rfl) ?_
  refine Ops.y (v := .slice _ _ _) (Y.extract rfl rfl) ?_
  refine Ops.y (v := .bool _) (Y.extract rfl rfl) ?_
  refine Ops.y (v := .int .i64 _) (Y.extract rfl rfl) ?_
  refine Ops.y (v := .slice _ _ _) (Y.assign rfl) ?_
  refine Ops.y (v := .bool _) (Y.assign rfl) ?_
  refine Ops.y (v := .int .i64 _) (Y.assign rfl) ?_
  refine Ops.nil ?_
  have hl := hl.le le1
  have hf := hf.le le1
  have hg := hg.le le1
  refine WP.seq ?_
  refine WP.region ?_
  refine Ops.y (v := .slice _ _ _) (Y.move rfl) ?_
  refine Ops.y (v := .slice _ _ _) (Y.move rfl) ?_
  refine Ops.y (v := .slice _ _ _) (Y.move rfl) ?_
  refine Ops.go (O.callv I Try.call19 (Under_ok _ I.base_ok l hl f g hf hg) rfl ?_)
  intro w I
  refine Ops.y (v := .tuple #[_, _]) (Y.move rfl) ?_
  refine Ops.y (v := .bool _) (Y.extract rfl rfl) ?_
  refine Ops.y (v := .int .i64 _) (Y.extract rfl rfl) ?_
  refine Ops.y (v := .bool _) (Y.assign rfl) ?_
  refine Ops.y (v := .int .i64 _) (Y.assign rfl) ?_
  refine Ops.nil ?_
  refine WP.seq ?_
  refine WP.region ?_
  refine Ops.y (v := .slice _ _ _) (Y.move rfl) ?_
  refine Ops.y (v := .slice _ _ _) (Y.move rfl) ?_
  refine Ops.y (v := .agg #[_, _, _, _]) (Y.loadv ty_35 rfl (I.rdbox 0 rfl 0 4) rfl rfl) ?_
  refine Ops.go (O.call I Try.call20 (AddOf_ok _ I.base_ok l hl f hf x) rfl ?_)
  rintro _ h3 w I le3 ⟨s3, rfl, e3, i3⟩
  refine Ops.y (v := .tuple #[_, _, _]) (Y.move rfl) ?_
  refine Ops.y (v := .slice _ _ _) (Y.extract rfl rfl) ?_
  refine Ops.y (v := .bool _) (Y.extract rfl rfl) ?_
  refine Ops.y (v := .int .i64 _) (Y.extract rfl rfl) ?_
  refine Ops.y (v := .slice _ _ _) (Y.assign rfl) ?_
  refine Ops.y (v := .bool _) (Y.assign rfl) ?_
  refine Ops.y (v := .int .i64 _) (Y.assign rfl) ?_
  refine Ops.nil ?_
  have hl := hl.le le3
  have hf := hf.le le3
  have hg := hg.le le3
  refine WP.seq ?_
  refine WP.region ?_
  refine Ops.y (v := .slice _ _ _) (Y.move rfl) ?_
  refine Ops.y (v := .slice _ _ _) (Y.move rfl) ?_
  refine Ops.y (v := .slice _ _ _) (Y.move rfl) ?_
  refine Ops.go (O.callv I Try.call21 (UnderOf_ok _ I.base_ok l hl f g hf hg) rfl ?_)
  intro w I
  refine Ops.y (v := .tuple #[_, _]) (Y.move rfl) ?_
  refine Ops.y (v := .bool _) (Y.extract rfl rfl) ?_
  refine Ops.y (v := .int .i64 _) (Y.extract rfl rfl) ?_
  refine Ops.y (v := .bool _) (Y.assign rfl) ?_
  refine Ops.y (v := .int .i64 _) (Y.assign rfl) ?_
  refine Ops.nil ?_
  refine WP.seq ?_
  refine WP.region ?_
  refine Ops.go (O.callv I Try.call15 (baseBegun_ok _ I.base_ok) rfl ?_)
  intro w I
  refine Ops.y (v := .bool _) (Y.move rfl) ?_
  refine Ops.ygt rfl (v := .slice _ _ _) (Y.move rfl) ?_
  refine Ops.ygt rfl (v := .slice _ _ _) (Y.move rfl) ?_
  refine Ops.gt rfl (O.callv I Try.call22 (SameFacts_at _ I.base_ok s1 s3 (i1.le le3) i3 (e1.trans e3.symm)) rfl ?_)
  intro w I
  refine Ops.y (v := .bool _) (Y.pick_t rfl rfl) ?_
  refine Ops.y (v := .bool _) (Y.move rfl) ?_
  refine Ops.ygt rfl (v := .bool _) (Y.move rfl) ?_
  refine Ops.ygt rfl (v := .bool _) (Y.move rfl) ?_
  refine Ops.ygt rfl (v := .bool true) (Y.dec_t (Y.eqb Try.underlying4 rfl rfl) (rfl)) ?_
  refine Ops.y (v := .bool _) (Y.pick_t rfl rfl) ?_
  refine Ops.y (v := .bool _) (Y.move rfl) ?_
  refine Ops.ygt rfl (v := .int .i64 _) (Y.move rfl) ?_
  refine Ops.ygt rfl (v := .int .i64 _) (Y.move rfl) ?_
  refine Ops.ygt rfl (v := .bool true) (Y.dec_t (Y.eqi rfl rfl) (rfl)) ?_
  refine Ops.y (v := .bool _) (Y.pick_t rfl rfl) ?_
  refine Ops.y (v := .bool _) (Y.move rfl) ?_
  refine Ops.ygt rfl (v := .bool _) (Y.move rfl) ?_
  refine Ops.ygt rfl (v := .bool _) (Y.move rfl) ?_
  refine Ops.ygt rfl (v := .bool true) (Y.dec_t (Y.eqb Try.underlying4 rfl rfl) (rfl)) ?_
  refine Ops.y (v := .bool _) (Y.pick_t rfl rfl) ?_
  refine Ops.y (v := .bool _) (Y.move rfl) ?_
  refine Ops.ygt rfl (v := .int .i64 _) (Y.move rfl) ?_
  refine Ops.ygt rfl (v := .int .i64 _) (Y.move rfl) ?_
  refine Ops.ygt rfl (v := .bool true) (Y.dec_t (Y.eqi rfl rfl) (rfl)) ?_
  refine Ops.y (v := .bool _) (Y.pick_t rfl rfl) ?_
  refine Ops.y (v := .bool _) (Y.assign rfl) ?_
  refine Ops.nil ?_
  refine WP.ret ?_
  repeat (first | refine thenE_ret ?_ | refine blockE_ret ?_)
  exact retQ.mk (vs := [.bool _]) rfl ⟨rfl, trivial⟩ I.ext_of (rfl)
theorem addOf_ok {l : List Prd} {f : List Fct} {x : Fct} (h : ¬ (addOf l f x).2.2 ≠ 0) : FOk l f ∧ factFine l x = true ∧ addOf l f x = (addL l f x, decide (addL l f x ≠ f), 0) := by
  have h := Decidable.not_not.1 h
  unfold addOf at h ⊢
  split at h
  · rename_i hc; exact absurd h hc
  · rename_i hc
    split at h
    · rename_i hx
      have ok := checkFacts_ok.1 (Decidable.not_not.1 hc)
      exact ⟨ok, hx, by rw [if_neg hc, if_pos hx, add_chg ok]⟩
    · cases h
theorem addOf_of {l : List Prd} {f : List Fct} {x : Fct} (ok : FOk l f) (hx : factFine l x = true) : addOf l f x = (addL l f x, decide (addL l f x ≠ f), 0) := by
  unfold addOf
  rw [if_neg (by simp [checkFacts_ok.2 ok]), if_pos hx, add_chg ok]
theorem underOf_of {l : List Prd} {f g : List Fct} (okf : FOk l f) (okg : FOk l g) : underOf l f g = (underF l f g, 0) := by
  unfold underOf
  rw [if_neg (by simp [checkFacts_ok.2 okf]), if_neg (by simp [checkFacts_ok.2 okg])]
theorem addL_again {l : List Prd} {f : List Fct} {x : Fct} (ok : FOk l f) (hx : factFine l x = true) : addL l (addL l f x) x = addL l f x := by
  show (addF _ (addL l f x) x).1 = _
  rw [add_again ok hx]
set_option maxHeartbeats 4000000 in
theorem BaseTrue_ok (B : Base) (hB : B.ok) (l : Sl Prd) (hl : Prds l B.h) (f g : Sl Fct) (hf : Fcts f B.h) (hg : Fcts g B.h) (x y : Fct) : Fn Try.prog 6 [l.val, f.val, g.val, x.val, y.val] B (fun v _ => v = .bool true) := by
  refine Fn.of Try.func6 rfl Try.ntmps6 (by kernel_rfl) (by simp) ?_
  intro e
  have I := Inv.start hB
  refine WP.seq ?_
  refine WP.region ?_
  refine Ops.go (O.box (v := .agg #[_, _, _, _]) I rfl rfl ?_)
  intro b8 w I
  refine Ops.go (O.box (v := .agg #[_, _, _, _]) I rfl rfl ?_)
  intro b9 w I
  refine Ops.y (v := .bool _) (Y.assign rfl) ?_
  refine Ops.nil ?_
  refine WP.seq ?_
  refine WP.region ?_
  refine Ops.y (v := .slice _ _ _) (Y.move rfl) ?_
  refine Ops.y (v := .slice _ _ _) (Y.move rfl) ?_
  refine Ops.y (v := .agg #[_, _, _, _]) (Y.loadv ty_35 rfl (I.rdbox 1 rfl 0 4) rfl rfl) ?_
  refine Ops.go (O.call I Try.call18 (Add_ok _ I.base_ok l hl f hf x) rfl ?_)
  rintro _ h1 w I le1 ⟨s1, rfl, e1, i1⟩
  refine Ops.y (v := .tuple #[_, _, _]) (Y.move rfl) ?_
  refine Ops.y (v := .slice _ _ _) (Y.extract rfl rfl) ?_
  refine Ops.y (v := .bool _) (Y.extract rfl rfl) ?_
  refine Ops.y (v := .int .i64 _) (Y.extract rfl rfl) ?_
  refine Ops.y (v := .slice _ _ _) (Y.assign rfl) ?_
  refine Ops.y (v := .bool _) (Y.assign rfl) ?_
  refine Ops.y (v := .int .i64 _) (Y.assign rfl) ?_
  refine Ops.nil ?_
  have hl := hl.le le1
  have hf := hf.le le1
  have hg := hg.le le1
  refine WP.seq ?_
  refine WP.region ?_
  refine Ops.y (v := .slice _ _ _) (Y.move rfl) ?_
  refine Ops.y (v := .slice _ _ _) (Y.move rfl) ?_
  refine Ops.y (v := .agg #[_, _, _, _]) (Y.loadv ty_35 rfl (I.rdbox 0 rfl 0 4) rfl rfl) ?_
  refine Ops.go (O.call I Try.call18 (Add_ok _ I.base_ok l hl f hf y) rfl ?_)
  rintro _ h2 w I le2 ⟨s2, rfl, e2, i2⟩
  refine Ops.y (v := .tuple #[_, _, _]) (Y.move rfl) ?_
  refine Ops.y (v := .slice _ _ _) (Y.extract rfl rfl) ?_
  refine Ops.y (v := .bool _) (Y.extract rfl rfl) ?_
  refine Ops.y (v := .int .i64 _) (Y.extract rfl rfl) ?_
  refine Ops.y (v := .slice _ _ _) (Y.assign rfl) ?_
  refine Ops.y (v := .bool _) (Y.assign rfl) ?_
  refine Ops.y (v := .int .i64 _) (Y.assign rfl) ?_
  refine Ops.nil ?_
  have hl := hl.le le2
  have hf := hf.le le2
  have hg := hg.le le2
  have i1 := i1.le le2
  by_cases o1 : (addOf l.xs f.xs x).2.2 ≠ 0
  · refine WP.seq ?_
    refine WP.seq ?_
    refine WP.region ?_
    refine Ops.y (v := .int .i64 _) (Y.move rfl) ?_
    refine Ops.y (v := .bool true) (Y.dec_t (Y.nei rfl rfl) (o1)) ?_
    refine Ops.y (v := .bool _) (Y.move rfl) ?_
    refine Ops.gf rfl ?_
    refine Ops.gf rfl ?_
    refine Ops.y (v := .bool _) (Y.pick_t rfl rfl) ?_
    refine Ops.nil ?_
    refine WP.cond_t rfl ?_
    refine WP.seq ?_
    refine WP.region ?_
    refine Ops.go (O.callv I Try.call15 (baseBegun_ok _ I.base_ok) rfl ?_)
    intro w I
    refine Ops.y (v := .bool _) (Y.assign rfl) ?_
    refine Ops.nil ?_
    refine WP.ret ?_
    repeat (first | refine thenE_ret ?_ | refine blockE_ret ?_)
    exact retQ.mk (vs := [.bool _]) rfl ⟨rfl, trivial⟩ I.ext_of (rfl)
  by_cases o2 : (addOf l.xs f.xs y).2.2 ≠ 0
  · refine WP.seq ?_
    refine WP.seq ?_
    refine WP.region ?_
    refine Ops.y (v := .int .i64 _) (Y.move rfl) ?_
    refine Ops.y (v := .bool false) (Y.dec_f (Y.nei rfl rfl) (o1)) ?_
    refine Ops.y (v := .bool _) (Y.move rfl) ?_
    refine Ops.ygt rfl (v := .int .i64 _) (Y.move rfl) ?_
    refine Ops.ygt rfl (v := .bool true) (Y.dec_t (Y.nei rfl rfl) (o2)) ?_
    refine Ops.y (v := .bool _) (Y.pick_f rfl rfl) ?_
    refine Ops.nil ?_
    refine WP.cond_t rfl ?_
    refine WP.seq ?_
    refine WP.region ?_
    refine Ops.go (O.callv I Try.call15 (baseBegun_ok _ I.base_ok) rfl ?_)
    intro w I
    refine Ops.y (v := .bool _) (Y.assign rfl) ?_
    refine Ops.nil ?_
    refine WP.ret ?_
    repeat (first | refine thenE_ret ?_ | refine blockE_ret ?_)
    exact retQ.mk (vs := [.bool _]) rfl ⟨rfl, trivial⟩ I.ext_of (rfl)
  refine WP.seq ?_
  refine WP.seq ?_
  refine WP.region ?_
  refine Ops.y (v := .int .i64 _) (Y.move rfl) ?_
  refine Ops.y (v := .bool false) (Y.dec_f (Y.nei rfl rfl) (o1)) ?_
  refine Ops.y (v := .bool _) (Y.move rfl) ?_
  refine Ops.ygt rfl (v := .int .i64 _) (Y.move rfl) ?_
  refine Ops.ygt rfl (v := .bool false) (Y.dec_f (Y.nei rfl rfl) (o2)) ?_
  refine Ops.y (v := .bool _) (Y.pick_f rfl rfl) ?_
  refine Ops.nil ?_
  refine WP.cond_f rfl ?_
  obtain ⟨ok, hx, ex⟩ := addOf_ok o1
  obtain ⟨_, hy, ey⟩ := addOf_ok o2
  rw [ex] at e1
  rw [ey] at e2
  dsimp only at e1 e2
  have ok1 := addF_fok ok hx
  have ok2 := addF_fok ok hy
  refine WP.skip ?_
  refine WP.seq ?_
  refine WP.region ?_
  refine Ops.y (v := .slice _ _ _) (Y.move rfl) ?_
  refine Ops.y (v := .slice _ _ _) (Y.move rfl) ?_
  refine Ops.y (v := .agg #[_, _, _, _]) (Y.loadv ty_35 rfl (I.rdbox 1 rfl 0 4) rfl rfl) ?_
  refine Ops.go (O.call I Try.call18 (Add_at _ I.base_ok l hl s1 i1 x (addL l.xs f.xs x, false, 0) (by rw [e1, addOf_of ok1 hx, addL_again ok hx]; simp)) rfl ?_)
  rintro _ h5 w I le5 ⟨s5, rfl, e5, i5⟩
  refine Ops.y (v := .tuple #[_, _, _]) (Y.move rfl) ?_
  refine Ops.y (v := .slice _ _ _) (Y.extract rfl rfl) ?_
  refine Ops.y (v := .bool _) (Y.extract rfl rfl) ?_
  refine Ops.y (v := .int .i64 _) (Y.extract rfl rfl) ?_
  refine Ops.y (v := .slice _ _ _) (Y.assign rfl) ?_
  refine Ops.y (v := .bool _) (Y.assign rfl) ?_
  refine Ops.y (v := .int .i64 _) (Y.assign rfl) ?_
  refine Ops.nil ?_
  have hl := hl.le le5
  have hf := hf.le le5
  have hg := hg.le le5
  have i1 := i1.le le5
  have i2 := i2.le le5
  refine WP.seq ?_
  refine WP.region ?_
  refine Ops.y (v := .slice _ _ _) (Y.move rfl) ?_
  refine Ops.y (v := .slice _ _ _) (Y.move rfl) ?_
  refine Ops.y (v := .slice _ _ _) (Y.move rfl) ?_
  refine Ops.go (O.callv I Try.call19 (Under_at _ I.base_ok l hl f s1 hf i1 (true, 0) (by rw [e1, underOf_of ok ok1, under_add ok hx])) rfl ?_)
  intro w I
  refine Ops.y (v := .tuple #[_, _]) (Y.move rfl) ?_
  refine Ops.y (v := .bool _) (Y.extract rfl rfl) ?_
  refine Ops.y (v := .int .i64 _) (Y.extract rfl rfl) ?_
  refine Ops.y (v := .bool _) (Y.assign rfl) ?_
  refine Ops.y (v := .int .i64 _) (Y.assign rfl) ?_
  refine Ops.nil ?_
  refine WP.seq ?_
  refine WP.region ?_
  refine Ops.y (v := .slice _ _ _) (Y.move rfl) ?_
  refine Ops.y (v := .agg #[_, _, _, _]) (Y.loadv ty_35 rfl (I.rdbox 1 rfl 0 4) rfl rfl) ?_
  refine Ops.go (O.mksl (xs := [x]) (enc := Fct.enc) I Try.underlying33 Try.sizeOf35 Try.zeroValue35 rfl (Nat.le_of_ble_eq_true rfl) rfl rfl (by decide) (fun _ => rfl) ?_)
  intro b75 h75 w I le75 sl75
  refine Ops.y (v := .slice _ _ _) (Y.move rfl) ?_
  refine Ops.go (O.callv I Try.call19 (Under_at _ I.base_ok l (hl.le le75) ⟨some ⟨b75, 0, none⟩, 1, [x]⟩ s1 ⟨sl75, by simp⟩ (i1.le le75) (true, 0) (by rw [e1, underOf_of (fok_one ok.len ok.preds hx) ok1, under_one ok hx])) rfl ?_)
  intro w I
  refine Ops.y (v := .tuple #[_, _]) (Y.move rfl) ?_
  refine Ops.y (v := .bool _) (Y.extract rfl rfl) ?_
  refine Ops.y (v := .int .i64 _) (Y.extract rfl rfl) ?_
  refine Ops.y (v := .bool _) (Y.assign rfl) ?_
  refine Ops.y (v := .int .i64 _) (Y.assign rfl) ?_
  refine Ops.nil ?_
  have hl := hl.le le75
  have hf := hf.le le75
  have hg := hg.le le75
  have i1 := i1.le le75
  have i2 := i2.le le75
  have i5 := i5.le le75
  refine WP.seq ?_
  refine WP.region ?_
  refine Ops.y (v := .slice _ _ _) (Y.move rfl) ?_
  refine Ops.y (v := .slice _ _ _) (Y.move rfl) ?_
  refine Ops.y (v := .agg #[_, _, _, _]) (Y.loadv ty_35 rfl (I.rdbox 0 rfl 0 4) rfl rfl) ?_
  refine Ops.go (O.call I Try.call18 (Add_at _ I.base_ok l hl s1 i1 y (addL l.xs (addL l.xs f.xs x) y, _, 0) (by rw [e1]; exact addOf_of ok1 hy)) rfl ?_)
  rintro _ h8 w I le8 ⟨s8, rfl, e8, i8⟩
  refine Ops.y (v := .tuple #[_, _, _]) (Y.move rfl) ?_
  refine Ops.y (v := .slice _ _ _) (Y.extract rfl rfl) ?_
  refine Ops.y (v := .bool _) (Y.extract rfl rfl) ?_
  refine Ops.y (v := .int .i64 _) (Y.extract rfl rfl) ?_
  refine Ops.y (v := .slice _ _ _) (Y.assign rfl) ?_
  refine Ops.y (v := .bool _) (Y.assign rfl) ?_
  refine Ops.y (v := .int .i64 _) (Y.assign rfl) ?_
  refine Ops.nil ?_
  have hl := hl.le le8
  have hf := hf.le le8
  have hg := hg.le le8
  have i1 := i1.le le8
  have i2 := i2.le le8
  have i5 := i5.le le8
  refine WP.seq ?_
  refine WP.region ?_
  refine Ops.y (v := .slice _ _ _) (Y.move rfl) ?_
  refine Ops.y (v := .slice _ _ _) (Y.move rfl) ?_
  refine Ops.y (v := .agg #[_, _, _, _]) (Y.loadv ty_35 rfl (I.rdbox 1 rfl 0 4) rfl rfl) ?_
  refine Ops.go (O.call I Try.call18 (Add_at _ I.base_ok l hl s2 i2 x (addL l.xs (addL l.xs f.xs y) x, _, 0) (by rw [e2]; exact addOf_of ok2 hx)) rfl ?_)
  rintro _ h9 w I le9 ⟨s9, rfl, e9, i9⟩
  refine Ops.y (v := .tuple #[_, _, _]) (Y.move rfl) ?_
  refine Ops.y (v := .slice _ _ _) (Y.extract rfl rfl) ?_
  refine Ops.y (v := .bool _) (Y.extract rfl rfl) ?_
  refine Ops.y (v := .int .i64 _) (Y.extract rfl rfl) ?_
  refine Ops.y (v := .slice _ _ _) (Y.assign rfl) ?_
  refine Ops.y (v := .bool _) (Y.assign rfl) ?_
  refine Ops.y (v := .int .i64 _) (Y.assign rfl) ?_
  refine Ops.nil ?_
  have hl := hl.le le9
  have hf := hf.le le9
  have hg := hg.le le9
  have i1 := i1.le le9
  have i5 := i5.le le9
  have i8 := i8.le le9
  have ech : (addOf l.xs f.xs x).2.1 = decide (addL l.xs f.xs x ≠ f.xs) := by rw [ex]
  refine WP.seq ?_
  refine WP.seq ?_
  refine WP.region ?_
  refine Ops.y (v := .int .i64 _) (Y.move rfl) ?_
  refine Ops.y (v := .bool false) (Y.dec_f (Y.nei rfl rfl) ((fun h => h rfl))) ?_
  refine Ops.y (v := .bool _) (Y.move rfl) ?_
  refine Ops.ygt rfl (v := .int .i64 _) (Y.move rfl) ?_
  refine Ops.ygt rfl (v := .bool false) (Y.dec_f (Y.nei rfl rfl) ((fun h => h rfl))) ?_
  refine Ops.y (v := .bool _) (Y.pick_f rfl rfl) ?_
  refine Ops.y (v := .bool _) (Y.move rfl) ?_
  refine Ops.ygt rfl (v := .int .i64 _) (Y.move rfl) ?_
  refine Ops.ygt rfl (v := .bool false) (Y.dec_f (Y.nei rfl rfl) ((fun h => h rfl))) ?_
  refine Ops.y (v := .bool _) (Y.pick_f rfl rfl) ?_
  refine Ops.y (v := .bool _) (Y.move rfl) ?_
  refine Ops.ygt rfl (v := .int .i64 _) (Y.move rfl) ?_
  refine Ops.ygt rfl (v := .bool false) (Y.dec_f (Y.nei rfl rfl) ((fun h => h rfl))) ?_
  refine Ops.y (v := .bool _) (Y.pick_f rfl rfl) ?_
  refine Ops.y (v := .bool _) (Y.move rfl) ?_
  refine Ops.ygt rfl (v := .int .i64 _) (Y.move rfl) ?_
  refine Ops.ygt rfl (v := .bool false) (Y.dec_f (Y.nei rfl rfl) ((fun h => h rfl))) ?_
  refine Ops.y (v := .bool _) (Y.pick_f rfl rfl) ?_
  refine Ops.y (v := .bool _) (Y.move rfl) ?_
  refine Ops.ygt rfl (v := .bool _) (Y.move rfl) ?_
  refine Ops.y (v := .bool _) (Y.pick_f rfl rfl) ?_
  refine Ops.y (v := .bool _) (Y.move rfl) ?_
  refine Ops.ygt rfl (v := .bool _) (Y.move rfl) ?_
  refine Ops.ygt rfl (v := .bool false) (Y.not (b := true) rfl) ?_
  refine Ops.y (v := .bool _) (Y.pick_f rfl rfl) ?_
  refine Ops.y (v := .bool _) (Y.move rfl) ?_
  refine Ops.ygt rfl (v := .bool _) (Y.move rfl) ?_
  refine Ops.ygt rfl (v := .bool false) (Y.not (b := true) rfl) ?_
  refine Ops.y (v := .bool _) (Y.pick_f rfl rfl) ?_
  refine Ops.y (v := .bool _) (Y.move rfl) ?_
  refine Ops.ygt rfl (v := .slice _ _ _) (Y.move rfl) ?_
  refine Ops.ygt rfl (v := .slice _ _ _) (Y.move rfl) ?_
  refine Ops.gt rfl (O.callv I Try.call22 (SameFacts_at _ I.base_ok s5 s1 i5 i1 (by rw [e5, e1])) rfl ?_)
  intro w I
  refine Ops.ygt rfl (v := .bool false) (Y.not (b := true) rfl) ?_
  refine Ops.y (v := .bool _) (Y.pick_f rfl rfl) ?_
  refine Ops.y (v := .bool _) (Y.move rfl) ?_
  refine Ops.ygt rfl (v := .slice _ _ _) (Y.move rfl) ?_
  refine Ops.ygt rfl (v := .slice _ _ _) (Y.move rfl) ?_
  refine Ops.gt rfl (O.callv I Try.call22 (SameFacts_at _ I.base_ok s8 s9 i8 i9 (by rw [e8, e9, add_swap ok hx hy])) rfl ?_)
  intro w I
  refine Ops.ygt rfl (v := .bool false) (Y.not (b := true) rfl) ?_
  refine Ops.y (v := .bool _) (Y.pick_f rfl rfl) ?_
  refine Ops.y (v := .bool _) (Y.move rfl) ?_
  refine Ops.ygt rfl (v := .bool _) (Y.move rfl) ?_
  refine Ops.ygt rfl (v := .slice _ _ _) (Y.move rfl) ?_
  refine Ops.ygt rfl (v := .slice _ _ _) (Y.move rfl) ?_
  refine Ops.gt rfl (O.callv I Try.call22 (SameFacts_ok _ I.base_ok s1 f i1 hf) rfl ?_)
  intro w I
  refine Ops.ygt rfl (v := .bool false) (Y.dec_f (Y.eqb Try.underlying4 rfl rfl) ((by rw [ech, e1, decide_not]; simp))) ?_
  refine Ops.y (v := .bool _) (Y.pick_f rfl rfl) ?_
  refine Ops.nil ?_
  refine WP.cond_f rfl ?_
  by_cases hgc : checkFacts l.xs g.xs ≠ 0
  · have u1 : underOf l.xs f.xs g.xs = (false, checkFacts l.xs g.xs) := by unfold underOf; rw [if_neg (by simp [checkFacts_ok.2 ok]), if_pos hgc]
    have u2 : underOf l.xs g.xs f.xs = (false, checkFacts l.xs g.xs) := by unfold underOf; rw [if_pos hgc]
    refine WP.skip ?_
    refine WP.seq ?_
    refine WP.region ?_
    refine Ops.y (v := .slice _ _ _) (Y.move rfl) ?_
    refine Ops.y (v := .slice _ _ _) (Y.move rfl) ?_
    refine Ops.y (v := .slice _ _ _) (Y.move rfl) ?_
    refine Ops.go (O.callv I Try.call19 (Under_at _ I.base_ok l hl f g hf hg _ u1) rfl ?_)
    intro w I
    refine Ops.y (v := .tuple #[_, _]) (Y.move rfl) ?_
    refine Ops.y (v := .bool _) (Y.extract rfl rfl) ?_
    refine Ops.y (v := .int .i64 _) (Y.extract rfl rfl) ?_
    refine Ops.y (v := .bool _) (Y.assign rfl) ?_
    refine Ops.y (v := .int .i64 _) (Y.assign rfl) ?_
    refine Ops.nil ?_
    refine WP.seq ?_
    refine WP.region ?_
    refine Ops.y (v := .slice _ _ _) (Y.move rfl) ?_
    refine Ops.y (v := .slice _ _ _) (Y.move rfl) ?_
    refine Ops.y (v := .slice _ _ _) (Y.move rfl) ?_
    refine Ops.go (O.callv I Try.call19 (Under_at _ I.base_ok l hl g f hg hf _ u2) rfl ?_)
    intro w I
    refine Ops.y (v := .tuple #[_, _]) (Y.move rfl) ?_
    refine Ops.y (v := .bool _) (Y.extract rfl rfl) ?_
    refine Ops.y (v := .int .i64 _) (Y.extract rfl rfl) ?_
    refine Ops.y (v := .bool _) (Y.assign rfl) ?_
    refine Ops.y (v := .int .i64 _) (Y.assign rfl) ?_
    refine Ops.nil ?_
    refine WP.seq ?_
    refine WP.region ?_
    refine Ops.go (O.callv I Try.call15 (baseBegun_ok _ I.base_ok) rfl ?_)
    intro w I
    refine Ops.y (v := .bool _) (Y.move rfl) ?_
    refine Ops.ygt rfl (v := .int .i64 _) (Y.move rfl) ?_
    refine Ops.ygt rfl (v := .int .i64 _) (Y.move rfl) ?_
    refine Ops.ygt rfl (v := .bool true) (Y.dec_t (Y.eqi rfl rfl) (rfl)) ?_
    refine Ops.y (v := .bool _) (Y.pick_t rfl rfl) ?_
    refine Ops.y (v := .bool _) (Y.move rfl) ?_
    refine Ops.ygt rfl (v := .int .i64 _) (Y.move rfl) ?_
    refine Ops.ygt rfl (v := .bool true) (Y.dec_t (Y.nei rfl rfl) (hgc)) ?_
    refine Ops.ygt rfl (v := .bool _) (Y.move rfl) ?_
    refine Ops.gf rfl ?_
    refine Ops.gf rfl ?_
    refine Ops.gf rfl ?_
    refine Ops.gf rfl ?_
    refine Ops.gf rfl ?_
    refine Ops.gf rfl ?_
    refine Ops.gf rfl ?_
    refine Ops.gf rfl ?_
    refine Ops.ygt rfl (v := .bool _) (Y.pick_t rfl rfl) ?_
    refine Ops.y (v := .bool _) (Y.pick_t rfl rfl) ?_
    refine Ops.y (v := .bool _) (Y.assign rfl) ?_
    refine Ops.nil ?_
    refine WP.ret ?_
    repeat (first | refine thenE_ret ?_ | refine blockE_ret ?_)
    exact retQ.mk (vs := [.bool _]) rfl ⟨rfl, trivial⟩ I.ext_of (rfl)
  have okg := checkFacts_ok.1 (Decidable.not_not.1 hgc)
  have hbo := under_both ok okg
  cases b1 : underF l.xs f.xs g.xs
  · rw [b1, Bool.false_and] at hbo
    refine WP.skip ?_
    refine WP.seq ?_
    refine WP.region ?_
    refine Ops.y (v := .slice _ _ _) (Y.move rfl) ?_
    refine Ops.y (v := .slice _ _ _) (Y.move rfl) ?_
    refine Ops.y (v := .slice _ _ _) (Y.move rfl) ?_
    refine Ops.go (O.callv I Try.call19 (Under_at _ I.base_ok l hl f g hf hg (false, 0) (by rw [underOf_of ok okg, b1])) rfl ?_)
    intro w I
    refine Ops.y (v := .tuple #[_, _]) (Y.move rfl) ?_
    refine Ops.y (v := .bool _) (Y.extract rfl rfl) ?_
    refine Ops.y (v := .int .i64 _) (Y.extract rfl rfl) ?_
    refine Ops.y (v := .bool _) (Y.assign rfl) ?_
    refine Ops.y (v := .int .i64 _) (Y.assign rfl) ?_
    refine Ops.nil ?_
    refine WP.seq ?_
    refine WP.region ?_
    refine Ops.y (v := .slice _ _ _) (Y.move rfl) ?_
    refine Ops.y (v := .slice _ _ _) (Y.move rfl) ?_
    refine Ops.y (v := .slice _ _ _) (Y.move rfl) ?_
    refine Ops.go (O.callv I Try.call19 (Under_at _ I.base_ok l hl g f hg hf _ (underOf_of okg ok)) rfl ?_)
    intro w I
    refine Ops.y (v := .tuple #[_, _]) (Y.move rfl) ?_
    refine Ops.y (v := .bool _) (Y.extract rfl rfl) ?_
    refine Ops.y (v := .int .i64 _) (Y.extract rfl rfl) ?_
    refine Ops.y (v := .bool _) (Y.assign rfl) ?_
    refine Ops.y (v := .int .i64 _) (Y.assign rfl) ?_
    refine Ops.nil ?_
    refine WP.seq ?_
    refine WP.region ?_
    refine Ops.go (O.callv I Try.call15 (baseBegun_ok _ I.base_ok) rfl ?_)
    intro w I
    refine Ops.y (v := .bool _) (Y.move rfl) ?_
    refine Ops.ygt rfl (v := .int .i64 _) (Y.move rfl) ?_
    refine Ops.ygt rfl (v := .int .i64 _) (Y.move rfl) ?_
    refine Ops.ygt rfl (v := .bool true) (Y.dec_t (Y.eqi rfl rfl) (rfl)) ?_
    refine Ops.y (v := .bool _) (Y.pick_t rfl rfl) ?_
    refine Ops.y (v := .bool _) (Y.move rfl) ?_
    refine Ops.ygt rfl (v := .int .i64 _) (Y.move rfl) ?_
    refine Ops.ygt rfl (v := .bool false) (Y.dec_f (Y.nei rfl rfl) ((by decide))) ?_
    refine Ops.ygt rfl (v := .bool _) (Y.move rfl) ?_
    refine Ops.ygt rfl (v := .bool _) (Y.move rfl) ?_
    refine Ops.ygt rfl (v := .bool _) (Y.move rfl) ?_
    refine Ops.gf rfl ?_
    refine Ops.ygt rfl (v := .bool _) (Y.pick_f rfl rfl) ?_
    refine Ops.ygt rfl (v := .slice _ _ _) (Y.move rfl) ?_
    refine Ops.ygt rfl (v := .slice _ _ _) (Y.move rfl) ?_
    refine Ops.gt rfl (O.callv I Try.call22 (SameFacts_ok _ I.base_ok f g hf hg) rfl ?_)
    intro w I
    refine Ops.ygt rfl (v := .bool true) (Y.dec_t (Y.eqb Try.underlying4 rfl rfl) (hbo)) ?_
    refine Ops.ygt rfl (v := .bool _) (Y.pick_f rfl rfl) ?_
    refine Ops.y (v := .bool _) (Y.pick_t rfl rfl) ?_
    refine Ops.y (v := .bool _) (Y.assign rfl) ?_
    refine Ops.nil ?_
    refine WP.ret ?_
    repeat (first | refine thenE_ret ?_ | refine blockE_ret ?_)
    exact retQ.mk (vs := [.bool _]) rfl ⟨rfl, trivial⟩ I.ext_of (rfl)
  · rw [b1, Bool.true_and] at hbo
    refine WP.skip ?_
    refine WP.seq ?_
    refine WP.region ?_
    refine Ops.y (v := .slice _ _ _) (Y.move rfl) ?_
    refine Ops.y (v := .slice _ _ _) (Y.move rfl) ?_
    refine Ops.y (v := .slice _ _ _) (Y.move rfl) ?_
    refine Ops.go (O.callv I Try.call19 (Under_at _ I.base_ok l hl f g hf hg (true, 0) (by rw [underOf_of ok okg, b1])) rfl ?_)
    intro w I
    refine Ops.y (v := .tuple #[_, _]) (Y.move rfl) ?_
    refine Ops.y (v := .bool _) (Y.extract rfl rfl) ?_
    refine Ops.y (v := .int .i64 _) (Y.extract rfl rfl) ?_
    refine Ops.y (v := .bool _) (Y.assign rfl) ?_
    refine Ops.y (v := .int .i64 _) (Y.assign rfl) ?_
    refine Ops.nil ?_
    refine WP.seq ?_
    refine WP.region ?_
    refine Ops.y (v := .slice _ _ _) (Y.move rfl) ?_
    refine Ops.y (v := .slice _ _ _) (Y.move rfl) ?_
    refine Ops.y (v := .slice _ _ _) (Y.move rfl) ?_
    refine Ops.go (O.callv I Try.call19 (Under_at _ I.base_ok l hl g f hg hf _ (underOf_of okg ok)) rfl ?_)
    intro w I
    refine Ops.y (v := .tuple #[_, _]) (Y.move rfl) ?_
    refine Ops.y (v := .bool _) (Y.extract rfl rfl) ?_
    refine Ops.y (v := .int .i64 _) (Y.extract rfl rfl) ?_
    refine Ops.y (v := .bool _) (Y.assign rfl) ?_
    refine Ops.y (v := .int .i64 _) (Y.assign rfl) ?_
    refine Ops.nil ?_
    refine WP.seq ?_
    refine WP.region ?_
    refine Ops.go (O.callv I Try.call15 (baseBegun_ok _ I.base_ok) rfl ?_)
    intro w I
    refine Ops.y (v := .bool _) (Y.move rfl) ?_
    refine Ops.ygt rfl (v := .int .i64 _) (Y.move rfl) ?_
    refine Ops.ygt rfl (v := .int .i64 _) (Y.move rfl) ?_
    refine Ops.ygt rfl (v := .bool true) (Y.dec_t (Y.eqi rfl rfl) (rfl)) ?_
    refine Ops.y (v := .bool _) (Y.pick_t rfl rfl) ?_
    refine Ops.y (v := .bool _) (Y.move rfl) ?_
    refine Ops.ygt rfl (v := .int .i64 _) (Y.move rfl) ?_
    refine Ops.ygt rfl (v := .bool false) (Y.dec_f (Y.nei rfl rfl) ((by decide))) ?_
    refine Ops.ygt rfl (v := .bool _) (Y.move rfl) ?_
    refine Ops.ygt rfl (v := .bool _) (Y.move rfl) ?_
    refine Ops.ygt rfl (v := .bool _) (Y.move rfl) ?_
    refine Ops.ygt rfl (v := .bool _) (Y.move rfl) ?_
    refine Ops.ygt rfl (v := .bool _) (Y.pick_t rfl rfl) ?_
    refine Ops.ygt rfl (v := .slice _ _ _) (Y.move rfl) ?_
    refine Ops.ygt rfl (v := .slice _ _ _) (Y.move rfl) ?_
    refine Ops.gt rfl (O.callv I Try.call22 (SameFacts_ok _ I.base_ok f g hf hg) rfl ?_)
    intro w I
    refine Ops.ygt rfl (v := .bool true) (Y.dec_t (Y.eqb Try.underlying4 rfl rfl) (hbo)) ?_
    refine Ops.ygt rfl (v := .bool _) (Y.pick_f rfl rfl) ?_
    refine Ops.y (v := .bool _) (Y.pick_t rfl rfl) ?_
    refine Ops.y (v := .bool _) (Y.assign rfl) ?_
    refine Ops.nil ?_
    refine WP.ret ?_
    repeat (first | refine thenE_ret ?_ | refine blockE_ret ?_)
    exact retQ.mk (vs := [.bool _]) rfl ⟨rfl, trivial⟩ I.ext_of (rfl)
end Go.TF
