/- slices.Clone at this program's types: the same, in memory of its own. -/
import Derived.Test.YtenigglapeajdaaTab
import Derived.Test.YtenigglapeajdaaBase13
import Derived.Test.YtenigglapeajdaaSpFact
namespace Go.TF
open Go Go.RowKit Go.Proofs
set_option maxRecDepth 10000
theorem ClonePrd_ok (B : Base) (hB : B.ok) (l : Sl Prd) (hl : l.Is 3 Prd.enc B.h) (hb : l.xs.length * 32 ≤ 140737488355328) :
    Fn Try.prog 25 [l.val] B (fun v h => ∃ s : Sl Prd, v = s.val ∧ s.xs = l.xs ∧ OwnH 51 3 s Prd.enc B.h h ∧ (s.xs = [] → s.cap = 0)) := by
  refine Fn.of Try.func25 rfl Try.ntmps25 (by kernel_rfl) (by simp) ?_
  intro e
  have I := Inv.start hB
  refine WP.seq ?_
  refine WP.region ?_
  refine Ops.y (v := .slice _ _ _) (Y.assign rfl) ?_
  refine Ops.nil ?_
  refine WP.seq ?_
  refine WP.seq ?_
  refine WP.region ?_
  refine Ops.y (v := .slice _ _ _) (Y.move rfl) ?_
  refine Ops.y (v := .bool _) (Y.eqnil Try.underlying22 rfl rfl) ?_
  refine Ops.nil ?_
  refine WP.cond rfl (fun h => ?_) (fun h => ?_)
  · refine WP.seq ?_
    refine WP.region ?_
    refine Ops.y (v := .slice _ _ _) (Y.assign rfl) ?_
    refine Ops.nil ?_
    have hx : l.xs = [] := by
      cases hx : l.xs with
      | nil => rfl
      | cons a r =>
        have := (hl.el 0 a (by rw [hx]; rfl)).1
        simp only [this, Option.isNone_some] at h; cases h
    refine WP.ret ?_
    repeat (first | refine thenE_ret ?_ | refine blockE_ret ?_)
    exact retQ.mk (vs := [.slice _ _ _]) rfl ⟨rfl, trivial⟩ I.ext_of (⟨⟨none, 0, []⟩, rfl, hx.symm, .inl rfl, fun _ => rfl⟩)
  refine WP.skip ?_
  refine WP.seq ?_
  refine WP.region ?_
  refine Ops.go (O.mkE (α := Prd) Prd.enc I Try.underlying22 Try.sizeOf51 ?_)
  intro s5 h5 w I le5 e5 c5 a5 o5
  refine Ops.y (v := .slice _ _ _) (Y.move rfl) ?_
  refine Ops.go (O.appendE (α := Prd) I Try.underlying22 et_51 (fun _ => rfl) o5 le5 e5 c5 a5 (hl.el.le le5) rfl rfl (by omega) (by have := hl.small; omega) ?_)
  intro r h2 w I le2 hr o2 r0
  refine Ops.y (v := .slice _ _ _) (Y.assign rfl) ?_
  refine Ops.nil ?_
  refine WP.ret ?_
  repeat (first | refine thenE_ret ?_ | refine blockE_ret ?_)
  exact retQ.mk (vs := [.slice _ _ _]) rfl ⟨rfl, trivial⟩ I.ext_of (⟨r, rfl, hr, o2, r0⟩)
theorem CloneRul_ok (B : Base) (hB : B.ok) (l : Sl Rul) (hl : l.Is 5 Rul.enc B.h) (hb : l.xs.length * 80 ≤ 140737488355328) :
    Fn Try.prog 28 [l.val] B (fun v h => ∃ s : Sl Rul, v = s.val ∧ s.xs = l.xs ∧ OwnH 59 5 s Rul.enc B.h h ∧ (s.xs = [] → s.cap = 0)) := by
  refine Fn.of Try.func28 rfl Try.ntmps28 (by kernel_rfl) (by simp) ?_
  intro e
  have I := Inv.start hB
  refine WP.seq ?_
  refine WP.region ?_
  refine Ops.y (v := .slice _ _ _) (Y.assign rfl) ?_
  refine Ops.nil ?_
  refine WP.seq ?_
  refine WP.seq ?_
  refine WP.region ?_
  refine Ops.y (v := .slice _ _ _) (Y.move rfl) ?_
  refine Ops.y (v := .bool _) (Y.eqnil Try.underlying23 rfl rfl) ?_
  refine Ops.nil ?_
  refine WP.cond rfl (fun h => ?_) (fun h => ?_)
  · refine WP.seq ?_
    refine WP.region ?_
    refine Ops.y (v := .slice _ _ _) (Y.assign rfl) ?_
    refine Ops.nil ?_
    have hx : l.xs = [] := by
      cases hx : l.xs with
      | nil => rfl
      | cons a r =>
        have := (hl.el 0 a (by rw [hx]; rfl)).1
        simp only [this, Option.isNone_some] at h; cases h
    refine WP.ret ?_
    repeat (first | refine thenE_ret ?_ | refine blockE_ret ?_)
    exact retQ.mk (vs := [.slice _ _ _]) rfl ⟨rfl, trivial⟩ I.ext_of (⟨⟨none, 0, []⟩, rfl, hx.symm, .inl rfl, fun _ => rfl⟩)
  refine WP.skip ?_
  refine WP.seq ?_
  refine WP.region ?_
  refine Ops.go (O.mkE (α := Rul) Rul.enc I Try.underlying23 Try.sizeOf59 ?_)
  intro s5 h5 w I le5 e5 c5 a5 o5
  refine Ops.y (v := .slice _ _ _) (Y.move rfl) ?_
  refine Ops.go (O.appendE (α := Rul) I Try.underlying23 et_59 (fun _ => rfl) o5 le5 e5 c5 a5 (hl.el.le le5) rfl rfl (by omega) (by have := hl.small; omega) ?_)
  intro r h2 w I le2 hr o2 r0
  refine Ops.y (v := .slice _ _ _) (Y.assign rfl) ?_
  refine Ops.nil ?_
  refine WP.ret ?_
  repeat (first | refine thenE_ret ?_ | refine blockE_ret ?_)
  exact retQ.mk (vs := [.slice _ _ _]) rfl ⟨rfl, trivial⟩ I.ext_of (⟨r, rfl, hr, o2, r0⟩)
theorem CloneFct_ok (B : Base) (hB : B.ok) (l : Sl Fct) (hl : l.Is 4 Fct.enc B.h) (hb : l.xs.length * 32 ≤ 140737488355328) :
    Fn Try.prog 72 [l.val] B (fun v h => ∃ s : Sl Fct, v = s.val ∧ s.xs = l.xs ∧ OwnH 35 4 s Fct.enc B.h h ∧ (s.xs = [] → s.cap = 0)) := by
  refine Fn.of Try.func72 rfl Try.ntmps72 (by kernel_rfl) (by simp) ?_
  intro e
  have I := Inv.start hB
  refine WP.seq ?_
  refine WP.region ?_
  refine Ops.y (v := .slice _ _ _) (Y.assign rfl) ?_
  refine Ops.nil ?_
  refine WP.seq ?_
  refine WP.seq ?_
  refine WP.region ?_
  refine Ops.y (v := .slice _ _ _) (Y.move rfl) ?_
  refine Ops.y (v := .bool _) (Y.eqnil Try.underlying33 rfl rfl) ?_
  refine Ops.nil ?_
  refine WP.cond rfl (fun h => ?_) (fun h => ?_)
  · refine WP.seq ?_
    refine WP.region ?_
    refine Ops.y (v := .slice _ _ _) (Y.assign rfl) ?_
    refine Ops.nil ?_
    have hx : l.xs = [] := by
      cases hx : l.xs with
      | nil => rfl
      | cons a r =>
        have := (hl.el 0 a (by rw [hx]; rfl)).1
        simp only [this, Option.isNone_some] at h; cases h
    refine WP.ret ?_
    repeat (first | refine thenE_ret ?_ | refine blockE_ret ?_)
    exact retQ.mk (vs := [.slice _ _ _]) rfl ⟨rfl, trivial⟩ I.ext_of (⟨⟨none, 0, []⟩, rfl, hx.symm, .inl rfl, fun _ => rfl⟩)
  refine WP.skip ?_
  refine WP.seq ?_
  refine WP.region ?_
  refine Ops.go (O.mkE (α := Fct) Fct.enc I Try.underlying33 Try.sizeOf35 ?_)
  intro s5 h5 w I le5 e5 c5 a5 o5
  refine Ops.y (v := .slice _ _ _) (Y.move rfl) ?_
  refine Ops.go (O.appendE (α := Fct) I Try.underlying33 et_35 (fun _ => rfl) o5 le5 e5 c5 a5 (hl.el.le le5) rfl rfl (by omega) (by have := hl.small; omega) ?_)
  intro r h2 w I le2 hr o2 r0
  refine Ops.y (v := .slice _ _ _) (Y.assign rfl) ?_
  refine Ops.nil ?_
  refine WP.ret ?_
  repeat (first | refine thenE_ret ?_ | refine blockE_ret ?_)
  exact retQ.mk (vs := [.slice _ _ _]) rfl ⟨rfl, trivial⟩ I.ext_of (⟨r, rfl, hr, o2, r0⟩)
end Go.TF
