/- Texts Same1 Prog9 RoadsM Prog10 BaseLaw Txq3 Txr5 Txr6 Txq4 TxtLaw3 Open Base31 TxtOpen. -/
import Derived.Test.YtljkkojkfddpeaaGreatDoorU6
import Derived.Test.YtljkkojkfddpeaaGreatDoorU2
import Derived.Test.YtljkkojkfddpeaaGreatDoorU8
import Derived.Test.YtljkkojkfddpeaaGreatDoorU7
import Derived.Test.YtljkkojkfddpeaaGreatDoorU3
import Derived.Deep.Slices
import Derived.SizedLaws
import Derived.OpenShut
import Derived.ChangeArms
import Derived.Stop.LaidErr
import Derived.Test.YtljkkojkfddpeaaGreatDoorU4
import Derived.Test.YtljkkojkfddpeaaGreatDoorRows
import Derived.Shelf.Vars
import Derived.MakeChecks
section
/- Sameness of predicates, atoms, programs. -/
namespace Go.TF
open Go Go.RowKit Go.Proofs
set_option maxRecDepth 20000

theorem toList_eq {a b : ByteArray} : (a.toList == b.toList) = decide (a = b) := by rw [← beq_bytes, beq_toListBytes]
theorem prd_eq {a b : Prd} : (a.name.toList == b.name.toList && (a.arity == b.arity && (a.kind == b.kind && true))) = decide (a = b) := by
  rw [toList_eq, Bool.eq_iff_iff]
  simp only [Bool.and_eq_true, decide_eq_true_eq, beq_iff_eq]
  cases a; cases b; simp
theorem Atm.er_iff {a b : Atm} : a.er = b.er ↔ a.pred = b.pred ∧ a.args.xs = b.args.xs := by
  obtain ⟨p, ⟨x, y, z⟩⟩ := a; obtain ⟨p', ⟨x', y', z'⟩⟩ := b
  simp [Atm.er, Sl.er]
theorem trm_eq {a b : Trm} : ((a.var == b.var) && ((a.n == b.n) && true)) = decide (a = b) := by
  rw [Bool.eq_iff_iff]
  simp only [Bool.and_eq_true, decide_eq_true_eq, beq_iff_eq]
  cases a; cases b; simp
theorem sameAtoms_ok (B : Base) (hB : B.ok) (a b : Atm) (ha : a.In B.h) (hb : b.In B.h) (he : a.er = b.er) : Fn Tryz.prog 34 [a.val, b.val] B (fun v _ => v = .bool true) := by
  have hsa : a.args.xs.length ≤ 140737488355328 := Sl.Is.small ha
  have hsb : b.args.xs.length ≤ 140737488355328 := Sl.Is.small hb
  obtain ⟨e1, e2⟩ := Atm.er_iff.1 he
  have e3 : a.args.xs.length = b.args.xs.length := by rw [e2]
  refine Fn.of Tryz.func34 rfl Tryz.ntmps34 (by kernel_rfl) (by simp) ?_
  intro e
  have I := Inv.start hB
  refine WP.seq ?_
  refine WP.region ?_
  refine Ops.go (O.box (v := .agg #[_, _]) I rfl rfl ?_)
  intro b2 w I
  refine Ops.go (O.box (v := .agg #[_, _]) I rfl rfl ?_)
  intro b3 w I
  refine Ops.y (v := .bool _) (Y.assign rfl) ?_
  refine Ops.nil ?_
  refine WP.seq ?_
  refine WP.seq ?_
  refine WP.region ?_
  refine Ops.y (v := .pointer (some ⟨_, _, none⟩)) (Y.fa0 fa_61_0 rfl) ?_
  refine Ops.y (v := .int .i64 _) (Y.loadv ty_3 rfl (I.rdbox 1 rfl 0 1) rfl rfl) ?_
  refine Ops.y (v := .pointer (some ⟨_, _, none⟩)) (Y.fa0 fa_61_0 rfl) ?_
  refine Ops.y (v := .int .i64 _) (Y.loadv ty_3 rfl (I.rdbox 0 rfl 0 1) rfl rfl) ?_
  refine Ops.y (v := .bool false) (Y.dec_f (Y.nei rfl rfl) ((fun h => h e1))) ?_
  refine Ops.y (v := .bool _) (Y.move rfl) ?_
  refine Ops.ygt rfl (v := .pointer (some ⟨_, _, none⟩)) (Y.fa fa_61_1 rfl) ?_
  refine Ops.ygt rfl (v := .slice _ _ _) (Y.loadv ty_59 rfl (I.rdbox 1 rfl 1 1) rfl rfl) ?_
  refine Ops.ygt rfl (v := .int .i64 _) (Y.lens Tryz.underlying59 rfl) ?_
  refine Ops.ygt rfl (v := .pointer (some ⟨_, _, none⟩)) (Y.fa fa_61_1 rfl) ?_
  refine Ops.ygt rfl (v := .slice _ _ _) (Y.loadv ty_59 rfl (I.rdbox 0 rfl 1 1) rfl rfl) ?_
  refine Ops.ygt rfl (v := .int .i64 _) (Y.lens Tryz.underlying59 rfl) ?_
  refine Ops.ygt rfl (v := .bool false) (Y.dec_f (Y.nei rfl rfl) ((fun h => h (by rw [e3])))) ?_
  refine Ops.y (v := .bool _) (Y.pick_f rfl rfl) ?_
  refine Ops.nil ?_
  refine WP.cond_f rfl ?_
  refine WP.skip ?_
  refine WP.seq ?_
  refine WP.seq ?_
  refine WP.region ?_
  refine Ops.y (v := .int .i64 _) (Y.assign rfl) ?_
  refine Ops.nil ?_
  refine WP.block ?_
  refine WP.loopE (σ := Nat) (fun k => [(2, .pointer (some ⟨b2, 0, none⟩)), (3, .pointer (some ⟨b3, 0, none⟩)), (5, .int .i64 k)]) (fun k w => Inv B B.h [box b3 b.enc 61, box b2 a.enc 61] w ∧ k ≤ a.args.xs.length) (fun k => a.args.xs.length - k)
    ⟨0, ⟨rfl, rfl, rfl, trivial⟩, I, Nat.zero_le _⟩ ?_
  rintro k e w ⟨I, hk⟩
  refine WP.seq ?_
  refine WP.seq ?_
  refine WP.region ?_
  refine Ops.y (v := .int .i64 _) (Y.move rfl) ?_
  refine Ops.y (v := .pointer (some ⟨_, _, none⟩)) (Y.fa fa_61_1 rfl) ?_
  refine Ops.y (v := .slice _ _ _) (Y.loadv ty_59 rfl (I.rdbox 1 rfl 1 1) rfl rfl) ?_
  refine Ops.y (v := .int .i64 _) (Y.lens Tryz.underlying59 rfl) ?_
  refine Ops.y (v := .bool (decide _)) (Y.lti rfl rfl) ?_
  refine Ops.nil ?_
  refine WP.cond_dec rfl (fun h4 => ?_) (fun h4 => ?_)
  · have hk' : k < a.args.xs.length := by omega
    have hkb : k < b.args.xs.length := by omega
    have E1 := Sl.Is.at ha hk'
    have E2 := Sl.Is.at hb hkb
    have he : a.args.xs[k] = b.args.xs[k] := by simp only [e2]
    refine WP.skip ?_
    refine WP.seq ?_
    refine WP.block ?_
    refine WP.seq ?_
    refine WP.regionQ mixed I (by kernel_rfl) ?_
    refine OpsQ.y (v := .pointer (some ⟨_, _, none⟩)) (fun w I => Y.fa fa_61_1 rfl) ?_
    refine OpsQ.y (v := .slice _ _ _) (fun w I => Y.loadv ty_59 rfl (I.rdbox 1 rfl 1 1) rfl rfl) ?_
    refine OpsQ.y (v := .int .i64 _) (fun w I => Y.move rfl) ?_
    refine OpsQ.y (v := .pointer (some ⟨_, _, none⟩)) (fun w I => Y.idxEl E1 Tryz.underlying59 Tryz.sizeOf109 rfl rfl (Int.natCast_nonneg _) rfl) ?_
    refine OpsQ.y (v := .agg #[_, _]) (fun w I => Y.loadv ty_109 rfl (I.rd (E1.rd.part 0 2)) rfl rfl) ?_
    refine OpsQ.y (v := .pointer (some ⟨_, _, none⟩)) (fun w I => Y.fa fa_61_1 rfl) ?_
    refine OpsQ.y (v := .slice _ _ _) (fun w I => Y.loadv ty_59 rfl (I.rdbox 0 rfl 1 1) rfl rfl) ?_
    refine OpsQ.y (v := .int .i64 _) (fun w I => Y.move rfl) ?_
    refine OpsQ.y (v := .pointer (some ⟨_, _, none⟩)) (fun w I => Y.idxEl E2 Tryz.underlying59 Tryz.sizeOf109 rfl rfl (Int.natCast_nonneg _) rfl) ?_
    refine OpsQ.y (v := .agg #[_, _]) (fun w I => Y.loadv ty_109 rfl (I.rd (E2.rd.part 0 2)) rfl rfl) ?_
    refine OpsQ.y (v := .bool _) (fun w I => Y.nest Tryz.eqGuardType109 (eq_109 _ _ _ _) rfl rfl) ?_
    refine OpsQ.nil ?_
    intro w I
    refine WP.cond rfl (fun h6 => ?_) (fun h6 => ?_)
    · exfalso
      rw [trm_eq, he] at h6; simp at h6
    refine WP.skip ?_
    refine WP.region ?_
    refine Ops.y (v := .int .i64 _) (Y.move rfl) ?_
    refine Ops.y (v := .int .i64 _) (Y.addi rfl rfl ⟨by omega, by omega⟩) ?_
    refine Ops.y (v := .int .i64 _) (Y.assign rfl) ?_
    refine Ops.nil ?_
    exact ⟨k + 1, ⟨⟨rfl, rfl, rfl, trivial⟩, I, hk'⟩, by omega⟩
  refine WP.exit ?_
  refine WP.seq ?_
  refine WP.region ?_
  refine Ops.y (v := .bool _) (Y.assign rfl) ?_
  refine Ops.nil ?_
  refine WP.ret ?_
  repeat (first | refine thenE_ret ?_ | refine blockE_ret ?_)
  exact retQ.mk (vs := [.bool _]) rfl ⟨rfl, trivial⟩ I.ext_of (rfl)
theorem Rul.er_iff {a b : Rul} (h : a.er = b.er) : a.head.er = b.head.er ∧ a.src = b.src ∧ a.n = b.n ∧ a.body.xs.map Ltl.er = b.body.xs.map Ltl.er := by
  have h1 := congrArg Rul.head h; have h2 := congrArg Rul.src h; have h3 := congrArg Rul.n h; have h4 := congrArg (fun r : Rul => r.body.xs) h
  exact ⟨h1, h2, h3, h4⟩
theorem Prg.er_iff {p q : Prg} (h : p.er = q.er) : p.preds.xs = q.preds.xs ∧ p.rules.xs.map Rul.er = q.rules.xs.map Rul.er := by
  have h1 := congrArg (fun p : Prg => p.preds.xs) h; have h2 := congrArg (fun p : Prg => p.rules.xs) h
  exact ⟨h1, h2⟩
theorem map_at {α β : Type} {f : α → β} {l m : List α} (h : l.map f = m.map f) {k : Nat} (h1 : k < l.length) (h2 : k < m.length) : f l[k] = f m[k] := by
  have := congrArg (fun x => x[k]?) h
  simpa [h1, h2] using this
set_option maxHeartbeats 4000000 in
theorem SameProgs_ok (B : Base) (hB : B.ok) (p q : Prg) (hp : p.In B.h) (hq : q.In B.h) (he : p.preds.xs = q.preds.xs → p.er = q.er) : Fn Tryz.prog 10 [p.val, q.val] B (fun v _ => v = .bool (decide (p.preds.xs = q.preds.xs))) := by
  have hs1 := hp.preds.small
  have hs2 := hq.preds.small
  have hs3 := hp.rules.is.small
  have hs4 := hq.rules.is.small
  refine Fn.of Tryz.func10 rfl Tryz.ntmps10 (by kernel_rfl) (by simp) ?_
  intro e
  have I := Inv.start hB
  refine WP.seq ?_
  refine WP.region ?_
  refine Ops.go (O.box (v := .agg #[_, _]) I rfl rfl ?_)
  intro b2 w I
  refine Ops.go (O.box (v := .agg #[_, _]) I rfl rfl ?_)
  intro b3 w I
  refine Ops.y (v := .bool _) (Y.assign rfl) ?_
  refine Ops.nil ?_
  by_cases hpq : p.preds.xs = q.preds.xs
  case neg =>
    by_cases hl : (p.preds.xs.length : Int) ≠ q.preds.xs.length
    · refine WP.seq ?_
      refine WP.seq ?_
      refine WP.region ?_
      refine Ops.y (v := .pointer (some ⟨_, _, none⟩)) (Y.fa0 fa_25_0 rfl) ?_
      refine Ops.y (v := .slice _ _ _) (Y.loadv ty_22 rfl (I.rdbox 1 rfl 0 1) rfl rfl) ?_
      refine Ops.y (v := .int .i64 _) (Y.lens Tryz.underlying22 rfl) ?_
      refine Ops.y (v := .pointer (some ⟨_, _, none⟩)) (Y.fa0 fa_25_0 rfl) ?_
      refine Ops.y (v := .slice _ _ _) (Y.loadv ty_22 rfl (I.rdbox 0 rfl 0 1) rfl rfl) ?_
      refine Ops.y (v := .int .i64 _) (Y.lens Tryz.underlying22 rfl) ?_
      refine Ops.y (v := .bool true) (Y.dec_t (Y.nei rfl rfl) (hl)) ?_
      refine Ops.y (v := .bool _) (Y.move rfl) ?_
      refine Ops.gf rfl ?_
      refine Ops.gf rfl ?_
      refine Ops.gf rfl ?_
      refine Ops.gf rfl ?_
      refine Ops.gf rfl ?_
      refine Ops.gf rfl ?_
      refine Ops.gf rfl ?_
      refine Ops.y (v := .bool _) (Y.pick_t rfl rfl) ?_
      refine Ops.nil ?_
      refine WP.cond_t rfl ?_
      refine WP.seq ?_
      refine WP.region ?_
      refine Ops.y (v := .bool _) (Y.assign rfl) ?_
      refine Ops.nil ?_
      refine WP.ret ?_
      repeat (first | refine thenE_ret ?_ | refine blockE_ret ?_)
      exact retQ.mk (vs := [.bool _]) rfl ⟨rfl, trivial⟩ I.ext_of (by simp only [tup]; rw [decide_eq_false hpq])
    by_cases hl2 : (p.rules.xs.length : Int) ≠ q.rules.xs.length
    · refine WP.seq ?_
      refine WP.seq ?_
      refine WP.region ?_
      refine Ops.y (v := .pointer (some ⟨_, _, none⟩)) (Y.fa0 fa_25_0 rfl) ?_
      refine Ops.y (v := .slice _ _ _) (Y.loadv ty_22 rfl (I.rdbox 1 rfl 0 1) rfl rfl) ?_
      refine Ops.y (v := .int .i64 _) (Y.lens Tryz.underlying22 rfl) ?_
      refine Ops.y (v := .pointer (some ⟨_, _, none⟩)) (Y.fa0 fa_25_0 rfl) ?_
      refine Ops.y (v := .slice _ _ _) (Y.loadv ty_22 rfl (I.rdbox 0 rfl 0 1) rfl rfl) ?_
      refine Ops.y (v := .int .i64 _) (Y.lens Tryz.underlying22 rfl) ?_
      refine Ops.y (v := .bool false) (Y.dec_f (Y.nei rfl rfl) (hl)) ?_
      refine Ops.y (v := .bool _) (Y.move rfl) ?_
      refine Ops.ygt rfl (v := .pointer (some ⟨_, _, none⟩)) (Y.fa fa_25_1 rfl) ?_
      refine Ops.ygt rfl (v := .slice _ _ _) (Y.loadv ty_23 rfl (I.rdbox 1 rfl 1 1) rfl rfl) ?_
      refine Ops.ygt rfl (v := .int .i64 _) (Y.lens Tryz.underlying23 rfl) ?_
      refine Ops.ygt rfl (v := .pointer (some ⟨_, _, none⟩)) (Y.fa fa_25_1 rfl) ?_
      refine Ops.ygt rfl (v := .slice _ _ _) (Y.loadv ty_23 rfl (I.rdbox 0 rfl 1 1) rfl rfl) ?_
      refine Ops.ygt rfl (v := .int .i64 _) (Y.lens Tryz.underlying23 rfl) ?_
      refine Ops.ygt rfl (v := .bool true) (Y.dec_t (Y.nei rfl rfl) (hl2)) ?_
      refine Ops.y (v := .bool _) (Y.pick_f rfl rfl) ?_
      refine Ops.nil ?_
      refine WP.cond_t rfl ?_
      refine WP.seq ?_
      refine WP.region ?_
      refine Ops.y (v := .bool _) (Y.assign rfl) ?_
      refine Ops.nil ?_
      refine WP.ret ?_
      repeat (first | refine thenE_ret ?_ | refine blockE_ret ?_)
      exact retQ.mk (vs := [.bool _]) rfl ⟨rfl, trivial⟩ I.ext_of (by simp only [tup]; rw [decide_eq_false hpq])
    refine WP.seq ?_
    refine WP.seq ?_
    refine WP.region ?_
    refine Ops.y (v := .pointer (some ⟨_, _, none⟩)) (Y.fa0 fa_25_0 rfl) ?_
    refine Ops.y (v := .slice _ _ _) (Y.loadv ty_22 rfl (I.rdbox 1 rfl 0 1) rfl rfl) ?_
    refine Ops.y (v := .int .i64 _) (Y.lens Tryz.underlying22 rfl) ?_
    refine Ops.y (v := .pointer (some ⟨_, _, none⟩)) (Y.fa0 fa_25_0 rfl) ?_
    refine Ops.y (v := .slice _ _ _) (Y.loadv ty_22 rfl (I.rdbox 0 rfl 0 1) rfl rfl) ?_
    refine Ops.y (v := .int .i64 _) (Y.lens Tryz.underlying22 rfl) ?_
    refine Ops.y (v := .bool false) (Y.dec_f (Y.nei rfl rfl) (hl)) ?_
    refine Ops.y (v := .bool _) (Y.move rfl) ?_
    refine Ops.ygt rfl (v := .pointer (some ⟨_, _, none⟩)) (Y.fa fa_25_1 rfl) ?_
    refine Ops.ygt rfl (v := .slice _ _ _) (Y.loadv ty_23 rfl (I.rdbox 1 rfl 1 1) rfl rfl) ?_
    refine Ops.ygt rfl (v := .int .i64 _) (Y.lens Tryz.underlying23 rfl) ?_
    refine Ops.ygt rfl (v := .pointer (some ⟨_, _, none⟩)) (Y.fa fa_25_1 rfl) ?_
    refine Ops.ygt rfl (v := .slice _ _ _) (Y.loadv ty_23 rfl (I.rdbox 0 rfl 1 1) rfl rfl) ?_
    refine Ops.ygt rfl (v := .int .i64 _) (Y.lens Tryz.underlying23 rfl) ?_
    refine Ops.ygt rfl (v := .bool false) (Y.dec_f (Y.nei rfl rfl) (hl2)) ?_
    refine Ops.y (v := .bool _) (Y.pick_f rfl rfl) ?_
    refine Ops.nil ?_
    refine WP.cond_f rfl ?_
    refine WP.skip ?_
    refine WP.seq ?_
    refine WP.seq ?_
    refine WP.region ?_
    refine Ops.y (v := .int .i64 _) (Y.assign rfl) ?_
    refine Ops.nil ?_
    refine WP.block ?_
    refine WP.loopE (σ := Nat) (fun k => [(2, .pointer (some ⟨b2, 0, none⟩)), (3, .pointer (some ⟨b3, 0, none⟩)), (5, .int .i64 k)]) (fun k w => Inv B B.h [box b3 q.enc 25, box b2 p.enc 25] w ∧ k ≤ p.preds.xs.length ∧ ∀ j, j < k → p.preds.xs[j]? = q.preds.xs[j]?) (fun k => p.preds.xs.length - k)
      ⟨0, ⟨rfl, rfl, rfl, trivial⟩, I, Nat.zero_le _, fun j hj => by omega⟩ ?_
    rintro k e w ⟨I, hk, hn⟩
    refine WP.seq ?_
    refine WP.seq ?_
    refine WP.region ?_
    refine Ops.y (v := .int .i64 _) (Y.move rfl) ?_
    refine Ops.y (v := .pointer (some ⟨_, _, none⟩)) (Y.fa0 fa_25_0 rfl) ?_
    refine Ops.y (v := .slice _ _ _) (Y.loadv ty_22 rfl (I.rdbox 1 rfl 0 1) rfl rfl) ?_
    refine Ops.y (v := .int .i64 _) (Y.lens Tryz.underlying22 rfl) ?_
    refine Ops.y (v := .bool (decide _)) (Y.lti rfl rfl) ?_
    refine Ops.nil ?_
    refine WP.cond_dec rfl (fun h4 => ?_) (fun h4 => ?_)
    · have hk' : k < p.preds.xs.length := by omega
      have hkb : k < q.preds.xs.length := by omega
      have E1 := hp.preds.at hk'
      have E2 := hq.preds.at hkb
      refine WP.skip ?_
      refine WP.seq ?_
      refine WP.block ?_
      refine WP.seq ?_
      refine WP.regionQ mixed I (by kernel_rfl) ?_
      refine OpsQ.y (v := .pointer (some ⟨_, _, none⟩)) (fun w I => Y.fa0 fa_25_0 rfl) ?_
      refine OpsQ.y (v := .slice _ _ _) (fun w I => Y.loadv ty_22 rfl (I.rdbox 1 rfl 0 1) rfl rfl) ?_
      refine OpsQ.y (v := .int .i64 _) (fun w I => Y.move rfl) ?_
      refine OpsQ.y (v := .pointer (some ⟨_, _, none⟩)) (fun w I => Y.idxEl E1 Tryz.underlying22 Tryz.sizeOf53 rfl rfl (Int.natCast_nonneg _) rfl) ?_
      refine OpsQ.y (v := .agg #[_, _, _]) (fun w I => Y.loadv ty_53 rfl (I.rd (E1.rd.part 0 3)) rfl rfl) ?_
      refine OpsQ.y (v := .pointer (some ⟨_, _, none⟩)) (fun w I => Y.fa0 fa_25_0 rfl) ?_
      refine OpsQ.y (v := .slice _ _ _) (fun w I => Y.loadv ty_22 rfl (I.rdbox 0 rfl 0 1) rfl rfl) ?_
      refine OpsQ.y (v := .int .i64 _) (fun w I => Y.move rfl) ?_
      refine OpsQ.y (v := .pointer (some ⟨_, _, none⟩)) (fun w I => Y.idxEl E2 Tryz.underlying22 Tryz.sizeOf53 rfl rfl (Int.natCast_nonneg _) rfl) ?_
      refine OpsQ.y (v := .agg #[_, _, _]) (fun w I => Y.loadv ty_53 rfl (I.rd (E2.rd.part 0 3)) rfl rfl) ?_
      refine OpsQ.y (v := .bool _) (fun w I => Y.nest Tryz.eqGuardType53 (eq_53 _ _ _ _ _ _) rfl rfl) ?_
      refine OpsQ.nil ?_
      intro w I
      refine WP.cond rfl (fun h6 => ?_) (fun h6 => ?_)
      · refine WP.seq ?_
        refine WP.region ?_
        refine Ops.y (v := .bool _) (Y.assign rfl) ?_
        refine Ops.nil ?_
        refine WP.ret ?_
        repeat (first | refine thenE_ret ?_ | refine blockE_ret ?_)
        exact retQ.mk (vs := [.bool _]) rfl ⟨rfl, trivial⟩ I.ext_of (by simp only [tup]; rw [decide_eq_false hpq])
      refine WP.skip ?_
      refine WP.region ?_
      refine Ops.y (v := .int .i64 _) (Y.move rfl) ?_
      refine Ops.y (v := .int .i64 _) (Y.addi rfl rfl ⟨by omega, by omega⟩) ?_
      refine Ops.y (v := .int .i64 _) (Y.assign rfl) ?_
      refine Ops.nil ?_
      exact ⟨k + 1, ⟨⟨rfl, rfl, rfl, trivial⟩, I, hk', fun j hj => by
        rcases Nat.lt_succ_iff_lt_or_eq.1 hj with h' | rfl
        · exact hn j h'
        · rw [List.getElem?_eq_getElem hk', List.getElem?_eq_getElem hkb]
          rw [prd_eq] at h6
          congr 1
          simpa using h6⟩, by omega⟩
    exact absurd (List.ext_getElem? fun j => by
      rcases Nat.lt_or_ge j k with h' | h'
      · exact hn j h'
      · rw [List.getElem?_eq_none (by omega), List.getElem?_eq_none (by omega)]) hpq
  obtain ⟨_, hr⟩ := Prg.er_iff (he hpq)
  have hlr : p.rules.xs.length = q.rules.xs.length := by have := congrArg List.length hr; simpa using this
  refine WP.seq ?_
  refine WP.seq ?_
  refine WP.region ?_
  refine Ops.y (v := .pointer (some ⟨_, _, none⟩)) (Y.fa0 fa_25_0 rfl) ?_
  refine Ops.y (v := .slice _ _ _) (Y.loadv ty_22 rfl (I.rdbox 1 rfl 0 1) rfl rfl) ?_
  refine Ops.y (v := .int .i64 _) (Y.lens Tryz.underlying22 rfl) ?_
  refine Ops.y (v := .pointer (some ⟨_, _, none⟩)) (Y.fa0 fa_25_0 rfl) ?_
  refine Ops.y (v := .slice _ _ _) (Y.loadv ty_22 rfl (I.rdbox 0 rfl 0 1) rfl rfl) ?_
  refine Ops.y (v := .int .i64 _) (Y.lens Tryz.underlying22 rfl) ?_
  refine Ops.y (v := .bool false) (Y.dec_f (Y.nei rfl rfl) ((fun h => h (by rw [hpq])))) ?_
  refine Ops.y (v := .bool _) (Y.move rfl) ?_
  refine Ops.ygt rfl (v := .pointer (some ⟨_, _, none⟩)) (Y.fa fa_25_1 rfl) ?_
  refine Ops.ygt rfl (v := .slice _ _ _) (Y.loadv ty_23 rfl (I.rdbox 1 rfl 1 1) rfl rfl) ?_
  refine Ops.ygt rfl (v := .int .i64 _) (Y.lens Tryz.underlying23 rfl) ?_
  refine Ops.ygt rfl (v := .pointer (some ⟨_, _, none⟩)) (Y.fa fa_25_1 rfl) ?_
  refine Ops.ygt rfl (v := .slice _ _ _) (Y.loadv ty_23 rfl (I.rdbox 0 rfl 1 1) rfl rfl) ?_
  refine Ops.ygt rfl (v := .int .i64 _) (Y.lens Tryz.underlying23 rfl) ?_
  refine Ops.ygt rfl (v := .bool false) (Y.dec_f (Y.nei rfl rfl) ((fun h => h (by rw [hlr])))) ?_
  refine Ops.y (v := .bool _) (Y.pick_f rfl rfl) ?_
  refine Ops.nil ?_
  refine WP.cond_f rfl ?_
  refine WP.skip ?_
  refine WP.seq ?_
  refine WP.seq ?_
  refine WP.region ?_
  refine Ops.y (v := .int .i64 _) (Y.assign rfl) ?_
  refine Ops.nil ?_
  refine WP.cutK (σ := Unit) (fun _ => [(2, .pointer (some ⟨b2, 0, none⟩)), (3, .pointer (some ⟨b3, 0, none⟩))]) (fun _ w => Inv B B.h [box b3 q.enc 25, box b2 p.enc 25] w) ?_ ?_
  · refine WP.block ?_
    refine WP.loopE (σ := Nat) (fun k => [(2, .pointer (some ⟨b2, 0, none⟩)), (3, .pointer (some ⟨b3, 0, none⟩)), (5, .int .i64 k)]) (fun k w => Inv B B.h [box b3 q.enc 25, box b2 p.enc 25] w ∧ k ≤ p.preds.xs.length) (fun k => p.preds.xs.length - k)
      ⟨0, ⟨rfl, rfl, rfl, trivial⟩, I, Nat.zero_le _⟩ ?_
    rintro k e w ⟨I, hk⟩
    refine WP.seq ?_
    refine WP.seq ?_
    refine WP.region ?_
    refine Ops.y (v := .int .i64 _) (Y.move rfl) ?_
    refine Ops.y (v := .pointer (some ⟨_, _, none⟩)) (Y.fa0 fa_25_0 rfl) ?_
    refine Ops.y (v := .slice _ _ _) (Y.loadv ty_22 rfl (I.rdbox 1 rfl 0 1) rfl rfl) ?_
    refine Ops.y (v := .int .i64 _) (Y.lens Tryz.underlying22 rfl) ?_
    refine Ops.y (v := .bool (decide _)) (Y.lti rfl rfl) ?_
    refine Ops.nil ?_
    refine WP.cond_dec rfl (fun h4 => ?_) (fun h4 => ?_)
    · have hk' : k < p.preds.xs.length := by omega
      have hkb : k < q.preds.xs.length := by rw [← hpq]; exact hk'
      have E1 := hp.preds.at hk'
      have E2 := hq.preds.at hkb
      have hee : p.preds.xs[k] = q.preds.xs[k] := by simp only [hpq]
      refine WP.skip ?_
      refine WP.seq ?_
      refine WP.block ?_
      refine WP.seq ?_
      refine WP.regionQ mixed I (by kernel_rfl) ?_
      refine OpsQ.y (v := .pointer (some ⟨_, _, none⟩)) (fun w I => Y.fa0 fa_25_0 rfl) ?_
      refine OpsQ.y (v := .slice _ _ _) (fun w I => Y.loadv ty_22 rfl (I.rdbox 1 rfl 0 1) rfl rfl) ?_
      refine OpsQ.y (v := .int .i64 _) (fun w I => Y.move rfl) ?_
      refine OpsQ.y (v := .pointer (some ⟨_, _, none⟩)) (fun w I => Y.idxEl E1 Tryz.underlying22 Tryz.sizeOf53 rfl rfl (Int.natCast_nonneg _) rfl) ?_
      refine OpsQ.y (v := .agg #[_, _, _]) (fun w I => Y.loadv ty_53 rfl (I.rd (E1.rd.part 0 3)) rfl rfl) ?_
      refine OpsQ.y (v := .pointer (some ⟨_, _, none⟩)) (fun w I => Y.fa0 fa_25_0 rfl) ?_
      refine OpsQ.y (v := .slice _ _ _) (fun w I => Y.loadv ty_22 rfl (I.rdbox 0 rfl 0 1) rfl rfl) ?_
      refine OpsQ.y (v := .int .i64 _) (fun w I => Y.move rfl) ?_
      refine OpsQ.y (v := .pointer (some ⟨_, _, none⟩)) (fun w I => Y.idxEl E2 Tryz.underlying22 Tryz.sizeOf53 rfl rfl (Int.natCast_nonneg _) rfl) ?_
      refine OpsQ.y (v := .agg #[_, _, _]) (fun w I => Y.loadv ty_53 rfl (I.rd (E2.rd.part 0 3)) rfl rfl) ?_
      refine OpsQ.y (v := .bool _) (fun w I => Y.nest Tryz.eqGuardType53 (eq_53 _ _ _ _ _ _) rfl rfl) ?_
      refine OpsQ.nil ?_
      intro w I
      refine WP.cond rfl (fun h6 => ?_) (fun h6 => ?_)
      · exfalso
        rw [prd_eq, hee] at h6; simp at h6
      refine WP.skip ?_
      refine WP.region ?_
      refine Ops.y (v := .int .i64 _) (Y.move rfl) ?_
      refine Ops.y (v := .int .i64 _) (Y.addi rfl rfl ⟨by omega, by omega⟩) ?_
      refine Ops.y (v := .int .i64 _) (Y.assign rfl) ?_
      refine Ops.nil ?_
      exact ⟨k + 1, ⟨⟨rfl, rfl, rfl, trivial⟩, I, hk'⟩, by omega⟩
    refine WP.exit ?_
    exact ⟨(), ⟨rfl, rfl, trivial⟩, I⟩
  rintro _ e w I
  refine WP.seq ?_
  refine WP.seq ?_
  refine WP.region ?_
  refine Ops.y (v := .int .i64 _) (Y.assign rfl) ?_
  refine Ops.nil ?_
  refine WP.block ?_
  refine WP.loopE (σ := Nat) (fun k => [(2, .pointer (some ⟨b2, 0, none⟩)), (3, .pointer (some ⟨b3, 0, none⟩)), (6, .int .i64 k)]) (fun k w => (∃ h0, B.h.le h0 ∧ Inv B h0 [box b3 q.enc 25, box b2 p.enc 25] w) ∧ k ≤ p.rules.xs.length) (fun k => p.rules.xs.length - k)
    ⟨0, ⟨rfl, rfl, rfl, trivial⟩, ⟨_, Heap.le.refl _, I⟩, Nat.zero_le _⟩ ?_
  rintro k e w ⟨⟨h0, gl, I⟩, hk⟩
  refine WP.seq ?_
  refine WP.seq ?_
  refine WP.region ?_
  refine Ops.y (v := .int .i64 _) (Y.move rfl) ?_
  refine Ops.y (v := .pointer (some ⟨_, _, none⟩)) (Y.fa fa_25_1 rfl) ?_
  refine Ops.y (v := .slice _ _ _) (Y.loadv ty_23 rfl (I.rdbox 1 rfl 1 1) rfl rfl) ?_
  refine Ops.y (v := .int .i64 _) (Y.lens Tryz.underlying23 rfl) ?_
  refine Ops.y (v := .bool (decide _)) (Y.lti rfl rfl) ?_
  refine Ops.nil ?_
  refine WP.cond_dec rfl (fun h9 => ?_) (fun h9 => ?_)
  · have hk' : k < p.rules.xs.length := by omega
    have hkb : k < q.rules.xs.length := by omega
    have E1 := (hp.rules.is.le gl).at hk'
    have E2 := (hq.rules.is.le gl).at hkb
    have i1 := (hp.rules.each _ (List.getElem_mem hk')).le gl
    have i2 := (hq.rules.each _ (List.getElem_mem hkb)).le gl
    obtain ⟨r1, r2, r3, r4⟩ := Rul.er_iff (map_at hr hk' hkb)
    have r5 : p.rules.xs[k].body.xs.length = q.rules.xs[k].body.xs.length := by have := congrArg List.length r4; simpa using this
    refine WP.skip ?_
    refine WP.seq ?_
    refine WP.block ?_
    refine WP.seq ?_
    refine WP.regionG mixed RBx.pre ⟨h0, none, none⟩ (J := JBx B [box b3 q.enc 25, box b2 p.enc 25] 64 [.int .i64 0, .slice none 0 0, .int .i64 0, .int .i64 0, .slice none 0 0] p.rules.xs[k].enc 10 11 12) ⟨rfl, rfl, fun h => (by cases h), I.drew⟩ 13 (by kernel_rfl) ?_
    refine OpsG.y_ (v := .pointer (some ⟨_, _, none⟩)) (fun _ => runsG_none _) RBx.pre (JBx.set (by decide)) (fun _ s w us hl hj => have I := hj.base; have hl := hl.h; Y.fa fa_25_1 rfl) ?_
    refine OpsG.y_ (v := .slice _ _ _) (fun _ => runsG_none _) RBx.pre (JBx.set (by decide)) (fun _ s w us hl hj => have I := hj.base; have hl := hl.h; Y.loadv ty_23 rfl (I.rdbox 1 rfl 1 1) rfl rfl) ?_
    refine OpsG.y_ (v := .int .i64 _) (fun _ => runsG_none _) RBx.pre (JBx.set (by decide)) (fun _ s w us hl hj => have I := hj.base; have hl := hl.h; Y.move rfl) ?_
    refine OpsG.y_ (v := .pointer (some ⟨_, _, none⟩)) (fun _ => runsG_none _) RBx.pre (JBx.set (by decide)) (fun _ s w us hl hj => have I := hj.base; have hl := hl.h; Y.idxEl E1 Tryz.underlying23 Tryz.sizeOf64 rfl rfl (Int.natCast_nonneg _) rfl) ?_
    refine OpsG.y_ (v := .agg #[_, _, _, _, _]) (fun _ => runsG_none _) RBx.pre (JBx.set (by decide)) (fun _ s w us hl hj => have I := hj.base; have hl := hl.h; Y.loadv ty_64 rfl (I.rd ((E1.rd.part 0 5).le hl)) rfl rfl) ?_
    refine OpsG.y_ (v := .pointer (some ⟨_, _, none⟩)) (fun _ => runsG_none _) RBx.pre (JBx.set (by decide)) (fun _ s w us hl hj => have I := hj.base; have hl := hl.h; Y.fa fa_25_1 rfl) ?_
    refine OpsG.y_ (v := .slice _ _ _) (fun _ => runsG_none _) RBx.pre (JBx.set (by decide)) (fun _ s w us hl hj => have I := hj.base; have hl := hl.h; Y.loadv ty_23 rfl (I.rdbox 0 rfl 1 1) rfl rfl) ?_
    refine OpsG.y_ (v := .int .i64 _) (fun _ => runsG_none _) RBx.pre (JBx.set (by decide)) (fun _ s w us hl hj => have I := hj.base; have hl := hl.h; Y.move rfl) ?_
    refine OpsG.y_ (v := .pointer (some ⟨_, _, none⟩)) (fun _ => runsG_none _) RBx.pre (JBx.set (by decide)) (fun _ s w us hl hj => have I := hj.base; have hl := hl.h; Y.idxEl E2 Tryz.underlying23 Tryz.sizeOf64 rfl rfl (Int.natCast_nonneg _) rfl) ?_
    refine OpsG.y_ (v := .agg #[_, _, _, _, _]) (fun _ => runsG_none _) RBx.pre (JBx.set (by decide)) (fun _ s w us hl hj => have I := hj.base; have hl := hl.h; Y.loadv ty_64 rfl (I.rd ((E2.rd.part 0 5).le hl)) rfl rfl) ?_
    refine OpsG.make7 Tryz.zeroValue64 rfl (by decide) (by decide) ?_
    refine OpsG.make8 Tryz.zeroValue64 rfl (by decide) (by decide) ?_
    refine OpsG.store7 ty_64 rfl rfl (fun s => by intro u7 q7 u8 _; exact ⟨q7 rfl, rfl⟩) rfl rfl (by decide) (by decide) ?_
    refine OpsG.nil ?_
    intro D s w hD hl hj u7 q7 u8 q8
    obtain ⟨b7, rfl, h7⟩ := q7 rfl
    obtain ⟨b8, rfl, h8⟩ := q8 rfl
    have I := hj.inv
    rw [h7, h8, hD 12 (by omega)] at I
    simp only [pcs, if_true, Bool.false_eq_true, if_false, List.cons_append, List.nil_append] at I
    have hl := hl.h
    refine Ops.go (O.store (v := .agg #[_, _, _, _, _]) I ty_64 1 rfl rfl rfl rfl rfl rfl (Nat.le_of_ble_eq_true rfl) rfl ?_)
    intro w I
    refine Ops.nil ?_
    generalize s.h = h1 at I hl
    have i1 := i1.le hl
    have i2 := i2.le hl
    refine WP.seq ?_
    refine WP.seq ?_
    refine WP.region ?_
    refine Ops.y (v := .pointer (some ⟨_, _, none⟩)) (Y.fa0 fa_64_0 rfl) ?_
    refine Ops.y (v := .agg #[_, _]) (Y.loadv ty_61 rfl (I.rdbox 0 rfl 0 2) rfl rfl) ?_
    refine Ops.y (v := .pointer (some ⟨_, _, none⟩)) (Y.fa0 fa_64_0 rfl) ?_
    refine Ops.y (v := .agg #[_, _]) (Y.loadv ty_61 rfl (I.rdbox 1 rfl 0 2) rfl rfl) ?_
    refine Ops.go (O.callv I Tryz.call34 (sameAtoms_ok _ I.base_ok _ _ i1.head i2.head r1) rfl ?_)
    intro w I
    refine Ops.y (v := .bool false) (Y.b (Y.not rfl) (rfl)) ?_
    refine Ops.y (v := .bool _) (Y.move rfl) ?_
    refine Ops.ygt rfl (v := .pointer (some ⟨_, _, none⟩)) (Y.fa fa_64_1 rfl) ?_
    refine Ops.ygt rfl (v := .int .i64 _) (Y.loadv ty_3 rfl (I.rdbox 0 rfl 2 1) rfl rfl) ?_
    refine Ops.ygt rfl (v := .pointer (some ⟨_, _, none⟩)) (Y.fa fa_64_1 rfl) ?_
    refine Ops.ygt rfl (v := .int .i64 _) (Y.loadv ty_3 rfl (I.rdbox 1 rfl 2 1) rfl rfl) ?_
    refine Ops.ygt rfl (v := .bool false) (Y.dec_f (Y.nei rfl rfl) ((fun h => h r2))) ?_
    refine Ops.y (v := .bool _) (Y.pick_f rfl rfl) ?_
    refine Ops.y (v := .bool _) (Y.move rfl) ?_
    refine Ops.ygt rfl (v := .pointer (some ⟨_, _, none⟩)) (Y.fa fa_64_2 rfl) ?_
    refine Ops.ygt rfl (v := .int .i64 _) (Y.loadv ty_3 rfl (I.rdbox 0 rfl 3 1) rfl rfl) ?_
    refine Ops.ygt rfl (v := .pointer (some ⟨_, _, none⟩)) (Y.fa fa_64_2 rfl) ?_
    refine Ops.ygt rfl (v := .int .i64 _) (Y.loadv ty_3 rfl (I.rdbox 1 rfl 3 1) rfl rfl) ?_
    refine Ops.ygt rfl (v := .bool false) (Y.dec_f (Y.nei rfl rfl) ((fun h => h r3))) ?_
    refine Ops.y (v := .bool _) (Y.pick_f rfl rfl) ?_
    refine Ops.y (v := .bool _) (Y.move rfl) ?_
    refine Ops.ygt rfl (v := .pointer (some ⟨_, _, none⟩)) (Y.fa fa_64_3 rfl) ?_
    refine Ops.ygt rfl (v := .slice _ _ _) (Y.loadv ty_62 rfl (I.rdbox 0 rfl 4 1) rfl rfl) ?_
    refine Ops.ygt rfl (v := .int .i64 _) (Y.lens Tryz.underlying62 rfl) ?_
    refine Ops.ygt rfl (v := .pointer (some ⟨_, _, none⟩)) (Y.fa fa_64_3 rfl) ?_
    refine Ops.ygt rfl (v := .slice _ _ _) (Y.loadv ty_62 rfl (I.rdbox 1 rfl 4 1) rfl rfl) ?_
    refine Ops.ygt rfl (v := .int .i64 _) (Y.lens Tryz.underlying62 rfl) ?_
    refine Ops.ygt rfl (v := .bool false) (Y.dec_f (Y.nei rfl rfl) ((fun h => h (by rw [r5])))) ?_
    refine Ops.y (v := .bool _) (Y.pick_f rfl rfl) ?_
    refine Ops.nil ?_
    refine WP.cond_f rfl ?_
    refine WP.skip ?_
    refine WP.seq ?_
    refine WP.region ?_
    refine Ops.y (v := .int .i64 _) (Y.assign rfl) ?_
    refine Ops.nil ?_
    refine WP.block ?_
    refine WP.loopE (σ := Nat) (fun j => [(2, .pointer (some ⟨b2, 0, none⟩)), (3, .pointer (some ⟨b3, 0, none⟩)), (6, .int .i64 k), (7, .pointer (some ⟨b7, 0, none⟩)), (8, .pointer (some ⟨b8, 0, none⟩)), (9, .int .i64 j)]) (fun j w => Inv B h1 [box b7 p.rules.xs[k].enc 64, box b8 q.rules.xs[k].enc 64, box b3 q.enc 25, box b2 p.enc 25] w ∧ j ≤ p.rules.xs[k].body.xs.length) (fun j => p.rules.xs[k].body.xs.length - j)
      ⟨0, ⟨rfl, rfl, rfl, rfl, rfl, rfl, trivial⟩, I, Nat.zero_le _⟩ ?_
    rintro j e w ⟨I, hj⟩
    have hs5 := i1.body.is.small
    refine WP.seq ?_
    refine WP.seq ?_
    refine WP.region ?_
    refine Ops.y (v := .int .i64 _) (Y.move rfl) ?_
    refine Ops.y (v := .pointer (some ⟨_, _, none⟩)) (Y.fa fa_64_3 rfl) ?_
    refine Ops.y (v := .slice _ _ _) (Y.loadv ty_62 rfl (I.rdbox 0 rfl 4 1) rfl rfl) ?_
    refine Ops.y (v := .int .i64 _) (Y.lens Tryz.underlying62 rfl) ?_
    refine Ops.y (v := .bool (decide _)) (Y.lti rfl rfl) ?_
    refine Ops.nil ?_
    refine WP.cond_dec rfl (fun h15 => ?_) (fun h15 => ?_)
    · have hj1 : j < p.rules.xs[k].body.xs.length := by omega
      have hj2 : j < q.rules.xs[k].body.xs.length := by omega
      have F1 := i1.body.is.at hj1
      have F2 := i2.body.is.at hj2
      have b1 := i1.body.each _ (List.getElem_mem hj1)
      have b2' := i2.body.each _ (List.getElem_mem hj2)
      have ee := map_at r4 hj1 hj2
      have e1 : p.rules.xs[k].body.xs[j].neg = q.rules.xs[k].body.xs[j].neg := by have := congrArg Ltl.neg ee; exact this
      have e2 : p.rules.xs[k].body.xs[j].atom.er = q.rules.xs[k].body.xs[j].atom.er := by have := congrArg Ltl.atom ee; exact this
      refine WP.skip ?_
      refine WP.seq ?_
      refine WP.block ?_
      refine WP.seq ?_
      refine WP.regionQ mixed I (by kernel_rfl) ?_
      refine OpsQ.y (v := .pointer (some ⟨_, _, none⟩)) (fun w I => Y.fa fa_64_3 rfl) ?_
      refine OpsQ.y (v := .slice _ _ _) (fun w I => Y.loadv ty_62 rfl (I.rdbox 0 rfl 4 1) rfl rfl) ?_
      refine OpsQ.y (v := .int .i64 _) (fun w I => Y.move rfl) ?_
      refine OpsQ.y (v := .pointer (some ⟨_, _, none⟩)) (fun w I => Y.idxEl F1 Tryz.underlying62 Tryz.sizeOf68 rfl rfl (Int.natCast_nonneg _) rfl) ?_
      refine OpsQ.y (v := .pointer (some ⟨_, _, none⟩)) (fun w I => Y.fa0 fa_68_0 rfl) ?_
      refine OpsQ.y (v := .bool _) (fun w I => Y.loadv ty_4 rfl (I.rd (F1.rd.part 0 1)) rfl rfl) ?_
      refine OpsQ.y (v := .pointer (some ⟨_, _, none⟩)) (fun w I => Y.fa fa_64_3 rfl) ?_
      refine OpsQ.y (v := .slice _ _ _) (fun w I => Y.loadv ty_62 rfl (I.rdbox 1 rfl 4 1) rfl rfl) ?_
      refine OpsQ.y (v := .int .i64 _) (fun w I => Y.move rfl) ?_
      refine OpsQ.y (v := .pointer (some ⟨_, _, none⟩)) (fun w I => Y.idxEl F2 Tryz.underlying62 Tryz.sizeOf68 rfl rfl (Int.natCast_nonneg _) rfl) ?_
      refine OpsQ.y (v := .pointer (some ⟨_, _, none⟩)) (fun w I => Y.fa0 fa_68_0 rfl) ?_
      refine OpsQ.y (v := .bool _) (fun w I => Y.loadv ty_4 rfl (I.rd (F2.rd.part 0 1)) rfl rfl) ?_
      refine OpsQ.y (v := .bool false) (fun w I => Y.dec_f (Y.neb Tryz.underlying4 rfl rfl) ((fun h => h e1))) ?_
      refine OpsQ.y (v := .bool _) (fun w I => Y.move rfl) ?_
      refine OpsQ.ygt rfl (v := .pointer (some ⟨_, _, none⟩)) (fun w I => Y.fa fa_64_3 rfl) ?_
      refine OpsQ.ygt rfl (v := .slice _ _ _) (fun w I => Y.loadv ty_62 rfl (I.rdbox 0 rfl 4 1) rfl rfl) ?_
      refine OpsQ.ygt rfl (v := .int .i64 _) (fun w I => Y.move rfl) ?_
      refine OpsQ.ygt rfl (v := .pointer (some ⟨_, _, none⟩)) (fun w I => Y.idxEl F1 Tryz.underlying62 Tryz.sizeOf68 rfl rfl (Int.natCast_nonneg _) rfl) ?_
      refine OpsQ.ygt rfl (v := .pointer (some ⟨_, _, none⟩)) (fun w I => Y.fa fa_68_1 rfl) ?_
      refine OpsQ.ygt rfl (v := .agg #[_, _]) (fun w I => Y.loadv ty_61 rfl (I.rd (F1.rd.part 1 2)) rfl rfl) ?_
      refine OpsQ.ygt rfl (v := .pointer (some ⟨_, _, none⟩)) (fun w I => Y.fa fa_64_3 rfl) ?_
      refine OpsQ.ygt rfl (v := .slice _ _ _) (fun w I => Y.loadv ty_62 rfl (I.rdbox 1 rfl 4 1) rfl rfl) ?_
      refine OpsQ.ygt rfl (v := .int .i64 _) (fun w I => Y.move rfl) ?_
      refine OpsQ.ygt rfl (v := .pointer (some ⟨_, _, none⟩)) (fun w I => Y.idxEl F2 Tryz.underlying62 Tryz.sizeOf68 rfl rfl (Int.natCast_nonneg _) rfl) ?_
      refine OpsQ.ygt rfl (v := .pointer (some ⟨_, _, none⟩)) (fun w I => Y.fa fa_68_1 rfl) ?_
      refine OpsQ.ygt rfl (v := .agg #[_, _]) (fun w I => Y.loadv ty_61 rfl (I.rd (F2.rd.part 1 2)) rfl rfl) ?_
      refine OpsQ.cgt rfl (fun w I => QC.callv I Tryz.call34 (sameAtoms_ok _ I.base_ok _ _ b1 b2' e2) rfl) ?_
      refine OpsQ.ygt rfl (v := .bool false) (fun w I => Y.b (Y.not rfl) (rfl)) ?_
      refine OpsQ.y (v := .bool _) (fun w I => Y.pick_f rfl rfl) ?_
      refine OpsQ.nil ?_
      intro w I
      refine WP.cond_f rfl ?_
      refine WP.skip ?_
      refine WP.region ?_
      refine Ops.y (v := .int .i64 _) (Y.move rfl) ?_
      refine Ops.y (v := .int .i64 _) (Y.addi rfl rfl ⟨by omega, by omega⟩) ?_
      refine Ops.y (v := .int .i64 _) (Y.assign rfl) ?_
      refine Ops.nil ?_
      exact ⟨j + 1, ⟨⟨rfl, rfl, rfl, rfl, rfl, rfl, trivial⟩, I, hj1⟩, by omega⟩
    refine WP.exit ?_
    refine WP.region ?_
    refine Ops.y (v := .int .i64 _) (Y.move rfl) ?_
    refine Ops.y (v := .int .i64 _) (Y.addi rfl rfl ⟨by omega, by omega⟩) ?_
    refine Ops.y (v := .int .i64 _) (Y.assign rfl) ?_
    refine Ops.nil ?_
    exact ⟨k + 1, ⟨⟨rfl, rfl, rfl, trivial⟩, ⟨h1, gl.trans hl, I.weak ((List.sublist_cons_self _ _).trans (List.sublist_cons_self _ _))⟩, hk'⟩, by omega⟩
  refine WP.exit ?_
  refine WP.seq ?_
  refine WP.region ?_
  refine Ops.y (v := .bool _) (Y.assign rfl) ?_
  refine Ops.nil ?_
  refine WP.ret ?_
  repeat (first | refine thenE_ret ?_ | refine blockE_ret ?_)
  exact retQ.mk (vs := [.bool _]) rfl ⟨rfl, trivial⟩ I.ext_of (by simp only [tup]; rw [decide_eq_true hpq])
theorem SameProgs_at (B : Base) (hB : B.ok) (p q : Prg) (hp : p.In B.h) (hq : q.In B.h) (he : p.er = q.er) : Fn Tryz.prog 10 [p.val, q.val] B (fun v _ => v = .bool true) := by
  have := SameProgs_ok B hB p q hp hq fun _ => he
  rwa [decide_eq_true (Prg.er_iff he).1] at this
end Go.TF
end
section
/- Needs: who is needed, by a queue. -/
namespace Go.TF
open Go Go.RowKit Go.Proofs
set_option maxRecDepth 20000

structure NdS where
  g : Nat
  o : Nat
  c : Nat
  q : List Int
  N : List Bool
  ms : List Nat
@[reducible] def NdU (b8 bo b2 : Nat) (p : Prg) (g o c : Nat) (q : List Int) (N : List Bool) : List SA := [box b8 [.slice (some ⟨g, o, none⟩) (q.map vI).length c] 78, ownQ 3 g o c (q.map vI), box bo (N.map vB) 4, box b2 p.enc 25]
structure NdJ (B : Base) (b8 bo b2 : Nat) (p : Prg) (pr : Int) (s : NdS) (w : World) : Prop where
  inv : ∃ h1, B.h.le h1 ∧ Inv B h1 (NdU b8 bo b2 p s.g s.o s.c s.q s.N ++ s.ms.map markSA) w
  len : s.N.length = p.preds.xs.length
  snd : ∀ i : Int, 0 ≤ i → i < p.preds.xs.length → bv s.N i = true → Reach (usesL p.rules.xs) pr i
  qin : ∀ x ∈ s.q, (0 ≤ x ∧ x < p.preds.xs.length) ∧ Reach (usesL p.rules.xs) pr x
  clo : ∀ c ∈ usesL p.rules.xs, bv s.N c.1 = true → bv s.N c.2.atom.pred = true ∨ c.2.atom.pred ∈ s.q
  has : bv s.N pr = true ∨ pr ∈ s.q
  small : s.q.length ≤ 1 + 24 * trues s.N
end Go.TF
end
section
/- The roads, their arrays the caller's own. -/
namespace Go.TF
open Go Go.RowKit Go.Proofs
set_option maxRecDepth 20000

def prC : List Prd := [⟨bEdge, 2, 0⟩, ⟨bFar, 2, 2⟩, ⟨bLone, 1, 0⟩]
structure RoadsM (v : Value) (h : Heap) (M : List SA) (bp br : Nat) (r0 r1 r2 r3 r4 r5 r6 : Rul) : Prop where
  val : v = .agg #[.slice (some ⟨bp, 0, none⟩) 3 3, .slice (some ⟨br, 0, none⟩) 7 7]
  own : M = [box br ([r0, r1, r2, r3, r4, r5, r6].flatMap Rul.enc) 64, box bp (prC.flatMap Prd.enc) 53]
  is : ∀ x ∈ [r0, r1, r2, r3, r4, r5, r6], x.In h
  cap : ∀ x ∈ [r0, r1, r2, r3, r4, r5, r6], x.body.xs.length ≤ x.body.cap
  er : [r0, r1, r2, r3, r4, r5, r6].map Rul.er = roadsC.rules.xs
end Go.TF
end
section
/- What the laws of programs begin with. -/
namespace Go.TF
open Go Go.RowKit Go.Proofs
set_option maxRecDepth 20000

def LtlS (x : Ltl) : Sp := fun u h => ∃ y : Ltl, u = y.val ∧ y.er = x ∧ y.In h
theorem LtlS.mono {x : Ltl} : MonoS (LtlS x) := fun _ _ _ hl ⟨s, a, b, c⟩ => ⟨s, a, b, c.le hl⟩
def LtlsS (xs : List Ltl) : Sp := fun u h => ∃ s : Sl Ltl, u = s.val ∧ s.xs.map Ltl.er = xs ∧ Ltls s h ∧ s.at_ = some ⟨s.blk, s.off, none⟩
theorem LtlsS.mono {xs : List Ltl} : MonoS (LtlsS xs) := fun _ _ _ hl ⟨s, a, b, c, d⟩ => ⟨s, a, b, c.le hl, d⟩
def LtlsF (xs : List Ltl) : Sp := fun u h => ∃ s : Sl Ltl, u = s.val ∧ s.xs.map Ltl.er = xs ∧ Ltls s h ∧ s.at_ = some ⟨s.blk, s.off, none⟩ ∧ s.cap = s.xs.length
theorem LtlsF.mono {xs : List Ltl} : MonoS (LtlsF xs) := fun _ _ _ hl ⟨s, a, b, c, d⟩ => ⟨s, a, b, c.le hl, d⟩
theorem RoadsAt.nm {p : Prg} {h : Heap} (x : RoadsAt p h) : p.Nm := by
  unfold Prg.Nm
  rw [x.preds]
  decide
theorem RoadsAt.check {p : Prg} {h : Heap} (x : RoadsAt p h) : checkProg p = 0 := by rw [← checkProg_er, x.er, roads_check]
theorem RoadsAt.uses {p : Prg} {h : Heap} (x : RoadsAt p h) : (usesL p.rules.xs).map cEr = usesL roadsC.rules.xs := by
  rw [← usesL_er]
  have := congrArg (fun q : Prg => q.rules.xs) x.er
  exact congrArg usesL this
theorem RoadsAt.len {p : Prg} {h : Heap} (x : RoadsAt p h) : p.preds.xs.length = 3 := by rw [x.preds]; rfl
end Go.TF
end
section
/- The laws of facts: each returns true. -/
namespace Go.TF
open Go Go.RowKit Go.Proofs
set_option maxRecDepth 20000

def pathsC : List Fct := [⟨0, 0, 1, 0⟩, ⟨0, 1, 2, 0⟩, ⟨1, 0, 1, 4⟩]
theorem paths_ok (B : Base) (hB : B.ok) : Fn Tryz.prog 36 [] B (fun v h => ∃ s : Sl Fct, v = s.val ∧ s.xs = pathsC ∧ Fcts s h) := by
  refine Fn.of Tryz.func36 rfl Tryz.ntmps36 (by kernel_rfl) (by simp) ?_
  intro e
  have I := Inv.start hB
  refine WP.seq ?_
  refine WP.region ?_
  refine Ops.y (v := .slice _ _ _) (Y.assign rfl) ?_
  refine Ops.nil ?_
  refine WP.seq ?_
  refine WP.region ?_
  refine Ops.y (v := .agg #[.int .i64 _, .int .i64 _, .int .i64 _, .int .i64 _]) (Y.build pl_83 Tryz.zeroValue83 rfl rfl) ?_
  refine Ops.y (v := .agg #[.int .i64 _, .int .i64 _, .int .i64 _, .int .i64 _]) (Y.build pl_83 Tryz.zeroValue83 rfl rfl) ?_
  refine Ops.y (v := .agg #[.int .i64 _, .int .i64 _, .int .i64 _, .int .i64 _]) (Y.build pl_83 Tryz.zeroValue83 rfl rfl) ?_
  refine Ops.go (O.mksl (xs := [⟨0, 0, 1, 0⟩, ⟨0, 1, 2, 0⟩, ⟨1, 0, 1, 4⟩]) (enc := Fct.enc) I Tryz.underlying31 Tryz.sizeOf83 Tryz.zeroValue83 rfl (Nat.le_of_ble_eq_true rfl) rfl rfl (by decide) (fun _ => rfl) ?_)
  intro b4 h4 w I le4 sl4
  refine Ops.y (v := .slice _ _ _) (Y.assign rfl) ?_
  refine Ops.nil ?_
  refine WP.ret ?_
  repeat (first | refine thenE_ret ?_ | refine blockE_ret ?_)
  exact retQ.mk (vs := [.slice _ _ _]) rfl ⟨rfl, trivial⟩ I.ext_of (⟨⟨some ⟨b4, 0, none⟩, 3, [⟨0, 0, 1, 0⟩, ⟨0, 1, 2, 0⟩, ⟨1, 0, 1, 4⟩]⟩, rfl, rfl, sl4, by simp⟩)
end Go.TF
end
section
/- Package text: what is shown of a right program is read as it was: plain; the law's beginning: walked. -/
namespace Go.TF
open Go Go.RowKit Go.Proofs
set_option maxRecDepth 20000

theorem prog_len {p : Prg} (h : checkProg p = 0) : (progL p).length ≤ 1183 := by
  have := shown_len h (linesP p).length
  rwa [List.take_length] at this
theorem readOK_show {p : Prg} (h : checkProg p = 0) : readOK (mk (progL p)) = some (p.preds.xs, p.rules.xs.map Rul.er) := by
  have hl := prog_len h
  unfold readOK
  rw [if_neg (by rw [mk_size]; omega)]
  rw [show tx (mk (progL p)) = progL p from rfl, readR_ok h]
  simp only
  have e : prgOf (p.preds.xs, p.rules.xs.map Rul.er) = p.er := rfl
  rw [e, checkProg_er, progL_er, if_pos ⟨h, rfl⟩]
theorem readE_show {p : Prg} (h : checkProg p = 0) : readE (mk (progL p)) = 0 := by
  have hl := prog_len h
  unfold readE
  rw [if_neg (by rw [mk_size]; omega), readOK_show h]; rfl
theorem readP_show {p : Prg} (h : checkProg p = 0) : readP (mk (progL p)) = p.er := by
  unfold readP; rw [readOK_show h]; rfl
abbrev sA : ByteArray := ⟨#[112, 114, 101, 100, 32, 97, 32, 48, 32, 48]⟩
theorem sA_none : readOK sA = none := by
  have h1 : readR (tx sA) = some ([⟨⟨#[97]⟩, 0, 0⟩], []) := by kernel_rfl
  unfold readOK
  rw [if_neg (by show ¬ 4096 < 10; omega), h1]
  simp only
  rw [if_neg]
  rintro ⟨_, h⟩
  have : progL (prgOf ([⟨⟨#[97]⟩, 0, 0⟩], [])) = [112, 114, 101, 100, 32, 97, 32, 48, 32, 48, 10] := by kernel_rfl
  rw [this] at h
  cases h
theorem sA_one : readE sA = 1 := by unfold readE; rw [if_neg (by show ¬ 4096 < 10; omega), sA_none]; rfl
theorem roads_shown : progL roadsC = progL roadsC ∧ (progL roadsC).length = 185 ∧ (progL roadsC).take 14 = [112, 114, 101, 100, 32, 101, 100, 103, 101, 32, 50, 32, 48, 10] ∧ (progL roadsC).drop 152 = [108, 111, 110, 101, 40, 65, 41, 32, 58, 45, 32, 101, 100, 103, 101, 40, 65, 44, 66, 41, 44, 32, 33, 102, 97, 114, 40, 65, 44, 65, 41, 46, 10] := ⟨rfl, by kernel_rfl, by kernel_rfl, by kernel_rfl⟩
theorem paths_shown : factsL roadsC.preds.xs pathsC = [101, 100, 103, 101, 40, 48, 44, 49, 41, 46, 10, 101, 100, 103, 101, 40, 49, 44, 50, 41, 46, 10, 102, 97, 114, 40, 48, 44, 49, 41, 32, 61, 32, 52, 46, 10] := by kernel_rfl
theorem rd_shown {p : Prg} (h : p.er = roadsC) : progL p = progL roadsC := by rw [← progL_er, h]
end Go.TF
end
section
/- What the document reads a text as is what the program reads it as: plain. -/
namespace Go.TF
open Go Go.RowKit Go.Proofs
set_option maxRecDepth 20000

theorem dok_some {s : ByteArray} {st : St} (h : readOK s = some st) : checkProg (prgOf st) = 0 ∧ progL (prgOf st) = tx s := by
  unfold readOK at h
  split at h
  · cases h
  · split at h
    · cases h
    · split at h
      · rename_i hc; injection h with h; subst h; exact hc
      · cases h
theorem doc_iff {s : ByteArray} (hs : s.size ≤ 4096) {p : Prg} (he : p.er = prgOf (readA (tx s))) : readOK s = if checkProg p = 0 ∧ progL p = tx s then some (p.preds.xs, p.rules.xs.map Rul.er) else none := by
  split
  · rename_i hc
    have hR : readR (tx s) = some (p.preds.xs, p.rules.xs.map Rul.er) := by rw [← hc.2]; exact readR_ok hc.1
    have e : prgOf (p.preds.xs, p.rules.xs.map Rul.er) = p.er := rfl
    unfold readOK
    rw [if_neg (by omega), hR]
    simp only
    rw [e, checkProg_er, progL_er, if_pos hc]
  · rename_i hc
    cases hr : readOK s with
    | none => rfl
    | some st =>
      exfalso
      obtain ⟨h3, h4⟩ := dok_some hr
      have hA : readA (tx s) = (st.1, st.2.map Rul.er) := by rw [← h4]; exact readA_ok h3
      have he2 : p.er = (prgOf st).er := by rw [he, hA]; rfl
      exact hc ⟨by rw [← checkProg_er, he2, checkProg_er, h3], by rw [← progL_er, he2, progL_er, h4]⟩
end Go.TF
end
section
/- The document reads a program: walked. -/
namespace Go.TF
open Go Go.RowKit Go.Proofs
set_option maxRecDepth 20000

abbrev PfS := Bs × Option Addr × Nat × Option Addr × Nat × List Prd × List Rul × Heap
def pfM (b4 b2 : Nat) (z : PfS) : List SA := linM b4 z.2.1 z.2.2.2.2.2.1.length z.2.2.1 z.2.2.2.1 z.2.2.2.2.2.2.1.length z.2.2.2.2.1 z.2.2.2.2.2.1 z.2.2.2.2.2.2.1 [box b2 [.slice none 0 0, .slice none 0 0] 25]
theorem RulO.le {l : List Prd} {t : Bs} {r : Rul} {h0 h h' : Heap} (o : RulO l t r h0 h) (hl : h.le h') : RulO l t r h0 h' := ⟨o.ho.le hl, o.hn, o.bo.le hl, o.bn, fun x hx => ⟨(o.lo x hx).1.le hl, (o.lo x hx).2⟩, o.er⟩
theorem RulO.older {l : List Prd} {t : Bs} {r : Rul} {h0 h1 h : Heap} (o : RulO l t r h0 h) (hl : h1.le h0) : RulO l t r h1 h := ⟨o.ho.older hl, o.hn, o.bo.older hl, o.bn, fun x hx => ⟨(o.lo x hx).1.older hl, (o.lo x hx).2⟩, o.er⟩
def RulV (l : List Prd) (t : Bs) (h1 : Heap) : Sp := fun u h => ∃ r : Rul, u = r.val ∧ RulO l t r h1 h
theorem RulV.mono {l : List Prd} {t : Bs} {h1 : Heap} : MonoS (RulV l t h1) := fun _ _ _ hl ⟨r, e, o⟩ => ⟨r, e, o.le hl⟩
def RulC (l : List Prd) (t : Bs) (h1 : Heap) (cs : List Value) (h : Heap) : Prop := ∃ r : Rul, cs = r.enc ∧ RulO l t r h1 h
theorem RulC.mono {l : List Prd} {t : Bs} {h1 : Heap} : MonoP (RulC l t h1) := fun _ _ _ hl ⟨r, e, o⟩ => ⟨r, e, o.le hl⟩
structure PfJ (B : Base) (s : ByteArray) (b4 b2 : Nat) (z : PfS) (w : World) : Prop where
  inv : Inv B z.2.2.2.2.2.2.2 (pfM b4 b2 z) w
  gl : B.h.le z.2.2.2.2.2.2.2
  rd : ∃ f, readF f z.1 (z.2.2.2.2.2.1, z.2.2.2.2.2.2.1.map Rul.er) = readA (tx s) ∧ z.1.length < f
  rin : ∀ r ∈ z.2.2.2.2.2.2.1, r.In z.2.2.2.2.2.2.2
  nm : ∀ x ∈ z.2.2.2.2.2.1, x.name.size ≤ 4096
  len : z.2.2.2.2.2.1.length + z.2.2.2.2.2.2.1.length + z.1.length ≤ 4096
theorem cut_rest {s a x y : Bs} {b : Bool} (h : Lib.cut s a = (x, y, b)) (ha : 1 ≤ a.length) (hs : s ≠ []) : y.length + 1 ≤ s.length := by
  cases b with
  | true => exact cut_more h ha
  | false =>
    unfold Lib.cut at h
    split at h
    · injection h with _ h2
      injection h2 with _ h3
      cases h3
    · injection h with _ h2
      injection h2 with h2 _
      subst h2
      exact List.length_pos_iff.2 hs
set_option maxHeartbeats 16000000 in
theorem ProgFrom_ok (B : Base) (hB : B.ok) (s : ByteArray) (hs : s.size ≤ 4096) : Fn Tryz.prog 18 [.string s] B (fun v h => ∃ p : Prg, v = .tuple #[p.val, .bool (readOK s).isSome] ∧ p.In h ∧ p.Nm ∧ p.er = readP s) := by
  have hl0 := tx_len s
  refine Fn.of Tryz.func18 rfl Tryz.ntmps18 (by kernel_rfl) (by simp) ?_
  intro e
  have I := Inv.start hB
  refine WP.seq ?_
  refine WP.region ?_
  refine Ops.go (O.alloc I Tryz.zeroValue25 rfl ?_)
  intro b2 w I
  refine Ops.y (v := .bool _) (Y.assign rfl) ?_
  refine Ops.nil ?_
  refine WP.seq ?_
  refine WP.region ?_
  refine Ops.go (O.alloc I Tryz.zeroValue25 rfl ?_)
  intro b4 w I
  refine Ops.nil ?_
  refine WP.seq ?_
  refine WP.seq ?_
  refine WP.region ?_
  refine Ops.y (v := .string _) (Y.move rfl) ?_
  refine Ops.y (v := .string _) (Y.assign rfl) ?_
  refine Ops.nil ?_
  have I := ((I.nilSl 64 5).nilSl 53 3)
  refine WP.block ?_
  refine WP.loopE (σ := PfS) (fun z => [(0, .string s), (2, .pointer (some ⟨b2, 0, none⟩)), (4, .pointer (some ⟨b4, 0, none⟩)), (5, .string (mk z.1))]) (PfJ B s b4 b2) (fun z => z.1.length)
    ⟨(tx s, none, 0, none, 0, [], [], B.h), ⟨rfl, rfl, rfl, by rw [show mk (tx s) = s from mk_tx s]; rfl, trivial⟩, ⟨I, Heap.le.refl _, ⟨(tx s).length + 1, rfl, Nat.lt_succ_self _⟩, fun _ h => (by cases h), fun _ h => (by cases h), by show 0 + 0 + (tx s).length ≤ 4096; omega⟩⟩ ?_
  clear I
  rintro ⟨rest, q, c, q2, c2, ps, rs, hh⟩ e w ⟨I, gl, ⟨f, hf, hrf⟩, hin, hnm, hln⟩
  dsimp only at I gl hf hrf hin hnm hln ⊢
  refine WP.seq ?_
  refine WP.seq ?_
  refine WP.region ?_
  refine Ops.y (v := .string _) (Y.move rfl) ?_
  refine Ops.y (v := .bool _) (Y.nes rfl rfl) ?_
  refine Ops.nil ?_
  refine WP.cond rfl (fun h18 => ?_) (fun h18 => ?_)
  · have hne : rest ≠ [] := by
      rintro rfl
      rw [beq_tx] at h18
      simp at h18
    obtain ⟨f, rfl⟩ : ∃ g, f = g + 1 := ⟨f - 1, by omega⟩
    rw [readF, if_neg hne] at hf
    obtain ⟨ca, hca⟩ : ∃ z, Lib.cut rest [10] = z := ⟨_, rfl⟩
    obtain ⟨ln, r2, bb⟩ := ca
    have hca1 := cut_len rest [10]
    have hca2 := cut_rest hca (by decide) hne
    rw [hca] at hca1 hf
    dsimp only at hca1 hf
    obtain ⟨cb, hcb⟩ : ∃ z, Lib.cut ln [32] = z := ⟨_, rfl⟩
    obtain ⟨w7, w8, b9⟩ := cb
    have hcb1 := cut_len ln [32]
    rw [hcb] at hcb1
    dsimp only at hcb1
    have hP : isPredF ln = (b9 && decide (w7 = [112, 114, 101, 100]) && decide (w8 ≠ []) && decide (w8.head? ≠ some 58) && decide (w8.head? ≠ some 61)) := by unfold isPredF; rw [hcb]
    refine WP.skip ?_
    refine WP.block ?_
    refine WP.seq ?_
    refine WP.region ?_
    refine Ops.y (v := .string _) (Y.assign rfl) ?_
    refine Ops.nil ?_
    refine WP.seq ?_
    refine WP.region ?_
    refine Ops.y (v := .string _) (Y.move rfl) ?_
    refine Ops.go (O.callv I Tryz.call47 (dcut_is _ I.base_ok (mk rest) [10] (by rw [mk_size]; omega) (by decide) hca) rfl ?_)
    intro w I
    refine Ops.y (v := .tuple #[_, _, _]) (Y.move rfl) ?_
    refine Ops.y (v := .string _) (Y.extract rfl rfl) ?_
    refine Ops.y (v := .string _) (Y.extract rfl rfl) ?_
    refine Ops.y (v := .bool _) (Y.extract rfl rfl) ?_
    refine Ops.y (v := .string _) (Y.assign rfl) ?_
    refine Ops.y (v := .string _) (Y.assign rfl) ?_
    refine Ops.nil ?_
    refine WP.seq ?_
    refine WP.seq ?_
    refine WP.region ?_
    refine Ops.y (v := .string _) (Y.move rfl) ?_
    refine Ops.go (O.callv I Tryz.call47 (dcut_is _ I.base_ok (mk ln) [32] (by rw [mk_size]; omega) (by decide) hcb) rfl ?_)
    intro w I
    refine Ops.y (v := .tuple #[_, _, _]) (Y.move rfl) ?_
    refine Ops.y (v := .string _) (Y.extract rfl rfl) ?_
    refine Ops.y (v := .string _) (Y.extract rfl rfl) ?_
    refine Ops.y (v := .bool _) (Y.extract rfl rfl) ?_
    refine Ops.y (v := .string _) (Y.assign rfl) ?_
    refine Ops.y (v := .string _) (Y.assign rfl) ?_
    refine Ops.y (v := .bool _) (Y.assign rfl) ?_
    refine Ops.nil ?_
    refine WP.seq ?_
    refine WP.cutK (σ := Unit) (fun _ => [(0, .string s), (2, .pointer (some ⟨b2, 0, none⟩)), (4, .pointer (some ⟨b4, 0, none⟩)), (5, .string (mk r2)), (6, .string (mk ln)), (8, .string (mk w8)), (50, .bool (isPredF ln))])
      (fun _ w => Inv B hh (pfM b4 b2 (rest, q, c, q2, c2, ps, rs, hh)) w) ?_ ?_
    · cases b9 with
      | false =>
        refine WP.region ?_
        refine Ops.y (v := .bool _) (Y.move rfl) ?_
        refine Ops.y (v := .bool false) (Y.b (Y.move rfl) (rfl)) ?_
        refine Ops.gf rfl ?_
        refine Ops.gf rfl ?_
        refine Ops.y (v := .bool _) (Y.pick_f rfl rfl) ?_
        refine Ops.y (v := .bool _) (Y.move rfl) ?_
        refine Ops.gf rfl ?_
        refine Ops.gf rfl ?_
        refine Ops.gf rfl ?_
        refine Ops.y (v := .bool _) (Y.pick_f rfl rfl) ?_
        refine Ops.y (v := .bool _) (Y.move rfl) ?_
        refine Ops.gf rfl ?_
        refine Ops.gf rfl ?_
        refine Ops.gf rfl ?_
        refine Ops.y (v := .bool _) (Y.pick_f rfl rfl) ?_
        refine Ops.y (v := .bool _) (Y.move rfl) ?_
        refine Ops.gf rfl ?_
        refine Ops.gf rfl ?_
        refine Ops.gf rfl ?_
        refine Ops.y (v := .bool _) (Y.pick_f rfl rfl) ?_
        refine Ops.nil ?_
        exact ⟨(), ⟨rfl, rfl, rfl, rfl, rfl, rfl, congrArg Value.bool (by rw [hP]; rfl), trivial⟩, I⟩
      | true =>
        by_cases h7 : w7 = [112, 114, 101, 100]
        · cases w8 with
          | nil =>
            refine WP.region ?_
            refine Ops.y (v := .bool _) (Y.move rfl) ?_
            refine Ops.y (v := .bool true) (Y.b (Y.move rfl) (rfl)) ?_
            refine Ops.ygt rfl (v := .string _) (Y.move rfl) ?_
            refine Ops.ygt rfl (v := .bool true) (Y.is (Y.eqs rfl rfl) ((by rw [beq_tx]; exact congrArg Value.bool (decide_eq_true h7)))) ?_
            refine Ops.y (v := .bool _) (Y.pick_t rfl rfl) ?_
            refine Ops.y (v := .bool _) (Y.move rfl) ?_
            refine Ops.ygt rfl (v := .string _) (Y.move rfl) ?_
            refine Ops.ygt rfl (v := .int .i64 _) (Y.lenstr Tryz.underlying9 rfl) ?_
            refine Ops.ygt rfl (v := .bool false) (Y.dec_f (Y.gti rfl rfl) ((by show ¬ ((0 : Nat) : Int) > 0; omega))) ?_
            refine Ops.y (v := .bool _) (Y.pick_t rfl rfl) ?_
            refine Ops.y (v := .bool _) (Y.move rfl) ?_
            refine Ops.gf rfl ?_
            refine Ops.gf rfl ?_
            refine Ops.gf rfl ?_
            refine Ops.y (v := .bool _) (Y.pick_f rfl rfl) ?_
            refine Ops.y (v := .bool _) (Y.move rfl) ?_
            refine Ops.gf rfl ?_
            refine Ops.gf rfl ?_
            refine Ops.gf rfl ?_
            refine Ops.y (v := .bool _) (Y.pick_f rfl rfl) ?_
            refine Ops.nil ?_
            exact ⟨(), ⟨rfl, rfl, rfl, rfl, rfl, rfl, congrArg Value.bool (by rw [hP]; simp), trivial⟩, I⟩
          | cons ch x' =>
            have hg : (mk (ch :: x'))[0]? = some ch := rfl
            have hsz : (mk (ch :: x')).size = x'.length + 1 := mk_size _
            by_cases h58 : ch = 58
            · subst h58
              refine WP.region ?_
              refine Ops.y (v := .bool _) (Y.move rfl) ?_
              refine Ops.y (v := .bool true) (Y.b (Y.move rfl) (rfl)) ?_
              refine Ops.ygt rfl (v := .string _) (Y.move rfl) ?_
              refine Ops.ygt rfl (v := .bool true) (Y.is (Y.eqs rfl rfl) ((by rw [beq_tx]; exact congrArg Value.bool (decide_eq_true h7)))) ?_
              refine Ops.y (v := .bool _) (Y.pick_t rfl rfl) ?_
              refine Ops.y (v := .bool _) (Y.move rfl) ?_
              refine Ops.ygt rfl (v := .string _) (Y.move rfl) ?_
              refine Ops.ygt rfl (v := .int .i64 _) (Y.lenstr Tryz.underlying9 rfl) ?_
              refine Ops.ygt rfl (v := .bool true) (Y.dec_t (Y.gti rfl rfl) ((by rw [hsz]; omega))) ?_
              refine Ops.y (v := .bool _) (Y.pick_t rfl rfl) ?_
              refine Ops.y (v := .bool _) (Y.move rfl) ?_
              refine Ops.ygt rfl (v := .string _) (Y.move rfl) ?_
              refine Ops.ygt rfl (v := .int .u8 _) (Y.idxs Tryz.underlying9 rfl rfl (by decide) hg) ?_
              refine Ops.ygt rfl (v := .bool false) (Y.dec_f (Y.nei rfl rfl) ((fun h => h rfl))) ?_
              refine Ops.y (v := .bool _) (Y.pick_t rfl rfl) ?_
              refine Ops.y (v := .bool _) (Y.move rfl) ?_
              refine Ops.gf rfl ?_
              refine Ops.gf rfl ?_
              refine Ops.gf rfl ?_
              refine Ops.y (v := .bool _) (Y.pick_f rfl rfl) ?_
              refine Ops.nil ?_
              exact ⟨(), ⟨rfl, rfl, rfl, rfl, rfl, rfl, congrArg Value.bool (by rw [hP]; simp), trivial⟩, I⟩
            · have n58 : (ch.toNat : Int) ≠ 58 := fun e => h58 (UInt8.toNat_inj.1 (by show ch.toNat = 58; omega))
              by_cases h61 : ch = 61
              · subst h61
                refine WP.region ?_
                refine Ops.y (v := .bool _) (Y.move rfl) ?_
                refine Ops.y (v := .bool true) (Y.b (Y.move rfl) (rfl)) ?_
                refine Ops.ygt rfl (v := .string _) (Y.move rfl) ?_
                refine Ops.ygt rfl (v := .bool true) (Y.is (Y.eqs rfl rfl) ((by rw [beq_tx]; exact congrArg Value.bool (decide_eq_true h7)))) ?_
                refine Ops.y (v := .bool _) (Y.pick_t rfl rfl) ?_
                refine Ops.y (v := .bool _) (Y.move rfl) ?_
                refine Ops.ygt rfl (v := .string _) (Y.move rfl) ?_
                refine Ops.ygt rfl (v := .int .i64 _) (Y.lenstr Tryz.underlying9 rfl) ?_
                refine Ops.ygt rfl (v := .bool true) (Y.dec_t (Y.gti rfl rfl) ((by rw [hsz]; omega))) ?_
                refine Ops.y (v := .bool _) (Y.pick_t rfl rfl) ?_
                refine Ops.y (v := .bool _) (Y.move rfl) ?_
                refine Ops.ygt rfl (v := .string _) (Y.move rfl) ?_
                refine Ops.ygt rfl (v := .int .u8 _) (Y.idxs Tryz.underlying9 rfl rfl (by decide) hg) ?_
                refine Ops.ygt rfl (v := .bool true) (Y.dec_t (Y.nei rfl rfl) (n58)) ?_
                refine Ops.y (v := .bool _) (Y.pick_t rfl rfl) ?_
                refine Ops.y (v := .bool _) (Y.move rfl) ?_
                refine Ops.ygt rfl (v := .string _) (Y.move rfl) ?_
                refine Ops.ygt rfl (v := .int .u8 _) (Y.idxs Tryz.underlying9 rfl rfl (by decide) hg) ?_
                refine Ops.ygt rfl (v := .bool false) (Y.dec_f (Y.nei rfl rfl) ((fun h => h rfl))) ?_
                refine Ops.y (v := .bool _) (Y.pick_t rfl rfl) ?_
                refine Ops.nil ?_
                exact ⟨(), ⟨rfl, rfl, rfl, rfl, rfl, rfl, congrArg Value.bool (by rw [hP]; simp), trivial⟩, I⟩
              · have n61 : (ch.toNat : Int) ≠ 61 := fun e => h61 (UInt8.toNat_inj.1 (by show ch.toNat = 61; omega))
                refine WP.region ?_
                refine Ops.y (v := .bool _) (Y.move rfl) ?_
                refine Ops.y (v := .bool true) (Y.b (Y.move rfl) (rfl)) ?_
                refine Ops.ygt rfl (v := .string _) (Y.move rfl) ?_
                refine Ops.ygt rfl (v := .bool true) (Y.is (Y.eqs rfl rfl) ((by rw [beq_tx]; exact congrArg Value.bool (decide_eq_true h7)))) ?_
                refine Ops.y (v := .bool _) (Y.pick_t rfl rfl) ?_
                refine Ops.y (v := .bool _) (Y.move rfl) ?_
                refine Ops.ygt rfl (v := .string _) (Y.move rfl) ?_
                refine Ops.ygt rfl (v := .int .i64 _) (Y.lenstr Tryz.underlying9 rfl) ?_
                refine Ops.ygt rfl (v := .bool true) (Y.dec_t (Y.gti rfl rfl) ((by rw [hsz]; omega))) ?_
                refine Ops.y (v := .bool _) (Y.pick_t rfl rfl) ?_
                refine Ops.y (v := .bool _) (Y.move rfl) ?_
                refine Ops.ygt rfl (v := .string _) (Y.move rfl) ?_
                refine Ops.ygt rfl (v := .int .u8 _) (Y.idxs Tryz.underlying9 rfl rfl (by decide) hg) ?_
                refine Ops.ygt rfl (v := .bool true) (Y.dec_t (Y.nei rfl rfl) (n58)) ?_
                refine Ops.y (v := .bool _) (Y.pick_t rfl rfl) ?_
                refine Ops.y (v := .bool _) (Y.move rfl) ?_
                refine Ops.ygt rfl (v := .string _) (Y.move rfl) ?_
                refine Ops.ygt rfl (v := .int .u8 _) (Y.idxs Tryz.underlying9 rfl rfl (by decide) hg) ?_
                refine Ops.ygt rfl (v := .bool true) (Y.dec_t (Y.nei rfl rfl) (n61)) ?_
                refine Ops.y (v := .bool _) (Y.pick_t rfl rfl) ?_
                refine Ops.nil ?_
                exact ⟨(), ⟨rfl, rfl, rfl, rfl, rfl, rfl, congrArg Value.bool (by rw [hP]; simp [h7, h58, h61]), trivial⟩, I⟩
        · refine WP.region ?_
          refine Ops.y (v := .bool _) (Y.move rfl) ?_
          refine Ops.y (v := .bool true) (Y.b (Y.move rfl) (rfl)) ?_
          refine Ops.ygt rfl (v := .string _) (Y.move rfl) ?_
          refine Ops.ygt rfl (v := .bool false) (Y.is (Y.eqs rfl rfl) ((by rw [beq_tx]; exact congrArg Value.bool (decide_eq_false h7)))) ?_
          refine Ops.y (v := .bool _) (Y.pick_t rfl rfl) ?_
          refine Ops.y (v := .bool _) (Y.move rfl) ?_
          refine Ops.gf rfl ?_
          refine Ops.gf rfl ?_
          refine Ops.gf rfl ?_
          refine Ops.y (v := .bool _) (Y.pick_f rfl rfl) ?_
          refine Ops.y (v := .bool _) (Y.move rfl) ?_
          refine Ops.gf rfl ?_
          refine Ops.gf rfl ?_
          refine Ops.gf rfl ?_
          refine Ops.y (v := .bool _) (Y.pick_f rfl rfl) ?_
          refine Ops.y (v := .bool _) (Y.move rfl) ?_
          refine Ops.gf rfl ?_
          refine Ops.gf rfl ?_
          refine Ops.gf rfl ?_
          refine Ops.y (v := .bool _) (Y.pick_f rfl rfl) ?_
          refine Ops.nil ?_
          exact ⟨(), ⟨rfl, rfl, rfl, rfl, rfl, rfl, congrArg Value.bool (by rw [hP]; simp [h7]), trivial⟩, I⟩
    rintro _ e w I
    refine WP.cond rfl (fun h50 => ?_) (fun h50 => ?_)
    · have hp : isPredF ln = true := h50
      obtain ⟨cc, hcc⟩ : ∃ z, Lib.cut w8 [32] = z := ⟨_, rfl⟩
      obtain ⟨x10, x11, b12⟩ := cc
      have hcc1 := cut_len w8 [32]
      rw [hcc] at hcc1
      dsimp only at hcc1
      obtain ⟨cd, hcd⟩ : ∃ z, Lib.cut x11 [32] = z := ⟨_, rfl⟩
      obtain ⟨x13, x14, b15⟩ := cd
      have hcd1 := cut_len x11 [32]
      rw [hcd] at hcd1
      dsimp only at hcd1
      obtain ⟨pr, hpr⟩ : ∃ z : Prd, z = ⟨mk x10, saidL x13, saidL x14⟩ := ⟨_, rfl⟩
      have hlF : lineF (ps, rs.map Rul.er) ln = (ps ++ [pr], rs.map Rul.er) := by
        unfold lineF predF
        rw [if_pos hp, hcb]
        dsimp only
        rw [hcc]
        dsimp only
        rw [hcd, hpr]
      rw [hlF] at hf
      refine WP.seq ?_
      refine WP.region ?_
      refine Ops.y (v := .string _) (Y.move rfl) ?_
      refine Ops.go (O.callv I Tryz.call47 (dcut_is _ I.base_ok (mk w8) [32] (by rw [mk_size]; omega) (by decide) hcc) rfl ?_)
      intro w I
      refine Ops.y (v := .tuple #[_, _, _]) (Y.move rfl) ?_
      refine Ops.y (v := .string _) (Y.extract rfl rfl) ?_
      refine Ops.y (v := .string _) (Y.extract rfl rfl) ?_
      refine Ops.y (v := .bool _) (Y.extract rfl rfl) ?_
      refine Ops.y (v := .string _) (Y.assign rfl) ?_
      refine Ops.y (v := .string _) (Y.assign rfl) ?_
      refine Ops.y (v := .bool _) (Y.assign rfl) ?_
      refine Ops.nil ?_
      refine WP.seq ?_
      refine WP.region ?_
      refine Ops.y (v := .string _) (Y.move rfl) ?_
      refine Ops.go (O.callv I Tryz.call47 (dcut_is _ I.base_ok (mk x11) [32] (by rw [mk_size]; omega) (by decide) hcd) rfl ?_)
      intro w I
      refine Ops.y (v := .tuple #[_, _, _]) (Y.move rfl) ?_
      refine Ops.y (v := .string _) (Y.extract rfl rfl) ?_
      refine Ops.y (v := .string _) (Y.extract rfl rfl) ?_
      refine Ops.y (v := .bool _) (Y.extract rfl rfl) ?_
      refine Ops.y (v := .string _) (Y.assign rfl) ?_
      refine Ops.y (v := .string _) (Y.assign rfl) ?_
      refine Ops.y (v := .bool _) (Y.assign rfl) ?_
      refine Ops.nil ?_
      have I : Inv B hh (ownSl 53 3 (.slice q ps.length c) ps.length (ps.flatMap Prd.enc) :: [ownSl 64 5 (.slice q2 rs.length c2) rs.length (rs.flatMap Rul.enc), box b4 [.slice q ps.length c, .slice q2 rs.length c2] 25, box b2 [.slice none 0 0, .slice none 0 0] 25]) w := I
      refine WP.seq ?_
      refine WP.regionG mixed RAp.pre ⟨hh, none⟩ (J := JAp B [ownSl 64 5 (.slice q2 rs.length c2) rs.length (rs.flatMap Rul.enc), box b4 [.slice q ps.length c, .slice q2 rs.length c2] 25, box b2 [.slice none 0 0, .slice none 0 0] 25] 53 3 ps.length 1 (.slice q ps.length c) (ps.flatMap Prd.enc) (Prd.enc ⟨mk x10, saidL x13, saidL x14⟩) 9) ⟨rfl, I.drew⟩ 10 (by kernel_rfl) ?_
      refine OpsG.y_ (v := .pointer (some ⟨_, _, none⟩)) (fun _ => runsG_none _) RAp.pre (JAp.set (by decide)) (fun _ s w us hl hj => have I := hj.base; have hl := hl.h; Y.fa0 fa_25_0 rfl) ?_
      refine OpsG.y_ (v := .slice _ _ _) (fun _ => runsG_none _) RAp.pre (JAp.set (by decide)) (fun _ s w us hl hj => have I := hj.base; have hl := hl.h; Y.loadv ty_22 rfl (I.rdbox 1 rfl 0 1) rfl rfl) ?_
      refine OpsG.y_ (v := .string _) (fun _ => runsG_none _) RAp.pre (JAp.set (by decide)) (fun _ s w us hl hj => have I := hj.base; have hl := hl.h; Y.move rfl) ?_
      refine OpsG.y_ (v := .string _) (fun _ => runsG_none _) RAp.pre (JAp.set (by decide)) (fun _ s w us hl hj => have I := hj.base; have hl := hl.h; Y.move rfl) ?_
      refine OpsG.x_ (Φ := KnAp (EqV (.int .i64 (saidL x13)))) (KnAp.mono EqV.mono) (fun _ => runsG_none _) (fun D' z w hDk hl hj => ?_) ?_
      · refine AllG.all fun us => ?_
        refine hj.know (by decide) fun N I => ?_
        have hl := hl.h
        refine O.call I Tryz.call48 (said_ok _ I.base_ok (mk x13) (by rw [mk_size]; omega)) rfl ?_
        rintro _ h2 w I hl' rfl
        exact ⟨_, hl', I, rfl⟩
      refine OpsG.y_ (v := .string _) (fun _ => runsG_none _) RAp.pre (JAp.set (by decide)) (fun _ s w us hl hj => have I := hj.base; have hl := hl.h; Y.move rfl) ?_
      refine OpsG.x_ (Φ := KnAp (EqV (.int .i64 (saidL x14)))) (KnAp.mono EqV.mono) (fun _ => runsG_none _) (fun D' z w hDk hl hj => ?_) ?_
      · intro u67 q67
        refine hj.know (by decide) fun N I => ?_
        have hl := hl.h
        refine O.call I Tryz.call48 (said_ok _ I.base_ok (mk x14) (by rw [mk_size]; omega)) rfl ?_
        rintro _ h2 w I hl' rfl
        exact ⟨_, hl', I, rfl⟩
      refine OpsG.x_ (Φ := KnAp (EqV (.agg #[.string (mk x10), .int .i64 (saidL x13), .int .i64 (saidL x14)]))) (KnAp.mono EqV.mono) (fun _ => runsG_none _) (fun D' z w hDk hl hj => ?_) ?_
      · intro u67 q67 u69 q69
        obtain ⟨⟩ := q67 rfl
        obtain ⟨⟩ := q69 rfl
        refine hj.know (by decide) fun N I => ?_
        have hl := hl.h
        exact O.yx I (Y.build pl_53 Tryz.zeroValue53 rfl rfl) (rfl)
      refine OpsG.x_ (Φ := KnA (LitW 53 (Prd.enc ⟨mk x10, saidL x13, saidL x14⟩) 1)) (KnA.mono LitW.mono) (fun _ => runsG_none _) (fun D' z w hDk hl hj => ?_) ?_
      · intro u67 q67 u69 q69 u70 q70
        obtain rfl : u70 = .agg #[.string (mk x10), .int .i64 (saidL x13), .int .i64 (saidL x14)] := q70 rfl
        refine hj.know (by decide) fun N I => ?_
        exact O.mklit (cs := Prd.enc ⟨mk x10, saidL x13, saidL x14⟩) I Tryz.underlying22 Tryz.sizeOf53 Tryz.zeroValue53 (by decide) (by decide) rfl rfl (fun v h w I le sl => ⟨h, le, I, sl⟩)
      refine OpsG.x_ (Φ := AtAp (ps.length + 1)) AtAp.mono (fun _ => runsG_none _) (fun D' z w hDk hl hj => ?_) ?_
      · intro u67 q67 u69 q69 u70 q70 u71 q71
        obtain ⟨bl, rfl, hbl⟩ := q71 rfl
        refine hj.app hDk fun I => ?_
        have kb : Known z.h bl (Prd.enc ⟨mk x10, saidL x13, saidL x14⟩) := ⟨fun j v hv => by simp [Heap.cell, hbl, hv]⟩
        refine O.append I Tryz.underlying22 et_53 0 rfl rfl rfl (I.rd kb.rd) rfl rfl (by decide) (by omega) (by omega) ?_
        intro g c w I
        exact ⟨g, c, rfl, I⟩
      refine OpsG.nil ?_
      intro D z w hD hl hj u67 q67 u69 q69 u70 q70 u71 q71 u72 q72
      obtain ⟨g, c4, rfl, h7'⟩ := q72 rfl
      have I := hj.inv
      rw [h7'] at I
      refine Ops.y (v := .pointer (some ⟨_, _, none⟩)) (Y.fa0 fa_25_0 rfl) ?_
      refine Ops.go (O.store (v := .slice _ _ _) I ty_22 2 rfl rfl rfl rfl rfl rfl (Nat.le_of_ble_eq_true rfl) rfl ?_)
      intro w I
      refine Ops.nil ?_
      refine WP.exit ?_
      refine ⟨(r2, some ⟨g, 0, none⟩, c4, q2, c2, ps ++ [pr], rs, z.h), ⟨⟨rfl, rfl, rfl, rfl, trivial⟩, ⟨?_, gl.trans hl.h, ⟨f, hf, by dsimp only; omega⟩, fun r hr => (hin r hr).le hl.h, fun y hy => ?_, by dsimp only; rw [List.length_append, List.length_singleton]; omega⟩⟩, by dsimp only; omega⟩
      · subst hpr
        simp only [pfM, linM, List.length_append, List.length_singleton, List.flatMap_append, List.flatMap_singleton]
        exact I
      · dsimp only at hy
        rcases List.mem_append.1 hy with hy | hy
        · exact hnm y hy
        · rw [List.mem_singleton] at hy
          subst hy; subst hpr
          rw [mk_size]; omega
    have hp : ¬ isPredF ln = true := by simpa using h50
    obtain ⟨wl, hwl⟩ : ∃ z, ln.take (ln.length - 1) = z := ⟨_, rfl⟩
    have hwll : wl.length ≤ 4096 := by rw [← hwl, List.length_take]; omega
    have hlF : lineF (ps, rs.map Rul.er) ln = (ps, rs.map Rul.er ++ [ruleF ps wl]) := by unfold lineF; rw [if_neg hp, hwl]
    rw [hlF] at hf
    refine WP.skip ?_
    refine WP.seq ?_
    refine WP.seq ?_
    refine WP.region ?_
    refine Ops.y (v := .string _) (Y.move rfl) ?_
    refine Ops.y (v := .int .i64 _) (Y.lenstr Tryz.underlying9 rfl) ?_
    refine Ops.y (v := .bool (decide _)) (Y.gti rfl rfl) ?_
    refine Ops.nil ?_
    refine WP.cutK (σ := Unit) (fun _ => [(0, .string s), (2, .pointer (some ⟨b2, 0, none⟩)), (4, .pointer (some ⟨b4, 0, none⟩)), (5, .string (mk r2)), (6, .string (mk wl))])
      (fun _ w => Inv B hh (pfM b4 b2 (rest, q, c, q2, c2, ps, rs, hh)) w) ?_ ?_
    · refine WP.cond_dec rfl (fun h76 => ?_) (fun h76 => ?_)
      · have h76' : 0 < ln.length := by rw [← mk_size ln]; omega
        have hsub : (((mk ln).size : Nat) : Int) - 1 = ((ln.length - 1 : Nat) : Int) := by rw [mk_size]; omega
        have e3 : (mk ln).extract 0 (ln.length - 1) = mk wl := by rw [mk_extract, hwl]; rfl
        refine WP.region ?_
        refine Ops.y (v := .string _) (Y.move rfl) ?_
        refine Ops.y (v := .string _) (Y.move rfl) ?_
        refine Ops.y (v := .int .i64 _) (Y.lenstr Tryz.underlying9 rfl) ?_
        refine Ops.y (v := .int .i64 _) (Y.subi rfl rfl ⟨by rw [mk_size]; omega, by rw [mk_size]; omega⟩) ?_
        refine Ops.y (v := .string _) (Y.slicestr (l := 0) (h := ln.length - 1) Tryz.underlying9 rfl (.inl ⟨rfl, rfl⟩) (.inr ⟨_, _, rfl, congrArg (Value.int .i64) hsub⟩) (Nat.zero_le _) (by rw [mk_size]; omega)) ?_
        refine Ops.y (v := .string _) (Y.assign rfl) ?_
        refine Ops.nil ?_
        exact ⟨(), ⟨rfl, rfl, rfl, rfl, congrArg Value.string e3, trivial⟩, I⟩
      · have h0 : ln = [] := List.length_eq_zero_iff.1 (by rw [← mk_size ln]; omega)
        have e3 : mk ln = mk wl := by rw [← hwl, h0]; rfl
        refine WP.skip ?_
        exact ⟨(), ⟨rfl, rfl, rfl, rfl, congrArg Value.string e3, trivial⟩, I⟩
    rintro _ e w I
    obtain ⟨h5, sp, le5, hvp, hxp, osp, I⟩ := I.settleO rfl
    dsimp only at hvp hxp osp I
    rw [← hvp] at I
    have isp : Prds sp h5 := ⟨osp.in fun _ => rfl, by rw [hxp]; omega⟩
    have I : Inv B h5 (ownSl 64 5 (.slice q2 rs.length c2) rs.length (rs.flatMap Rul.enc) :: [box b4 [sp.val, .slice q2 rs.length c2] 25, box b2 [.slice none 0 0, .slice none 0 0] 25]) w := I
    refine WP.regionG mixed RAq.pre ⟨h5, none⟩ (J := JAq B [box b4 [sp.val, .slice q2 rs.length c2] 25, box b2 [.slice none 0 0, .slice none 0 0] 25] 64 5 rs.length 1 (.slice q2 rs.length c2) (rs.flatMap Rul.enc) 7) ⟨rfl, I.drew⟩ 8 (by kernel_rfl) ?_
    refine OpsG.y_ (v := .pointer (some ⟨_, _, none⟩)) (fun _ => runsG_none _) RAq.pre (JAq.set (by decide)) (fun _ s w us hl hj => have I := hj.base; have hl := hl.h; Y.fa fa_25_1 rfl) ?_
    refine OpsG.y_ (v := .slice _ _ _) (fun _ => runsG_none _) RAq.pre (JAq.set (by decide)) (fun _ s w us hl hj => have I := hj.base; have hl := hl.h; Y.loadv ty_23 rfl (I.rdbox 0 rfl 1 1) rfl rfl) ?_
    refine OpsG.y_ (v := .pointer (some ⟨_, _, none⟩)) (fun _ => runsG_none _) RAq.pre (JAq.set (by decide)) (fun _ s w us hl hj => have I := hj.base; have hl := hl.h; Y.fa0 fa_25_0 rfl) ?_
    refine OpsG.y_ (v := .slice _ _ _) (fun _ => runsG_none _) RAq.pre (JAq.set (by decide)) (fun _ s w us hl hj => have I := hj.base; have hl := hl.h; Y.loadv ty_22 rfl (I.rdbox 0 rfl 0 1) rfl rfl) ?_
    refine OpsG.y_ (v := .string _) (fun _ => runsG_none _) RAq.pre (JAq.set (by decide)) (fun _ s w us hl hj => have I := hj.base; have hl := hl.h; Y.move rfl) ?_
    refine OpsG.x_ (Φ := KnAq (RulV sp.xs wl h5)) (KnAq.mono RulV.mono) (fun _ => runsG_none _) (fun D' z w hDk hl hj => ?_) ?_
    · refine AllG.all fun us => ?_
      refine hj.know (by decide) fun N I => ?_
      have hl := hl.h
      refine O.call I Tryz.call49 (ruleFrom_ok _ I.base_ok sp (isp.le hl) (mk wl) (by rw [mk_size]; omega)) rfl ?_
      rintro _ h1 w I hl' ⟨r, rfl, or⟩
      exact ⟨_, hl', I, ⟨r, rfl, or.older hl⟩⟩
    refine OpsG.x_ (Φ := KnAq (LitP 64 (RulC sp.xs wl h5))) (KnAq.mono (LitP.mono RulC.mono)) (fun _ => runsG_none _) (fun D' z w hDk hl hj => ?_) ?_
    · intro u87 q87
      obtain ⟨r, rfl, or⟩ := q87 rfl
      refine hj.know (by decide) fun N I => ?_
      exact O.mklit (cs := r.enc) I Tryz.underlying23 Tryz.sizeOf64 Tryz.zeroValue64 (by decide) (by decide) rfl rfl (fun v h w I le sl => ⟨h, le, I, r.enc, sl, r, rfl, or.le le⟩)
    refine OpsG.x_ (Φ := AtAq (RulC sp.xs wl h5) (rs.length + 1)) (AtAq.mono RulC.mono) (fun _ => runsG_none _) (fun D' z w hDk hl hj => ?_) ?_
    · intro u87 q87 u88 q88
      obtain ⟨cs, ⟨bl, rfl, hbl⟩, r, rfl, or⟩ := q88 rfl
      refine hj.app hDk fun I => ?_
      have kb : Known z.h bl r.enc := ⟨fun j v hv => by simp [Heap.cell, hbl, hv]⟩
      refine O.append I Tryz.underlying23 et_64 0 rfl rfl rfl (I.rd kb.rd) rfl rfl (by decide) (by omega) (by omega) ?_
      intro g c w I
      exact ⟨g, c, r.enc, rfl, ⟨r, rfl, or⟩, I⟩
    refine OpsG.nil ?_
    intro D z w hD hl hj u87 q87 u88 q88 u89 q89
    obtain ⟨g, c4, cs, rfl, h7', r, rfl, or⟩ := q89 rfl
    have I := hj.inv
    rw [h7'] at I
    refine Ops.y (v := .pointer (some ⟨_, _, none⟩)) (Y.fa fa_25_1 rfl) ?_
    refine Ops.go (O.store (v := .slice _ _ _) I ty_23 1 rfl rfl rfl rfl rfl rfl (Nat.le_of_ble_eq_true rfl) rfl ?_)
    intro w I
    refine Ops.nil ?_
    have hl := hl.h
    obtain ⟨h10, K, mono10, keep10⟩ := I.unsettle (osp.le hl) gl
    have gl10 : hh.le h10 := mono10 hh (le5.trans hl) (Heap.le.refl _)
    have hrin : r.In h10 := ⟨own_trms (or.ho.keep osp keep10) or.hn, ⟨(or.bo.keep osp keep10).in fun _ => rfl, by have := or.bn; omega⟩, fun x hx => own_trms ((or.lo x hx).1.keep osp keep10) (or.lo x hx).2⟩
    refine ⟨(r2, q, c, some ⟨g, 0, none⟩, c4, ps, rs ++ [r], h10), ⟨⟨rfl, rfl, rfl, rfl, trivial⟩, ⟨?_, gl.trans gl10, ⟨f, ?_, by dsimp only; omega⟩, fun y hy => ?_, hnm, by dsimp only; rw [List.length_append, List.length_singleton]; omega⟩⟩, by dsimp only; omega⟩
    · rw [hvp, hxp] at K
      simp only [pfM, linM, List.length_append, List.length_singleton, List.flatMap_append, List.flatMap_singleton]
      exact K
    · dsimp only
      rw [List.map_append, List.map_singleton, or.er, hxp]
      exact hf
    · dsimp only at hy ⊢
      rcases List.mem_append.1 hy with hy | hy
      · exact (hin y hy).le gl10
      · rw [List.mem_singleton] at hy
        subst hy; exact hrin
  have he : rest = [] := by
    rw [beq_tx] at h18
    simpa using h18
  subst he
  have hA : readA (tx s) = (ps, rs.map Rul.er) := by
    rw [← hf]
    cases f with
    | zero => rfl
    | succ f => rw [readF, if_pos rfl]
  have I : Inv B hh (ownSl 53 3 (.slice q ps.length c) ps.length (ps.flatMap Prd.enc) :: [ownSl 64 5 (.slice q2 rs.length c2) rs.length (rs.flatMap Rul.enc), box b4 [.slice q ps.length c, .slice q2 rs.length c2] 25, box b2 [.slice none 0 0, .slice none 0 0] 25]) w := I
  obtain ⟨h3, sp, le3, hvp, hxp, isp, I⟩ := I.settleSl (fun _ => rfl) rfl
  obtain ⟨h4, sr, le4, hvr, hxr, isr, I⟩ := I.settleSl (fun _ => rfl) rfl
  subst hxp
  subst hxr
  rw [← hvp, ← hvr] at I
  obtain ⟨p, hp⟩ : ∃ p : Prg, p = ⟨sp, sr⟩ := ⟨_, rfl⟩
  have hpin : p.In h4 := by
    subst hp
    exact ⟨⟨Sl.In.le isp le4, by show sp.xs.length ≤ _; omega⟩, ⟨isr, by show sr.xs.length ≤ _; omega⟩, fun y hy => (hin y hy).le (le3.trans le4)⟩
  have hpnm : p.Nm := fun y hy => by subst hp; have := hnm y hy; omega
  have hpe : p.er = prgOf (readA (tx s)) := by rw [hA]; subst hp; rfl
  have hD := doc_iff hs hpe
  have I : Inv B h4 [box b4 p.enc 25, box b2 [.slice none 0 0, .slice none 0 0] 25] w := by subst hp; exact I
  refine WP.exit ?_
  refine WP.seq ?_
  refine WP.seq ?_
  by_cases hc0 : checkProg p = 0
  · by_cases hct : progL p = tx s
    · rw [if_pos ⟨hc0, hct⟩] at hD
      refine WP.region ?_
      refine Ops.y (v := .agg #[_, _]) (Y.loadv ty_25 rfl (I.rdbox 0 rfl 0 2) rfl rfl) ?_
      refine Ops.go (O.callv I Tryz.call16 (CheckProg_ok _ I.base_ok p hpin hpnm) rfl ?_)
      intro w I
      refine Ops.y (v := .bool false) (Y.dec_f (Y.nei rfl rfl) ((fun h => h hc0))) ?_
      refine Ops.y (v := .bool _) (Y.move rfl) ?_
      refine Ops.ygt rfl (v := .agg #[_, _]) (Y.loadv ty_25 rfl (I.rdbox 0 rfl 0 2) rfl rfl) ?_
      refine Ops.gt rfl (O.callv I Tryz.call17 (ProgText_is _ I.base_ok p hpin hpnm hc0) rfl ?_)
      intro w I
      refine Ops.ygt rfl (v := .string _) (Y.move rfl) ?_
      refine Ops.ygt rfl (v := .bool false) (Y.is (Y.nes rfl rfl) ((by rw [beq_tx, decide_eq_true (show tx (mk (progL p)) = tx s from hct)]; rfl))) ?_
      refine Ops.y (v := .bool _) (Y.pick_f rfl rfl) ?_
      refine Ops.nil ?_
      refine WP.cond_f rfl ?_
      refine WP.skip ?_
      refine WP.seq ?_
      refine WP.region ?_
      refine Ops.y (v := .agg #[_, _]) (Y.loadv ty_25 rfl (I.rdbox 0 rfl 0 2) rfl rfl) ?_
      refine Ops.go (O.store (v := .agg #[_, _]) I ty_25 1 rfl rfl rfl rfl rfl rfl (Nat.le_of_ble_eq_true rfl) rfl ?_)
      intro w I
      refine Ops.y (v := .bool _) (Y.assign rfl) ?_
      refine Ops.nil ?_
      refine WP.ret ?_
      repeat (first | refine thenE_ret ?_ | refine blockE_ret ?_)
      exact retQ.mk (vs := [.agg #[_, _], .bool _]) rfl ⟨⟨_, _, _, _, _, rfl, ty_25, I.rdbox 1 rfl 0 2, rfl, rfl⟩, rfl, trivial⟩ I.ext_of (⟨p, by rw [hD]; rfl, hpin, hpnm, by unfold readP; rw [hD]; rfl⟩)
    · rw [if_neg (fun h => hct h.2)] at hD
      refine WP.region ?_
      refine Ops.y (v := .agg #[_, _]) (Y.loadv ty_25 rfl (I.rdbox 0 rfl 0 2) rfl rfl) ?_
      refine Ops.go (O.callv I Tryz.call16 (CheckProg_ok _ I.base_ok p hpin hpnm) rfl ?_)
      intro w I
      refine Ops.y (v := .bool false) (Y.dec_f (Y.nei rfl rfl) ((fun h => h hc0))) ?_
      refine Ops.y (v := .bool _) (Y.move rfl) ?_
      refine Ops.ygt rfl (v := .agg #[_, _]) (Y.loadv ty_25 rfl (I.rdbox 0 rfl 0 2) rfl rfl) ?_
      refine Ops.gt rfl (O.callv I Tryz.call17 (ProgText_is _ I.base_ok p hpin hpnm hc0) rfl ?_)
      intro w I
      refine Ops.ygt rfl (v := .string _) (Y.move rfl) ?_
      refine Ops.ygt rfl (v := .bool true) (Y.is (Y.nes rfl rfl) ((by rw [beq_tx, decide_eq_false (show ¬ tx (mk (progL p)) = tx s from hct)]; rfl))) ?_
      refine Ops.y (v := .bool _) (Y.pick_f rfl rfl) ?_
      refine Ops.nil ?_
      refine WP.cond_t rfl ?_
      refine WP.seq ?_
      refine WP.region ?_
      refine Ops.y (v := .agg #[.slice _ _ _, .slice _ _ _]) (Y.build pl_25 Tryz.zeroValue25 rfl rfl) ?_
      refine Ops.go (O.store (v := .agg #[_, _]) I ty_25 1 rfl rfl rfl rfl rfl rfl (Nat.le_of_ble_eq_true rfl) rfl ?_)
      intro w I
      refine Ops.y (v := .bool _) (Y.assign rfl) ?_
      refine Ops.nil ?_
      refine WP.ret ?_
      repeat (first | refine thenE_ret ?_ | refine blockE_ret ?_)
      exact retQ.mk (vs := [.agg #[_, _], .bool _]) rfl ⟨⟨_, _, _, _, _, rfl, ty_25, I.rdbox 1 rfl 0 2, rfl, rfl⟩, rfl, trivial⟩ I.ext_of (⟨⟨⟨none, 0, []⟩, ⟨none, 0, []⟩⟩, by rw [hD]; rfl, ⟨nilIs, ⟨nilIs, (fun x hx => by cases hx)⟩⟩, (fun x hx => by cases hx), by unfold readP; rw [hD]; rfl⟩)
  · rw [if_neg (fun h => hc0 h.1)] at hD
    refine WP.region ?_
    refine Ops.y (v := .agg #[_, _]) (Y.loadv ty_25 rfl (I.rdbox 0 rfl 0 2) rfl rfl) ?_
    refine Ops.go (O.callv I Tryz.call16 (CheckProg_ok _ I.base_ok p hpin hpnm) rfl ?_)
    intro w I
    refine Ops.y (v := .bool true) (Y.dec_t (Y.nei rfl rfl) (hc0)) ?_
    refine Ops.y (v := .bool _) (Y.move rfl) ?_
    refine Ops.gf rfl ?_
    refine Ops.gf rfl ?_
    refine Ops.gf rfl ?_
    refine Ops.gf rfl ?_
    refine Ops.y (v := .bool _) (Y.pick_t rfl rfl) ?_
    refine Ops.nil ?_
    refine WP.cond_t rfl ?_
    refine WP.seq ?_
    refine WP.region ?_
    refine Ops.y (v := .agg #[.slice _ _ _, .slice _ _ _]) (Y.build pl_25 Tryz.zeroValue25 rfl rfl) ?_
    refine Ops.go (O.store (v := .agg #[_, _]) I ty_25 1 rfl rfl rfl rfl rfl rfl (Nat.le_of_ble_eq_true rfl) rfl ?_)
    intro w I
    refine Ops.y (v := .bool _) (Y.assign rfl) ?_
    refine Ops.nil ?_
    refine WP.ret ?_
    repeat (first | refine thenE_ret ?_ | refine blockE_ret ?_)
    exact retQ.mk (vs := [.agg #[_, _], .bool _]) rfl ⟨⟨_, _, _, _, _, rfl, ty_25, I.rdbox 1 rfl 0 2, rfl, rfl⟩, rfl, trivial⟩ I.ext_of (⟨⟨⟨none, 0, []⟩, ⟨none, 0, []⟩⟩, by rw [hD]; rfl, ⟨nilIs, ⟨nilIs, (fun x hx => by cases hx)⟩⟩, (fun x hx => by cases hx), by unfold readP; rw [hD]; rfl⟩)
end Go.TF
end
section
/- The laws of texts begin: walked. -/
namespace Go.TF
open Go Go.RowKit Go.Proofs
set_option maxRecDepth 20000

def RoadS : Sp := fun u h => ∃ p : Prg, u = p.val ∧ RoadsAt p h
theorem RoadS.mono : MonoS RoadS := fun _ _ _ hl ⟨p, a, b⟩ => ⟨p, a, b.le hl⟩
theorem Show_rd (B : Base) (hB : B.ok) (p : Prg) (hp : RoadsAt p B.h) : Fn Tryz.prog 7 [p.val] B (fun v _ => v = .tuple #[.string (mk (progL roadsC)), .int .i64 0]) :=
  (Show_ok B hB p hp.is hp.nm).mono fun v h' _ hv => by rw [hv]; unfold showOf; rw [if_pos hp.check, rd_shown hp.er]
theorem Facts_rd (B : Base) (hB : B.ok) (p : Prg) (hp : RoadsAt p B.h) (f : Sl Fct) (hf : Fcts f B.h) (he : f.xs = pathsC) : Fn Tryz.prog 19 [p.val, f.val] B (fun v _ => v = .tuple #[.string (mk (factsL roadsC.preds.xs pathsC)), .int .i64 0]) :=
  (Facts_ok B hB p hp.is hp.nm f hf).mono fun v h' _ hv => by
    have hpr : p.preds.xs = roadsC.preds.xs := by have := congrArg (fun q : Prg => q.preds.xs) hp.er; exact this
    have ha : askR p pathsC = 0 := askR_iff.2 ⟨hp.check, checkFacts_ok.1 (by rw [hpr]; kernel_rfl)⟩
    rw [hv]; unfold factsV; rw [he, if_pos ha, hpr]
theorem Read_rd (B : Base) (hB : B.ok) (V : Vars B.h) : Fn Tryz.prog 8 [.string (mk (progL roadsC))] B (fun v h => ∃ g : Prg, v = .tuple #[g.val, .int .i64 0] ∧ g.In h ∧ g.er = roadsC) :=
  (Read_ok B hB V _).mono fun v h' _ ⟨g, hv, gi, _, ge⟩ => ⟨g, by rw [hv, readE_show roads_check], gi, by rw [ge, readP_show roads_check]; rfl⟩
theorem Read_sA (B : Base) (hB : B.ok) (V : Vars B.h) : Fn Tryz.prog 8 [.string sA] B (fun v _ => ∃ g : Prg, v = .tuple #[g.val, .int .i64 1]) :=
  (Read_ok B hB V _).mono fun v h' _ ⟨g, hv, gi, _, ge⟩ => ⟨g, by rw [hv, sA_one]⟩
set_option maxHeartbeats 4000000 in
theorem textBegun_ok (B : Base) (hB : B.ok) (V : Vars B.h) : Fn Tryz.prog 12 [] B (fun v _ => v = .bool true) := by
  refine Fn.of Tryz.func12 rfl Tryz.ntmps12 (by kernel_rfl) (by simp) ?_
  intro e
  have I := Inv.start hB
  refine WP.seq ?_
  refine WP.region ?_
  refine Ops.y (v := .bool _) (Y.assign rfl) ?_
  refine Ops.nil ?_
  refine WP.seq ?_
  refine WP.region ?_
  refine Ops.go (O.call I Tryz.call35 (roads_ok _ I.base_ok) rfl ?_)
  rintro _ h1 w I le1 ⟨p1, rfl, hp1⟩
  refine Ops.go (O.callv I Tryz.call7 (Show_rd _ I.base_ok p1 hp1) rfl ?_)
  intro w I
  refine Ops.y (v := .tuple #[_, _]) (Y.move rfl) ?_
  refine Ops.y (v := .string _) (Y.extract rfl rfl) ?_
  refine Ops.y (v := .int .i64 _) (Y.extract rfl rfl) ?_
  refine Ops.y (v := .string _) (Y.assign rfl) ?_
  refine Ops.y (v := .int .i64 _) (Y.assign rfl) ?_
  refine Ops.nil ?_
  refine WP.seq ?_
  refine WP.region ?_
  refine Ops.y (v := .string _) (Y.move rfl) ?_
  refine Ops.go (O.call I Tryz.call8 (Read_rd _ I.base_ok (V.le le1)) rfl ?_)
  rintro _ h2 w I le2 ⟨g, rfl, gi, ge⟩
  refine Ops.y (v := .tuple #[_, _]) (Y.move rfl) ?_
  refine Ops.y (v := .agg #[_, _]) (Y.extract rfl rfl) ?_
  refine Ops.y (v := .int .i64 _) (Y.extract rfl rfl) ?_
  refine Ops.go (O.alloc I Tryz.zeroValue25 rfl ?_)
  intro b3 w I
  refine Ops.go (O.store (v := .agg #[_, _]) I ty_25 0 rfl rfl rfl rfl rfl rfl (Nat.le_of_ble_eq_true rfl) rfl ?_)
  intro w I
  refine Ops.y (v := .int .i64 _) (Y.assign rfl) ?_
  refine Ops.nil ?_
  refine WP.seq ?_
  refine WP.region ?_
  refine Ops.go (O.call I Tryz.call35 (roads_ok _ I.base_ok) rfl ?_)
  rintro _ h3 w I le3 ⟨p3, rfl, hp3⟩
  refine Ops.go (O.call I Tryz.call36 (paths_ok _ I.base_ok) rfl ?_)
  rintro _ h4 w I le4 ⟨f, rfl, fe, fi⟩
  refine Ops.go (O.callv I Tryz.call19 (Facts_rd _ I.base_ok p3 (hp3.le le4) f fi fe) rfl ?_)
  intro w I
  refine Ops.y (v := .tuple #[_, _]) (Y.move rfl) ?_
  refine Ops.y (v := .string _) (Y.extract rfl rfl) ?_
  refine Ops.y (v := .int .i64 _) (Y.extract rfl rfl) ?_
  refine Ops.y (v := .string _) (Y.assign rfl) ?_
  refine Ops.y (v := .int .i64 _) (Y.assign rfl) ?_
  refine Ops.nil ?_
  refine WP.seq ?_
  refine WP.region ?_
  refine Ops.go (O.call I Tryz.call8 (Read_sA _ I.base_ok (V.le (((le1.trans le2).trans le3).trans le4))) rfl ?_)
  rintro _ h5 w I le5 ⟨g2, rfl⟩
  refine Ops.y (v := .tuple #[_, _]) (Y.move rfl) ?_
  refine Ops.y (v := .agg #[_, _]) (Y.extract rfl rfl) ?_
  refine Ops.y (v := .int .i64 _) (Y.extract rfl rfl) ?_
  refine Ops.go (O.alloc I Tryz.zeroValue25 rfl ?_)
  intro b7 w I
  refine Ops.go (O.store (v := .agg #[_, _]) I ty_25 0 rfl rfl rfl rfl rfl rfl (Nat.le_of_ble_eq_true rfl) rfl ?_)
  intro w I
  refine Ops.y (v := .int .i64 _) (Y.assign rfl) ?_
  refine Ops.nil ?_
  have gi := gi.le ((le3.trans le4).trans le5)
  refine WP.seq ?_
  refine WP.regionF mixed I 39 (by kernel_rfl) ?_
  refine OpsF.y_ (v := .int .i64 _) (fun _ => runs_none _) (fun _ w us hl I => Y.move rfl) ?_
  refine OpsF.y_ (v := .bool true) (fun _ => runs_none _) (fun _ w us hl I => Y.dec_t (Y.eqi rfl rfl) (rfl)) ?_
  refine OpsF.y_ (v := .bool _) (fun _ => runs_none _) (fun _ w us hl I => Y.move rfl) ?_
  refine OpsF.y_ (v := .int .i64 _) (fun _ => runs_g rfl) (fun _ w us hl I => Y.move rfl) ?_
  refine OpsF.y_ (v := .bool true) (fun _ => runs_g rfl) (fun _ w us hl I => Y.dec_t (Y.eqi rfl rfl) (rfl)) ?_
  refine OpsF.y_ (v := .bool _) (fun _ => runs_none _) (fun _ w us hl I => Y.pick_t rfl rfl) ?_
  refine OpsF.y_ (v := .bool _) (fun _ => runs_none _) (fun _ w us hl I => Y.move rfl) ?_
  refine OpsF.y_ (v := .int .i64 _) (fun _ => runs_g rfl) (fun _ w us hl I => Y.move rfl) ?_
  refine OpsF.y_ (v := .bool true) (fun _ => runs_g rfl) (fun _ w us hl I => Y.dec_t (Y.eqi rfl rfl) (rfl)) ?_
  refine OpsF.y_ (v := .bool _) (fun _ => runs_none _) (fun _ w us hl I => Y.pick_t rfl rfl) ?_
  refine OpsF.y_ (v := .bool _) (fun _ => runs_none _) (fun _ w us hl I => Y.move rfl) ?_
  refine OpsF.y_ (v := .int .i64 _) (fun _ => runs_g rfl) (fun _ w us hl I => Y.move rfl) ?_
  refine OpsF.y_ (v := .bool true) (fun _ => runs_g rfl) (fun _ w us hl I => Y.dec_t (Y.eqi rfl rfl) (rfl)) ?_
  refine OpsF.y_ (v := .bool _) (fun _ => runs_none _) (fun _ w us hl I => Y.pick_t rfl rfl) ?_
  refine OpsF.y_ (v := .bool _) (fun _ => runs_none _) (fun _ w us hl I => Y.move rfl) ?_
  refine OpsF.y_ (v := .agg #[_, _]) (fun _ => runs_g rfl) (fun _ w us hl I => Y.loadv ty_25 rfl (I.rdbox 1 rfl 0 2) rfl rfl) ?_
  refine OpsF.x_ (Φ := RoadS) RoadS.mono (fun _ => runs_g rfl) ?_ ?_
  · intro _ w hl I
    try unfold AllL
    refine O.call I Tryz.call35 (roads_ok _ I.base_ok) rfl ?_
    rintro _ h6 w I hl' ⟨p6, rfl, hp6⟩
    exact ⟨_, hl', I, ⟨p6, rfl, hp6⟩⟩
  refine OpsF.d_ (v := .bool true) (fun _ => runs_g rfl) ?_ ?_
  · intro _ w hl I u45 q45
    obtain ⟨p6, rfl, hp6⟩ := q45 rfl
    exact O.callv I Tryz.call10 (SameProgs_at _ I.base_ok g p6 (gi.le hl) hp6.is (ge.trans hp6.er.symm)) rfl (fun w' I' => ⟨rfl, I'⟩)
  refine OpsF.y_ (v := .bool _) (fun _ => runs_none _) (fun _ w us hl I => Y.pick_t rfl rfl) ?_
  refine OpsF.y_ (v := .bool _) (fun _ => runs_none _) (fun _ w us hl I => Y.move rfl) ?_
  refine OpsF.y_ (v := .string _) (fun _ => runs_g rfl) (fun _ w us hl I => Y.move rfl) ?_
  refine OpsF.y_ (v := .bool true) (fun _ => runs_g rfl) (fun _ w us hl I => Y.is (Y.eqs rfl rfl) ((by rw [beq_tx]; exact congrArg Value.bool (decide_eq_true paths_shown)))) ?_
  refine OpsF.y_ (v := .bool _) (fun _ => runs_none _) (fun _ w us hl I => Y.pick_t rfl rfl) ?_
  refine OpsF.y_ (v := .bool _) (fun _ => runs_none _) (fun _ w us hl I => Y.move rfl) ?_
  refine OpsF.y_ (v := .string _) (fun _ => runs_g rfl) (fun _ w us hl I => Y.move rfl) ?_
  refine OpsF.y_ (v := .int .i64 _) (fun _ => runs_g rfl) (fun _ w us hl I => Y.lenstr Tryz.underlying9 rfl) ?_
  refine OpsF.y_ (v := .bool true) (fun _ => runs_g rfl) (fun _ w us hl I => Y.dec_t (Y.eqi rfl rfl) ((by rw [mk_size, roads_shown.2.1]; rfl))) ?_
  refine OpsF.y_ (v := .bool _) (fun _ => runs_none _) (fun _ w us hl I => Y.pick_t rfl rfl) ?_
  refine OpsF.y_ (v := .bool _) (fun _ => runs_none _) (fun _ w us hl I => Y.move rfl) ?_
  refine OpsF.y_ (v := .string _) (fun _ => runs_g rfl) (fun _ w us hl I => Y.move rfl) ?_
  refine OpsF.y_ (v := .string _) (fun _ => runs_g rfl) (fun _ w us hl I => Y.slicestr (l := 0) (h := 14) Tryz.underlying9 rfl (.inl ⟨rfl, rfl⟩) (.inr ⟨_, _, rfl, rfl⟩) (by omega) (by rw [mk_size, roads_shown.2.1]; omega)) ?_
  refine OpsF.y_ (v := .bool true) (fun _ => runs_g rfl) (fun _ w us hl I => Y.is (Y.eqs rfl rfl) ((by rw [beq_tx, mk_extract]; exact congrArg Value.bool (decide_eq_true roads_shown.2.2.1)))) ?_
  refine OpsF.y_ (v := .bool _) (fun _ => runs_none _) (fun _ w us hl I => Y.pick_t rfl rfl) ?_
  refine OpsF.y_ (v := .bool _) (fun _ => runs_none _) (fun _ w us hl I => Y.move rfl) ?_
  refine OpsF.y_ (v := .string _) (fun _ => runs_g rfl) (fun _ w us hl I => Y.move rfl) ?_
  refine OpsF.y_ (v := .string _) (fun _ => runs_g rfl) (fun _ w us hl I => Y.slicestr (l := 152) (h := (mk (progL roadsC)).size) Tryz.underlying9 rfl (.inr ⟨_, _, rfl, rfl⟩) (.inl ⟨rfl, rfl⟩) (by rw [mk_size, roads_shown.2.1]; omega) (Nat.le_refl _)) ?_
  refine OpsF.y_ (v := .bool true) (fun _ => runs_g rfl) (fun _ w us hl I => Y.is (Y.eqs rfl rfl) ((by rw [beq_tx, mk_extract, mk_size, List.take_length]; exact congrArg Value.bool (decide_eq_true roads_shown.2.2.2)))) ?_
  refine OpsF.y_ (v := .bool _) (fun _ => runs_none _) (fun _ w us hl I => Y.pick_t rfl rfl) ?_
  refine OpsF.y_ (v := .bool _) (fun _ => runs_none _) (fun _ w us hl I => Y.assign rfl) ?_
  refine OpsF.nil ?_
  intro _ w hl I u45 q45
  refine Ops.nil ?_
  refine WP.ret ?_
  repeat (first | refine thenE_ret ?_ | refine blockE_ret ?_)
  exact retQ.mk (vs := [.bool _]) rfl ⟨rfl, trivial⟩ I.ext_of (rfl)
end Go.TF
end
section
/- The law TextShows: it returns true. -/
namespace Go.TF
open Go Go.RowKit Go.Proofs
set_option maxRecDepth 20000

set_option maxHeartbeats 8000000 in
theorem TextShows_ok (B : Base) (hB : B.ok) (V : Vars B.h) (p : Prg) (hp : p.In B.h) (hnm : p.Nm) (s : ByteArray) : Fn Tryz.prog 5 [p.val, .string s] B (fun v _ => v = .bool true) := by
  by_cases hp0 : checkProg p = 0
  · have hS : ∀ B : Base, B.ok → p.In B.h → Fn Tryz.prog 7 [p.val] B (fun v _ => v = .tuple #[.string (mk (progL p)), .int .i64 0]) := fun B hB hp => (Show_ok B hB p hp hnm).mono fun v h' _ hv => by
      rw [hv]; unfold showOf; rw [if_pos hp0]
    refine Fn.of Tryz.func5 rfl Tryz.ntmps5 (by kernel_rfl) (by simp) ?_
    intro e
    have I := Inv.start hB
    refine WP.seq ?_
    refine WP.region ?_
    refine Ops.go (O.box (v := .agg #[_, _]) I rfl rfl ?_)
    intro b2 w I
    refine Ops.y (v := .bool _) (Y.assign rfl) ?_
    refine Ops.nil ?_
    refine WP.seq ?_
    refine WP.region ?_
    refine Ops.y (v := .agg #[_, _]) (Y.loadv ty_25 rfl (I.rdbox 0 rfl 0 2) rfl rfl) ?_
    refine Ops.go (O.callv I Tryz.call7 (hS _ I.base_ok hp) rfl ?_)
    intro w I
    refine Ops.y (v := .tuple #[_, _]) (Y.move rfl) ?_
    refine Ops.y (v := .string _) (Y.extract rfl rfl) ?_
    refine Ops.y (v := .int .i64 _) (Y.extract rfl rfl) ?_
    refine Ops.y (v := .string _) (Y.assign rfl) ?_
    refine Ops.y (v := .int .i64 _) (Y.assign rfl) ?_
    refine Ops.nil ?_
    refine WP.seq ?_
    refine WP.region ?_
    refine Ops.y (v := .agg #[_, _]) (Y.loadv ty_25 rfl (I.rdbox 0 rfl 0 2) rfl rfl) ?_
    refine Ops.go (O.callv I Tryz.call16 (hp0 ▸ CheckProg_ok _ I.base_ok p hp hnm) rfl ?_)
    intro w I
    refine Ops.y (v := .int .i64 _) (Y.assign rfl) ?_
    refine Ops.nil ?_
    refine WP.seq ?_
    refine WP.region ?_
    refine Ops.y (v := .string _) (Y.assign rfl) ?_
    refine Ops.nil ?_
    refine WP.seq ?_
    refine WP.seq ?_
    refine WP.region ?_
    refine Ops.y (v := .int .i64 _) (Y.move rfl) ?_
    refine Ops.y (v := .bool true) (Y.dec_t (Y.eqi rfl rfl) (rfl)) ?_
    refine Ops.nil ?_
    refine WP.cond_t rfl ?_
    refine WP.region ?_
    refine Ops.y (v := .agg #[_, _]) (Y.loadv ty_25 rfl (I.rdbox 0 rfl 0 2) rfl rfl) ?_
    refine Ops.go (O.callv I Tryz.call17 (ProgText_is _ I.base_ok p hp hnm hp0) rfl ?_)
    intro w I
    refine Ops.y (v := .string _) (Y.assign rfl) ?_
    refine Ops.nil ?_
    refine WP.seq ?_
    refine WP.region ?_
    refine Ops.y (v := .string _) (Y.move rfl) ?_
    refine Ops.go (O.call I Tryz.call8 (Read_ok _ I.base_ok V s) rfl ?_)
    rintro _ h1 w I le1 ⟨g, rfl, gi, gn, ge⟩
    refine Ops.y (v := .tuple #[_, _]) (Y.move rfl) ?_
    refine Ops.y (v := .agg #[_, _]) (Y.extract rfl rfl) ?_
    refine Ops.y (v := .int .i64 _) (Y.extract rfl rfl) ?_
    refine Ops.go (O.alloc I Tryz.zeroValue25 rfl ?_)
    intro b9 w I
    refine Ops.go (O.store (v := .agg #[_, _]) I ty_25 0 rfl rfl rfl rfl rfl rfl (Nat.le_of_ble_eq_true rfl) rfl ?_)
    intro w I
    refine Ops.y (v := .int .i64 _) (Y.assign rfl) ?_
    refine Ops.nil ?_
    by_cases hs : 4096 < s.size
    · have hE : readE s = 2 := by unfold readE; rw [if_pos hs]
      have hn : readOK s = none := by unfold readOK; rw [if_pos hs]
      have he : g.er = (⟨⟨none, 0, []⟩, ⟨none, 0, []⟩⟩ : Prg).er := by rw [ge]; unfold readP; rw [hn]; rfl
      refine WP.seq ?_
      refine WP.seq ?_
      refine WP.region ?_
      refine Ops.y (v := .string _) (Y.move rfl) ?_
      refine Ops.y (v := .int .i64 _) (Y.lenstr Tryz.underlying9 rfl) ?_
      refine Ops.y (v := .bool true) (Y.dec_t (Y.gti rfl rfl) ((by omega))) ?_
      refine Ops.nil ?_
      refine WP.cond_t rfl ?_
      refine WP.seq ?_
      refine WP.region ?_
      refine Ops.go (O.call I Tryz.call12 (textBegun_ok _ I.base_ok (V.le le1)) rfl ?_)
      rintro _ h2 w I le2 rfl
      refine Ops.y (v := .bool true) (Y.b (Y.move rfl) (rfl)) ?_
      refine Ops.ygt rfl (v := .string _) (Y.move rfl) ?_
      refine Ops.ygt rfl (v := .string _) (Y.move rfl) ?_
      refine Ops.ygt rfl (v := .bool true) (Y.is (Y.eqs rfl rfl) ((by rw [beq_tx]; simp))) ?_
      refine Ops.y (v := .bool _) (Y.pick_t rfl rfl) ?_
      refine Ops.y (v := .bool _) (Y.move rfl) ?_
      refine Ops.ygt rfl (v := .int .i64 _) (Y.move rfl) ?_
      refine Ops.ygt rfl (v := .int .i64 _) (Y.move rfl) ?_
      refine Ops.ygt rfl (v := .bool true) (Y.dec_t (Y.eqi rfl rfl) (rfl)) ?_
      refine Ops.y (v := .bool _) (Y.pick_t rfl rfl) ?_
      refine Ops.y (v := .bool _) (Y.move rfl) ?_
      refine Ops.ygt rfl (v := .int .i64 _) (Y.move rfl) ?_
      refine Ops.ygt rfl (v := .bool true) (Y.dec_t (Y.eqi rfl rfl) (hE)) ?_
      refine Ops.y (v := .bool _) (Y.pick_t rfl rfl) ?_
      refine Ops.y (v := .bool _) (Y.move rfl) ?_
      refine Ops.ygt rfl (v := .agg #[_, _]) (Y.loadv ty_25 rfl (I.rdbox 0 rfl 0 2) rfl rfl) ?_
      refine Ops.ygt rfl (v := .agg #[.slice _ _ _, .slice _ _ _]) (Y.build pl_25 Tryz.zeroValue25 rfl rfl) ?_
      refine Ops.gt rfl (O.callv I Tryz.call10 (SameProgs_at _ I.base_ok g ⟨⟨none, 0, []⟩, ⟨none, 0, []⟩⟩ (gi.le le2) ⟨nilIs, ⟨nilIs, (fun x hx => by cases hx)⟩⟩ he) rfl ?_)
      intro w I
      refine Ops.y (v := .bool _) (Y.pick_t rfl rfl) ?_
      refine Ops.y (v := .bool _) (Y.assign rfl) ?_
      refine Ops.nil ?_
      refine WP.ret ?_
      repeat (first | refine thenE_ret ?_ | refine blockE_ret ?_)
      exact retQ.mk (vs := [.bool _]) rfl ⟨rfl, trivial⟩ I.ext_of (rfl)
    · have hs : s.size ≤ 4096 := by omega
      have hEE : readE s = if (readOK s).isSome = true then 0 else 1 := by unfold readE; rw [if_neg (by omega)]
      refine WP.seq ?_
      refine WP.seq ?_
      refine WP.region ?_
      refine Ops.y (v := .string _) (Y.move rfl) ?_
      refine Ops.y (v := .int .i64 _) (Y.lenstr Tryz.underlying9 rfl) ?_
      refine Ops.y (v := .bool false) (Y.dec_f (Y.gti rfl rfl) ((by omega))) ?_
      refine Ops.nil ?_
      refine WP.cond_f rfl ?_
      refine WP.skip ?_
      refine WP.seq ?_
      refine WP.region ?_
      refine Ops.y (v := .string _) (Y.move rfl) ?_
      refine Ops.go (O.call I Tryz.call18 (ProgFrom_ok _ I.base_ok s hs) rfl ?_)
      rintro _ h2 w I le2 ⟨d, rfl, di, dn, de⟩
      refine Ops.y (v := .tuple #[_, _]) (Y.move rfl) ?_
      refine Ops.y (v := .agg #[_, _]) (Y.extract rfl rfl) ?_
      refine Ops.y (v := .bool _) (Y.extract rfl rfl) ?_
      refine Ops.go (O.alloc I Tryz.zeroValue25 rfl ?_)
      intro b11 w I
      refine Ops.go (O.store (v := .agg #[_, _]) I ty_25 0 rfl rfl rfl rfl rfl rfl (Nat.le_of_ble_eq_true rfl) rfl ?_)
      intro w I
      refine Ops.y (v := .bool _) (Y.assign rfl) ?_
      refine Ops.nil ?_
      refine WP.seq ?_
      refine WP.region ?_
      refine Ops.y (v := .int .i64 _) (Y.assign rfl) ?_
      refine Ops.nil ?_
      cases hk : (readOK s).isSome with
      | true =>
        rw [hk, if_pos rfl] at hEE
        refine WP.seq ?_
        refine WP.seq ?_
        refine WP.region ?_
        refine Ops.y (v := .bool _) (Y.move rfl) ?_
        refine Ops.y (v := .bool false) (Y.b (Y.not rfl) (rfl)) ?_
        refine Ops.nil ?_
        refine WP.cond_f rfl ?_
        refine WP.skip ?_
        refine WP.seq ?_
        refine WP.region ?_
        refine Ops.go (O.call I Tryz.call12 (textBegun_ok _ I.base_ok (V.le (le1.trans le2))) rfl ?_)
        rintro _ h3 w I le3 rfl
        refine Ops.y (v := .bool true) (Y.b (Y.move rfl) (rfl)) ?_
        refine Ops.ygt rfl (v := .string _) (Y.move rfl) ?_
        refine Ops.ygt rfl (v := .string _) (Y.move rfl) ?_
        refine Ops.ygt rfl (v := .bool true) (Y.is (Y.eqs rfl rfl) ((by rw [beq_tx]; simp))) ?_
        refine Ops.y (v := .bool _) (Y.pick_t rfl rfl) ?_
        refine Ops.y (v := .bool _) (Y.move rfl) ?_
        refine Ops.ygt rfl (v := .int .i64 _) (Y.move rfl) ?_
        refine Ops.ygt rfl (v := .int .i64 _) (Y.move rfl) ?_
        refine Ops.ygt rfl (v := .bool true) (Y.dec_t (Y.eqi rfl rfl) (rfl)) ?_
        refine Ops.y (v := .bool _) (Y.pick_t rfl rfl) ?_
        refine Ops.y (v := .bool _) (Y.move rfl) ?_
        refine Ops.ygt rfl (v := .int .i64 _) (Y.move rfl) ?_
        refine Ops.ygt rfl (v := .int .i64 _) (Y.move rfl) ?_
        refine Ops.ygt rfl (v := .bool true) (Y.dec_t (Y.eqi rfl rfl) (hEE)) ?_
        refine Ops.y (v := .bool _) (Y.pick_t rfl rfl) ?_
        refine Ops.y (v := .bool _) (Y.move rfl) ?_
        refine Ops.ygt rfl (v := .agg #[_, _]) (Y.loadv ty_25 rfl (I.rdbox 1 rfl 0 2) rfl rfl) ?_
        refine Ops.ygt rfl (v := .agg #[_, _]) (Y.loadv ty_25 rfl (I.rdbox 0 rfl 0 2) rfl rfl) ?_
        refine Ops.gt rfl (O.callv I Tryz.call10 (SameProgs_at _ I.base_ok g d (gi.le (le2.trans le3)) (di.le le3) (ge.trans de.symm)) rfl ?_)
        intro w I
        refine Ops.y (v := .bool _) (Y.pick_t rfl rfl) ?_
        refine Ops.y (v := .bool _) (Y.assign rfl) ?_
        refine Ops.nil ?_
        refine WP.ret ?_
        repeat (first | refine thenE_ret ?_ | refine blockE_ret ?_)
        exact retQ.mk (vs := [.bool _]) rfl ⟨rfl, trivial⟩ I.ext_of (rfl)
      | false =>
        rw [hk, if_neg (by decide)] at hEE
        refine WP.seq ?_
        refine WP.seq ?_
        refine WP.region ?_
        refine Ops.y (v := .bool _) (Y.move rfl) ?_
        refine Ops.y (v := .bool true) (Y.b (Y.not rfl) (rfl)) ?_
        refine Ops.nil ?_
        refine WP.cond_t rfl ?_
        refine WP.region ?_
        refine Ops.y (v := .int .i64 _) (Y.assign rfl) ?_
        refine Ops.nil ?_
        refine WP.seq ?_
        refine WP.region ?_
        refine Ops.go (O.call I Tryz.call12 (textBegun_ok _ I.base_ok (V.le (le1.trans le2))) rfl ?_)
        rintro _ h3 w I le3 rfl
        refine Ops.y (v := .bool true) (Y.b (Y.move rfl) (rfl)) ?_
        refine Ops.ygt rfl (v := .string _) (Y.move rfl) ?_
        refine Ops.ygt rfl (v := .string _) (Y.move rfl) ?_
        refine Ops.ygt rfl (v := .bool true) (Y.is (Y.eqs rfl rfl) ((by rw [beq_tx]; simp))) ?_
        refine Ops.y (v := .bool _) (Y.pick_t rfl rfl) ?_
        refine Ops.y (v := .bool _) (Y.move rfl) ?_
        refine Ops.ygt rfl (v := .int .i64 _) (Y.move rfl) ?_
        refine Ops.ygt rfl (v := .int .i64 _) (Y.move rfl) ?_
        refine Ops.ygt rfl (v := .bool true) (Y.dec_t (Y.eqi rfl rfl) (rfl)) ?_
        refine Ops.y (v := .bool _) (Y.pick_t rfl rfl) ?_
        refine Ops.y (v := .bool _) (Y.move rfl) ?_
        refine Ops.ygt rfl (v := .int .i64 _) (Y.move rfl) ?_
        refine Ops.ygt rfl (v := .int .i64 _) (Y.move rfl) ?_
        refine Ops.ygt rfl (v := .bool true) (Y.dec_t (Y.eqi rfl rfl) (hEE)) ?_
        refine Ops.y (v := .bool _) (Y.pick_t rfl rfl) ?_
        refine Ops.y (v := .bool _) (Y.move rfl) ?_
        refine Ops.ygt rfl (v := .agg #[_, _]) (Y.loadv ty_25 rfl (I.rdbox 1 rfl 0 2) rfl rfl) ?_
        refine Ops.ygt rfl (v := .agg #[_, _]) (Y.loadv ty_25 rfl (I.rdbox 0 rfl 0 2) rfl rfl) ?_
        refine Ops.gt rfl (O.callv I Tryz.call10 (SameProgs_at _ I.base_ok g d (gi.le (le2.trans le3)) (di.le le3) (ge.trans de.symm)) rfl ?_)
        intro w I
        refine Ops.y (v := .bool _) (Y.pick_t rfl rfl) ?_
        refine Ops.y (v := .bool _) (Y.assign rfl) ?_
        refine Ops.nil ?_
        refine WP.ret ?_
        repeat (first | refine thenE_ret ?_ | refine blockE_ret ?_)
        exact retQ.mk (vs := [.bool _]) rfl ⟨rfl, trivial⟩ I.ext_of (rfl)
  · have hS : ∀ B : Base, B.ok → p.In B.h → Fn Tryz.prog 7 [p.val] B (fun v _ => v = .tuple #[.string ⟨#[]⟩, .int .i64 (checkProg p)]) := fun B hB hp => (Show_ok B hB p hp hnm).mono fun v h' _ hv => by
      rw [hv]; unfold showOf; rw [if_neg hp0]
    refine Fn.of Tryz.func5 rfl Tryz.ntmps5 (by kernel_rfl) (by simp) ?_
    intro e
    have I := Inv.start hB
    refine WP.seq ?_
    refine WP.region ?_
    refine Ops.go (O.box (v := .agg #[_, _]) I rfl rfl ?_)
    intro b2 w I
    refine Ops.y (v := .bool _) (Y.assign rfl) ?_
    refine Ops.nil ?_
    refine WP.seq ?_
    refine WP.region ?_
    refine Ops.y (v := .agg #[_, _]) (Y.loadv ty_25 rfl (I.rdbox 0 rfl 0 2) rfl rfl) ?_
    refine Ops.go (O.callv I Tryz.call7 (hS _ I.base_ok hp) rfl ?_)
    intro w I
    refine Ops.y (v := .tuple #[_, _]) (Y.move rfl) ?_
    refine Ops.y (v := .string _) (Y.extract rfl rfl) ?_
    refine Ops.y (v := .int .i64 _) (Y.extract rfl rfl) ?_
    refine Ops.y (v := .string _) (Y.assign rfl) ?_
    refine Ops.y (v := .int .i64 _) (Y.assign rfl) ?_
    refine Ops.nil ?_
    refine WP.seq ?_
    refine WP.region ?_
    refine Ops.y (v := .agg #[_, _]) (Y.loadv ty_25 rfl (I.rdbox 0 rfl 0 2) rfl rfl) ?_
    refine Ops.go (O.callv I Tryz.call16 (CheckProg_ok _ I.base_ok p hp hnm) rfl ?_)
    intro w I
    refine Ops.y (v := .int .i64 _) (Y.assign rfl) ?_
    refine Ops.nil ?_
    refine WP.seq ?_
    refine WP.region ?_
    refine Ops.y (v := .string _) (Y.assign rfl) ?_
    refine Ops.nil ?_
    refine WP.seq ?_
    refine WP.seq ?_
    refine WP.region ?_
    refine Ops.y (v := .int .i64 _) (Y.move rfl) ?_
    refine Ops.y (v := .bool false) (Y.dec_f (Y.eqi rfl rfl) (hp0)) ?_
    refine Ops.nil ?_
    refine WP.cond_f rfl ?_
    refine WP.skip ?_
    refine WP.seq ?_
    refine WP.region ?_
    refine Ops.y (v := .string _) (Y.move rfl) ?_
    refine Ops.go (O.call I Tryz.call8 (Read_ok _ I.base_ok V s) rfl ?_)
    rintro _ h1 w I le1 ⟨g, rfl, gi, gn, ge⟩
    refine Ops.y (v := .tuple #[_, _]) (Y.move rfl) ?_
    refine Ops.y (v := .agg #[_, _]) (Y.extract rfl rfl) ?_
    refine Ops.y (v := .int .i64 _) (Y.extract rfl rfl) ?_
    refine Ops.go (O.alloc I Tryz.zeroValue25 rfl ?_)
    intro b9 w I
    refine Ops.go (O.store (v := .agg #[_, _]) I ty_25 0 rfl rfl rfl rfl rfl rfl (Nat.le_of_ble_eq_true rfl) rfl ?_)
    intro w I
    refine Ops.y (v := .int .i64 _) (Y.assign rfl) ?_
    refine Ops.nil ?_
    by_cases hs : 4096 < s.size
    · have hE : readE s = 2 := by unfold readE; rw [if_pos hs]
      have hn : readOK s = none := by unfold readOK; rw [if_pos hs]
      have he : g.er = (⟨⟨none, 0, []⟩, ⟨none, 0, []⟩⟩ : Prg).er := by rw [ge]; unfold readP; rw [hn]; rfl
      refine WP.seq ?_
      refine WP.seq ?_
      refine WP.region ?_
      refine Ops.y (v := .string _) (Y.move rfl) ?_
      refine Ops.y (v := .int .i64 _) (Y.lenstr Tryz.underlying9 rfl) ?_
      refine Ops.y (v := .bool true) (Y.dec_t (Y.gti rfl rfl) ((by omega))) ?_
      refine Ops.nil ?_
      refine WP.cond_t rfl ?_
      refine WP.seq ?_
      refine WP.region ?_
      refine Ops.go (O.call I Tryz.call12 (textBegun_ok _ I.base_ok (V.le le1)) rfl ?_)
      rintro _ h2 w I le2 rfl
      refine Ops.y (v := .bool true) (Y.b (Y.move rfl) (rfl)) ?_
      refine Ops.ygt rfl (v := .string _) (Y.move rfl) ?_
      refine Ops.ygt rfl (v := .string _) (Y.move rfl) ?_
      refine Ops.ygt rfl (v := .bool true) (Y.is (Y.eqs rfl rfl) ((by rw [beq_tx]; simp))) ?_
      refine Ops.y (v := .bool _) (Y.pick_t rfl rfl) ?_
      refine Ops.y (v := .bool _) (Y.move rfl) ?_
      refine Ops.ygt rfl (v := .int .i64 _) (Y.move rfl) ?_
      refine Ops.ygt rfl (v := .int .i64 _) (Y.move rfl) ?_
      refine Ops.ygt rfl (v := .bool true) (Y.dec_t (Y.eqi rfl rfl) (rfl)) ?_
      refine Ops.y (v := .bool _) (Y.pick_t rfl rfl) ?_
      refine Ops.y (v := .bool _) (Y.move rfl) ?_
      refine Ops.ygt rfl (v := .int .i64 _) (Y.move rfl) ?_
      refine Ops.ygt rfl (v := .bool true) (Y.dec_t (Y.eqi rfl rfl) (hE)) ?_
      refine Ops.y (v := .bool _) (Y.pick_t rfl rfl) ?_
      refine Ops.y (v := .bool _) (Y.move rfl) ?_
      refine Ops.ygt rfl (v := .agg #[_, _]) (Y.loadv ty_25 rfl (I.rdbox 0 rfl 0 2) rfl rfl) ?_
      refine Ops.ygt rfl (v := .agg #[.slice _ _ _, .slice _ _ _]) (Y.build pl_25 Tryz.zeroValue25 rfl rfl) ?_
      refine Ops.gt rfl (O.callv I Tryz.call10 (SameProgs_at _ I.base_ok g ⟨⟨none, 0, []⟩, ⟨none, 0, []⟩⟩ (gi.le le2) ⟨nilIs, ⟨nilIs, (fun x hx => by cases hx)⟩⟩ he) rfl ?_)
      intro w I
      refine Ops.y (v := .bool _) (Y.pick_t rfl rfl) ?_
      refine Ops.y (v := .bool _) (Y.assign rfl) ?_
      refine Ops.nil ?_
      refine WP.ret ?_
      repeat (first | refine thenE_ret ?_ | refine blockE_ret ?_)
      exact retQ.mk (vs := [.bool _]) rfl ⟨rfl, trivial⟩ I.ext_of (rfl)
    · have hs : s.size ≤ 4096 := by omega
      have hEE : readE s = if (readOK s).isSome = true then 0 else 1 := by unfold readE; rw [if_neg (by omega)]
      refine WP.seq ?_
      refine WP.seq ?_
      refine WP.region ?_
      refine Ops.y (v := .string _) (Y.move rfl) ?_
      refine Ops.y (v := .int .i64 _) (Y.lenstr Tryz.underlying9 rfl) ?_
      refine Ops.y (v := .bool false) (Y.dec_f (Y.gti rfl rfl) ((by omega))) ?_
      refine Ops.nil ?_
      refine WP.cond_f rfl ?_
      refine WP.skip ?_
      refine WP.seq ?_
      refine WP.region ?_
      refine Ops.y (v := .string _) (Y.move rfl) ?_
      refine Ops.go (O.call I Tryz.call18 (ProgFrom_ok _ I.base_ok s hs) rfl ?_)
      rintro _ h2 w I le2 ⟨d, rfl, di, dn, de⟩
      refine Ops.y (v := .tuple #[_, _]) (Y.move rfl) ?_
      refine Ops.y (v := .agg #[_, _]) (Y.extract rfl rfl) ?_
      refine Ops.y (v := .bool _) (Y.extract rfl rfl) ?_
      refine Ops.go (O.alloc I Tryz.zeroValue25 rfl ?_)
      intro b11 w I
      refine Ops.go (O.store (v := .agg #[_, _]) I ty_25 0 rfl rfl rfl rfl rfl rfl (Nat.le_of_ble_eq_true rfl) rfl ?_)
      intro w I
      refine Ops.y (v := .bool _) (Y.assign rfl) ?_
      refine Ops.nil ?_
      refine WP.seq ?_
      refine WP.region ?_
      refine Ops.y (v := .int .i64 _) (Y.assign rfl) ?_
      refine Ops.nil ?_
      cases hk : (readOK s).isSome with
      | true =>
        rw [hk, if_pos rfl] at hEE
        refine WP.seq ?_
        refine WP.seq ?_
        refine WP.region ?_
        refine Ops.y (v := .bool _) (Y.move rfl) ?_
        refine Ops.y (v := .bool false) (Y.b (Y.not rfl) (rfl)) ?_
        refine Ops.nil ?_
        refine WP.cond_f rfl ?_
        refine WP.skip ?_
        refine WP.seq ?_
        refine WP.region ?_
        refine Ops.go (O.call I Tryz.call12 (textBegun_ok _ I.base_ok (V.le (le1.trans le2))) rfl ?_)
        rintro _ h3 w I le3 rfl
        refine Ops.y (v := .bool true) (Y.b (Y.move rfl) (rfl)) ?_
        refine Ops.ygt rfl (v := .string _) (Y.move rfl) ?_
        refine Ops.ygt rfl (v := .string _) (Y.move rfl) ?_
        refine Ops.ygt rfl (v := .bool true) (Y.is (Y.eqs rfl rfl) ((by rw [beq_tx]; simp))) ?_
        refine Ops.y (v := .bool _) (Y.pick_t rfl rfl) ?_
        refine Ops.y (v := .bool _) (Y.move rfl) ?_
        refine Ops.ygt rfl (v := .int .i64 _) (Y.move rfl) ?_
        refine Ops.ygt rfl (v := .int .i64 _) (Y.move rfl) ?_
        refine Ops.ygt rfl (v := .bool true) (Y.dec_t (Y.eqi rfl rfl) (rfl)) ?_
        refine Ops.y (v := .bool _) (Y.pick_t rfl rfl) ?_
        refine Ops.y (v := .bool _) (Y.move rfl) ?_
        refine Ops.ygt rfl (v := .int .i64 _) (Y.move rfl) ?_
        refine Ops.ygt rfl (v := .int .i64 _) (Y.move rfl) ?_
        refine Ops.ygt rfl (v := .bool true) (Y.dec_t (Y.eqi rfl rfl) (hEE)) ?_
        refine Ops.y (v := .bool _) (Y.pick_t rfl rfl) ?_
        refine Ops.y (v := .bool _) (Y.move rfl) ?_
        refine Ops.ygt rfl (v := .agg #[_, _]) (Y.loadv ty_25 rfl (I.rdbox 1 rfl 0 2) rfl rfl) ?_
        refine Ops.ygt rfl (v := .agg #[_, _]) (Y.loadv ty_25 rfl (I.rdbox 0 rfl 0 2) rfl rfl) ?_
        refine Ops.gt rfl (O.callv I Tryz.call10 (SameProgs_at _ I.base_ok g d (gi.le (le2.trans le3)) (di.le le3) (ge.trans de.symm)) rfl ?_)
        intro w I
        refine Ops.y (v := .bool _) (Y.pick_t rfl rfl) ?_
        refine Ops.y (v := .bool _) (Y.assign rfl) ?_
        refine Ops.nil ?_
        refine WP.ret ?_
        repeat (first | refine thenE_ret ?_ | refine blockE_ret ?_)
        exact retQ.mk (vs := [.bool _]) rfl ⟨rfl, trivial⟩ I.ext_of (rfl)
      | false =>
        rw [hk, if_neg (by decide)] at hEE
        refine WP.seq ?_
        refine WP.seq ?_
        refine WP.region ?_
        refine Ops.y (v := .bool _) (Y.move rfl) ?_
        refine Ops.y (v := .bool true) (Y.b (Y.not rfl) (rfl)) ?_
        refine Ops.nil ?_
        refine WP.cond_t rfl ?_
        refine WP.region ?_
        refine Ops.y (v := .int .i64 _) (Y.assign rfl) ?_
        refine Ops.nil ?_
        refine WP.seq ?_
        refine WP.region ?_
        refine Ops.go (O.call I Tryz.call12 (textBegun_ok _ I.base_ok (V.le (le1.trans le2))) rfl ?_)
        rintro _ h3 w I le3 rfl
        refine Ops.y (v := .bool true) (Y.b (Y.move rfl) (rfl)) ?_
        refine Ops.ygt rfl (v := .string _) (Y.move rfl) ?_
        refine Ops.ygt rfl (v := .string _) (Y.move rfl) ?_
        refine Ops.ygt rfl (v := .bool true) (Y.is (Y.eqs rfl rfl) ((by rw [beq_tx]; simp))) ?_
        refine Ops.y (v := .bool _) (Y.pick_t rfl rfl) ?_
        refine Ops.y (v := .bool _) (Y.move rfl) ?_
        refine Ops.ygt rfl (v := .int .i64 _) (Y.move rfl) ?_
        refine Ops.ygt rfl (v := .int .i64 _) (Y.move rfl) ?_
        refine Ops.ygt rfl (v := .bool true) (Y.dec_t (Y.eqi rfl rfl) (rfl)) ?_
        refine Ops.y (v := .bool _) (Y.pick_t rfl rfl) ?_
        refine Ops.y (v := .bool _) (Y.move rfl) ?_
        refine Ops.ygt rfl (v := .int .i64 _) (Y.move rfl) ?_
        refine Ops.ygt rfl (v := .int .i64 _) (Y.move rfl) ?_
        refine Ops.ygt rfl (v := .bool true) (Y.dec_t (Y.eqi rfl rfl) (hEE)) ?_
        refine Ops.y (v := .bool _) (Y.pick_t rfl rfl) ?_
        refine Ops.y (v := .bool _) (Y.move rfl) ?_
        refine Ops.ygt rfl (v := .agg #[_, _]) (Y.loadv ty_25 rfl (I.rdbox 1 rfl 0 2) rfl rfl) ?_
        refine Ops.ygt rfl (v := .agg #[_, _]) (Y.loadv ty_25 rfl (I.rdbox 0 rfl 0 2) rfl rfl) ?_
        refine Ops.gt rfl (O.callv I Tryz.call10 (SameProgs_at _ I.base_ok g d (gi.le (le2.trans le3)) (di.le le3) (ge.trans de.symm)) rfl ?_)
        intro w I
        refine Ops.y (v := .bool _) (Y.pick_t rfl rfl) ?_
        refine Ops.y (v := .bool _) (Y.assign rfl) ?_
        refine Ops.nil ?_
        refine WP.ret ?_
        repeat (first | refine thenE_ret ?_ | refine blockE_ret ?_)
        exact retQ.mk (vs := [.bool _]) rfl ⟨rfl, trivial⟩ I.ext_of (rfl)
end Go.TF
end
section
/- Arguments as they come in: what is read as data lies in memory as located data. -/
namespace Go.TF
open Go Go.RowKit Go.Proofs Go.Deep

def memH (W : World) : Heap := fun b => W.heap[b]?
theorem memH_cell {W : World} {b o : Nat} {v : Value} (h : W.cell? ⟨b, o, none⟩ = some v) : (memH W).cell b o = some v := by
  unfold World.cell? at h
  unfold Heap.cell memH
  split at h
  · rename_i c t f hb; rw [hb]; simpa using h
  · cases h
def Opens (P : Program) (T : TypeId) {α : Type} (enc : α → List Value) (In : α → Heap → Prop) : Prop :=
  ∀ (H : Type) (en : TypeId × Value → H) (W : World) (fuel : Nat) (cs : List Value) (x : DataW H × List MemPlace), DataW.trod en P W 0 (fun _ => true) true fuel T cs = some x → (∀ n ∈ x.1.weights P T, n ≤ reachBytes) → ∃ y : α, cs = enc y ∧ In y (memH W)
/-- A slice, its elements, and that there are not too many. -/
structure Sl.Ok {α : Type} (s : Sl α) (k b : Nat) (enc : α → List Value) (In : α → Heap → Prop) (h : Heap) : Prop where
  is : s.Is k enc h
  each : ∀ x ∈ s.xs, In x h
  cap : s.xs.length ≤ s.cap
  size : s.cap * b ≤ reachBytes
section
variable {P : Program} {T : TypeId}
theorem op_int (hT : P.underlying T = some (.int .i64)) : Opens P T (fun n : Int => [.int .i64 n]) (fun n _ => I64 n) := fun H en W fuel cs x h _ => by
  obtain ⟨n, rfl, _, hw⟩ := DataW.trod_int hT h
  refine ⟨n, rfl, ?_⟩
  simp only [Lit.wf, Bool.and_eq_true, decide_eq_true_eq] at hw
  have h1 : IntKind.i64.min = -9223372036854775808 := rfl
  have h2 : IntKind.i64.max = 9223372036854775807 := rfl
  exact ⟨by omega, by omega⟩
theorem op_bool (hT : P.underlying T = some .bool) : Opens P T (fun n : Bool => [.bool n]) (fun _ _ => True) := fun H en W fuel cs x h _ => by
  obtain ⟨n, rfl, _⟩ := DataW.trod_bool hT h
  exact ⟨n, rfl, trivial⟩
theorem op_string (hT : P.underlying T = some .string) : Opens P T (fun n : ByteArray => [.string n]) (fun s _ => s.size ≤ reachBytes) := fun H en W fuel cs x h hw => by
  obtain ⟨n, rfl, rfl, _⟩ := DataW.trod_string hT h
  refine ⟨n, rfl, ?_⟩
  have := hw n.data.toList.length (by simp [DataW.weights])
  simpa using this
theorem weightsAll_mem {H : Type} {e : TypeId} : ∀ {l : List (DataW H)} {d : DataW H}, d ∈ l → ∀ n ∈ d.weights P e, n ∈ DataW.weightsAll P e l
  | x :: l, d, hd, n, hn => by
    simp only [DataW.weightsAll]
    rcases List.mem_cons.1 hd with rfl | hd
    · exact List.mem_append_left _ hn
    · exact List.mem_append_right _ (weightsAll_mem hd n hn)
theorem op_slice {e k b : Nat} {α : Type} {enc : α → List Value} {In : α → Heap → Prop} (hT : P.underlying T = some (.slice e)) (hk : P.cellsOf e = k) (hb : P.bytesOf e = b) (hb0 : 0 < b) (hk0 : 0 < k) (he : Opens P e enc In) :
    Opens P T (fun s : Sl α => [s.val]) (fun s h => s.Ok k b enc In h) := fun H en W fuel cs x h hw => by
  rcases open_slice hT h with ⟨rfl, rfl⟩ | ⟨a, len, cap, m, n, D, Pl, rfl, _, hl, _, hmm, rfl, hall⟩
  · exact ⟨⟨none, 0, []⟩, rfl, ⟨⟨fun i x hx => by simp at hx, by simp⟩, fun x hx => by simp at hx, by simp, by simp [reachBytes]⟩⟩
  · simp only [if_true] at hmm
    subst hmm
    have hel : ∀ i, i < len → ∃ (y : α), W.cells? 0 (a.add (i * k)) k = some (enc y) ∧ In y (memH W) := fun i hi => by
      obtain ⟨cs', h1, h2⟩ := hall i (by omega)
      obtain ⟨y, rfl, hy⟩ := he H en W n cs' _ h2 fun q hq => hw q (by
        simp only [DataW.weights, hT]
        refine List.mem_cons_of_mem _ (List.mem_append_left _ (weightsAll_mem (d := D i) (List.mem_map.2 ⟨i, List.mem_range.2 hi, rfl⟩) q hq)))
      rw [hk] at h1
      exact ⟨y, h1, hy⟩
    have hsz : m * b ≤ reachBytes := by
      have := hw ((len + (m - len)) * b) (by simp [DataW.weights, hT, hb])
      rwa [show len + (m - len) = m by omega] at this
    have hm47 : m ≤ 140737488355328 := by
      have h1 : m ≤ m * b := Nat.le_mul_of_pos_right m hb0
      have h2 : reachBytes ≤ 140737488355328 := by decide
      omega
    have key : ∃ xs : List α, xs.length = len ∧ ∀ i y, xs[i]? = some y → W.cells? 0 (a.add (i * k)) k = some (enc y) ∧ In y (memH W) := by
      have : ∀ l, l ≤ len → ∃ xs : List α, xs.length = l ∧ ∀ i y, xs[i]? = some y → W.cells? 0 (a.add (i * k)) k = some (enc y) ∧ In y (memH W) := by
        intro l
        induction l with
        | zero => intro _; exact ⟨[], rfl, fun i y hy => by simp at hy⟩
        | succ l ih =>
          intro hl'
          obtain ⟨xs, h1, h2⟩ := ih (by omega)
          obtain ⟨y, h3⟩ := hel l (by omega)
          refine ⟨xs ++ [y], by simp [h1], fun i z hz => ?_⟩
          rw [List.getElem?_append] at hz
          split at hz
          · exact h2 i z hz
          · have : i = l := by
              have := (List.getElem?_eq_some_iff.1 hz).1
              simp at this; omega
            subst this
            simp [h1] at hz
            subst hz; exact h3
      exact this len (Nat.le_refl _)
    obtain ⟨xs, hxs, hx⟩ := key
    obtain ⟨ab, ao, spot⟩ := a
    have hspot : 0 < len → spot = none := fun h0 => by
      obtain ⟨y, h1, _⟩ := hel 0 h0
      obtain ⟨_, hlen, hc⟩ := World.cells?_some h1
      have hc0 := hc 0 hk0
      have : ∃ v, (enc y)[0]? = some v := ⟨(enc y)[0]'(by omega), by simp⟩
      obtain ⟨v, hv⟩ := this
      rw [hv] at hc0
      have := World.cell?_spot hc0
      simpa [Addr.add] using this
    refine ⟨⟨some ⟨ab, ao, spot⟩, m, xs⟩, by simp [Sl.val, hxs], ⟨⟨fun i y hy => ?_, by simp only [hxs]; omega⟩, fun y hy => ?_, by simp only [hxs]; omega, hsz⟩⟩
    · have hi : i < xs.length := (List.getElem?_eq_some_iff.1 hy).1
      have hs := hspot (by omega)
      subst hs
      refine ⟨rfl, fun j v hj => ?_⟩
      obtain ⟨_, hlen, hc⟩ := World.cells?_some (hx i y hy).1
      have hjk : j < k := by have := (List.getElem?_eq_some_iff.1 hj).1; omega
      have := hc j hjk
      rw [hj, addr_add, addr_add] at this
      exact memH_cell this
    · obtain ⟨i, hi, rfl⟩ := List.getElem_of_mem hy
      exact (hx i xs[i] (List.getElem?_eq_getElem hi)).2
theorem op_field {fs : Array Field} {H : Type} {en : TypeId × Value → H} {W : World} {fuel : Nat} {cs : List Value} {x : DataW H × List MemPlace} (hT : P.underlying T = some (.struct fs)) (h : DataW.trod en P W 0 (fun _ => true) true fuel T cs = some x) (hw : ∀ n ∈ x.1.weights P T, n ≤ reachBytes)
    {α : Type} {enc : α → List Value} {In : α → Heap → Prop} (i : Nat) {f : Field} (hf : fs[i]? = some f) {k : Nat} (hk : P.cellsOf f.type = k) (he : Opens P f.type enc In) : ∃ y : α, (cs.drop f.offset).take k = enc y ∧ In y (memH W) := by
  subst hk
  obtain ⟨xs, n, _, rfl, _, hlen, hfs⟩ := DataW.trod_struct hT h
  have hi : i < xs.length := by rw [hlen]; exact (Array.getElem?_eq_some_iff.1 hf).1
  have h1 := hfs i f hf
  rw [List.getElem?_eq_getElem hi] at h1
  refine he H en W n _ xs[i] h1 fun q hq => hw q ?_
  simp only [DataW.weights, hT]
  exact DataW.weights_mem_each (j := i) (t := f.type) (d := xs[i].1) (by simp [hf]) (by simp [hi]) q hq
theorem op_len {fs : Array Field} {H : Type} {en : TypeId × Value → H} {W : World} {fuel : Nat} {cs : List Value} {x : DataW H × List MemPlace} (hT : P.underlying T = some (.struct fs)) (h : DataW.trod en P W 0 (fun _ => true) true fuel T cs = some x) : cs.length = P.cellsOf T := by
  obtain ⟨xs, n, _, rfl, hl, _, _⟩ := DataW.trod_struct hT h
  exact hl
theorem val_struct {W : World} {r : Go.Reach} {b0 : Nat} {fs : Array Field} {v : Value} {cs : List Value} (hT : P.underlying T = some (.struct fs)) (hval : Value.okWide P W r b0 T v) (hc : v.cells.toList = cs) : v = .agg cs.toArray := by
  unfold Value.okWide at hval
  rw [hT] at hval
  obtain ⟨cs', rfl, _⟩ := hval
  subst hc; simp [Value.cells]
theorem weights_of {H : Type} {ts : List TypeId} {ds : List (DataW H)} (hz : (DataW.weightsEach P ts ds).all (· ≤ reachBytes) = true) (j : Nat) {t : TypeId} {d : DataW H} (ht : ts[j]? = some t) (hd : ds[j]? = some d) : ∀ n ∈ d.weights P t, n ≤ reachBytes := fun n hn => by
  have := List.all_eq_true.1 hz n (DataW.weights_mem_each ht hd n hn)
  simpa using this
end
theorem len47 {s : ByteArray} (h : s.data.toList.length ≤ reachBytes) : s.size ≤ 140737488355328 := by
  have h2 : reachBytes ≤ 140737488355328 := by decide
  have h3 : s.data.toList.length = s.size := by simp
  omega
theorem open_of {P : Program} {T : TypeId} {α : Type} {enc : α → List Value} {In : α → Heap → Prop} {H : Type} {en : TypeId × Value → H} {W : World} {v : Value} {d : DataW H} {ps : List MemPlace} (he : Opens P T enc In) (hd : DataW.Trod en P W 0 (fun _ => true) true T v d ps) (hw : ∀ n ∈ d.weights P T, n ≤ reachBytes) :
    ∃ y : α, v.cells.toList = enc y ∧ In y (memH W) := by
  obtain ⟨fuel, h⟩ := hd
  exact he H en W fuel _ _ h hw

/-! ### This program's types -/
theorem len2 {cs : List Value} (h : cs.length = 2) : ∃ c0 c1, cs = [c0, c1] := by
  match cs, h with
  | [c0, c1], _ => exact ⟨c0, c1, rfl⟩
theorem len3 {cs : List Value} (h : cs.length = 3) : ∃ c0 c1 c2, cs = [c0, c1, c2] := by
  match cs, h with
  | [c0, c1, c2], _ => exact ⟨c0, c1, c2, rfl⟩
theorem len5 {cs : List Value} (h : cs.length = 5) : ∃ c0 c1 c2 c3 c4, cs = [c0, c1, c2, c3, c4] := by
  match cs, h with
  | [c0, c1, c2, c3, c4], _ => exact ⟨c0, c1, c2, c3, c4, rfl⟩
def TrmOk (t : Trm) (_ : Heap) : Prop := I64 t.n
structure PrdOk (p : Prd) (_ : Heap) : Prop where
  name : p.name.size ≤ reachBytes
  arity : I64 p.arity
  kind : I64 p.kind
structure AtmOk (a : Atm) (h : Heap) : Prop where
  pred : I64 a.pred
  args : a.args.Ok 2 16 Trm.enc TrmOk h
def LtlOk (x : Ltl) (h : Heap) : Prop := AtmOk x.atom h
structure RulOk (r : Rul) (h : Heap) : Prop where
  head : AtmOk r.head h
  src : I64 r.src
  n : I64 r.n
  body : r.body.Ok 3 40 Ltl.enc LtlOk h
structure PrgOk (p : Prg) (h : Heap) : Prop where
  preds : p.preds.Ok 3 32 Prd.enc PrdOk h
  rules : p.rules.Ok 5 72 Rul.enc RulOk h
structure FctOk (x : Fct) (_ : Heap) : Prop where
  pred : I64 x.pred
  a : I64 x.a
  b : I64 x.b
  v : I64 x.v
structure VrsOk (x : Vrs) (_ : Heap) : Prop where
  x0 : I64 x.x0
  x1 : I64 x.x1
  x2 : I64 x.x2
structure StpOk (x : Stp) (h : Heap) : Prop where
  rule : I64 x.rule
  vars : VrsOk x.vars h
theorem AtmOk.in_ {a : Atm} {h : Heap} (x : AtmOk a h) : a.In h := x.args.is
theorem RulOk.in_ {r : Rul} {h : Heap} (x : RulOk r h) : r.In h := ⟨x.head.in_, x.body.is, fun y hy => AtmOk.in_ (x.body.each y hy)⟩
theorem PrgOk.in_ {p : Prg} {h : Heap} (x : PrgOk p h) : p.In h := ⟨x.preds.is, x.rules.is, fun y hy => (x.rules.each y hy).in_⟩
theorem op_Trm : Opens Tryz.prog 109 Trm.enc TrmOk := fun H en W fuel cs x h hw => by
  have hl := op_len Tryz.underlying109 h
  rw [show Tryz.prog.cellsOf 109 = 2 by kernel_rfl] at hl
  obtain ⟨y0, e0, g0⟩ := op_field Tryz.underlying109 h hw 0 rfl (k := 1) (by kernel_rfl) (op_bool Tryz.underlying4)
  obtain ⟨y1, e1, g1⟩ := op_field Tryz.underlying109 h hw 1 rfl (k := 1) (by kernel_rfl) (op_int Tryz.underlying3)
  obtain ⟨c0, c1, rfl⟩ := len2 hl
  replace e0 : [c0] = _ := e0
  replace e1 : [c1] = _ := e1
  simp only [List.cons.injEq, and_true] at e0 e1
  exact ⟨⟨y0, y1⟩, by simp [*], g1⟩
theorem op_SlTrm : Opens Tryz.prog 59 (fun s : Sl Trm => [s.val]) (fun s h => s.Ok 2 16 Trm.enc TrmOk h) := op_slice Tryz.underlying59 (by kernel_rfl) (by kernel_rfl) (by decide) (by decide) op_Trm
theorem op_Prd : Opens Tryz.prog 53 Prd.enc PrdOk := fun H en W fuel cs x h hw => by
  have hl := op_len Tryz.underlying53 h
  rw [show Tryz.prog.cellsOf 53 = 3 by kernel_rfl] at hl
  obtain ⟨y0, e0, g0⟩ := op_field Tryz.underlying53 h hw 0 rfl (k := 1) (by kernel_rfl) (op_string Tryz.underlying9)
  obtain ⟨y1, e1, g1⟩ := op_field Tryz.underlying53 h hw 1 rfl (k := 1) (by kernel_rfl) (op_int Tryz.underlying3)
  obtain ⟨y2, e2, g2⟩ := op_field Tryz.underlying53 h hw 2 rfl (k := 1) (by kernel_rfl) (op_int Tryz.underlying3)
  obtain ⟨c0, c1, c2, rfl⟩ := len3 hl
  replace e0 : [c0] = _ := e0
  replace e1 : [c1] = _ := e1
  replace e2 : [c2] = _ := e2
  simp only [List.cons.injEq, and_true] at e0 e1 e2
  exact ⟨⟨y0, y1, y2⟩, by simp [*], ⟨g0, g1, g2⟩⟩
theorem op_SlPrd : Opens Tryz.prog 22 (fun s : Sl Prd => [s.val]) (fun s h => s.Ok 3 32 Prd.enc PrdOk h) := op_slice Tryz.underlying22 (by kernel_rfl) (by kernel_rfl) (by decide) (by decide) op_Prd
theorem op_Atm : Opens Tryz.prog 61 Atm.enc AtmOk := fun H en W fuel cs x h hw => by
  have hl := op_len Tryz.underlying61 h
  rw [show Tryz.prog.cellsOf 61 = 2 by kernel_rfl] at hl
  obtain ⟨y0, e0, g0⟩ := op_field Tryz.underlying61 h hw 0 rfl (k := 1) (by kernel_rfl) (op_int Tryz.underlying3)
  obtain ⟨y1, e1, g1⟩ := op_field Tryz.underlying61 h hw 1 rfl (k := 1) (by kernel_rfl) (op_SlTrm)
  obtain ⟨c0, c1, rfl⟩ := len2 hl
  replace e0 : [c0] = _ := e0
  replace e1 : [c1] = _ := e1
  simp only [List.cons.injEq, and_true] at e0 e1
  exact ⟨⟨y0, y1⟩, by simp [*], ⟨g0, g1⟩⟩
theorem op_Ltl : Opens Tryz.prog 68 Ltl.enc LtlOk := fun H en W fuel cs x h hw => by
  have hl := op_len Tryz.underlying68 h
  rw [show Tryz.prog.cellsOf 68 = 3 by kernel_rfl] at hl
  obtain ⟨y0, e0, g0⟩ := op_field Tryz.underlying68 h hw 0 rfl (k := 1) (by kernel_rfl) (op_bool Tryz.underlying4)
  obtain ⟨y1, e1, g1⟩ := op_field Tryz.underlying68 h hw 1 rfl (k := 2) (by kernel_rfl) (op_Atm)
  obtain ⟨c0, c1, c2, rfl⟩ := len3 hl
  replace e0 : [c0] = _ := e0
  replace e1 : [c1, c2] = _ := e1
  simp only [List.cons.injEq, and_true] at e0 e1
  exact ⟨⟨y0, y1⟩, by simp [*], g1⟩
theorem op_SlLtl : Opens Tryz.prog 62 (fun s : Sl Ltl => [s.val]) (fun s h => s.Ok 3 40 Ltl.enc LtlOk h) := op_slice Tryz.underlying62 (by kernel_rfl) (by kernel_rfl) (by decide) (by decide) op_Ltl
theorem op_Rul : Opens Tryz.prog 64 Rul.enc RulOk := fun H en W fuel cs x h hw => by
  have hl := op_len Tryz.underlying64 h
  rw [show Tryz.prog.cellsOf 64 = 5 by kernel_rfl] at hl
  obtain ⟨y0, e0, g0⟩ := op_field Tryz.underlying64 h hw 0 rfl (k := 2) (by kernel_rfl) (op_Atm)
  obtain ⟨y1, e1, g1⟩ := op_field Tryz.underlying64 h hw 1 rfl (k := 1) (by kernel_rfl) (op_int Tryz.underlying3)
  obtain ⟨y2, e2, g2⟩ := op_field Tryz.underlying64 h hw 2 rfl (k := 1) (by kernel_rfl) (op_int Tryz.underlying3)
  obtain ⟨y3, e3, g3⟩ := op_field Tryz.underlying64 h hw 3 rfl (k := 1) (by kernel_rfl) (op_SlLtl)
  obtain ⟨c0, c1, c2, c3, c4, rfl⟩ := len5 hl
  replace e0 : [c0, c1] = _ := e0
  replace e1 : [c2] = _ := e1
  replace e2 : [c3] = _ := e2
  replace e3 : [c4] = _ := e3
  simp only [List.cons.injEq, and_true] at e0 e1 e2 e3
  exact ⟨⟨y0, y1, y2, y3⟩, by simp [*], ⟨g0, g1, g2, g3⟩⟩
theorem op_SlRul : Opens Tryz.prog 23 (fun s : Sl Rul => [s.val]) (fun s h => s.Ok 5 72 Rul.enc RulOk h) := op_slice Tryz.underlying23 (by kernel_rfl) (by kernel_rfl) (by decide) (by decide) op_Rul
theorem op_Prg : Opens Tryz.prog 25 Prg.enc PrgOk := fun H en W fuel cs x h hw => by
  have hl := op_len Tryz.underlying25 h
  rw [show Tryz.prog.cellsOf 25 = 2 by kernel_rfl] at hl
  obtain ⟨y0, e0, g0⟩ := op_field Tryz.underlying25 h hw 0 rfl (k := 1) (by kernel_rfl) (op_SlPrd)
  obtain ⟨y1, e1, g1⟩ := op_field Tryz.underlying25 h hw 1 rfl (k := 1) (by kernel_rfl) (op_SlRul)
  obtain ⟨c0, c1, rfl⟩ := len2 hl
  replace e0 : [c0] = _ := e0
  replace e1 : [c1] = _ := e1
  simp only [List.cons.injEq, and_true] at e0 e1
  exact ⟨⟨y0, y1⟩, by simp [*], ⟨g0, g1⟩⟩
end Go.TF
end
section
/- What a row's listed variables hold: a table of numbers. -/
namespace Go.TF
open Go Go.RowKit

theorem laid_ints {P : Program} {n : String} {k : IntKind} {zs : List Int} {r : List (String × DataW Unit)} {W : World} {g : Nat} {t e : TypeId} (h : laidMet P ((n, .agg (zs.map fun z => .lit (.int k z))) :: r) W)
    (hg : P.globalNamed n = some g) (ht : (P.globals[g]?).map (·.type) = some t) (hu : P.underlying t = some (.array zs.length e)) (he : P.underlying e = some (.int k)) (hce : P.cellsOf e = 1) (hct : P.cellsOf t = zs.length) :
    ∃ T f, W.heap[g]? = some (.cells (zs.map fun z => Value.int k z).toArray T f) := by
  obtain ⟨ps, ⟨g0, t0, cs, fuel, p, q, hg0, ht0, hv, hd, _, _⟩, _, _⟩ := h
  obtain rfl := Option.some.inj (hg.symm.trans hg0)
  obtain rfl := Option.some.inj (ht.symm.trans ht0)
  obtain ⟨xs, m, _, ex, hl, hxl, hel⟩ := DataW.trod_array hu hd
  have e3 : (xs.map (·.1)) = zs.map fun z => (.lit (.int k z) : DataW Unit) := (DataW.agg.inj (Prod.mk.inj ex).1).symm
  have key : cs.toList = zs.map fun z => Value.int k z := by
    refine List.ext_getElem? fun i => ?_
    by_cases hi : i < zs.length
    · have hE := hel i hi
      rw [hce, Nat.mul_one, List.getElem?_eq_getElem (by omega)] at hE
      obtain ⟨z, e1, e2, _⟩ := DataW.trod_int he hE
      have e4 : (xs.map (·.1))[i]? = (zs.map fun z => (.lit (.int k z) : DataW Unit))[i]? := by rw [e3]
      rw [List.getElem?_map, List.getElem?_map, List.getElem?_eq_getElem (by omega : i < xs.length), List.getElem?_eq_getElem hi, e2] at e4
      simp only [Option.map_some, Option.some.injEq, DataW.lit.injEq, Lit.int.injEq, true_and] at e4
      have h0 : ((cs.toList.drop i).take 1)[0]? = some (.int k z) := by rw [e1]; rfl
      rw [List.getElem?_map, List.getElem?_eq_getElem hi, Option.map_some, ← e4]
      simpa using h0
    · rw [List.getElem?_eq_none (by omega), List.getElem?_eq_none (by rw [List.length_map]; omega)]
  unfold World.var? at hv
  rw [hg, Option.bind_some] at hv
  split at hv
  · rename_i c T f hb
    injection hv with hv
    subst hv
    exact ⟨T, f, by rw [hb, ← key]⟩
  · cases hv
end Go.TF
end
section
/- What the rows of the texts' laws say of the package's variables. -/
namespace Go.TF
open Go Go.RowKit Go.Proofs
set_option maxRecDepth 100000
open Go.Proofs.YtljkkojkfddpeaaGreatDoor

abbrev textLaid : List (String × DataW Unit) := Rows.textFactsRow.laid
theorem vars_of {W : World} (hL : laidMetH Tryz.prog textLaid W) (hsh : W.ShapedOpen Tryz.prog) : Vars (memH W) := by
  rw [MakeChecks.laidMetH_plain _ _ _ (by kernel_rfl)] at hL
  have h3 := hL.tail.tail
  have h5 := h3.tail.tail
  have h6 := h5.tail
  obtain ⟨m, hm⟩ := cell_of_shapedOpen_int (g := 0) (t := 3) (zero := #[.int .i64 0]) hsh (of_decide_eq_true (by kernel_rfl)) (by kernel_rfl) rfl (by kernel_rfl) (by kernel_rfl) Tryz.underlying3
  refine ⟨⟨m, memH_cell hm⟩, ?_, ?_, ?_⟩
  · obtain ⟨a, s, hv, _⟩ := laid_sentinel (g := 2) (ti := 55) h6 (by kernel_rfl) (by kernel_rfl) Tryz.underlying55 (tp := 271) (te := 273) (ts := 9) (fun u h => typeName_ptr_named (nm := "errors.errorString") (by kernel_rfl) (by kernel_rfl) (by decide) u h) Tryz.underlying271 Tryz.underlying273 rfl rfl Tryz.underlying9 (by kernel_rfl) (by kernel_rfl)
    exact ⟨_, _, memH_cell (by simpa using World.var?_cell (g := 2) (by kernel_rfl) hv 0)⟩
  · obtain ⟨a, s, hv, _⟩ := laid_sentinel (g := 3) (ti := 55) h5 (by kernel_rfl) (by kernel_rfl) Tryz.underlying55 (tp := 271) (te := 273) (ts := 9) (fun u h => typeName_ptr_named (nm := "errors.errorString") (by kernel_rfl) (by kernel_rfl) (by decide) u h) Tryz.underlying271 Tryz.underlying273 rfl rfl Tryz.underlying9 (by kernel_rfl) (by kernel_rfl)
    exact ⟨_, _, memH_cell (by simpa using World.var?_cell (g := 3) (by kernel_rfl) hv 0)⟩
  · exact laid_ints (g := 1) (t := 226) (e := 199) (k := .u64) (zs := Lib.pow10Tab) h3 (by kernel_rfl) (by kernel_rfl) Tryz.underlying226 Tryz.underlying199 (by kernel_rfl) (by kernel_rfl)
theorem PrgOk.nm5 {p : Prg} {h : Heap} (x : PrgOk p h) : p.Nm := fun y hy => by
  have := (x.preds.each y hy).1
  simp only [reachBytes] at this; omega
end Go.TF
end
