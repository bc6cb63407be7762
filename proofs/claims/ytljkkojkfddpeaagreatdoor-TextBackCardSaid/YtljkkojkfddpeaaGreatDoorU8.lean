/- Texts Same1 Prog9 RoadsM Prog10 BaseLaw Txq3 Txq4 SpRound SpRound2 SpNaive Fir1 Fir2 SortLay. -/
import Derived.Test.YtljkkojkfddpeaaGreatDoorU7
import Derived.Test.YtljkkojkfddpeaaGreatDoorU2
import Derived.Test.YtljkkojkfddpeaaGreatDoorU6
import Derived.Test.YtljkkojkfddpeaaGreatDoorU4
import Derived.Shelf.SlSortCmp.WholeK
import Derived.Ground.SlsfProg
import Derived.Test.YtljkkojkfddpeaaGreatDoorProg
section
/- Sameness of predicates, atoms, programs. -/
namespace Go.TF
open Go Go.RowKit Go.Proofs
set_option maxRecDepth 20000

theorem toList_eq {a b : ByteArray} : (a.toList == b.toList) = decide (a = b) := by rw [← beq_bytes, beq_toListBytes]
theorem prd_eq {a b : Prd} : (a.name.toList == b.name.toList && (a.arity == b.arity && (a.kind == b.kind && true))) = decide (a = b) := by
  rw [toList_eq, Bool.eq_iff_iff]
  simp only [Bool.and_eq_true, decide_eq_true_eq, beq_iff_eq]
  cases a; cases b; simp
theorem Atm.er_iff {a b : Atm} : a.er = b.er ↔ a.pred = b.pred ∧ a.args.xs = b.args.xs := by
  obtain ⟨p, ⟨x, y, z⟩⟩ := a; obtain ⟨p', ⟨x', y', z'⟩⟩ := b
  simp [Atm.er, Sl.er]
theorem trm_eq {a b : Trm} : ((a.var == b.var) && ((a.n == b.n) && true)) = decide (a = b) := by
  rw [Bool.eq_iff_iff]
  simp only [Bool.and_eq_true, decide_eq_true_eq, beq_iff_eq]
  cases a; cases b; simp
theorem sameAtoms_ok (B : Base) (hB : B.ok) (a b : Atm) (ha : a.In B.h) (hb : b.In B.h) (he : a.er = b.er) : Fn Tryz.prog 34 [a.val, b.val] B (fun v _ => v = .bool true) := by
  have hsa : a.args.xs.length ≤ 140737488355328 := Sl.Is.small ha
  have hsb : b.args.xs.length ≤ 140737488355328 := Sl.Is.small hb
  obtain ⟨e1, e2⟩ := Atm.er_iff.1 he
  have e3 : a.args.xs.length = b.args.xs.length := by rw [e2]
  refine Fn.of Tryz.func34 rfl Tryz.ntmps34 (by kernel_rfl) (by simp) ?_
  intro e
  have I := Inv.start hB
  refine WP.seq ?_
  refine WP.region ?_
  refine Ops.go (O.box (v := .agg #[_, _]) I rfl rfl ?_)
  intro b2 w I
  refine Ops.go (O.box (v := .agg #[_, _]) I rfl rfl ?_)
  intro b3 w I
  refine Ops.y (v := .bool _) (Y.assign rfl) ?_
  refine Ops.nil ?_
  refine WP.seq ?_
  refine WP.seq ?_
  refine WP.region ?_
  refine Ops.y (v := .pointer (some ⟨_, _, none⟩)) (Y.fa0 fa_61_0 rfl) ?_
  refine Ops.y (v := .int .i64 _) (Y.loadv ty_3 rfl (I.rdbox 1 rfl 0 1) rfl rfl) ?_
  refine Ops.y (v := .pointer (some ⟨_, _, none⟩)) (Y.fa0 fa_61_0 rfl) ?_
  refine Ops.y (v := .int .i64 _) (Y.loadv ty_3 rfl (I.rdbox 0 rfl 0 1) rfl rfl) ?_
  refine Ops.y (v := .bool false) (Y.dec_f (Y.nei rfl rfl) ((fun h => h e1))) ?_
  refine Ops.y (v := .bool _) (Y.move rfl) ?_
  refine Ops.ygt rfl (v := .pointer (some ⟨_, _, none⟩)) (Y.fa fa_61_1 rfl) ?_
  refine Ops.ygt rfl (v := .slice _ _ _) (Y.loadv ty_59 rfl (I.rdbox 1 rfl 1 1) rfl rfl) ?_
  refine Ops.ygt rfl (v := .int .i64 _) (Y.lens Tryz.underlying59 rfl) ?_
  refine Ops.ygt rfl (v := .pointer (some ⟨_, _, none⟩)) (Y.fa fa_61_1 rfl) ?_
  refine Ops.ygt rfl (v := .slice _ _ _) (Y.loadv ty_59 rfl (I.rdbox 0 rfl 1 1) rfl rfl) ?_
  refine Ops.ygt rfl (v := .int .i64 _) (Y.lens Tryz.underlying59 rfl) ?_
  refine Ops.ygt rfl (v := .bool false) (Y.dec_f (Y.nei rfl rfl) ((fun h => h (by rw [e3])))) ?_
  refine Ops.y (v := .bool _) (Y.pick_f rfl rfl) ?_
  refine Ops.nil ?_
  refine WP.cond_f rfl ?_
  refine WP.skip ?_
  refine WP.seq ?_
  refine WP.seq ?_
  refine WP.region ?_
  refine Ops.y (v := .int .i64 _) (Y.assign rfl) ?_
  refine Ops.nil ?_
  refine WP.block ?_
  refine WP.loopE (σ := Nat) (fun k => [(2, .pointer (some ⟨b2, 0, none⟩)), (3, .pointer (some ⟨b3, 0, none⟩)), (5, .int .i64 k)]) (fun k w => Inv B B.h [box b3 b.enc 61, box b2 a.enc 61] w ∧ k ≤ a.args.xs.length) (fun k => a.args.xs.length - k)
    ⟨0, ⟨rfl, rfl, rfl, trivial⟩, I, Nat.zero_le _⟩ ?_
  rintro k e w ⟨I, hk⟩
  refine WP.seq ?_
  refine WP.seq ?_
  refine WP.region ?_
  refine Ops.y (v := .int .i64 _) (Y.move rfl) ?_
  refine Ops.y (v := .pointer (some ⟨_, _, none⟩)) (Y.fa fa_61_1 rfl) ?_
  refine Ops.y (v := .slice _ _ _) (Y.loadv ty_59 rfl (I.rdbox 1 rfl 1 1) rfl rfl) ?_
  refine Ops.y (v := .int .i64 _) (Y.lens Tryz.underlying59 rfl) ?_
  refine Ops.y (v := .bool (decide _)) (Y.lti rfl rfl) ?_
  refine Ops.nil ?_
  refine WP.cond_dec rfl (fun h4 => ?_) (fun h4 => ?_)
  · have hk' : k < a.args.xs.length := by omega
    have hkb : k < b.args.xs.length := by omega
    have E1 := Sl.Is.at ha hk'
    have E2 := Sl.Is.at hb hkb
    have he : a.args.xs[k] = b.args.xs[k] := by simp only [e2]
    refine WP.skip ?_
    refine WP.seq ?_
    refine WP.block ?_
    refine WP.seq ?_
    refine WP.regionQ mixed I (by kernel_rfl) ?_
    refine OpsQ.y (v := .pointer (some ⟨_, _, none⟩)) (fun w I => Y.fa fa_61_1 rfl) ?_
    refine OpsQ.y (v := .slice _ _ _) (fun w I => Y.loadv ty_59 rfl (I.rdbox 1 rfl 1 1) rfl rfl) ?_
    refine OpsQ.y (v := .int .i64 _) (fun w I => Y.move rfl) ?_
    refine OpsQ.y (v := .pointer (some ⟨_, _, none⟩)) (fun w I => Y.idxEl E1 Tryz.underlying59 Tryz.sizeOf109 rfl rfl (Int.natCast_nonneg _) rfl) ?_
    refine OpsQ.y (v := .agg #[_, _]) (fun w I => Y.loadv ty_109 rfl (I.rd (E1.rd.part 0 2)) rfl rfl) ?_
    refine OpsQ.y (v := .pointer (some ⟨_, _, none⟩)) (fun w I => Y.fa fa_61_1 rfl) ?_
    refine OpsQ.y (v := .slice _ _ _) (fun w I => Y.loadv ty_59 rfl (I.rdbox 0 rfl 1 1) rfl rfl) ?_
    refine OpsQ.y (v := .int .i64 _) (fun w I => Y.move rfl) ?_
    refine OpsQ.y (v := .pointer (some ⟨_, _, none⟩)) (fun w I => Y.idxEl E2 Tryz.underlying59 Tryz.sizeOf109 rfl rfl (Int.natCast_nonneg _) rfl) ?_
    refine OpsQ.y (v := .agg #[_, _]) (fun w I => Y.loadv ty_109 rfl (I.rd (E2.rd.part 0 2)) rfl rfl) ?_
    refine OpsQ.y (v := .bool _) (fun w I => Y.nest Tryz.eqGuardType109 (eq_109 _ _ _ _) rfl rfl) ?_
    refine OpsQ.nil ?_
    intro w I
    refine WP.cond rfl (fun h6 => ?_) (fun h6 => ?_)
    · exfalso
      rw [trm_eq, he] at h6; simp at h6
    refine WP.skip ?_
    refine WP.region ?_
    refine Ops.y (v := .int .i64 _) (Y.move rfl) ?_
    refine Ops.y (v := .int .i64 _) (Y.addi rfl rfl ⟨by omega, by omega⟩) ?_
    refine Ops.y (v := .int .i64 _) (Y.assign rfl) ?_
    refine Ops.nil ?_
    exact ⟨k + 1, ⟨⟨rfl, rfl, rfl, trivial⟩, I, hk'⟩, by omega⟩
  refine WP.exit ?_
  refine WP.seq ?_
  refine WP.region ?_
  refine Ops.y (v := .bool _) (Y.assign rfl) ?_
  refine Ops.nil ?_
  refine WP.ret ?_
  repeat (first | refine thenE_ret ?_ | refine blockE_ret ?_)
  exact retQ.mk (vs := [.bool _]) rfl ⟨rfl, trivial⟩ I.ext_of (rfl)
theorem Rul.er_iff {a b : Rul} (h : a.er = b.er) : a.head.er = b.head.er ∧ a.src = b.src ∧ a.n = b.n ∧ a.body.xs.map Ltl.er = b.body.xs.map Ltl.er := by
  have h1 := congrArg Rul.head h; have h2 := congrArg Rul.src h; have h3 := congrArg Rul.n h; have h4 := congrArg (fun r : Rul => r.body.xs) h
  exact ⟨h1, h2, h3, h4⟩
theorem Prg.er_iff {p q : Prg} (h : p.er = q.er) : p.preds.xs = q.preds.xs ∧ p.rules.xs.map Rul.er = q.rules.xs.map Rul.er := by
  have h1 := congrArg (fun p : Prg => p.preds.xs) h; have h2 := congrArg (fun p : Prg => p.rules.xs) h
  exact ⟨h1, h2⟩
theorem map_at {α β : Type} {f : α → β} {l m : List α} (h : l.map f = m.map f) {k : Nat} (h1 : k < l.length) (h2 : k < m.length) : f l[k] = f m[k] := by
  have := congrArg (fun x => x[k]?) h
  simpa [h1, h2] using this
set_option maxHeartbeats 4000000 in
theorem SameProgs_ok (B : Base) (hB : B.ok) (p q : Prg) (hp : p.In B.h) (hq : q.In B.h) (he : p.preds.xs = q.preds.xs → p.er = q.er) : Fn Tryz.prog 10 [p.val, q.val] B (fun v _ => v = .bool (decide (p.preds.xs = q.preds.xs))) := by
  have hs1 := hp.preds.small
  have hs2 := hq.preds.small
  have hs3 := hp.rules.is.small
  have hs4 := hq.rules.is.small
  refine Fn.of Tryz.func10 rfl Tryz.ntmps10 (by kernel_rfl) (by simp) ?_
  intro e
  have I := Inv.start hB
  refine WP.seq ?_
  refine WP.region ?_
  refine Ops.go (O.box (v := .agg #[_, _]) I rfl rfl ?_)
  intro b2 w I
  refine Ops.go (O.box (v := .agg #[_, _]) I rfl rfl ?_)
  intro b3 w I
  refine Ops.y (v := .bool _) (Y.assign rfl) ?_
  refine Ops.nil ?_
  by_cases hpq : p.preds.xs = q.preds.xs
  case neg =>
    by_cases hl : (p.preds.xs.length : Int) ≠ q.preds.xs.length
    · refine WP.seq ?_
      refine WP.seq ?_
      refine WP.region ?_
      refine Ops.y (v := .pointer (some ⟨_, _, none⟩)) (Y.fa0 fa_25_0 rfl) ?_
      refine Ops.y (v := .slice _ _ _) (Y.loadv ty_22 rfl (I.rdbox 1 rfl 0 1) rfl rfl) ?_
      refine Ops.y (v := .int .i64 _) (Y.lens Tryz.underlying22 rfl) ?_
      refine Ops.y (v := .pointer (some ⟨_, _, none⟩)) (Y.fa0 fa_25_0 rfl) ?_
      refine Ops.y (v := .slice _ _ _) (Y.loadv ty_22 rfl (I.rdbox 0 rfl 0 1) rfl rfl) ?_
      refine Ops.y (v := .int .i64 _) (Y.lens Tryz.underlying22 rfl) ?_
      refine Ops.y (v := .bool true) (Y.dec_t (Y.nei rfl rfl) (hl)) ?_
      refine Ops.y (v := .bool _) (Y.move rfl) ?_
      refine Ops.gf rfl ?_
      refine Ops.gf rfl ?_
      refine Ops.gf rfl ?_
      refine Ops.gf rfl ?_
      refine Ops.gf rfl ?_
      refine Ops.gf rfl ?_
      refine Ops.gf rfl ?_
      refine Ops.y (v := .bool _) (Y.pick_t rfl rfl) ?_
      refine Ops.nil ?_
      refine WP.cond_t rfl ?_
      refine WP.seq ?_
      refine WP.region ?_
      refine Ops.y (v := .bool _) (Y.assign rfl) ?_
      refine Ops.nil ?_
      refine WP.ret ?_
      repeat (first | refine thenE_ret ?_ | refine blockE_ret ?_)
      exact retQ.mk (vs := [.bool _]) rfl ⟨rfl, trivial⟩ I.ext_of (by simp only [tup]; rw [decide_eq_false hpq])
    by_cases hl2 : (p.rules.xs.length : Int) ≠ q.rules.xs.length
    · refine WP.seq ?_
      refine WP.seq ?_
      refine WP.region ?_
      refine Ops.y (v := .pointer (some ⟨_, _, none⟩)) (Y.fa0 fa_25_0 rfl) ?_
      refine Ops.y (v := .slice _ _ _) (Y.loadv ty_22 rfl (I.rdbox 1 rfl 0 1) rfl rfl) ?_
      refine Ops.y (v := .int .i64 _) (Y.lens Tryz.underlying22 rfl) ?_
      refine Ops.y (v := .pointer (some ⟨_, _, none⟩)) (Y.fa0 fa_25_0 rfl) ?_
      refine Ops.y (v := .slice _ _ _) (Y.loadv ty_22 rfl (I.rdbox 0 rfl 0 1) rfl rfl) ?_
      refine Ops.y (v := .int .i64 _) (Y.lens Tryz.underlying22 rfl) ?_
      refine Ops.y (v := .bool false) (Y.dec_f (Y.nei rfl rfl) (hl)) ?_
      refine Ops.y (v := .bool _) (Y.move rfl) ?_
      refine Ops.ygt rfl (v := .pointer (some ⟨_, _, none⟩)) (Y.fa fa_25_1 rfl) ?_
      refine Ops.ygt rfl (v := .slice _ _ _) (Y.loadv ty_23 rfl (I.rdbox 1 rfl 1 1) rfl rfl) ?_
      refine Ops.ygt rfl (v := .int .i64 _) (Y.lens Tryz.underlying23 rfl) ?_
      refine Ops.ygt rfl (v := .pointer (some ⟨_, _, none⟩)) (Y.fa fa_25_1 rfl) ?_
      refine Ops.ygt rfl (v := .slice _ _ _) (Y.loadv ty_23 rfl (I.rdbox 0 rfl 1 1) rfl rfl) ?_
      refine Ops.ygt rfl (v := .int .i64 _) (Y.lens Tryz.underlying23 rfl) ?_
      refine Ops.ygt rfl (v := .bool true) (Y.dec_t (Y.nei rfl rfl) (hl2)) ?_
      refine Ops.y (v := .bool _) (Y.pick_f rfl rfl) ?_
      refine Ops.nil ?_
      refine WP.cond_t rfl ?_
      refine WP.seq ?_
      refine WP.region ?_
      refine Ops.y (v := .bool _) (Y.assign rfl) ?_
      refine Ops.nil ?_
      refine WP.ret ?_
      repeat (first | refine thenE_ret ?_ | refine blockE_ret ?_)
      exact retQ.mk (vs := [.bool _]) rfl ⟨rfl, trivial⟩ I.ext_of (by simp only [tup]; rw [decide_eq_false hpq])
    refine WP.seq ?_
    refine WP.seq ?_
    refine WP.region ?_
    refine Ops.y (v := .pointer (some ⟨_, _, none⟩)) (Y.fa0 fa_25_0 rfl) ?_
    refine Ops.y (v := .slice _ _ _) (Y.loadv ty_22 rfl (I.rdbox 1 rfl 0 1) rfl rfl) ?_
    refine Ops.y (v := .int .i64 _) (Y.lens Tryz.underlying22 rfl) ?_
    refine Ops.y (v := .pointer (some ⟨_, _, none⟩)) (Y.fa0 fa_25_0 rfl) ?_
    refine Ops.y (v := .slice _ _ _) (Y.loadv ty_22 rfl (I.rdbox 0 rfl 0 1) rfl rfl) ?_
    refine Ops.y (v := .int .i64 _) (Y.lens Tryz.underlying22 rfl) ?_
    refine Ops.y (v := .bool false) (Y.dec_f (Y.nei rfl rfl) (hl)) ?_
    refine Ops.y (v := .bool _) (Y.move rfl) ?_
    refine Ops.ygt rfl (v := .pointer (some ⟨_, _, none⟩)) (Y.fa fa_25_1 rfl) ?_
    refine Ops.ygt rfl (v := .slice _ _ _) (Y.loadv ty_23 rfl (I.rdbox 1 rfl 1 1) rfl rfl) ?_
    refine Ops.ygt rfl (v := .int .i64 _) (Y.lens Tryz.underlying23 rfl) ?_
    refine Ops.ygt rfl (v := .pointer (some ⟨_, _, none⟩)) (Y.fa fa_25_1 rfl) ?_
    refine Ops.ygt rfl (v := .slice _ _ _) (Y.loadv ty_23 rfl (I.rdbox 0 rfl 1 1) rfl rfl) ?_
    refine Ops.ygt rfl (v := .int .i64 _) (Y.lens Tryz.underlying23 rfl) ?_
    refine Ops.ygt rfl (v := .bool false) (Y.dec_f (Y.nei rfl rfl) (hl2)) ?_
    refine Ops.y (v := .bool _) (Y.pick_f rfl rfl) ?_
    refine Ops.nil ?_
    refine WP.cond_f rfl ?_
    refine WP.skip ?_
    refine WP.seq ?_
    refine WP.seq ?_
    refine WP.region ?_
    refine Ops.y (v := .int .i64 _) (Y.assign rfl) ?_
    refine Ops.nil ?_
    refine WP.block ?_
    refine WP.loopE (σ := Nat) (fun k => [(2, .pointer (some ⟨b2, 0, none⟩)), (3, .pointer (some ⟨b3, 0, none⟩)), (5, .int .i64 k)]) (fun k w => Inv B B.h [box b3 q.enc 25, box b2 p.enc 25] w ∧ k ≤ p.preds.xs.length ∧ ∀ j, j < k → p.preds.xs[j]? = q.preds.xs[j]?) (fun k => p.preds.xs.length - k)
      ⟨0, ⟨rfl, rfl, rfl, trivial⟩, I, Nat.zero_le _, fun j hj => by omega⟩ ?_
    rintro k e w ⟨I, hk, hn⟩
    refine WP.seq ?_
    refine WP.seq ?_
    refine WP.region ?_
    refine Ops.y (v := .int .i64 _) (Y.move rfl) ?_
    refine Ops.y (v := .pointer (some ⟨_, _, none⟩)) (Y.fa0 fa_25_0 rfl) ?_
    refine Ops.y (v := .slice _ _ _) (Y.loadv ty_22 rfl (I.rdbox 1 rfl 0 1) rfl rfl) ?_
    refine Ops.y (v := .int .i64 _) (Y.lens Tryz.underlying22 rfl) ?_
    refine Ops.y (v := .bool (decide _)) (Y.lti rfl rfl) ?_
    refine Ops.nil ?_
    refine WP.cond_dec rfl (fun h4 => ?_) (fun h4 => ?_)
    · have hk' : k < p.preds.xs.length := by omega
      have hkb : k < q.preds.xs.length := by omega
      have E1 := hp.preds.at hk'
      have E2 := hq.preds.at hkb
      refine WP.skip ?_
      refine WP.seq ?_
      refine WP.block ?_
      refine WP.seq ?_
      refine WP.regionQ mixed I (by kernel_rfl) ?_
      refine OpsQ.y (v := .pointer (some ⟨_, _, none⟩)) (fun w I => Y.fa0 fa_25_0 rfl) ?_
      refine OpsQ.y (v := .slice _ _ _) (fun w I => Y.loadv ty_22 rfl (I.rdbox 1 rfl 0 1) rfl rfl) ?_
      refine OpsQ.y (v := .int .i64 _) (fun w I => Y.move rfl) ?_
      refine OpsQ.y (v := .pointer (some ⟨_, _, none⟩)) (fun w I => Y.idxEl E1 Tryz.underlying22 Tryz.sizeOf53 rfl rfl (Int.natCast_nonneg _) rfl) ?_
      refine OpsQ.y (v := .agg #[_, _, _]) (fun w I => Y.loadv ty_53 rfl (I.rd (E1.rd.part 0 3)) rfl rfl) ?_
      refine OpsQ.y (v := .pointer (some ⟨_, _, none⟩)) (fun w I => Y.fa0 fa_25_0 rfl) ?_
      refine OpsQ.y (v := .slice _ _ _) (fun w I => Y.loadv ty_22 rfl (I.rdbox 0 rfl 0 1) rfl rfl) ?_
      refine OpsQ.y (v := .int .i64 _) (fun w I => Y.move rfl) ?_
      refine OpsQ.y (v := .pointer (some ⟨_, _, none⟩)) (fun w I => Y.idxEl E2 Tryz.underlying22 Tryz.sizeOf53 rfl rfl (Int.natCast_nonneg _) rfl) ?_
      refine OpsQ.y (v := .agg #[_, _, _]) (fun w I => Y.loadv ty_53 rfl (I.rd (E2.rd.part 0 3)) rfl rfl) ?_
      refine OpsQ.y (v := .bool _) (fun w I => Y.nest Tryz.eqGuardType53 (eq_53 _ _ _ _ _ _) rfl rfl) ?_
      refine OpsQ.nil ?_
      intro w I
      refine WP.cond rfl (fun h6 => ?_) (fun h6 => ?_)
      · refine WP.seq ?_
        refine WP.region ?_
        refine Ops.y (v := .bool _) (Y.assign rfl) ?_
        refine Ops.nil ?_
        refine WP.ret ?_
        repeat (first | refine thenE_ret ?_ | refine blockE_ret ?_)
        exact retQ.mk (vs := [.bool _]) rfl ⟨rfl, trivial⟩ I.ext_of (by simp only [tup]; rw [decide_eq_false hpq])
      refine WP.skip ?_
      refine WP.region ?_
      refine Ops.y (v := .int .i64 _) (Y.move rfl) ?_
      refine Ops.y (v := .int .i64 _) (Y.addi rfl rfl ⟨by omega, by omega⟩) ?_
      refine Ops.y (v := .int .i64 _) (Y.assign rfl) ?_
      refine Ops.nil ?_
      exact ⟨k + 1, ⟨⟨rfl, rfl, rfl, trivial⟩, I, hk', fun j hj => by
        rcases Nat.lt_succ_iff_lt_or_eq.1 hj with h' | rfl
        · exact hn j h'
        · rw [List.getElem?_eq_getElem hk', List.getElem?_eq_getElem hkb]
          rw [prd_eq] at h6
          congr 1
          simpa using h6⟩, by omega⟩
    exact absurd (List.ext_getElem? fun j => by
      rcases Nat.lt_or_ge j k with h' | h'
      · exact hn j h'
      · rw [List.getElem?_eq_none (by omega), List.getElem?_eq_none (by omega)]) hpq
  obtain ⟨_, hr⟩ := Prg.er_iff (he hpq)
  have hlr : p.rules.xs.length = q.rules.xs.length := by have := congrArg List.length hr; simpa using this
  refine WP.seq ?_
  refine WP.seq ?_
  refine WP.region ?_
  refine Ops.y (v := .pointer (some ⟨_, _, none⟩)) (Y.fa0 fa_25_0 rfl) ?_
  refine Ops.y (v := .slice _ _ _) (Y.loadv ty_22 rfl (I.rdbox 1 rfl 0 1) rfl rfl) ?_
  refine Ops.y (v := .int .i64 _) (Y.lens Tryz.underlying22 rfl) ?_
  refine Ops.y (v := .pointer (some ⟨_, _, none⟩)) (Y.fa0 fa_25_0 rfl) ?_
  refine Ops.y (v := .slice _ _ _) (Y.loadv ty_22 rfl (I.rdbox 0 rfl 0 1) rfl rfl) ?_
  refine Ops.y (v := .int .i64 _) (Y.lens Tryz.underlying22 rfl) ?_
  refine Ops.y (v := .bool false) (Y.dec_f (Y.nei rfl rfl) ((fun h => h (by rw [hpq])))) ?_
  refine Ops.y (v := .bool _) (Y.move rfl) ?_
  refine Ops.ygt rfl (v := .pointer (some ⟨_, _, none⟩)) (Y.fa fa_25_1 rfl) ?_
  refine Ops.ygt rfl (v := .slice _ _ _) (Y.loadv ty_23 rfl (I.rdbox 1 rfl 1 1) rfl rfl) ?_
  refine Ops.ygt rfl (v := .int .i64 _) (Y.lens Tryz.underlying23 rfl) ?_
  refine Ops.ygt rfl (v := .pointer (some ⟨_, _, none⟩)) (Y.fa fa_25_1 rfl) ?_
  refine Ops.ygt rfl (v := .slice _ _ _) (Y.loadv ty_23 rfl (I.rdbox 0 rfl 1 1) rfl rfl) ?_
  refine Ops.ygt rfl (v := .int .i64 _) (Y.lens Tryz.underlying23 rfl) ?_
  refine Ops.ygt rfl (v := .bool false) (Y.dec_f (Y.nei rfl rfl) ((fun h => h (by rw [hlr])))) ?_
  refine Ops.y (v := .bool _) (Y.pick_f rfl rfl) ?_
  refine Ops.nil ?_
  refine WP.cond_f rfl ?_
  refine WP.skip ?_
  refine WP.seq ?_
  refine WP.seq ?_
  refine WP.region ?_
  refine Ops.y (v := .int .i64 _) (Y.assign rfl) ?_
  refine Ops.nil ?_
  refine WP.cutK (σ := Unit) (fun _ => [(2, .pointer (some ⟨b2, 0, none⟩)), (3, .pointer (some ⟨b3, 0, none⟩))]) (fun _ w => Inv B B.h [box b3 q.enc 25, box b2 p.enc 25] w) ?_ ?_
  · refine WP.block ?_
    refine WP.loopE (σ := Nat) (fun k => [(2, .pointer (some ⟨b2, 0, none⟩)), (3, .pointer (some ⟨b3, 0, none⟩)), (5, .int .i64 k)]) (fun k w => Inv B B.h [box b3 q.enc 25, box b2 p.enc 25] w ∧ k ≤ p.preds.xs.length) (fun k => p.preds.xs.length - k)
      ⟨0, ⟨rfl, rfl, rfl, trivial⟩, I, Nat.zero_le _⟩ ?_
    rintro k e w ⟨I, hk⟩
    refine WP.seq ?_
    refine WP.seq ?_
    refine WP.region ?_
    refine Ops.y (v := .int .i64 _) (Y.move rfl) ?_
    refine Ops.y (v := .pointer (some ⟨_, _, none⟩)) (Y.fa0 fa_25_0 rfl) ?_
    refine Ops.y (v := .slice _ _ _) (Y.loadv ty_22 rfl (I.rdbox 1 rfl 0 1) rfl rfl) ?_
    refine Ops.y (v := .int .i64 _) (Y.lens Tryz.underlying22 rfl) ?_
    refine Ops.y (v := .bool (decide _)) (Y.lti rfl rfl) ?_
    refine Ops.nil ?_
    refine WP.cond_dec rfl (fun h4 => ?_) (fun h4 => ?_)
    · have hk' : k < p.preds.xs.length := by omega
      have hkb : k < q.preds.xs.length := by rw [← hpq]; exact hk'
      have E1 := hp.preds.at hk'
      have E2 := hq.preds.at hkb
      have hee : p.preds.xs[k] = q.preds.xs[k] := by simp only [hpq]
      refine WP.skip ?_
      refine WP.seq ?_
      refine WP.block ?_
      refine WP.seq ?_
      refine WP.regionQ mixed I (by kernel_rfl) ?_
      refine OpsQ.y (v := .pointer (some ⟨_, _, none⟩)) (fun w I => Y.fa0 fa_25_0 rfl) ?_
      refine OpsQ.y (v := .slice _ _ _) (fun w I => Y.loadv ty_22 rfl (I.rdbox 1 rfl 0 1) rfl rfl) ?_
      refine OpsQ.y (v := .int .i64 _) (fun w I => Y.move rfl) ?_
      refine OpsQ.y (v := .pointer (some ⟨_, _, none⟩)) (fun w I => Y.idxEl E1 Tryz.underlying22 Tryz.sizeOf53 rfl rfl (Int.natCast_nonneg _) rfl) ?_
      refine OpsQ.y (v := .agg #[_, _, _]) (fun w I => Y.loadv ty_53 rfl (I.rd (E1.rd.part 0 3)) rfl rfl) ?_
      refine OpsQ.y (v := .pointer (some ⟨_, _, none⟩)) (fun w I => Y.fa0 fa_25_0 rfl) ?_
      refine OpsQ.y (v := .slice _ _ _) (fun w I => Y.loadv ty_22 rfl (I.rdbox 0 rfl 0 1) rfl rfl) ?_
      refine OpsQ.y (v := .int .i64 _) (fun w I => Y.move rfl) ?_
      refine OpsQ.y (v := .pointer (some ⟨_, _, none⟩)) (fun w I => Y.idxEl E2 Tryz.underlying22 Tryz.sizeOf53 rfl rfl (Int.natCast_nonneg _) rfl) ?_
      refine OpsQ.y (v := .agg #[_, _, _]) (fun w I => Y.loadv ty_53 rfl (I.rd (E2.rd.part 0 3)) rfl rfl) ?_
      refine OpsQ.y (v := .bool _) (fun w I => Y.nest Tryz.eqGuardType53 (eq_53 _ _ _ _ _ _) rfl rfl) ?_
      refine OpsQ.nil ?_
      intro w I
      refine WP.cond rfl (fun h6 => ?_) (fun h6 => ?_)
      · exfalso
        rw [prd_eq, hee] at h6; simp at h6
      refine WP.skip ?_
      refine WP.region ?_
      refine Ops.y (v := .int .i64 _) (Y.move rfl) ?_
      refine Ops.y (v := .int .i64 _) (Y.addi rfl rfl ⟨by omega, by omega⟩) ?_
      refine Ops.y (v := .int .i64 _) (Y.assign rfl) ?_
      refine Ops.nil ?_
      exact ⟨k + 1, ⟨⟨rfl, rfl, rfl, trivial⟩, I, hk'⟩, by omega⟩
    refine WP.exit ?_
    exact ⟨(), ⟨rfl, rfl, trivial⟩, I⟩
  rintro _ e w I
  refine WP.seq ?_
  refine WP.seq ?_
  refine WP.region ?_
  refine Ops.y (v := .int .i64 _) (Y.assign rfl) ?_
  refine Ops.nil ?_
  refine WP.block ?_
  refine WP.loopE (σ := Nat) (fun k => [(2, .pointer (some ⟨b2, 0, none⟩)), (3, .pointer (some ⟨b3, 0, none⟩)), (6, .int .i64 k)]) (fun k w => (∃ h0, B.h.le h0 ∧ Inv B h0 [box b3 q.enc 25, box b2 p.enc 25] w) ∧ k ≤ p.rules.xs.length) (fun k => p.rules.xs.length - k)
    ⟨0, ⟨rfl, rfl, rfl, trivial⟩, ⟨_, Heap.le.refl _, I⟩, Nat.zero_le _⟩ ?_
  rintro k e w ⟨⟨h0, gl, I⟩, hk⟩
  refine WP.seq ?_
  refine WP.seq ?_
  refine WP.region ?_
  refine Ops.y (v := .int .i64 _) (Y.move rfl) ?_
  refine Ops.y (v := .pointer (some ⟨_, _, none⟩)) (Y.fa fa_25_1 rfl) ?_
  refine Ops.y (v := .slice _ _ _) (Y.loadv ty_23 rfl (I.rdbox 1 rfl 1 1) rfl rfl) ?_
  refine Ops.y (v := .int .i64 _) (Y.lens Tryz.underlying23 rfl) ?_
  refine Ops.y (v := .bool (decide _)) (Y.lti rfl rfl) ?_
  refine Ops.nil ?_
  refine WP.cond_dec rfl (fun h9 => ?_) (fun h9 => ?_)
  · have hk' : k < p.rules.xs.length := by omega
    have hkb : k < q.rules.xs.length := by omega
    have E1 := (hp.rules.is.le gl).at hk'
    have E2 := (hq.rules.is.le gl).at hkb
    have i1 := (hp.rules.each _ (List.getElem_mem hk')).le gl
    have i2 := (hq.rules.each _ (List.getElem_mem hkb)).le gl
    obtain ⟨r1, r2, r3, r4⟩ := Rul.er_iff (map_at hr hk' hkb)
    have r5 : p.rules.xs[k].body.xs.length = q.rules.xs[k].body.xs.length := by have := congrArg List.length r4; simpa using this
    refine WP.skip ?_
    refine WP.seq ?_
    refine WP.block ?_
    refine WP.seq ?_
    refine WP.regionG mixed RBx.pre ⟨h0, none, none⟩ (J := JBx B [box b3 q.enc 25, box b2 p.enc 25] 64 [.int .i64 0, .slice none 0 0, .int .i64 0, .int .i64 0, .slice none 0 0] p.rules.xs[k].enc 10 11 12) ⟨rfl, rfl, fun h => (by cases h), I.drew⟩ 13 (by kernel_rfl) ?_
    refine OpsG.y_ (v := .pointer (some ⟨_, _, none⟩)) (fun _ => runsG_none _) RBx.pre (JBx.set (by decide)) (fun _ s w us hl hj => have I := hj.base; have hl := hl.h; Y.fa fa_25_1 rfl) ?_
    refine OpsG.y_ (v := .slice _ _ _) (fun _ => runsG_none _) RBx.pre (JBx.set (by decide)) (fun _ s w us hl hj => have I := hj.base; have hl := hl.h; Y.loadv ty_23 rfl (I.rdbox 1 rfl 1 1) rfl rfl) ?_
    refine OpsG.y_ (v := .int .i64 _) (fun _ => runsG_none _) RBx.pre (JBx.set (by decide)) (fun _ s w us hl hj => have I := hj.base; have hl := hl.h; Y.move rfl) ?_
    refine OpsG.y_ (v := .pointer (some ⟨_, _, none⟩)) (fun _ => runsG_none _) RBx.pre (JBx.set (by decide)) (fun _ s w us hl hj => have I := hj.base; have hl := hl.h; Y.idxEl E1 Tryz.underlying23 Tryz.sizeOf64 rfl rfl (Int.natCast_nonneg _) rfl) ?_
    refine OpsG.y_ (v := .agg #[_, _, _, _, _]) (fun _ => runsG_none _) RBx.pre (JBx.set (by decide)) (fun _ s w us hl hj => have I := hj.base; have hl := hl.h; Y.loadv ty_64 rfl (I.rd ((E1.rd.part 0 5).le hl)) rfl rfl) ?_
    refine OpsG.y_ (v := .pointer (some ⟨_, _, none⟩)) (fun _ => runsG_none _) RBx.pre (JBx.set (by decide)) (fun _ s w us hl hj => have I := hj.base; have hl := hl.h; Y.fa fa_25_1 rfl) ?_
    refine OpsG.y_ (v := .slice _ _ _) (fun _ => runsG_none _) RBx.pre (JBx.set (by decide)) (fun _ s w us hl hj => have I := hj.base; have hl := hl.h; Y.loadv ty_23 rfl (I.rdbox 0 rfl 1 1) rfl rfl) ?_
    refine OpsG.y_ (v := .int .i64 _) (fun _ => runsG_none _) RBx.pre (JBx.set (by decide)) (fun _ s w us hl hj => have I := hj.base; have hl := hl.h; Y.move rfl) ?_
    refine OpsG.y_ (v := .pointer (some ⟨_, _, none⟩)) (fun _ => runsG_none _) RBx.pre (JBx.set (by decide)) (fun _ s w us hl hj => have I := hj.base; have hl := hl.h; Y.idxEl E2 Tryz.underlying23 Tryz.sizeOf64 rfl rfl (Int.natCast_nonneg _) rfl) ?_
    refine OpsG.y_ (v := .agg #[_, _, _, _, _]) (fun _ => runsG_none _) RBx.pre (JBx.set (by decide)) (fun _ s w us hl hj => have I := hj.base; have hl := hl.h; Y.loadv ty_64 rfl (I.rd ((E2.rd.part 0 5).le hl)) rfl rfl) ?_
    refine OpsG.make7 Tryz.zeroValue64 rfl (by decide) (by decide) ?_
    refine OpsG.make8 Tryz.zeroValue64 rfl (by decide) (by decide) ?_
    refine OpsG.store7 ty_64 rfl rfl (fun s => by intro u7 q7 u8 _; exact ⟨q7 rfl, rfl⟩) rfl rfl (by decide) (by decide) ?_
    refine OpsG.nil ?_
    intro D s w hD hl hj u7 q7 u8 q8
    obtain ⟨b7, rfl, h7⟩ := q7 rfl
    obtain ⟨b8, rfl, h8⟩ := q8 rfl
    have I := hj.inv
    rw [h7, h8, hD 12 (by omega)] at I
    simp only [pcs, if_true, Bool.false_eq_true, if_false, List.cons_append, List.nil_append] at I
    have hl := hl.h
    refine Ops.go (O.store (v := .agg #[_, _, _, _, _]) I ty_64 1 rfl rfl rfl rfl rfl rfl (Nat.le_of_ble_eq_true rfl) rfl ?_)
    intro w I
    refine Ops.nil ?_
    generalize s.h = h1 at I hl
    have i1 := i1.le hl
    have i2 := i2.le hl
    refine WP.seq ?_
    refine WP.seq ?_
    refine WP.region ?_
    refine Ops.y (v := .pointer (some ⟨_, _, none⟩)) (Y.fa0 fa_64_0 rfl) ?_
    refine Ops.y (v := .agg #[_, _]) (Y.loadv ty_61 rfl (I.rdbox 0 rfl 0 2) rfl rfl) ?_
    refine Ops.y (v := .pointer (some ⟨_, _, none⟩)) (Y.fa0 fa_64_0 rfl) ?_
    refine Ops.y (v := .agg #[_, _]) (Y.loadv ty_61 rfl (I.rdbox 1 rfl 0 2) rfl rfl) ?_
    refine Ops.go (O.callv I Tryz.call34 (sameAtoms_ok _ I.base_ok _ _ i1.head i2.head r1) rfl ?_)
    intro w I
    refine Ops.y (v := .bool false) (Y.b (Y.not rfl) (rfl)) ?_
    refine Ops.y (v := .bool _) (Y.move rfl) ?_
    refine Ops.ygt rfl (v := .pointer (some ⟨_, _, none⟩)) (Y.fa fa_64_1 rfl) ?_
    refine Ops.ygt rfl (v := .int .i64 _) (Y.loadv ty_3 rfl (I.rdbox 0 rfl 2 1) rfl rfl) ?_
    refine Ops.ygt rfl (v := .pointer (some ⟨_, _, none⟩)) (Y.fa fa_64_1 rfl) ?_
    refine Ops.ygt rfl (v := .int .i64 _) (Y.loadv ty_3 rfl (I.rdbox 1 rfl 2 1) rfl rfl) ?_
    refine Ops.ygt rfl (v := .bool false) (Y.dec_f (Y.nei rfl rfl) ((fun h => h r2))) ?_
    refine Ops.y (v := .bool _) (Y.pick_f rfl rfl) ?_
    refine Ops.y (v := .bool _) (Y.move rfl) ?_
    refine Ops.ygt rfl (v := .pointer (some ⟨_, _, none⟩)) (Y.fa fa_64_2 rfl) ?_
    refine Ops.ygt rfl (v := .int .i64 _) (Y.loadv ty_3 rfl (I.rdbox 0 rfl 3 1) rfl rfl) ?_
    refine Ops.ygt rfl (v := .pointer (some ⟨_, _, none⟩)) (Y.fa fa_64_2 rfl) ?_
    refine Ops.ygt rfl (v := .int .i64 _) (Y.loadv ty_3 rfl (I.rdbox 1 rfl 3 1) rfl rfl) ?_
    refine Ops.ygt rfl (v := .bool false) (Y.dec_f (Y.nei rfl rfl) ((fun h => h r3))) ?_
    refine Ops.y (v := .bool _) (Y.pick_f rfl rfl) ?_
    refine Ops.y (v := .bool _) (Y.move rfl) ?_
    refine Ops.ygt rfl (v := .pointer (some ⟨_, _, none⟩)) (Y.fa fa_64_3 rfl) ?_
    refine Ops.ygt rfl (v := .slice _ _ _) (Y.loadv ty_62 rfl (I.rdbox 0 rfl 4 1) rfl rfl) ?_
    refine Ops.ygt rfl (v := .int .i64 _) (Y.lens Tryz.underlying62 rfl) ?_
    refine Ops.ygt rfl (v := .pointer (some ⟨_, _, none⟩)) (Y.fa fa_64_3 rfl) ?_
    refine Ops.ygt rfl (v := .slice _ _ _) (Y.loadv ty_62 rfl (I.rdbox 1 rfl 4 1) rfl rfl) ?_
    refine Ops.ygt rfl (v := .int .i64 _) (Y.lens Tryz.underlying62 rfl) ?_
    refine Ops.ygt rfl (v := .bool false) (Y.dec_f (Y.nei rfl rfl) ((fun h => h (by rw [r5])))) ?_
    refine Ops.y (v := .bool _) (Y.pick_f rfl rfl) ?_
    refine Ops.nil ?_
    refine WP.cond_f rfl ?_
    refine WP.skip ?_
    refine WP.seq ?_
    refine WP.region ?_
    refine Ops.y (v := .int .i64 _) (Y.assign rfl) ?_
    refine Ops.nil ?_
    refine WP.block ?_
    refine WP.loopE (σ := Nat) (fun j => [(2, .pointer (some ⟨b2, 0, none⟩)), (3, .pointer (some ⟨b3, 0, none⟩)), (6, .int .i64 k), (7, .pointer (some ⟨b7, 0, none⟩)), (8, .pointer (some ⟨b8, 0, none⟩)), (9, .int .i64 j)]) (fun j w => Inv B h1 [box b7 p.rules.xs[k].enc 64, box b8 q.rules.xs[k].enc 64, box b3 q.enc 25, box b2 p.enc 25] w ∧ j ≤ p.rules.xs[k].body.xs.length) (fun j => p.rules.xs[k].body.xs.length - j)
      ⟨0, ⟨rfl, rfl, rfl, rfl, rfl, rfl, trivial⟩, I, Nat.zero_le _⟩ ?_
    rintro j e w ⟨I, hj⟩
    have hs5 := i1.body.is.small
    refine WP.seq ?_
    refine WP.seq ?_
    refine WP.region ?_
    refine Ops.y (v := .int .i64 _) (Y.move rfl) ?_
    refine Ops.y (v := .pointer (some ⟨_, _, none⟩)) (Y.fa fa_64_3 rfl) ?_
    refine Ops.y (v := .slice _ _ _) (Y.loadv ty_62 rfl (I.rdbox 0 rfl 4 1) rfl rfl) ?_
    refine Ops.y (v := .int .i64 _) (Y.lens Tryz.underlying62 rfl) ?_
    refine Ops.y (v := .bool (decide _)) (Y.lti rfl rfl) ?_
    refine Ops.nil ?_
    refine WP.cond_dec rfl (fun h15 => ?_) (fun h15 => ?_)
    · have hj1 : j < p.rules.xs[k].body.xs.length := by omega
      have hj2 : j < q.rules.xs[k].body.xs.length := by omega
      have F1 := i1.body.is.at hj1
      have F2 := i2.body.is.at hj2
      have b1 := i1.body.each _ (List.getElem_mem hj1)
      have b2' := i2.body.each _ (List.getElem_mem hj2)
      have ee := map_at r4 hj1 hj2
      have e1 : p.rules.xs[k].body.xs[j].neg = q.rules.xs[k].body.xs[j].neg := by have := congrArg Ltl.neg ee; exact this
      have e2 : p.rules.xs[k].body.xs[j].atom.er = q.rules.xs[k].body.xs[j].atom.er := by have := congrArg Ltl.atom ee; exact this
      refine WP.skip ?_
      refine WP.seq ?_
      refine WP.block ?_
      refine WP.seq ?_
      refine WP.regionQ mixed I (by kernel_rfl) ?_
      refine OpsQ.y (v := .pointer (some ⟨_, _, none⟩)) (fun w I => Y.fa fa_64_3 rfl) ?_
      refine OpsQ.y (v := .slice _ _ _) (fun w I => Y.loadv ty_62 rfl (I.rdbox 0 rfl 4 1) rfl rfl) ?_
      refine OpsQ.y (v := .int .i64 _) (fun w I => Y.move rfl) ?_
      refine OpsQ.y (v := .pointer (some ⟨_, _, none⟩)) (fun w I => Y.idxEl F1 Tryz.underlying62 Tryz.sizeOf68 rfl rfl (Int.natCast_nonneg _) rfl) ?_
      refine OpsQ.y (v := .pointer (some ⟨_, _, none⟩)) (fun w I => Y.fa0 fa_68_0 rfl) ?_
      refine OpsQ.y (v := .bool _) (fun w I => Y.loadv ty_4 rfl (I.rd (F1.rd.part 0 1)) rfl rfl) ?_
      refine OpsQ.y (v := .pointer (some ⟨_, _, none⟩)) (fun w I => Y.fa fa_64_3 rfl) ?_
      refine OpsQ.y (v := .slice _ _ _) (fun w I => Y.loadv ty_62 rfl (I.rdbox 1 rfl 4 1) rfl rfl) ?_
      refine OpsQ.y (v := .int .i64 _) (fun w I => Y.move rfl) ?_
      refine OpsQ.y (v := .pointer (some ⟨_, _, none⟩)) (fun w I => Y.idxEl F2 Tryz.underlying62 Tryz.sizeOf68 rfl rfl (Int.natCast_nonneg _) rfl) ?_
      refine OpsQ.y (v := .pointer (some ⟨_, _, none⟩)) (fun w I => Y.fa0 fa_68_0 rfl) ?_
      refine OpsQ.y (v := .bool _) (fun w I => Y.loadv ty_4 rfl (I.rd (F2.rd.part 0 1)) rfl rfl) ?_
      refine OpsQ.y (v := .bool false) (fun w I => Y.dec_f (Y.neb Tryz.underlying4 rfl rfl) ((fun h => h e1))) ?_
      refine OpsQ.y (v := .bool _) (fun w I => Y.move rfl) ?_
      refine OpsQ.ygt rfl (v := .pointer (some ⟨_, _, none⟩)) (fun w I => Y.fa fa_64_3 rfl) ?_
      refine OpsQ.ygt rfl (v := .slice _ _ _) (fun w I => Y.loadv ty_62 rfl (I.rdbox 0 rfl 4 1) rfl rfl) ?_
      refine OpsQ.ygt rfl (v := .int .i64 _) (fun w I => Y.move rfl) ?_
      refine OpsQ.ygt rfl (v := .pointer (some ⟨_, _, none⟩)) (fun w I => Y.idxEl F1 Tryz.underlying62 Tryz.sizeOf68 rfl rfl (Int.natCast_nonneg _) rfl) ?_
      refine OpsQ.ygt rfl (v := .pointer (some ⟨_, _, none⟩)) (fun w I => Y.fa fa_68_1 rfl) ?_
      refine OpsQ.ygt rfl (v := .agg #[_, _]) (fun w I => Y.loadv ty_61 rfl (I.rd (F1.rd.part 1 2)) rfl rfl) ?_
      refine OpsQ.ygt rfl (v := .pointer (some ⟨_, _, none⟩)) (fun w I => Y.fa fa_64_3 rfl) ?_
      refine OpsQ.ygt rfl (v := .slice _ _ _) (fun w I => Y.loadv ty_62 rfl (I.rdbox 1 rfl 4 1) rfl rfl) ?_
      refine OpsQ.ygt rfl (v := .int .i64 _) (fun w I => Y.move rfl) ?_
      refine OpsQ.ygt rfl (v := .pointer (some ⟨_, _, none⟩)) (fun w I => Y.idxEl F2 Tryz.underlying62 Tryz.sizeOf68 rfl rfl (Int.natCast_nonneg _) rfl) ?_
      refine OpsQ.ygt rfl (v := .pointer (some ⟨_, _, none⟩)) (fun w I => Y.fa fa_68_1 rfl) ?_
      refine OpsQ.ygt rfl (v := .agg #[_, _]) (fun w I => Y.loadv ty_61 rfl (I.rd (F2.rd.part 1 2)) rfl rfl) ?_
      refine OpsQ.cgt rfl (fun w I => QC.callv I Tryz.call34 (sameAtoms_ok _ I.base_ok _ _ b1 b2' e2) rfl) ?_
      refine OpsQ.ygt rfl (v := .bool false) (fun w I => Y.b (Y.not rfl) (rfl)) ?_
      refine OpsQ.y (v := .bool _) (fun w I => Y.pick_f rfl rfl) ?_
      refine OpsQ.nil ?_
      intro w I
      refine WP.cond_f rfl ?_
      refine WP.skip ?_
      refine WP.region ?_
      refine Ops.y (v := .int .i64 _) (Y.move rfl) ?_
      refine Ops.y (v := .int .i64 _) (Y.addi rfl rfl ⟨by omega, by omega⟩) ?_
      refine Ops.y (v := .int .i64 _) (Y.assign rfl) ?_
      refine Ops.nil ?_
      exact ⟨j + 1, ⟨⟨rfl, rfl, rfl, rfl, rfl, rfl, trivial⟩, I, hj1⟩, by omega⟩
    refine WP.exit ?_
    refine WP.region ?_
    refine Ops.y (v := .int .i64 _) (Y.move rfl) ?_
    refine Ops.y (v := .int .i64 _) (Y.addi rfl rfl ⟨by omega, by omega⟩) ?_
    refine Ops.y (v := .int .i64 _) (Y.assign rfl) ?_
    refine Ops.nil ?_
    exact ⟨k + 1, ⟨⟨rfl, rfl, rfl, trivial⟩, ⟨h1, gl.trans hl, I.weak ((List.sublist_cons_self _ _).trans (List.sublist_cons_self _ _))⟩, hk'⟩, by omega⟩
  refine WP.exit ?_
  refine WP.seq ?_
  refine WP.region ?_
  refine Ops.y (v := .bool _) (Y.assign rfl) ?_
  refine Ops.nil ?_
  refine WP.ret ?_
  repeat (first | refine thenE_ret ?_ | refine blockE_ret ?_)
  exact retQ.mk (vs := [.bool _]) rfl ⟨rfl, trivial⟩ I.ext_of (by simp only [tup]; rw [decide_eq_true hpq])
theorem SameProgs_at (B : Base) (hB : B.ok) (p q : Prg) (hp : p.In B.h) (hq : q.In B.h) (he : p.er = q.er) : Fn Tryz.prog 10 [p.val, q.val] B (fun v _ => v = .bool true) := by
  have := SameProgs_ok B hB p q hp hq fun _ => he
  rwa [decide_eq_true (Prg.er_iff he).1] at this
end Go.TF
end
section
/- Needs: who is needed, by a queue. -/
namespace Go.TF
open Go Go.RowKit Go.Proofs
set_option maxRecDepth 20000

structure NdS where
  g : Nat
  o : Nat
  c : Nat
  q : List Int
  N : List Bool
  ms : List Nat
@[reducible] def NdU (b8 bo b2 : Nat) (p : Prg) (g o c : Nat) (q : List Int) (N : List Bool) : List SA := [box b8 [.slice (some ⟨g, o, none⟩) (q.map vI).length c] 78, ownQ 3 g o c (q.map vI), box bo (N.map vB) 4, box b2 p.enc 25]
structure NdJ (B : Base) (b8 bo b2 : Nat) (p : Prg) (pr : Int) (s : NdS) (w : World) : Prop where
  inv : ∃ h1, B.h.le h1 ∧ Inv B h1 (NdU b8 bo b2 p s.g s.o s.c s.q s.N ++ s.ms.map markSA) w
  len : s.N.length = p.preds.xs.length
  snd : ∀ i : Int, 0 ≤ i → i < p.preds.xs.length → bv s.N i = true → Reach (usesL p.rules.xs) pr i
  qin : ∀ x ∈ s.q, (0 ≤ x ∧ x < p.preds.xs.length) ∧ Reach (usesL p.rules.xs) pr x
  clo : ∀ c ∈ usesL p.rules.xs, bv s.N c.1 = true → bv s.N c.2.atom.pred = true ∨ c.2.atom.pred ∈ s.q
  has : bv s.N pr = true ∨ pr ∈ s.q
  small : s.q.length ≤ 1 + 24 * trues s.N
end Go.TF
end
section
/- The roads, their arrays the caller's own. -/
namespace Go.TF
open Go Go.RowKit Go.Proofs
set_option maxRecDepth 20000

def prC : List Prd := [⟨bEdge, 2, 0⟩, ⟨bFar, 2, 2⟩, ⟨bLone, 1, 0⟩]
structure RoadsM (v : Value) (h : Heap) (M : List SA) (bp br : Nat) (r0 r1 r2 r3 r4 r5 r6 : Rul) : Prop where
  val : v = .agg #[.slice (some ⟨bp, 0, none⟩) 3 3, .slice (some ⟨br, 0, none⟩) 7 7]
  own : M = [box br ([r0, r1, r2, r3, r4, r5, r6].flatMap Rul.enc) 64, box bp (prC.flatMap Prd.enc) 53]
  is : ∀ x ∈ [r0, r1, r2, r3, r4, r5, r6], x.In h
  cap : ∀ x ∈ [r0, r1, r2, r3, r4, r5, r6], x.body.xs.length ≤ x.body.cap
  er : [r0, r1, r2, r3, r4, r5, r6].map Rul.er = roadsC.rules.xs
end Go.TF
end
section
/- What the laws of programs begin with. -/
namespace Go.TF
open Go Go.RowKit Go.Proofs
set_option maxRecDepth 20000

def LtlS (x : Ltl) : Sp := fun u h => ∃ y : Ltl, u = y.val ∧ y.er = x ∧ y.In h
theorem LtlS.mono {x : Ltl} : MonoS (LtlS x) := fun _ _ _ hl ⟨s, a, b, c⟩ => ⟨s, a, b, c.le hl⟩
def LtlsS (xs : List Ltl) : Sp := fun u h => ∃ s : Sl Ltl, u = s.val ∧ s.xs.map Ltl.er = xs ∧ Ltls s h ∧ s.at_ = some ⟨s.blk, s.off, none⟩
theorem LtlsS.mono {xs : List Ltl} : MonoS (LtlsS xs) := fun _ _ _ hl ⟨s, a, b, c, d⟩ => ⟨s, a, b, c.le hl, d⟩
def LtlsF (xs : List Ltl) : Sp := fun u h => ∃ s : Sl Ltl, u = s.val ∧ s.xs.map Ltl.er = xs ∧ Ltls s h ∧ s.at_ = some ⟨s.blk, s.off, none⟩ ∧ s.cap = s.xs.length
theorem LtlsF.mono {xs : List Ltl} : MonoS (LtlsF xs) := fun _ _ _ hl ⟨s, a, b, c, d⟩ => ⟨s, a, b, c.le hl, d⟩
theorem RoadsAt.nm {p : Prg} {h : Heap} (x : RoadsAt p h) : p.Nm := by
  unfold Prg.Nm
  rw [x.preds]
  decide
theorem RoadsAt.check {p : Prg} {h : Heap} (x : RoadsAt p h) : checkProg p = 0 := by rw [← checkProg_er, x.er, roads_check]
theorem RoadsAt.uses {p : Prg} {h : Heap} (x : RoadsAt p h) : (usesL p.rules.xs).map cEr = usesL roadsC.rules.xs := by
  rw [← usesL_er]
  have := congrArg (fun q : Prg => q.rules.xs) x.er
  exact congrArg usesL this
theorem RoadsAt.len {p : Prg} {h : Heap} (x : RoadsAt p h) : p.preds.xs.length = 3 := by rw [x.preds]; rfl
end Go.TF
end
section
/- The laws of facts: each returns true. -/
namespace Go.TF
open Go Go.RowKit Go.Proofs
set_option maxRecDepth 20000

def pathsC : List Fct := [⟨0, 0, 1, 0⟩, ⟨0, 1, 2, 0⟩, ⟨1, 0, 1, 4⟩]
theorem paths_ok (B : Base) (hB : B.ok) : Fn Tryz.prog 36 [] B (fun v h => ∃ s : Sl Fct, v = s.val ∧ s.xs = pathsC ∧ Fcts s h) := by
  refine Fn.of Tryz.func36 rfl Tryz.ntmps36 (by kernel_rfl) (by simp) ?_
  intro e
  have I := Inv.start hB
  refine WP.seq ?_
  refine WP.region ?_
  refine Ops.y (v := .slice _ _ _) (Y.assign rfl) ?_
  refine Ops.nil ?_
  refine WP.seq ?_
  refine WP.region ?_
  refine Ops.y (v := .agg #[.int .i64 _, .int .i64 _, .int .i64 _, .int .i64 _]) (Y.build pl_83 Tryz.zeroValue83 rfl rfl) ?_
  refine Ops.y (v := .agg #[.int .i64 _, .int .i64 _, .int .i64 _, .int .i64 _]) (Y.build pl_83 Tryz.zeroValue83 rfl rfl) ?_
  refine Ops.y (v := .agg #[.int .i64 _, .int .i64 _, .int .i64 _, .int .i64 _]) (Y.build pl_83 Tryz.zeroValue83 rfl rfl) ?_
  refine Ops.go (O.mksl (xs := [⟨0, 0, 1, 0⟩, ⟨0, 1, 2, 0⟩, ⟨1, 0, 1, 4⟩]) (enc := Fct.enc) I Tryz.underlying31 Tryz.sizeOf83 Tryz.zeroValue83 rfl (Nat.le_of_ble_eq_true rfl) rfl rfl (by decide) (fun _ => rfl) ?_)
  intro b4 h4 w I le4 sl4
  refine Ops.y (v := .slice _ _ _) (Y.assign rfl) ?_
  refine Ops.nil ?_
  refine WP.ret ?_
  repeat (first | refine thenE_ret ?_ | refine blockE_ret ?_)
  exact retQ.mk (vs := [.slice _ _ _]) rfl ⟨rfl, trivial⟩ I.ext_of (⟨⟨some ⟨b4, 0, none⟩, 3, [⟨0, 0, 1, 0⟩, ⟨0, 1, 2, 0⟩, ⟨1, 0, 1, 4⟩]⟩, rfl, rfl, sl4, by simp⟩)
theorem SameFacts_at (B : Base) (hB : B.ok) (f g : Sl Fct) (hf : Fcts f B.h) (hg : Fcts g B.h) (h : f.xs = g.xs) : Fn Tryz.prog 11 [f.val, g.val] B (fun v _ => v = .bool true) := by
  have := SameFacts_ok B hB f g hf hg
  rwa [decide_eq_true h] at this
end Go.TF
end
section
/- Package text: what is shown of a right program is read as it was: plain; the law's beginning: walked. -/
namespace Go.TF
open Go Go.RowKit Go.Proofs
set_option maxRecDepth 20000

theorem prog_len {p : Prg} (h : checkProg p = 0) : (progL p).length ≤ 1183 := by
  have := shown_len h (linesP p).length
  rwa [List.take_length] at this
theorem readOK_show {p : Prg} (h : checkProg p = 0) : readOK (mk (progL p)) = some (p.preds.xs, p.rules.xs.map Rul.er) := by
  have hl := prog_len h
  unfold readOK
  rw [if_neg (by rw [mk_size]; omega)]
  rw [show tx (mk (progL p)) = progL p from rfl, readR_ok h]
  simp only
  have e : prgOf (p.preds.xs, p.rules.xs.map Rul.er) = p.er := rfl
  rw [e, checkProg_er, progL_er, if_pos ⟨h, rfl⟩]
theorem readE_show {p : Prg} (h : checkProg p = 0) : readE (mk (progL p)) = 0 := by
  have hl := prog_len h
  unfold readE
  rw [if_neg (by rw [mk_size]; omega), readOK_show h]; rfl
theorem readP_show {p : Prg} (h : checkProg p = 0) : readP (mk (progL p)) = p.er := by
  unfold readP; rw [readOK_show h]; rfl
abbrev sA : ByteArray := ⟨#[112, 114, 101, 100, 32, 97, 32, 48, 32, 48]⟩
theorem sA_none : readOK sA = none := by
  have h1 : readR (tx sA) = some ([⟨⟨#[97]⟩, 0, 0⟩], []) := by kernel_rfl
  unfold readOK
  rw [if_neg (by show ¬ 4096 < 10; omega), h1]
  simp only
  rw [if_neg]
  rintro ⟨_, h⟩
  have : progL (prgOf ([⟨⟨#[97]⟩, 0, 0⟩], [])) = [112, 114, 101, 100, 32, 97, 32, 48, 32, 48, 10] := by kernel_rfl
  rw [this] at h
  cases h
theorem sA_one : readE sA = 1 := by unfold readE; rw [if_neg (by show ¬ 4096 < 10; omega), sA_none]; rfl
theorem roads_shown : progL roadsC = progL roadsC ∧ (progL roadsC).length = 185 ∧ (progL roadsC).take 14 = [112, 114, 101, 100, 32, 101, 100, 103, 101, 32, 50, 32, 48, 10] ∧ (progL roadsC).drop 152 = [108, 111, 110, 101, 40, 65, 41, 32, 58, 45, 32, 101, 100, 103, 101, 40, 65, 44, 66, 41, 44, 32, 33, 102, 97, 114, 40, 65, 44, 65, 41, 46, 10] := ⟨rfl, by kernel_rfl, by kernel_rfl, by kernel_rfl⟩
theorem paths_shown : factsL roadsC.preds.xs pathsC = [101, 100, 103, 101, 40, 48, 44, 49, 41, 46, 10, 101, 100, 103, 101, 40, 49, 44, 50, 41, 46, 10, 102, 97, 114, 40, 48, 44, 49, 41, 32, 61, 32, 52, 46, 10] := by kernel_rfl
theorem rd_shown {p : Prg} (h : p.er = roadsC) : progL p = progL roadsC := by rw [← progL_er, h]
end Go.TF
end
section
/- The laws of texts begin: walked. -/
namespace Go.TF
open Go Go.RowKit Go.Proofs
set_option maxRecDepth 20000

def RoadS : Sp := fun u h => ∃ p : Prg, u = p.val ∧ RoadsAt p h
theorem RoadS.mono : MonoS RoadS := fun _ _ _ hl ⟨p, a, b⟩ => ⟨p, a, b.le hl⟩
theorem Show_rd (B : Base) (hB : B.ok) (p : Prg) (hp : RoadsAt p B.h) : Fn Tryz.prog 7 [p.val] B (fun v _ => v = .tuple #[.string (mk (progL roadsC)), .int .i64 0]) :=
  (Show_ok B hB p hp.is hp.nm).mono fun v h' _ hv => by rw [hv]; unfold showOf; rw [if_pos hp.check, rd_shown hp.er]
theorem Facts_rd (B : Base) (hB : B.ok) (p : Prg) (hp : RoadsAt p B.h) (f : Sl Fct) (hf : Fcts f B.h) (he : f.xs = pathsC) : Fn Tryz.prog 19 [p.val, f.val] B (fun v _ => v = .tuple #[.string (mk (factsL roadsC.preds.xs pathsC)), .int .i64 0]) :=
  (Facts_ok B hB p hp.is hp.nm f hf).mono fun v h' _ hv => by
    have hpr : p.preds.xs = roadsC.preds.xs := by have := congrArg (fun q : Prg => q.preds.xs) hp.er; exact this
    have ha : askR p pathsC = 0 := askR_iff.2 ⟨hp.check, checkFacts_ok.1 (by rw [hpr]; kernel_rfl)⟩
    rw [hv]; unfold factsV; rw [he, if_pos ha, hpr]
theorem Read_rd (B : Base) (hB : B.ok) (V : Vars B.h) : Fn Tryz.prog 8 [.string (mk (progL roadsC))] B (fun v h => ∃ g : Prg, v = .tuple #[g.val, .int .i64 0] ∧ g.In h ∧ g.er = roadsC) :=
  (Read_ok B hB V _).mono fun v h' _ ⟨g, hv, gi, _, ge⟩ => ⟨g, by rw [hv, readE_show roads_check], gi, by rw [ge, readP_show roads_check]; rfl⟩
theorem Read_sA (B : Base) (hB : B.ok) (V : Vars B.h) : Fn Tryz.prog 8 [.string sA] B (fun v _ => ∃ g : Prg, v = .tuple #[g.val, .int .i64 1]) :=
  (Read_ok B hB V _).mono fun v h' _ ⟨g, hv, gi, _, ge⟩ => ⟨g, by rw [hv, sA_one]⟩
set_option maxHeartbeats 4000000 in
theorem textBegun_ok (B : Base) (hB : B.ok) (V : Vars B.h) : Fn Tryz.prog 12 [] B (fun v _ => v = .bool true) := by
  refine Fn.of Tryz.func12 rfl Tryz.ntmps12 (by kernel_rfl) (by simp) ?_
  intro e
  have I := Inv.start hB
  refine WP.seq ?_
  refine WP.region ?_
  refine Ops.y (v := .bool _) (Y.assign rfl) ?_
  refine Ops.nil ?_
  refine WP.seq ?_
  refine WP.region ?_
  refine Ops.go (O.call I Tryz.call35 (roads_ok _ I.base_ok) rfl ?_)
  rintro _ h1 w I le1 ⟨p1, rfl, hp1⟩
  refine Ops.go (O.callv I Tryz.call7 (Show_rd _ I.base_ok p1 hp1) rfl ?_)
  intro w I
  refine Ops.y (v := .tuple #[_, _]) (Y.move rfl) ?_
  refine Ops.y (v := .string _) (Y.extract rfl rfl) ?_
  refine Ops.y (v := .int .i64 _) (Y.extract rfl rfl) ?_
  refine Ops.y (v := .string _) (Y.assign rfl) ?_
  refine Ops.y (v := .int .i64 _) (Y.assign rfl) ?_
  refine Ops.nil ?_
  refine WP.seq ?_
  refine WP.region ?_
  refine Ops.y (v := .string _) (Y.move rfl) ?_
  refine Ops.go (O.call I Tryz.call8 (Read_rd _ I.base_ok (V.le le1)) rfl ?_)
  rintro _ h2 w I le2 ⟨g, rfl, gi, ge⟩
  refine Ops.y (v := .tuple #[_, _]) (Y.move rfl) ?_
  refine Ops.y (v := .agg #[_, _]) (Y.extract rfl rfl) ?_
  refine Ops.y (v := .int .i64 _) (Y.extract rfl rfl) ?_
  refine Ops.go (O.alloc I Tryz.zeroValue25 rfl ?_)
  intro b3 w I
  refine Ops.go (O.store (v := .agg #[_, _]) I ty_25 0 rfl rfl rfl rfl rfl rfl (Nat.le_of_ble_eq_true rfl) rfl ?_)
  intro w I
  refine Ops.y (v := .int .i64 _) (Y.assign rfl) ?_
  refine Ops.nil ?_
  refine WP.seq ?_
  refine WP.region ?_
  refine Ops.go (O.call I Tryz.call35 (roads_ok _ I.base_ok) rfl ?_)
  rintro _ h3 w I le3 ⟨p3, rfl, hp3⟩
  refine Ops.go (O.call I Tryz.call36 (paths_ok _ I.base_ok) rfl ?_)
  rintro _ h4 w I le4 ⟨f, rfl, fe, fi⟩
  refine Ops.go (O.callv I Tryz.call19 (Facts_rd _ I.base_ok p3 (hp3.le le4) f fi fe) rfl ?_)
  intro w I
  refine Ops.y (v := .tuple #[_, _]) (Y.move rfl) ?_
  refine Ops.y (v := .string _) (Y.extract rfl rfl) ?_
  refine Ops.y (v := .int .i64 _) (Y.extract rfl rfl) ?_
  refine Ops.y (v := .string _) (Y.assign rfl) ?_
  refine Ops.y (v := .int .i64 _) (Y.assign rfl) ?_
  refine Ops.nil ?_
  refine WP.seq ?_
  refine WP.region ?_
  refine Ops.go (O.call I Tryz.call8 (Read_sA _ I.base_ok (V.le (((le1.trans le2).trans le3).trans le4))) rfl ?_)
  rintro _ h5 w I le5 ⟨g2, rfl⟩
  refine Ops.y (v := .tuple #[_, _]) (Y.move rfl) ?_
  refine Ops.y (v := .agg #[_, _]) (Y.extract rfl rfl) ?_
  refine Ops.y (v := .int .i64 _) (Y.extract rfl rfl) ?_
  refine Ops.go (O.alloc I Tryz.zeroValue25 rfl ?_)
  intro b7 w I
  refine Ops.go (O.store (v := .agg #[_, _]) I ty_25 0 rfl rfl rfl rfl rfl rfl (Nat.le_of_ble_eq_true rfl) rfl ?_)
  intro w I
  refine Ops.y (v := .int .i64 _) (Y.assign rfl) ?_
  refine Ops.nil ?_
  have gi := gi.le ((le3.trans le4).trans le5)
  refine WP.seq ?_
  refine WP.regionF mixed I 39 (by kernel_rfl) ?_
  refine OpsF.y_ (v := .int .i64 _) (fun _ => runs_none _) (fun _ w us hl I => Y.move rfl) ?_
  refine OpsF.y_ (v := .bool true) (fun _ => runs_none _) (fun _ w us hl I => Y.dec_t (Y.eqi rfl rfl) (rfl)) ?_
  refine OpsF.y_ (v := .bool _) (fun _ => runs_none _) (fun _ w us hl I => Y.move rfl) ?_
  refine OpsF.y_ (v := .int .i64 _) (fun _ => runs_g rfl) (fun _ w us hl I => Y.move rfl) ?_
  refine OpsF.y_ (v := .bool true) (fun _ => runs_g rfl) (fun _ w us hl I => Y.dec_t (Y.eqi rfl rfl) (rfl)) ?_
  refine OpsF.y_ (v := .bool _) (fun _ => runs_none _) (fun _ w us hl I => Y.pick_t rfl rfl) ?_
  refine OpsF.y_ (v := .bool _) (fun _ => runs_none _) (fun _ w us hl I => Y.move rfl) ?_
  refine OpsF.y_ (v := .int .i64 _) (fun _ => runs_g rfl) (fun _ w us hl I => Y.move rfl) ?_
  refine OpsF.y_ (v := .bool true) (fun _ => runs_g rfl) (fun _ w us hl I => Y.dec_t (Y.eqi rfl rfl) (rfl)) ?_
  refine OpsF.y_ (v := .bool _) (fun _ => runs_none _) (fun _ w us hl I => Y.pick_t rfl rfl) ?_
  refine OpsF.y_ (v := .bool _) (fun _ => runs_none _) (fun _ w us hl I => Y.move rfl) ?_
  refine OpsF.y_ (v := .int .i64 _) (fun _ => runs_g rfl) (fun _ w us hl I => Y.move rfl) ?_
  refine OpsF.y_ (v := .bool true) (fun _ => runs_g rfl) (fun _ w us hl I => Y.dec_t (Y.eqi rfl rfl) (rfl)) ?_
  refine OpsF.y_ (v := .bool _) (fun _ => runs_none _) (fun _ w us hl I => Y.pick_t rfl rfl) ?_
  refine OpsF.y_ (v := .bool _) (fun _ => runs_none _) (fun _ w us hl I => Y.move rfl) ?_
  refine OpsF.y_ (v := .agg #[_, _]) (fun _ => runs_g rfl) (fun _ w us hl I => Y.loadv ty_25 rfl (I.rdbox 1 rfl 0 2) rfl rfl) ?_
  refine OpsF.x_ (Φ := RoadS) RoadS.mono (fun _ => runs_g rfl) ?_ ?_
  · intro _ w hl I
    try unfold AllL
    refine O.call I Tryz.call35 (roads_ok _ I.base_ok) rfl ?_
    rintro _ h6 w I hl' ⟨p6, rfl, hp6⟩
    exact ⟨_, hl', I, ⟨p6, rfl, hp6⟩⟩
  refine OpsF.d_ (v := .bool true) (fun _ => runs_g rfl) ?_ ?_
  · intro _ w hl I u45 q45
    obtain ⟨p6, rfl, hp6⟩ := q45 rfl
    exact O.callv I Tryz.call10 (SameProgs_at _ I.base_ok g p6 (gi.le hl) hp6.is (ge.trans hp6.er.symm)) rfl (fun w' I' => ⟨rfl, I'⟩)
  refine OpsF.y_ (v := .bool _) (fun _ => runs_none _) (fun _ w us hl I => Y.pick_t rfl rfl) ?_
  refine OpsF.y_ (v := .bool _) (fun _ => runs_none _) (fun _ w us hl I => Y.move rfl) ?_
  refine OpsF.y_ (v := .string _) (fun _ => runs_g rfl) (fun _ w us hl I => Y.move rfl) ?_
  refine OpsF.y_ (v := .bool true) (fun _ => runs_g rfl) (fun _ w us hl I => Y.is (Y.eqs rfl rfl) ((by rw [beq_tx]; exact congrArg Value.bool (decide_eq_true paths_shown)))) ?_
  refine OpsF.y_ (v := .bool _) (fun _ => runs_none _) (fun _ w us hl I => Y.pick_t rfl rfl) ?_
  refine OpsF.y_ (v := .bool _) (fun _ => runs_none _) (fun _ w us hl I => Y.move rfl) ?_
  refine OpsF.y_ (v := .string _) (fun _ => runs_g rfl) (fun _ w us hl I => Y.move rfl) ?_
  refine OpsF.y_ (v := .int .i64 _) (fun _ => runs_g rfl) (fun _ w us hl I => Y.lenstr Tryz.underlying9 rfl) ?_
  refine OpsF.y_ (v := .bool true) (fun _ => runs_g rfl) (fun _ w us hl I => Y.dec_t (Y.eqi rfl rfl) ((by rw [mk_size, roads_shown.2.1]; rfl))) ?_
  refine OpsF.y_ (v := .bool _) (fun _ => runs_none _) (fun _ w us hl I => Y.pick_t rfl rfl) ?_
  refine OpsF.y_ (v := .bool _) (fun _ => runs_none _) (fun _ w us hl I => Y.move rfl) ?_
  refine OpsF.y_ (v := .string _) (fun _ => runs_g rfl) (fun _ w us hl I => Y.move rfl) ?_
  refine OpsF.y_ (v := .string _) (fun _ => runs_g rfl) (fun _ w us hl I => Y.slicestr (l := 0) (h := 14) Tryz.underlying9 rfl (.inl ⟨rfl, rfl⟩) (.inr ⟨_, _, rfl, rfl⟩) (by omega) (by rw [mk_size, roads_shown.2.1]; omega)) ?_
  refine OpsF.y_ (v := .bool true) (fun _ => runs_g rfl) (fun _ w us hl I => Y.is (Y.eqs rfl rfl) ((by rw [beq_tx, mk_extract]; exact congrArg Value.bool (decide_eq_true roads_shown.2.2.1)))) ?_
  refine OpsF.y_ (v := .bool _) (fun _ => runs_none _) (fun _ w us hl I => Y.pick_t rfl rfl) ?_
  refine OpsF.y_ (v := .bool _) (fun _ => runs_none _) (fun _ w us hl I => Y.move rfl) ?_
  refine OpsF.y_ (v := .string _) (fun _ => runs_g rfl) (fun _ w us hl I => Y.move rfl) ?_
  refine OpsF.y_ (v := .string _) (fun _ => runs_g rfl) (fun _ w us hl I => Y.slicestr (l := 152) (h := (mk (progL roadsC)).size) Tryz.underlying9 rfl (.inr ⟨_, _, rfl, rfl⟩) (.inl ⟨rfl, rfl⟩) (by rw [mk_size, roads_shown.2.1]; omega) (Nat.le_refl _)) ?_
  refine OpsF.y_ (v := .bool true) (fun _ => runs_g rfl) (fun _ w us hl I => Y.is (Y.eqs rfl rfl) ((by rw [beq_tx, mk_extract, mk_size, List.take_length]; exact congrArg Value.bool (decide_eq_true roads_shown.2.2.2)))) ?_
  refine OpsF.y_ (v := .bool _) (fun _ => runs_none _) (fun _ w us hl I => Y.pick_t rfl rfl) ?_
  refine OpsF.y_ (v := .bool _) (fun _ => runs_none _) (fun _ w us hl I => Y.assign rfl) ?_
  refine OpsF.nil ?_
  intro _ w hl I u45 q45
  refine Ops.nil ?_
  refine WP.ret ?_
  repeat (first | refine thenE_ret ?_ | refine blockE_ret ?_)
  exact retQ.mk (vs := [.bool _]) rfl ⟨rfl, trivial⟩ I.ext_of (rfl)
end Go.TF
end
section
/- A round: what is told, and put one behind the other: plain. -/
namespace Go.TF
open Go

/-- The rules of a stratum. -/
def ofQ (p : Prg) (M : List Int) (st : Int) (n : Nat) : Bool := decide (lv M (p.rules.xs.getD n default).head.pred = st)
/-- What the rules that are asked for tell, each step with its fact. -/
def toldN (l : List Prd) (f : List Fct) (rs : List Rul) (q : Nat → Bool) (n : Nat) : List (Stp × Fct) :=
  if q n then (stepsF f n (rs.getD n default)).map fun s => (s, headF l f (rs.getD n default) s.vars) else []
def toldK (l : List Prd) (f : List Fct) (rs : List Rul) (q : Nat → Bool) (k : Nat) : List (Stp × Fct) := (List.range k).flatMap (toldN l f rs q)
abbrev toldL (l : List Prd) (f : List Fct) (rs : List Rul) (q : Nat → Bool) : List (Stp × Fct) := toldK l f rs q rs.length
section
variable {l : List Prd} {f : List Fct} {rs : List Rul} {q : Nat → Bool} {n : Nat}
theorem toldK_succ : toldK l f rs q (n + 1) = toldK l f rs q n ++ toldN l f rs q n := by unfold toldK; rw [List.range_succ, List.flatMap_append]; simp
theorem toldK_get {m k : Nat} (hn : n < m) {x : Stp × Fct} (hk : (toldN l f rs q n)[k]? = some x) : (toldK l f rs q m)[(toldK l f rs q n).length + k]? = some x := by
  obtain ⟨t, ht⟩ : ∃ t, toldK l f rs q m = toldK l f rs q n ++ toldN l f rs q n ++ t := by
    induction m with
    | zero => omega
    | succ m ih =>
      by_cases e : n = m
      · subst e; exact ⟨[], by rw [toldK_succ, List.append_nil]⟩
      · obtain ⟨t, ht⟩ := ih (by omega)
        exact ⟨t ++ toldN l f rs q m, by rw [toldK_succ, ht, List.append_assoc]⟩
  have hl := (List.getElem?_eq_some_iff.1 hk).1
  rw [ht, List.append_assoc, List.getElem?_append_right (by omega), List.getElem?_append_left (by omega)]
  rw [← hk]; congr 1; omega
theorem mem_told {x : Stp × Fct} : x ∈ toldL l f rs q ↔ ∃ n r, rs[n]? = some r ∧ q n = true ∧ x.1 ∈ stepsF f n r ∧ x.2 = headF l f r x.1.vars := by
  unfold toldL toldK
  rw [List.mem_flatMap]
  constructor
  · rintro ⟨n, hn, hx⟩
    have hn' : n < rs.length := List.mem_range.1 hn
    have hr : rs[n]? = some rs[n] := List.getElem?_eq_getElem hn'
    unfold toldN at hx
    rw [List.getD_eq_getElem?_getD, hr] at hx
    simp only [Option.getD_some] at hx
    split at hx
    · rename_i hq
      obtain ⟨s, hs, rfl⟩ := List.mem_map.1 hx
      exact ⟨n, rs[n], hr, hq, hs, rfl⟩
    · cases hx
  · rintro ⟨n, r, hr, hq, hs, he⟩
    refine ⟨n, List.mem_range.2 (List.getElem?_eq_some_iff.1 hr).1, ?_⟩
    unfold toldN
    rw [List.getD_eq_getElem?_getD, hr, if_pos hq]
    simp only [Option.getD_some]
    exact List.mem_map.2 ⟨x.1, hs, by obtain ⟨a, b⟩ := x; dsimp only at he ⊢; rw [he]⟩
end
def putS (l : List Prd) (s : List Fct × Bool) (x : Fct) : List Fct × Bool := ((addF (predOf l x.pred).kind s.1 x).1, s.2 || (addF (predOf l x.pred).kind s.1 x).2)
def turnL (l : List Prd) (f : List Fct) (ts : List (Stp × Fct)) : List Fct × Bool := ts.foldl (fun s t => putS l s t.2) (f, false)
theorem turnL_snoc {l : List Prd} {f : List Fct} {ts : List (Stp × Fct)} {t : Stp × Fct} : turnL l f (ts ++ [t]) = putS l (turnL l f ts) t.2 := by unfold turnL; rw [List.foldl_append]; rfl
theorem turnL_take {l : List Prd} {f : List Fct} {ts : List (Stp × Fct)} {k : Nat} (hk : k < ts.length) : turnL l f (ts.take (k + 1)) = putS l (turnL l f (ts.take k)) ts[k].2 := by
  rw [List.take_succ_eq_append_getElem hk, turnL_snoc]
theorem turn_fok {l : List Prd} {f : List Fct} (okf : FOk l f) {ts : List (Stp × Fct)} (h : ∀ t ∈ ts, factFine l t.2 = true) : FOk l (turnL l f ts).1 := by
  have : ∀ k, k ≤ ts.length → FOk l (turnL l f (ts.take k)).1 := fun k => by
    induction k with
    | zero => intro _; exact okf
    | succ k ih =>
      intro hk
      rw [turnL_take (by omega)]
      exact addF_fok (ih (by omega)) (h _ (List.getElem_mem _))
  have := this ts.length (Nat.le_refl _)
  rwa [List.take_length] at this
theorem steps_holds {f : List Fct} {n : Int} {r : Rul} {s : Stp} (h : s ∈ stepsF f n r) : s.rule = n ∧ VsOk s.vars ∧ holdsB f r s.vars = true := by
  unfold stepsF at h
  obtain ⟨x, hx, rfl⟩ := List.mem_map.1 h
  obtain ⟨h1, h2⟩ := List.mem_filter.1 hx
  rw [Bool.and_eq_true] at h2
  exact ⟨rfl, mem_vecs.1 h1, h2.2⟩
theorem told_fine {l : List Prd} {f : List Fct} {rs : List Rul} {q : Nat → Bool} (ok : ∀ r ∈ rs, ROk l r) (okf : FOk l f) : ∀ t ∈ toldL l f rs q, factFine l t.2 = true := fun t ht => by
  obtain ⟨n, r, hr, _, hs, he⟩ := mem_told.1 ht
  obtain ⟨_, hv, hh⟩ := steps_holds hs
  rw [he]
  exact headF_fine (ok r (List.mem_of_getElem? hr)) okf hv hh
end Go.TF
end
section
/- What is told and put is the least above both; levels; more facts: plain. -/
namespace Go.TF
open Go

section
variable {l : List Prd} {f b : List Fct} {x : Fct}
theorem add_least (hf : FOk l f) (hb : FOk l b) (hx : factFine l x = true) (h1 : underF l f b = true) (h2 : underF l [x] b = true) : underF l (addL l f x) b = true := underF_iff.2 fun z hz => by
  have okA : FOk l (addL l f x) := addF_fok hf hx
  have hzf := okA.fine z hz
  have hlz := lkF_of_mem okA.srt hz
  rw [lkF_addL hf] at hlz
  obtain ⟨v, hv1, hv2⟩ := underF_iff.1 h2 x (List.mem_singleton_self _)
  split at hlz
  · rename_i e
    have hpz := same_pred hf.len hzf hx e
    rw [e] at hlz
    rw [e, hpz]
    refine ⟨v, hv1, ?_⟩
    injection hlz with hlz
    rw [← hlz]
    cases hu : lkF f (placeF x) with
    | none => exact hv2
    | some u =>
      obtain ⟨y, hy, ey, rfl⟩ := lkF_mem hu
      obtain ⟨v', k1, k2⟩ := underF_iff.1 h1 y hy
      rw [ey, hv1] at k1
      injection k1 with k1; subst k1
      have hyp := same_pred hf.len (hf.fine y hy) hx ey
      rw [hyp] at k2
      have hvo := hb.look hx hv1
      have hyo := fine_v (hf.fine y hy); rw [hyp] at hyo
      exact (leV_join_iff hyo (fine_v hx) hvo).2 ⟨k2, hv2⟩
  · obtain ⟨y, hy, ey, e2⟩ := lkF_mem hlz
    obtain ⟨v', k1, k2⟩ := underF_iff.1 h1 y hy
    have hyp := same_pred hf.len (hf.fine y hy) hzf ey
    rw [ey] at k1
    rw [hyp, e2] at k2
    exact ⟨v', k1, k2⟩
theorem under_put (hf : FOk l f) (hx : factFine l x = true) (h : underF l [x] f = true) : addF (predOf l x.pred).kind f x = (f, false) := by
  obtain ⟨v, h1, h2⟩ := underF_iff.1 h x (List.mem_singleton_self _)
  have hv := hf.look hx h1
  have hc : (addF (predOf l x.pred).kind f x).2 = false := by
    rw [addF_chg hf.srt, h1]
    apply decide_eq_false
    intro hh
    apply hh
    show some v = some (joinV _ v x.v)
    rw [joinV_comm hv (fine_v hx), show joinV _ x.v v = v from h2]
  exact Prod.ext (addF_same hc) hc
end
def runL (l : List Prd) (s : List Fct × Bool) (ts : List (Stp × Fct)) : List Fct × Bool := ts.foldl (fun s t => putS l s t.2) s
structure RunUp (l : List Prd) (s r : List Fct × Bool) (ts : List (Stp × Fct)) : Prop where
  fok : FOk l r.1
  up : underF l s.1 r.1 = true
  each : ∀ t ∈ ts, underF l [t.2] r.1 = true
  no : r.2 = false → s.2 = false ∧ r.1 = s.1
  yes : r.2 = true → s.2 = true ∨ r.1 ≠ s.1
theorem run_up {l : List Prd} : ∀ (ts : List (Stp × Fct)) (s : List Fct × Bool), FOk l s.1 → (∀ t ∈ ts, factFine l t.2 = true) → RunUp l s (runL l s ts) ts
  | [], s, hs, _ => ⟨hs, under_refl hs, fun t ht => by simp at ht, fun h => ⟨h, rfl⟩, fun h => .inl h⟩
  | t :: ts, s, hs, hf => by
    have hx := hf t List.mem_cons_self
    have hs' : FOk l (putS l s t.2).1 := addF_fok hs hx
    have ih := run_up ts (putS l s t.2) hs' fun u hu => hf u (List.mem_cons_of_mem _ hu)
    have hr : runL l s (t :: ts) = runL l (putS l s t.2) ts := rfl
    rw [hr]
    have u1 : underF l s.1 (putS l s t.2).1 = true := under_add hs hx
    have u2 : underF l [t.2] (putS l s t.2).1 = true := under_one hs hx
    have hch : (putS l s t.2).2 = (s.2 || decide ((putS l s t.2).1 ≠ s.1)) := by show (s.2 || (addF _ s.1 t.2).2) = _; rw [add_chg hs]; rfl
    refine ⟨ih.fok, under_trans hs hs' ih.fok u1 ih.up, fun u hu => ?_, fun h => ?_, fun h => ?_⟩
    · rcases List.mem_cons.1 hu with rfl | hu
      · exact under_trans (fok_one hs.len hs.preds hx) hs' ih.fok u2 ih.up
      · exact ih.each u hu
    · obtain ⟨h1, h2⟩ := ih.no h
      rw [hch, Bool.or_eq_false_iff, decide_eq_false_iff_not, Decidable.not_not] at h1
      exact ⟨h1.1, h2.trans h1.2⟩
    · have key : (runL l (putS l s t.2) ts).1 = s.1 → (putS l s t.2).1 = s.1 := fun e => by
        have := ih.up
        rw [e] at this
        exact under_anti hs' hs this u1
      rcases ih.yes h with h1 | h1
      · rw [hch, Bool.or_eq_true, decide_eq_true_eq] at h1
        rcases h1 with h1 | h1
        · exact .inl h1
        · exact .inr fun e => h1 (key e)
      · exact .inr fun e => h1 (e.trans (key e).symm)
theorem run_least {l : List Prd} {b : List Fct} (hb : FOk l b) : ∀ (ts : List (Stp × Fct)) (s : List Fct × Bool), FOk l s.1 → (∀ t ∈ ts, factFine l t.2 = true) → underF l s.1 b = true → (∀ t ∈ ts, underF l [t.2] b = true) → underF l (runL l s ts).1 b = true
  | [], s, _, _, h, _ => h
  | t :: ts, s, hs, hf, h, ht => by
    have hx := hf t List.mem_cons_self
    exact run_least hb ts (putS l s t.2) (addF_fok hs hx) (fun u hu => hf u (List.mem_cons_of_mem _ hu)) (add_least hs hb hx h (ht t List.mem_cons_self)) fun u hu => ht u (List.mem_cons_of_mem _ hu)
theorem run_same {l : List Prd} {f : List Fct} (hf : FOk l f) : ∀ (ts : List (Stp × Fct)), (∀ t ∈ ts, factFine l t.2 = true) → (∀ t ∈ ts, underF l [t.2] f = true) → runL l (f, false) ts = (f, false)
  | [], _, _ => rfl
  | t :: ts, h1, h2 => by
    have : putS l (f, false) t.2 = (f, false) := by
      unfold putS
      rw [under_put hf (h1 t List.mem_cons_self) (h2 t List.mem_cons_self)]
      rfl
    show runL l (putS l (f, false) t.2) ts = _
    rw [this]
    exact run_same hf ts (fun u hu => h1 u (List.mem_cons_of_mem _ hu)) fun u hu => h2 u (List.mem_cons_of_mem _ hu)
theorem turn_run (l : List Prd) (f : List Fct) (ts : List (Stp × Fct)) : turnL l f ts = runL l (f, false) ts := rfl
section
variable {l : List Prd} {f : List Fct} {ts : List (Stp × Fct)} (hf : FOk l f) (ht : ∀ t ∈ ts, factFine l t.2 = true)
include hf ht
theorem turn_chg : (turnL l f ts).2 = decide ((turnL l f ts).1 ≠ f) := by
  have r := run_up ts (f, false) hf ht
  rw [turn_run]
  cases h : (runL l (f, false) ts).2
  · exact (decide_eq_false (fun e => e (r.no h).2)).symm
  · rcases r.yes h with h1 | h1
    · cases h1
    · exact (decide_eq_true h1).symm
theorem turn_above : underF l f (turnL l f ts).1 = true := (run_up ts (f, false) hf ht).up
theorem turn_no : (turnL l f ts).2 = false ↔ ∀ t ∈ ts, underF l [t.2] f = true := by
  have r := run_up ts (f, false) hf ht
  constructor
  · intro h t htm
    have := r.each t htm
    rwa [(r.no h).2] at this
  · intro h
    rw [turn_run, run_same hf ts ht h]
end
/-! ### Levels -/
end Go.TF
end
section
/- The model: rounds of each stratum until none changes anything: plain. -/
namespace Go.TF
open Go

/-! ### How often facts can be raised -/
def univ : List Fct := (List.range 5).flatMap fun (p : Nat) => (List.range 5).flatMap fun (a : Nat) => (List.range 5).flatMap fun (b : Nat) => (List.range 16).map fun (v : Nat) => (⟨(p : Int), (a : Int), (b : Int), (v : Int)⟩ : Fct)
theorem univ_len : univ.length = 2000 := by decide +kernel
def potF (l : List Prd) (f : List Fct) : Nat := univ.countP fun x => factFine l x && underF l [x] f
theorem potF_le (l : List Prd) (f : List Fct) : potF l f ≤ 2000 := by
  have : potF l f ≤ univ.length := List.countP_le_length
  rwa [univ_len] at this
theorem mem_univ {l : List Prd} (h5 : l.length ≤ 5) {x : Fct} (hx : factFine l x = true) : x ∈ univ := by
  obtain ⟨h1, h2, h3, _, _, hv⟩ := fine_iff.1 hx
  have h6 := vOk_iff.1 hv
  obtain ⟨p, a, b, v⟩ := x
  dsimp only at h1 h2 h3 h6
  simp only [univ, List.mem_flatMap, List.mem_map, List.mem_range]
  exact ⟨p.toNat, by omega, a.toNat, by omega, b.toNat, by omega, v.toNat, by omega, by simp only [Fct.mk.injEq]; omega⟩
theorem countP_lt2 {α : Type} {p q : α → Bool} : ∀ {l : List α}, (∀ x ∈ l, p x = true → q x = true) → (∃ x ∈ l, p x = false ∧ q x = true) → l.countP p < l.countP q
  | [], _, ⟨x, hx, _⟩ => by simp at hx
  | y :: l, h, ⟨x, hx, h1, h2⟩ => by
    have hl : l.countP p ≤ l.countP q := List.countP_mono_left fun z hz => h z (List.mem_cons_of_mem _ hz)
    rw [List.countP_cons, List.countP_cons]
    rcases List.mem_cons.1 hx with rfl | hx
    · simp only [h1, h2, Bool.false_eq_true, if_false, if_true]; omega
    · have := countP_lt2 (fun z hz => h z (List.mem_cons_of_mem _ hz)) ⟨x, hx, h1, h2⟩
      have hy := h y List.mem_cons_self
      cases hp : p y
      · simp only [Bool.false_eq_true, if_false]; split <;> omega
      · simp only [hy hp, if_true]; omega
theorem under_sing {l : List Prd} {f g : List Fct} : underF l f g = true ↔ ∀ y ∈ f, underF l [y] g = true := by
  rw [underF_iff]
  constructor
  · intro h y hy
    rw [underF_iff]
    intro z hz
    rw [List.mem_singleton.1 hz]
    exact h y hy
  · intro h y hy
    exact underF_iff.1 (h y hy) y (List.mem_singleton_self _)
theorem potF_lt {l : List Prd} {f g : List Fct} (okf : FOk l f) (okg : FOk l g) (hu : underF l f g = true) (hne : g ≠ f) : potF l f < potF l g := by
  refine countP_lt2 (fun x _ hx => ?_) ?_
  · rw [Bool.and_eq_true] at hx ⊢
    exact ⟨hx.1, under_trans (fok_one okf.len okf.preds hx.1) okf okg hx.2 hu⟩
  · by_cases h : ∀ y ∈ g, underF l [y] f = true
    · exact absurd (under_anti okg okf (under_sing.2 h) hu) hne
    · rw [Classical.not_forall] at h
      obtain ⟨y, h⟩ := h
      rw [Classical.not_imp] at h
      obtain ⟨hy, hn⟩ := h
      have hyf := okg.fine y hy
      exact ⟨y, mem_univ okg.len hyf, by rw [hyf, Bool.true_and]; simpa using hn, by rw [hyf, Bool.true_and]; exact under_sing.1 (under_refl okg) y hy⟩
/-! ### Until nothing is changed -/
inductive Clo (T : List Fct → List Fct × Bool) : List Fct → List Fct → Nat → Prop
  | stop {f : List Fct} (h : (T f).2 = false) : Clo T f f 0
  | step {f r : List Fct} {n : Nat} (h : (T f).2 = true) (c : Clo T (T f).1 r n) : Clo T f r (n + 1)
theorem Clo.uniq {T : List Fct → List Fct × Bool} {f r : List Fct} {n : Nat} (h : Clo T f r n) : ∀ {r' : List Fct} {n' : Nat}, Clo T f r' n' → r' = r ∧ n' = n := by
  induction h with
  | stop h =>
    intro r' n' h'
    cases h' with
    | stop _ => exact ⟨rfl, rfl⟩
    | step h2 _ => rw [h] at h2; cases h2
  | step h c ih =>
    intro r' n' h'
    cases h' with
    | stop h2 => rw [h] at h2; cases h2
    | step _ c' => obtain ⟨rfl, rfl⟩ := ih c'; exact ⟨rfl, rfl⟩
theorem Clo.end_ {T : List Fct → List Fct × Bool} {f r : List Fct} {n : Nat} (h : Clo T f r n) : (T r).2 = false := by
  induction h with
  | stop h => exact h
  | step _ _ ih => exact ih
/-- What holds ahead of a round holds behind all of them. -/
theorem Clo.inv {T : List Fct → List Fct × Bool} {J : List Fct → Prop} {f r : List Fct} {n : Nat} (h : Clo T f r n) (j0 : J f) (hs : ∀ g, J g → (T g).2 = true → J (T g).1) : J r := by
  induction h with
  | stop _ => exact j0
  | step h _ ih => exact ih (hs _ j0 h)
def CloB (T : List Fct → List Fct × Bool) (f0 : List Fct) (k : Nat) (f : List Fct) : Prop := ∀ r n, Clo T f r n → Clo T f0 r (k + n)
theorem CloB.zero {T : List Fct → List Fct × Bool} {f : List Fct} : CloB T f 0 f := fun r n h => by rw [Nat.zero_add]; exact h
theorem CloB.next {T : List Fct → List Fct × Bool} {f0 f : List Fct} {k : Nat} (h : CloB T f0 k f) (h2 : (T f).2 = true) : CloB T f0 (k + 1) (T f).1 := fun r n c => by
  have := h r (n + 1) (.step h2 c)
  rwa [show k + (n + 1) = k + 1 + n by omega] at this
theorem CloB.done {T : List Fct → List Fct × Bool} {f0 f : List Fct} {k : Nat} (h : CloB T f0 k f) (h2 : (T f).2 = false) : Clo T f0 f k := h f 0 (.stop h2)
/-! ### One stratum behind the other -/
def turnT (p : Prg) (M : List Int) (st : Int) (f : List Fct) : List Fct × Bool := turnL p.preds.xs f (toldL p.preds.xs f p.rules.xs (ofQ p M st))
def ModK (p : Prg) (M : List Int) : Nat → List Fct → List Int → Prop
  | 0, f, rs => f = [] ∧ rs = []
  | k + 1, f, rs => ∃ f0 rs0 n, ModK p M k f0 rs0 ∧ Clo (turnT p M k) f0 f n ∧ rs = rs0 ++ [(n : Int)]
theorem ModK.uniq {p : Prg} {M : List Int} : ∀ {k : Nat} {f f' : List Fct} {rs rs' : List Int}, ModK p M k f rs → ModK p M k f' rs' → f' = f ∧ rs' = rs
  | 0, _, _, _, _, ⟨h1, h2⟩, ⟨h3, h4⟩ => ⟨h3.trans h1.symm, h4.trans h2.symm⟩
  | k + 1, _, _, _, _, ⟨f0, r0, n, a, b, c⟩, ⟨f0', r0', n', a', b', c'⟩ => by
    obtain ⟨rfl, rfl⟩ := ModK.uniq a a'
    obtain ⟨rfl, rfl⟩ := b.uniq b'
    exact ⟨rfl, c'.trans c.symm⟩
theorem ModK.len {p : Prg} {M : List Int} : ∀ {k : Nat} {f : List Fct} {rs : List Int}, ModK p M k f rs → rs.length = k
  | 0, _, _, ⟨_, h⟩ => by rw [h]; rfl
  | k + 1, _, _, ⟨_, _, _, a, _, c⟩ => by rw [c, List.length_append, ModK.len a]; rfl
def mostL (l : List Int) : Int := l.foldl max (-1)
theorem foldl_max (l : List Int) : ∀ (a : Int), l.foldl max a = max a (l.foldl max a) ∧ (∀ x ∈ l, x ≤ l.foldl max a) ∧ (l.foldl max a = a ∨ l.foldl max a ∈ l) := by
  induction l with
  | nil => intro a; exact ⟨by simp, fun x hx => by simp at hx, .inl rfl⟩
  | cons y l ih =>
    intro a
    obtain ⟨h1, h2, h3⟩ := ih (max a y)
    rw [List.foldl_cons]
    refine ⟨by omega, fun x hx => ?_, ?_⟩
    · rcases List.mem_cons.1 hx with rfl | hx
      · omega
      · exact h2 x hx
    · rcases h3 with h3 | h3
      · rcases Int.le_total a y with h | h
        · right; rw [h3, Int.max_eq_right h]; exact List.mem_cons_self
        · left; rw [h3, Int.max_eq_left h]
      · exact .inr (List.mem_cons_of_mem _ h3)
theorem mostL_ge (l : List Int) : -1 ≤ mostL l := by have := (foldl_max l (-1)).1; unfold mostL; omega
theorem mostL_mem {l : List Int} {x : Int} (h : x ∈ l) : x ≤ mostL l := (foldl_max l (-1)).2.1 x h
theorem mostL_of (l : List Int) : mostL l = -1 ∨ mostL l ∈ l := (foldl_max l (-1)).2.2
abbrev numS (M : List Int) : Nat := (mostL M + 1).toNat
end Go.TF
end
section
/- A rule is used; an atom is bound with a fact. -/
namespace Go.TF
open Go Go.RowKit Go.Proofs
set_option maxRecDepth 20000

def hvAt (l : List Prd) (f : List Fct) (r : Rul) (x : Vrs) (k : Nat) : Int := if 0 ≤ r.src ∧ r.src < k then headV l f r x else r.n
theorem hvAt_end {l : List Prd} {f : List Fct} {r : Rul} {x : Vrs} (ok : ROk l r) : hvAt l f r x r.body.xs.length = headV l f r x := by
  unfold hvAt
  split
  · rfl
  · rename_i h
    have := ok.src
    unfold headV
    rw [if_neg (by omega)]
theorem litOk_iff {f : List Fct} {x : Vrs} {t : Ltl} : litOk f x t = true ↔ isF f (groundF t.atom x) ≠ t.neg := by unfold litOk; rw [decide_eq_true_eq]
theorem litOf_at {r : Rul} {k : Nat} (hk : k < r.body.xs.length) : litOf r k = r.body.xs[k] := by simp [litOf, List.getD_eq_getElem?_getD, hk]
def tHold (x : Bool × Fct) : Value := .tuple #[.bool x.1, x.2.val]
set_option maxHeartbeats 4000000 in
theorem FOf_ok (B : Base) (hB : B.ok) (p : Prg) (hp : p.In B.h) (f : Sl Fct) (hf : Fcts f B.h) (n : Int) (r : Rul) (h0 : 0 ≤ n) (hr : p.rules.xs[n.toNat]? = some r) (ok : ROk p.preds.xs r) (okf : FOk p.preds.xs f.xs) (x : Vrs) (hx : VsOk x) :
    Fn Tryz.prog 175 [p.val, f.val, .int .i64 n, x.val] B (fun v _ => v = tHold (holdsF p.preds.xs f.xs r x)) := by
  have Er := hp.rules.is.el.el hr
  have ir := hp.rules.each _ (List.mem_of_getElem? hr)
  have ah := aok_of ok.preds ok.head
  have hlen := ok.len
  have hkp : r.head.pred.toNat < p.preds.xs.length := by have := ah.pred; omega
  have Eh := hp.preds.at hkp
  have hpo : p.preds.xs[r.head.pred.toNat] = predOf p.preds.xs r.head.pred := (predOf_getE ah.pred.1 ah.pred.2).symm
  have hkd := ok.preds _ (predOf_mem ah.pred)
  simp only [predFine, decide_eq_true_eq] at hkd
  refine Fn.of Tryz.func175 rfl Tryz.ntmps175 (by kernel_rfl) (by simp) ?_
  intro e
  have I := Inv.start hB
  refine WP.seq ?_
  refine WP.region ?_
  refine Ops.go (O.box (v := .agg #[_, _]) I rfl rfl ?_)
  intro b4 w I
  refine Ops.go (O.box (v := .agg #[_, _, _]) I rfl rfl ?_)
  intro b7 w I
  refine Ops.y (v := .bool _) (Y.assign rfl) ?_
  refine Ops.go (O.alloc I Tryz.zeroValue83 rfl ?_)
  intro b9 w I
  refine Ops.nil ?_
  refine WP.seq ?_
  refine WP.region ?_
  refine Ops.y (v := .pointer (some ⟨_, _, none⟩)) (Y.fa fa_25_1 rfl) ?_
  refine Ops.y (v := .slice _ _ _) (Y.loadv ty_23 rfl (I.rdbox 2 rfl 1 1) rfl rfl) ?_
  refine Ops.y (v := .int .i64 _) (Y.move rfl) ?_
  refine Ops.y (v := .pointer (some ⟨_, _, none⟩)) (Y.idxEl Er Tryz.underlying23 Tryz.sizeOf64 rfl rfl h0 rfl) ?_
  refine Ops.y (v := .agg #[_, _, _, _, _]) (Y.loadv ty_64 rfl (I.rd (Er.rd.part 0 5)) rfl rfl) ?_
  refine Ops.go (O.alloc I Tryz.zeroValue64 rfl ?_)
  intro b10 w I
  refine Ops.go (O.store (v := .agg #[_, _, _, _, _]) I ty_64 0 rfl rfl rfl rfl rfl rfl (Nat.le_of_ble_eq_true rfl) rfl ?_)
  intro w I
  refine Ops.nil ?_
  refine WP.seq ?_
  refine WP.region ?_
  refine Ops.y (v := .pointer (some ⟨_, _, none⟩)) (Y.fa0 fa_64_0 rfl) ?_
  refine Ops.y (v := .agg #[_, _]) (Y.loadv ty_61 rfl (I.rdbox 0 rfl 0 2) rfl rfl) ?_
  refine Ops.y (v := .agg #[_, _, _]) (Y.loadv ty_167 rfl (I.rdbox 2 rfl 0 3) rfl rfl) ?_
  refine Ops.go (O.callv I Tryz.call183 (Of_ok _ I.base_ok r.head ir.head x ah.len ah.err) rfl ?_)
  intro w I
  refine Ops.go (O.alloc I Tryz.zeroValue83 rfl ?_)
  intro b11 w I
  refine Ops.go (O.store (v := .agg #[_, _, _, _]) I ty_83 0 rfl rfl rfl rfl rfl rfl (Nat.le_of_ble_eq_true rfl) rfl ?_)
  intro w I
  refine Ops.nil ?_
  refine WP.seq ?_
  refine WP.region ?_
  refine Ops.y (v := .pointer (some ⟨_, _, none⟩)) (Y.fa fa_64_2 rfl) ?_
  refine Ops.y (v := .int .i64 _) (Y.loadv ty_3 rfl (I.rdbox 1 rfl 3 1) rfl rfl) ?_
  refine Ops.y (v := .pointer (some ⟨_, _, none⟩)) (Y.fa fa_83_3 rfl) ?_
  refine Ops.go (O.store (v := .int .i64 _) I ty_3 0 rfl rfl rfl rfl rfl rfl (Nat.le_of_ble_eq_true rfl) rfl ?_)
  intro w I
  refine Ops.nil ?_
  refine WP.seq ?_
  refine WP.seq ?_
  refine WP.region ?_
  refine Ops.y (v := .pointer (some ⟨_, _, none⟩)) (Y.fa fa_64_3 rfl) ?_
  refine Ops.y (v := .slice _ _ _) (Y.loadv ty_62 rfl (I.rdbox 1 rfl 4 1) rfl rfl) ?_
  refine Ops.y (v := .int .i64 _) (Y.lens Tryz.underlying62 rfl) ?_
  refine Ops.y (v := .int .i64 _) (Y.move rfl) ?_
  refine Ops.nil ?_
  refine WP.block ?_
  refine WP.loopE (σ := Nat) (fun k => [(1, f.val), (4, .pointer (some ⟨b4, 0, none⟩)), (7, .pointer (some ⟨b7, 0, none⟩)), (9, .pointer (some ⟨b9, 0, none⟩)), (10, .pointer (some ⟨b10, 0, none⟩)), (11, .pointer (some ⟨b11, 0, none⟩)), (29, r.body.val), (30, .int .i64 r.body.xs.length), (31, .int .i64 k)])
    (fun k w => (∃ h1, B.h.le h1 ∧ Inv B h1 [box b11 [.int .i64 r.head.pred, .int .i64 (argv r.head x 0), .int .i64 (argv r.head x 1), .int .i64 (hvAt p.preds.xs f.xs r x k)] 83, box b10 r.enc 64, box b9 [.int .i64 0, .int .i64 0, .int .i64 0, .int .i64 0] 83, box b7 x.enc 167, box b4 p.enc 25] w) ∧ k ≤ r.body.xs.length ∧ ∀ j, j < k → ∀ hj : j < r.body.xs.length, litOk f.xs x r.body.xs[j] = true) (fun k => r.body.xs.length - k)
    ⟨0, ⟨rfl, rfl, rfl, rfl, rfl, rfl, rfl, rfl, rfl, trivial⟩, ?_, Nat.zero_le _, fun j hj => by omega⟩ ?_
  · have : hvAt p.preds.xs f.xs r x 0 = r.n := by unfold hvAt; rw [if_neg (by omega)]
    rw [this]; exact ⟨_, Heap.le.refl _, I⟩
  rintro k e w ⟨⟨h1, gl, I⟩, hk, hn⟩
  have ir := ir.le gl
  have hf := hf.le gl
  have Eh := Eh.le gl
  refine WP.seq ?_
  refine WP.region ?_
  refine Ops.y (v := .bool (decide _)) (Y.lti rfl rfl) ?_
  refine Ops.nil ?_
  refine WP.seq ?_
  refine WP.cond_dec rfl (fun h => ?_) (fun h => ?_)
  · have hk' : k < r.body.xs.length := by omega
    have E1 := ir.body.is.at hk'
    have ab := aok_of ok.preds (ok.body _ (List.getElem_mem hk'))
    have pb := ab.pf ok.five hx 0
    have hiff := isF_iff (x := groundF r.body.xs[k].atom x) okf.srt
    refine WP.skip ?_
    refine WP.seq ?_
    refine WP.block ?_
    refine WP.seq ?_
    refine WP.region ?_
    refine Ops.y (v := .int .i64 _) (Y.move rfl) ?_
    refine Ops.y (v := .pointer (some ⟨_, _, none⟩)) (Y.idxEl E1 Tryz.underlying62 Tryz.sizeOf68 rfl rfl (Int.natCast_nonneg _) rfl) ?_
    refine Ops.y (v := .agg #[_, _, _]) (Y.loadv ty_68 rfl (I.rd (E1.rd.part 0 3)) rfl rfl) ?_
    refine Ops.go (O.alloc I Tryz.zeroValue68 rfl ?_)
    intro b13 w I
    refine Ops.y (v := .int .i64 _) (Y.assign rfl) ?_
    refine Ops.go (O.store (v := .agg #[_, _, _]) I ty_68 0 rfl rfl rfl rfl rfl rfl (Nat.le_of_ble_eq_true rfl) rfl ?_)
    intro w I
    refine Ops.nil ?_
    refine WP.seq ?_
    refine WP.region ?_
    refine Ops.y (v := .slice _ _ _) (Y.move rfl) ?_
    refine Ops.y (v := .pointer (some ⟨_, _, none⟩)) (Y.fa fa_68_1 rfl) ?_
    refine Ops.y (v := .agg #[_, _]) (Y.loadv ty_61 rfl (I.rdbox 0 rfl 1 2) rfl rfl) ?_
    refine Ops.y (v := .agg #[_, _, _]) (Y.loadv ty_167 rfl (I.rdbox 4 rfl 0 3) rfl rfl) ?_
    refine Ops.go (O.callv I Tryz.call183 (Of_ok _ I.base_ok r.body.xs[k].atom (ir.body.each _ (List.getElem_mem hk')) x ab.len ab.err) rfl ?_)
    intro w I
    refine Ops.go (O.callv I Tryz.call141 (Seek_ok _ I.base_ok f hf okf.pf okf.srt _ pb) rfl ?_)
    intro w I
    refine Ops.y (v := .tuple #[_, _]) (Y.move rfl) ?_
    refine Ops.y (v := .int .i64 _) (Y.extract rfl rfl) ?_
    refine Ops.y (v := .bool _) (Y.extract rfl rfl) ?_
    refine Ops.y (v := .int .i64 _) (Y.assign rfl) ?_
    refine Ops.y (v := .bool _) (Y.assign rfl) ?_
    refine Ops.nil ?_
    refine WP.seq ?_
    refine WP.seq ?_
    refine WP.region ?_
    refine Ops.y (v := .bool _) (Y.move rfl) ?_
    refine Ops.y (v := .pointer (some ⟨_, _, none⟩)) (Y.fa0 fa_68_0 rfl) ?_
    refine Ops.y (v := .bool _) (Y.loadv ty_4 rfl (I.rdbox 0 rfl 0 1) rfl rfl) ?_
    refine Ops.y (v := .bool (decide _)) (Y.eqb Tryz.underlying4 rfl rfl) ?_
    refine Ops.nil ?_
    refine WP.cond_dec rfl (fun h8 => ?_) (fun h8 => ?_)
    · have hno : holdsB f.xs r x = false := by
        unfold holdsB; rw [List.all_eq_false]; exact ⟨_, List.getElem_mem hk', by rw [litOk_iff]; exact fun hh => hh h8⟩
      refine WP.seq ?_
      refine WP.region ?_
      refine Ops.y (v := .agg #[.int .i64 _, .int .i64 _, .int .i64 _, .int .i64 _]) (Y.build pl_83 Tryz.zeroValue83 rfl rfl) ?_
      refine Ops.y (v := .bool _) (Y.assign rfl) ?_
      refine Ops.go (O.store (v := .agg #[_, _, _, _]) I ty_83 3 rfl rfl rfl rfl rfl rfl (Nat.le_of_ble_eq_true rfl) rfl ?_)
      intro w I
      refine Ops.nil ?_
      refine WP.ret ?_
      repeat (first | refine thenE_ret ?_ | refine blockE_ret ?_)
      exact retQ.mk (vs := [.bool _, .agg #[_, _, _, _]]) rfl ⟨rfl, ⟨_, _, _, _, _, rfl, ty_83, I.rdbox 3 rfl 0 4, rfl, rfl⟩, trivial⟩ I.ext_of (by simp only [tup, tHold, holdsF, hno]; rfl)
    refine WP.skip ?_
    refine WP.seq ?_
    refine WP.region ?_
    refine Ops.y (v := .int .i64 _) (Y.move rfl) ?_
    refine Ops.y (v := .pointer (some ⟨_, _, none⟩)) (Y.fa fa_64_1 rfl) ?_
    refine Ops.y (v := .int .i64 _) (Y.loadv ty_3 rfl (I.rdbox 2 rfl 2 1) rfl rfl) ?_
    refine Ops.y (v := .bool (decide _)) (Y.eqi rfl rfl) ?_
    refine Ops.nil ?_
    refine WP.cond_dec rfl (fun h10 => ?_) (fun h10 => ?_)
    · have hs0 : 0 ≤ r.src := by omega
      obtain ⟨hng, hkq⟩ := ok.pos hs0
      have hlo : litOf r r.src = r.body.xs[k] := by rw [← h10]; exact litOf_at hk'
      rw [hlo] at hng
      have his : isF f.xs (groundF r.body.xs[k].atom x) = true := by
        rcases Bool.eq_false_or_eq_true (isF f.xs (groundF r.body.xs[k].atom x)) with hh | hh
        · exact hh
        · exact absurd (hh.trans hng.symm) h8
      obtain ⟨hlt, hpl⟩ := hiff.1 his
      have Ef := hf.at hlt
      have hlk := lkF_pos okf.srt hlt hpl
      have hval : hvAt p.preds.xs f.xs r x (k + 1) = liftV p.preds.xs[r.head.pred.toNat].kind f.xs[posF f.xs (groundF r.body.xs[k].atom x)].v r.n := by
        unfold hvAt headV
        rw [if_pos ⟨hs0, by omega⟩, if_pos hs0, hlo, hlk, hpo]; rfl
      have hI : I64 (f.xs[posF f.xs (groundF r.body.xs[k].atom x)].v + r.n) := by
        have h1 := vOk_iff.1 (fine_v (okf.fine _ (List.getElem_mem hlt)))
        have h2 := ok.n
        unfold I64; omega
      refine WP.regionF mixed I 15 (by kernel_rfl) ?_
      refine OpsF.y_ (v := .pointer (some ⟨_, _, none⟩)) (fun _ => runs_none _) (fun _ w us hl I => Y.fa0 fa_25_0 rfl) ?_
      refine OpsF.y_ (v := .slice _ _ _) (fun _ => runs_none _) (fun _ w us hl I => Y.loadv ty_22 rfl (I.rdbox 5 rfl 0 1) rfl rfl) ?_
      refine OpsF.y_ (v := .pointer (some ⟨_, _, none⟩)) (fun _ => runs_none _) (fun _ w us hl I => Y.fa0 fa_83_0 rfl) ?_
      refine OpsF.y_ (v := .int .i64 _) (fun _ => runs_none _) (fun _ w us hl I => Y.loadv ty_3 rfl (I.rdbox 1 rfl 0 1) rfl rfl) ?_
      refine OpsF.y_ (v := .pointer (some ⟨_, _, none⟩)) (fun _ => runs_none _) (fun _ w us hl I => Y.idxEl Eh Tryz.underlying22 Tryz.sizeOf53 rfl rfl ah.pred.1 rfl) ?_
      refine OpsF.y_ (v := .pointer (some ⟨_, _, none⟩)) (fun _ => runs_none _) (fun _ w us hl I => Y.fa fa_53_2 rfl) ?_
      refine OpsF.y_ (v := .int .i64 _) (fun _ => runs_none _) (fun _ w us hl I => Y.loadv ty_3 rfl (I.rd ((Eh.rd.part 2 1).le hl)) rfl rfl) ?_
      refine OpsF.y_ (v := .slice _ _ _) (fun _ => runs_none _) (fun _ w us hl I => Y.move rfl) ?_
      refine OpsF.y_ (v := .int .i64 _) (fun _ => runs_none _) (fun _ w us hl I => Y.move rfl) ?_
      refine OpsF.y_ (v := .pointer (some ⟨_, _, none⟩)) (fun _ => runs_none _) (fun _ w us hl I => Y.idxEl Ef Tryz.underlying31 Tryz.sizeOf83 rfl rfl (Int.natCast_nonneg _) rfl) ?_
      refine OpsF.y_ (v := .pointer (some ⟨_, _, none⟩)) (fun _ => runs_none _) (fun _ w us hl I => Y.fa fa_83_3 rfl) ?_
      refine OpsF.y_ (v := .int .i64 _) (fun _ => runs_none _) (fun _ w us hl I => Y.loadv ty_3 rfl (I.rd ((Ef.rd.part 3 1).le hl)) rfl rfl) ?_
      refine OpsF.y_ (v := .pointer (some ⟨_, _, none⟩)) (fun _ => runs_none _) (fun _ w us hl I => Y.fa fa_64_2 rfl) ?_
      refine OpsF.y_ (v := .int .i64 _) (fun _ => runs_none _) (fun _ w us hl I => Y.loadv ty_3 rfl (I.rdbox 2 rfl 3 1) rfl rfl) ?_
      refine OpsF.c_ (fun _ => runs_none _) (fun _ w us hl I => O.callv I Tryz.call220 (Lifted_ok _ I.base_ok _ _ _ (by rw [hpo]; exact hkd.2.2) hI) rfl (fun w' I' => ⟨rfl, I'⟩)) ?_
      refine OpsF.nil ?_
      intro _ w hl I
      try unfold AllL
      refine Ops.y (v := .pointer (some ⟨_, _, none⟩)) (Y.fa fa_83_3 rfl) ?_
      refine Ops.go (O.store (v := .int .i64 _) I ty_3 1 rfl rfl rfl rfl rfl rfl (Nat.le_of_ble_eq_true rfl) rfl ?_)
      intro w I
      refine Ops.nil ?_
      refine WP.region ?_
      refine Ops.y (v := .int .i64 _) (Y.addi rfl rfl ⟨by omega, by omega⟩) ?_
      refine Ops.y (v := .int .i64 _) (Y.move rfl) ?_
      refine Ops.nil ?_
      exact ⟨k + 1, ⟨⟨rfl, rfl, rfl, rfl, rfl, rfl, rfl, rfl, rfl, trivial⟩, ⟨_, gl.trans hl, by rw [hval]; exact I.drop⟩, by omega, fun j hj hj' => by
        rcases Nat.lt_succ_iff_lt_or_eq.1 hj with h' | rfl
        · exact hn j h' hj'
        · exact litOk_iff.2 h8⟩, by omega⟩
    · have hval : hvAt p.preds.xs f.xs r x (k + 1) = hvAt p.preds.xs f.xs r x k := by
        unfold hvAt
        have : (0 ≤ r.src ∧ r.src < ((k + 1 : Nat) : Int)) ↔ (0 ≤ r.src ∧ r.src < (k : Int)) := by omega
        simp only [this]
      refine WP.skip ?_
      refine WP.region ?_
      refine Ops.y (v := .int .i64 _) (Y.addi rfl rfl ⟨by omega, by omega⟩) ?_
      refine Ops.y (v := .int .i64 _) (Y.move rfl) ?_
      refine Ops.nil ?_
      exact ⟨k + 1, ⟨⟨rfl, rfl, rfl, rfl, rfl, rfl, rfl, rfl, rfl, trivial⟩, ⟨h1, gl, by rw [hval]; exact I.drop⟩, by omega, fun j hj hj' => by
        rcases Nat.lt_succ_iff_lt_or_eq.1 hj with h' | rfl
        · exact hn j h' hj'
        · exact litOk_iff.2 h8⟩, by omega⟩
  obtain rfl : k = r.body.xs.length := by omega
  have hyes : holdsB f.xs r x = true := by
    unfold holdsB; rw [List.all_eq_true]; intro t ht; obtain ⟨j, hj, rfl⟩ := List.getElem_of_mem ht; exact hn j hj hj
  rw [hvAt_end ok] at I
  refine WP.exit ?_
  refine WP.seq ?_
  refine WP.regionF mixed I 2 (by kernel_rfl) ?_
  refine OpsF.y_ (v := .agg #[_, _, _, _]) (fun _ => runs_none _) (fun _ w us hl I => Y.loadv ty_83 rfl (I.rdbox 0 rfl 0 4) rfl rfl) ?_
  refine OpsF.y_ (v := .bool _) (fun _ => runs_none _) (fun _ w us hl I => Y.assign rfl) ?_
  refine OpsF.nil ?_
  intro _ w hl I
  try unfold AllL
  refine Ops.go (O.store (v := .agg #[_, _, _, _]) I ty_83 2 rfl rfl rfl rfl rfl rfl (Nat.le_of_ble_eq_true rfl) rfl ?_)
  intro w I
  refine Ops.nil ?_
  refine WP.ret ?_
  repeat (first | refine thenE_ret ?_ | refine blockE_ret ?_)
  exact retQ.mk (vs := [.bool _, .agg #[_, _, _, _]]) rfl ⟨rfl, ⟨_, _, _, _, _, rfl, ty_83, I.rdbox 2 rfl 0 4, rfl, rfl⟩, trivial⟩ I.ext_of (by simp only [tup, tHold, holdsF, hyes]; rfl)
/-! ### Binding -/
def nthF (x : Fct) (k : Nat) : Int := if k = 0 then x.a else x.b
theorem pair_drop {a : Atm} {x : Fct} (h2 : a.args.xs.length ≤ 2) {k : Nat} (hk : k < a.args.xs.length) : (pairF a x).drop k = (a.args.xs[k], nthF x k) :: (pairF a x).drop (k + 1) := by
  have hl : (pairF a x).length = a.args.xs.length := by unfold pairF; rw [List.length_zip]; simp only [List.length_cons, List.length_nil]; omega
  rw [List.drop_eq_getElem_cons (by omega)]
  congr 1
  unfold pairF
  rw [List.getElem_zip]
  have : k = 0 ∨ k = 1 := by omega
  rcases this with rfl | rfl <;> rfl
theorem pair_end {a : Atm} {x : Fct} : (pairF a x).drop a.args.xs.length = [] := by
  apply List.drop_eq_nil_of_le
  unfold pairF; rw [List.length_zip]; omega
theorem set_enc {b : Vrs} {v n : Int} (hv : 0 ≤ v ∧ v < 3) : ([b.x0, b.x1, b.x2].set v.toNat n).map (fun n : Int => Value.int .i64 n) = (b.set v n).enc := by
  have : v = 0 ∨ v = 1 ∨ v = 2 := by omega
  rcases this with rfl | rfl | rfl <;> rfl
def withC : Vrs → List (Trm × Int) → Vrs × Bool
  | b, [] => (b, true)
  | b, (t, n) :: r => if cantF b t n then (b, false) else withC (bindF b t n) r
def wcF (b : Vrs) (a : Atm) (x : Fct) : Vrs × Bool := if a.pred ≠ x.pred then (b, false) else withC b (pairF a x)
theorem withC_L : ∀ (ps : List (Trm × Int)) (b : Vrs), withL b ps = if (withC b ps).2 then some (withC b ps).1 else none
  | [], b => rfl
  | (t, n) :: r, b => by
    rw [withL, withC]
    split
    · rfl
    · exact withC_L r _
theorem withF_wc (b : Vrs) (a : Atm) (x : Fct) : withF b a x = if (wcF b a x).2 then some (wcF b a x).1 else none := by
  unfold withF wcF
  split
  · rfl
  · exact withC_L _ _
def tWith (c : Vrs × Bool) : Value := .tuple #[c.1.val, .bool c.2]
set_option maxHeartbeats 4000000 in
theorem with_ok (B : Base) (hB : B.ok) (b : Vrs) (a : Atm) (ha : a.In B.h) (x : Fct) (h2 : a.args.xs.length ≤ 2) (hv : ∀ t ∈ a.args.xs, t.var = true → 0 ≤ t.n ∧ t.n < 3) : Fn Tryz.prog 214 [b.val, a.val, x.val] B (fun v _ => v = tWith (wcF b a x)) := by
  refine Fn.of Tryz.func214 rfl Tryz.ntmps214 (by kernel_rfl) (by simp) ?_
  intro e
  have I := Inv.start hB
  refine WP.seq ?_
  refine WP.region ?_
  refine Ops.go (O.box (v := .agg #[_, _, _]) I rfl rfl ?_)
  intro b3 w I
  refine Ops.go (O.box (v := .agg #[_, _]) I rfl rfl ?_)
  intro b4 w I
  refine Ops.go (O.box (v := .agg #[_, _, _, _]) I rfl rfl ?_)
  intro b5 w I
  refine Ops.go (O.alloc I Tryz.zeroValue239 rfl ?_)
  intro b6 w I
  refine Ops.y (v := .bool _) (Y.assign rfl) ?_
  refine Ops.nil ?_
  refine WP.seq ?_
  refine WP.seq ?_
  refine WP.region ?_
  refine Ops.y (v := .pointer (some ⟨_, _, none⟩)) (Y.fa0 fa_61_0 rfl) ?_
  refine Ops.y (v := .int .i64 _) (Y.loadv ty_3 rfl (I.rdbox 2 rfl 0 1) rfl rfl) ?_
  refine Ops.y (v := .pointer (some ⟨_, _, none⟩)) (Y.fa0 fa_83_0 rfl) ?_
  refine Ops.y (v := .int .i64 _) (Y.loadv ty_3 rfl (I.rdbox 1 rfl 0 1) rfl rfl) ?_
  refine Ops.y (v := .bool (decide _)) (Y.nei rfl rfl) ?_
  refine Ops.nil ?_
  refine WP.cond_dec rfl (fun h1 => ?_) (fun h1 => ?_)
  · refine WP.seq ?_
    refine WP.region ?_
    refine Ops.y (v := .agg #[_, _, _]) (Y.loadv ty_239 rfl (I.rdbox 3 rfl 0 3) rfl rfl) ?_
    refine Ops.go (O.store (v := .agg #[_, _, _]) I ty_239 0 rfl rfl rfl rfl rfl rfl (Nat.le_of_ble_eq_true rfl) rfl ?_)
    intro w I
    refine Ops.y (v := .bool _) (Y.assign rfl) ?_
    refine Ops.nil ?_
    refine WP.ret ?_
    repeat (first | refine thenE_ret ?_ | refine blockE_ret ?_)
    exact retQ.mk (vs := [.agg #[_, _, _], .bool _]) rfl ⟨⟨_, _, _, _, _, rfl, ty_239, I.rdbox 0 rfl 0 3, rfl, rfl⟩, rfl, trivial⟩ I.ext_of (by simp only [tup, tWith, wcF]; rw [if_pos h1])
  refine WP.skip ?_
  refine WP.seq ?_
  refine WP.seq ?_
  refine WP.region ?_
  refine Ops.y (v := .pointer (some ⟨_, _, none⟩)) (Y.fa fa_61_1 rfl) ?_
  refine Ops.y (v := .slice _ _ _) (Y.loadv ty_59 rfl (I.rdbox 2 rfl 1 1) rfl rfl) ?_
  refine Ops.y (v := .int .i64 _) (Y.lens Tryz.underlying59 rfl) ?_
  refine Ops.y (v := .int .i64 _) (Y.move rfl) ?_
  refine Ops.nil ?_
  refine WP.block ?_
  refine WP.loopE (σ := Nat × Vrs) (fun s => [(3, .pointer (some ⟨b3, 0, none⟩)), (4, .pointer (some ⟨b4, 0, none⟩)), (5, .pointer (some ⟨b5, 0, none⟩)), (6, .pointer (some ⟨b6, 0, none⟩)), (18, a.args.val), (19, .int .i64 a.args.xs.length), (20, .int .i64 s.1)])
    (fun s w => Inv B B.h [box b6 [.int .i64 0, .int .i64 0, .int .i64 0] 239, box b5 x.enc 83, box b4 a.enc 61, box b3 s.2.enc 239] w ∧ s.1 ≤ a.args.xs.length ∧ withC b (pairF a x) = withC s.2 ((pairF a x).drop s.1)) (fun s => a.args.xs.length - s.1)
    ⟨(0, b), ⟨rfl, rfl, rfl, rfl, rfl, rfl, rfl, trivial⟩, I, Nat.zero_le _, rfl⟩ ?_
  rintro ⟨k, c⟩ e w ⟨I, hk, hw⟩
  dsimp only at I hk hw ⊢
  refine WP.seq ?_
  refine WP.region ?_
  refine Ops.y (v := .bool (decide _)) (Y.lti rfl rfl) ?_
  refine Ops.nil ?_
  refine WP.seq ?_
  refine WP.cond_dec rfl (fun h => ?_) (fun h => ?_)
  · have hk' : k < a.args.xs.length := by omega
    have E1 := Sl.Is.at ha hk'
    have hpart : (([.int .i64 x.a, .int .i64 x.b] : List Value).drop ((k : Int).toNat * 1)).take 1 = [.int .i64 (nthF x k)] := by
      have : k = 0 ∨ k = 1 := by omega
      rcases this with rfl | rfl <;> rfl
    have hpd := pair_drop (x := x) h2 hk'
    rw [hpd, withC] at hw
    have htn := hv _ (List.getElem_mem hk')
    refine WP.skip ?_
    refine WP.seq ?_
    refine WP.block ?_
    refine WP.seq ?_
    refine WP.region ?_
    refine Ops.y (v := .int .i64 _) (Y.move rfl) ?_
    refine Ops.y (v := .pointer (some ⟨_, _, none⟩)) (Y.idxEl E1 Tryz.underlying59 Tryz.sizeOf109 rfl rfl (Int.natCast_nonneg _) rfl) ?_
    refine Ops.y (v := .agg #[_, _]) (Y.loadv ty_109 rfl (I.rd (E1.rd.part 0 2)) rfl rfl) ?_
    refine Ops.go (O.alloc I Tryz.zeroValue109 rfl ?_)
    intro b9 w I
    refine Ops.y (v := .int .i64 _) (Y.assign rfl) ?_
    refine Ops.go (O.store (v := .agg #[_, _]) I ty_109 0 rfl rfl rfl rfl rfl rfl (Nat.le_of_ble_eq_true rfl) rfl ?_)
    intro w I
    refine Ops.nil ?_
    refine WP.seq ?_
    refine WP.region ?_
    refine Ops.y (v := .pointer (some ⟨_, _, none⟩)) (Y.fa fa_83_1 rfl) ?_
    refine Ops.y (v := .int .i64 _) (Y.loadv ty_3 rfl (I.rdbox 2 rfl 1 1) rfl rfl) ?_
    refine Ops.y (v := .pointer (some ⟨_, _, none⟩)) (Y.fa fa_83_2 rfl) ?_
    refine Ops.y (v := .int .i64 _) (Y.loadv ty_3 rfl (I.rdbox 2 rfl 2 1) rfl rfl) ?_
    refine Ops.y (v := .agg #[.int .i64 _, .int .i64 _]) (Y.builda Tryz.underlying255 Tryz.zeroValue255 Tryz.sizeOf3 rfl rfl) ?_
    refine Ops.y (v := .int .i64 _) (Y.move rfl) ?_
    refine Ops.y (v := .int .i64 _) (Y.idxvv Tryz.underlying255 ty_3 rfl rfl (Int.natCast_nonneg _) (by omega) (part := [.int .i64 (nthF x k)]) hpart rfl rfl) ?_
    refine Ops.y (v := .int .i64 _) (Y.assign rfl) ?_
    refine Ops.nil ?_
    cases hvar : a.args.xs[k].var
    · by_cases hc : a.args.xs[k].n ≠ nthF x k
      · have hcant : cantF c a.args.xs[k] (nthF x k) := .inl ⟨hvar, hc⟩
        rw [if_pos hcant] at hw
        refine WP.block ?_
        refine WP.seq ?_
        refine WP.seq ?_
        refine WP.region ?_
        refine Ops.y (v := .pointer (some ⟨_, _, none⟩)) (Y.fa0 fa_109_0 rfl) ?_
        refine Ops.y (v := .bool _) (Y.loadv ty_4 rfl (I.rdbox 0 rfl 0 1) rfl rfl) ?_
        refine Ops.y (v := .bool true) (Y.b (Y.not rfl) ((by rw [hvar]; rfl))) ?_
        refine Ops.y (v := .bool _) (Y.move rfl) ?_
        refine Ops.ygt rfl (v := .pointer (some ⟨_, _, none⟩)) (Y.fa fa_109_1 rfl) ?_
        refine Ops.ygt rfl (v := .int .i64 _) (Y.loadv ty_3 rfl (I.rdbox 0 rfl 1 1) rfl rfl) ?_
        refine Ops.ygt rfl (v := .int .i64 _) (Y.move rfl) ?_
        refine Ops.ygt rfl (v := .bool true) (Y.dec_t (Y.nei rfl rfl) (hc)) ?_
        refine Ops.y (v := .bool _) (Y.pick_t rfl rfl) ?_
        refine Ops.y (v := .bool _) (Y.assign rfl) ?_
        refine Ops.nil ?_
        refine WP.cond_t rfl ?_
        refine WP.skip ?_
        refine WP.cond_t rfl ?_
        refine WP.seq ?_
        refine WP.region ?_
        refine Ops.y (v := .agg #[_, _, _]) (Y.loadv ty_239 rfl (I.rdbox 4 rfl 0 3) rfl rfl) ?_
        refine Ops.go (O.store (v := .agg #[_, _, _]) I ty_239 1 rfl rfl rfl rfl rfl rfl (Nat.le_of_ble_eq_true rfl) rfl ?_)
        intro w I
        refine Ops.y (v := .bool _) (Y.assign rfl) ?_
        refine Ops.nil ?_
        refine WP.ret ?_
        repeat (first | refine thenE_ret ?_ | refine blockE_ret ?_)
        exact retQ.mk (vs := [.agg #[_, _, _], .bool _]) rfl ⟨⟨_, _, _, _, _, rfl, ty_239, I.rdbox 1 rfl 0 3, rfl, rfl⟩, rfl, trivial⟩ I.ext_of (by simp only [tup, tWith, wcF]; rw [if_neg h1, hw])
      · have hcant : ¬ cantF c a.args.xs[k] (nthF x k) := by rintro (⟨_, q⟩ | ⟨q, _⟩); exact hc q; rw [hvar] at q; cases q
        rw [if_neg hcant] at hw
        have hbn : bindF c a.args.xs[k] (nthF x k) = c := by unfold bindF; rw [hvar]; rfl
        rw [hbn] at hw
        refine WP.block ?_
        refine WP.seq ?_
        refine WP.seq ?_
        refine WP.region ?_
        refine Ops.y (v := .pointer (some ⟨_, _, none⟩)) (Y.fa0 fa_109_0 rfl) ?_
        refine Ops.y (v := .bool _) (Y.loadv ty_4 rfl (I.rdbox 0 rfl 0 1) rfl rfl) ?_
        refine Ops.y (v := .bool true) (Y.b (Y.not rfl) ((by rw [hvar]; rfl))) ?_
        refine Ops.y (v := .bool _) (Y.move rfl) ?_
        refine Ops.ygt rfl (v := .pointer (some ⟨_, _, none⟩)) (Y.fa fa_109_1 rfl) ?_
        refine Ops.ygt rfl (v := .int .i64 _) (Y.loadv ty_3 rfl (I.rdbox 0 rfl 1 1) rfl rfl) ?_
        refine Ops.ygt rfl (v := .int .i64 _) (Y.move rfl) ?_
        refine Ops.ygt rfl (v := .bool false) (Y.dec_f (Y.nei rfl rfl) (hc)) ?_
        refine Ops.y (v := .bool _) (Y.pick_t rfl rfl) ?_
        refine Ops.y (v := .bool _) (Y.assign rfl) ?_
        refine Ops.nil ?_
        refine WP.cond_f rfl ?_
        refine WP.region ?_
        refine Ops.y (v := .pointer (some ⟨_, _, none⟩)) (Y.fa0 fa_109_0 rfl) ?_
        refine Ops.y (v := .bool _) (Y.loadv ty_4 rfl (I.rdbox 0 rfl 0 1) rfl rfl) ?_
        refine Ops.y (v := .bool false) (Y.b (Y.move rfl) (hvar)) ?_
        refine Ops.gf rfl ?_
        refine Ops.gf rfl ?_
        refine Ops.gf rfl ?_
        refine Ops.gf rfl ?_
        refine Ops.gf rfl ?_
        refine Ops.y (v := .bool _) (Y.pick_f rfl rfl) ?_
        refine Ops.y (v := .bool _) (Y.move rfl) ?_
        refine Ops.gf rfl ?_
        refine Ops.gf rfl ?_
        refine Ops.gf rfl ?_
        refine Ops.gf rfl ?_
        refine Ops.gf rfl ?_
        refine Ops.gf rfl ?_
        refine Ops.y (v := .bool _) (Y.pick_f rfl rfl) ?_
        refine Ops.y (v := .bool _) (Y.assign rfl) ?_
        refine Ops.nil ?_
        refine WP.cond_f rfl ?_
        refine WP.seq ?_
        refine WP.region ?_
        refine Ops.y (v := .pointer (some ⟨_, _, none⟩)) (Y.fa0 fa_109_0 rfl) ?_
        refine Ops.y (v := .bool false) (Y.b (Y.loadv ty_4 rfl (I.rdbox 0 rfl 0 1) rfl rfl) (hvar)) ?_
        refine Ops.y (v := .bool _) (Y.assign rfl) ?_
        refine Ops.nil ?_
        refine WP.cond_f rfl ?_
        refine WP.skip ?_
        refine WP.region ?_
        refine Ops.y (v := .int .i64 _) (Y.addi rfl rfl ⟨by omega, by omega⟩) ?_
        refine Ops.y (v := .int .i64 _) (Y.move rfl) ?_
        refine Ops.nil ?_
        exact ⟨(k + 1, c), ⟨⟨rfl, rfl, rfl, rfl, rfl, rfl, rfl, trivial⟩, I.drop, by dsimp only; omega, hw⟩, by dsimp only; omega⟩
    · have ht := htn hvar
      by_cases hc0 : 0 ≤ c.at a.args.xs[k].n
      · by_cases hc1 : c.at a.args.xs[k].n ≠ nthF x k
        · have hcant : cantF c a.args.xs[k] (nthF x k) := .inr ⟨hvar, hc0, hc1⟩
          rw [if_pos hcant] at hw
          refine WP.block ?_
          refine WP.seq ?_
          refine WP.seq ?_
          refine WP.region ?_
          refine Ops.y (v := .pointer (some ⟨_, _, none⟩)) (Y.fa0 fa_109_0 rfl) ?_
          refine Ops.y (v := .bool _) (Y.loadv ty_4 rfl (I.rdbox 0 rfl 0 1) rfl rfl) ?_
          refine Ops.y (v := .bool false) (Y.b (Y.not rfl) ((by rw [hvar]; rfl))) ?_
          refine Ops.y (v := .bool _) (Y.move rfl) ?_
          refine Ops.gf rfl ?_
          refine Ops.gf rfl ?_
          refine Ops.gf rfl ?_
          refine Ops.gf rfl ?_
          refine Ops.y (v := .bool _) (Y.pick_f rfl rfl) ?_
          refine Ops.y (v := .bool _) (Y.assign rfl) ?_
          refine Ops.nil ?_
          refine WP.cond_f rfl ?_
          refine WP.region ?_
          refine Ops.y (v := .pointer (some ⟨_, _, none⟩)) (Y.fa0 fa_109_0 rfl) ?_
          refine Ops.y (v := .bool _) (Y.loadv ty_4 rfl (I.rdbox 0 rfl 0 1) rfl rfl) ?_
          refine Ops.y (v := .bool true) (Y.b (Y.move rfl) (hvar)) ?_
          refine Ops.ygt rfl (v := .pointer (some ⟨_, _, none⟩)) (Y.fa fa_109_1 rfl) ?_
          refine Ops.ygt rfl (v := .int .i64 _) (Y.loadv ty_3 rfl (I.rdbox 0 rfl 1 1) rfl rfl) ?_
          refine Ops.ygt rfl (v := .pointer (some ⟨_, _, none⟩)) (Y.idxa Tryz.underlying239 Tryz.sizeOf3 rfl rfl ht.1 ht.2) ?_
          refine Ops.ygt rfl (v := .int .i64 _) (Y.loadv ty_3 rfl (Rd.vrs (I.rdbox 4 rfl 0 3) ht.1 ht.2) rfl rfl) ?_
          refine Ops.ygt rfl (v := .bool true) (Y.dec_t (Y.gei rfl rfl) (hc0)) ?_
          refine Ops.y (v := .bool _) (Y.pick_t rfl rfl) ?_
          refine Ops.y (v := .bool _) (Y.move rfl) ?_
          refine Ops.ygt rfl (v := .pointer (some ⟨_, _, none⟩)) (Y.fa fa_109_1 rfl) ?_
          refine Ops.ygt rfl (v := .int .i64 _) (Y.loadv ty_3 rfl (I.rdbox 0 rfl 1 1) rfl rfl) ?_
          refine Ops.ygt rfl (v := .pointer (some ⟨_, _, none⟩)) (Y.idxa Tryz.underlying239 Tryz.sizeOf3 rfl rfl ht.1 ht.2) ?_
          refine Ops.ygt rfl (v := .int .i64 _) (Y.loadv ty_3 rfl (Rd.vrs (I.rdbox 4 rfl 0 3) ht.1 ht.2) rfl rfl) ?_
          refine Ops.ygt rfl (v := .int .i64 _) (Y.move rfl) ?_
          refine Ops.ygt rfl (v := .bool true) (Y.dec_t (Y.nei rfl rfl) (hc1)) ?_
          refine Ops.y (v := .bool _) (Y.pick_t rfl rfl) ?_
          refine Ops.y (v := .bool _) (Y.assign rfl) ?_
          refine Ops.nil ?_
          refine WP.cond_t rfl ?_
          refine WP.seq ?_
          refine WP.region ?_
          refine Ops.y (v := .agg #[_, _, _]) (Y.loadv ty_239 rfl (I.rdbox 4 rfl 0 3) rfl rfl) ?_
          refine Ops.go (O.store (v := .agg #[_, _, _]) I ty_239 1 rfl rfl rfl rfl rfl rfl (Nat.le_of_ble_eq_true rfl) rfl ?_)
          intro w I
          refine Ops.y (v := .bool _) (Y.assign rfl) ?_
          refine Ops.nil ?_
          refine WP.ret ?_
          repeat (first | refine thenE_ret ?_ | refine blockE_ret ?_)
          exact retQ.mk (vs := [.agg #[_, _, _], .bool _]) rfl ⟨⟨_, _, _, _, _, rfl, ty_239, I.rdbox 1 rfl 0 3, rfl, rfl⟩, rfl, trivial⟩ I.ext_of (by simp only [tup, tWith, wcF]; rw [if_neg h1, hw])
        · have hcant : ¬ cantF c a.args.xs[k] (nthF x k) := by rintro (⟨q, _⟩ | ⟨_, _, q⟩); rw [hvar] at q; cases q; exact hc1 q
          rw [if_neg hcant] at hw
          have hbn : bindF c a.args.xs[k] (nthF x k) = c.set a.args.xs[k].n (nthF x k) := by unfold bindF; rw [hvar]; rfl
          rw [hbn] at hw
          refine WP.block ?_
          refine WP.seq ?_
          refine WP.seq ?_
          refine WP.region ?_
          refine Ops.y (v := .pointer (some ⟨_, _, none⟩)) (Y.fa0 fa_109_0 rfl) ?_
          refine Ops.y (v := .bool _) (Y.loadv ty_4 rfl (I.rdbox 0 rfl 0 1) rfl rfl) ?_
          refine Ops.y (v := .bool false) (Y.b (Y.not rfl) ((by rw [hvar]; rfl))) ?_
          refine Ops.y (v := .bool _) (Y.move rfl) ?_
          refine Ops.gf rfl ?_
          refine Ops.gf rfl ?_
          refine Ops.gf rfl ?_
          refine Ops.gf rfl ?_
          refine Ops.y (v := .bool _) (Y.pick_f rfl rfl) ?_
          refine Ops.y (v := .bool _) (Y.assign rfl) ?_
          refine Ops.nil ?_
          refine WP.cond_f rfl ?_
          refine WP.region ?_
          refine Ops.y (v := .pointer (some ⟨_, _, none⟩)) (Y.fa0 fa_109_0 rfl) ?_
          refine Ops.y (v := .bool _) (Y.loadv ty_4 rfl (I.rdbox 0 rfl 0 1) rfl rfl) ?_
          refine Ops.y (v := .bool true) (Y.b (Y.move rfl) (hvar)) ?_
          refine Ops.ygt rfl (v := .pointer (some ⟨_, _, none⟩)) (Y.fa fa_109_1 rfl) ?_
          refine Ops.ygt rfl (v := .int .i64 _) (Y.loadv ty_3 rfl (I.rdbox 0 rfl 1 1) rfl rfl) ?_
          refine Ops.ygt rfl (v := .pointer (some ⟨_, _, none⟩)) (Y.idxa Tryz.underlying239 Tryz.sizeOf3 rfl rfl ht.1 ht.2) ?_
          refine Ops.ygt rfl (v := .int .i64 _) (Y.loadv ty_3 rfl (Rd.vrs (I.rdbox 4 rfl 0 3) ht.1 ht.2) rfl rfl) ?_
          refine Ops.ygt rfl (v := .bool true) (Y.dec_t (Y.gei rfl rfl) (hc0)) ?_
          refine Ops.y (v := .bool _) (Y.pick_t rfl rfl) ?_
          refine Ops.y (v := .bool _) (Y.move rfl) ?_
          refine Ops.ygt rfl (v := .pointer (some ⟨_, _, none⟩)) (Y.fa fa_109_1 rfl) ?_
          refine Ops.ygt rfl (v := .int .i64 _) (Y.loadv ty_3 rfl (I.rdbox 0 rfl 1 1) rfl rfl) ?_
          refine Ops.ygt rfl (v := .pointer (some ⟨_, _, none⟩)) (Y.idxa Tryz.underlying239 Tryz.sizeOf3 rfl rfl ht.1 ht.2) ?_
          refine Ops.ygt rfl (v := .int .i64 _) (Y.loadv ty_3 rfl (Rd.vrs (I.rdbox 4 rfl 0 3) ht.1 ht.2) rfl rfl) ?_
          refine Ops.ygt rfl (v := .int .i64 _) (Y.move rfl) ?_
          refine Ops.ygt rfl (v := .bool false) (Y.dec_f (Y.nei rfl rfl) (hc1)) ?_
          refine Ops.y (v := .bool _) (Y.pick_t rfl rfl) ?_
          refine Ops.y (v := .bool _) (Y.assign rfl) ?_
          refine Ops.nil ?_
          refine WP.cond_f rfl ?_
          refine WP.seq ?_
          refine WP.region ?_
          refine Ops.y (v := .pointer (some ⟨_, _, none⟩)) (Y.fa0 fa_109_0 rfl) ?_
          refine Ops.y (v := .bool true) (Y.b (Y.loadv ty_4 rfl (I.rdbox 0 rfl 0 1) rfl rfl) (hvar)) ?_
          refine Ops.y (v := .bool _) (Y.assign rfl) ?_
          refine Ops.nil ?_
          refine WP.cond_t rfl ?_
          refine WP.region ?_
          refine Ops.y (v := .pointer (some ⟨_, _, none⟩)) (Y.fa fa_109_1 rfl) ?_
          refine Ops.y (v := .int .i64 _) (Y.loadv ty_3 rfl (I.rdbox 0 rfl 1 1) rfl rfl) ?_
          refine Ops.y (v := .int .i64 _) (Y.move rfl) ?_
          refine Ops.y (v := .pointer (some ⟨_, _, none⟩)) (Y.idxa Tryz.underlying239 Tryz.sizeOf3 rfl rfl ht.1 ht.2) ?_
          refine Ops.go (O.store1 I ty_3 4 rfl rfl (f := fun n : Int => Value.int .i64 n) (L := [c.x0, c.x1, c.x2]) (i := a.args.xs[k].n.toNat) (by omega) (by simp only [List.length_cons, List.length_nil]; omega) rfl rfl rfl ?_)
          intro w I
          refine Ops.nil ?_
          refine WP.region ?_
          refine Ops.y (v := .int .i64 _) (Y.addi rfl rfl ⟨by omega, by omega⟩) ?_
          refine Ops.y (v := .int .i64 _) (Y.move rfl) ?_
          refine Ops.nil ?_
          rw [set_enc ht] at I
          exact ⟨(k + 1, c.set a.args.xs[k].n (nthF x k)), ⟨⟨rfl, rfl, rfl, rfl, rfl, rfl, rfl, trivial⟩, I.drop, by dsimp only; omega, hw⟩, by dsimp only; omega⟩
      · have hcant : ¬ cantF c a.args.xs[k] (nthF x k) := by rintro (⟨q, _⟩ | ⟨_, q, _⟩); rw [hvar] at q; cases q; exact hc0 q
        rw [if_neg hcant] at hw
        have hbn : bindF c a.args.xs[k] (nthF x k) = c.set a.args.xs[k].n (nthF x k) := by unfold bindF; rw [hvar]; rfl
        rw [hbn] at hw
        refine WP.block ?_
        refine WP.seq ?_
        refine WP.seq ?_
        refine WP.region ?_
        refine Ops.y (v := .pointer (some ⟨_, _, none⟩)) (Y.fa0 fa_109_0 rfl) ?_
        refine Ops.y (v := .bool _) (Y.loadv ty_4 rfl (I.rdbox 0 rfl 0 1) rfl rfl) ?_
        refine Ops.y (v := .bool false) (Y.b (Y.not rfl) ((by rw [hvar]; rfl))) ?_
        refine Ops.y (v := .bool _) (Y.move rfl) ?_
        refine Ops.gf rfl ?_
        refine Ops.gf rfl ?_
        refine Ops.gf rfl ?_
        refine Ops.gf rfl ?_
        refine Ops.y (v := .bool _) (Y.pick_f rfl rfl) ?_
        refine Ops.y (v := .bool _) (Y.assign rfl) ?_
        refine Ops.nil ?_
        refine WP.cond_f rfl ?_
        refine WP.region ?_
        refine Ops.y (v := .pointer (some ⟨_, _, none⟩)) (Y.fa0 fa_109_0 rfl) ?_
        refine Ops.y (v := .bool _) (Y.loadv ty_4 rfl (I.rdbox 0 rfl 0 1) rfl rfl) ?_
        refine Ops.y (v := .bool true) (Y.b (Y.move rfl) (hvar)) ?_
        refine Ops.ygt rfl (v := .pointer (some ⟨_, _, none⟩)) (Y.fa fa_109_1 rfl) ?_
        refine Ops.ygt rfl (v := .int .i64 _) (Y.loadv ty_3 rfl (I.rdbox 0 rfl 1 1) rfl rfl) ?_
        refine Ops.ygt rfl (v := .pointer (some ⟨_, _, none⟩)) (Y.idxa Tryz.underlying239 Tryz.sizeOf3 rfl rfl ht.1 ht.2) ?_
        refine Ops.ygt rfl (v := .int .i64 _) (Y.loadv ty_3 rfl (Rd.vrs (I.rdbox 4 rfl 0 3) ht.1 ht.2) rfl rfl) ?_
        refine Ops.ygt rfl (v := .bool false) (Y.dec_f (Y.gei rfl rfl) (hc0)) ?_
        refine Ops.y (v := .bool _) (Y.pick_t rfl rfl) ?_
        refine Ops.y (v := .bool _) (Y.move rfl) ?_
        refine Ops.gf rfl ?_
        refine Ops.gf rfl ?_
        refine Ops.gf rfl ?_
        refine Ops.gf rfl ?_
        refine Ops.gf rfl ?_
        refine Ops.gf rfl ?_
        refine Ops.y (v := .bool _) (Y.pick_f rfl rfl) ?_
        refine Ops.y (v := .bool _) (Y.assign rfl) ?_
        refine Ops.nil ?_
        refine WP.cond_f rfl ?_
        refine WP.seq ?_
        refine WP.region ?_
        refine Ops.y (v := .pointer (some ⟨_, _, none⟩)) (Y.fa0 fa_109_0 rfl) ?_
        refine Ops.y (v := .bool true) (Y.b (Y.loadv ty_4 rfl (I.rdbox 0 rfl 0 1) rfl rfl) (hvar)) ?_
        refine Ops.y (v := .bool _) (Y.assign rfl) ?_
        refine Ops.nil ?_
        refine WP.cond_t rfl ?_
        refine WP.region ?_
        refine Ops.y (v := .pointer (some ⟨_, _, none⟩)) (Y.fa fa_109_1 rfl) ?_
        refine Ops.y (v := .int .i64 _) (Y.loadv ty_3 rfl (I.rdbox 0 rfl 1 1) rfl rfl) ?_
        refine Ops.y (v := .int .i64 _) (Y.move rfl) ?_
        refine Ops.y (v := .pointer (some ⟨_, _, none⟩)) (Y.idxa Tryz.underlying239 Tryz.sizeOf3 rfl rfl ht.1 ht.2) ?_
        refine Ops.go (O.store1 I ty_3 4 rfl rfl (f := fun n : Int => Value.int .i64 n) (L := [c.x0, c.x1, c.x2]) (i := a.args.xs[k].n.toNat) (by omega) (by simp only [List.length_cons, List.length_nil]; omega) rfl rfl rfl ?_)
        intro w I
        refine Ops.nil ?_
        refine WP.region ?_
        refine Ops.y (v := .int .i64 _) (Y.addi rfl rfl ⟨by omega, by omega⟩) ?_
        refine Ops.y (v := .int .i64 _) (Y.move rfl) ?_
        refine Ops.nil ?_
        rw [set_enc ht] at I
        exact ⟨(k + 1, c.set a.args.xs[k].n (nthF x k)), ⟨⟨rfl, rfl, rfl, rfl, rfl, rfl, rfl, trivial⟩, I.drop, by dsimp only; omega, hw⟩, by dsimp only; omega⟩
  obtain rfl : k = a.args.xs.length := by omega
  rw [pair_end, withC] at hw
  refine WP.exit ?_
  refine WP.seq ?_
  refine WP.region ?_
  refine Ops.y (v := .agg #[_, _, _]) (Y.loadv ty_239 rfl (I.rdbox 3 rfl 0 3) rfl rfl) ?_
  refine Ops.go (O.store (v := .agg #[_, _, _]) I ty_239 0 rfl rfl rfl rfl rfl rfl (Nat.le_of_ble_eq_true rfl) rfl ?_)
  intro w I
  refine Ops.y (v := .bool _) (Y.assign rfl) ?_
  refine Ops.nil ?_
  refine WP.ret ?_
  repeat (first | refine thenE_ret ?_ | refine blockE_ret ?_)
  exact retQ.mk (vs := [.agg #[_, _, _], .bool _]) rfl ⟨⟨_, _, _, _, _, rfl, ty_239, I.rdbox 0 rfl 0 3, rfl, rfl⟩, rfl, trivial⟩ I.ext_of (by simp only [tup, tWith, wcF]; rw [if_neg h1, hw])
end Go.TF
end
section
/- Facts laid to literals: the walk. -/
namespace Go.TF
open Go Go.RowKit Go.Proofs
set_option maxRecDepth 20000

theorem FOf_at (B : Base) (hB : B.ok) (p : Prg) (hp : p.In B.h) (f : Sl Fct) (hf : Fcts f B.h) (n : Int) (r : Rul) (h0 : 0 ≤ n) (hr : p.rules.xs[n.toNat]? = some r) (ok : ROk p.preds.xs r) (okf : FOk p.preds.xs f.xs) (x : Vrs) (hx : VsOk x) (y : Bool × Fct) (hy : holdsF p.preds.xs f.xs r x = y) :
    Fn Tryz.prog 175 [p.val, f.val, .int .i64 n, x.val] B (fun v _ => v = tHold y) := hy ▸ FOf_ok B hB p hp f hf n r h0 hr ok okf x hx
/-- What is laid, kept where it holds. -/
def outL (f : List Fct) (n : Int) (r : Rul) (bs : List Vrs) : List Stp := ((bs.map mx0).filter (holdsB f r)).map (Stp.mk n)
theorem outL_nil (f : List Fct) (n : Int) (r : Rul) : outL f n r [] = [] := rfl
theorem outL_app (f : List Fct) (n : Int) (r : Rul) (a b : List Vrs) : outL f n r (a ++ b) = outL f n r a ++ outL f n r b := by simp [outL]
theorem outL_le (f : List Fct) (n : Int) (r : Rul) (a : List Vrs) : (outL f n r a).length ≤ a.length := by
  unfold outL; rw [List.length_map]; exact Nat.le_trans (List.length_filter_le ..) (by simp)
theorem outL_one (f : List Fct) (n : Int) (r : Rul) (b : Vrs) : outL f n r [b] = if holdsB f r (mx0 b) then [⟨n, mx0 b⟩] else [] := by
  unfold outL; cases h : holdsB f r (mx0 b) <;> simp [h]
def layN (f : List Fct) (a : Atm) (l : List Atm) (b : Vrs) (x : Fct) : List Vrs := if (wcF b a x).2 then layF f l (wcF b a x).1 else []
theorem layF_cons (f : List Fct) (a : Atm) (l : List Atm) (b : Vrs) : layF f (a :: l) b = f.flatMap (layN f a l b) := by
  rw [layF]
  congr 1
  funext x
  rw [withF_wc]
  unfold layN
  cases (wcF b a x).2 <;> rfl
theorem layF_len (f : List Fct) : ∀ (l : List Atm) (b : Vrs), (layF f l b).length ≤ f.length ^ l.length
  | [], b => by simp [layF]
  | a :: l, b => by
    rw [layF_cons, List.length_flatMap, List.length_cons, Nat.pow_succ, Nat.mul_comm]
    have : ∀ g : List Fct, (g.map fun x => (layN f a l b x).length).sum ≤ g.length * f.length ^ l.length := by
      intro g
      induction g with
      | nil => simp
      | cons y g ih =>
        have h1 : (layN f a l b y).length ≤ f.length ^ l.length := by
          unfold layN; split
          · exact layF_len f l _
          · simp
        rw [List.map_cons, List.sum_cons, List.length_cons, Nat.add_mul]; omega
    exact this f
theorem flat_take_succ {α β : Type} (g : α → List β) {l : List α} {k : Nat} (hk : k < l.length) : (l.take (k + 1)).flatMap g = (l.take k).flatMap g ++ g l[k] := by
  rw [List.take_succ_eq_append_getElem hk, List.flatMap_append]; simp
theorem flat_take_le {α β : Type} (g : α → List β) (l : List α) (k : Nat) : ((l.take k).flatMap g).length ≤ (l.flatMap g).length := by
  conv => rhs; rw [← List.take_append_drop k l, List.flatMap_append, List.length_append]
  omega
theorem BOk.vs {l : List Atm} {b : Vrs} (h : BOk l b) : VsOk (mx0 b) := by
  have h0 := h 0 (by omega); have h1 := h 1 (by omega); have h2 := h 2 (by omega)
  have e0 : b.at 0 = b.x0 := rfl
  have e1 : b.at 1 = b.x1 := rfl
  have e2 : b.at 2 = b.x2 := rfl
  rw [e0] at h0; rw [e1] at h1; rw [e2] at h2
  refine ⟨?_, ?_, ?_⟩ <;> simp only [mx0]
  · rcases h0 with h | ⟨q1, q2, _⟩ <;> omega
  · rcases h1 with h | ⟨q1, q2, _⟩ <;> omega
  · rcases h2 with h | ⟨q1, q2, _⟩ <;> omega
theorem wc_bok {l : List Atm} {a : Atm} {b : Vrs} {x : Fct} (ha : a ∈ l) (hv : ∀ t ∈ a.args.xs, t.var = true → 0 ≤ t.n ∧ t.n < 3) (hx : PF x) (hb : BOk l b) (h : (wcF b a x).2 = true) : BOk l (wcF b a x).1 := by
  have hw := withF_wc b a x
  rw [h, if_pos rfl] at hw
  unfold withF at hw
  split at hw
  · cases hw
  · exact withL_bok ha hv (pair_mem hx) hb hw
structure AtS (l : Sl Atm) (h : Heap) : Prop where
  is : l.Is 2 Atm.enc h
  cap : l.xs.length ≤ l.cap
  each : ∀ a ∈ l.xs, a.In h
theorem AtS.le {l : Sl Atm} {h h' : Heap} (x : AtS l h) (hl : h.le h') : AtS l h' := ⟨x.is.le hl, x.cap, fun a ha => (x.each a ha).le hl⟩
@[reducible] def LayM (bo : Nat) (a : Option Addr) (c : Nat) (m : Nat) (acc : List Stp) : List SA := [box bo [.slice a m c] 129, ownSl 169 4 (.slice a m c) m (acc.flatMap Stp.enc)]
/-- What the closure keeps. -/
structure LayE (h : Heap) (p : Prg) (f : Sl Fct) (n : Int) (r : Rul) (bn bp bf bo bl : Nat) : Prop where
  kn : Known h bn [.int .i64 n]
  kp : Known h bp p.enc
  kf : Known h bf [f.val]
  kl : Known h bl [.func (.func 213) #[] #[.pointer (some ⟨bn, 0, none⟩), .pointer (some ⟨bp, 0, none⟩), .pointer (some ⟨bf, 0, none⟩), .pointer (some ⟨bo, 0, none⟩), .pointer (some ⟨bl, 0, none⟩)]]
  p : p.In h
  f : Fcts f h
theorem LayE.le {h h' : Heap} {p : Prg} {f : Sl Fct} {n : Int} {r : Rul} {bn bp bf bo bl : Nat} (x : LayE h p f n r bn bp bf bo bl) (hl : h.le h') : LayE h' p f n r bn bp bf bo bl := ⟨x.kn.le hl, x.kp.le hl, x.kf.le hl, x.kl.le hl, x.p.le hl, x.f.le hl⟩
theorem snocS (acc : List Stp) (y : Stp) : (acc ++ [y]).flatMap Stp.enc = acc.flatMap Stp.enc ++ y.enc := by simp
set_option maxHeartbeats 8000000 in
theorem lay_ok (p : Prg) (f : Sl Fct) (n : Int) (r : Rul) (bn bp bf bo bl : Nat) (h0 : 0 ≤ n) (hr : p.rules.xs[n.toNat]? = some r) (ok : ROk p.preds.xs r) (okf : FOk p.preds.xs f.xs) : ∀ (ls : List Atm) {B : Base} {h : Heap} {w : World} (l : Sl Atm) (b : Vrs) (a : Option Addr) (c m : Nat) (acc : List Stp), l.xs = ls → Inv B h (LayM bo a c m acc) w → m = acc.length → LayE h p f n r bn bp bf bo bl → AtS l h →
      (∀ x ∈ ls, x ∈ poss r.body.xs) → BOk (poss r.body.xs) b → m + (layF f.xs ls b).length ≤ 1000000000 →
      Calls Tryz.prog 213 [b.val, l.val, .pointer (some ⟨bn, 0, none⟩), .pointer (some ⟨bp, 0, none⟩), .pointer (some ⟨bf, 0, none⟩), .pointer (some ⟨bo, 0, none⟩), .pointer (some ⟨bl, 0, none⟩)].toArray w
        (fun ed w' => ed = .returned (.tuple #[]) ∧ ∃ h' a' c' m', h.le h' ∧ Inv B h' (LayM bo a' c' m' (acc ++ outL f.xs n r (layF f.xs ls b))) w' ∧ m' = (acc ++ outL f.xs n r (layF f.xs ls b)).length)
  | [], B, h, w, l, b, a, c, m, acc, hls0, I, hm, E, hA, hin, hb, hsz => by
    have hvs := hb.vs
    refine Calls.ofWP (args := [b.val, l.val, .pointer (some ⟨bn, 0, none⟩), .pointer (some ⟨bp, 0, none⟩), .pointer (some ⟨bf, 0, none⟩), .pointer (some ⟨bo, 0, none⟩), .pointer (some ⟨bl, 0, none⟩)]) Tryz.func213 rfl Tryz.ntmps213 (by kernel_rfl) (by simp) ?_
    intro e
    refine WP.seq ?_
    refine WP.region ?_
    refine Ops.go (O.box (v := .agg #[_, _, _]) I rfl rfl ?_)
    intro b7 w I
    refine Ops.nil ?_
    refine WP.seq ?_
    refine WP.seq ?_
    refine WP.region ?_
    refine Ops.y (v := .slice _ _ _) (Y.move rfl) ?_
    refine Ops.y (v := .int .i64 _) (Y.lens Tryz.underlying154 rfl) ?_
    refine Ops.y (v := .bool true) (Y.dec_t (Y.eqi rfl rfl) ((by rw [hls0]; rfl))) ?_
    refine Ops.nil ?_
    refine WP.cond_t rfl ?_
    refine WP.seq ?_
    refine WP.region ?_
    refine Ops.y (v := .int .i64 _) (Y.loadv ty_3 rfl (I.rd (E.kn.rd.part 0 1)) rfl rfl) ?_
    refine Ops.y (v := .agg #[.int .i64 _, .int .i64 _, .int .i64 _, .int .i64 _]) (Y.build pl_169 Tryz.zeroValue169 rfl rfl) ?_
    refine Ops.go (O.alloc I Tryz.zeroValue169 rfl ?_)
    intro b9 w I
    refine Ops.go (O.store (v := .agg #[_, _, _, _]) I ty_169 0 rfl rfl rfl rfl rfl rfl (Nat.le_of_ble_eq_true rfl) rfl ?_)
    intro w I
    refine Ops.nil ?_
    refine WP.seq ?_
    refine WP.seq ?_
    refine WP.region ?_
    refine Ops.y (v := .int .i64 _) (Y.move rfl) ?_
    refine Ops.nil ?_
    refine WP.cutK (σ := Unit) (fun _ => [(2, .pointer (some ⟨bn, 0, none⟩)), (3, .pointer (some ⟨bp, 0, none⟩)), (4, .pointer (some ⟨bf, 0, none⟩)), (5, .pointer (some ⟨bo, 0, none⟩)), (9, .pointer (some ⟨b9, 0, none⟩))]) (fun _ w => Inv B h (box b9 (Stp.mk n (mx0 b)).enc 169 :: LayM bo a c m acc) w) ?_ ?_
    · refine WP.block ?_
      refine WP.loopE (σ := Nat) (fun k => [(2, .pointer (some ⟨bn, 0, none⟩)), (3, .pointer (some ⟨bp, 0, none⟩)), (4, .pointer (some ⟨bf, 0, none⟩)), (5, .pointer (some ⟨bo, 0, none⟩)), (7, .pointer (some ⟨b7, 0, none⟩)), (9, .pointer (some ⟨b9, 0, none⟩)), (22, .int .i64 k)]) (fun k w => Inv B h (box b9 [.int .i64 n, .int .i64 (if 0 < k then max 0 b.x0 else 0), .int .i64 (if 1 < k then max 0 b.x1 else 0), .int .i64 (if 2 < k then max 0 b.x2 else 0)] 169 :: box b7 b.enc 239 :: LayM bo a c m acc) w ∧ k ≤ 3) (fun k => 3 - k)
        ⟨0, ⟨rfl, rfl, rfl, rfl, rfl, rfl, rfl, trivial⟩, I, Nat.zero_le _⟩ ?_
      rintro k e w ⟨I, hk⟩
      refine WP.seq ?_
      refine WP.region ?_
      refine Ops.y (v := .bool (decide _)) (Y.lti rfl rfl) ?_
      refine Ops.nil ?_
      refine WP.seq ?_
      refine WP.cond_dec rfl (fun h4 => ?_) (fun h4 => ?_)
      · have hk3 : k = 0 ∨ k = 1 ∨ k = 2 := by omega
        rcases hk3 with rfl | rfl | rfl
        · refine WP.skip ?_
          refine WP.seq ?_
          refine WP.block ?_
          refine WP.seq ?_
          refine WP.region ?_
          refine Ops.y (v := .int .i64 _) (Y.move rfl) ?_
          refine Ops.y (v := .int .i64 _) (Y.assign rfl) ?_
          refine Ops.nil ?_
          refine WP.region ?_
          refine Ops.y (v := .int .i64 _) (Y.move rfl) ?_
          refine Ops.y (v := .int .i64 _) (Y.move rfl) ?_
          refine Ops.y (v := .pointer (some ⟨_, _, none⟩)) (Y.idxa Tryz.underlying239 Tryz.sizeOf3 rfl rfl (by omega) (by omega)) ?_
          refine Ops.y (v := .int .i64 _) (Y.loadv ty_3 rfl (I.rdbox 1 rfl 0 1) rfl rfl) ?_
          refine Ops.y (v := .int .i64 _) (Y.max2 rfl rfl) ?_
          refine Ops.y (v := .pointer (some ⟨_, _, none⟩)) (Y.fa fa_169_1 rfl) ?_
          refine Ops.y (v := .pointer (some ⟨_, _, none⟩)) (Y.idxa Tryz.underlying167 Tryz.sizeOf3 rfl rfl (by omega) (by omega)) ?_
          refine Ops.go (O.store (v := .int .i64 _) I ty_3 0 rfl rfl rfl rfl rfl rfl (Nat.le_of_ble_eq_true rfl) rfl ?_)
          intro w I
          refine Ops.nil ?_
          refine WP.region ?_
          refine Ops.y (v := .int .i64 _) (Y.addi rfl rfl ⟨by omega, by omega⟩) ?_
          refine Ops.y (v := .int .i64 _) (Y.move rfl) ?_
          refine Ops.nil ?_
          exact ⟨1, ⟨⟨rfl, rfl, rfl, rfl, rfl, rfl, rfl, trivial⟩, I, by omega⟩, by omega⟩
        · refine WP.skip ?_
          refine WP.seq ?_
          refine WP.block ?_
          refine WP.seq ?_
          refine WP.region ?_
          refine Ops.y (v := .int .i64 _) (Y.move rfl) ?_
          refine Ops.y (v := .int .i64 _) (Y.assign rfl) ?_
          refine Ops.nil ?_
          refine WP.region ?_
          refine Ops.y (v := .int .i64 _) (Y.move rfl) ?_
          refine Ops.y (v := .int .i64 _) (Y.move rfl) ?_
          refine Ops.y (v := .pointer (some ⟨_, _, none⟩)) (Y.idxa Tryz.underlying239 Tryz.sizeOf3 rfl rfl (by omega) (by omega)) ?_
          refine Ops.y (v := .int .i64 _) (Y.loadv ty_3 rfl (I.rdbox 1 rfl 1 1) rfl rfl) ?_
          refine Ops.y (v := .int .i64 _) (Y.max2 rfl rfl) ?_
          refine Ops.y (v := .pointer (some ⟨_, _, none⟩)) (Y.fa fa_169_1 rfl) ?_
          refine Ops.y (v := .pointer (some ⟨_, _, none⟩)) (Y.idxa Tryz.underlying167 Tryz.sizeOf3 rfl rfl (by omega) (by omega)) ?_
          refine Ops.go (O.store (v := .int .i64 _) I ty_3 0 rfl rfl rfl rfl rfl rfl (Nat.le_of_ble_eq_true rfl) rfl ?_)
          intro w I
          refine Ops.nil ?_
          refine WP.region ?_
          refine Ops.y (v := .int .i64 _) (Y.addi rfl rfl ⟨by omega, by omega⟩) ?_
          refine Ops.y (v := .int .i64 _) (Y.move rfl) ?_
          refine Ops.nil ?_
          exact ⟨2, ⟨⟨rfl, rfl, rfl, rfl, rfl, rfl, rfl, trivial⟩, I, by omega⟩, by omega⟩
        · refine WP.skip ?_
          refine WP.seq ?_
          refine WP.block ?_
          refine WP.seq ?_
          refine WP.region ?_
          refine Ops.y (v := .int .i64 _) (Y.move rfl) ?_
          refine Ops.y (v := .int .i64 _) (Y.assign rfl) ?_
          refine Ops.nil ?_
          refine WP.region ?_
          refine Ops.y (v := .int .i64 _) (Y.move rfl) ?_
          refine Ops.y (v := .int .i64 _) (Y.move rfl) ?_
          refine Ops.y (v := .pointer (some ⟨_, _, none⟩)) (Y.idxa Tryz.underlying239 Tryz.sizeOf3 rfl rfl (by omega) (by omega)) ?_
          refine Ops.y (v := .int .i64 _) (Y.loadv ty_3 rfl (I.rdbox 1 rfl 2 1) rfl rfl) ?_
          refine Ops.y (v := .int .i64 _) (Y.max2 rfl rfl) ?_
          refine Ops.y (v := .pointer (some ⟨_, _, none⟩)) (Y.fa fa_169_1 rfl) ?_
          refine Ops.y (v := .pointer (some ⟨_, _, none⟩)) (Y.idxa Tryz.underlying167 Tryz.sizeOf3 rfl rfl (by omega) (by omega)) ?_
          refine Ops.go (O.store (v := .int .i64 _) I ty_3 0 rfl rfl rfl rfl rfl rfl (Nat.le_of_ble_eq_true rfl) rfl ?_)
          intro w I
          refine Ops.nil ?_
          refine WP.region ?_
          refine Ops.y (v := .int .i64 _) (Y.addi rfl rfl ⟨by omega, by omega⟩) ?_
          refine Ops.y (v := .int .i64 _) (Y.move rfl) ?_
          refine Ops.nil ?_
          exact ⟨3, ⟨⟨rfl, rfl, rfl, rfl, rfl, rfl, rfl, trivial⟩, I, by omega⟩, by omega⟩
      · obtain rfl : k = 3 := by omega
        refine WP.exit ?_
        exact ⟨(), ⟨rfl, rfl, rfl, rfl, rfl, trivial⟩, (I.front 0 rfl).weak (by exact List.Sublist.cons_cons _ (List.sublist_cons_self _ _))⟩
    rintro _ e w I
    have hL : layF f.xs [] b = [b] := rfl
    rw [hL] at hsz
    simp only [hL, outL_one]
    cases hh : holdsB f.xs r (mx0 b)
    · refine WP.seq ?_
      refine WP.seq ?_
      refine WP.region ?_
      refine Ops.y (v := .agg #[_, _]) (Y.loadv ty_25 rfl (I.rd (E.kp.rd.part 0 2)) rfl rfl) ?_
      refine Ops.y (v := .slice _ _ _) (Y.loadv ty_31 rfl (I.rd (E.kf.rd.part 0 1)) rfl rfl) ?_
      refine Ops.y (v := .int .i64 _) (Y.loadv ty_3 rfl (I.rd (E.kn.rd.part 0 1)) rfl rfl) ?_
      refine Ops.y (v := .pointer (some ⟨_, _, none⟩)) (Y.fa fa_169_1 rfl) ?_
      refine Ops.y (v := .agg #[_, _, _]) (Y.loadv ty_167 rfl (I.rdbox 0 rfl 1 3) rfl rfl) ?_
      refine Ops.go (O.callv I Tryz.call175 (FOf_at _ I.base_ok p E.p f E.f n r h0 hr ok okf (mx0 b) hvs (false, default) (by unfold holdsF; rw [hh]; rfl)) rfl ?_)
      intro w I
      refine Ops.y (v := .tuple #[_, _]) (Y.move rfl) ?_
      refine Ops.y (v := .bool _) (Y.extract rfl rfl) ?_
      refine Ops.y (v := .agg #[_, _, _, _]) (Y.extract rfl rfl) ?_
      refine Ops.go (O.alloc I Tryz.zeroValue83 rfl ?_)
      intro b12 w I
      refine Ops.y (v := .bool _) (Y.assign rfl) ?_
      refine Ops.go (O.store (v := .agg #[_, _, _, _]) I ty_83 0 rfl rfl rfl rfl rfl rfl (Nat.le_of_ble_eq_true rfl) rfl ?_)
      intro w I
      refine Ops.nil ?_
      refine WP.seq ?_
      refine WP.region ?_
      refine Ops.y (v := .bool _) (Y.move rfl) ?_
      refine Ops.nil ?_
      refine WP.cond_f rfl ?_
      refine WP.skip ?_
      refine WP.ret ?_
      repeat (first | refine thenE_ret ?_ | refine blockE_ret ?_)
      refine ⟨.inl rfl, [], trivial, rfl, h, a, c, m, Heap.le.refl _, ?_, ?_⟩
      · simp only [Bool.false_eq_true, if_false, List.append_nil]; exact I.drop.drop
      · simp only [Bool.false_eq_true, if_false, List.append_nil]; exact hm
    · refine WP.seq ?_
      refine WP.seq ?_
      refine WP.region ?_
      refine Ops.y (v := .agg #[_, _]) (Y.loadv ty_25 rfl (I.rd (E.kp.rd.part 0 2)) rfl rfl) ?_
      refine Ops.y (v := .slice _ _ _) (Y.loadv ty_31 rfl (I.rd (E.kf.rd.part 0 1)) rfl rfl) ?_
      refine Ops.y (v := .int .i64 _) (Y.loadv ty_3 rfl (I.rd (E.kn.rd.part 0 1)) rfl rfl) ?_
      refine Ops.y (v := .pointer (some ⟨_, _, none⟩)) (Y.fa fa_169_1 rfl) ?_
      refine Ops.y (v := .agg #[_, _, _]) (Y.loadv ty_167 rfl (I.rdbox 0 rfl 1 3) rfl rfl) ?_
      refine Ops.go (O.callv I Tryz.call175 (FOf_at _ I.base_ok p E.p f E.f n r h0 hr ok okf (mx0 b) hvs (true, headF p.preds.xs f.xs r (mx0 b)) (by unfold holdsF; rw [hh]; rfl)) rfl ?_)
      intro w I
      refine Ops.y (v := .tuple #[_, _]) (Y.move rfl) ?_
      refine Ops.y (v := .bool _) (Y.extract rfl rfl) ?_
      refine Ops.y (v := .agg #[_, _, _, _]) (Y.extract rfl rfl) ?_
      refine Ops.go (O.alloc I Tryz.zeroValue83 rfl ?_)
      intro b12 w I
      refine Ops.y (v := .bool _) (Y.assign rfl) ?_
      refine Ops.go (O.store (v := .agg #[_, _, _, _]) I ty_83 0 rfl rfl rfl rfl rfl rfl (Nat.le_of_ble_eq_true rfl) rfl ?_)
      intro w I
      refine Ops.nil ?_
      refine WP.seq ?_
      refine WP.region ?_
      refine Ops.y (v := .bool _) (Y.move rfl) ?_
      refine Ops.nil ?_
      refine WP.cond_t rfl ?_
      refine WP.region ?_
      refine Ops.y (v := .slice _ _ _) (Y.loadv ty_129 rfl (I.rdbox 2 rfl 0 1) rfl rfl) ?_
      refine Ops.y (v := .agg #[_, _, _, _]) (Y.loadv ty_169 rfl (I.rdbox 1 rfl 0 4) rfl rfl) ?_
      refine Ops.go (O.mksl (xs := [⟨n, mx0 b⟩]) (enc := Stp.enc) I Tryz.underlying129 Tryz.sizeOf169 Tryz.zeroValue169 rfl (Nat.le_of_ble_eq_true rfl) rfl rfl (by decide) (fun _ => rfl) ?_)
      intro b45 h45 w I le45 sl45
      refine Ops.go (O.append I Tryz.underlying129 et_169 3 rfl rfl rfl (I.rd (sl45 0 _ rfl).2) rfl rfl (by decide) ((by simp only [List.length_singleton] at hsz; omega)) (by omega) ?_)
      intro b46 c46 w I
      refine Ops.go (O.store (v := .slice _ _ _) I ty_129 2 rfl rfl rfl rfl rfl rfl (Nat.le_of_ble_eq_true rfl) rfl ?_)
      intro w I
      refine Ops.nil ?_
      refine WP.ret ?_
      repeat (first | refine thenE_ret ?_ | refine blockE_ret ?_)
      refine ⟨.inl rfl, [], trivial, rfl, h45, some ⟨b46, 0, none⟩, c46, m + 1, le45, ?_, ?_⟩
      · simp only [if_true]
        show Inv B h45 [box bo [.slice (some ⟨b46, 0, none⟩) (m + 1) c46] 129, ownSl 169 4 (.slice (some ⟨b46, 0, none⟩) (m + 1) c46) (m + 1) ((acc ++ [Stp.mk n (mx0 b)]).flatMap Stp.enc)] w
        rw [snocS]; exact I.drop.drop
      · simp only [if_true, List.length_append, List.length_singleton]; omega
  | at1 :: ls, B, h, w, l, b, a, c, m, acc, hls0, I, hm, E, hA, hin, hb, hsz => by
    have hlen : l.xs.length = ls.length + 1 := by rw [hls0]; rfl
    have hl0 : l.xs[0]? = some at1 := by rw [hls0]; rfl
    have hat := hin at1 List.mem_cons_self
    obtain ⟨y, hy, _, hya⟩ := mem_poss.1 hat
    have aok : AOk p.preds.xs at1 := hya ▸ aok_of ok.preds (ok.body y hy)
    have hav : ∀ t ∈ at1.args.xs, t.var = true → 0 ≤ t.n ∧ t.n < 3 := fun t ht hv => aok.var ht hv
    have hsm := hA.is.small
    have hsf := E.f.small
    rw [layF_cons] at hsz ⊢
    refine Calls.ofWP (args := [b.val, l.val, .pointer (some ⟨bn, 0, none⟩), .pointer (some ⟨bp, 0, none⟩), .pointer (some ⟨bf, 0, none⟩), .pointer (some ⟨bo, 0, none⟩), .pointer (some ⟨bl, 0, none⟩)]) Tryz.func213 rfl Tryz.ntmps213 (by kernel_rfl) (by simp) ?_
    intro e
    refine WP.seq ?_
    refine WP.region ?_
    refine Ops.go (O.box (v := .agg #[_, _, _]) I rfl rfl ?_)
    intro b7 w I
    refine Ops.nil ?_
    refine WP.seq ?_
    refine WP.seq ?_
    refine WP.region ?_
    refine Ops.y (v := .slice _ _ _) (Y.move rfl) ?_
    refine Ops.y (v := .int .i64 _) (Y.lens Tryz.underlying154 rfl) ?_
    refine Ops.y (v := .bool false) (Y.dec_f (Y.eqi rfl rfl) ((by omega))) ?_
    refine Ops.nil ?_
    refine WP.cond_f rfl ?_
    obtain ⟨h1, le1, k7, I⟩ := I.settleBox
    have E := E.le le1
    have hA := hA.le le1
    refine WP.skip ?_
    refine WP.seq ?_
    refine WP.region ?_
    refine Ops.y (v := .slice _ _ _) (Y.loadv ty_31 rfl (I.rd (E.kf.rd.part 0 1)) rfl rfl) ?_
    refine Ops.y (v := .int .i64 _) (Y.lens Tryz.underlying31 rfl) ?_
    refine Ops.y (v := .int .i64 _) (Y.move rfl) ?_
    refine Ops.nil ?_
    refine WP.block ?_
    refine WP.loopE (σ := Nat) (fun k => [(1, l.val), (2, .pointer (some ⟨bn, 0, none⟩)), (3, .pointer (some ⟨bp, 0, none⟩)), (4, .pointer (some ⟨bf, 0, none⟩)), (5, .pointer (some ⟨bo, 0, none⟩)), (6, .pointer (some ⟨bl, 0, none⟩)), (7, .pointer (some ⟨b7, 0, none⟩)), (47, f.val), (48, .int .i64 f.xs.length), (49, .int .i64 k)])
      (fun k w => k ≤ f.xs.length ∧ ∃ h2 a' c' m', h1.le h2 ∧ Inv B h2 (LayM bo a' c' m' (acc ++ outL f.xs n r ((f.xs.take k).flatMap (layN f.xs at1 ls b)))) w ∧ m' = (acc ++ outL f.xs n r ((f.xs.take k).flatMap (layN f.xs at1 ls b))).length) (fun k => f.xs.length - k)
      ⟨0, ⟨rfl, rfl, rfl, rfl, rfl, rfl, rfl, rfl, rfl, rfl, trivial⟩, Nat.zero_le _, h1, a, c, m, Heap.le.refl _, by simpa [outL_nil] using I, by simpa [outL_nil] using hm⟩ ?_
    rintro k e w ⟨hk, h2, a2, c2, m2, gl, I, hm2⟩
    have E := E.le gl
    have hA := hA.le gl
    have k7 := k7.le gl
    refine WP.seq ?_
    refine WP.region ?_
    refine Ops.y (v := .bool (decide _)) (Y.lti rfl rfl) ?_
    refine Ops.nil ?_
    refine WP.seq ?_
    refine WP.cond_dec rfl (fun h12 => ?_) (fun h12 => ?_)
    · have hk' : k < f.xs.length := by omega
      have Ef := E.f.at hk'
      have El0 := hA.is.el.el hl0
      have hat1 := hA.each _ (List.mem_of_getElem? hl0)
      have pf := okf.pf _ (List.getElem_mem hk')
      have hts := flat_take_succ (layN f.xs at1 ls b) hk'
      have htl := flat_take_le (layN f.xs at1 ls b) f.xs (k + 1)
      have hol := outL_le f.xs n r ((f.xs.take k).flatMap (layN f.xs at1 ls b))
      rw [hts, List.length_append] at htl
      refine WP.skip ?_
      refine WP.seq ?_
      refine WP.block ?_
      refine WP.seq ?_
      refine WP.region ?_
      refine Ops.y (v := .pointer (some ⟨_, _, none⟩)) (Y.idxEl Ef Tryz.underlying31 Tryz.sizeOf83 rfl rfl (Int.natCast_nonneg _) rfl) ?_
      refine Ops.y (v := .agg #[_, _, _, _]) (Y.loadv ty_83 rfl (I.rd (Ef.rd.part 0 4)) rfl rfl) ?_
      refine Ops.go (O.alloc I Tryz.zeroValue83 rfl ?_)
      intro b14 w I
      refine Ops.go (O.store (v := .agg #[_, _, _, _]) I ty_83 0 rfl rfl rfl rfl rfl rfl (Nat.le_of_ble_eq_true rfl) rfl ?_)
      intro w I
      refine Ops.nil ?_
      refine WP.seq ?_
      refine WP.regionG mixed RBx.pre ⟨h2, none, none⟩ (J := JBx B (box b14 f.xs[k].enc 83 :: LayM bo a2 c2 m2 (acc ++ outL f.xs n r ((f.xs.take k).flatMap (layN f.xs at1 ls b)))) 239 [.int .i64 0, .int .i64 0, .int .i64 0] (wcF b at1 f.xs[k]).1.enc 9 99 10) ⟨rfl, rfl, fun h => (by cases h), I.drew⟩ 11 (by kernel_rfl) ?_
      refine OpsG.y_ (v := .agg #[_, _, _]) (fun _ => runsG_none _) RBx.pre (JBx.set (by decide)) (fun _ s w us hl hj => have I := hj.base; have hl := hl.h; Y.loadv ty_239 rfl (I.rd ((k7.rd.part 0 3).le hl)) rfl rfl) ?_
      refine OpsG.y_ (v := .slice _ _ _) (fun _ => runsG_none _) RBx.pre (JBx.set (by decide)) (fun _ s w us hl hj => have I := hj.base; have hl := hl.h; Y.move rfl) ?_
      refine OpsG.y_ (v := .pointer (some ⟨_, _, none⟩)) (fun _ => runsG_none _) RBx.pre (JBx.set (by decide)) (fun _ s w us hl hj => have I := hj.base; have hl := hl.h; Y.idxEl El0 Tryz.underlying154 Tryz.sizeOf61 rfl rfl (by decide) rfl) ?_
      refine OpsG.y_ (v := .agg #[_, _]) (fun _ => runsG_none _) RBx.pre (JBx.set (by decide)) (fun _ s w us hl hj => have I := hj.base; have hl := hl.h; Y.loadv ty_61 rfl (I.rd ((El0.rd.part 0 2).le hl)) rfl rfl) ?_
      refine OpsG.y_ (v := .agg #[_, _, _, _]) (fun _ => runsG_none _) RBx.pre (JBx.set (by decide)) (fun _ s w us hl hj => have I := hj.base; have hl := hl.h; Y.loadv ty_83 rfl (I.rdbox 0 rfl 0 4) rfl rfl) ?_
      refine OpsG.c_ (by decide) (fun _ s w us hl hj => have I := hj.inv; have hl := hl.h; O.callv I Tryz.call214 (with_ok _ I.base_ok b at1 (hat1.le hl) f.xs[k] aok.len hav) rfl (fun w' I' => ⟨rfl, ⟨hj.h7, hj.h8, hj.ord, I'⟩⟩)) ?_
      refine OpsG.y_ (v := .tuple #[_, _]) (fun _ => runsG_none _) RBx.pre (JBx.set (by decide)) (fun _ s w us hl hj => have I := hj.base; have hl := hl.h; Y.move rfl) ?_
      refine OpsG.y_ (v := .agg #[_, _, _]) (fun _ => runsG_none _) RBx.pre (JBx.set (by decide)) (fun _ s w us hl hj => have I := hj.base; have hl := hl.h; Y.extract rfl rfl) ?_
      refine OpsG.y_ (v := .bool _) (fun _ => runsG_none _) RBx.pre (JBx.set (by decide)) (fun _ s w us hl hj => have I := hj.base; have hl := hl.h; Y.extract rfl rfl) ?_
      refine OpsG.make7 Tryz.zeroValue239 rfl (by decide) (by decide) ?_
      refine OpsG.store7 ty_239 rfl rfl (fun s => by intro u15 q15; exact ⟨q15 rfl, rfl⟩) rfl rfl (by decide) (by decide) ?_
      refine OpsG.nil ?_
      intro D s w hD hl hj u15 q15
      obtain ⟨b15, rfl, h15⟩ := q15 rfl
      have I := hj.inv
      rw [h15, hD 10 (by omega)] at I
      have hl := hl.h
      refine Ops.y (v := .bool _) (Y.assign rfl) ?_
      refine Ops.nil ?_
      generalize s.o8 = o8 at I
      generalize s.h = h3 at I hl
      have I : Inv B h3 (box b15 (wcF b at1 f.xs[k]).1.enc 239 :: box b14 f.xs[k].enc 83 :: LayM bo a2 c2 m2 (acc ++ outL f.xs n r ((f.xs.take k).flatMap (layN f.xs at1 ls b)))) w := by
        cases o8 with
        | none => exact I
        | some b8 => exact I.weak (List.Sublist.cons_cons _ (List.sublist_cons_self _ _))
      have E := E.le hl
      have hA := hA.le hl
      refine WP.seq ?_
      refine WP.region ?_
      refine Ops.y (v := .bool _) (Y.move rfl) ?_
      refine Ops.nil ?_
      cases hw : (wcF b at1 f.xs[k]).2
      · refine WP.cond_f rfl ?_
        refine WP.skip ?_
        refine WP.region ?_
        refine Ops.y (v := .int .i64 _) (Y.addi rfl rfl ⟨by omega, by omega⟩) ?_
        refine Ops.y (v := .int .i64 _) (Y.move rfl) ?_
        refine Ops.nil ?_
        refine ⟨k + 1, ⟨⟨rfl, rfl, rfl, rfl, rfl, rfl, rfl, rfl, rfl, rfl, trivial⟩, by omega, h3, a2, c2, m2, gl.trans hl, ?_, ?_⟩, by omega⟩
        · rw [hts, show layN f.xs at1 ls b f.xs[k] = [] from by unfold layN; rw [hw]; rfl, List.append_nil]; exact I.drop.drop
        · rw [hts, show layN f.xs at1 ls b f.xs[k] = [] from by unfold layN; rw [hw]; rfl, List.append_nil]; exact hm2
      · have hN : layN f.xs at1 ls b f.xs[k] = layF f.xs ls (wcF b at1 f.xs[k]).1 := by unfold layN; rw [hw]; rfl
        rw [hN] at htl hts
        have hcut : (l.cut 2 1 l.xs.length).xs = ls := by simp only [Sl.cut, List.take_length, hls0, List.drop_succ_cons, List.drop_zero]
        have hAc : AtS (l.cut 2 1 l.xs.length) h3 := ⟨hA.is.cut hA.cap, by simp only [Sl.cut, List.length_drop, List.length_take]; have := hA.cap; omega, fun x hx => hA.each x (List.mem_of_mem_take (List.mem_of_mem_drop hx))⟩
        have gl3 := gl.trans hl
        refine WP.cond_t rfl ?_
        refine WP.regionF mixed I 4 (by kernel_rfl) ?_
        refine OpsF.y_ (v := .func _ _ _) (fun _ => runs_none _) (fun _ w us hl I => Y.loadv ty_238 rfl (I.rd ((E.kl.rd.part 0 1).le hl)) rfl rfl) ?_
        refine OpsF.y_ (v := .agg #[_, _, _]) (fun _ => runs_none _) (fun _ w us hl I => Y.loadv ty_239 rfl (I.rdbox 0 rfl 0 3) rfl rfl) ?_
        refine OpsF.y_ (v := .slice _ _ _) (fun _ => runs_none _) (fun _ w us hl I => Y.move rfl) ?_
        refine OpsF.y_ (v := .slice _ _ _) (fun _ => runs_none _) (fun _ w us hl I => Y.cut (l := 1) (h := l.xs.length) Tryz.underlying154 Tryz.sizeOf61 (hA.is.at (i := 0) (by omega)).at_ hA.cap rfl (.inr ⟨_, _, rfl, rfl⟩) (.inl ⟨rfl, rfl⟩) (by omega) (Nat.le_refl _)) ?_
        refine OpsF.nil ?_
        intro _ w hl I
        try unfold AllL
        have I := I.drop.drop
        refine Ops.go (O.callcs Tryz.call213 (fs := []) (cs := [.pointer (some ⟨bn, 0, none⟩), .pointer (some ⟨bp, 0, none⟩), .pointer (some ⟨bf, 0, none⟩), .pointer (some ⟨bo, 0, none⟩), .pointer (some ⟨bl, 0, none⟩)]) rfl (lay_ok p f n r bn bp bf bo bl h0 hr ok okf ls (l.cut 2 1 l.xs.length) (wcF b at1 f.xs[k]).1 a2 c2 m2 _ hcut I hm2 (E.le (by assumption)) (hAc.le (by assumption)) (fun x hx => hin x (List.mem_cons_of_mem _ hx)) (wc_bok hat hav pf hb hw) (by rw [hm2, List.length_append]; omega)) rfl ?_)
        rintro ed w ⟨rfl, h5, a5, c5, m5, le5, I, hm5⟩
        refine ⟨_, rfl, ?_⟩
        refine Ops.nil ?_
        refine WP.region ?_
        refine Ops.y (v := .int .i64 _) (Y.addi rfl rfl ⟨by omega, by omega⟩) ?_
        refine Ops.y (v := .int .i64 _) (Y.move rfl) ?_
        refine Ops.nil ?_
        refine ⟨k + 1, ⟨⟨rfl, rfl, rfl, rfl, rfl, rfl, rfl, rfl, rfl, rfl, trivial⟩, by omega, h5, a5, c5, m5, (gl3.trans hl).trans le5, ?_, ?_⟩, by omega⟩
        · rw [hts, outL_app, ← List.append_assoc]; exact I
        · rw [hts, outL_app, ← List.append_assoc]; exact hm5
    · obtain rfl : k = f.xs.length := by omega
      rw [List.take_length] at I hm2
      refine WP.exit ?_
      exact ⟨.inr rfl, [], trivial, rfl, h2, a2, c2, m2, le1.trans gl, I, hm2⟩
end Go.TF
end
section
/- The laying of slices.SortFunc at this program, made by the kit's own tool. -/
namespace Go.Proofs
open Go.Shelf
def Tryz.sortStp_ren : Go.Shelf.Ren := ⟨fun | 6 => 215 | 15 => 234 | 14 => 233 | 28 => 251 | 29 => 203 | 20 => 243 | 21 => 244 | 22 => 245 | 23 => 246 | 24 => 247 | 25 => 248 | 26 => 249 | 27 => 250 | 46 => 253 | 47 => 254 | 48 => 255 | 49 => 256 | 50 => 257 | 57 => 258 | n => n, fun | 22 => 129 | 24 => 169 | 25 => 244 | 3 => 3 | 39 => 210 | 0 => 0 | 53 => 227 | 55 => 199 | 4 => 4 | 46 => 276 | 45 => 275 | 50 => 182 | 5 => 5 | 9 => 9 | 66 => 282 | 70 => 286 | 76 => 288 | 77 => 289 | n => n, fun | n => n⟩
theorem Tryz.sortStp : Go.Proofs.SlLaysF0.n6 Tryz.prog Tryz.sortStp_ren := {
  mixed := by kernel_rfl
  f6 := ⟨Tryz.f215.name, by decide, Tryz.func215.trans (congrArg some (by kernel_rfl))⟩
  f14 := ⟨Tryz.f233.name, by decide, Tryz.func233.trans (congrArg some (by kernel_rfl))⟩
  f15 := Tryz.func234.trans (congrArg some (by kernel_rfl))
  f20 := ⟨Tryz.f243.name, by decide, Tryz.func243.trans (congrArg some (by kernel_rfl))⟩
  f21 := ⟨Tryz.f244.name, by decide, Tryz.func244.trans (congrArg some (by kernel_rfl))⟩
  f22 := ⟨Tryz.f245.name, by decide, Tryz.func245.trans (congrArg some (by kernel_rfl))⟩
  f23 := ⟨Tryz.f246.name, by decide, Tryz.func246.trans (congrArg some (by kernel_rfl))⟩
  f24 := ⟨Tryz.f247.name, by decide, Tryz.func247.trans (congrArg some (by kernel_rfl))⟩
  f25 := ⟨Tryz.f248.name, by decide, Tryz.func248.trans (congrArg some (by kernel_rfl))⟩
  f26 := ⟨Tryz.f249.name, by decide, Tryz.func249.trans (congrArg some (by kernel_rfl))⟩
  f27 := ⟨Tryz.f250.name, by decide, Tryz.func250.trans (congrArg some (by kernel_rfl))⟩
  f28 := Tryz.func251.trans (congrArg some (by kernel_rfl))
  f29 := Tryz.func203.trans (congrArg some (by kernel_rfl))
  f46 := ⟨Tryz.f253.name, by decide, Tryz.func253.trans (congrArg some (by kernel_rfl))⟩
  f47 := Tryz.func254.trans (congrArg some (by kernel_rfl))
  f48 := Tryz.func255.trans (congrArg some (by kernel_rfl))
  f49 := ⟨Tryz.f256.name, by decide, Tryz.func256.trans (congrArg some (by kernel_rfl))⟩
  f50 := ⟨Tryz.f257.name, by decide, Tryz.func257.trans (congrArg some (by kernel_rfl))⟩
  f57 := ⟨Tryz.f258.name, by decide, Tryz.func258.trans (congrArg some (by kernel_rfl))⟩
  t0 := Tryz.underlying0
  a0 := Tryz.isAgg0
  z0 := Tryz.sizeOf0
  v0 := Tryz.zeroValue0
  t3 := Tryz.underlying3
  a3 := Tryz.isAgg3
  z3 := Tryz.sizeOf3
  v3 := Tryz.zeroValue3
  t4 := Tryz.underlying4
  a4 := Tryz.isAgg4
  z4 := Tryz.sizeOf4
  v4 := Tryz.zeroValue4
  t5 := Tryz.underlying5
  a5 := Tryz.isAgg5
  z5 := Tryz.sizeOf5
  v5 := Tryz.zeroValue5
  t9 := Tryz.underlying9
  a9 := Tryz.isAgg9
  z9 := Tryz.sizeOf9
  v9 := Tryz.zeroValue9
  t22 := Tryz.underlying129
  a22 := Tryz.isAgg129
  z22 := Tryz.sizeOf129
  v22 := Tryz.zeroValue129
  t25 := Tryz.underlying244
  a25 := Tryz.isAgg244
  z25 := Tryz.sizeOf244
  v25 := Tryz.zeroValue244
  t39 := Tryz.underlying210
  a39 := Tryz.isAgg210
  z39 := Tryz.sizeOf210
  v39 := Tryz.zeroValue210
  t45 := Tryz.underlying275
  a45 := Tryz.isAgg275
  z45 := Tryz.sizeOf275
  v45 := Tryz.zeroValue275
  t46 := Tryz.underlying276
  a46 := Tryz.isAgg276
  z46 := Tryz.sizeOf276
  v46 := Tryz.zeroValue276
  t50 := Tryz.underlying182
  a50 := Tryz.isAgg182
  z50 := Tryz.sizeOf182
  v50 := Tryz.zeroValue182
  t53 := Tryz.underlying227
  a53 := Tryz.isAgg227
  z53 := Tryz.sizeOf227
  v53 := Tryz.zeroValue227
  t55 := Tryz.underlying199
  a55 := Tryz.isAgg199
  z55 := Tryz.sizeOf199
  v55 := Tryz.zeroValue199
  t66 := Tryz.underlying282
  a66 := Tryz.isAgg282
  z66 := Tryz.sizeOf282
  v66 := Tryz.zeroValue282
  t70 := Tryz.underlying286
  a70 := Tryz.isAgg286
  z70 := Tryz.sizeOf286
  v70 := Tryz.zeroValue286
  t76 := Tryz.underlying288
  a76 := Tryz.isAgg288
  z76 := Tryz.sizeOf288
  v76 := Tryz.zeroValue288
  t77 := Tryz.underlying289
  a77 := Tryz.isAgg289
  z77 := Tryz.sizeOf289
  v77 := Tryz.zeroValue289 }
end Go.Proofs
end
