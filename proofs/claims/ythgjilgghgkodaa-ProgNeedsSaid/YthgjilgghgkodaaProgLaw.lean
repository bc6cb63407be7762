/- The laws of programs: each returns true. -/
import Derived.Test.YthgjilgghgkodaaProg10
import Derived.Test.YthgjilgghgkodaaOpen
namespace Go.TF
open Go Go.RowKit Go.Proofs
set_option maxRecDepth 20000

theorem PrgOk.nm {p : Prg} {h : Heap} (x : PrgOk p h) : p.Nm := fun y hy => by
  have := (x.preds.each y hy).name
  have h2 : reachBytes ≤ 140737488355328 := by decide
  omega
set_option maxHeartbeats 1000000 in
theorem ProgChecks_ok (B : Base) (hB : B.ok) (p : Prg) (hp : p.In B.h) (hnm : p.Nm) (s : ByteArray) (hs : s.size ≤ 140737488355328) : Fn Try.prog 9 [p.val, .string s] B (fun v _ => v = .bool true) := by
  refine Fn.of Try.func9 rfl Try.ntmps9 (by kernel_rfl) (by simp) ?_
  intro e
  have I := Inv.start hB
  refine WP.seq ?_
  refine WP.region ?_
  refine Ops.go (O.box (v := .agg #[_, _]) I rfl rfl ?_)
  intro b2 w I
  refine Ops.y (v := .bool _) (Y.assign rfl) ?_
  refine Ops.nil ?_
  refine WP.seq ?_
  refine WP.regionQ mixed I (by kernel_rfl) ?_
  refine OpsQ.c (fun w I => QC.callv I Try.call32 (progBegun_ok _ I.base_ok) rfl) ?_
  refine OpsQ.y (v := .bool _) (fun w I => Y.move rfl) ?_
  refine OpsQ.ygt rfl (v := .agg #[_, _]) (fun w I => Y.loadv ty_54 rfl (I.rdbox 0 rfl 0 2) rfl rfl) ?_
  refine OpsQ.cgt rfl (fun w I => QC.callv I Try.call33 (PCheck_ok _ I.base_ok p hp hnm) rfl) ?_
  refine OpsQ.ygt rfl (v := .agg #[_, _]) (fun w I => Y.loadv ty_54 rfl (I.rdbox 0 rfl 0 2) rfl rfl) ?_
  refine OpsQ.cgt rfl (fun w I => QC.callv I Try.call34 (CheckProg_ok _ I.base_ok p hp hnm) rfl) ?_
  refine OpsQ.ygt rfl (v := .bool true) (fun w I => Y.dec_t (Y.eqi rfl rfl) (rfl)) ?_
  refine OpsQ.y (v := .bool _) (fun w I => Y.pick_t rfl rfl) ?_
  refine OpsQ.y (v := .bool _) (fun w I => Y.move rfl) ?_
  refine OpsQ.ygt rfl (v := .string _) (fun w I => Y.move rfl) ?_
  refine OpsQ.cgt rfl (fun w I => QC.callv I Try.call35 (Name_ok _ I.base_ok s hs) rfl) ?_
  refine OpsQ.ygt rfl (v := .string _) (fun w I => Y.move rfl) ?_
  refine OpsQ.cgt rfl (fun w I => QC.callv I Try.call36 (IsName_ok _ I.base_ok s hs) rfl) ?_
  refine OpsQ.ygt rfl (v := .bool true) (fun w I => Y.dec_t (Y.eqb Try.underlying4 rfl rfl) (rfl)) ?_
  refine OpsQ.y (v := .bool _) (fun w I => Y.pick_t rfl rfl) ?_
  refine OpsQ.y (v := .bool _) (fun w I => Y.assign rfl) ?_
  refine OpsQ.nil ?_
  intro w I
  refine WP.ret ?_
  repeat (first | refine thenE_ret ?_ | refine blockE_ret ?_)
  exact retQ.mk (vs := [.bool _]) rfl ⟨rfl, trivial⟩ I.ext_of (rfl)
set_option maxHeartbeats 4000000 in
theorem ProgStrata_ok (B : Base) (hB : B.ok) (p : Prg) (hp : p.In B.h) (hnm : p.Nm) (pr : Int) : Fn Try.prog 10 [p.val, .int .i64 pr] B (fun v _ => v = .bool true) := by
  by_cases hc : checkProg p = 0
  · obtain ⟨k1, k2, k3, M, hM⟩ := checkProg_ok hc
    refine Fn.of Try.func10 rfl Try.ntmps10 (by kernel_rfl) (by simp) ?_
    intro e
    have I := Inv.start hB
    refine WP.seq ?_
    refine WP.region ?_
    refine Ops.go (O.box (v := .agg #[_, _]) I rfl rfl ?_)
    intro b2 w I
    refine Ops.y (v := .bool _) (Y.assign rfl) ?_
    refine Ops.nil ?_
    refine WP.seq ?_
    refine WP.region ?_
    refine Ops.y (v := .agg #[_, _]) (Y.loadv ty_54 rfl (I.rdbox 0 rfl 0 2) rfl rfl) ?_
    refine Ops.go (O.call I Try.call37 (Strata_ok _ I.base_ok p hp hnm) rfl ?_)
    rintro v15 h15 w I le15 hS
    rcases hS with ⟨hx, _⟩ | ⟨_, s, hl, hs, rfl⟩
    exact absurd hc hx
    refine Ops.y (v := .tuple #[_, _]) (Y.move rfl) ?_
    refine Ops.y (v := .slice _ _ _) (Y.extract rfl rfl) ?_
    refine Ops.y (v := .int .i64 _) (Y.extract rfl rfl) ?_
    refine Ops.y (v := .slice _ _ _) (Y.assign rfl) ?_
    refine Ops.y (v := .int .i64 _) (Y.assign rfl) ?_
    refine Ops.nil ?_
    by_cases hr : 0 ≤ pr ∧ pr < p.preds.xs.length
    · refine WP.seq ?_
      refine WP.region ?_
      refine Ops.y (v := .agg #[_, _]) (Y.loadv ty_54 rfl (I.rdbox 0 rfl 0 2) rfl rfl) ?_
      refine Ops.y (v := .int .i64 _) (Y.move rfl) ?_
      refine Ops.go (O.call I Try.call38 (Needs_ok _ I.base_ok p (hp.le le15) hnm pr) rfl ?_)
      rintro v21 h21 w I le21 hN
      rcases hN with ⟨hx, _⟩ | ⟨_, hx, _⟩ | ⟨_, _, n, hn, hni, rfl⟩
      exact absurd hc hx
      omega
      refine Ops.y (v := .tuple #[_, _]) (Y.move rfl) ?_
      refine Ops.y (v := .slice _ _ _) (Y.extract rfl rfl) ?_
      refine Ops.y (v := .int .i64 _) (Y.extract rfl rfl) ?_
      refine Ops.y (v := .slice _ _ _) (Y.assign rfl) ?_
      refine Ops.y (v := .int .i64 _) (Y.assign rfl) ?_
      refine Ops.nil ?_
      refine WP.seq ?_
      refine WP.region ?_
      refine Ops.y (v := .agg #[_, _]) (Y.loadv ty_54 rfl (I.rdbox 0 rfl 0 2) rfl rfl) ?_
      refine Ops.go (O.callv I Try.call34 (CheckProg_ok _ I.base_ok p ((hp.le le15).le le21) hnm) rfl ?_)
      intro w I
      refine Ops.y (v := .int .i64 _) (Y.assign rfl) ?_
      refine Ops.nil ?_
      refine WP.seq ?_
      refine WP.region ?_
      refine Ops.y (v := .int .i64 _) (Y.move rfl) ?_
      refine Ops.y (v := .int .i64 _) (Y.assign rfl) ?_
      refine Ops.nil ?_
      refine WP.seq ?_
      refine WP.region ?_
      refine Ops.y (v := .slice _ _ _) (Y.assign rfl) ?_
      refine Ops.nil ?_
      refine WP.seq ?_
      refine WP.seq ?_
      refine WP.region ?_
      refine Ops.y (v := .int .i64 _) (Y.move rfl) ?_
      refine Ops.y (v := .bool (decide _)) (Y.eqi rfl rfl) ?_
      refine Ops.nil ?_
      refine WP.cond_decT rfl (hc) ?_
      refine WP.seq ?_
      refine WP.region ?_
      refine Ops.y (v := .agg #[_, _]) (Y.loadv ty_54 rfl (I.rdbox 0 rfl 0 2) rfl rfl) ?_
      refine Ops.go (O.call I Try.call39 (StrataOf_ok _ I.base_ok p ((hp.le le15).le le21) hc) rfl ?_)
      rintro v30 h30 w I le30 ⟨s', hl', hs', rfl⟩
      refine Ops.y (v := .slice _ _ _) (Y.assign rfl) ?_
      refine Ops.nil ?_
      have es : s.xs = s'.xs := Option.some.inj (StrataR.uniq (r := some s.xs) (r' := some s'.xs) hl hl')
      refine WP.seq ?_
      refine WP.region ?_
      refine Ops.y (v := .int .i64 _) (Y.move rfl) ?_
      refine Ops.y (v := .bool false) (Y.dec_f (Y.lti rfl rfl) ((by omega))) ?_
      refine Ops.y (v := .bool _) (Y.move rfl) ?_
      refine Ops.ygt rfl (v := .int .i64 _) (Y.move rfl) ?_
      refine Ops.ygt rfl (v := .pointer (some ⟨_, _, none⟩)) (Y.fa0 fa_54_0 rfl) ?_
      refine Ops.ygt rfl (v := .slice _ _ _) (Y.loadv ty_32 rfl (I.rdbox 0 rfl 0 1) rfl rfl) ?_
      refine Ops.ygt rfl (v := .int .i64 _) (Y.lens Try.underlying32 rfl) ?_
      refine Ops.ygt rfl (v := .bool false) (Y.dec_f (Y.gei rfl rfl) ((by omega))) ?_
      refine Ops.y (v := .bool _) (Y.pick_f rfl rfl) ?_
      refine Ops.nil ?_
      refine WP.cond_f rfl ?_
      refine WP.skip ?_
      refine WP.seq ?_
      refine WP.region ?_
      refine Ops.y (v := .slice _ _ _) (Y.assign rfl) ?_
      refine Ops.nil ?_
      refine WP.seq ?_
      refine WP.seq ?_
      refine WP.region ?_
      refine Ops.y (v := .int .i64 _) (Y.move rfl) ?_
      refine Ops.y (v := .bool (decide _)) (Y.eqi rfl rfl) ?_
      refine Ops.nil ?_
      refine WP.cond_decT rfl (hc) ?_
      refine WP.region ?_
      refine Ops.y (v := .agg #[_, _]) (Y.loadv ty_54 rfl (I.rdbox 0 rfl 0 2) rfl rfl) ?_
      refine Ops.y (v := .int .i64 _) (Y.move rfl) ?_
      refine Ops.go (O.call I Try.call40 (NeedsOf_ok _ I.base_ok p (((hp.le le15).le le21).le le30) pr hc hr.1 hr.2) rfl ?_)
      rintro v44 h44 w I le44 ⟨n', hn', hni', rfl⟩
      refine Ops.y (v := .slice _ _ _) (Y.assign rfl) ?_
      refine Ops.nil ?_
      have en : n.xs = n'.xs := hn.uniq hn'
      refine WP.seq ?_
      refine WP.region ?_
      refine Ops.go (O.callv I Try.call32 (progBegun_ok _ I.base_ok) rfl ?_)
      intro w I
      refine Ops.y (v := .bool _) (Y.move rfl) ?_
      refine Ops.ygt rfl (v := .slice _ _ _) (Y.move rfl) ?_
      refine Ops.ygt rfl (v := .slice _ _ _) (Y.move rfl) ?_
      refine Ops.gt rfl (O.callv I Try.call41 (SameInts_ok _ I.base_ok s s' (hs.le ((le21.trans le30).trans le44)) (hs'.le le44)) rfl ?_)
      intro w I
      refine Ops.y (v := .bool _) (Y.pick_t rfl rfl) ?_
      refine Ops.y (v := .bool true) (Y.b (Y.move rfl) ((decide_eq_true es))) ?_
      refine Ops.ygt rfl (v := .int .i64 _) (Y.move rfl) ?_
      refine Ops.ygt rfl (v := .int .i64 _) (Y.move rfl) ?_
      refine Ops.ygt rfl (v := .bool true) (Y.dec_t (Y.eqi rfl rfl) (hc.symm)) ?_
      refine Ops.y (v := .bool _) (Y.pick_t rfl rfl) ?_
      refine Ops.y (v := .bool _) (Y.move rfl) ?_
      refine Ops.ygt rfl (v := .slice _ _ _) (Y.move rfl) ?_
      refine Ops.ygt rfl (v := .slice _ _ _) (Y.move rfl) ?_
      refine Ops.gt rfl (O.callv I Try.call42 (SameBools_ok _ I.base_ok n n' (hni.le (le30.trans le44)) hni') rfl ?_)
      intro w I
      refine Ops.y (v := .bool _) (Y.pick_t rfl rfl) ?_
      refine Ops.y (v := .bool true) (Y.b (Y.move rfl) ((decide_eq_true en))) ?_
      refine Ops.ygt rfl (v := .int .i64 _) (Y.move rfl) ?_
      refine Ops.ygt rfl (v := .int .i64 _) (Y.move rfl) ?_
      refine Ops.ygt rfl (v := .bool true) (Y.dec_t (Y.eqi rfl rfl) (hc.symm)) ?_
      refine Ops.y (v := .bool _) (Y.pick_t rfl rfl) ?_
      refine Ops.y (v := .bool _) (Y.assign rfl) ?_
      refine Ops.nil ?_
      refine WP.ret ?_
      repeat (first | refine thenE_ret ?_ | refine blockE_ret ?_)
      exact retQ.mk (vs := [.bool _]) rfl ⟨rfl, trivial⟩ I.ext_of (rfl)
    · refine WP.seq ?_
      refine WP.region ?_
      refine Ops.y (v := .agg #[_, _]) (Y.loadv ty_54 rfl (I.rdbox 0 rfl 0 2) rfl rfl) ?_
      refine Ops.y (v := .int .i64 _) (Y.move rfl) ?_
      refine Ops.go (O.call I Try.call38 (Needs_ok _ I.base_ok p (hp.le le15) hnm pr) rfl ?_)
      rintro v21 h21 w I le21 hN
      rcases hN with ⟨hx, _⟩ | ⟨_, _, rfl⟩ | ⟨_, hx, _⟩
      exact absurd hc hx
      rotate_left
      exact absurd hx hr
      refine Ops.y (v := .tuple #[_, _]) (Y.move rfl) ?_
      refine Ops.y (v := .slice _ _ _) (Y.extract rfl rfl) ?_
      refine Ops.y (v := .int .i64 _) (Y.extract rfl rfl) ?_
      refine Ops.y (v := .slice _ _ _) (Y.assign rfl) ?_
      refine Ops.y (v := .int .i64 _) (Y.assign rfl) ?_
      refine Ops.nil ?_
      refine WP.seq ?_
      refine WP.region ?_
      refine Ops.y (v := .agg #[_, _]) (Y.loadv ty_54 rfl (I.rdbox 0 rfl 0 2) rfl rfl) ?_
      refine Ops.go (O.callv I Try.call34 (CheckProg_ok _ I.base_ok p ((hp.le le15).le le21) hnm) rfl ?_)
      intro w I
      refine Ops.y (v := .int .i64 _) (Y.assign rfl) ?_
      refine Ops.nil ?_
      refine WP.seq ?_
      refine WP.region ?_
      refine Ops.y (v := .int .i64 _) (Y.move rfl) ?_
      refine Ops.y (v := .int .i64 _) (Y.assign rfl) ?_
      refine Ops.nil ?_
      refine WP.seq ?_
      refine WP.region ?_
      refine Ops.y (v := .slice _ _ _) (Y.assign rfl) ?_
      refine Ops.nil ?_
      refine WP.seq ?_
      refine WP.seq ?_
      refine WP.region ?_
      refine Ops.y (v := .int .i64 _) (Y.move rfl) ?_
      refine Ops.y (v := .bool (decide _)) (Y.eqi rfl rfl) ?_
      refine Ops.nil ?_
      refine WP.cond_decT rfl (hc) ?_
      refine WP.seq ?_
      refine WP.region ?_
      refine Ops.y (v := .agg #[_, _]) (Y.loadv ty_54 rfl (I.rdbox 0 rfl 0 2) rfl rfl) ?_
      refine Ops.go (O.call I Try.call39 (StrataOf_ok _ I.base_ok p ((hp.le le15).le le21) hc) rfl ?_)
      rintro v30 h30 w I le30 ⟨s', hl', hs', rfl⟩
      refine Ops.y (v := .slice _ _ _) (Y.assign rfl) ?_
      refine Ops.nil ?_
      have es : s.xs = s'.xs := Option.some.inj (StrataR.uniq (r := some s.xs) (r' := some s'.xs) hl hl')
      by_cases hlt : pr < 0
      · refine WP.seq ?_
        refine WP.region ?_
        refine Ops.y (v := .int .i64 _) (Y.move rfl) ?_
        refine Ops.y (v := .bool true) (Y.dec_t (Y.lti rfl rfl) (hlt)) ?_
        refine Ops.y (v := .bool _) (Y.move rfl) ?_
        refine Ops.gf rfl ?_
        refine Ops.gf rfl ?_
        refine Ops.gf rfl ?_
        refine Ops.gf rfl ?_
        refine Ops.gf rfl ?_
        refine Ops.y (v := .bool _) (Y.pick_t rfl rfl) ?_
        refine Ops.nil ?_
        refine WP.cond_t rfl ?_
        refine WP.region ?_
        refine Ops.y (v := .int .i64 _) (Y.assign rfl) ?_
        refine Ops.nil ?_
        refine WP.seq ?_
        refine WP.region ?_
        refine Ops.y (v := .slice _ _ _) (Y.assign rfl) ?_
        refine Ops.nil ?_
        refine WP.seq ?_
        refine WP.seq ?_
        refine WP.region ?_
        refine Ops.y (v := .int .i64 _) (Y.move rfl) ?_
        refine Ops.y (v := .bool (decide _)) (Y.eqi rfl rfl) ?_
        refine Ops.nil ?_
        refine WP.cond_decF rfl ((by decide)) ?_
        refine WP.skip ?_
        refine WP.seq ?_
        refine WP.region ?_
        refine Ops.go (O.callv I Try.call32 (progBegun_ok _ I.base_ok) rfl ?_)
        intro w I
        refine Ops.y (v := .bool _) (Y.move rfl) ?_
        refine Ops.ygt rfl (v := .slice _ _ _) (Y.move rfl) ?_
        refine Ops.ygt rfl (v := .slice _ _ _) (Y.move rfl) ?_
        refine Ops.gt rfl (O.callv I Try.call41 (SameInts_ok _ I.base_ok s s' (hs.le (le21.trans le30)) hs') rfl ?_)
        intro w I
        refine Ops.y (v := .bool _) (Y.pick_t rfl rfl) ?_
        refine Ops.y (v := .bool true) (Y.b (Y.move rfl) ((decide_eq_true es))) ?_
        refine Ops.ygt rfl (v := .int .i64 _) (Y.move rfl) ?_
        refine Ops.ygt rfl (v := .int .i64 _) (Y.move rfl) ?_
        refine Ops.ygt rfl (v := .bool true) (Y.dec_t (Y.eqi rfl rfl) (hc.symm)) ?_
        refine Ops.y (v := .bool _) (Y.pick_t rfl rfl) ?_
        refine Ops.y (v := .bool _) (Y.move rfl) ?_
        refine Ops.ygt rfl (v := .slice _ _ _) (Y.move rfl) ?_
        refine Ops.ygt rfl (v := .slice _ _ _) (Y.move rfl) ?_
        refine Ops.gt rfl (O.callv I Try.call42 (SameBools_ok _ I.base_ok ⟨none, 0, []⟩ ⟨none, 0, []⟩ nilIs nilIs) rfl ?_)
        intro w I
        refine Ops.y (v := .bool _) (Y.pick_t rfl rfl) ?_
        refine Ops.y (v := .bool true) (Y.b (Y.move rfl) ((by rfl))) ?_
        refine Ops.ygt rfl (v := .int .i64 _) (Y.move rfl) ?_
        refine Ops.ygt rfl (v := .int .i64 _) (Y.move rfl) ?_
        refine Ops.ygt rfl (v := .bool true) (Y.dec_t (Y.eqi rfl rfl) (rfl)) ?_
        refine Ops.y (v := .bool _) (Y.pick_t rfl rfl) ?_
        refine Ops.y (v := .bool _) (Y.assign rfl) ?_
        refine Ops.nil ?_
        refine WP.ret ?_
        repeat (first | refine thenE_ret ?_ | refine blockE_ret ?_)
        exact retQ.mk (vs := [.bool _]) rfl ⟨rfl, trivial⟩ I.ext_of (rfl)
      · refine WP.seq ?_
        refine WP.region ?_
        refine Ops.y (v := .int .i64 _) (Y.move rfl) ?_
        refine Ops.y (v := .bool false) (Y.dec_f (Y.lti rfl rfl) (hlt)) ?_
        refine Ops.y (v := .bool _) (Y.move rfl) ?_
        refine Ops.ygt rfl (v := .int .i64 _) (Y.move rfl) ?_
        refine Ops.ygt rfl (v := .pointer (some ⟨_, _, none⟩)) (Y.fa0 fa_54_0 rfl) ?_
        refine Ops.ygt rfl (v := .slice _ _ _) (Y.loadv ty_32 rfl (I.rdbox 0 rfl 0 1) rfl rfl) ?_
        refine Ops.ygt rfl (v := .int .i64 _) (Y.lens Try.underlying32 rfl) ?_
        refine Ops.ygt rfl (v := .bool true) (Y.dec_t (Y.gei rfl rfl) ((by omega))) ?_
        refine Ops.y (v := .bool _) (Y.pick_f rfl rfl) ?_
        refine Ops.nil ?_
        refine WP.cond_t rfl ?_
        refine WP.region ?_
        refine Ops.y (v := .int .i64 _) (Y.assign rfl) ?_
        refine Ops.nil ?_
        refine WP.seq ?_
        refine WP.region ?_
        refine Ops.y (v := .slice _ _ _) (Y.assign rfl) ?_
        refine Ops.nil ?_
        refine WP.seq ?_
        refine WP.seq ?_
        refine WP.region ?_
        refine Ops.y (v := .int .i64 _) (Y.move rfl) ?_
        refine Ops.y (v := .bool (decide _)) (Y.eqi rfl rfl) ?_
        refine Ops.nil ?_
        refine WP.cond_decF rfl ((by decide)) ?_
        refine WP.skip ?_
        refine WP.seq ?_
        refine WP.region ?_
        refine Ops.go (O.callv I Try.call32 (progBegun_ok _ I.base_ok) rfl ?_)
        intro w I
        refine Ops.y (v := .bool _) (Y.move rfl) ?_
        refine Ops.ygt rfl (v := .slice _ _ _) (Y.move rfl) ?_
        refine Ops.ygt rfl (v := .slice _ _ _) (Y.move rfl) ?_
        refine Ops.gt rfl (O.callv I Try.call41 (SameInts_ok _ I.base_ok s s' (hs.le (le21.trans le30)) hs') rfl ?_)
        intro w I
        refine Ops.y (v := .bool _) (Y.pick_t rfl rfl) ?_
        refine Ops.y (v := .bool true) (Y.b (Y.move rfl) ((decide_eq_true es))) ?_
        refine Ops.ygt rfl (v := .int .i64 _) (Y.move rfl) ?_
        refine Ops.ygt rfl (v := .int .i64 _) (Y.move rfl) ?_
        refine Ops.ygt rfl (v := .bool true) (Y.dec_t (Y.eqi rfl rfl) (hc.symm)) ?_
        refine Ops.y (v := .bool _) (Y.pick_t rfl rfl) ?_
        refine Ops.y (v := .bool _) (Y.move rfl) ?_
        refine Ops.ygt rfl (v := .slice _ _ _) (Y.move rfl) ?_
        refine Ops.ygt rfl (v := .slice _ _ _) (Y.move rfl) ?_
        refine Ops.gt rfl (O.callv I Try.call42 (SameBools_ok _ I.base_ok ⟨none, 0, []⟩ ⟨none, 0, []⟩ nilIs nilIs) rfl ?_)
        intro w I
        refine Ops.y (v := .bool _) (Y.pick_t rfl rfl) ?_
        refine Ops.y (v := .bool true) (Y.b (Y.move rfl) ((by rfl))) ?_
        refine Ops.ygt rfl (v := .int .i64 _) (Y.move rfl) ?_
        refine Ops.ygt rfl (v := .int .i64 _) (Y.move rfl) ?_
        refine Ops.ygt rfl (v := .bool true) (Y.dec_t (Y.eqi rfl rfl) (rfl)) ?_
        refine Ops.y (v := .bool _) (Y.pick_t rfl rfl) ?_
        refine Ops.y (v := .bool _) (Y.assign rfl) ?_
        refine Ops.nil ?_
        refine WP.ret ?_
        repeat (first | refine thenE_ret ?_ | refine blockE_ret ?_)
        exact retQ.mk (vs := [.bool _]) rfl ⟨rfl, trivial⟩ I.ext_of (rfl)
  · refine Fn.of Try.func10 rfl Try.ntmps10 (by kernel_rfl) (by simp) ?_
    intro e
    have I := Inv.start hB
    refine WP.seq ?_
    refine WP.region ?_
    refine Ops.go (O.box (v := .agg #[_, _]) I rfl rfl ?_)
    intro b2 w I
    refine Ops.y (v := .bool _) (Y.assign rfl) ?_
    refine Ops.nil ?_
    refine WP.seq ?_
    refine WP.region ?_
    refine Ops.y (v := .agg #[_, _]) (Y.loadv ty_54 rfl (I.rdbox 0 rfl 0 2) rfl rfl) ?_
    refine Ops.go (O.call I Try.call37 (Strata_ok _ I.base_ok p hp hnm) rfl ?_)
    rintro v15 h15 w I le15 hS
    rcases hS with ⟨_, rfl⟩ | ⟨hx, _⟩
    rotate_left
    exact absurd hx hc
    refine Ops.y (v := .tuple #[_, _]) (Y.move rfl) ?_
    refine Ops.y (v := .slice _ _ _) (Y.extract rfl rfl) ?_
    refine Ops.y (v := .int .i64 _) (Y.extract rfl rfl) ?_
    refine Ops.y (v := .slice _ _ _) (Y.assign rfl) ?_
    refine Ops.y (v := .int .i64 _) (Y.assign rfl) ?_
    refine Ops.nil ?_
    refine WP.seq ?_
    refine WP.region ?_
    refine Ops.y (v := .agg #[_, _]) (Y.loadv ty_54 rfl (I.rdbox 0 rfl 0 2) rfl rfl) ?_
    refine Ops.y (v := .int .i64 _) (Y.move rfl) ?_
    refine Ops.go (O.call I Try.call38 (Needs_ok _ I.base_ok p (hp.le le15) hnm pr) rfl ?_)
    rintro v21 h21 w I le21 hN
    rcases hN with ⟨_, rfl⟩ | ⟨hx, _⟩ | ⟨hx, _⟩
    rotate_left
    exact absurd hx hc
    exact absurd hx hc
    refine Ops.y (v := .tuple #[_, _]) (Y.move rfl) ?_
    refine Ops.y (v := .slice _ _ _) (Y.extract rfl rfl) ?_
    refine Ops.y (v := .int .i64 _) (Y.extract rfl rfl) ?_
    refine Ops.y (v := .slice _ _ _) (Y.assign rfl) ?_
    refine Ops.y (v := .int .i64 _) (Y.assign rfl) ?_
    refine Ops.nil ?_
    refine WP.seq ?_
    refine WP.region ?_
    refine Ops.y (v := .agg #[_, _]) (Y.loadv ty_54 rfl (I.rdbox 0 rfl 0 2) rfl rfl) ?_
    refine Ops.go (O.callv I Try.call34 (CheckProg_ok _ I.base_ok p ((hp.le le15).le le21) hnm) rfl ?_)
    intro w I
    refine Ops.y (v := .int .i64 _) (Y.assign rfl) ?_
    refine Ops.nil ?_
    refine WP.seq ?_
    refine WP.region ?_
    refine Ops.y (v := .int .i64 _) (Y.move rfl) ?_
    refine Ops.y (v := .int .i64 _) (Y.assign rfl) ?_
    refine Ops.nil ?_
    refine WP.seq ?_
    refine WP.region ?_
    refine Ops.y (v := .slice _ _ _) (Y.assign rfl) ?_
    refine Ops.nil ?_
    refine WP.seq ?_
    refine WP.seq ?_
    refine WP.region ?_
    refine Ops.y (v := .int .i64 _) (Y.move rfl) ?_
    refine Ops.y (v := .bool (decide _)) (Y.eqi rfl rfl) ?_
    refine Ops.nil ?_
    refine WP.cond_decF rfl (hc) ?_
    refine WP.skip ?_
    refine WP.seq ?_
    refine WP.region ?_
    refine Ops.y (v := .slice _ _ _) (Y.assign rfl) ?_
    refine Ops.nil ?_
    refine WP.seq ?_
    refine WP.seq ?_
    refine WP.region ?_
    refine Ops.y (v := .int .i64 _) (Y.move rfl) ?_
    refine Ops.y (v := .bool (decide _)) (Y.eqi rfl rfl) ?_
    refine Ops.nil ?_
    refine WP.cond_decF rfl (hc) ?_
    refine WP.skip ?_
    refine WP.seq ?_
    refine WP.region ?_
    refine Ops.go (O.callv I Try.call32 (progBegun_ok _ I.base_ok) rfl ?_)
    intro w I
    refine Ops.y (v := .bool _) (Y.move rfl) ?_
    refine Ops.ygt rfl (v := .slice _ _ _) (Y.move rfl) ?_
    refine Ops.ygt rfl (v := .slice _ _ _) (Y.move rfl) ?_
    refine Ops.gt rfl (O.callv I Try.call41 (SameInts_ok _ I.base_ok ⟨none, 0, []⟩ ⟨none, 0, []⟩ nilIs nilIs) rfl ?_)
    intro w I
    refine Ops.y (v := .bool _) (Y.pick_t rfl rfl) ?_
    refine Ops.y (v := .bool true) (Y.b (Y.move rfl) ((by rfl))) ?_
    refine Ops.ygt rfl (v := .int .i64 _) (Y.move rfl) ?_
    refine Ops.ygt rfl (v := .int .i64 _) (Y.move rfl) ?_
    refine Ops.ygt rfl (v := .bool true) (Y.dec_t (Y.eqi rfl rfl) (rfl)) ?_
    refine Ops.y (v := .bool _) (Y.pick_t rfl rfl) ?_
    refine Ops.y (v := .bool _) (Y.move rfl) ?_
    refine Ops.ygt rfl (v := .slice _ _ _) (Y.move rfl) ?_
    refine Ops.ygt rfl (v := .slice _ _ _) (Y.move rfl) ?_
    refine Ops.gt rfl (O.callv I Try.call42 (SameBools_ok _ I.base_ok ⟨none, 0, []⟩ ⟨none, 0, []⟩ nilIs nilIs) rfl ?_)
    intro w I
    refine Ops.y (v := .bool _) (Y.pick_t rfl rfl) ?_
    refine Ops.y (v := .bool true) (Y.b (Y.move rfl) ((by rfl))) ?_
    refine Ops.ygt rfl (v := .int .i64 _) (Y.move rfl) ?_
    refine Ops.ygt rfl (v := .int .i64 _) (Y.move rfl) ?_
    refine Ops.ygt rfl (v := .bool true) (Y.dec_t (Y.eqi rfl rfl) (rfl)) ?_
    refine Ops.y (v := .bool _) (Y.pick_t rfl rfl) ?_
    refine Ops.y (v := .bool _) (Y.assign rfl) ?_
    refine Ops.nil ?_
    refine WP.ret ?_
    repeat (first | refine thenE_ret ?_ | refine blockE_ret ?_)
    exact retQ.mk (vs := [.bool _]) rfl ⟨rfl, trivial⟩ I.ext_of (rfl)
end Go.TF
