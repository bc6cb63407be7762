/- The contracts on grounding, on. -/
import Derived.Test.YthgjilgghgkodaaRule5
namespace Go.TF
open Go Go.RowKit Go.Proofs
set_option maxRecDepth 10000

theorem not_within {a lo hi : Int} : (!decide (within a lo hi)) = true ↔ a < lo ∨ hi < a := by
  simp only [Bool.not_eq_true', decide_eq_false_iff_not]; unfold within; omega
theorem grBad_iff {a : Atm} {x : Vrs} : grBad a x = true ↔ ∃ v, cntA [a] v ≠ 0 ∧ (x.at v < 0 ∨ 4 < x.at v) := by
  simp only [cntA_pos, List.mem_singleton, exists_eq_left, grBad, standsIn, List.any_eq_true, Bool.and_eq_true, not_within, decide_eq_true_eq]
  constructor
  · rintro ⟨t, ht, hv, hb⟩; exact ⟨t.n, ⟨t, ht, hv, rfl⟩, hb⟩
  · rintro ⟨v, ⟨t, ht, hv, rfl⟩, hb⟩; exact ⟨t, ht, hv, hb⟩
theorem GroundOf_ok (B : Base) (hB : B.ok) (a : Atm) (ha : a.In B.h) (x : Vrs) : Fn Try.prog 29 [a.val, x.val] B (fun v _ => v = .tuple #[(groundOf a x).1.val, .int .i64 (groundOf a x).2]) := by
  have hsm : a.args.xs.length ≤ 140737488355328 := Sl.Is.small ha
  refine Fn.of Try.func29 rfl Try.ntmps29 (by kernel_rfl) (by simp) ?_
  intro e
  have I := Inv.start hB
  refine WP.seq ?_
  refine WP.region ?_
  refine Ops.go (O.box (v := .agg #[_, _]) I rfl rfl ?_)
  intro b2 w I
  refine Ops.go (O.box (v := .agg #[_, _, _]) I rfl rfl ?_)
  intro b3 w I
  refine Ops.go (O.alloc I Try.zeroValue44 rfl ?_)
  intro b4 w I
  refine Ops.y (v := .int .i64 _) (Y.assign rfl) ?_
  refine Ops.nil ?_
  refine WP.seq ?_
  refine WP.seq ?_
  refine WP.region ?_
  refine Ops.y (v := .pointer (some ⟨_, _, none⟩)) (Y.fa fa_35_1 rfl) ?_
  refine Ops.y (v := .slice _ _ _) (Y.loadv ty_33 rfl (I.rdbox 2 rfl 1 1) rfl rfl) ?_
  refine Ops.y (v := .int .i64 _) (Y.lens Try.underlying33 rfl) ?_
  refine Ops.y (v := .bool (decide _)) (Y.gti rfl rfl) ?_
  refine Ops.nil ?_
  refine WP.cond_dec rfl (fun h1 => ?_) (fun h1 => ?_)
  · refine WP.seq ?_
    refine WP.region ?_
    refine Ops.y (v := .agg #[.int .i64 _, .int .i64 _, .int .i64 _, .int .i64 _]) (Y.build pl_44 Try.zeroValue44 rfl rfl) ?_
    refine Ops.go (O.store (v := .agg #[_, _, _, _]) I ty_44 0 rfl rfl rfl rfl rfl rfl (Nat.le_of_ble_eq_true rfl) rfl ?_)
    intro w I
    refine Ops.y (v := .int .i64 _) (Y.assign rfl) ?_
    refine Ops.nil ?_
    refine WP.ret ?_
    repeat (first | refine thenE_ret ?_ | refine blockE_ret ?_)
    exact retQ.mk (vs := [.agg #[_, _, _, _], .int .i64 _]) rfl ⟨⟨_, _, _, _, _, rfl, ty_44, I.rdbox 0 rfl 0 4, rfl, rfl⟩, rfl, trivial⟩ I.ext_of (by simp only [tup, groundOf]; rw [if_pos (by omega)]; rfl)
  refine WP.skip ?_
  refine WP.seq ?_
  refine WP.seq ?_
  refine WP.region ?_
  refine Ops.y (v := .pointer (some ⟨_, _, none⟩)) (Y.fa fa_35_1 rfl) ?_
  refine Ops.y (v := .slice _ _ _) (Y.loadv ty_33 rfl (I.rdbox 2 rfl 1 1) rfl rfl) ?_
  refine Ops.go (O.callv I Try.call62 (argsError_ok _ I.base_ok a.args ha) rfl ?_)
  intro w I
  refine Ops.y (v := .int .i64 _) (Y.assign rfl) ?_
  refine Ops.nil ?_
  refine WP.seq ?_
  refine WP.region ?_
  refine Ops.y (v := .int .i64 _) (Y.move rfl) ?_
  refine Ops.y (v := .bool (decide _)) (Y.nei rfl rfl) ?_
  refine Ops.nil ?_
  refine WP.cond_dec rfl (fun h2 => ?_) (fun h2 => ?_)
  · refine WP.seq ?_
    refine WP.region ?_
    refine Ops.y (v := .agg #[.int .i64 _, .int .i64 _, .int .i64 _, .int .i64 _]) (Y.build pl_44 Try.zeroValue44 rfl rfl) ?_
    refine Ops.y (v := .int .i64 _) (Y.move rfl) ?_
    refine Ops.go (O.store (v := .agg #[_, _, _, _]) I ty_44 0 rfl rfl rfl rfl rfl rfl (Nat.le_of_ble_eq_true rfl) rfl ?_)
    intro w I
    refine Ops.y (v := .int .i64 _) (Y.assign rfl) ?_
    refine Ops.nil ?_
    refine WP.ret ?_
    repeat (first | refine thenE_ret ?_ | refine blockE_ret ?_)
    exact retQ.mk (vs := [.agg #[_, _, _, _], .int .i64 _]) rfl ⟨⟨_, _, _, _, _, rfl, ty_44, I.rdbox 0 rfl 0 4, rfl, rfl⟩, rfl, trivial⟩ I.ext_of (by simp only [tup, groundOf]; rw [if_neg (by omega), if_pos h2]; rfl)
  have hok := Decidable.not_not.1 h2
  refine WP.skip ?_
  refine WP.seq ?_
  refine WP.seq ?_
  refine WP.region ?_
  refine Ops.y (v := .int .i64 _) (Y.assign rfl) ?_
  refine Ops.nil ?_
  refine WP.block ?_
  refine WP.loopE (σ := Nat) (fun k => [(2, .pointer (some ⟨b2, 0, none⟩)), (3, .pointer (some ⟨b3, 0, none⟩)), (4, .pointer (some ⟨b4, 0, none⟩)), (7, .int .i64 k)])
    (fun k w => Inv B B.h [box b4 (Fct.enc default) 44, box b3 x.enc 42, box b2 a.enc 35] w ∧ k ≤ a.args.xs.length ∧ ∀ j, j < k → ∀ hj : j < a.args.xs.length, (a.args.xs[j].var && !decide (within (x.at a.args.xs[j].n) 0 4)) = false) (fun k => a.args.xs.length - k)
    ⟨0, ⟨rfl, rfl, rfl, rfl, trivial⟩, I, Nat.zero_le _, fun j hj => by omega⟩ ?_
  rintro k e w ⟨I, hk, hn⟩
  refine WP.seq ?_
  refine WP.seq ?_
  refine WP.region ?_
  refine Ops.y (v := .int .i64 _) (Y.move rfl) ?_
  refine Ops.y (v := .pointer (some ⟨_, _, none⟩)) (Y.fa fa_35_1 rfl) ?_
  refine Ops.y (v := .slice _ _ _) (Y.loadv ty_33 rfl (I.rdbox 2 rfl 1 1) rfl rfl) ?_
  refine Ops.y (v := .int .i64 _) (Y.lens Try.underlying33 rfl) ?_
  refine Ops.y (v := .bool (decide _)) (Y.lti rfl rfl) ?_
  refine Ops.nil ?_
  refine WP.cond_dec rfl (fun h => ?_) (fun h => ?_)
  · have hk' : k < a.args.xs.length := by omega
    have E1 := Sl.Is.at ha hk'
    have hvv := argsErr_var hok (List.getElem_mem hk')
    refine WP.skip ?_
    refine WP.seq ?_
    refine WP.block ?_
    refine WP.seq ?_
    refine WP.cutL (σ := Unit) (fun _ => [(2, .pointer (some ⟨b2, 0, none⟩)), (3, .pointer (some ⟨b3, 0, none⟩)), (4, .pointer (some ⟨b4, 0, none⟩)), (7, .int .i64 k), (44, .bool (a.args.xs[k].var && !decide (within (x.at a.args.xs[k].n) 0 4)))]) (fun _ w => Inv B B.h [box b4 (Fct.enc default) 44, box b3 x.enc 42, box b2 a.enc 35] w) ?_ ?_
    · cases hv : a.args.xs[k].var
      · refine WP.region ?_
        refine Ops.y (v := .pointer (some ⟨_, _, none⟩)) (Y.fa fa_35_1 rfl) ?_
        refine Ops.y (v := .slice _ _ _) (Y.loadv ty_33 rfl (I.rdbox 2 rfl 1 1) rfl rfl) ?_
        refine Ops.y (v := .int .i64 _) (Y.move rfl) ?_
        refine Ops.y (v := .pointer (some ⟨_, _, none⟩)) (Y.idxEl E1 Try.underlying33 Try.sizeOf83 rfl rfl (Int.natCast_nonneg _) rfl) ?_
        refine Ops.y (v := .pointer (some ⟨_, _, none⟩)) (Y.fa0 fa_83_0 rfl) ?_
        refine Ops.y (v := .bool false) (Y.b (Y.loadv ty_4 rfl (I.rd (E1.rd.part 0 1)) rfl rfl) (hv)) ?_
        refine Ops.y (v := .bool _) (Y.move rfl) ?_
        refine Ops.gf rfl ?_
        refine Ops.gf rfl ?_
        refine Ops.gf rfl ?_
        refine Ops.gf rfl ?_
        refine Ops.gf rfl ?_
        refine Ops.gf rfl ?_
        refine Ops.gf rfl ?_
        refine Ops.gf rfl ?_
        refine Ops.gf rfl ?_
        refine Ops.gf rfl ?_
        refine Ops.y (v := .bool _) (Y.pick_f rfl rfl) ?_
        refine Ops.nil ?_
        exact ⟨(), ⟨rfl, rfl, rfl, rfl, by rw [Bool.false_and]; rfl, trivial⟩, I⟩
      · refine WP.region ?_
        refine Ops.y (v := .pointer (some ⟨_, _, none⟩)) (Y.fa fa_35_1 rfl) ?_
        refine Ops.y (v := .slice _ _ _) (Y.loadv ty_33 rfl (I.rdbox 2 rfl 1 1) rfl rfl) ?_
        refine Ops.y (v := .int .i64 _) (Y.move rfl) ?_
        refine Ops.y (v := .pointer (some ⟨_, _, none⟩)) (Y.idxEl E1 Try.underlying33 Try.sizeOf83 rfl rfl (Int.natCast_nonneg _) rfl) ?_
        refine Ops.y (v := .pointer (some ⟨_, _, none⟩)) (Y.fa0 fa_83_0 rfl) ?_
        refine Ops.y (v := .bool true) (Y.b (Y.loadv ty_4 rfl (I.rd (E1.rd.part 0 1)) rfl rfl) (hv)) ?_
        refine Ops.y (v := .bool _) (Y.move rfl) ?_
        refine Ops.ygt rfl (v := .pointer (some ⟨_, _, none⟩)) (Y.fa fa_35_1 rfl) ?_
        refine Ops.ygt rfl (v := .slice _ _ _) (Y.loadv ty_33 rfl (I.rdbox 2 rfl 1 1) rfl rfl) ?_
        refine Ops.ygt rfl (v := .int .i64 _) (Y.move rfl) ?_
        refine Ops.ygt rfl (v := .pointer (some ⟨_, _, none⟩)) (Y.idxEl E1 Try.underlying33 Try.sizeOf83 rfl rfl (Int.natCast_nonneg _) rfl) ?_
        refine Ops.ygt rfl (v := .pointer (some ⟨_, _, none⟩)) (Y.fa fa_83_1 rfl) ?_
        refine Ops.ygt rfl (v := .int .i64 _) (Y.loadv ty_3 rfl (I.rd (E1.rd.part 1 1)) rfl rfl) ?_
        refine Ops.ygt rfl (v := .pointer (some ⟨_, _, none⟩)) (Y.idxa Try.underlying42 Try.sizeOf3 rfl rfl (hvv hv).1 (hvv hv).2) ?_
        refine Ops.ygt rfl (v := .int .i64 _) (Y.loadv ty_3 rfl (Rd.vrs (I.rdbox 1 rfl 0 3) (hvv hv).1 (hvv hv).2) rfl rfl) ?_
        refine Ops.gt rfl (O.callv I Try.call54 (within_ok _ I.base_ok _ _ _) rfl ?_)
        intro w I
        refine Ops.ygt rfl (v := .bool _) (Y.not rfl) ?_
        refine Ops.y (v := .bool _) (Y.pick_t rfl rfl) ?_
        refine Ops.nil ?_
        exact ⟨(), ⟨rfl, rfl, rfl, rfl, by rw [Bool.true_and]; rfl, trivial⟩, I⟩
    rintro _ e w I
    refine WP.cond rfl (fun hb => ?_) (fun hb => ?_)
    · refine WP.seq ?_
      refine WP.region ?_
      refine Ops.y (v := .agg #[.int .i64 _, .int .i64 _, .int .i64 _, .int .i64 _]) (Y.build pl_44 Try.zeroValue44 rfl rfl) ?_
      refine Ops.go (O.store (v := .agg #[_, _, _, _]) I ty_44 0 rfl rfl rfl rfl rfl rfl (Nat.le_of_ble_eq_true rfl) rfl ?_)
      intro w I
      refine Ops.y (v := .int .i64 _) (Y.assign rfl) ?_
      refine Ops.nil ?_
      refine WP.ret ?_
      repeat (first | refine thenE_ret ?_ | refine blockE_ret ?_)
      exact retQ.mk (vs := [.agg #[_, _, _, _], .int .i64 _]) rfl ⟨⟨_, _, _, _, _, rfl, ty_44, I.rdbox 0 rfl 0 4, rfl, rfl⟩, rfl, trivial⟩ I.ext_of (by simp only [tup, groundOf]; rw [if_neg (by omega), if_neg h2, if_pos (show grBad a x = true from List.any_eq_true.2 ⟨_, List.getElem_mem hk', hb⟩)]; rfl)
    refine WP.skip ?_
    refine WP.region ?_
    refine Ops.y (v := .int .i64 _) (Y.move rfl) ?_
    refine Ops.y (v := .int .i64 _) (Y.addi rfl rfl ⟨by omega, by omega⟩) ?_
    refine Ops.y (v := .int .i64 _) (Y.assign rfl) ?_
    refine Ops.nil ?_
    exact ⟨k + 1, ⟨⟨rfl, rfl, rfl, rfl, trivial⟩, I, by omega, fun j hj hj' => by
      rcases Nat.lt_succ_iff_lt_or_eq.1 hj with h' | h'
      · exact hn j h' hj'
      · subst h'; exact hb⟩, by omega⟩
  have hg : grBad a x = false := by unfold grBad; rw [List.any_eq_false]; intro t ht; obtain ⟨j, hj, rfl⟩ := List.getElem_of_mem ht; simpa using hn j (by omega) hj
  refine WP.exit ?_
  refine WP.seq ?_
  refine WP.region ?_
  refine Ops.y (v := .agg #[_, _]) (Y.loadv ty_35 rfl (I.rdbox 2 rfl 0 2) rfl rfl) ?_
  refine Ops.y (v := .agg #[_, _, _]) (Y.loadv ty_42 rfl (I.rdbox 1 rfl 0 3) rfl rfl) ?_
  refine Ops.go (O.callv I Try.call68 (ground_ok _ I.base_ok a ha x (by omega) hok) rfl ?_)
  intro w I
  refine Ops.go (O.store (v := .agg #[_, _, _, _]) I ty_44 0 rfl rfl rfl rfl rfl rfl (Nat.le_of_ble_eq_true rfl) rfl ?_)
  intro w I
  refine Ops.y (v := .int .i64 _) (Y.assign rfl) ?_
  refine Ops.nil ?_
  refine WP.ret ?_
  repeat (first | refine thenE_ret ?_ | refine blockE_ret ?_)
  exact retQ.mk (vs := [.agg #[_, _, _, _], .int .i64 _]) rfl ⟨⟨_, _, _, _, _, rfl, ty_44, I.rdbox 0 rfl 0 4, rfl, rfl⟩, rfl, trivial⟩ I.ext_of (by simp only [tup, groundOf]; rw [if_neg (by omega), if_neg h2, hg]; rfl)
set_option maxHeartbeats 1000000 in
theorem Ground_ok (B : Base) (hB : B.ok) (a : Atm) (ha : a.In B.h) (x : Vrs) : Fn Try.prog 28 [a.val, x.val] B (fun v _ => v = .tuple #[(groundOf a x).1.val, .int .i64 (groundOf a x).2]) := by
  have hsm : a.args.xs.length ≤ 140737488355328 := Sl.Is.small ha
  refine Fn.of Try.func28 rfl Try.ntmps28 (by kernel_rfl) (by simp) ?_
  intro e
  have I := Inv.start hB
  refine WP.seq ?_
  refine WP.region ?_
  refine Ops.go (O.box (v := .agg #[_, _]) I rfl rfl ?_)
  intro b2 w I
  refine Ops.go (O.box (v := .agg #[_, _, _]) I rfl rfl ?_)
  intro b3 w I
  refine Ops.go (O.alloc I Try.zeroValue44 rfl ?_)
  intro b4 w I
  refine Ops.y (v := .int .i64 _) (Y.assign rfl) ?_
  refine Ops.nil ?_
  refine WP.seq ?_
  refine WP.seq ?_
  refine WP.region ?_
  refine Ops.y (v := .pointer (some ⟨_, _, none⟩)) (Y.fa fa_35_1 rfl) ?_
  refine Ops.y (v := .slice _ _ _) (Y.loadv ty_33 rfl (I.rdbox 2 rfl 1 1) rfl rfl) ?_
  refine Ops.y (v := .int .i64 _) (Y.lens Try.underlying33 rfl) ?_
  refine Ops.y (v := .bool (decide _)) (Y.gti rfl rfl) ?_
  refine Ops.nil ?_
  refine WP.cond_dec rfl (fun h1 => ?_) (fun h1 => ?_)
  · refine WP.seq ?_
    refine WP.region ?_
    refine Ops.y (v := .agg #[.int .i64 _, .int .i64 _, .int .i64 _, .int .i64 _]) (Y.build pl_44 Try.zeroValue44 rfl rfl) ?_
    refine Ops.go (O.store (v := .agg #[_, _, _, _]) I ty_44 0 rfl rfl rfl rfl rfl rfl (Nat.le_of_ble_eq_true rfl) rfl ?_)
    intro w I
    refine Ops.y (v := .int .i64 _) (Y.assign rfl) ?_
    refine Ops.nil ?_
    refine WP.ret ?_
    repeat (first | refine thenE_ret ?_ | refine blockE_ret ?_)
    exact retQ.mk (vs := [.agg #[_, _, _, _], .int .i64 _]) rfl ⟨⟨_, _, _, _, _, rfl, ty_44, I.rdbox 0 rfl 0 4, rfl, rfl⟩, rfl, trivial⟩ I.ext_of (by simp only [tup, groundOf]; rw [if_pos (by omega)]; rfl)
  refine WP.skip ?_
  refine WP.seq ?_
  refine WP.seq ?_
  refine WP.region ?_
  refine Ops.y (v := .pointer (some ⟨_, _, none⟩)) (Y.fa fa_35_1 rfl) ?_
  refine Ops.y (v := .slice _ _ _) (Y.loadv ty_33 rfl (I.rdbox 2 rfl 1 1) rfl rfl) ?_
  refine Ops.go (O.callv I Try.call61 (args_ok _ I.base_ok a.args ha) rfl ?_)
  intro w I
  refine Ops.y (v := .int .i64 _) (Y.assign rfl) ?_
  refine Ops.nil ?_
  refine WP.seq ?_
  refine WP.region ?_
  refine Ops.y (v := .int .i64 _) (Y.move rfl) ?_
  refine Ops.y (v := .bool (decide _)) (Y.nei rfl rfl) ?_
  refine Ops.nil ?_
  refine WP.cond_dec rfl (fun h2 => ?_) (fun h2 => ?_)
  · refine WP.seq ?_
    refine WP.region ?_
    refine Ops.y (v := .agg #[.int .i64 _, .int .i64 _, .int .i64 _, .int .i64 _]) (Y.build pl_44 Try.zeroValue44 rfl rfl) ?_
    refine Ops.y (v := .int .i64 _) (Y.move rfl) ?_
    refine Ops.go (O.store (v := .agg #[_, _, _, _]) I ty_44 0 rfl rfl rfl rfl rfl rfl (Nat.le_of_ble_eq_true rfl) rfl ?_)
    intro w I
    refine Ops.y (v := .int .i64 _) (Y.assign rfl) ?_
    refine Ops.nil ?_
    refine WP.ret ?_
    repeat (first | refine thenE_ret ?_ | refine blockE_ret ?_)
    exact retQ.mk (vs := [.agg #[_, _, _, _], .int .i64 _]) rfl ⟨⟨_, _, _, _, _, rfl, ty_44, I.rdbox 0 rfl 0 4, rfl, rfl⟩, rfl, trivial⟩ I.ext_of (by simp only [tup, groundOf]; rw [if_neg (by omega), if_pos h2]; rfl)
  have hok := Decidable.not_not.1 h2
  refine WP.skip ?_
  refine WP.seq ?_
  refine WP.seq ?_
  refine WP.region ?_
  refine Ops.y (v := .agg #[_, _]) (Y.loadv ty_35 rfl (I.rdbox 2 rfl 0 2) rfl rfl) ?_
  refine Ops.go (O.mksl (xs := [a]) (enc := Atm.enc) I Try.underlying86 Try.sizeOf35 Try.zeroValue35 rfl (Nat.le_of_ble_eq_true rfl) rfl rfl (by decide) (fun _ => rfl) ?_)
  intro b21 h21 w I le21 sl21
  refine Ops.go (O.callM I Try.call64 (Vars_ok _ I.base_ok ⟨some ⟨b21, 0, none⟩, 1, [a]⟩ ⟨sl21, by simp⟩ (fun y hy => by rw [List.mem_singleton.1 hy]; exact ha.le le21) (by simp)) rfl ?_)
  rintro _ h3 _ w I le3 ⟨bm, es, rfl, rfl, hc⟩
  try simp only [List.cons_append, List.nil_append] at I
  obtain ⟨h7, ents, clock, le7, hm7, hi7, I⟩ := I.settleMap
  refine Ops.go (O.range I Try.underlying89 rfl hm7 ?_)
  intro b23 w I
  refine Ops.nil ?_
  have hle : B.h.le h7 := le21.trans (le3.trans le7)
  have hbb : ∀ {v : Int} {q : MapEntry}, q ∈ ents → q.key = .int .i64 v → cntA [a] v ≠ 0 := fun {v q} hq hk h0 => by
    obtain ⟨v', x', hvx, hkq, _⟩ := ents_of hi7 hq
    rw [hk] at hkq; cases hkq
    exact mem_ilook hvx (by rw [hc v, if_pos h0])
  have hst : ∀ {v : Int}, cntA [a] v ≠ 0 → 0 ≤ v ∧ v < 3 := fun {v} h => by
    obtain ⟨y, hy, hs⟩ := cntA_pos.1 h
    rw [List.mem_singleton.1 hy] at hs
    simp only [standsIn, List.any_eq_true, Bool.and_eq_true, decide_eq_true_eq] at hs
    obtain ⟨t, ht, hv, rfl⟩ := hs
    exact argsErr_var hok ht hv
  refine WP.block ?_
  refine WP.loopE (σ := List Nat) (fun _ => [(2, .pointer (some ⟨b2, 0, none⟩)), (3, .pointer (some ⟨b3, 0, none⟩)), (4, .pointer (some ⟨b4, 0, none⟩)), (23, .pointer (some ⟨b23, 0, none⟩))]) (fun done w => Inv B h7 [mit b23 bm clock done, box b4 (Fct.enc default) 44, box b3 x.enc 42, box b2 a.enc 35] w ∧ ∀ q ∈ ents, q.born ∈ done → ∀ v, q.key = .int .i64 v → ¬ (x.at v < 0 ∨ 4 < x.at v)) (fun done => (ents.filter fun q => decide (q.born ∉ done)).length)
    ⟨[], ⟨rfl, rfl, rfl, rfl, trivial⟩, I, fun q _ hq => by cases hq⟩ ?_
  rintro done e w ⟨I, hd⟩
  refine WP.seq ?_
  refine WP.region ?_
  refine Ops.go (O.next I 0 rfl rfl hm7 hi7 ?_ ?_)
  · intro hall
    refine Ops.y (v := .bool _) (Y.extract rfl rfl) ?_
    refine Ops.nil ?_
    refine WP.seq ?_
    refine WP.cond_f rfl ?_
    have hg : grBad a x = false := by
      cases hg : grBad a x
      · rfl
      · obtain ⟨v, hv, hb⟩ := grBad_iff.1 hg
        have h8 := hc v
        rw [if_neg hv] at h8
        obtain ⟨q, hq, hk⟩ := ents_has hi7 (ilook_some_mem h8)
        exact absurd hb (hd q hq (hall q hq) v hk)
    refine WP.exit ?_
    refine WP.seq ?_
    refine WP.region ?_
    refine Ops.y (v := .agg #[_, _]) (Y.loadv ty_35 rfl (I.rdbox 3 rfl 0 2) rfl rfl) ?_
    refine Ops.y (v := .agg #[_, _, _]) (Y.loadv ty_42 rfl (I.rdbox 2 rfl 0 3) rfl rfl) ?_
    refine Ops.go (O.callv I Try.call67 (Of_ok _ I.base_ok a (ha.le hle) x (by omega) hok) rfl ?_)
    intro w I
    refine Ops.go (O.store (v := .agg #[_, _, _, _]) I ty_44 1 rfl rfl rfl rfl rfl rfl (Nat.le_of_ble_eq_true rfl) rfl ?_)
    intro w I
    refine Ops.y (v := .int .i64 _) (Y.assign rfl) ?_
    refine Ops.nil ?_
    refine WP.ret ?_
    repeat (first | refine thenE_ret ?_ | refine blockE_ret ?_)
    exact retQ.mk (vs := [.agg #[_, _, _, _], .int .i64 _]) rfl ⟨⟨_, _, _, _, _, rfl, ty_44, I.rdbox 1 rfl 0 4, rfl, rfl⟩, rfl, trivial⟩ I.ext_of (by simp only [tup, groundOf]; rw [if_neg (by omega), if_neg h2, hg]; rfl)
  · intro q w hq hnd I
    refine Ops.y (v := .bool _) (Y.extract rfl rfl) ?_
    refine Ops.nil ?_
    refine WP.seq ?_
    refine WP.cond_t rfl ?_
    obtain ⟨v, x', hvx, hkq, hvq⟩ := ents_of hi7 hq
    have hv3 := hst (hbb hq hkq)
    refine WP.skip ?_
    refine WP.block ?_
    refine WP.seq ?_
    refine WP.region ?_
    refine Ops.y (v := .tuple #[.int .i64 v, .int .i64 x']) (hkq ▸ hvq ▸ Y.entry I 0 rfl rfl hm7 hi7 hq) ?_
    refine Ops.y (v := .int .i64 _) (Y.extract rfl rfl) ?_
    refine Ops.y (v := .int .i64 _) (Y.assign rfl) ?_
    refine Ops.nil ?_
    refine WP.seq ?_
    by_cases o0 : x.at v < 0
    · refine WP.region ?_
      refine Ops.y (v := .int .i64 _) (Y.move rfl) ?_
      refine Ops.y (v := .pointer (some ⟨_, _, none⟩)) (Y.idxa Try.underlying42 Try.sizeOf3 rfl rfl hv3.1 hv3.2) ?_
      refine Ops.y (v := .int .i64 _) (Y.loadv ty_3 rfl (Rd.vrs (I.rdbox 2 rfl 0 3) hv3.1 hv3.2) rfl rfl) ?_
      refine Ops.y (v := .bool true) (Y.dec_t (Y.lti rfl rfl) (o0)) ?_
      refine Ops.y (v := .bool _) (Y.move rfl) ?_
      refine Ops.gf rfl ?_
      refine Ops.gf rfl ?_
      refine Ops.gf rfl ?_
      refine Ops.gf rfl ?_
      refine Ops.y (v := .bool _) (Y.pick_t rfl rfl) ?_
      refine Ops.nil ?_
      refine WP.cond_t rfl ?_
      refine WP.seq ?_
      refine WP.region ?_
      refine Ops.y (v := .agg #[.int .i64 _, .int .i64 _, .int .i64 _, .int .i64 _]) (Y.build pl_44 Try.zeroValue44 rfl rfl) ?_
      refine Ops.go (O.store (v := .agg #[_, _, _, _]) I ty_44 1 rfl rfl rfl rfl rfl rfl (Nat.le_of_ble_eq_true rfl) rfl ?_)
      intro w I
      refine Ops.y (v := .int .i64 _) (Y.assign rfl) ?_
      refine Ops.nil ?_
      refine WP.ret ?_
      repeat (first | refine thenE_ret ?_ | refine blockE_ret ?_)
      exact retQ.mk (vs := [.agg #[_, _, _, _], .int .i64 _]) rfl ⟨⟨_, _, _, _, _, rfl, ty_44, I.rdbox 1 rfl 0 4, rfl, rfl⟩, rfl, trivial⟩ I.ext_of (by simp only [tup, groundOf]; rw [if_neg (by omega), if_neg h2, if_pos (grBad_iff.2 ⟨v, hbb hq hkq, by omega⟩)]; rfl)
    by_cases o1 : 4 < x.at v
    · refine WP.region ?_
      refine Ops.y (v := .int .i64 _) (Y.move rfl) ?_
      refine Ops.y (v := .pointer (some ⟨_, _, none⟩)) (Y.idxa Try.underlying42 Try.sizeOf3 rfl rfl hv3.1 hv3.2) ?_
      refine Ops.y (v := .int .i64 _) (Y.loadv ty_3 rfl (Rd.vrs (I.rdbox 2 rfl 0 3) hv3.1 hv3.2) rfl rfl) ?_
      refine Ops.y (v := .bool false) (Y.dec_f (Y.lti rfl rfl) (o0)) ?_
      refine Ops.y (v := .bool _) (Y.move rfl) ?_
      refine Ops.ygt rfl (v := .int .i64 _) (Y.move rfl) ?_
      refine Ops.ygt rfl (v := .pointer (some ⟨_, _, none⟩)) (Y.idxa Try.underlying42 Try.sizeOf3 rfl rfl hv3.1 hv3.2) ?_
      refine Ops.ygt rfl (v := .int .i64 _) (Y.loadv ty_3 rfl (Rd.vrs (I.rdbox 2 rfl 0 3) hv3.1 hv3.2) rfl rfl) ?_
      refine Ops.ygt rfl (v := .bool true) (Y.dec_t (Y.gti rfl rfl) (o1)) ?_
      refine Ops.y (v := .bool _) (Y.pick_f rfl rfl) ?_
      refine Ops.nil ?_
      refine WP.cond_t rfl ?_
      refine WP.seq ?_
      refine WP.region ?_
      refine Ops.y (v := .agg #[.int .i64 _, .int .i64 _, .int .i64 _, .int .i64 _]) (Y.build pl_44 Try.zeroValue44 rfl rfl) ?_
      refine Ops.go (O.store (v := .agg #[_, _, _, _]) I ty_44 1 rfl rfl rfl rfl rfl rfl (Nat.le_of_ble_eq_true rfl) rfl ?_)
      intro w I
      refine Ops.y (v := .int .i64 _) (Y.assign rfl) ?_
      refine Ops.nil ?_
      refine WP.ret ?_
      repeat (first | refine thenE_ret ?_ | refine blockE_ret ?_)
      exact retQ.mk (vs := [.agg #[_, _, _, _], .int .i64 _]) rfl ⟨⟨_, _, _, _, _, rfl, ty_44, I.rdbox 1 rfl 0 4, rfl, rfl⟩, rfl, trivial⟩ I.ext_of (by simp only [tup, groundOf]; rw [if_neg (by omega), if_neg h2, if_pos (grBad_iff.2 ⟨v, hbb hq hkq, by omega⟩)]; rfl)
    refine WP.region ?_
    refine Ops.y (v := .int .i64 _) (Y.move rfl) ?_
    refine Ops.y (v := .pointer (some ⟨_, _, none⟩)) (Y.idxa Try.underlying42 Try.sizeOf3 rfl rfl hv3.1 hv3.2) ?_
    refine Ops.y (v := .int .i64 _) (Y.loadv ty_3 rfl (Rd.vrs (I.rdbox 2 rfl 0 3) hv3.1 hv3.2) rfl rfl) ?_
    refine Ops.y (v := .bool false) (Y.dec_f (Y.lti rfl rfl) (o0)) ?_
    refine Ops.y (v := .bool _) (Y.move rfl) ?_
    refine Ops.ygt rfl (v := .int .i64 _) (Y.move rfl) ?_
    refine Ops.ygt rfl (v := .pointer (some ⟨_, _, none⟩)) (Y.idxa Try.underlying42 Try.sizeOf3 rfl rfl hv3.1 hv3.2) ?_
    refine Ops.ygt rfl (v := .int .i64 _) (Y.loadv ty_3 rfl (Rd.vrs (I.rdbox 2 rfl 0 3) hv3.1 hv3.2) rfl rfl) ?_
    refine Ops.ygt rfl (v := .bool false) (Y.dec_f (Y.gti rfl rfl) (o1)) ?_
    refine Ops.y (v := .bool _) (Y.pick_f rfl rfl) ?_
    refine Ops.nil ?_
    refine WP.cond_f rfl ?_
    refine WP.skip ?_
    refine ⟨done ++ [q.born], ⟨⟨rfl, rfl, rfl, rfl, trivial⟩, I, fun q' hq' hb' v' hv' => ?_⟩, filter_shorter hq (by simp) (by simpa using hnd) (fun y _ hy => by simp at hy ⊢; exact hy.1)⟩
    rcases List.mem_append.1 hb' with h8 | h8
    · exact hd q' hq' h8 v' hv'
    · have : q' = q := nodup_inj hi7.nodup hq' hq (List.mem_singleton.1 h8)
      subst this
      rw [hkq] at hv'
      cases hv'
      omega
end Go.TF
