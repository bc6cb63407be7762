/- The contract of the reference's CheckRule. -/
import Derived.Test.YtenigglapeajdaaRule3
namespace Go.TF
open Go Go.RowKit Go.Proofs
set_option maxRecDepth 10000

set_option maxHeartbeats 1000000 in
theorem CheckRule_ok (B : Base) (hB : B.ok) (l : Sl Prd) (hl : Prds l B.h) (r : Rul) (hr : r.In B.h) : Fn Try.prog 57 [l.val, r.val] B (fun v _ => v = .int .i64 (checkRule l.xs r)) := by
  have hsm := hl.small
  have hsb := hr.body.is.small
  refine Fn.of Try.func57 rfl Try.ntmps57 (by kernel_rfl) (by simp) ?_
  intro e
  have I := Inv.start hB
  refine WP.seq ?_
  refine WP.region ?_
  refine Ops.go (O.box (v := .agg #[_, _, _, _, _]) I rfl rfl ?_)
  intro b3 w I
  refine Ops.y (v := .int .i64 _) (Y.assign rfl) ?_
  refine Ops.nil ?_
  refine WP.seq ?_
  refine WP.seq ?_
  refine WP.region ?_
  refine Ops.y (v := .slice _ _ _) (Y.move rfl) ?_
  refine Ops.y (v := .pointer (some ⟨_, _, none⟩)) (Y.fa0 fa_59_0 rfl) ?_
  refine Ops.y (v := .agg #[_, _]) (Y.loadv ty_56 rfl (I.rdbox 0 rfl 0 2) rfl rfl) ?_
  refine Ops.go (O.callv I Try.call83 (CheckAtom_ok _ I.base_ok l hl r.head hr.head) rfl ?_)
  intro w I
  refine Ops.y (v := .int .i64 _) (Y.assign rfl) ?_
  refine Ops.nil ?_
  refine WP.seq ?_
  refine WP.region ?_
  refine Ops.y (v := .int .i64 _) (Y.move rfl) ?_
  refine Ops.y (v := .bool (decide _)) (Y.nei rfl rfl) ?_
  refine Ops.nil ?_
  refine WP.cond_dec rfl (fun h1 => ?_) (fun h1 => ?_)
  · refine WP.seq ?_
    refine WP.region ?_
    refine Ops.y (v := .int .i64 _) (Y.move rfl) ?_
    refine Ops.y (v := .int .i64 _) (Y.assign rfl) ?_
    refine Ops.nil ?_
    refine WP.ret ?_
    repeat (first | refine thenE_ret ?_ | refine blockE_ret ?_)
    exact retQ.mk (vs := [.int .i64 _]) rfl ⟨rfl, trivial⟩ I.ext_of (by simp only [tup, checkRule]; rw [if_pos h1])
  have h1 := Decidable.not_not.1 h1
  have hh := checkAtom_in h1
  refine WP.skip ?_
  refine WP.seq ?_
  refine WP.seq ?_
  refine WP.region ?_
  refine Ops.y (v := .pointer (some ⟨_, _, none⟩)) (Y.fa fa_59_3 rfl) ?_
  refine Ops.y (v := .slice _ _ _) (Y.loadv ty_57 rfl (I.rdbox 0 rfl 4 1) rfl rfl) ?_
  refine Ops.y (v := .int .i64 _) (Y.lens Try.underlying57 rfl) ?_
  refine Ops.y (v := .bool (decide _)) (Y.gti rfl rfl) ?_
  refine Ops.nil ?_
  refine WP.cond_dec rfl (fun h2 => ?_) (fun h2 => ?_)
  · refine WP.seq ?_
    refine WP.region ?_
    refine Ops.y (v := .int .i64 _) (Y.assign rfl) ?_
    refine Ops.nil ?_
    refine WP.ret ?_
    repeat (first | refine thenE_ret ?_ | refine blockE_ret ?_)
    exact retQ.mk (vs := [.int .i64 _]) rfl ⟨rfl, trivial⟩ I.ext_of (by simp only [tup, checkRule]; rw [if_neg (by simp [h1]), if_pos (by omega)])
  refine WP.skip ?_
  refine WP.seq ?_
  refine WP.seq ?_
  refine WP.region ?_
  refine Ops.y (v := .int .i64 _) (Y.assign rfl) ?_
  refine Ops.nil ?_
  refine WP.block ?_
  refine WP.loopE (σ := Nat) (fun k => [(0, l.val), (3, .pointer (some ⟨b3, 0, none⟩)), (6, .int .i64 k)]) (fun k w => Inv B B.h [box b3 r.enc 59] w ∧ k ≤ r.body.xs.length ∧ ∀ j, j < k → ∀ hj' : j < r.body.xs.length, checkAtom l.xs r.body.xs[j].atom = 0) (fun k => r.body.xs.length - k)
    ⟨0, ⟨rfl, rfl, rfl, trivial⟩, I, Nat.zero_le _, fun j hj => (by omega)⟩ ?_
  rintro k e w ⟨I, hk, hn⟩
  refine WP.seq ?_
  refine WP.seq ?_
  refine WP.region ?_
  refine Ops.y (v := .int .i64 _) (Y.move rfl) ?_
  refine Ops.y (v := .pointer (some ⟨_, _, none⟩)) (Y.fa fa_59_3 rfl) ?_
  refine Ops.y (v := .slice _ _ _) (Y.loadv ty_57 rfl (I.rdbox 0 rfl 4 1) rfl rfl) ?_
  refine Ops.y (v := .int .i64 _) (Y.lens Try.underlying57 rfl) ?_
  refine Ops.y (v := .bool (decide _)) (Y.lti rfl rfl) ?_
  refine Ops.nil ?_
  refine WP.cond_dec rfl (fun h3 => ?_) (fun h3 => ?_)
  · have hk' : k < r.body.xs.length := by omega
    have E1 := hr.body.is.at hk'
    refine WP.skip ?_
    refine WP.seq ?_
    refine WP.block ?_
    refine WP.seq ?_
    refine WP.region ?_
    refine Ops.y (v := .slice _ _ _) (Y.move rfl) ?_
    refine Ops.y (v := .pointer (some ⟨_, _, none⟩)) (Y.fa fa_59_3 rfl) ?_
    refine Ops.y (v := .slice _ _ _) (Y.loadv ty_57 rfl (I.rdbox 0 rfl 4 1) rfl rfl) ?_
    refine Ops.y (v := .int .i64 _) (Y.move rfl) ?_
    refine Ops.y (v := .pointer (some ⟨_, _, none⟩)) (Y.idxEl E1 Try.underlying57 Try.sizeOf66 rfl rfl (Int.natCast_nonneg _) rfl) ?_
    refine Ops.y (v := .pointer (some ⟨_, _, none⟩)) (Y.fa fa_66_1 rfl) ?_
    refine Ops.y (v := .agg #[_, _]) (Y.loadv ty_56 rfl (I.rd (E1.rd.part 1 2)) rfl rfl) ?_
    refine Ops.go (O.callv I Try.call83 (CheckAtom_ok _ I.base_ok l hl r.body.xs[k].atom (hr.body.each _ (List.getElem_mem hk'))) rfl ?_)
    intro w I
    refine Ops.y (v := .int .i64 _) (Y.assign rfl) ?_
    refine Ops.nil ?_
    refine WP.seq ?_
    refine WP.region ?_
    refine Ops.y (v := .int .i64 _) (Y.move rfl) ?_
    refine Ops.y (v := .bool (decide _)) (Y.nei rfl rfl) ?_
    refine Ops.nil ?_
    refine WP.cond_dec rfl (fun h4 => ?_) (fun h4 => ?_)
    · refine WP.seq ?_
      refine WP.region ?_
      refine Ops.y (v := .int .i64 _) (Y.move rfl) ?_
      refine Ops.y (v := .int .i64 _) (Y.assign rfl) ?_
      refine Ops.nil ?_
      refine WP.ret ?_
      repeat (first | refine thenE_ret ?_ | refine blockE_ret ?_)
      exact retQ.mk (vs := [.int .i64 _]) rfl ⟨rfl, trivial⟩ I.ext_of (by simp only [tup, checkRule]; rw [if_neg (by simp [h1]), if_neg (by omega), if_pos (by rw [bodyErr_at hk' hn h4]; exact h4), bodyErr_at hk' hn h4])
    refine WP.skip ?_
    refine WP.region ?_
    refine Ops.y (v := .int .i64 _) (Y.move rfl) ?_
    refine Ops.y (v := .int .i64 _) (Y.addi rfl rfl ⟨by omega, by omega⟩) ?_
    refine Ops.y (v := .int .i64 _) (Y.assign rfl) ?_
    refine Ops.nil ?_
    exact ⟨k + 1, ⟨⟨rfl, rfl, rfl, trivial⟩, I, by omega, fun j hj hj' => by
      rcases Nat.lt_succ_iff_lt_or_eq.1 hj with h' | h'
      · exact hn j h' hj'
      · subst h'; exact Decidable.not_not.1 h4⟩, by omega⟩
  have hb0 : bodyErr l.xs r.body.xs = 0 := bodyErr_ne.2 fun x hx => by obtain ⟨j, hj, rfl⟩ := List.getElem_of_mem hx; exact hn j (by omega) hj
  clear hn hk h3
  refine WP.exit ?_
  refine WP.seq ?_
  refine WP.seq ?_
  refine WP.region ?_
  refine Ops.y (v := .int .i64 _) (Y.assign rfl) ?_
  refine Ops.nil ?_
  refine WP.block ?_
  refine WP.loopE (σ := Nat) (fun k => [(0, l.val), (3, .pointer (some ⟨b3, 0, none⟩)), (8, .int .i64 k)]) (fun k w => Inv B B.h [box b3 r.enc 59] w ∧ k ≤ 3 ∧ ∀ j : Nat, j < k → freeVar r j = false) (fun k => 3 - k)
    ⟨0, ⟨rfl, rfl, rfl, trivial⟩, I, Nat.zero_le _, fun j hj => (by omega)⟩ ?_
  rintro k e w ⟨I, hk, hn⟩
  refine WP.seq ?_
  refine WP.seq ?_
  refine WP.region ?_
  refine Ops.y (v := .int .i64 _) (Y.move rfl) ?_
  refine Ops.y (v := .bool (decide _)) (Y.lti rfl rfl) ?_
  refine Ops.nil ?_
  refine WP.cond_dec rfl (fun h3 => ?_) (fun h3 => ?_)
  · refine WP.skip ?_
    refine WP.seq ?_
    refine WP.block ?_
    refine WP.seq ?_
    refine WP.region ?_
    refine Ops.y (v := .pointer (some ⟨_, _, none⟩)) (Y.fa0 fa_59_0 rfl) ?_
    refine Ops.y (v := .agg #[_, _]) (Y.loadv ty_56 rfl (I.rdbox 0 rfl 0 2) rfl rfl) ?_
    refine Ops.y (v := .int .i64 _) (Y.move rfl) ?_
    refine Ops.go (O.callv I Try.call84 (standsR_ok _ I.base_ok r.head hr.head k) rfl ?_)
    intro w I
    refine Ops.y (v := .bool _) (Y.assign rfl) ?_
    refine Ops.nil ?_
    refine WP.seq ?_
    refine WP.seq ?_
    refine WP.region ?_
    refine Ops.y (v := .int .i64 _) (Y.assign rfl) ?_
    refine Ops.nil ?_
    refine WP.block ?_
    refine WP.loopE (σ := Nat) (fun j => [(0, l.val), (3, .pointer (some ⟨b3, 0, none⟩)), (8, .int .i64 k), (9, .bool (standsIn r.head k || (r.body.xs.take j).any fun x => standsIn x.atom k)), (10, .int .i64 j)]) (fun j w => Inv B B.h [box b3 r.enc 59] w ∧ j ≤ r.body.xs.length) (fun j => r.body.xs.length - j)
      ⟨0, ⟨rfl, rfl, rfl, by simp; rfl, rfl, trivial⟩, I, Nat.zero_le _⟩ ?_
    rintro j e w ⟨I, hj⟩
    refine WP.seq ?_
    refine WP.seq ?_
    refine WP.region ?_
    refine Ops.y (v := .int .i64 _) (Y.move rfl) ?_
    refine Ops.y (v := .pointer (some ⟨_, _, none⟩)) (Y.fa fa_59_3 rfl) ?_
    refine Ops.y (v := .slice _ _ _) (Y.loadv ty_57 rfl (I.rdbox 0 rfl 4 1) rfl rfl) ?_
    refine Ops.y (v := .int .i64 _) (Y.lens Try.underlying57 rfl) ?_
    refine Ops.y (v := .bool (decide _)) (Y.lti rfl rfl) ?_
    refine Ops.nil ?_
    refine WP.cond_dec rfl (fun h4 => ?_) (fun h4 => ?_)
    · have hj' : j < r.body.xs.length := by omega
      have E1 := hr.body.is.at hj'
      refine WP.skip ?_
      refine WP.seq ?_
      refine WP.block ?_
      refine WP.cutL (σ := Unit) (fun _ => [(0, l.val), (3, .pointer (some ⟨b3, 0, none⟩)), (8, .int .i64 k), (9, .bool (standsIn r.head k || (r.body.xs.take (j + 1)).any fun x => standsIn x.atom k)), (10, .int .i64 j)]) (fun _ w => Inv B B.h [box b3 r.enc 59] w) ?_ ?_
      · rw [List.take_succ_eq_append_getElem hj', List.any_append, List.any_cons, List.any_nil, Bool.or_false, ← Bool.or_assoc]
        cases hs : (standsIn r.head k || (r.body.xs.take j).any fun x => standsIn x.atom k)
        · refine WP.region ?_
          refine Ops.y (v := .bool false) (Y.b (Y.move rfl) (rfl)) ?_
          refine Ops.y (v := .bool false) (Y.b (Y.move rfl) (rfl)) ?_
          refine Ops.ygt rfl (v := .pointer (some ⟨_, _, none⟩)) (Y.fa fa_59_3 rfl) ?_
          refine Ops.ygt rfl (v := .slice _ _ _) (Y.loadv ty_57 rfl (I.rdbox 0 rfl 4 1) rfl rfl) ?_
          refine Ops.ygt rfl (v := .int .i64 _) (Y.move rfl) ?_
          refine Ops.ygt rfl (v := .pointer (some ⟨_, _, none⟩)) (Y.idxEl E1 Try.underlying57 Try.sizeOf66 rfl rfl (Int.natCast_nonneg _) rfl) ?_
          refine Ops.ygt rfl (v := .pointer (some ⟨_, _, none⟩)) (Y.fa fa_66_1 rfl) ?_
          refine Ops.ygt rfl (v := .agg #[_, _]) (Y.loadv ty_56 rfl (I.rd (E1.rd.part 1 2)) rfl rfl) ?_
          refine Ops.ygt rfl (v := .int .i64 _) (Y.move rfl) ?_
          refine Ops.gt rfl (O.callv I Try.call84 (standsR_ok _ I.base_ok r.body.xs[j].atom (hr.body.each _ (List.getElem_mem hj')) k) rfl ?_)
          intro w I
          refine Ops.y (v := .bool _) (Y.pick_f rfl rfl) ?_
          refine Ops.y (v := .bool _) (Y.assign rfl) ?_
          refine Ops.nil ?_
          exact ⟨(), ⟨rfl, rfl, rfl, by rw [Bool.false_or]; rfl, rfl, trivial⟩, I⟩
        · refine WP.region ?_
          refine Ops.y (v := .bool true) (Y.b (Y.move rfl) (rfl)) ?_
          refine Ops.y (v := .bool true) (Y.b (Y.move rfl) (rfl)) ?_
          refine Ops.gf rfl ?_
          refine Ops.gf rfl ?_
          refine Ops.gf rfl ?_
          refine Ops.gf rfl ?_
          refine Ops.gf rfl ?_
          refine Ops.gf rfl ?_
          refine Ops.gf rfl ?_
          refine Ops.gf rfl ?_
          refine Ops.y (v := .bool _) (Y.pick_t rfl rfl) ?_
          refine Ops.y (v := .bool _) (Y.assign rfl) ?_
          refine Ops.nil ?_
          exact ⟨(), ⟨rfl, rfl, rfl, by rw [Bool.true_or]; rfl, rfl, trivial⟩, I⟩
      rintro _ e w I
      refine WP.region ?_
      refine Ops.y (v := .int .i64 _) (Y.move rfl) ?_
      refine Ops.y (v := .int .i64 _) (Y.addi rfl rfl ⟨by omega, by omega⟩) ?_
      refine Ops.y (v := .int .i64 _) (Y.assign rfl) ?_
      refine Ops.nil ?_
      exact ⟨j + 1, ⟨⟨rfl, rfl, rfl, rfl, rfl, trivial⟩, I, by omega⟩, by omega⟩
    have hj0 : j = r.body.xs.length := by omega
    have hfv : freeVar r k = ((standsIn r.head k || (r.body.xs.take j).any fun x => standsIn x.atom k) && !boundIn r k) := by rw [hj0, List.take_length]; rfl
    refine WP.exit ?_
    refine WP.seq ?_
    refine WP.cutL (σ := Unit) (fun _ => [(0, l.val), (3, .pointer (some ⟨b3, 0, none⟩)), (8, .int .i64 k), (73, .bool (freeVar r k))]) (fun _ w => Inv B B.h [box b3 r.enc 59] w) ?_ ?_
    · rw [hfv]
      cases hs : (standsIn r.head k || (r.body.xs.take j).any fun x => standsIn x.atom k)
      · refine WP.region ?_
        refine Ops.y (v := .bool false) (Y.b (Y.move rfl) (rfl)) ?_
        refine Ops.y (v := .bool false) (Y.b (Y.move rfl) (rfl)) ?_
        refine Ops.gf rfl ?_
        refine Ops.gf rfl ?_
        refine Ops.gf rfl ?_
        refine Ops.gf rfl ?_
        refine Ops.y (v := .bool _) (Y.pick_f rfl rfl) ?_
        refine Ops.nil ?_
        exact ⟨(), ⟨rfl, rfl, rfl, by rw [Bool.false_and]; rfl, trivial⟩, I⟩
      · refine WP.region ?_
        refine Ops.y (v := .bool true) (Y.b (Y.move rfl) (rfl)) ?_
        refine Ops.y (v := .bool true) (Y.b (Y.move rfl) (rfl)) ?_
        refine Ops.ygt rfl (v := .agg #[_, _, _, _, _]) (Y.loadv ty_59 rfl (I.rdbox 0 rfl 0 5) rfl rfl) ?_
        refine Ops.ygt rfl (v := .int .i64 _) (Y.move rfl) ?_
        refine Ops.gt rfl (O.callv I Try.call85 (boundR_ok _ I.base_ok r hr.body k) rfl ?_)
        intro w I
        refine Ops.ygt rfl (v := .bool _) (Y.not rfl) ?_
        refine Ops.y (v := .bool _) (Y.pick_t rfl rfl) ?_
        refine Ops.nil ?_
        exact ⟨(), ⟨rfl, rfl, rfl, by rw [Bool.true_and]; rfl, trivial⟩, I⟩
    rintro _ e w I
    refine WP.cond rfl (fun hf => ?_) (fun hf => ?_)
    · refine WP.seq ?_
      refine WP.region ?_
      refine Ops.y (v := .int .i64 _) (Y.assign rfl) ?_
      refine Ops.nil ?_
      refine WP.ret ?_
      repeat (first | refine thenE_ret ?_ | refine blockE_ret ?_)
      exact retQ.mk (vs := [.int .i64 _]) rfl ⟨rfl, trivial⟩ I.ext_of (by simp only [tup, checkRule]; rw [if_neg (by simp [h1]), if_neg (by omega), if_neg (by simp [hb0]), if_pos (free_any hf h1 hb0)])
    refine WP.skip ?_
    refine WP.region ?_
    refine Ops.y (v := .int .i64 _) (Y.move rfl) ?_
    refine Ops.y (v := .int .i64 _) (Y.addi rfl rfl ⟨by omega, by omega⟩) ?_
    refine Ops.y (v := .int .i64 _) (Y.assign rfl) ?_
    refine Ops.nil ?_
    exact ⟨k + 1, ⟨⟨rfl, rfl, rfl, trivial⟩, I, by omega, fun q hq => by
      rcases Nat.lt_succ_iff_lt_or_eq.1 hq with h' | h'
      · exact hn q h'
      · subst h'; exact hf⟩, by omega⟩
  have hfr : (freeVar r 0 || freeVar r 1 || freeVar r 2) = false := by
    have g0 := hn 0 (by omega); have g1 := hn 1 (by omega); have g2 := hn 2 (by omega)
    simp only [Bool.or_eq_false_iff]; exact ⟨⟨g0, g1⟩, g2⟩
  clear hn
  refine WP.exit ?_
  refine WP.seq ?_
  refine WP.seq ?_
  refine WP.region ?_
  refine Ops.y (v := .pointer (some ⟨_, _, none⟩)) (Y.fa fa_59_1 rfl) ?_
  refine Ops.y (v := .int .i64 _) (Y.loadv ty_3 rfl (I.rdbox 0 rfl 2 1) rfl rfl) ?_
  refine Ops.y (v := .pointer (some ⟨_, _, none⟩)) (Y.fa fa_59_3 rfl) ?_
  refine Ops.y (v := .slice _ _ _) (Y.loadv ty_57 rfl (I.rdbox 0 rfl 4 1) rfl rfl) ?_
  refine Ops.y (v := .int .i64 _) (Y.lens Try.underlying57 rfl) ?_
  refine Ops.y (v := .int .i64 _) (Y.subi rfl rfl ⟨by omega, by omega⟩) ?_
  refine Ops.go (O.callv I Try.call30 (within_ok _ I.base_ok _ _ _) rfl ?_)
  intro w I
  refine Ops.y (v := .bool (decide _)) (Y.notd rfl) ?_
  refine Ops.nil ?_
  refine WP.cond_dec rfl (fun h5 => ?_) (fun h5 => ?_)
  · refine WP.seq ?_
    refine WP.region ?_
    refine Ops.y (v := .int .i64 _) (Y.assign rfl) ?_
    refine Ops.nil ?_
    refine WP.ret ?_
    repeat (first | refine thenE_ret ?_ | refine blockE_ret ?_)
    exact retQ.mk (vs := [.int .i64 _]) rfl ⟨rfl, trivial⟩ I.ext_of (by simp only [tup, checkRule, within] at *; rw [if_neg (by simp [h1]), if_neg (by omega), if_neg (by simp [hb0]), hfr, if_neg (by simp), if_pos (by omega)])
  have h5' : ¬ (r.src < -1 ∨ (r.body.xs.length : Int) ≤ r.src) := by simp only [within, Decidable.not_not] at h5; omega
  have EH := hl.at (i := r.head.pred.toNat) (by omega)
  have eH := predOf_getE hh.1 hh.2
  refine WP.skip ?_
  refine WP.seq ?_
  refine WP.region ?_
  refine Ops.y (v := .slice _ _ _) (Y.move rfl) ?_
  refine Ops.y (v := .pointer (some ⟨_, _, none⟩)) (Y.fa0 fa_59_0 rfl) ?_
  refine Ops.y (v := .pointer (some ⟨_, _, none⟩)) (Y.fa0 fa_56_0 rfl) ?_
  refine Ops.y (v := .int .i64 _) (Y.loadv ty_3 rfl (I.rdbox 0 rfl 0 1) rfl rfl) ?_
  refine Ops.y (v := .pointer (some ⟨_, _, none⟩)) (Y.idxEl EH Try.underlying22 Try.sizeOf51 rfl rfl hh.1 rfl) ?_
  refine Ops.y (v := .pointer (some ⟨_, _, none⟩)) (Y.fa fa_51_2 rfl) ?_
  refine Ops.y (v := .int .i64 _) (Y.loadv ty_3 rfl (I.rd (EH.rd.part 2 1)) rfl rfl) ?_
  refine Ops.y (v := .int .i64 _) (Y.assign rfl) ?_
  refine Ops.nil ?_
  refine WP.seq ?_
  refine WP.seq ?_
  refine WP.cutL (σ := Unit) (fun _ => [(0, l.val), (3, .pointer (some ⟨b3, 0, none⟩)), (11, .int .i64 (predOf l.xs r.head.pred).kind), (100, .bool (decide ((predOf l.xs r.head.pred).kind = 0 ∧ (r.src ≠ -1 ∨ r.n ≠ 0))))]) (fun _ w => Inv B B.h [box b3 r.enc 59] w) ?_ ?_
  · rw [eH]
    by_cases c1 : (l.xs[r.head.pred.toNat]'(by omega)).kind = 0
    · by_cases c2 : r.src ≠ -1
      · refine WP.region ?_
        refine Ops.y (v := .int .i64 _) (Y.move rfl) ?_
        refine Ops.y (v := .bool true) (Y.dec_t (Y.eqi rfl rfl) (c1)) ?_
        refine Ops.y (v := .bool _) (Y.move rfl) ?_
        refine Ops.ygt rfl (v := .pointer (some ⟨_, _, none⟩)) (Y.fa fa_59_1 rfl) ?_
        refine Ops.ygt rfl (v := .int .i64 _) (Y.loadv ty_3 rfl (I.rdbox 0 rfl 2 1) rfl rfl) ?_
        refine Ops.ygt rfl (v := .bool true) (Y.dec_t (Y.nei rfl rfl) (c2)) ?_
        refine Ops.ygt rfl (v := .bool _) (Y.move rfl) ?_
        refine Ops.gf rfl ?_
        refine Ops.gf rfl ?_
        refine Ops.gf rfl ?_
        refine Ops.ygt rfl (v := .bool _) (Y.pick_t rfl rfl) ?_
        refine Ops.y (v := .bool _) (Y.pick_t rfl rfl) ?_
        refine Ops.nil ?_
        exact ⟨(), ⟨rfl, rfl, rfl, bT ⟨c1, .inl c2⟩, trivial⟩, I⟩
      · by_cases c3 : r.n ≠ 0
        · refine WP.region ?_
          refine Ops.y (v := .int .i64 _) (Y.move rfl) ?_
          refine Ops.y (v := .bool true) (Y.dec_t (Y.eqi rfl rfl) (c1)) ?_
          refine Ops.y (v := .bool _) (Y.move rfl) ?_
          refine Ops.ygt rfl (v := .pointer (some ⟨_, _, none⟩)) (Y.fa fa_59_1 rfl) ?_
          refine Ops.ygt rfl (v := .int .i64 _) (Y.loadv ty_3 rfl (I.rdbox 0 rfl 2 1) rfl rfl) ?_
          refine Ops.ygt rfl (v := .bool false) (Y.dec_f (Y.nei rfl rfl) (c2)) ?_
          refine Ops.ygt rfl (v := .bool _) (Y.move rfl) ?_
          refine Ops.ygt rfl (v := .pointer (some ⟨_, _, none⟩)) (Y.fa fa_59_2 rfl) ?_
          refine Ops.ygt rfl (v := .int .i64 _) (Y.loadv ty_3 rfl (I.rdbox 0 rfl 3 1) rfl rfl) ?_
          refine Ops.ygt rfl (v := .bool true) (Y.dec_t (Y.nei rfl rfl) (c3)) ?_
          refine Ops.ygt rfl (v := .bool _) (Y.pick_f rfl rfl) ?_
          refine Ops.y (v := .bool _) (Y.pick_t rfl rfl) ?_
          refine Ops.nil ?_
          exact ⟨(), ⟨rfl, rfl, rfl, bT ⟨c1, .inr c3⟩, trivial⟩, I⟩
        · refine WP.region ?_
          refine Ops.y (v := .int .i64 _) (Y.move rfl) ?_
          refine Ops.y (v := .bool true) (Y.dec_t (Y.eqi rfl rfl) (c1)) ?_
          refine Ops.y (v := .bool _) (Y.move rfl) ?_
          refine Ops.ygt rfl (v := .pointer (some ⟨_, _, none⟩)) (Y.fa fa_59_1 rfl) ?_
          refine Ops.ygt rfl (v := .int .i64 _) (Y.loadv ty_3 rfl (I.rdbox 0 rfl 2 1) rfl rfl) ?_
          refine Ops.ygt rfl (v := .bool false) (Y.dec_f (Y.nei rfl rfl) (c2)) ?_
          refine Ops.ygt rfl (v := .bool _) (Y.move rfl) ?_
          refine Ops.ygt rfl (v := .pointer (some ⟨_, _, none⟩)) (Y.fa fa_59_2 rfl) ?_
          refine Ops.ygt rfl (v := .int .i64 _) (Y.loadv ty_3 rfl (I.rdbox 0 rfl 3 1) rfl rfl) ?_
          refine Ops.ygt rfl (v := .bool false) (Y.dec_f (Y.nei rfl rfl) (c3)) ?_
          refine Ops.ygt rfl (v := .bool _) (Y.pick_f rfl rfl) ?_
          refine Ops.y (v := .bool _) (Y.pick_t rfl rfl) ?_
          refine Ops.nil ?_
          exact ⟨(), ⟨rfl, rfl, rfl, bF (fun h => h.2.elim c2 c3), trivial⟩, I⟩
    · refine WP.region ?_
      refine Ops.y (v := .int .i64 _) (Y.move rfl) ?_
      refine Ops.y (v := .bool false) (Y.dec_f (Y.eqi rfl rfl) (c1)) ?_
      refine Ops.y (v := .bool _) (Y.move rfl) ?_
      refine Ops.gf rfl ?_
      refine Ops.gf rfl ?_
      refine Ops.gf rfl ?_
      refine Ops.gf rfl ?_
      refine Ops.gf rfl ?_
      refine Ops.gf rfl ?_
      refine Ops.gf rfl ?_
      refine Ops.gf rfl ?_
      refine Ops.y (v := .bool _) (Y.pick_f rfl rfl) ?_
      refine Ops.nil ?_
      exact ⟨(), ⟨rfl, rfl, rfl, bF (fun h => c1 h.1), trivial⟩, I⟩
  rintro _ e w I
  refine WP.cond_dec rfl (fun d1 => ?_) (fun d1 => ?_)
  · refine WP.seq ?_
    refine WP.region ?_
    refine Ops.y (v := .int .i64 _) (Y.assign rfl) ?_
    refine Ops.nil ?_
    refine WP.ret ?_
    repeat (first | refine thenE_ret ?_ | refine blockE_ret ?_)
    exact retQ.mk (vs := [.int .i64 _]) rfl ⟨rfl, trivial⟩ I.ext_of (by simp only [tup, checkRule]; rw [if_neg (by simp [h1]), if_neg (by omega), if_neg (by simp [hb0]), hfr, if_neg (by simp), if_neg h5', if_pos d1])
  refine WP.skip ?_
  refine WP.seq ?_
  refine WP.seq ?_
  refine WP.cutL (σ := Unit) (fun _ => [(3, .pointer (some ⟨b3, 0, none⟩)), (128, .bool (decide (0 ≤ r.src ∧ ((litOf r r.src).neg = true ∨ (predOf l.xs (litOf r r.src).atom.pred).kind ≠ (predOf l.xs r.head.pred).kind))))]) (fun _ w => Inv B B.h [box b3 r.enc 59] w) ?_ ?_
  · by_cases c1 : 0 ≤ r.src
    · have hs1 : r.src.toNat < r.body.xs.length := by omega
      have EB := hr.body.is.at hs1
      rw [litOf_get c1 (by omega)]
      have hap := checkAtom_in (bodyErr_ne.1 hb0 _ (List.getElem_mem hs1))
      have EP := hl.at (i := (r.body.xs[r.src.toNat]'hs1).atom.pred.toNat) (by omega)
      rw [predOf_getE hap.1 hap.2]
      by_cases c2 : (r.body.xs[r.src.toNat]'hs1).neg = true
      · refine WP.region ?_
        refine Ops.y (v := .pointer (some ⟨_, _, none⟩)) (Y.fa fa_59_1 rfl) ?_
        refine Ops.y (v := .int .i64 _) (Y.loadv ty_3 rfl (I.rdbox 0 rfl 2 1) rfl rfl) ?_
        refine Ops.y (v := .bool true) (Y.dec_t (Y.gei rfl rfl) (c1)) ?_
        refine Ops.y (v := .bool _) (Y.move rfl) ?_
        refine Ops.ygt rfl (v := .pointer (some ⟨_, _, none⟩)) (Y.fa fa_59_3 rfl) ?_
        refine Ops.ygt rfl (v := .slice _ _ _) (Y.loadv ty_57 rfl (I.rdbox 0 rfl 4 1) rfl rfl) ?_
        refine Ops.ygt rfl (v := .pointer (some ⟨_, _, none⟩)) (Y.fa fa_59_1 rfl) ?_
        refine Ops.ygt rfl (v := .int .i64 _) (Y.loadv ty_3 rfl (I.rdbox 0 rfl 2 1) rfl rfl) ?_
        refine Ops.ygt rfl (v := .pointer (some ⟨_, _, none⟩)) (Y.idxEl EB Try.underlying57 Try.sizeOf66 rfl rfl c1 rfl) ?_
        refine Ops.ygt rfl (v := .pointer (some ⟨_, _, none⟩)) (Y.fa0 fa_66_0 rfl) ?_
        refine Ops.ygt rfl (v := .bool true) (Y.b (Y.loadv ty_4 rfl (I.rd (EB.rd.part 0 1)) rfl rfl) (c2)) ?_
        refine Ops.ygt rfl (v := .bool _) (Y.move rfl) ?_
        refine Ops.gf rfl ?_
        refine Ops.gf rfl ?_
        refine Ops.gf rfl ?_
        refine Ops.gf rfl ?_
        refine Ops.gf rfl ?_
        refine Ops.gf rfl ?_
        refine Ops.gf rfl ?_
        refine Ops.gf rfl ?_
        refine Ops.gf rfl ?_
        refine Ops.gf rfl ?_
        refine Ops.gf rfl ?_
        refine Ops.gf rfl ?_
        refine Ops.gf rfl ?_
        refine Ops.gf rfl ?_
        refine Ops.ygt rfl (v := .bool _) (Y.pick_t rfl rfl) ?_
        refine Ops.y (v := .bool _) (Y.pick_t rfl rfl) ?_
        refine Ops.nil ?_
        exact ⟨(), ⟨rfl, bT ⟨c1, .inl c2⟩, trivial⟩, I⟩
      · by_cases c3 : (l.xs[(r.body.xs[r.src.toNat]'hs1).atom.pred.toNat]'(by omega)).kind ≠ (predOf l.xs r.head.pred).kind
        · refine WP.region ?_
          refine Ops.y (v := .pointer (some ⟨_, _, none⟩)) (Y.fa fa_59_1 rfl) ?_
          refine Ops.y (v := .int .i64 _) (Y.loadv ty_3 rfl (I.rdbox 0 rfl 2 1) rfl rfl) ?_
          refine Ops.y (v := .bool true) (Y.dec_t (Y.gei rfl rfl) (c1)) ?_
          refine Ops.y (v := .bool _) (Y.move rfl) ?_
          refine Ops.ygt rfl (v := .pointer (some ⟨_, _, none⟩)) (Y.fa fa_59_3 rfl) ?_
          refine Ops.ygt rfl (v := .slice _ _ _) (Y.loadv ty_57 rfl (I.rdbox 0 rfl 4 1) rfl rfl) ?_
          refine Ops.ygt rfl (v := .pointer (some ⟨_, _, none⟩)) (Y.fa fa_59_1 rfl) ?_
          refine Ops.ygt rfl (v := .int .i64 _) (Y.loadv ty_3 rfl (I.rdbox 0 rfl 2 1) rfl rfl) ?_
          refine Ops.ygt rfl (v := .pointer (some ⟨_, _, none⟩)) (Y.idxEl EB Try.underlying57 Try.sizeOf66 rfl rfl c1 rfl) ?_
          refine Ops.ygt rfl (v := .pointer (some ⟨_, _, none⟩)) (Y.fa0 fa_66_0 rfl) ?_
          refine Ops.ygt rfl (v := .bool false) (Y.b (Y.loadv ty_4 rfl (I.rd (EB.rd.part 0 1)) rfl rfl) ((by simpa using c2))) ?_
          refine Ops.ygt rfl (v := .bool _) (Y.move rfl) ?_
          refine Ops.ygt rfl (v := .slice _ _ _) (Y.move rfl) ?_
          refine Ops.ygt rfl (v := .pointer (some ⟨_, _, none⟩)) (Y.fa fa_59_3 rfl) ?_
          refine Ops.ygt rfl (v := .slice _ _ _) (Y.loadv ty_57 rfl (I.rdbox 0 rfl 4 1) rfl rfl) ?_
          refine Ops.ygt rfl (v := .pointer (some ⟨_, _, none⟩)) (Y.fa fa_59_1 rfl) ?_
          refine Ops.ygt rfl (v := .int .i64 _) (Y.loadv ty_3 rfl (I.rdbox 0 rfl 2 1) rfl rfl) ?_
          refine Ops.ygt rfl (v := .pointer (some ⟨_, _, none⟩)) (Y.idxEl EB Try.underlying57 Try.sizeOf66 rfl rfl c1 rfl) ?_
          refine Ops.ygt rfl (v := .pointer (some ⟨_, _, none⟩)) (Y.fa fa_66_1 rfl) ?_
          refine Ops.ygt rfl (v := .pointer (some ⟨_, _, none⟩)) (Y.fa0 fa_56_0 rfl) ?_
          refine Ops.ygt rfl (v := .int .i64 _) (Y.loadv ty_3 rfl (I.rd (EB.rd.part 1 1)) rfl rfl) ?_
          refine Ops.ygt rfl (v := .pointer (some ⟨_, _, none⟩)) (Y.idxEl EP Try.underlying22 Try.sizeOf51 rfl rfl hap.1 rfl) ?_
          refine Ops.ygt rfl (v := .pointer (some ⟨_, _, none⟩)) (Y.fa fa_51_2 rfl) ?_
          refine Ops.ygt rfl (v := .int .i64 _) (Y.loadv ty_3 rfl (I.rd (EP.rd.part 2 1)) rfl rfl) ?_
          refine Ops.ygt rfl (v := .int .i64 _) (Y.move rfl) ?_
          refine Ops.ygt rfl (v := .bool true) (Y.dec_t (Y.nei rfl rfl) (c3)) ?_
          refine Ops.ygt rfl (v := .bool _) (Y.pick_f rfl rfl) ?_
          refine Ops.y (v := .bool _) (Y.pick_t rfl rfl) ?_
          refine Ops.nil ?_
          exact ⟨(), ⟨rfl, bT ⟨c1, .inr c3⟩, trivial⟩, I⟩
        · refine WP.region ?_
          refine Ops.y (v := .pointer (some ⟨_, _, none⟩)) (Y.fa fa_59_1 rfl) ?_
          refine Ops.y (v := .int .i64 _) (Y.loadv ty_3 rfl (I.rdbox 0 rfl 2 1) rfl rfl) ?_
          refine Ops.y (v := .bool true) (Y.dec_t (Y.gei rfl rfl) (c1)) ?_
          refine Ops.y (v := .bool _) (Y.move rfl) ?_
          refine Ops.ygt rfl (v := .pointer (some ⟨_, _, none⟩)) (Y.fa fa_59_3 rfl) ?_
          refine Ops.ygt rfl (v := .slice _ _ _) (Y.loadv ty_57 rfl (I.rdbox 0 rfl 4 1) rfl rfl) ?_
          refine Ops.ygt rfl (v := .pointer (some ⟨_, _, none⟩)) (Y.fa fa_59_1 rfl) ?_
          refine Ops.ygt rfl (v := .int .i64 _) (Y.loadv ty_3 rfl (I.rdbox 0 rfl 2 1) rfl rfl) ?_
          refine Ops.ygt rfl (v := .pointer (some ⟨_, _, none⟩)) (Y.idxEl EB Try.underlying57 Try.sizeOf66 rfl rfl c1 rfl) ?_
          refine Ops.ygt rfl (v := .pointer (some ⟨_, _, none⟩)) (Y.fa0 fa_66_0 rfl) ?_
          refine Ops.ygt rfl (v := .bool false) (Y.b (Y.loadv ty_4 rfl (I.rd (EB.rd.part 0 1)) rfl rfl) ((by simpa using c2))) ?_
          refine Ops.ygt rfl (v := .bool _) (Y.move rfl) ?_
          refine Ops.ygt rfl (v := .slice _ _ _) (Y.move rfl) ?_
          refine Ops.ygt rfl (v := .pointer (some ⟨_, _, none⟩)) (Y.fa fa_59_3 rfl) ?_
          refine Ops.ygt rfl (v := .slice _ _ _) (Y.loadv ty_57 rfl (I.rdbox 0 rfl 4 1) rfl rfl) ?_
          refine Ops.ygt rfl (v := .pointer (some ⟨_, _, none⟩)) (Y.fa fa_59_1 rfl) ?_
          refine Ops.ygt rfl (v := .int .i64 _) (Y.loadv ty_3 rfl (I.rdbox 0 rfl 2 1) rfl rfl) ?_
          refine Ops.ygt rfl (v := .pointer (some ⟨_, _, none⟩)) (Y.idxEl EB Try.underlying57 Try.sizeOf66 rfl rfl c1 rfl) ?_
          refine Ops.ygt rfl (v := .pointer (some ⟨_, _, none⟩)) (Y.fa fa_66_1 rfl) ?_
          refine Ops.ygt rfl (v := .pointer (some ⟨_, _, none⟩)) (Y.fa0 fa_56_0 rfl) ?_
          refine Ops.ygt rfl (v := .int .i64 _) (Y.loadv ty_3 rfl (I.rd (EB.rd.part 1 1)) rfl rfl) ?_
          refine Ops.ygt rfl (v := .pointer (some ⟨_, _, none⟩)) (Y.idxEl EP Try.underlying22 Try.sizeOf51 rfl rfl hap.1 rfl) ?_
          refine Ops.ygt rfl (v := .pointer (some ⟨_, _, none⟩)) (Y.fa fa_51_2 rfl) ?_
          refine Ops.ygt rfl (v := .int .i64 _) (Y.loadv ty_3 rfl (I.rd (EP.rd.part 2 1)) rfl rfl) ?_
          refine Ops.ygt rfl (v := .int .i64 _) (Y.move rfl) ?_
          refine Ops.ygt rfl (v := .bool false) (Y.dec_f (Y.nei rfl rfl) (c3)) ?_
          refine Ops.ygt rfl (v := .bool _) (Y.pick_f rfl rfl) ?_
          refine Ops.y (v := .bool _) (Y.pick_t rfl rfl) ?_
          refine Ops.nil ?_
          exact ⟨(), ⟨rfl, bF (fun h => h.2.elim c2 c3), trivial⟩, I⟩
    · refine WP.region ?_
      refine Ops.y (v := .pointer (some ⟨_, _, none⟩)) (Y.fa fa_59_1 rfl) ?_
      refine Ops.y (v := .int .i64 _) (Y.loadv ty_3 rfl (I.rdbox 0 rfl 2 1) rfl rfl) ?_
      refine Ops.y (v := .bool false) (Y.dec_f (Y.gei rfl rfl) (c1)) ?_
      refine Ops.y (v := .bool _) (Y.move rfl) ?_
      refine Ops.gf rfl ?_
      refine Ops.gf rfl ?_
      refine Ops.gf rfl ?_
      refine Ops.gf rfl ?_
      refine Ops.gf rfl ?_
      refine Ops.gf rfl ?_
      refine Ops.gf rfl ?_
      refine Ops.gf rfl ?_
      refine Ops.gf rfl ?_
      refine Ops.gf rfl ?_
      refine Ops.gf rfl ?_
      refine Ops.gf rfl ?_
      refine Ops.gf rfl ?_
      refine Ops.gf rfl ?_
      refine Ops.gf rfl ?_
      refine Ops.gf rfl ?_
      refine Ops.gf rfl ?_
      refine Ops.gf rfl ?_
      refine Ops.gf rfl ?_
      refine Ops.gf rfl ?_
      refine Ops.gf rfl ?_
      refine Ops.gf rfl ?_
      refine Ops.gf rfl ?_
      refine Ops.y (v := .bool _) (Y.pick_f rfl rfl) ?_
      refine Ops.nil ?_
      exact ⟨(), ⟨rfl, bF (fun h => c1 h.1), trivial⟩, I⟩
  rintro _ e w I
  refine WP.cond_dec rfl (fun d2 => ?_) (fun d2 => ?_)
  · refine WP.seq ?_
    refine WP.region ?_
    refine Ops.y (v := .int .i64 _) (Y.assign rfl) ?_
    refine Ops.nil ?_
    refine WP.ret ?_
    repeat (first | refine thenE_ret ?_ | refine blockE_ret ?_)
    exact retQ.mk (vs := [.int .i64 _]) rfl ⟨rfl, trivial⟩ I.ext_of (by simp only [tup, checkRule]; rw [if_neg (by simp [h1]), if_neg (by omega), if_neg (by simp [hb0]), hfr, if_neg (by simp), if_neg h5', if_neg d1, if_pos d2])
  refine WP.skip ?_
  refine WP.seq ?_
  refine WP.seq ?_
  refine WP.region ?_
  refine Ops.y (v := .pointer (some ⟨_, _, none⟩)) (Y.fa fa_59_2 rfl) ?_
  refine Ops.y (v := .int .i64 _) (Y.loadv ty_3 rfl (I.rdbox 0 rfl 3 1) rfl rfl) ?_
  refine Ops.go (O.callv I Try.call30 (within_ok _ I.base_ok _ _ _) rfl ?_)
  intro w I
  refine Ops.y (v := .bool (decide _)) (Y.notd rfl) ?_
  refine Ops.nil ?_
  refine WP.cond_dec rfl (fun h6 => ?_) (fun h6 => ?_)
  · refine WP.seq ?_
    refine WP.region ?_
    refine Ops.y (v := .int .i64 _) (Y.assign rfl) ?_
    refine Ops.nil ?_
    refine WP.ret ?_
    repeat (first | refine thenE_ret ?_ | refine blockE_ret ?_)
    exact retQ.mk (vs := [.int .i64 _]) rfl ⟨rfl, trivial⟩ I.ext_of (by simp only [tup, checkRule]; rw [if_neg (by simp [h1]), if_neg (by omega), if_neg (by simp [hb0]), hfr, if_neg (by simp), if_neg h5', if_neg d1, if_neg d2, if_pos (by simp only [within] at h6; omega)])
  refine WP.skip ?_
  refine WP.seq ?_
  refine WP.region ?_
  refine Ops.y (v := .int .i64 _) (Y.assign rfl) ?_
  refine Ops.nil ?_
  refine WP.ret ?_
  repeat (first | refine thenE_ret ?_ | refine blockE_ret ?_)
  exact retQ.mk (vs := [.int .i64 _]) rfl ⟨rfl, trivial⟩ I.ext_of (by simp only [tup, checkRule]; rw [if_neg (by simp [h1]), if_neg (by omega), if_neg (by simp [hb0]), hfr, if_neg (by simp), if_neg h5', if_neg d1, if_neg d2, if_neg (by simp only [within] at h6; omega)])
end Go.TF
