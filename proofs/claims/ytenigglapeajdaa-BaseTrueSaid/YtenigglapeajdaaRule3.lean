/- The contract of rule.Check. -/
import Derived.Test.YtenigglapeajdaaRule2
namespace Go.TF
open Go Go.RowKit Go.Proofs
set_option maxRecDepth 10000

theorem checkAtom_in {l : List Prd} {a : Atm} (h : checkAtom l a = 0) : 0 ≤ a.pred ∧ a.pred < l.length := by
  unfold checkAtom at h
  split at h
  · cases h
  · omega
theorem free_any {l : List Prd} {r : Rul} {v : Int} (h : freeVar r v = true) (h0 : checkAtom l r.head = 0) (h1 : bodyErr l r.body.xs = 0) : (freeVar r 0 || freeVar r 1 || freeVar r 2) = true := by
  have hv : v = 0 ∨ v = 1 ∨ v = 2 := by
    have := h
    simp only [freeVar, Bool.and_eq_true, Bool.or_eq_true, List.any_eq_true] at this
    rcases this.1 with hs | ⟨x, hx, hs⟩
    · exact standsIn_small h0 hs
    · exact standsIn_small (bodyErr_ne.1 h1 x hx) hs
  rcases hv with rfl | rfl | rfl <;> simp [h]
theorem free_none {r : Rul} (h : ∀ v, cntA (negs r.body.xs ++ [r.head]) v ≠ 0 → cntA (poss r.body.xs) v ≠ 0) : (freeVar r 0 || freeVar r 1 || freeVar r 2) = false := by
  have : ∀ v, freeVar r v = false := fun v => by
    cases hf : freeVar r v
    · rfl
    · have := freeVar_iff.1 hf; exact absurd this.2 (h v this.1)
  simp [this]
theorem litOf_get {r : Rul} {k : Int} (h0 : 0 ≤ k) (h1 : k < r.body.xs.length) : litOf r k = r.body.xs[k.toNat]'(by omega) := by
  simp [litOf, List.getD_eq_getElem?_getD, show k.toNat < r.body.xs.length by omega]
theorem predOf_getE {l : List Prd} {p : Int} (h0 : 0 ≤ p) (h1 : p < l.length) : predOf l p = l[p.toNat]'(by omega) := by
  simp [predOf, List.getD_eq_getElem?_getD, show p.toNat < l.length by omega]
set_option maxHeartbeats 1000000 in
theorem RCheck_ok (B : Base) (hB : B.ok) (l : Sl Prd) (hl : Prds l B.h) (r : Rul) (hr : r.In B.h) : Fn Try.prog 53 [l.val, r.val] B (fun v _ => v = .int .i64 (checkRule l.xs r)) := by
  have hsm := hl.small
  have hsb := hr.body.is.small
  refine Fn.of Try.func53 rfl Try.ntmps53 (by kernel_rfl) (by simp) ?_
  intro e
  have I := Inv.start hB
  refine WP.seq ?_
  refine WP.region ?_
  refine Ops.go (O.box (v := .agg #[_, _, _, _, _]) I rfl rfl ?_)
  intro b3 w I
  refine Ops.y (v := .int .i64 _) (Y.assign rfl) ?_
  refine Ops.nil ?_
  refine WP.seq ?_
  refine WP.seq ?_
  refine WP.region ?_
  refine Ops.y (v := .slice _ _ _) (Y.move rfl) ?_
  refine Ops.y (v := .pointer (some ⟨_, _, none⟩)) (Y.fa0 fa_59_0 rfl) ?_
  refine Ops.y (v := .agg #[_, _]) (Y.loadv ty_56 rfl (I.rdbox 0 rfl 0 2) rfl rfl) ?_
  refine Ops.go (O.callv I Try.call79 (Atom_ok _ I.base_ok l hl r.head hr.head) rfl ?_)
  intro w I
  refine Ops.y (v := .int .i64 _) (Y.assign rfl) ?_
  refine Ops.nil ?_
  refine WP.seq ?_
  refine WP.region ?_
  refine Ops.y (v := .int .i64 _) (Y.move rfl) ?_
  refine Ops.y (v := .bool (decide _)) (Y.nei rfl rfl) ?_
  refine Ops.nil ?_
  refine WP.cond_dec rfl (fun h1 => ?_) (fun h1 => ?_)
  · refine WP.seq ?_
    refine WP.region ?_
    refine Ops.y (v := .int .i64 _) (Y.move rfl) ?_
    refine Ops.y (v := .int .i64 _) (Y.assign rfl) ?_
    refine Ops.nil ?_
    refine WP.ret ?_
    repeat (first | refine thenE_ret ?_ | refine blockE_ret ?_)
    exact retQ.mk (vs := [.int .i64 _]) rfl ⟨rfl, trivial⟩ I.ext_of (by simp only [tup, checkRule]; rw [if_pos h1])
  have h1 := Decidable.not_not.1 h1
  have hh := checkAtom_in h1
  refine WP.skip ?_
  refine WP.seq ?_
  refine WP.seq ?_
  refine WP.region ?_
  refine Ops.y (v := .pointer (some ⟨_, _, none⟩)) (Y.fa fa_59_3 rfl) ?_
  refine Ops.y (v := .slice _ _ _) (Y.loadv ty_57 rfl (I.rdbox 0 rfl 4 1) rfl rfl) ?_
  refine Ops.y (v := .int .i64 _) (Y.lens Try.underlying57 rfl) ?_
  refine Ops.y (v := .bool (decide _)) (Y.gti rfl rfl) ?_
  refine Ops.nil ?_
  refine WP.cond_dec rfl (fun h2 => ?_) (fun h2 => ?_)
  · refine WP.seq ?_
    refine WP.region ?_
    refine Ops.y (v := .int .i64 _) (Y.assign rfl) ?_
    refine Ops.nil ?_
    refine WP.ret ?_
    repeat (first | refine thenE_ret ?_ | refine blockE_ret ?_)
    exact retQ.mk (vs := [.int .i64 _]) rfl ⟨rfl, trivial⟩ I.ext_of (by simp only [tup, checkRule]; rw [if_neg (by simp [h1]), if_pos (by omega)])
  refine WP.skip ?_
  refine WP.seq ?_
  refine WP.seq ?_
  refine WP.region ?_
  refine Ops.y (v := .pointer (some ⟨_, _, none⟩)) (Y.fa fa_59_3 rfl) ?_
  refine Ops.y (v := .slice _ _ _) (Y.loadv ty_57 rfl (I.rdbox 0 rfl 4 1) rfl rfl) ?_
  refine Ops.y (v := .int .i64 _) (Y.lens Try.underlying57 rfl) ?_
  refine Ops.y (v := .int .i64 _) (Y.move rfl) ?_
  refine Ops.nil ?_
  refine WP.block ?_
  refine WP.loopE (σ := Nat) (fun k => [(0, l.val), (3, .pointer (some ⟨b3, 0, none⟩)), (26, r.body.val), (27, .int .i64 r.body.xs.length), (28, .int .i64 k)]) (fun k w => Inv B B.h [box b3 r.enc 59] w ∧ k ≤ r.body.xs.length ∧ ∀ j, j < k → ∀ hj' : j < r.body.xs.length, checkAtom l.xs r.body.xs[j].atom = 0) (fun k => r.body.xs.length - k)
    ⟨0, ⟨rfl, rfl, rfl, rfl, rfl, trivial⟩, I, Nat.zero_le _, fun j hj => (by omega)⟩ ?_
  rintro k e w ⟨I, hk, hn⟩
  refine WP.seq ?_
  refine WP.region ?_
  refine Ops.y (v := .bool (decide _)) (Y.lti rfl rfl) ?_
  refine Ops.nil ?_
  refine WP.seq ?_
  refine WP.cond_dec rfl (fun h3 => ?_) (fun h3 => ?_)
  · have hk' : k < r.body.xs.length := by omega
    have E1 := hr.body.is.at hk'
    refine WP.skip ?_
    refine WP.seq ?_
    refine WP.block ?_
    refine WP.seq ?_
    refine WP.region ?_
    refine Ops.y (v := .pointer (some ⟨_, _, none⟩)) (Y.idxEl E1 Try.underlying57 Try.sizeOf66 rfl rfl (Int.natCast_nonneg _) rfl) ?_
    refine Ops.y (v := .agg #[_, _, _]) (Y.loadv ty_66 rfl (I.rd (E1.rd.part 0 3)) rfl rfl) ?_
    refine Ops.go (O.alloc I Try.zeroValue66 rfl ?_)
    intro b7 w I
    refine Ops.go (O.store (v := .agg #[_, _, _]) I ty_66 0 rfl rfl rfl rfl rfl rfl (Nat.le_of_ble_eq_true rfl) rfl ?_)
    intro w I
    refine Ops.nil ?_
    refine WP.seq ?_
    refine WP.region ?_
    refine Ops.y (v := .slice _ _ _) (Y.move rfl) ?_
    refine Ops.y (v := .pointer (some ⟨_, _, none⟩)) (Y.fa fa_66_1 rfl) ?_
    refine Ops.y (v := .agg #[_, _]) (Y.loadv ty_56 rfl (I.rdbox 0 rfl 1 2) rfl rfl) ?_
    refine Ops.go (O.callv I Try.call79 (Atom_ok _ I.base_ok l hl r.body.xs[k].atom (hr.body.each _ (List.getElem_mem hk'))) rfl ?_)
    intro w I
    refine Ops.y (v := .int .i64 _) (Y.assign rfl) ?_
    refine Ops.nil ?_
    refine WP.seq ?_
    refine WP.region ?_
    refine Ops.y (v := .int .i64 _) (Y.move rfl) ?_
    refine Ops.y (v := .bool (decide _)) (Y.nei rfl rfl) ?_
    refine Ops.nil ?_
    refine WP.cond_dec rfl (fun h4 => ?_) (fun h4 => ?_)
    · refine WP.seq ?_
      refine WP.region ?_
      refine Ops.y (v := .int .i64 _) (Y.move rfl) ?_
      refine Ops.y (v := .int .i64 _) (Y.assign rfl) ?_
      refine Ops.nil ?_
      refine WP.ret ?_
      repeat (first | refine thenE_ret ?_ | refine blockE_ret ?_)
      exact retQ.mk (vs := [.int .i64 _]) rfl ⟨rfl, trivial⟩ I.ext_of (by simp only [tup, checkRule]; rw [if_neg (by simp [h1]), if_neg (by omega), if_pos (by rw [bodyErr_at hk' hn h4]; exact h4), bodyErr_at hk' hn h4])
    refine WP.skip ?_
    refine WP.region ?_
    refine Ops.y (v := .int .i64 _) (Y.addi rfl rfl ⟨by omega, by omega⟩) ?_
    refine Ops.y (v := .int .i64 _) (Y.move rfl) ?_
    refine Ops.nil ?_
    exact ⟨k + 1, ⟨⟨rfl, rfl, rfl, rfl, rfl, trivial⟩, I.drop, by omega, fun j hj hj' => by
      rcases Nat.lt_succ_iff_lt_or_eq.1 hj with h' | h'
      · exact hn j h' hj'
      · subst h'; exact Decidable.not_not.1 h4⟩, by omega⟩
  have hb0 : bodyErr l.xs r.body.xs = 0 := bodyErr_ne.2 fun x hx => by obtain ⟨j, hj, rfl⟩ := List.getElem_of_mem hx; exact hn j (by omega) hj
  have hb3 : r.body.xs.length ≤ 3 := by omega
  have n1 := negs_le r.body.xs
  have n2 := poss_le r.body.xs
  clear hn hk h3
  refine WP.exit ?_
  refine WP.seq ?_
  refine WP.region ?_
  refine Ops.y (v := .agg #[_, _, _, _, _]) (Y.loadv ty_59 rfl (I.rdbox 0 rfl 0 5) rfl rfl) ?_
  refine Ops.go (O.callM I Try.call80 (Atoms_ok _ I.base_ok r hr.body hb3) rfl ?_)
  rintro _ h1' _ w I le1 ⟨u1, u2, rfl, rfl⟩
  try simp only [List.cons_append, List.nil_append] at I
  refine Ops.y (v := .tuple #[_, _]) (Y.move rfl) ?_
  refine Ops.y (v := u1) (Y.extract rfl rfl) ?_
  refine Ops.y (v := u2) (Y.extract rfl rfl) ?_
  refine Ops.y (v := u1) (Y.assign rfl) ?_
  refine Ops.y (v := u2) (Y.assign rfl) ?_
  refine Ops.nil ?_
  have If := I.front 1 rfl
  obtain ⟨h2', sI, le2, hv2, hx2, hs2, I2⟩ := If.settleSl (fun _ => rfl) rfl
  simp only [List.eraseIdx_cons_succ, List.eraseIdx_zero, List.tail_cons] at I2
  clear If
  subst hv2
  have I := I2
  have le12 := le1.trans le2
  have q1 : ∀ a ∈ sI.xs, a.In h2' := fun a ha => by
    rw [hx2] at ha
    obtain ⟨x, hx, _, rfl⟩ := mem_poss.1 ha
    exact (hr.body.each x hx).le le12
  refine WP.seq ?_
  refine WP.region ?_
  refine Ops.y (v := .slice _ _ _) (Y.move rfl) ?_
  refine Ops.go (O.callM I Try.call81 (Vars_ok _ I.base_ok sI ⟨hs2, by rw [hx2]; omega⟩ q1 (by rw [hx2]; omega)) rfl ?_)
  rintro _ h3' _ w I le3 ⟨bm, es, rfl, rfl, hc⟩
  try simp only [List.cons_append, List.nil_append] at I
  refine Ops.y (v := .map _) (Y.assign rfl) ?_
  refine Ops.nil ?_
  refine WP.seq ?_
  refine WP.seq ?_
  refine WP.region ?_
  refine Ops.y (v := u1) (Y.move rfl) ?_
  refine Ops.y (v := .pointer (some ⟨_, _, none⟩)) (Y.fa0 fa_59_0 rfl) ?_
  refine Ops.y (v := .agg #[_, _]) (Y.loadv ty_56 rfl (I.rdbox 2 rfl 0 2) rfl rfl) ?_
  refine Ops.go (O.mksl (xs := [r.head]) (enc := Atm.enc) I Try.underlying108 Try.sizeOf56 Try.zeroValue56 rfl (Nat.le_of_ble_eq_true rfl) rfl rfl (by decide) (fun _ => rfl) ?_)
  intro b50 h50 w I le50 sl50
  refine Ops.go (O.append I Try.underlying108 et_56 1 rfl rfl rfl (I.rd (sl50 0 _ rfl).2) rfl rfl (by decide) (by omega) (by omega) ?_)
  intro b51 c51 w I
  have If := I.front 1 rfl
  have e0 : (negs r.body.xs).flatMap Atm.enc ++ Atm.enc r.head = (negs r.body.xs ++ [r.head]).flatMap Atm.enc := by simp
  rw [e0] at If
  obtain ⟨h5, sN, le5, hv5, hx5, hs5, I⟩ := If.settleSl (fun _ => rfl) (by simp)
  have le25 : B.h.le h5 := le12.trans (le3.trans (le50.trans le5))
  have V := Vars_ok _ I.base_ok sN ⟨hs5, by rw [hx5, List.length_append, List.length_singleton]; omega⟩ (fun a ha => by rw [hx5] at ha; rcases List.mem_append.1 ha with ha | ha; (obtain ⟨x, hx, _, rfl⟩ := mem_negs.1 ha; exact (hr.body.each x hx).le le25); (rw [List.mem_singleton.1 ha]; exact hr.head.le le25)) (by rw [hx5, List.length_append, List.length_singleton]; omega)
  rw [hv5] at V
  refine Ops.go (O.callM I Try.call81 (V) rfl ?_)
  rintro _ h6 _ w I le6 ⟨bn, en, rfl, rfl, hcn⟩
  try simp only [List.cons_append, List.nil_append] at I
  obtain ⟨h7, ents, clock, le7, hm7, hi7, I⟩ := I.settleMap
  refine Ops.go (O.range I Try.underlying111 rfl hm7 ?_)
  intro b53 w I
  refine Ops.nil ?_
  have hle : B.h.le h7 := le25.trans (le6.trans le7)
  rw [hx5] at hcn
  rw [hx2] at hc
  refine WP.block ?_
  refine WP.loopE (σ := List Nat) (fun _ => [(0, l.val), (3, .pointer (some ⟨b3, 0, none⟩)), (11, .map (some bm)), (53, .pointer (some ⟨b53, 0, none⟩))]) (fun done w => Inv B h7 [mit b53 bn clock done, imap bm es, box b3 r.enc 59] w ∧ ∀ q ∈ ents, q.born ∈ done → ∀ v, q.key = .int .i64 v → cntA (poss r.body.xs) v ≠ 0) (fun done => (ents.filter fun q => decide (q.born ∉ done)).length)
    ⟨[], ⟨rfl, rfl, rfl, rfl, trivial⟩, I, fun q _ hq => by cases hq⟩ ?_
  rintro done e w ⟨I, hd⟩
  refine WP.seq ?_
  refine WP.region ?_
  refine Ops.go (O.next I 0 rfl rfl hm7 hi7 ?_ ?_)
  · intro hall
    refine Ops.y (v := .bool _) (Y.extract rfl rfl) ?_
    refine Ops.nil ?_
    refine WP.seq ?_
    refine WP.cond_f rfl ?_
    have hfr : (freeVar r 0 || freeVar r 1 || freeVar r 2) = false := free_none fun v hv => by
      have h8 := hcn v
      rw [if_neg hv] at h8
      obtain ⟨q, hq, hk⟩ := ents_has hi7 (ilook_some_mem h8)
      exact hd q hq (hall q hq) v hk
    clear hd hall
    have I := I.drop.drop
    refine WP.exit ?_
    refine WP.seq ?_
    refine WP.seq ?_
    by_cases o0 : r.src < -1
    · refine WP.region ?_
      refine Ops.y (v := .pointer (some ⟨_, _, none⟩)) (Y.fa fa_59_1 rfl) ?_
      refine Ops.y (v := .int .i64 _) (Y.loadv ty_3 rfl (I.rdbox 0 rfl 2 1) rfl rfl) ?_
      refine Ops.y (v := .bool true) (Y.dec_t (Y.lti rfl rfl) (o0)) ?_
      refine Ops.y (v := .bool _) (Y.move rfl) ?_
      refine Ops.gf rfl ?_
      refine Ops.gf rfl ?_
      refine Ops.gf rfl ?_
      refine Ops.gf rfl ?_
      refine Ops.gf rfl ?_
      refine Ops.gf rfl ?_
      refine Ops.y (v := .bool _) (Y.pick_t rfl rfl) ?_
      refine Ops.nil ?_
      refine WP.cond_t rfl ?_
      refine WP.seq ?_
      refine WP.region ?_
      refine Ops.y (v := .int .i64 _) (Y.assign rfl) ?_
      refine Ops.nil ?_
      refine WP.ret ?_
      repeat (first | refine thenE_ret ?_ | refine blockE_ret ?_)
      exact retQ.mk (vs := [.int .i64 _]) rfl ⟨rfl, trivial⟩ I.ext_of (by simp only [tup, checkRule]; rw [if_neg (by simp [h1]), if_neg (by omega), if_neg (by simp [hb0]), hfr, if_neg (by simp), if_pos (by omega)])
    by_cases o1 : (r.body.xs.length : Int) ≤ r.src
    · refine WP.region ?_
      refine Ops.y (v := .pointer (some ⟨_, _, none⟩)) (Y.fa fa_59_1 rfl) ?_
      refine Ops.y (v := .int .i64 _) (Y.loadv ty_3 rfl (I.rdbox 0 rfl 2 1) rfl rfl) ?_
      refine Ops.y (v := .bool false) (Y.dec_f (Y.lti rfl rfl) (o0)) ?_
      refine Ops.y (v := .bool _) (Y.move rfl) ?_
      refine Ops.ygt rfl (v := .pointer (some ⟨_, _, none⟩)) (Y.fa fa_59_1 rfl) ?_
      refine Ops.ygt rfl (v := .int .i64 _) (Y.loadv ty_3 rfl (I.rdbox 0 rfl 2 1) rfl rfl) ?_
      refine Ops.ygt rfl (v := .pointer (some ⟨_, _, none⟩)) (Y.fa fa_59_3 rfl) ?_
      refine Ops.ygt rfl (v := .slice _ _ _) (Y.loadv ty_57 rfl (I.rdbox 0 rfl 4 1) rfl rfl) ?_
      refine Ops.ygt rfl (v := .int .i64 _) (Y.lens Try.underlying57 rfl) ?_
      refine Ops.ygt rfl (v := .bool true) (Y.dec_t (Y.gei rfl rfl) (o1)) ?_
      refine Ops.y (v := .bool _) (Y.pick_f rfl rfl) ?_
      refine Ops.nil ?_
      refine WP.cond_t rfl ?_
      refine WP.seq ?_
      refine WP.region ?_
      refine Ops.y (v := .int .i64 _) (Y.assign rfl) ?_
      refine Ops.nil ?_
      refine WP.ret ?_
      repeat (first | refine thenE_ret ?_ | refine blockE_ret ?_)
      exact retQ.mk (vs := [.int .i64 _]) rfl ⟨rfl, trivial⟩ I.ext_of (by simp only [tup, checkRule]; rw [if_neg (by simp [h1]), if_neg (by omega), if_neg (by simp [hb0]), hfr, if_neg (by simp), if_pos (by omega)])
    refine WP.region ?_
    refine Ops.y (v := .pointer (some ⟨_, _, none⟩)) (Y.fa fa_59_1 rfl) ?_
    refine Ops.y (v := .int .i64 _) (Y.loadv ty_3 rfl (I.rdbox 0 rfl 2 1) rfl rfl) ?_
    refine Ops.y (v := .bool false) (Y.dec_f (Y.lti rfl rfl) (o0)) ?_
    refine Ops.y (v := .bool _) (Y.move rfl) ?_
    refine Ops.ygt rfl (v := .pointer (some ⟨_, _, none⟩)) (Y.fa fa_59_1 rfl) ?_
    refine Ops.ygt rfl (v := .int .i64 _) (Y.loadv ty_3 rfl (I.rdbox 0 rfl 2 1) rfl rfl) ?_
    refine Ops.ygt rfl (v := .pointer (some ⟨_, _, none⟩)) (Y.fa fa_59_3 rfl) ?_
    refine Ops.ygt rfl (v := .slice _ _ _) (Y.loadv ty_57 rfl (I.rdbox 0 rfl 4 1) rfl rfl) ?_
    refine Ops.ygt rfl (v := .int .i64 _) (Y.lens Try.underlying57 rfl) ?_
    refine Ops.ygt rfl (v := .bool false) (Y.dec_f (Y.gei rfl rfl) (o1)) ?_
    refine Ops.y (v := .bool _) (Y.pick_f rfl rfl) ?_
    refine Ops.nil ?_
    refine WP.cond_f rfl ?_
    have hle' := hle
    have EH := (hl.at (i := r.head.pred.toNat) (by omega)).le hle
    have eH := predOf_getE hh.1 hh.2
    refine WP.skip ?_
    refine WP.seq ?_
    refine WP.region ?_
    refine Ops.y (v := .slice _ _ _) (Y.move rfl) ?_
    refine Ops.y (v := .pointer (some ⟨_, _, none⟩)) (Y.fa0 fa_59_0 rfl) ?_
    refine Ops.y (v := .pointer (some ⟨_, _, none⟩)) (Y.fa0 fa_56_0 rfl) ?_
    refine Ops.y (v := .int .i64 _) (Y.loadv ty_3 rfl (I.rdbox 0 rfl 0 1) rfl rfl) ?_
    refine Ops.y (v := .pointer (some ⟨_, _, none⟩)) (Y.idxEl EH Try.underlying22 Try.sizeOf51 rfl rfl hh.1 rfl) ?_
    refine Ops.y (v := .pointer (some ⟨_, _, none⟩)) (Y.fa fa_51_2 rfl) ?_
    refine Ops.y (v := .int .i64 _) (Y.loadv ty_3 rfl (I.rd (EH.rd.part 2 1)) rfl rfl) ?_
    refine Ops.y (v := .int .i64 _) (Y.assign rfl) ?_
    refine Ops.nil ?_
    refine WP.seq ?_
    refine WP.block ?_
    refine WP.seq ?_
    refine WP.cutL (σ := Unit) (fun _ => [(0, l.val), (3, .pointer (some ⟨b3, 0, none⟩)), (13, .int .i64 (predOf l.xs r.head.pred).kind), (80, .bool (decide ((predOf l.xs r.head.pred).kind = 0 ∧ (r.src ≠ -1 ∨ r.n ≠ 0))))]) (fun _ w => Inv B h7 [box b3 r.enc 59] w) ?_ ?_
    · rw [eH]
      by_cases c1 : (l.xs[r.head.pred.toNat]'(by omega)).kind = 0
      · by_cases c2 : r.src ≠ -1
        · refine WP.region ?_
          refine Ops.y (v := .int .i64 _) (Y.move rfl) ?_
          refine Ops.y (v := .bool true) (Y.dec_t (Y.eqi rfl rfl) (c1)) ?_
          refine Ops.y (v := .bool _) (Y.move rfl) ?_
          refine Ops.ygt rfl (v := .pointer (some ⟨_, _, none⟩)) (Y.fa fa_59_1 rfl) ?_
          refine Ops.ygt rfl (v := .int .i64 _) (Y.loadv ty_3 rfl (I.rdbox 0 rfl 2 1) rfl rfl) ?_
          refine Ops.ygt rfl (v := .bool true) (Y.dec_t (Y.nei rfl rfl) (c2)) ?_
          refine Ops.ygt rfl (v := .bool _) (Y.move rfl) ?_
          refine Ops.gf rfl ?_
          refine Ops.gf rfl ?_
          refine Ops.gf rfl ?_
          refine Ops.ygt rfl (v := .bool _) (Y.pick_t rfl rfl) ?_
          refine Ops.y (v := .bool _) (Y.pick_t rfl rfl) ?_
          refine Ops.y (v := .bool _) (Y.assign rfl) ?_
          refine Ops.nil ?_
          exact ⟨(), ⟨rfl, rfl, rfl, bT ⟨c1, .inl c2⟩, trivial⟩, I⟩
        · by_cases c3 : r.n ≠ 0
          · refine WP.region ?_
            refine Ops.y (v := .int .i64 _) (Y.move rfl) ?_
            refine Ops.y (v := .bool true) (Y.dec_t (Y.eqi rfl rfl) (c1)) ?_
            refine Ops.y (v := .bool _) (Y.move rfl) ?_
            refine Ops.ygt rfl (v := .pointer (some ⟨_, _, none⟩)) (Y.fa fa_59_1 rfl) ?_
            refine Ops.ygt rfl (v := .int .i64 _) (Y.loadv ty_3 rfl (I.rdbox 0 rfl 2 1) rfl rfl) ?_
            refine Ops.ygt rfl (v := .bool false) (Y.dec_f (Y.nei rfl rfl) (c2)) ?_
            refine Ops.ygt rfl (v := .bool _) (Y.move rfl) ?_
            refine Ops.ygt rfl (v := .pointer (some ⟨_, _, none⟩)) (Y.fa fa_59_2 rfl) ?_
            refine Ops.ygt rfl (v := .int .i64 _) (Y.loadv ty_3 rfl (I.rdbox 0 rfl 3 1) rfl rfl) ?_
            refine Ops.ygt rfl (v := .bool true) (Y.dec_t (Y.nei rfl rfl) (c3)) ?_
            refine Ops.ygt rfl (v := .bool _) (Y.pick_f rfl rfl) ?_
            refine Ops.y (v := .bool _) (Y.pick_t rfl rfl) ?_
            refine Ops.y (v := .bool _) (Y.assign rfl) ?_
            refine Ops.nil ?_
            exact ⟨(), ⟨rfl, rfl, rfl, bT ⟨c1, .inr c3⟩, trivial⟩, I⟩
          · refine WP.region ?_
            refine Ops.y (v := .int .i64 _) (Y.move rfl) ?_
            refine Ops.y (v := .bool true) (Y.dec_t (Y.eqi rfl rfl) (c1)) ?_
            refine Ops.y (v := .bool _) (Y.move rfl) ?_
            refine Ops.ygt rfl (v := .pointer (some ⟨_, _, none⟩)) (Y.fa fa_59_1 rfl) ?_
            refine Ops.ygt rfl (v := .int .i64 _) (Y.loadv ty_3 rfl (I.rdbox 0 rfl 2 1) rfl rfl) ?_
            refine Ops.ygt rfl (v := .bool false) (Y.dec_f (Y.nei rfl rfl) (c2)) ?_
            refine Ops.ygt rfl (v := .bool _) (Y.move rfl) ?_
            refine Ops.ygt rfl (v := .pointer (some ⟨_, _, none⟩)) (Y.fa fa_59_2 rfl) ?_
            refine Ops.ygt rfl (v := .int .i64 _) (Y.loadv ty_3 rfl (I.rdbox 0 rfl 3 1) rfl rfl) ?_
            refine Ops.ygt rfl (v := .bool false) (Y.dec_f (Y.nei rfl rfl) (c3)) ?_
            refine Ops.ygt rfl (v := .bool _) (Y.pick_f rfl rfl) ?_
            refine Ops.y (v := .bool _) (Y.pick_t rfl rfl) ?_
            refine Ops.y (v := .bool _) (Y.assign rfl) ?_
            refine Ops.nil ?_
            exact ⟨(), ⟨rfl, rfl, rfl, bF (fun h => h.2.elim c2 c3), trivial⟩, I⟩
      · refine WP.region ?_
        refine Ops.y (v := .int .i64 _) (Y.move rfl) ?_
        refine Ops.y (v := .bool false) (Y.dec_f (Y.eqi rfl rfl) (c1)) ?_
        refine Ops.y (v := .bool _) (Y.move rfl) ?_
        refine Ops.gf rfl ?_
        refine Ops.gf rfl ?_
        refine Ops.gf rfl ?_
        refine Ops.gf rfl ?_
        refine Ops.gf rfl ?_
        refine Ops.gf rfl ?_
        refine Ops.gf rfl ?_
        refine Ops.gf rfl ?_
        refine Ops.y (v := .bool _) (Y.pick_f rfl rfl) ?_
        refine Ops.y (v := .bool _) (Y.assign rfl) ?_
        refine Ops.nil ?_
        exact ⟨(), ⟨rfl, rfl, rfl, bF (fun h => c1 h.1), trivial⟩, I⟩
    rintro _ e w I
    refine WP.cond_dec rfl (fun d1 => ?_) (fun d1 => ?_)
    · refine WP.seq ?_
      refine WP.region ?_
      refine Ops.y (v := .int .i64 _) (Y.assign rfl) ?_
      refine Ops.nil ?_
      refine WP.ret ?_
      repeat (first | refine thenE_ret ?_ | refine blockE_ret ?_)
      exact retQ.mk (vs := [.int .i64 _]) rfl ⟨rfl, trivial⟩ I.ext_of (by simp only [tup, checkRule]; rw [if_neg (by simp [h1]), if_neg (by omega), if_neg (by simp [hb0]), hfr, if_neg (by simp), if_neg (by omega), if_pos d1])
    refine WP.seq ?_
    refine WP.cutL (σ := Unit) (fun _ => [(3, .pointer (some ⟨b3, 0, none⟩)), (93, .bool (decide (0 ≤ r.src ∧ ((litOf r r.src).neg = true ∨ (predOf l.xs (litOf r r.src).atom.pred).kind ≠ (predOf l.xs r.head.pred).kind))))]) (fun _ w => Inv B h7 [box b3 r.enc 59] w) ?_ ?_
    · by_cases c1 : 0 ≤ r.src
      · have hs1 : r.src.toNat < r.body.xs.length := by omega
        have EB := (hr.body.is.at hs1).le hle
        rw [litOf_get c1 (by omega)]
        have hap := checkAtom_in (bodyErr_ne.1 hb0 _ (List.getElem_mem hs1))
        have EP := (hl.at (i := (r.body.xs[r.src.toNat]'hs1).atom.pred.toNat) (by omega)).le hle
        rw [predOf_getE hap.1 hap.2]
        by_cases c2 : (r.body.xs[r.src.toNat]'hs1).neg = true
        · refine WP.region ?_
          refine Ops.y (v := .pointer (some ⟨_, _, none⟩)) (Y.fa fa_59_1 rfl) ?_
          refine Ops.y (v := .int .i64 _) (Y.loadv ty_3 rfl (I.rdbox 0 rfl 2 1) rfl rfl) ?_
          refine Ops.y (v := .bool true) (Y.dec_t (Y.gei rfl rfl) (c1)) ?_
          refine Ops.y (v := .bool _) (Y.move rfl) ?_
          refine Ops.ygt rfl (v := .pointer (some ⟨_, _, none⟩)) (Y.fa fa_59_3 rfl) ?_
          refine Ops.ygt rfl (v := .slice _ _ _) (Y.loadv ty_57 rfl (I.rdbox 0 rfl 4 1) rfl rfl) ?_
          refine Ops.ygt rfl (v := .pointer (some ⟨_, _, none⟩)) (Y.fa fa_59_1 rfl) ?_
          refine Ops.ygt rfl (v := .int .i64 _) (Y.loadv ty_3 rfl (I.rdbox 0 rfl 2 1) rfl rfl) ?_
          refine Ops.ygt rfl (v := .pointer (some ⟨_, _, none⟩)) (Y.idxEl EB Try.underlying57 Try.sizeOf66 rfl rfl c1 rfl) ?_
          refine Ops.ygt rfl (v := .pointer (some ⟨_, _, none⟩)) (Y.fa0 fa_66_0 rfl) ?_
          refine Ops.ygt rfl (v := .bool true) (Y.b (Y.loadv ty_4 rfl (I.rd (EB.rd.part 0 1)) rfl rfl) (c2)) ?_
          refine Ops.ygt rfl (v := .bool _) (Y.move rfl) ?_
          refine Ops.gf rfl ?_
          refine Ops.gf rfl ?_
          refine Ops.gf rfl ?_
          refine Ops.gf rfl ?_
          refine Ops.gf rfl ?_
          refine Ops.gf rfl ?_
          refine Ops.gf rfl ?_
          refine Ops.gf rfl ?_
          refine Ops.gf rfl ?_
          refine Ops.gf rfl ?_
          refine Ops.gf rfl ?_
          refine Ops.gf rfl ?_
          refine Ops.gf rfl ?_
          refine Ops.gf rfl ?_
          refine Ops.ygt rfl (v := .bool _) (Y.pick_t rfl rfl) ?_
          refine Ops.y (v := .bool _) (Y.pick_t rfl rfl) ?_
          refine Ops.y (v := .bool _) (Y.assign rfl) ?_
          refine Ops.nil ?_
          exact ⟨(), ⟨rfl, bT ⟨c1, .inl c2⟩, trivial⟩, I⟩
        · by_cases c3 : (l.xs[(r.body.xs[r.src.toNat]'hs1).atom.pred.toNat]'(by omega)).kind ≠ (predOf l.xs r.head.pred).kind
          · refine WP.region ?_
            refine Ops.y (v := .pointer (some ⟨_, _, none⟩)) (Y.fa fa_59_1 rfl) ?_
            refine Ops.y (v := .int .i64 _) (Y.loadv ty_3 rfl (I.rdbox 0 rfl 2 1) rfl rfl) ?_
            refine Ops.y (v := .bool true) (Y.dec_t (Y.gei rfl rfl) (c1)) ?_
            refine Ops.y (v := .bool _) (Y.move rfl) ?_
            refine Ops.ygt rfl (v := .pointer (some ⟨_, _, none⟩)) (Y.fa fa_59_3 rfl) ?_
            refine Ops.ygt rfl (v := .slice _ _ _) (Y.loadv ty_57 rfl (I.rdbox 0 rfl 4 1) rfl rfl) ?_
            refine Ops.ygt rfl (v := .pointer (some ⟨_, _, none⟩)) (Y.fa fa_59_1 rfl) ?_
            refine Ops.ygt rfl (v := .int .i64 _) (Y.loadv ty_3 rfl (I.rdbox 0 rfl 2 1) rfl rfl) ?_
            refine Ops.ygt rfl (v := .pointer (some ⟨_, _, none⟩)) (Y.idxEl EB Try.underlying57 Try.sizeOf66 rfl rfl c1 rfl) ?_
            refine Ops.ygt rfl (v := .pointer (some ⟨_, _, none⟩)) (Y.fa0 fa_66_0 rfl) ?_
            refine Ops.ygt rfl (v := .bool false) (Y.b (Y.loadv ty_4 rfl (I.rd (EB.rd.part 0 1)) rfl rfl) ((by simpa using c2))) ?_
            refine Ops.ygt rfl (v := .bool _) (Y.move rfl) ?_
            refine Ops.ygt rfl (v := .slice _ _ _) (Y.move rfl) ?_
            refine Ops.ygt rfl (v := .pointer (some ⟨_, _, none⟩)) (Y.fa fa_59_3 rfl) ?_
            refine Ops.ygt rfl (v := .slice _ _ _) (Y.loadv ty_57 rfl (I.rdbox 0 rfl 4 1) rfl rfl) ?_
            refine Ops.ygt rfl (v := .pointer (some ⟨_, _, none⟩)) (Y.fa fa_59_1 rfl) ?_
            refine Ops.ygt rfl (v := .int .i64 _) (Y.loadv ty_3 rfl (I.rdbox 0 rfl 2 1) rfl rfl) ?_
            refine Ops.ygt rfl (v := .pointer (some ⟨_, _, none⟩)) (Y.idxEl EB Try.underlying57 Try.sizeOf66 rfl rfl c1 rfl) ?_
            refine Ops.ygt rfl (v := .pointer (some ⟨_, _, none⟩)) (Y.fa fa_66_1 rfl) ?_
            refine Ops.ygt rfl (v := .pointer (some ⟨_, _, none⟩)) (Y.fa0 fa_56_0 rfl) ?_
            refine Ops.ygt rfl (v := .int .i64 _) (Y.loadv ty_3 rfl (I.rd (EB.rd.part 1 1)) rfl rfl) ?_
            refine Ops.ygt rfl (v := .pointer (some ⟨_, _, none⟩)) (Y.idxEl EP Try.underlying22 Try.sizeOf51 rfl rfl hap.1 rfl) ?_
            refine Ops.ygt rfl (v := .pointer (some ⟨_, _, none⟩)) (Y.fa fa_51_2 rfl) ?_
            refine Ops.ygt rfl (v := .int .i64 _) (Y.loadv ty_3 rfl (I.rd (EP.rd.part 2 1)) rfl rfl) ?_
            refine Ops.ygt rfl (v := .int .i64 _) (Y.move rfl) ?_
            refine Ops.ygt rfl (v := .bool true) (Y.dec_t (Y.nei rfl rfl) (c3)) ?_
            refine Ops.ygt rfl (v := .bool _) (Y.pick_f rfl rfl) ?_
            refine Ops.y (v := .bool _) (Y.pick_t rfl rfl) ?_
            refine Ops.y (v := .bool _) (Y.assign rfl) ?_
            refine Ops.nil ?_
            exact ⟨(), ⟨rfl, bT ⟨c1, .inr c3⟩, trivial⟩, I⟩
          · refine WP.region ?_
            refine Ops.y (v := .pointer (some ⟨_, _, none⟩)) (Y.fa fa_59_1 rfl) ?_
            refine Ops.y (v := .int .i64 _) (Y.loadv ty_3 rfl (I.rdbox 0 rfl 2 1) rfl rfl) ?_
            refine Ops.y (v := .bool true) (Y.dec_t (Y.gei rfl rfl) (c1)) ?_
            refine Ops.y (v := .bool _) (Y.move rfl) ?_
            refine Ops.ygt rfl (v := .pointer (some ⟨_, _, none⟩)) (Y.fa fa_59_3 rfl) ?_
            refine Ops.ygt rfl (v := .slice _ _ _) (Y.loadv ty_57 rfl (I.rdbox 0 rfl 4 1) rfl rfl) ?_
            refine Ops.ygt rfl (v := .pointer (some ⟨_, _, none⟩)) (Y.fa fa_59_1 rfl) ?_
            refine Ops.ygt rfl (v := .int .i64 _) (Y.loadv ty_3 rfl (I.rdbox 0 rfl 2 1) rfl rfl) ?_
            refine Ops.ygt rfl (v := .pointer (some ⟨_, _, none⟩)) (Y.idxEl EB Try.underlying57 Try.sizeOf66 rfl rfl c1 rfl) ?_
            refine Ops.ygt rfl (v := .pointer (some ⟨_, _, none⟩)) (Y.fa0 fa_66_0 rfl) ?_
            refine Ops.ygt rfl (v := .bool false) (Y.b (Y.loadv ty_4 rfl (I.rd (EB.rd.part 0 1)) rfl rfl) ((by simpa using c2))) ?_
            refine Ops.ygt rfl (v := .bool _) (Y.move rfl) ?_
            refine Ops.ygt rfl (v := .slice _ _ _) (Y.move rfl) ?_
            refine Ops.ygt rfl (v := .pointer (some ⟨_, _, none⟩)) (Y.fa fa_59_3 rfl) ?_
            refine Ops.ygt rfl (v := .slice _ _ _) (Y.loadv ty_57 rfl (I.rdbox 0 rfl 4 1) rfl rfl) ?_
            refine Ops.ygt rfl (v := .pointer (some ⟨_, _, none⟩)) (Y.fa fa_59_1 rfl) ?_
            refine Ops.ygt rfl (v := .int .i64 _) (Y.loadv ty_3 rfl (I.rdbox 0 rfl 2 1) rfl rfl) ?_
            refine Ops.ygt rfl (v := .pointer (some ⟨_, _, none⟩)) (Y.idxEl EB Try.underlying57 Try.sizeOf66 rfl rfl c1 rfl) ?_
            refine Ops.ygt rfl (v := .pointer (some ⟨_, _, none⟩)) (Y.fa fa_66_1 rfl) ?_
            refine Ops.ygt rfl (v := .pointer (some ⟨_, _, none⟩)) (Y.fa0 fa_56_0 rfl) ?_
            refine Ops.ygt rfl (v := .int .i64 _) (Y.loadv ty_3 rfl (I.rd (EB.rd.part 1 1)) rfl rfl) ?_
            refine Ops.ygt rfl (v := .pointer (some ⟨_, _, none⟩)) (Y.idxEl EP Try.underlying22 Try.sizeOf51 rfl rfl hap.1 rfl) ?_
            refine Ops.ygt rfl (v := .pointer (some ⟨_, _, none⟩)) (Y.fa fa_51_2 rfl) ?_
            refine Ops.ygt rfl (v := .int .i64 _) (Y.loadv ty_3 rfl (I.rd (EP.rd.part 2 1)) rfl rfl) ?_
            refine Ops.ygt rfl (v := .int .i64 _) (Y.move rfl) ?_
            refine Ops.ygt rfl (v := .bool false) (Y.dec_f (Y.nei rfl rfl) (c3)) ?_
            refine Ops.ygt rfl (v := .bool _) (Y.pick_f rfl rfl) ?_
            refine Ops.y (v := .bool _) (Y.pick_t rfl rfl) ?_
            refine Ops.y (v := .bool _) (Y.assign rfl) ?_
            refine Ops.nil ?_
            exact ⟨(), ⟨rfl, bF (fun h => h.2.elim c2 c3), trivial⟩, I⟩
      · refine WP.region ?_
        refine Ops.y (v := .pointer (some ⟨_, _, none⟩)) (Y.fa fa_59_1 rfl) ?_
        refine Ops.y (v := .int .i64 _) (Y.loadv ty_3 rfl (I.rdbox 0 rfl 2 1) rfl rfl) ?_
        refine Ops.y (v := .bool false) (Y.dec_f (Y.gei rfl rfl) (c1)) ?_
        refine Ops.y (v := .bool _) (Y.move rfl) ?_
        refine Ops.gf rfl ?_
        refine Ops.gf rfl ?_
        refine Ops.gf rfl ?_
        refine Ops.gf rfl ?_
        refine Ops.gf rfl ?_
        refine Ops.gf rfl ?_
        refine Ops.gf rfl ?_
        refine Ops.gf rfl ?_
        refine Ops.gf rfl ?_
        refine Ops.gf rfl ?_
        refine Ops.gf rfl ?_
        refine Ops.gf rfl ?_
        refine Ops.gf rfl ?_
        refine Ops.gf rfl ?_
        refine Ops.gf rfl ?_
        refine Ops.gf rfl ?_
        refine Ops.gf rfl ?_
        refine Ops.gf rfl ?_
        refine Ops.gf rfl ?_
        refine Ops.gf rfl ?_
        refine Ops.gf rfl ?_
        refine Ops.gf rfl ?_
        refine Ops.gf rfl ?_
        refine Ops.y (v := .bool _) (Y.pick_f rfl rfl) ?_
        refine Ops.y (v := .bool _) (Y.assign rfl) ?_
        refine Ops.nil ?_
        exact ⟨(), ⟨rfl, bF (fun h => c1 h.1), trivial⟩, I⟩
    rintro _ e w I
    refine WP.cond_dec rfl (fun d2 => ?_) (fun d2 => ?_)
    · refine WP.seq ?_
      refine WP.region ?_
      refine Ops.y (v := .int .i64 _) (Y.assign rfl) ?_
      refine Ops.nil ?_
      refine WP.ret ?_
      repeat (first | refine thenE_ret ?_ | refine blockE_ret ?_)
      exact retQ.mk (vs := [.int .i64 _]) rfl ⟨rfl, trivial⟩ I.ext_of (by simp only [tup, checkRule]; rw [if_neg (by simp [h1]), if_neg (by omega), if_neg (by simp [hb0]), hfr, if_neg (by simp), if_neg (by omega), if_neg d1, if_pos d2])
    refine WP.seq ?_
    by_cases o0 : r.n < 0
    · refine WP.region ?_
      refine Ops.y (v := .pointer (some ⟨_, _, none⟩)) (Y.fa fa_59_2 rfl) ?_
      refine Ops.y (v := .int .i64 _) (Y.loadv ty_3 rfl (I.rdbox 0 rfl 3 1) rfl rfl) ?_
      refine Ops.y (v := .bool true) (Y.dec_t (Y.lti rfl rfl) (o0)) ?_
      refine Ops.y (v := .bool _) (Y.move rfl) ?_
      refine Ops.gf rfl ?_
      refine Ops.gf rfl ?_
      refine Ops.gf rfl ?_
      refine Ops.y (v := .bool _) (Y.pick_t rfl rfl) ?_
      refine Ops.y (v := .bool _) (Y.assign rfl) ?_
      refine Ops.nil ?_
      refine WP.cond_t rfl ?_
      refine WP.seq ?_
      refine WP.region ?_
      refine Ops.y (v := .int .i64 _) (Y.assign rfl) ?_
      refine Ops.nil ?_
      refine WP.ret ?_
      repeat (first | refine thenE_ret ?_ | refine blockE_ret ?_)
      exact retQ.mk (vs := [.int .i64 _]) rfl ⟨rfl, trivial⟩ I.ext_of (by simp only [tup, checkRule]; rw [if_neg (by simp [h1]), if_neg (by omega), if_neg (by simp [hb0]), hfr, if_neg (by simp), if_neg (by omega), if_neg d1, if_neg d2, if_pos (by omega)])
    by_cases o1 : 15 < r.n
    · refine WP.region ?_
      refine Ops.y (v := .pointer (some ⟨_, _, none⟩)) (Y.fa fa_59_2 rfl) ?_
      refine Ops.y (v := .int .i64 _) (Y.loadv ty_3 rfl (I.rdbox 0 rfl 3 1) rfl rfl) ?_
      refine Ops.y (v := .bool false) (Y.dec_f (Y.lti rfl rfl) (o0)) ?_
      refine Ops.y (v := .bool _) (Y.move rfl) ?_
      refine Ops.ygt rfl (v := .pointer (some ⟨_, _, none⟩)) (Y.fa fa_59_2 rfl) ?_
      refine Ops.ygt rfl (v := .int .i64 _) (Y.loadv ty_3 rfl (I.rdbox 0 rfl 3 1) rfl rfl) ?_
      refine Ops.ygt rfl (v := .bool true) (Y.dec_t (Y.gti rfl rfl) (o1)) ?_
      refine Ops.y (v := .bool _) (Y.pick_f rfl rfl) ?_
      refine Ops.y (v := .bool _) (Y.assign rfl) ?_
      refine Ops.nil ?_
      refine WP.cond_t rfl ?_
      refine WP.seq ?_
      refine WP.region ?_
      refine Ops.y (v := .int .i64 _) (Y.assign rfl) ?_
      refine Ops.nil ?_
      refine WP.ret ?_
      repeat (first | refine thenE_ret ?_ | refine blockE_ret ?_)
      exact retQ.mk (vs := [.int .i64 _]) rfl ⟨rfl, trivial⟩ I.ext_of (by simp only [tup, checkRule]; rw [if_neg (by simp [h1]), if_neg (by omega), if_neg (by simp [hb0]), hfr, if_neg (by simp), if_neg (by omega), if_neg d1, if_neg d2, if_pos (by omega)])
    refine WP.region ?_
    refine Ops.y (v := .pointer (some ⟨_, _, none⟩)) (Y.fa fa_59_2 rfl) ?_
    refine Ops.y (v := .int .i64 _) (Y.loadv ty_3 rfl (I.rdbox 0 rfl 3 1) rfl rfl) ?_
    refine Ops.y (v := .bool false) (Y.dec_f (Y.lti rfl rfl) (o0)) ?_
    refine Ops.y (v := .bool _) (Y.move rfl) ?_
    refine Ops.ygt rfl (v := .pointer (some ⟨_, _, none⟩)) (Y.fa fa_59_2 rfl) ?_
    refine Ops.ygt rfl (v := .int .i64 _) (Y.loadv ty_3 rfl (I.rdbox 0 rfl 3 1) rfl rfl) ?_
    refine Ops.ygt rfl (v := .bool false) (Y.dec_f (Y.gti rfl rfl) (o1)) ?_
    refine Ops.y (v := .bool _) (Y.pick_f rfl rfl) ?_
    refine Ops.y (v := .bool _) (Y.assign rfl) ?_
    refine Ops.nil ?_
    refine WP.cond_f rfl ?_
    refine WP.skip ?_
    refine WP.seq ?_
    refine WP.region ?_
    refine Ops.y (v := .int .i64 _) (Y.assign rfl) ?_
    refine Ops.nil ?_
    refine WP.ret ?_
    repeat (first | refine thenE_ret ?_ | refine blockE_ret ?_)
    exact retQ.mk (vs := [.int .i64 _]) rfl ⟨rfl, trivial⟩ I.ext_of (by simp only [tup, checkRule]; rw [if_neg (by simp [h1]), if_neg (by omega), if_neg (by simp [hb0]), hfr, if_neg (by simp), if_neg (by omega), if_neg d1, if_neg d2, if_neg (by omega)])
  · intro q w hq hnd I
    refine Ops.y (v := .bool _) (Y.extract rfl rfl) ?_
    refine Ops.nil ?_
    refine WP.seq ?_
    refine WP.cond_t rfl ?_
    obtain ⟨v, x, hvx, hkq, hvq⟩ := ents_of hi7 hq
    refine WP.skip ?_
    refine WP.block ?_
    refine WP.seq ?_
    refine WP.region ?_
    refine Ops.y (v := .tuple #[.int .i64 v, .int .i64 x]) (hkq ▸ hvq ▸ Y.entry I 0 rfl rfl hm7 hi7 hq) ?_
    refine Ops.y (v := .int .i64 _) (Y.extract rfl rfl) ?_
    refine Ops.y (v := .int .i64 _) (Y.assign rfl) ?_
    refine Ops.nil ?_
    refine WP.seq ?_
    refine WP.region ?_
    refine Ops.y (v := .map _) (Y.move rfl) ?_
    refine Ops.y (v := .int .i64 _) (Y.move rfl) ?_
    refine Ops.y (v := .int .i64 _) (Y.lookup I Try.underlying111 Try.underlying3 Try.zeroValue3 1 rfl rfl rfl) ?_
    refine Ops.y (v := .bool (decide _)) (Y.eqi rfl rfl) ?_
    refine Ops.nil ?_
    refine WP.cond_dec rfl (fun hz => ?_) (fun hz => ?_)
    · refine WP.seq ?_
      refine WP.region ?_
      refine Ops.y (v := .int .i64 _) (Y.assign rfl) ?_
      refine Ops.nil ?_
      have hz' : cntA (poss r.body.xs) v = 0 := by rw [hc.get v] at hz; omega
      have hnz : cntA (negs r.body.xs ++ [r.head]) v ≠ 0 := fun h0 => mem_ilook hvx (by rw [hcn v, if_pos h0])
      refine WP.ret ?_
      repeat (first | refine thenE_ret ?_ | refine blockE_ret ?_)
      exact retQ.mk (vs := [.int .i64 _]) rfl ⟨rfl, trivial⟩ I.ext_of (by simp only [tup, checkRule]; rw [if_neg (by simp [h1]), if_neg (by omega), if_neg (by simp [hb0]), if_pos (free_any (freeVar_iff.2 ⟨hnz, hz'⟩) h1 hb0)])
    refine WP.skip ?_
    refine ⟨done ++ [q.born], ⟨⟨rfl, rfl, rfl, rfl, trivial⟩, I, fun q' hq' hb' v' hv' => ?_⟩, filter_shorter hq (by simp) (by simpa using hnd) (fun y _ hy => by simp at hy ⊢; exact hy.1)⟩
    rcases List.mem_append.1 hb' with h8 | h8
    · exact hd q' hq' h8 v' hv'
    · have : q' = q := nodup_inj hi7.nodup hq' hq (List.mem_singleton.1 h8)
      subst this
      rw [hkq] at hv'
      cases hv'
      rw [hc.get v] at hz
      omega
end Go.TF
