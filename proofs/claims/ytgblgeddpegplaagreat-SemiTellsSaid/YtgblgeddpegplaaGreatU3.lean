/- Texts Rule3 Rule4 SpProg RuleLaw SpBase RuleLaw2 SpBase2. -/
import Derived.Test.YtgblgeddpegplaaGreatU2
section
/- The contract of rule.Check. -/
namespace Go.TF
open Go Go.RowKit Go.Proofs
set_option maxRecDepth 10000

theorem checkAtom_in {l : List Prd} {a : Atm} (h : checkAtom l a = 0) : 0 ≤ a.pred ∧ a.pred < l.length := by
  unfold checkAtom at h
  split at h
  · cases h
  · omega
theorem free_any {l : List Prd} {r : Rul} {v : Int} (h : freeVar r v = true) (h0 : checkAtom l r.head = 0) (h1 : bodyErr l r.body.xs = 0) : (freeVar r 0 || freeVar r 1 || freeVar r 2) = true := by
  have hv : v = 0 ∨ v = 1 ∨ v = 2 := by
    have := h
    simp only [freeVar, Bool.and_eq_true, Bool.or_eq_true, List.any_eq_true] at this
    rcases this.1 with hs | ⟨x, hx, hs⟩
    · exact standsIn_small h0 hs
    · exact standsIn_small (bodyErr_ne.1 h1 x hx) hs
  rcases hv with rfl | rfl | rfl <;> simp [h]
theorem free_none {r : Rul} (h : ∀ v, cntA (negs r.body.xs ++ [r.head]) v ≠ 0 → cntA (poss r.body.xs) v ≠ 0) : (freeVar r 0 || freeVar r 1 || freeVar r 2) = false := by
  have : ∀ v, freeVar r v = false := fun v => by
    cases hf : freeVar r v
    · rfl
    · have := freeVar_iff.1 hf; exact absurd this.2 (h v this.1)
  simp [this]
theorem litOf_get {r : Rul} {k : Int} (h0 : 0 ≤ k) (h1 : k < r.body.xs.length) : litOf r k = r.body.xs[k.toNat]'(by omega) := by
  simp [litOf, List.getD_eq_getElem?_getD, show k.toNat < r.body.xs.length by omega]
theorem predOf_getE {l : List Prd} {p : Int} (h0 : 0 ≤ p) (h1 : p < l.length) : predOf l p = l[p.toNat]'(by omega) := by
  simp [predOf, List.getD_eq_getElem?_getD, show p.toNat < l.length by omega]
set_option maxHeartbeats 1000000 in
theorem RCheck_ok (B : Base) (hB : B.ok) (l : Sl Prd) (hl : Prds l B.h) (r : Rul) (hr : r.In B.h) : Fn Tryz.prog 127 [l.val, r.val] B (fun v _ => v = .int .i64 (checkRule l.xs r)) := by
  have hsm := hl.small
  have hsb := hr.body.is.small
  refine Fn.of Tryz.func127 rfl Tryz.ntmps127 (by kernel_rfl) (by simp) ?_
  intro e
  have I := Inv.start hB
  refine WP.seq ?_
  refine WP.region ?_
  refine Ops.go (O.box (v := .agg #[_, _, _, _, _]) I rfl rfl ?_)
  intro b3 w I
  refine Ops.y (v := .int .i64 _) (Y.assign rfl) ?_
  refine Ops.nil ?_
  refine WP.seq ?_
  refine WP.seq ?_
  refine WP.region ?_
  refine Ops.y (v := .slice _ _ _) (Y.move rfl) ?_
  refine Ops.y (v := .pointer (some ⟨_, _, none⟩)) (Y.fa0 fa_68_0 rfl) ?_
  refine Ops.y (v := .agg #[_, _]) (Y.loadv ty_65 rfl (I.rdbox 0 rfl 0 2) rfl rfl) ?_
  refine Ops.go (O.callv I Tryz.call110 (Atom_ok _ I.base_ok l hl r.head hr.head) rfl ?_)
  intro w I
  refine Ops.y (v := .int .i64 _) (Y.assign rfl) ?_
  refine Ops.nil ?_
  refine WP.seq ?_
  refine WP.region ?_
  refine Ops.y (v := .int .i64 _) (Y.move rfl) ?_
  refine Ops.y (v := .bool (decide _)) (Y.nei rfl rfl) ?_
  refine Ops.nil ?_
  refine WP.cond_dec rfl (fun h1 => ?_) (fun h1 => ?_)
  · refine WP.seq ?_
    refine WP.region ?_
    refine Ops.y (v := .int .i64 _) (Y.move rfl) ?_
    refine Ops.y (v := .int .i64 _) (Y.assign rfl) ?_
    refine Ops.nil ?_
    refine WP.ret ?_
    repeat (first | refine thenE_ret ?_ | refine blockE_ret ?_)
    exact retQ.mk (vs := [.int .i64 _]) rfl ⟨rfl, trivial⟩ I.ext_of (by simp only [tup, checkRule]; rw [if_pos h1])
  have h1 := Decidable.not_not.1 h1
  have hh := checkAtom_in h1
  refine WP.skip ?_
  refine WP.seq ?_
  refine WP.seq ?_
  refine WP.region ?_
  refine Ops.y (v := .pointer (some ⟨_, _, none⟩)) (Y.fa fa_68_3 rfl) ?_
  refine Ops.y (v := .slice _ _ _) (Y.loadv ty_66 rfl (I.rdbox 0 rfl 4 1) rfl rfl) ?_
  refine Ops.y (v := .int .i64 _) (Y.lens Tryz.underlying66 rfl) ?_
  refine Ops.y (v := .bool (decide _)) (Y.gti rfl rfl) ?_
  refine Ops.nil ?_
  refine WP.cond_dec rfl (fun h2 => ?_) (fun h2 => ?_)
  · refine WP.seq ?_
    refine WP.region ?_
    refine Ops.y (v := .int .i64 _) (Y.assign rfl) ?_
    refine Ops.nil ?_
    refine WP.ret ?_
    repeat (first | refine thenE_ret ?_ | refine blockE_ret ?_)
    exact retQ.mk (vs := [.int .i64 _]) rfl ⟨rfl, trivial⟩ I.ext_of (by simp only [tup, checkRule]; rw [if_neg (by simp [h1]), if_pos (by omega)])
  refine WP.skip ?_
  refine WP.seq ?_
  refine WP.seq ?_
  refine WP.region ?_
  refine Ops.y (v := .pointer (some ⟨_, _, none⟩)) (Y.fa fa_68_3 rfl) ?_
  refine Ops.y (v := .slice _ _ _) (Y.loadv ty_66 rfl (I.rdbox 0 rfl 4 1) rfl rfl) ?_
  refine Ops.y (v := .int .i64 _) (Y.lens Tryz.underlying66 rfl) ?_
  refine Ops.y (v := .int .i64 _) (Y.move rfl) ?_
  refine Ops.nil ?_
  refine WP.block ?_
  refine WP.loopE (σ := Nat) (fun k => [(0, l.val), (3, .pointer (some ⟨b3, 0, none⟩)), (26, r.body.val), (27, .int .i64 r.body.xs.length), (28, .int .i64 k)]) (fun k w => Inv B B.h [box b3 r.enc 68] w ∧ k ≤ r.body.xs.length ∧ ∀ j, j < k → ∀ hj' : j < r.body.xs.length, checkAtom l.xs r.body.xs[j].atom = 0) (fun k => r.body.xs.length - k)
    ⟨0, ⟨rfl, rfl, rfl, rfl, rfl, trivial⟩, I, Nat.zero_le _, fun j hj => (by omega)⟩ ?_
  rintro k e w ⟨I, hk, hn⟩
  refine WP.seq ?_
  refine WP.region ?_
  refine Ops.y (v := .bool (decide _)) (Y.lti rfl rfl) ?_
  refine Ops.nil ?_
  refine WP.seq ?_
  refine WP.cond_dec rfl (fun h3 => ?_) (fun h3 => ?_)
  · have hk' : k < r.body.xs.length := by omega
    have E1 := hr.body.is.at hk'
    refine WP.skip ?_
    refine WP.seq ?_
    refine WP.block ?_
    refine WP.seq ?_
    refine WP.region ?_
    refine Ops.y (v := .pointer (some ⟨_, _, none⟩)) (Y.idxEl E1 Tryz.underlying66 Tryz.sizeOf131 rfl rfl (Int.natCast_nonneg _) rfl) ?_
    refine Ops.y (v := .agg #[_, _, _]) (Y.loadv ty_131 rfl (I.rd (E1.rd.part 0 3)) rfl rfl) ?_
    refine Ops.go (O.alloc I Tryz.zeroValue131 rfl ?_)
    intro b7 w I
    refine Ops.go (O.store (v := .agg #[_, _, _]) I ty_131 0 rfl rfl rfl rfl rfl rfl (Nat.le_of_ble_eq_true rfl) rfl ?_)
    intro w I
    refine Ops.nil ?_
    refine WP.seq ?_
    refine WP.region ?_
    refine Ops.y (v := .slice _ _ _) (Y.move rfl) ?_
    refine Ops.y (v := .pointer (some ⟨_, _, none⟩)) (Y.fa fa_131_1 rfl) ?_
    refine Ops.y (v := .agg #[_, _]) (Y.loadv ty_65 rfl (I.rdbox 0 rfl 1 2) rfl rfl) ?_
    refine Ops.go (O.callv I Tryz.call110 (Atom_ok _ I.base_ok l hl r.body.xs[k].atom (hr.body.each _ (List.getElem_mem hk'))) rfl ?_)
    intro w I
    refine Ops.y (v := .int .i64 _) (Y.assign rfl) ?_
    refine Ops.nil ?_
    refine WP.seq ?_
    refine WP.region ?_
    refine Ops.y (v := .int .i64 _) (Y.move rfl) ?_
    refine Ops.y (v := .bool (decide _)) (Y.nei rfl rfl) ?_
    refine Ops.nil ?_
    refine WP.cond_dec rfl (fun h4 => ?_) (fun h4 => ?_)
    · refine WP.seq ?_
      refine WP.region ?_
      refine Ops.y (v := .int .i64 _) (Y.move rfl) ?_
      refine Ops.y (v := .int .i64 _) (Y.assign rfl) ?_
      refine Ops.nil ?_
      refine WP.ret ?_
      repeat (first | refine thenE_ret ?_ | refine blockE_ret ?_)
      exact retQ.mk (vs := [.int .i64 _]) rfl ⟨rfl, trivial⟩ I.ext_of (by simp only [tup, checkRule]; rw [if_neg (by simp [h1]), if_neg (by omega), if_pos (by rw [bodyErr_at hk' hn h4]; exact h4), bodyErr_at hk' hn h4])
    refine WP.skip ?_
    refine WP.region ?_
    refine Ops.y (v := .int .i64 _) (Y.addi rfl rfl ⟨by omega, by omega⟩) ?_
    refine Ops.y (v := .int .i64 _) (Y.move rfl) ?_
    refine Ops.nil ?_
    exact ⟨k + 1, ⟨⟨rfl, rfl, rfl, rfl, rfl, trivial⟩, I.drop, by omega, fun j hj hj' => by
      rcases Nat.lt_succ_iff_lt_or_eq.1 hj with h' | h'
      · exact hn j h' hj'
      · subst h'; exact Decidable.not_not.1 h4⟩, by omega⟩
  have hb0 : bodyErr l.xs r.body.xs = 0 := bodyErr_ne.2 fun x hx => by obtain ⟨j, hj, rfl⟩ := List.getElem_of_mem hx; exact hn j (by omega) hj
  have hb3 : r.body.xs.length ≤ 3 := by omega
  have n1 := negs_le r.body.xs
  have n2 := poss_le r.body.xs
  clear hn hk h3
  refine WP.exit ?_
  refine WP.seq ?_
  refine WP.region ?_
  refine Ops.y (v := .agg #[_, _, _, _, _]) (Y.loadv ty_68 rfl (I.rdbox 0 rfl 0 5) rfl rfl) ?_
  refine Ops.go (O.callM I Tryz.call165 (Atoms_ok _ I.base_ok r hr.body hb3) rfl ?_)
  rintro _ h1' _ w I le1 ⟨u1, u2, rfl, rfl⟩
  try simp only [List.cons_append, List.nil_append] at I
  refine Ops.y (v := .tuple #[_, _]) (Y.move rfl) ?_
  refine Ops.y (v := u1) (Y.extract rfl rfl) ?_
  refine Ops.y (v := u2) (Y.extract rfl rfl) ?_
  refine Ops.y (v := u1) (Y.assign rfl) ?_
  refine Ops.y (v := u2) (Y.assign rfl) ?_
  refine Ops.nil ?_
  have If := I.front 1 rfl
  obtain ⟨h2', sI, le2, hv2, hx2, hs2, I2⟩ := If.settleSl (fun _ => rfl) rfl
  simp only [List.eraseIdx_cons_succ, List.eraseIdx_zero, List.tail_cons] at I2
  clear If
  subst hv2
  have I := I2
  have le12 := le1.trans le2
  have q1 : ∀ a ∈ sI.xs, a.In h2' := fun a ha => by
    rw [hx2] at ha
    obtain ⟨x, hx, _, rfl⟩ := mem_poss.1 ha
    exact (hr.body.each x hx).le le12
  refine WP.seq ?_
  refine WP.region ?_
  refine Ops.y (v := .slice _ _ _) (Y.move rfl) ?_
  refine Ops.go (O.callM I Tryz.call166 (Vars_ok _ I.base_ok sI ⟨hs2, by rw [hx2]; omega⟩ q1 (by rw [hx2]; omega)) rfl ?_)
  rintro _ h3' _ w I le3 ⟨bm, es, rfl, rfl, hc⟩
  try simp only [List.cons_append, List.nil_append] at I
  refine Ops.y (v := .map _) (Y.assign rfl) ?_
  refine Ops.nil ?_
  refine WP.seq ?_
  refine WP.seq ?_
  refine WP.region ?_
  refine Ops.y (v := u1) (Y.move rfl) ?_
  refine Ops.y (v := .pointer (some ⟨_, _, none⟩)) (Y.fa0 fa_68_0 rfl) ?_
  refine Ops.y (v := .agg #[_, _]) (Y.loadv ty_65 rfl (I.rdbox 2 rfl 0 2) rfl rfl) ?_
  refine Ops.go (O.mksl (xs := [r.head]) (enc := Atm.enc) I Tryz.underlying186 Tryz.sizeOf65 Tryz.zeroValue65 rfl (Nat.le_of_ble_eq_true rfl) rfl rfl (by decide) (fun _ => rfl) ?_)
  intro b50 h50 w I le50 sl50
  refine Ops.go (O.append I Tryz.underlying186 et_65 1 rfl rfl rfl (I.rd (sl50 0 _ rfl).2) rfl rfl (by decide) (by omega) (by omega) ?_)
  intro b51 c51 w I
  have If := I.front 1 rfl
  have e0 : (negs r.body.xs).flatMap Atm.enc ++ Atm.enc r.head = (negs r.body.xs ++ [r.head]).flatMap Atm.enc := by simp
  rw [e0] at If
  obtain ⟨h5, sN, le5, hv5, hx5, hs5, I⟩ := If.settleSl (fun _ => rfl) (by simp)
  have le25 : B.h.le h5 := le12.trans (le3.trans (le50.trans le5))
  have V := Vars_ok _ I.base_ok sN ⟨hs5, by rw [hx5, List.length_append, List.length_singleton]; omega⟩ (fun a ha => by rw [hx5] at ha; rcases List.mem_append.1 ha with ha | ha; (obtain ⟨x, hx, _, rfl⟩ := mem_negs.1 ha; exact (hr.body.each x hx).le le25); (rw [List.mem_singleton.1 ha]; exact hr.head.le le25)) (by rw [hx5, List.length_append, List.length_singleton]; omega)
  rw [hv5] at V
  refine Ops.go (O.callM I Tryz.call166 (V) rfl ?_)
  rintro _ h6 _ w I le6 ⟨bn, en, rfl, rfl, hcn⟩
  try simp only [List.cons_append, List.nil_append] at I
  obtain ⟨h7, ents, clock, le7, hm7, hi7, I⟩ := I.settleMap
  refine Ops.go (O.range I Tryz.underlying181 rfl hm7 ?_)
  intro b53 w I
  refine Ops.nil ?_
  have hle : B.h.le h7 := le25.trans (le6.trans le7)
  rw [hx5] at hcn
  rw [hx2] at hc
  refine WP.block ?_
  refine WP.loopE (σ := List Nat) (fun _ => [(0, l.val), (3, .pointer (some ⟨b3, 0, none⟩)), (11, .map (some bm)), (53, .pointer (some ⟨b53, 0, none⟩))]) (fun done w => Inv B h7 [mit b53 bn clock done, imap bm es, box b3 r.enc 68] w ∧ ∀ q ∈ ents, q.born ∈ done → ∀ v, q.key = .int .i64 v → cntA (poss r.body.xs) v ≠ 0) (fun done => (ents.filter fun q => decide (q.born ∉ done)).length)
    ⟨[], ⟨rfl, rfl, rfl, rfl, trivial⟩, I, fun q _ hq => by cases hq⟩ ?_
  rintro done e w ⟨I, hd⟩
  refine WP.seq ?_
  refine WP.region ?_
  refine Ops.go (O.next I 0 rfl rfl hm7 hi7 ?_ ?_)
  · intro hall
    refine Ops.y (v := .bool _) (Y.extract rfl rfl) ?_
    refine Ops.nil ?_
    refine WP.seq ?_
    refine WP.cond_f rfl ?_
    have hfr : (freeVar r 0 || freeVar r 1 || freeVar r 2) = false := free_none fun v hv => by
      have h8 := hcn v
      rw [if_neg hv] at h8
      obtain ⟨q, hq, hk⟩ := ents_has hi7 (ilook_some_mem h8)
      exact hd q hq (hall q hq) v hk
    clear hd hall
    have I := I.drop.drop
    refine WP.exit ?_
    refine WP.seq ?_
    refine WP.seq ?_
    by_cases o0 : r.src < -1
    · refine WP.region ?_
      refine Ops.y (v := .pointer (some ⟨_, _, none⟩)) (Y.fa fa_68_1 rfl) ?_
      refine Ops.y (v := .int .i64 _) (Y.loadv ty_3 rfl (I.rdbox 0 rfl 2 1) rfl rfl) ?_
      refine Ops.y (v := .bool true) (Y.dec_t (Y.lti rfl rfl) (o0)) ?_
      refine Ops.y (v := .bool _) (Y.move rfl) ?_
      refine Ops.gf rfl ?_
      refine Ops.gf rfl ?_
      refine Ops.gf rfl ?_
      refine Ops.gf rfl ?_
      refine Ops.gf rfl ?_
      refine Ops.gf rfl ?_
      refine Ops.y (v := .bool _) (Y.pick_t rfl rfl) ?_
      refine Ops.nil ?_
      refine WP.cond_t rfl ?_
      refine WP.seq ?_
      refine WP.region ?_
      refine Ops.y (v := .int .i64 _) (Y.assign rfl) ?_
      refine Ops.nil ?_
      refine WP.ret ?_
      repeat (first | refine thenE_ret ?_ | refine blockE_ret ?_)
      exact retQ.mk (vs := [.int .i64 _]) rfl ⟨rfl, trivial⟩ I.ext_of (by simp only [tup, checkRule]; rw [if_neg (by simp [h1]), if_neg (by omega), if_neg (by simp [hb0]), hfr, if_neg (by simp), if_pos (by omega)])
    by_cases o1 : (r.body.xs.length : Int) ≤ r.src
    · refine WP.region ?_
      refine Ops.y (v := .pointer (some ⟨_, _, none⟩)) (Y.fa fa_68_1 rfl) ?_
      refine Ops.y (v := .int .i64 _) (Y.loadv ty_3 rfl (I.rdbox 0 rfl 2 1) rfl rfl) ?_
      refine Ops.y (v := .bool false) (Y.dec_f (Y.lti rfl rfl) (o0)) ?_
      refine Ops.y (v := .bool _) (Y.move rfl) ?_
      refine Ops.ygt rfl (v := .pointer (some ⟨_, _, none⟩)) (Y.fa fa_68_1 rfl) ?_
      refine Ops.ygt rfl (v := .int .i64 _) (Y.loadv ty_3 rfl (I.rdbox 0 rfl 2 1) rfl rfl) ?_
      refine Ops.ygt rfl (v := .pointer (some ⟨_, _, none⟩)) (Y.fa fa_68_3 rfl) ?_
      refine Ops.ygt rfl (v := .slice _ _ _) (Y.loadv ty_66 rfl (I.rdbox 0 rfl 4 1) rfl rfl) ?_
      refine Ops.ygt rfl (v := .int .i64 _) (Y.lens Tryz.underlying66 rfl) ?_
      refine Ops.ygt rfl (v := .bool true) (Y.dec_t (Y.gei rfl rfl) (o1)) ?_
      refine Ops.y (v := .bool _) (Y.pick_f rfl rfl) ?_
      refine Ops.nil ?_
      refine WP.cond_t rfl ?_
      refine WP.seq ?_
      refine WP.region ?_
      refine Ops.y (v := .int .i64 _) (Y.assign rfl) ?_
      refine Ops.nil ?_
      refine WP.ret ?_
      repeat (first | refine thenE_ret ?_ | refine blockE_ret ?_)
      exact retQ.mk (vs := [.int .i64 _]) rfl ⟨rfl, trivial⟩ I.ext_of (by simp only [tup, checkRule]; rw [if_neg (by simp [h1]), if_neg (by omega), if_neg (by simp [hb0]), hfr, if_neg (by simp), if_pos (by omega)])
    refine WP.region ?_
    refine Ops.y (v := .pointer (some ⟨_, _, none⟩)) (Y.fa fa_68_1 rfl) ?_
    refine Ops.y (v := .int .i64 _) (Y.loadv ty_3 rfl (I.rdbox 0 rfl 2 1) rfl rfl) ?_
    refine Ops.y (v := .bool false) (Y.dec_f (Y.lti rfl rfl) (o0)) ?_
    refine Ops.y (v := .bool _) (Y.move rfl) ?_
    refine Ops.ygt rfl (v := .pointer (some ⟨_, _, none⟩)) (Y.fa fa_68_1 rfl) ?_
    refine Ops.ygt rfl (v := .int .i64 _) (Y.loadv ty_3 rfl (I.rdbox 0 rfl 2 1) rfl rfl) ?_
    refine Ops.ygt rfl (v := .pointer (some ⟨_, _, none⟩)) (Y.fa fa_68_3 rfl) ?_
    refine Ops.ygt rfl (v := .slice _ _ _) (Y.loadv ty_66 rfl (I.rdbox 0 rfl 4 1) rfl rfl) ?_
    refine Ops.ygt rfl (v := .int .i64 _) (Y.lens Tryz.underlying66 rfl) ?_
    refine Ops.ygt rfl (v := .bool false) (Y.dec_f (Y.gei rfl rfl) (o1)) ?_
    refine Ops.y (v := .bool _) (Y.pick_f rfl rfl) ?_
    refine Ops.nil ?_
    refine WP.cond_f rfl ?_
    have hle' := hle
    have EH := (hl.at (i := r.head.pred.toNat) (by omega)).le hle
    have eH := predOf_getE hh.1 hh.2
    refine WP.skip ?_
    refine WP.seq ?_
    refine WP.region ?_
    refine Ops.y (v := .slice _ _ _) (Y.move rfl) ?_
    refine Ops.y (v := .pointer (some ⟨_, _, none⟩)) (Y.fa0 fa_68_0 rfl) ?_
    refine Ops.y (v := .pointer (some ⟨_, _, none⟩)) (Y.fa0 fa_65_0 rfl) ?_
    refine Ops.y (v := .int .i64 _) (Y.loadv ty_3 rfl (I.rdbox 0 rfl 0 1) rfl rfl) ?_
    refine Ops.y (v := .pointer (some ⟨_, _, none⟩)) (Y.idxEl EH Tryz.underlying22 Tryz.sizeOf62 rfl rfl hh.1 rfl) ?_
    refine Ops.y (v := .pointer (some ⟨_, _, none⟩)) (Y.fa fa_62_2 rfl) ?_
    refine Ops.y (v := .int .i64 _) (Y.loadv ty_3 rfl (I.rd (EH.rd.part 2 1)) rfl rfl) ?_
    refine Ops.y (v := .int .i64 _) (Y.assign rfl) ?_
    refine Ops.nil ?_
    refine WP.seq ?_
    refine WP.block ?_
    refine WP.seq ?_
    refine WP.cutL (σ := Unit) (fun _ => [(0, l.val), (3, .pointer (some ⟨b3, 0, none⟩)), (13, .int .i64 (predOf l.xs r.head.pred).kind), (80, .bool (decide ((predOf l.xs r.head.pred).kind = 0 ∧ (r.src ≠ -1 ∨ r.n ≠ 0))))]) (fun _ w => Inv B h7 [box b3 r.enc 68] w) ?_ ?_
    · rw [eH]
      by_cases c1 : (l.xs[r.head.pred.toNat]'(by omega)).kind = 0
      · by_cases c2 : r.src ≠ -1
        · refine WP.region ?_
          refine Ops.y (v := .int .i64 _) (Y.move rfl) ?_
          refine Ops.y (v := .bool true) (Y.dec_t (Y.eqi rfl rfl) (c1)) ?_
          refine Ops.y (v := .bool _) (Y.move rfl) ?_
          refine Ops.ygt rfl (v := .pointer (some ⟨_, _, none⟩)) (Y.fa fa_68_1 rfl) ?_
          refine Ops.ygt rfl (v := .int .i64 _) (Y.loadv ty_3 rfl (I.rdbox 0 rfl 2 1) rfl rfl) ?_
          refine Ops.ygt rfl (v := .bool true) (Y.dec_t (Y.nei rfl rfl) (c2)) ?_
          refine Ops.ygt rfl (v := .bool _) (Y.move rfl) ?_
          refine Ops.gf rfl ?_
          refine Ops.gf rfl ?_
          refine Ops.gf rfl ?_
          refine Ops.ygt rfl (v := .bool _) (Y.pick_t rfl rfl) ?_
          refine Ops.y (v := .bool _) (Y.pick_t rfl rfl) ?_
          refine Ops.y (v := .bool _) (Y.assign rfl) ?_
          refine Ops.nil ?_
          exact ⟨(), ⟨rfl, rfl, rfl, bT ⟨c1, .inl c2⟩, trivial⟩, I⟩
        · by_cases c3 : r.n ≠ 0
          · refine WP.region ?_
            refine Ops.y (v := .int .i64 _) (Y.move rfl) ?_
            refine Ops.y (v := .bool true) (Y.dec_t (Y.eqi rfl rfl) (c1)) ?_
            refine Ops.y (v := .bool _) (Y.move rfl) ?_
            refine Ops.ygt rfl (v := .pointer (some ⟨_, _, none⟩)) (Y.fa fa_68_1 rfl) ?_
            refine Ops.ygt rfl (v := .int .i64 _) (Y.loadv ty_3 rfl (I.rdbox 0 rfl 2 1) rfl rfl) ?_
            refine Ops.ygt rfl (v := .bool false) (Y.dec_f (Y.nei rfl rfl) (c2)) ?_
            refine Ops.ygt rfl (v := .bool _) (Y.move rfl) ?_
            refine Ops.ygt rfl (v := .pointer (some ⟨_, _, none⟩)) (Y.fa fa_68_2 rfl) ?_
            refine Ops.ygt rfl (v := .int .i64 _) (Y.loadv ty_3 rfl (I.rdbox 0 rfl 3 1) rfl rfl) ?_
            refine Ops.ygt rfl (v := .bool true) (Y.dec_t (Y.nei rfl rfl) (c3)) ?_
            refine Ops.ygt rfl (v := .bool _) (Y.pick_f rfl rfl) ?_
            refine Ops.y (v := .bool _) (Y.pick_t rfl rfl) ?_
            refine Ops.y (v := .bool _) (Y.assign rfl) ?_
            refine Ops.nil ?_
            exact ⟨(), ⟨rfl, rfl, rfl, bT ⟨c1, .inr c3⟩, trivial⟩, I⟩
          · refine WP.region ?_
            refine Ops.y (v := .int .i64 _) (Y.move rfl) ?_
            refine Ops.y (v := .bool true) (Y.dec_t (Y.eqi rfl rfl) (c1)) ?_
            refine Ops.y (v := .bool _) (Y.move rfl) ?_
            refine Ops.ygt rfl (v := .pointer (some ⟨_, _, none⟩)) (Y.fa fa_68_1 rfl) ?_
            refine Ops.ygt rfl (v := .int .i64 _) (Y.loadv ty_3 rfl (I.rdbox 0 rfl 2 1) rfl rfl) ?_
            refine Ops.ygt rfl (v := .bool false) (Y.dec_f (Y.nei rfl rfl) (c2)) ?_
            refine Ops.ygt rfl (v := .bool _) (Y.move rfl) ?_
            refine Ops.ygt rfl (v := .pointer (some ⟨_, _, none⟩)) (Y.fa fa_68_2 rfl) ?_
            refine Ops.ygt rfl (v := .int .i64 _) (Y.loadv ty_3 rfl (I.rdbox 0 rfl 3 1) rfl rfl) ?_
            refine Ops.ygt rfl (v := .bool false) (Y.dec_f (Y.nei rfl rfl) (c3)) ?_
            refine Ops.ygt rfl (v := .bool _) (Y.pick_f rfl rfl) ?_
            refine Ops.y (v := .bool _) (Y.pick_t rfl rfl) ?_
            refine Ops.y (v := .bool _) (Y.assign rfl) ?_
            refine Ops.nil ?_
            exact ⟨(), ⟨rfl, rfl, rfl, bF (fun h => h.2.elim c2 c3), trivial⟩, I⟩
      · refine WP.region ?_
        refine Ops.y (v := .int .i64 _) (Y.move rfl) ?_
        refine Ops.y (v := .bool false) (Y.dec_f (Y.eqi rfl rfl) (c1)) ?_
        refine Ops.y (v := .bool _) (Y.move rfl) ?_
        refine Ops.gf rfl ?_
        refine Ops.gf rfl ?_
        refine Ops.gf rfl ?_
        refine Ops.gf rfl ?_
        refine Ops.gf rfl ?_
        refine Ops.gf rfl ?_
        refine Ops.gf rfl ?_
        refine Ops.gf rfl ?_
        refine Ops.y (v := .bool _) (Y.pick_f rfl rfl) ?_
        refine Ops.y (v := .bool _) (Y.assign rfl) ?_
        refine Ops.nil ?_
        exact ⟨(), ⟨rfl, rfl, rfl, bF (fun h => c1 h.1), trivial⟩, I⟩
    rintro _ e w I
    refine WP.cond_dec rfl (fun d1 => ?_) (fun d1 => ?_)
    · refine WP.seq ?_
      refine WP.region ?_
      refine Ops.y (v := .int .i64 _) (Y.assign rfl) ?_
      refine Ops.nil ?_
      refine WP.ret ?_
      repeat (first | refine thenE_ret ?_ | refine blockE_ret ?_)
      exact retQ.mk (vs := [.int .i64 _]) rfl ⟨rfl, trivial⟩ I.ext_of (by simp only [tup, checkRule]; rw [if_neg (by simp [h1]), if_neg (by omega), if_neg (by simp [hb0]), hfr, if_neg (by simp), if_neg (by omega), if_pos d1])
    refine WP.seq ?_
    refine WP.cutL (σ := Unit) (fun _ => [(3, .pointer (some ⟨b3, 0, none⟩)), (93, .bool (decide (0 ≤ r.src ∧ ((litOf r r.src).neg = true ∨ (predOf l.xs (litOf r r.src).atom.pred).kind ≠ (predOf l.xs r.head.pred).kind))))]) (fun _ w => Inv B h7 [box b3 r.enc 68] w) ?_ ?_
    · by_cases c1 : 0 ≤ r.src
      · have hs1 : r.src.toNat < r.body.xs.length := by omega
        have EB := (hr.body.is.at hs1).le hle
        rw [litOf_get c1 (by omega)]
        have hap := checkAtom_in (bodyErr_ne.1 hb0 _ (List.getElem_mem hs1))
        have EP := (hl.at (i := (r.body.xs[r.src.toNat]'hs1).atom.pred.toNat) (by omega)).le hle
        rw [predOf_getE hap.1 hap.2]
        by_cases c2 : (r.body.xs[r.src.toNat]'hs1).neg = true
        · refine WP.region ?_
          refine Ops.y (v := .pointer (some ⟨_, _, none⟩)) (Y.fa fa_68_1 rfl) ?_
          refine Ops.y (v := .int .i64 _) (Y.loadv ty_3 rfl (I.rdbox 0 rfl 2 1) rfl rfl) ?_
          refine Ops.y (v := .bool true) (Y.dec_t (Y.gei rfl rfl) (c1)) ?_
          refine Ops.y (v := .bool _) (Y.move rfl) ?_
          refine Ops.ygt rfl (v := .pointer (some ⟨_, _, none⟩)) (Y.fa fa_68_3 rfl) ?_
          refine Ops.ygt rfl (v := .slice _ _ _) (Y.loadv ty_66 rfl (I.rdbox 0 rfl 4 1) rfl rfl) ?_
          refine Ops.ygt rfl (v := .pointer (some ⟨_, _, none⟩)) (Y.fa fa_68_1 rfl) ?_
          refine Ops.ygt rfl (v := .int .i64 _) (Y.loadv ty_3 rfl (I.rdbox 0 rfl 2 1) rfl rfl) ?_
          refine Ops.ygt rfl (v := .pointer (some ⟨_, _, none⟩)) (Y.idxEl EB Tryz.underlying66 Tryz.sizeOf131 rfl rfl c1 rfl) ?_
          refine Ops.ygt rfl (v := .pointer (some ⟨_, _, none⟩)) (Y.fa0 fa_131_0 rfl) ?_
          refine Ops.ygt rfl (v := .bool true) (Y.b (Y.loadv ty_4 rfl (I.rd (EB.rd.part 0 1)) rfl rfl) (c2)) ?_
          refine Ops.ygt rfl (v := .bool _) (Y.move rfl) ?_
          refine Ops.gf rfl ?_
          refine Ops.gf rfl ?_
          refine Ops.gf rfl ?_
          refine Ops.gf rfl ?_
          refine Ops.gf rfl ?_
          refine Ops.gf rfl ?_
          refine Ops.gf rfl ?_
          refine Ops.gf rfl ?_
          refine Ops.gf rfl ?_
          refine Ops.gf rfl ?_
          refine Ops.gf rfl ?_
          refine Ops.gf rfl ?_
          refine Ops.gf rfl ?_
          refine Ops.gf rfl ?_
          refine Ops.ygt rfl (v := .bool _) (Y.pick_t rfl rfl) ?_
          refine Ops.y (v := .bool _) (Y.pick_t rfl rfl) ?_
          refine Ops.y (v := .bool _) (Y.assign rfl) ?_
          refine Ops.nil ?_
          exact ⟨(), ⟨rfl, bT ⟨c1, .inl c2⟩, trivial⟩, I⟩
        · by_cases c3 : (l.xs[(r.body.xs[r.src.toNat]'hs1).atom.pred.toNat]'(by omega)).kind ≠ (predOf l.xs r.head.pred).kind
          · refine WP.region ?_
            refine Ops.y (v := .pointer (some ⟨_, _, none⟩)) (Y.fa fa_68_1 rfl) ?_
            refine Ops.y (v := .int .i64 _) (Y.loadv ty_3 rfl (I.rdbox 0 rfl 2 1) rfl rfl) ?_
            refine Ops.y (v := .bool true) (Y.dec_t (Y.gei rfl rfl) (c1)) ?_
            refine Ops.y (v := .bool _) (Y.move rfl) ?_
            refine Ops.ygt rfl (v := .pointer (some ⟨_, _, none⟩)) (Y.fa fa_68_3 rfl) ?_
            refine Ops.ygt rfl (v := .slice _ _ _) (Y.loadv ty_66 rfl (I.rdbox 0 rfl 4 1) rfl rfl) ?_
            refine Ops.ygt rfl (v := .pointer (some ⟨_, _, none⟩)) (Y.fa fa_68_1 rfl) ?_
            refine Ops.ygt rfl (v := .int .i64 _) (Y.loadv ty_3 rfl (I.rdbox 0 rfl 2 1) rfl rfl) ?_
            refine Ops.ygt rfl (v := .pointer (some ⟨_, _, none⟩)) (Y.idxEl EB Tryz.underlying66 Tryz.sizeOf131 rfl rfl c1 rfl) ?_
            refine Ops.ygt rfl (v := .pointer (some ⟨_, _, none⟩)) (Y.fa0 fa_131_0 rfl) ?_
            refine Ops.ygt rfl (v := .bool false) (Y.b (Y.loadv ty_4 rfl (I.rd (EB.rd.part 0 1)) rfl rfl) ((by simpa using c2))) ?_
            refine Ops.ygt rfl (v := .bool _) (Y.move rfl) ?_
            refine Ops.ygt rfl (v := .slice _ _ _) (Y.move rfl) ?_
            refine Ops.ygt rfl (v := .pointer (some ⟨_, _, none⟩)) (Y.fa fa_68_3 rfl) ?_
            refine Ops.ygt rfl (v := .slice _ _ _) (Y.loadv ty_66 rfl (I.rdbox 0 rfl 4 1) rfl rfl) ?_
            refine Ops.ygt rfl (v := .pointer (some ⟨_, _, none⟩)) (Y.fa fa_68_1 rfl) ?_
            refine Ops.ygt rfl (v := .int .i64 _) (Y.loadv ty_3 rfl (I.rdbox 0 rfl 2 1) rfl rfl) ?_
            refine Ops.ygt rfl (v := .pointer (some ⟨_, _, none⟩)) (Y.idxEl EB Tryz.underlying66 Tryz.sizeOf131 rfl rfl c1 rfl) ?_
            refine Ops.ygt rfl (v := .pointer (some ⟨_, _, none⟩)) (Y.fa fa_131_1 rfl) ?_
            refine Ops.ygt rfl (v := .pointer (some ⟨_, _, none⟩)) (Y.fa0 fa_65_0 rfl) ?_
            refine Ops.ygt rfl (v := .int .i64 _) (Y.loadv ty_3 rfl (I.rd (EB.rd.part 1 1)) rfl rfl) ?_
            refine Ops.ygt rfl (v := .pointer (some ⟨_, _, none⟩)) (Y.idxEl EP Tryz.underlying22 Tryz.sizeOf62 rfl rfl hap.1 rfl) ?_
            refine Ops.ygt rfl (v := .pointer (some ⟨_, _, none⟩)) (Y.fa fa_62_2 rfl) ?_
            refine Ops.ygt rfl (v := .int .i64 _) (Y.loadv ty_3 rfl (I.rd (EP.rd.part 2 1)) rfl rfl) ?_
            refine Ops.ygt rfl (v := .int .i64 _) (Y.move rfl) ?_
            refine Ops.ygt rfl (v := .bool true) (Y.dec_t (Y.nei rfl rfl) (c3)) ?_
            refine Ops.ygt rfl (v := .bool _) (Y.pick_f rfl rfl) ?_
            refine Ops.y (v := .bool _) (Y.pick_t rfl rfl) ?_
            refine Ops.y (v := .bool _) (Y.assign rfl) ?_
            refine Ops.nil ?_
            exact ⟨(), ⟨rfl, bT ⟨c1, .inr c3⟩, trivial⟩, I⟩
          · refine WP.region ?_
            refine Ops.y (v := .pointer (some ⟨_, _, none⟩)) (Y.fa fa_68_1 rfl) ?_
            refine Ops.y (v := .int .i64 _) (Y.loadv ty_3 rfl (I.rdbox 0 rfl 2 1) rfl rfl) ?_
            refine Ops.y (v := .bool true) (Y.dec_t (Y.gei rfl rfl) (c1)) ?_
            refine Ops.y (v := .bool _) (Y.move rfl) ?_
            refine Ops.ygt rfl (v := .pointer (some ⟨_, _, none⟩)) (Y.fa fa_68_3 rfl) ?_
            refine Ops.ygt rfl (v := .slice _ _ _) (Y.loadv ty_66 rfl (I.rdbox 0 rfl 4 1) rfl rfl) ?_
            refine Ops.ygt rfl (v := .pointer (some ⟨_, _, none⟩)) (Y.fa fa_68_1 rfl) ?_
            refine Ops.ygt rfl (v := .int .i64 _) (Y.loadv ty_3 rfl (I.rdbox 0 rfl 2 1) rfl rfl) ?_
            refine Ops.ygt rfl (v := .pointer (some ⟨_, _, none⟩)) (Y.idxEl EB Tryz.underlying66 Tryz.sizeOf131 rfl rfl c1 rfl) ?_
            refine Ops.ygt rfl (v := .pointer (some ⟨_, _, none⟩)) (Y.fa0 fa_131_0 rfl) ?_
            refine Ops.ygt rfl (v := .bool false) (Y.b (Y.loadv ty_4 rfl (I.rd (EB.rd.part 0 1)) rfl rfl) ((by simpa using c2))) ?_
            refine Ops.ygt rfl (v := .bool _) (Y.move rfl) ?_
            refine Ops.ygt rfl (v := .slice _ _ _) (Y.move rfl) ?_
            refine Ops.ygt rfl (v := .pointer (some ⟨_, _, none⟩)) (Y.fa fa_68_3 rfl) ?_
            refine Ops.ygt rfl (v := .slice _ _ _) (Y.loadv ty_66 rfl (I.rdbox 0 rfl 4 1) rfl rfl) ?_
            refine Ops.ygt rfl (v := .pointer (some ⟨_, _, none⟩)) (Y.fa fa_68_1 rfl) ?_
            refine Ops.ygt rfl (v := .int .i64 _) (Y.loadv ty_3 rfl (I.rdbox 0 rfl 2 1) rfl rfl) ?_
            refine Ops.ygt rfl (v := .pointer (some ⟨_, _, none⟩)) (Y.idxEl EB Tryz.underlying66 Tryz.sizeOf131 rfl rfl c1 rfl) ?_
            refine Ops.ygt rfl (v := .pointer (some ⟨_, _, none⟩)) (Y.fa fa_131_1 rfl) ?_
            refine Ops.ygt rfl (v := .pointer (some ⟨_, _, none⟩)) (Y.fa0 fa_65_0 rfl) ?_
            refine Ops.ygt rfl (v := .int .i64 _) (Y.loadv ty_3 rfl (I.rd (EB.rd.part 1 1)) rfl rfl) ?_
            refine Ops.ygt rfl (v := .pointer (some ⟨_, _, none⟩)) (Y.idxEl EP Tryz.underlying22 Tryz.sizeOf62 rfl rfl hap.1 rfl) ?_
            refine Ops.ygt rfl (v := .pointer (some ⟨_, _, none⟩)) (Y.fa fa_62_2 rfl) ?_
            refine Ops.ygt rfl (v := .int .i64 _) (Y.loadv ty_3 rfl (I.rd (EP.rd.part 2 1)) rfl rfl) ?_
            refine Ops.ygt rfl (v := .int .i64 _) (Y.move rfl) ?_
            refine Ops.ygt rfl (v := .bool false) (Y.dec_f (Y.nei rfl rfl) (c3)) ?_
            refine Ops.ygt rfl (v := .bool _) (Y.pick_f rfl rfl) ?_
            refine Ops.y (v := .bool _) (Y.pick_t rfl rfl) ?_
            refine Ops.y (v := .bool _) (Y.assign rfl) ?_
            refine Ops.nil ?_
            exact ⟨(), ⟨rfl, bF (fun h => h.2.elim c2 c3), trivial⟩, I⟩
      · refine WP.region ?_
        refine Ops.y (v := .pointer (some ⟨_, _, none⟩)) (Y.fa fa_68_1 rfl) ?_
        refine Ops.y (v := .int .i64 _) (Y.loadv ty_3 rfl (I.rdbox 0 rfl 2 1) rfl rfl) ?_
        refine Ops.y (v := .bool false) (Y.dec_f (Y.gei rfl rfl) (c1)) ?_
        refine Ops.y (v := .bool _) (Y.move rfl) ?_
        refine Ops.gf rfl ?_
        refine Ops.gf rfl ?_
        refine Ops.gf rfl ?_
        refine Ops.gf rfl ?_
        refine Ops.gf rfl ?_
        refine Ops.gf rfl ?_
        refine Ops.gf rfl ?_
        refine Ops.gf rfl ?_
        refine Ops.gf rfl ?_
        refine Ops.gf rfl ?_
        refine Ops.gf rfl ?_
        refine Ops.gf rfl ?_
        refine Ops.gf rfl ?_
        refine Ops.gf rfl ?_
        refine Ops.gf rfl ?_
        refine Ops.gf rfl ?_
        refine Ops.gf rfl ?_
        refine Ops.gf rfl ?_
        refine Ops.gf rfl ?_
        refine Ops.gf rfl ?_
        refine Ops.gf rfl ?_
        refine Ops.gf rfl ?_
        refine Ops.gf rfl ?_
        refine Ops.y (v := .bool _) (Y.pick_f rfl rfl) ?_
        refine Ops.y (v := .bool _) (Y.assign rfl) ?_
        refine Ops.nil ?_
        exact ⟨(), ⟨rfl, bF (fun h => c1 h.1), trivial⟩, I⟩
    rintro _ e w I
    refine WP.cond_dec rfl (fun d2 => ?_) (fun d2 => ?_)
    · refine WP.seq ?_
      refine WP.region ?_
      refine Ops.y (v := .int .i64 _) (Y.assign rfl) ?_
      refine Ops.nil ?_
      refine WP.ret ?_
      repeat (first | refine thenE_ret ?_ | refine blockE_ret ?_)
      exact retQ.mk (vs := [.int .i64 _]) rfl ⟨rfl, trivial⟩ I.ext_of (by simp only [tup, checkRule]; rw [if_neg (by simp [h1]), if_neg (by omega), if_neg (by simp [hb0]), hfr, if_neg (by simp), if_neg (by omega), if_neg d1, if_pos d2])
    refine WP.seq ?_
    by_cases o0 : r.n < 0
    · refine WP.region ?_
      refine Ops.y (v := .pointer (some ⟨_, _, none⟩)) (Y.fa fa_68_2 rfl) ?_
      refine Ops.y (v := .int .i64 _) (Y.loadv ty_3 rfl (I.rdbox 0 rfl 3 1) rfl rfl) ?_
      refine Ops.y (v := .bool true) (Y.dec_t (Y.lti rfl rfl) (o0)) ?_
      refine Ops.y (v := .bool _) (Y.move rfl) ?_
      refine Ops.gf rfl ?_
      refine Ops.gf rfl ?_
      refine Ops.gf rfl ?_
      refine Ops.y (v := .bool _) (Y.pick_t rfl rfl) ?_
      refine Ops.y (v := .bool _) (Y.assign rfl) ?_
      refine Ops.nil ?_
      refine WP.cond_t rfl ?_
      refine WP.seq ?_
      refine WP.region ?_
      refine Ops.y (v := .int .i64 _) (Y.assign rfl) ?_
      refine Ops.nil ?_
      refine WP.ret ?_
      repeat (first | refine thenE_ret ?_ | refine blockE_ret ?_)
      exact retQ.mk (vs := [.int .i64 _]) rfl ⟨rfl, trivial⟩ I.ext_of (by simp only [tup, checkRule]; rw [if_neg (by simp [h1]), if_neg (by omega), if_neg (by simp [hb0]), hfr, if_neg (by simp), if_neg (by omega), if_neg d1, if_neg d2, if_pos (by omega)])
    by_cases o1 : 15 < r.n
    · refine WP.region ?_
      refine Ops.y (v := .pointer (some ⟨_, _, none⟩)) (Y.fa fa_68_2 rfl) ?_
      refine Ops.y (v := .int .i64 _) (Y.loadv ty_3 rfl (I.rdbox 0 rfl 3 1) rfl rfl) ?_
      refine Ops.y (v := .bool false) (Y.dec_f (Y.lti rfl rfl) (o0)) ?_
      refine Ops.y (v := .bool _) (Y.move rfl) ?_
      refine Ops.ygt rfl (v := .pointer (some ⟨_, _, none⟩)) (Y.fa fa_68_2 rfl) ?_
      refine Ops.ygt rfl (v := .int .i64 _) (Y.loadv ty_3 rfl (I.rdbox 0 rfl 3 1) rfl rfl) ?_
      refine Ops.ygt rfl (v := .bool true) (Y.dec_t (Y.gti rfl rfl) (o1)) ?_
      refine Ops.y (v := .bool _) (Y.pick_f rfl rfl) ?_
      refine Ops.y (v := .bool _) (Y.assign rfl) ?_
      refine Ops.nil ?_
      refine WP.cond_t rfl ?_
      refine WP.seq ?_
      refine WP.region ?_
      refine Ops.y (v := .int .i64 _) (Y.assign rfl) ?_
      refine Ops.nil ?_
      refine WP.ret ?_
      repeat (first | refine thenE_ret ?_ | refine blockE_ret ?_)
      exact retQ.mk (vs := [.int .i64 _]) rfl ⟨rfl, trivial⟩ I.ext_of (by simp only [tup, checkRule]; rw [if_neg (by simp [h1]), if_neg (by omega), if_neg (by simp [hb0]), hfr, if_neg (by simp), if_neg (by omega), if_neg d1, if_neg d2, if_pos (by omega)])
    refine WP.region ?_
    refine Ops.y (v := .pointer (some ⟨_, _, none⟩)) (Y.fa fa_68_2 rfl) ?_
    refine Ops.y (v := .int .i64 _) (Y.loadv ty_3 rfl (I.rdbox 0 rfl 3 1) rfl rfl) ?_
    refine Ops.y (v := .bool false) (Y.dec_f (Y.lti rfl rfl) (o0)) ?_
    refine Ops.y (v := .bool _) (Y.move rfl) ?_
    refine Ops.ygt rfl (v := .pointer (some ⟨_, _, none⟩)) (Y.fa fa_68_2 rfl) ?_
    refine Ops.ygt rfl (v := .int .i64 _) (Y.loadv ty_3 rfl (I.rdbox 0 rfl 3 1) rfl rfl) ?_
    refine Ops.ygt rfl (v := .bool false) (Y.dec_f (Y.gti rfl rfl) (o1)) ?_
    refine Ops.y (v := .bool _) (Y.pick_f rfl rfl) ?_
    refine Ops.y (v := .bool _) (Y.assign rfl) ?_
    refine Ops.nil ?_
    refine WP.cond_f rfl ?_
    refine WP.skip ?_
    refine WP.seq ?_
    refine WP.region ?_
    refine Ops.y (v := .int .i64 _) (Y.assign rfl) ?_
    refine Ops.nil ?_
    refine WP.ret ?_
    repeat (first | refine thenE_ret ?_ | refine blockE_ret ?_)
    exact retQ.mk (vs := [.int .i64 _]) rfl ⟨rfl, trivial⟩ I.ext_of (by simp only [tup, checkRule]; rw [if_neg (by simp [h1]), if_neg (by omega), if_neg (by simp [hb0]), hfr, if_neg (by simp), if_neg (by omega), if_neg d1, if_neg d2, if_neg (by omega)])
  · intro q w hq hnd I
    refine Ops.y (v := .bool _) (Y.extract rfl rfl) ?_
    refine Ops.nil ?_
    refine WP.seq ?_
    refine WP.cond_t rfl ?_
    obtain ⟨v, x, hvx, hkq, hvq⟩ := ents_of hi7 hq
    refine WP.skip ?_
    refine WP.block ?_
    refine WP.seq ?_
    refine WP.region ?_
    refine Ops.y (v := .tuple #[.int .i64 v, .int .i64 x]) (hkq ▸ hvq ▸ Y.entry I 0 rfl rfl hm7 hi7 hq) ?_
    refine Ops.y (v := .int .i64 _) (Y.extract rfl rfl) ?_
    refine Ops.y (v := .int .i64 _) (Y.assign rfl) ?_
    refine Ops.nil ?_
    refine WP.seq ?_
    refine WP.region ?_
    refine Ops.y (v := .map _) (Y.move rfl) ?_
    refine Ops.y (v := .int .i64 _) (Y.move rfl) ?_
    refine Ops.y (v := .int .i64 _) (Y.lookup I Tryz.underlying181 Tryz.underlying3 Tryz.zeroValue3 1 rfl rfl rfl) ?_
    refine Ops.y (v := .bool (decide _)) (Y.eqi rfl rfl) ?_
    refine Ops.nil ?_
    refine WP.cond_dec rfl (fun hz => ?_) (fun hz => ?_)
    · refine WP.seq ?_
      refine WP.region ?_
      refine Ops.y (v := .int .i64 _) (Y.assign rfl) ?_
      refine Ops.nil ?_
      have hz' : cntA (poss r.body.xs) v = 0 := by rw [hc.get v] at hz; omega
      have hnz : cntA (negs r.body.xs ++ [r.head]) v ≠ 0 := fun h0 => mem_ilook hvx (by rw [hcn v, if_pos h0])
      refine WP.ret ?_
      repeat (first | refine thenE_ret ?_ | refine blockE_ret ?_)
      exact retQ.mk (vs := [.int .i64 _]) rfl ⟨rfl, trivial⟩ I.ext_of (by simp only [tup, checkRule]; rw [if_neg (by simp [h1]), if_neg (by omega), if_neg (by simp [hb0]), if_pos (free_any (freeVar_iff.2 ⟨hnz, hz'⟩) h1 hb0)])
    refine WP.skip ?_
    refine ⟨done ++ [q.born], ⟨⟨rfl, rfl, rfl, rfl, trivial⟩, I, fun q' hq' hb' v' hv' => ?_⟩, filter_shorter hq (by simp) (by simpa using hnd) (fun y _ hy => by simp at hy ⊢; exact hy.1)⟩
    rcases List.mem_append.1 hb' with h8 | h8
    · exact hd q' hq' h8 v' hv'
    · have : q' = q := nodup_inj hi7.nodup hq' hq (List.mem_singleton.1 h8)
      subst this
      rw [hkq] at hv'
      cases hv'
      rw [hc.get v] at hz
      omega
end Go.TF
end
section
/- The contract of the reference's CheckRule. -/
namespace Go.TF
open Go Go.RowKit Go.Proofs
set_option maxRecDepth 10000

set_option maxHeartbeats 1000000 in
theorem CheckRule_ok (B : Base) (hB : B.ok) (l : Sl Prd) (hl : Prds l B.h) (r : Rul) (hr : r.In B.h) : Fn Tryz.prog 73 [l.val, r.val] B (fun v _ => v = .int .i64 (checkRule l.xs r)) := by
  have hsm := hl.small
  have hsb := hr.body.is.small
  refine Fn.of Tryz.func73 rfl Tryz.ntmps73 (by kernel_rfl) (by simp) ?_
  intro e
  have I := Inv.start hB
  refine WP.seq ?_
  refine WP.region ?_
  refine Ops.go (O.box (v := .agg #[_, _, _, _, _]) I rfl rfl ?_)
  intro b3 w I
  refine Ops.y (v := .int .i64 _) (Y.assign rfl) ?_
  refine Ops.nil ?_
  refine WP.seq ?_
  refine WP.seq ?_
  refine WP.region ?_
  refine Ops.y (v := .slice _ _ _) (Y.move rfl) ?_
  refine Ops.y (v := .pointer (some ⟨_, _, none⟩)) (Y.fa0 fa_68_0 rfl) ?_
  refine Ops.y (v := .agg #[_, _]) (Y.loadv ty_65 rfl (I.rdbox 0 rfl 0 2) rfl rfl) ?_
  refine Ops.go (O.callv I Tryz.call113 (CheckAtom_ok _ I.base_ok l hl r.head hr.head) rfl ?_)
  intro w I
  refine Ops.y (v := .int .i64 _) (Y.assign rfl) ?_
  refine Ops.nil ?_
  refine WP.seq ?_
  refine WP.region ?_
  refine Ops.y (v := .int .i64 _) (Y.move rfl) ?_
  refine Ops.y (v := .bool (decide _)) (Y.nei rfl rfl) ?_
  refine Ops.nil ?_
  refine WP.cond_dec rfl (fun h1 => ?_) (fun h1 => ?_)
  · refine WP.seq ?_
    refine WP.region ?_
    refine Ops.y (v := .int .i64 _) (Y.move rfl) ?_
    refine Ops.y (v := .int .i64 _) (Y.assign rfl) ?_
    refine Ops.nil ?_
    refine WP.ret ?_
    repeat (first | refine thenE_ret ?_ | refine blockE_ret ?_)
    exact retQ.mk (vs := [.int .i64 _]) rfl ⟨rfl, trivial⟩ I.ext_of (by simp only [tup, checkRule]; rw [if_pos h1])
  have h1 := Decidable.not_not.1 h1
  have hh := checkAtom_in h1
  refine WP.skip ?_
  refine WP.seq ?_
  refine WP.seq ?_
  refine WP.region ?_
  refine Ops.y (v := .pointer (some ⟨_, _, none⟩)) (Y.fa fa_68_3 rfl) ?_
  refine Ops.y (v := .slice _ _ _) (Y.loadv ty_66 rfl (I.rdbox 0 rfl 4 1) rfl rfl) ?_
  refine Ops.y (v := .int .i64 _) (Y.lens Tryz.underlying66 rfl) ?_
  refine Ops.y (v := .bool (decide _)) (Y.gti rfl rfl) ?_
  refine Ops.nil ?_
  refine WP.cond_dec rfl (fun h2 => ?_) (fun h2 => ?_)
  · refine WP.seq ?_
    refine WP.region ?_
    refine Ops.y (v := .int .i64 _) (Y.assign rfl) ?_
    refine Ops.nil ?_
    refine WP.ret ?_
    repeat (first | refine thenE_ret ?_ | refine blockE_ret ?_)
    exact retQ.mk (vs := [.int .i64 _]) rfl ⟨rfl, trivial⟩ I.ext_of (by simp only [tup, checkRule]; rw [if_neg (by simp [h1]), if_pos (by omega)])
  refine WP.skip ?_
  refine WP.seq ?_
  refine WP.seq ?_
  refine WP.region ?_
  refine Ops.y (v := .int .i64 _) (Y.assign rfl) ?_
  refine Ops.nil ?_
  refine WP.block ?_
  refine WP.loopE (σ := Nat) (fun k => [(0, l.val), (3, .pointer (some ⟨b3, 0, none⟩)), (6, .int .i64 k)]) (fun k w => Inv B B.h [box b3 r.enc 68] w ∧ k ≤ r.body.xs.length ∧ ∀ j, j < k → ∀ hj' : j < r.body.xs.length, checkAtom l.xs r.body.xs[j].atom = 0) (fun k => r.body.xs.length - k)
    ⟨0, ⟨rfl, rfl, rfl, trivial⟩, I, Nat.zero_le _, fun j hj => (by omega)⟩ ?_
  rintro k e w ⟨I, hk, hn⟩
  refine WP.seq ?_
  refine WP.seq ?_
  refine WP.region ?_
  refine Ops.y (v := .int .i64 _) (Y.move rfl) ?_
  refine Ops.y (v := .pointer (some ⟨_, _, none⟩)) (Y.fa fa_68_3 rfl) ?_
  refine Ops.y (v := .slice _ _ _) (Y.loadv ty_66 rfl (I.rdbox 0 rfl 4 1) rfl rfl) ?_
  refine Ops.y (v := .int .i64 _) (Y.lens Tryz.underlying66 rfl) ?_
  refine Ops.y (v := .bool (decide _)) (Y.lti rfl rfl) ?_
  refine Ops.nil ?_
  refine WP.cond_dec rfl (fun h3 => ?_) (fun h3 => ?_)
  · have hk' : k < r.body.xs.length := by omega
    have E1 := hr.body.is.at hk'
    refine WP.skip ?_
    refine WP.seq ?_
    refine WP.block ?_
    refine WP.seq ?_
    refine WP.region ?_
    refine Ops.y (v := .slice _ _ _) (Y.move rfl) ?_
    refine Ops.y (v := .pointer (some ⟨_, _, none⟩)) (Y.fa fa_68_3 rfl) ?_
    refine Ops.y (v := .slice _ _ _) (Y.loadv ty_66 rfl (I.rdbox 0 rfl 4 1) rfl rfl) ?_
    refine Ops.y (v := .int .i64 _) (Y.move rfl) ?_
    refine Ops.y (v := .pointer (some ⟨_, _, none⟩)) (Y.idxEl E1 Tryz.underlying66 Tryz.sizeOf131 rfl rfl (Int.natCast_nonneg _) rfl) ?_
    refine Ops.y (v := .pointer (some ⟨_, _, none⟩)) (Y.fa fa_131_1 rfl) ?_
    refine Ops.y (v := .agg #[_, _]) (Y.loadv ty_65 rfl (I.rd (E1.rd.part 1 2)) rfl rfl) ?_
    refine Ops.go (O.callv I Tryz.call113 (CheckAtom_ok _ I.base_ok l hl r.body.xs[k].atom (hr.body.each _ (List.getElem_mem hk'))) rfl ?_)
    intro w I
    refine Ops.y (v := .int .i64 _) (Y.assign rfl) ?_
    refine Ops.nil ?_
    refine WP.seq ?_
    refine WP.region ?_
    refine Ops.y (v := .int .i64 _) (Y.move rfl) ?_
    refine Ops.y (v := .bool (decide _)) (Y.nei rfl rfl) ?_
    refine Ops.nil ?_
    refine WP.cond_dec rfl (fun h4 => ?_) (fun h4 => ?_)
    · refine WP.seq ?_
      refine WP.region ?_
      refine Ops.y (v := .int .i64 _) (Y.move rfl) ?_
      refine Ops.y (v := .int .i64 _) (Y.assign rfl) ?_
      refine Ops.nil ?_
      refine WP.ret ?_
      repeat (first | refine thenE_ret ?_ | refine blockE_ret ?_)
      exact retQ.mk (vs := [.int .i64 _]) rfl ⟨rfl, trivial⟩ I.ext_of (by simp only [tup, checkRule]; rw [if_neg (by simp [h1]), if_neg (by omega), if_pos (by rw [bodyErr_at hk' hn h4]; exact h4), bodyErr_at hk' hn h4])
    refine WP.skip ?_
    refine WP.region ?_
    refine Ops.y (v := .int .i64 _) (Y.move rfl) ?_
    refine Ops.y (v := .int .i64 _) (Y.addi rfl rfl ⟨by omega, by omega⟩) ?_
    refine Ops.y (v := .int .i64 _) (Y.assign rfl) ?_
    refine Ops.nil ?_
    exact ⟨k + 1, ⟨⟨rfl, rfl, rfl, trivial⟩, I, by omega, fun j hj hj' => by
      rcases Nat.lt_succ_iff_lt_or_eq.1 hj with h' | h'
      · exact hn j h' hj'
      · subst h'; exact Decidable.not_not.1 h4⟩, by omega⟩
  have hb0 : bodyErr l.xs r.body.xs = 0 := bodyErr_ne.2 fun x hx => by obtain ⟨j, hj, rfl⟩ := List.getElem_of_mem hx; exact hn j (by omega) hj
  clear hn hk h3
  refine WP.exit ?_
  refine WP.seq ?_
  refine WP.seq ?_
  refine WP.region ?_
  refine Ops.y (v := .int .i64 _) (Y.assign rfl) ?_
  refine Ops.nil ?_
  refine WP.block ?_
  refine WP.loopE (σ := Nat) (fun k => [(0, l.val), (3, .pointer (some ⟨b3, 0, none⟩)), (8, .int .i64 k)]) (fun k w => Inv B B.h [box b3 r.enc 68] w ∧ k ≤ 3 ∧ ∀ j : Nat, j < k → freeVar r j = false) (fun k => 3 - k)
    ⟨0, ⟨rfl, rfl, rfl, trivial⟩, I, Nat.zero_le _, fun j hj => (by omega)⟩ ?_
  rintro k e w ⟨I, hk, hn⟩
  refine WP.seq ?_
  refine WP.seq ?_
  refine WP.region ?_
  refine Ops.y (v := .int .i64 _) (Y.move rfl) ?_
  refine Ops.y (v := .bool (decide _)) (Y.lti rfl rfl) ?_
  refine Ops.nil ?_
  refine WP.cond_dec rfl (fun h3 => ?_) (fun h3 => ?_)
  · refine WP.skip ?_
    refine WP.seq ?_
    refine WP.block ?_
    refine WP.seq ?_
    refine WP.region ?_
    refine Ops.y (v := .pointer (some ⟨_, _, none⟩)) (Y.fa0 fa_68_0 rfl) ?_
    refine Ops.y (v := .agg #[_, _]) (Y.loadv ty_65 rfl (I.rdbox 0 rfl 0 2) rfl rfl) ?_
    refine Ops.y (v := .int .i64 _) (Y.move rfl) ?_
    refine Ops.go (O.callv I Tryz.call140 (standsR_ok _ I.base_ok r.head hr.head k) rfl ?_)
    intro w I
    refine Ops.y (v := .bool _) (Y.assign rfl) ?_
    refine Ops.nil ?_
    refine WP.seq ?_
    refine WP.seq ?_
    refine WP.region ?_
    refine Ops.y (v := .int .i64 _) (Y.assign rfl) ?_
    refine Ops.nil ?_
    refine WP.block ?_
    refine WP.loopE (σ := Nat) (fun j => [(0, l.val), (3, .pointer (some ⟨b3, 0, none⟩)), (8, .int .i64 k), (9, .bool (standsIn r.head k || (r.body.xs.take j).any fun x => standsIn x.atom k)), (10, .int .i64 j)]) (fun j w => Inv B B.h [box b3 r.enc 68] w ∧ j ≤ r.body.xs.length) (fun j => r.body.xs.length - j)
      ⟨0, ⟨rfl, rfl, rfl, by simp; rfl, rfl, trivial⟩, I, Nat.zero_le _⟩ ?_
    rintro j e w ⟨I, hj⟩
    refine WP.seq ?_
    refine WP.seq ?_
    refine WP.region ?_
    refine Ops.y (v := .int .i64 _) (Y.move rfl) ?_
    refine Ops.y (v := .pointer (some ⟨_, _, none⟩)) (Y.fa fa_68_3 rfl) ?_
    refine Ops.y (v := .slice _ _ _) (Y.loadv ty_66 rfl (I.rdbox 0 rfl 4 1) rfl rfl) ?_
    refine Ops.y (v := .int .i64 _) (Y.lens Tryz.underlying66 rfl) ?_
    refine Ops.y (v := .bool (decide _)) (Y.lti rfl rfl) ?_
    refine Ops.nil ?_
    refine WP.cond_dec rfl (fun h4 => ?_) (fun h4 => ?_)
    · have hj' : j < r.body.xs.length := by omega
      have E1 := hr.body.is.at hj'
      refine WP.skip ?_
      refine WP.seq ?_
      refine WP.block ?_
      refine WP.cutL (σ := Unit) (fun _ => [(0, l.val), (3, .pointer (some ⟨b3, 0, none⟩)), (8, .int .i64 k), (9, .bool (standsIn r.head k || (r.body.xs.take (j + 1)).any fun x => standsIn x.atom k)), (10, .int .i64 j)]) (fun _ w => Inv B B.h [box b3 r.enc 68] w) ?_ ?_
      · rw [List.take_succ_eq_append_getElem hj', List.any_append, List.any_cons, List.any_nil, Bool.or_false, ← Bool.or_assoc]
        cases hs : (standsIn r.head k || (r.body.xs.take j).any fun x => standsIn x.atom k)
        · refine WP.region ?_
          refine Ops.y (v := .bool false) (Y.b (Y.move rfl) (rfl)) ?_
          refine Ops.y (v := .bool false) (Y.b (Y.move rfl) (rfl)) ?_
          refine Ops.ygt rfl (v := .pointer (some ⟨_, _, none⟩)) (Y.fa fa_68_3 rfl) ?_
          refine Ops.ygt rfl (v := .slice _ _ _) (Y.loadv ty_66 rfl (I.rdbox 0 rfl 4 1) rfl rfl) ?_
          refine Ops.ygt rfl (v := .int .i64 _) (Y.move rfl) ?_
          refine Ops.ygt rfl (v := .pointer (some ⟨_, _, none⟩)) (Y.idxEl E1 Tryz.underlying66 Tryz.sizeOf131 rfl rfl (Int.natCast_nonneg _) rfl) ?_
          refine Ops.ygt rfl (v := .pointer (some ⟨_, _, none⟩)) (Y.fa fa_131_1 rfl) ?_
          refine Ops.ygt rfl (v := .agg #[_, _]) (Y.loadv ty_65 rfl (I.rd (E1.rd.part 1 2)) rfl rfl) ?_
          refine Ops.ygt rfl (v := .int .i64 _) (Y.move rfl) ?_
          refine Ops.gt rfl (O.callv I Tryz.call140 (standsR_ok _ I.base_ok r.body.xs[j].atom (hr.body.each _ (List.getElem_mem hj')) k) rfl ?_)
          intro w I
          refine Ops.y (v := .bool _) (Y.pick_f rfl rfl) ?_
          refine Ops.y (v := .bool _) (Y.assign rfl) ?_
          refine Ops.nil ?_
          exact ⟨(), ⟨rfl, rfl, rfl, by rw [Bool.false_or]; rfl, rfl, trivial⟩, I⟩
        · refine WP.region ?_
          refine Ops.y (v := .bool true) (Y.b (Y.move rfl) (rfl)) ?_
          refine Ops.y (v := .bool true) (Y.b (Y.move rfl) (rfl)) ?_
          refine Ops.gf rfl ?_
          refine Ops.gf rfl ?_
          refine Ops.gf rfl ?_
          refine Ops.gf rfl ?_
          refine Ops.gf rfl ?_
          refine Ops.gf rfl ?_
          refine Ops.gf rfl ?_
          refine Ops.gf rfl ?_
          refine Ops.y (v := .bool _) (Y.pick_t rfl rfl) ?_
          refine Ops.y (v := .bool _) (Y.assign rfl) ?_
          refine Ops.nil ?_
          exact ⟨(), ⟨rfl, rfl, rfl, by rw [Bool.true_or]; rfl, rfl, trivial⟩, I⟩
      rintro _ e w I
      refine WP.region ?_
      refine Ops.y (v := .int .i64 _) (Y.move rfl) ?_
      refine Ops.y (v := .int .i64 _) (Y.addi rfl rfl ⟨by omega, by omega⟩) ?_
      refine Ops.y (v := .int .i64 _) (Y.assign rfl) ?_
      refine Ops.nil ?_
      exact ⟨j + 1, ⟨⟨rfl, rfl, rfl, rfl, rfl, trivial⟩, I, by omega⟩, by omega⟩
    have hj0 : j = r.body.xs.length := by omega
    have hfv : freeVar r k = ((standsIn r.head k || (r.body.xs.take j).any fun x => standsIn x.atom k) && !boundIn r k) := by rw [hj0, List.take_length]; rfl
    refine WP.exit ?_
    refine WP.seq ?_
    refine WP.cutL (σ := Unit) (fun _ => [(0, l.val), (3, .pointer (some ⟨b3, 0, none⟩)), (8, .int .i64 k), (73, .bool (freeVar r k))]) (fun _ w => Inv B B.h [box b3 r.enc 68] w) ?_ ?_
    · rw [hfv]
      cases hs : (standsIn r.head k || (r.body.xs.take j).any fun x => standsIn x.atom k)
      · refine WP.region ?_
        refine Ops.y (v := .bool false) (Y.b (Y.move rfl) (rfl)) ?_
        refine Ops.y (v := .bool false) (Y.b (Y.move rfl) (rfl)) ?_
        refine Ops.gf rfl ?_
        refine Ops.gf rfl ?_
        refine Ops.gf rfl ?_
        refine Ops.gf rfl ?_
        refine Ops.y (v := .bool _) (Y.pick_f rfl rfl) ?_
        refine Ops.nil ?_
        exact ⟨(), ⟨rfl, rfl, rfl, by rw [Bool.false_and]; rfl, trivial⟩, I⟩
      · refine WP.region ?_
        refine Ops.y (v := .bool true) (Y.b (Y.move rfl) (rfl)) ?_
        refine Ops.y (v := .bool true) (Y.b (Y.move rfl) (rfl)) ?_
        refine Ops.ygt rfl (v := .agg #[_, _, _, _, _]) (Y.loadv ty_68 rfl (I.rdbox 0 rfl 0 5) rfl rfl) ?_
        refine Ops.ygt rfl (v := .int .i64 _) (Y.move rfl) ?_
        refine Ops.gt rfl (O.callv I Tryz.call141 (boundR_ok _ I.base_ok r hr.body k) rfl ?_)
        intro w I
        refine Ops.ygt rfl (v := .bool _) (Y.not rfl) ?_
        refine Ops.y (v := .bool _) (Y.pick_t rfl rfl) ?_
        refine Ops.nil ?_
        exact ⟨(), ⟨rfl, rfl, rfl, by rw [Bool.true_and]; rfl, trivial⟩, I⟩
    rintro _ e w I
    refine WP.cond rfl (fun hf => ?_) (fun hf => ?_)
    · refine WP.seq ?_
      refine WP.region ?_
      refine Ops.y (v := .int .i64 _) (Y.assign rfl) ?_
      refine Ops.nil ?_
      refine WP.ret ?_
      repeat (first | refine thenE_ret ?_ | refine blockE_ret ?_)
      exact retQ.mk (vs := [.int .i64 _]) rfl ⟨rfl, trivial⟩ I.ext_of (by simp only [tup, checkRule]; rw [if_neg (by simp [h1]), if_neg (by omega), if_neg (by simp [hb0]), if_pos (free_any hf h1 hb0)])
    refine WP.skip ?_
    refine WP.region ?_
    refine Ops.y (v := .int .i64 _) (Y.move rfl) ?_
    refine Ops.y (v := .int .i64 _) (Y.addi rfl rfl ⟨by omega, by omega⟩) ?_
    refine Ops.y (v := .int .i64 _) (Y.assign rfl) ?_
    refine Ops.nil ?_
    exact ⟨k + 1, ⟨⟨rfl, rfl, rfl, trivial⟩, I, by omega, fun q hq => by
      rcases Nat.lt_succ_iff_lt_or_eq.1 hq with h' | h'
      · exact hn q h'
      · subst h'; exact hf⟩, by omega⟩
  have hfr : (freeVar r 0 || freeVar r 1 || freeVar r 2) = false := by
    have g0 := hn 0 (by omega); have g1 := hn 1 (by omega); have g2 := hn 2 (by omega)
    simp only [Bool.or_eq_false_iff]; exact ⟨⟨g0, g1⟩, g2⟩
  clear hn
  refine WP.exit ?_
  refine WP.seq ?_
  refine WP.seq ?_
  refine WP.region ?_
  refine Ops.y (v := .pointer (some ⟨_, _, none⟩)) (Y.fa fa_68_1 rfl) ?_
  refine Ops.y (v := .int .i64 _) (Y.loadv ty_3 rfl (I.rdbox 0 rfl 2 1) rfl rfl) ?_
  refine Ops.y (v := .pointer (some ⟨_, _, none⟩)) (Y.fa fa_68_3 rfl) ?_
  refine Ops.y (v := .slice _ _ _) (Y.loadv ty_66 rfl (I.rdbox 0 rfl 4 1) rfl rfl) ?_
  refine Ops.y (v := .int .i64 _) (Y.lens Tryz.underlying66 rfl) ?_
  refine Ops.y (v := .int .i64 _) (Y.subi rfl rfl ⟨by omega, by omega⟩) ?_
  refine Ops.go (O.callv I Tryz.call72 (within_ok _ I.base_ok _ _ _) rfl ?_)
  intro w I
  refine Ops.y (v := .bool (decide _)) (Y.notd rfl) ?_
  refine Ops.nil ?_
  refine WP.cond_dec rfl (fun h5 => ?_) (fun h5 => ?_)
  · refine WP.seq ?_
    refine WP.region ?_
    refine Ops.y (v := .int .i64 _) (Y.assign rfl) ?_
    refine Ops.nil ?_
    refine WP.ret ?_
    repeat (first | refine thenE_ret ?_ | refine blockE_ret ?_)
    exact retQ.mk (vs := [.int .i64 _]) rfl ⟨rfl, trivial⟩ I.ext_of (by simp only [tup, checkRule, within] at *; rw [if_neg (by simp [h1]), if_neg (by omega), if_neg (by simp [hb0]), hfr, if_neg (by simp), if_pos (by omega)])
  have h5' : ¬ (r.src < -1 ∨ (r.body.xs.length : Int) ≤ r.src) := by simp only [within, Decidable.not_not] at h5; omega
  have EH := hl.at (i := r.head.pred.toNat) (by omega)
  have eH := predOf_getE hh.1 hh.2
  refine WP.skip ?_
  refine WP.seq ?_
  refine WP.region ?_
  refine Ops.y (v := .slice _ _ _) (Y.move rfl) ?_
  refine Ops.y (v := .pointer (some ⟨_, _, none⟩)) (Y.fa0 fa_68_0 rfl) ?_
  refine Ops.y (v := .pointer (some ⟨_, _, none⟩)) (Y.fa0 fa_65_0 rfl) ?_
  refine Ops.y (v := .int .i64 _) (Y.loadv ty_3 rfl (I.rdbox 0 rfl 0 1) rfl rfl) ?_
  refine Ops.y (v := .pointer (some ⟨_, _, none⟩)) (Y.idxEl EH Tryz.underlying22 Tryz.sizeOf62 rfl rfl hh.1 rfl) ?_
  refine Ops.y (v := .pointer (some ⟨_, _, none⟩)) (Y.fa fa_62_2 rfl) ?_
  refine Ops.y (v := .int .i64 _) (Y.loadv ty_3 rfl (I.rd (EH.rd.part 2 1)) rfl rfl) ?_
  refine Ops.y (v := .int .i64 _) (Y.assign rfl) ?_
  refine Ops.nil ?_
  refine WP.seq ?_
  refine WP.seq ?_
  refine WP.cutL (σ := Unit) (fun _ => [(0, l.val), (3, .pointer (some ⟨b3, 0, none⟩)), (11, .int .i64 (predOf l.xs r.head.pred).kind), (100, .bool (decide ((predOf l.xs r.head.pred).kind = 0 ∧ (r.src ≠ -1 ∨ r.n ≠ 0))))]) (fun _ w => Inv B B.h [box b3 r.enc 68] w) ?_ ?_
  · rw [eH]
    by_cases c1 : (l.xs[r.head.pred.toNat]'(by omega)).kind = 0
    · by_cases c2 : r.src ≠ -1
      · refine WP.region ?_
        refine Ops.y (v := .int .i64 _) (Y.move rfl) ?_
        refine Ops.y (v := .bool true) (Y.dec_t (Y.eqi rfl rfl) (c1)) ?_
        refine Ops.y (v := .bool _) (Y.move rfl) ?_
        refine Ops.ygt rfl (v := .pointer (some ⟨_, _, none⟩)) (Y.fa fa_68_1 rfl) ?_
        refine Ops.ygt rfl (v := .int .i64 _) (Y.loadv ty_3 rfl (I.rdbox 0 rfl 2 1) rfl rfl) ?_
        refine Ops.ygt rfl (v := .bool true) (Y.dec_t (Y.nei rfl rfl) (c2)) ?_
        refine Ops.ygt rfl (v := .bool _) (Y.move rfl) ?_
        refine Ops.gf rfl ?_
        refine Ops.gf rfl ?_
        refine Ops.gf rfl ?_
        refine Ops.ygt rfl (v := .bool _) (Y.pick_t rfl rfl) ?_
        refine Ops.y (v := .bool _) (Y.pick_t rfl rfl) ?_
        refine Ops.nil ?_
        exact ⟨(), ⟨rfl, rfl, rfl, bT ⟨c1, .inl c2⟩, trivial⟩, I⟩
      · by_cases c3 : r.n ≠ 0
        · refine WP.region ?_
          refine Ops.y (v := .int .i64 _) (Y.move rfl) ?_
          refine Ops.y (v := .bool true) (Y.dec_t (Y.eqi rfl rfl) (c1)) ?_
          refine Ops.y (v := .bool _) (Y.move rfl) ?_
          refine Ops.ygt rfl (v := .pointer (some ⟨_, _, none⟩)) (Y.fa fa_68_1 rfl) ?_
          refine Ops.ygt rfl (v := .int .i64 _) (Y.loadv ty_3 rfl (I.rdbox 0 rfl 2 1) rfl rfl) ?_
          refine Ops.ygt rfl (v := .bool false) (Y.dec_f (Y.nei rfl rfl) (c2)) ?_
          refine Ops.ygt rfl (v := .bool _) (Y.move rfl) ?_
          refine Ops.ygt rfl (v := .pointer (some ⟨_, _, none⟩)) (Y.fa fa_68_2 rfl) ?_
          refine Ops.ygt rfl (v := .int .i64 _) (Y.loadv ty_3 rfl (I.rdbox 0 rfl 3 1) rfl rfl) ?_
          refine Ops.ygt rfl (v := .bool true) (Y.dec_t (Y.nei rfl rfl) (c3)) ?_
          refine Ops.ygt rfl (v := .bool _) (Y.pick_f rfl rfl) ?_
          refine Ops.y (v := .bool _) (Y.pick_t rfl rfl) ?_
          refine Ops.nil ?_
          exact ⟨(), ⟨rfl, rfl, rfl, bT ⟨c1, .inr c3⟩, trivial⟩, I⟩
        · refine WP.region ?_
          refine Ops.y (v := .int .i64 _) (Y.move rfl) ?_
          refine Ops.y (v := .bool true) (Y.dec_t (Y.eqi rfl rfl) (c1)) ?_
          refine Ops.y (v := .bool _) (Y.move rfl) ?_
          refine Ops.ygt rfl (v := .pointer (some ⟨_, _, none⟩)) (Y.fa fa_68_1 rfl) ?_
          refine Ops.ygt rfl (v := .int .i64 _) (Y.loadv ty_3 rfl (I.rdbox 0 rfl 2 1) rfl rfl) ?_
          refine Ops.ygt rfl (v := .bool false) (Y.dec_f (Y.nei rfl rfl) (c2)) ?_
          refine Ops.ygt rfl (v := .bool _) (Y.move rfl) ?_
          refine Ops.ygt rfl (v := .pointer (some ⟨_, _, none⟩)) (Y.fa fa_68_2 rfl) ?_
          refine Ops.ygt rfl (v := .int .i64 _) (Y.loadv ty_3 rfl (I.rdbox 0 rfl 3 1) rfl rfl) ?_
          refine Ops.ygt rfl (v := .bool false) (Y.dec_f (Y.nei rfl rfl) (c3)) ?_
          refine Ops.ygt rfl (v := .bool _) (Y.pick_f rfl rfl) ?_
          refine Ops.y (v := .bool _) (Y.pick_t rfl rfl) ?_
          refine Ops.nil ?_
          exact ⟨(), ⟨rfl, rfl, rfl, bF (fun h => h.2.elim c2 c3), trivial⟩, I⟩
    · refine WP.region ?_
      refine Ops.y (v := .int .i64 _) (Y.move rfl) ?_
      refine Ops.y (v := .bool false) (Y.dec_f (Y.eqi rfl rfl) (c1)) ?_
      refine Ops.y (v := .bool _) (Y.move rfl) ?_
      refine Ops.gf rfl ?_
      refine Ops.gf rfl ?_
      refine Ops.gf rfl ?_
      refine Ops.gf rfl ?_
      refine Ops.gf rfl ?_
      refine Ops.gf rfl ?_
      refine Ops.gf rfl ?_
      refine Ops.gf rfl ?_
      refine Ops.y (v := .bool _) (Y.pick_f rfl rfl) ?_
      refine Ops.nil ?_
      exact ⟨(), ⟨rfl, rfl, rfl, bF (fun h => c1 h.1), trivial⟩, I⟩
  rintro _ e w I
  refine WP.cond_dec rfl (fun d1 => ?_) (fun d1 => ?_)
  · refine WP.seq ?_
    refine WP.region ?_
    refine Ops.y (v := .int .i64 _) (Y.assign rfl) ?_
    refine Ops.nil ?_
    refine WP.ret ?_
    repeat (first | refine thenE_ret ?_ | refine blockE_ret ?_)
    exact retQ.mk (vs := [.int .i64 _]) rfl ⟨rfl, trivial⟩ I.ext_of (by simp only [tup, checkRule]; rw [if_neg (by simp [h1]), if_neg (by omega), if_neg (by simp [hb0]), hfr, if_neg (by simp), if_neg h5', if_pos d1])
  refine WP.skip ?_
  refine WP.seq ?_
  refine WP.seq ?_
  refine WP.cutL (σ := Unit) (fun _ => [(3, .pointer (some ⟨b3, 0, none⟩)), (128, .bool (decide (0 ≤ r.src ∧ ((litOf r r.src).neg = true ∨ (predOf l.xs (litOf r r.src).atom.pred).kind ≠ (predOf l.xs r.head.pred).kind))))]) (fun _ w => Inv B B.h [box b3 r.enc 68] w) ?_ ?_
  · by_cases c1 : 0 ≤ r.src
    · have hs1 : r.src.toNat < r.body.xs.length := by omega
      have EB := hr.body.is.at hs1
      rw [litOf_get c1 (by omega)]
      have hap := checkAtom_in (bodyErr_ne.1 hb0 _ (List.getElem_mem hs1))
      have EP := hl.at (i := (r.body.xs[r.src.toNat]'hs1).atom.pred.toNat) (by omega)
      rw [predOf_getE hap.1 hap.2]
      by_cases c2 : (r.body.xs[r.src.toNat]'hs1).neg = true
      · refine WP.region ?_
        refine Ops.y (v := .pointer (some ⟨_, _, none⟩)) (Y.fa fa_68_1 rfl) ?_
        refine Ops.y (v := .int .i64 _) (Y.loadv ty_3 rfl (I.rdbox 0 rfl 2 1) rfl rfl) ?_
        refine Ops.y (v := .bool true) (Y.dec_t (Y.gei rfl rfl) (c1)) ?_
        refine Ops.y (v := .bool _) (Y.move rfl) ?_
        refine Ops.ygt rfl (v := .pointer (some ⟨_, _, none⟩)) (Y.fa fa_68_3 rfl) ?_
        refine Ops.ygt rfl (v := .slice _ _ _) (Y.loadv ty_66 rfl (I.rdbox 0 rfl 4 1) rfl rfl) ?_
        refine Ops.ygt rfl (v := .pointer (some ⟨_, _, none⟩)) (Y.fa fa_68_1 rfl) ?_
        refine Ops.ygt rfl (v := .int .i64 _) (Y.loadv ty_3 rfl (I.rdbox 0 rfl 2 1) rfl rfl) ?_
        refine Ops.ygt rfl (v := .pointer (some ⟨_, _, none⟩)) (Y.idxEl EB Tryz.underlying66 Tryz.sizeOf131 rfl rfl c1 rfl) ?_
        refine Ops.ygt rfl (v := .pointer (some ⟨_, _, none⟩)) (Y.fa0 fa_131_0 rfl) ?_
        refine Ops.ygt rfl (v := .bool true) (Y.b (Y.loadv ty_4 rfl (I.rd (EB.rd.part 0 1)) rfl rfl) (c2)) ?_
        refine Ops.ygt rfl (v := .bool _) (Y.move rfl) ?_
        refine Ops.gf rfl ?_
        refine Ops.gf rfl ?_
        refine Ops.gf rfl ?_
        refine Ops.gf rfl ?_
        refine Ops.gf rfl ?_
        refine Ops.gf rfl ?_
        refine Ops.gf rfl ?_
        refine Ops.gf rfl ?_
        refine Ops.gf rfl ?_
        refine Ops.gf rfl ?_
        refine Ops.gf rfl ?_
        refine Ops.gf rfl ?_
        refine Ops.gf rfl ?_
        refine Ops.gf rfl ?_
        refine Ops.ygt rfl (v := .bool _) (Y.pick_t rfl rfl) ?_
        refine Ops.y (v := .bool _) (Y.pick_t rfl rfl) ?_
        refine Ops.nil ?_
        exact ⟨(), ⟨rfl, bT ⟨c1, .inl c2⟩, trivial⟩, I⟩
      · by_cases c3 : (l.xs[(r.body.xs[r.src.toNat]'hs1).atom.pred.toNat]'(by omega)).kind ≠ (predOf l.xs r.head.pred).kind
        · refine WP.region ?_
          refine Ops.y (v := .pointer (some ⟨_, _, none⟩)) (Y.fa fa_68_1 rfl) ?_
          refine Ops.y (v := .int .i64 _) (Y.loadv ty_3 rfl (I.rdbox 0 rfl 2 1) rfl rfl) ?_
          refine Ops.y (v := .bool true) (Y.dec_t (Y.gei rfl rfl) (c1)) ?_
          refine Ops.y (v := .bool _) (Y.move rfl) ?_
          refine Ops.ygt rfl (v := .pointer (some ⟨_, _, none⟩)) (Y.fa fa_68_3 rfl) ?_
          refine Ops.ygt rfl (v := .slice _ _ _) (Y.loadv ty_66 rfl (I.rdbox 0 rfl 4 1) rfl rfl) ?_
          refine Ops.ygt rfl (v := .pointer (some ⟨_, _, none⟩)) (Y.fa fa_68_1 rfl) ?_
          refine Ops.ygt rfl (v := .int .i64 _) (Y.loadv ty_3 rfl (I.rdbox 0 rfl 2 1) rfl rfl) ?_
          refine Ops.ygt rfl (v := .pointer (some ⟨_, _, none⟩)) (Y.idxEl EB Tryz.underlying66 Tryz.sizeOf131 rfl rfl c1 rfl) ?_
          refine Ops.ygt rfl (v := .pointer (some ⟨_, _, none⟩)) (Y.fa0 fa_131_0 rfl) ?_
          refine Ops.ygt rfl (v := .bool false) (Y.b (Y.loadv ty_4 rfl (I.rd (EB.rd.part 0 1)) rfl rfl) ((by simpa using c2))) ?_
          refine Ops.ygt rfl (v := .bool _) (Y.move rfl) ?_
          refine Ops.ygt rfl (v := .slice _ _ _) (Y.move rfl) ?_
          refine Ops.ygt rfl (v := .pointer (some ⟨_, _, none⟩)) (Y.fa fa_68_3 rfl) ?_
          refine Ops.ygt rfl (v := .slice _ _ _) (Y.loadv ty_66 rfl (I.rdbox 0 rfl 4 1) rfl rfl) ?_
          refine Ops.ygt rfl (v := .pointer (some ⟨_, _, none⟩)) (Y.fa fa_68_1 rfl) ?_
          refine Ops.ygt rfl (v := .int .i64 _) (Y.loadv ty_3 rfl (I.rdbox 0 rfl 2 1) rfl rfl) ?_
          refine Ops.ygt rfl (v := .pointer (some ⟨_, _, none⟩)) (Y.idxEl EB Tryz.underlying66 Tryz.sizeOf131 rfl rfl c1 rfl) ?_
          refine Ops.ygt rfl (v := .pointer (some ⟨_, _, none⟩)) (Y.fa fa_131_1 rfl) ?_
          refine Ops.ygt rfl (v := .pointer (some ⟨_, _, none⟩)) (Y.fa0 fa_65_0 rfl) ?_
          refine Ops.ygt rfl (v := .int .i64 _) (Y.loadv ty_3 rfl (I.rd (EB.rd.part 1 1)) rfl rfl) ?_
          refine Ops.ygt rfl (v := .pointer (some ⟨_, _, none⟩)) (Y.idxEl EP Tryz.underlying22 Tryz.sizeOf62 rfl rfl hap.1 rfl) ?_
          refine Ops.ygt rfl (v := .pointer (some ⟨_, _, none⟩)) (Y.fa fa_62_2 rfl) ?_
          refine Ops.ygt rfl (v := .int .i64 _) (Y.loadv ty_3 rfl (I.rd (EP.rd.part 2 1)) rfl rfl) ?_
          refine Ops.ygt rfl (v := .int .i64 _) (Y.move rfl) ?_
          refine Ops.ygt rfl (v := .bool true) (Y.dec_t (Y.nei rfl rfl) (c3)) ?_
          refine Ops.ygt rfl (v := .bool _) (Y.pick_f rfl rfl) ?_
          refine Ops.y (v := .bool _) (Y.pick_t rfl rfl) ?_
          refine Ops.nil ?_
          exact ⟨(), ⟨rfl, bT ⟨c1, .inr c3⟩, trivial⟩, I⟩
        · refine WP.region ?_
          refine Ops.y (v := .pointer (some ⟨_, _, none⟩)) (Y.fa fa_68_1 rfl) ?_
          refine Ops.y (v := .int .i64 _) (Y.loadv ty_3 rfl (I.rdbox 0 rfl 2 1) rfl rfl) ?_
          refine Ops.y (v := .bool true) (Y.dec_t (Y.gei rfl rfl) (c1)) ?_
          refine Ops.y (v := .bool _) (Y.move rfl) ?_
          refine Ops.ygt rfl (v := .pointer (some ⟨_, _, none⟩)) (Y.fa fa_68_3 rfl) ?_
          refine Ops.ygt rfl (v := .slice _ _ _) (Y.loadv ty_66 rfl (I.rdbox 0 rfl 4 1) rfl rfl) ?_
          refine Ops.ygt rfl (v := .pointer (some ⟨_, _, none⟩)) (Y.fa fa_68_1 rfl) ?_
          refine Ops.ygt rfl (v := .int .i64 _) (Y.loadv ty_3 rfl (I.rdbox 0 rfl 2 1) rfl rfl) ?_
          refine Ops.ygt rfl (v := .pointer (some ⟨_, _, none⟩)) (Y.idxEl EB Tryz.underlying66 Tryz.sizeOf131 rfl rfl c1 rfl) ?_
          refine Ops.ygt rfl (v := .pointer (some ⟨_, _, none⟩)) (Y.fa0 fa_131_0 rfl) ?_
          refine Ops.ygt rfl (v := .bool false) (Y.b (Y.loadv ty_4 rfl (I.rd (EB.rd.part 0 1)) rfl rfl) ((by simpa using c2))) ?_
          refine Ops.ygt rfl (v := .bool _) (Y.move rfl) ?_
          refine Ops.ygt rfl (v := .slice _ _ _) (Y.move rfl) ?_
          refine Ops.ygt rfl (v := .pointer (some ⟨_, _, none⟩)) (Y.fa fa_68_3 rfl) ?_
          refine Ops.ygt rfl (v := .slice _ _ _) (Y.loadv ty_66 rfl (I.rdbox 0 rfl 4 1) rfl rfl) ?_
          refine Ops.ygt rfl (v := .pointer (some ⟨_, _, none⟩)) (Y.fa fa_68_1 rfl) ?_
          refine Ops.ygt rfl (v := .int .i64 _) (Y.loadv ty_3 rfl (I.rdbox 0 rfl 2 1) rfl rfl) ?_
          refine Ops.ygt rfl (v := .pointer (some ⟨_, _, none⟩)) (Y.idxEl EB Tryz.underlying66 Tryz.sizeOf131 rfl rfl c1 rfl) ?_
          refine Ops.ygt rfl (v := .pointer (some ⟨_, _, none⟩)) (Y.fa fa_131_1 rfl) ?_
          refine Ops.ygt rfl (v := .pointer (some ⟨_, _, none⟩)) (Y.fa0 fa_65_0 rfl) ?_
          refine Ops.ygt rfl (v := .int .i64 _) (Y.loadv ty_3 rfl (I.rd (EB.rd.part 1 1)) rfl rfl) ?_
          refine Ops.ygt rfl (v := .pointer (some ⟨_, _, none⟩)) (Y.idxEl EP Tryz.underlying22 Tryz.sizeOf62 rfl rfl hap.1 rfl) ?_
          refine Ops.ygt rfl (v := .pointer (some ⟨_, _, none⟩)) (Y.fa fa_62_2 rfl) ?_
          refine Ops.ygt rfl (v := .int .i64 _) (Y.loadv ty_3 rfl (I.rd (EP.rd.part 2 1)) rfl rfl) ?_
          refine Ops.ygt rfl (v := .int .i64 _) (Y.move rfl) ?_
          refine Ops.ygt rfl (v := .bool false) (Y.dec_f (Y.nei rfl rfl) (c3)) ?_
          refine Ops.ygt rfl (v := .bool _) (Y.pick_f rfl rfl) ?_
          refine Ops.y (v := .bool _) (Y.pick_t rfl rfl) ?_
          refine Ops.nil ?_
          exact ⟨(), ⟨rfl, bF (fun h => h.2.elim c2 c3), trivial⟩, I⟩
    · refine WP.region ?_
      refine Ops.y (v := .pointer (some ⟨_, _, none⟩)) (Y.fa fa_68_1 rfl) ?_
      refine Ops.y (v := .int .i64 _) (Y.loadv ty_3 rfl (I.rdbox 0 rfl 2 1) rfl rfl) ?_
      refine Ops.y (v := .bool false) (Y.dec_f (Y.gei rfl rfl) (c1)) ?_
      refine Ops.y (v := .bool _) (Y.move rfl) ?_
      refine Ops.gf rfl ?_
      refine Ops.gf rfl ?_
      refine Ops.gf rfl ?_
      refine Ops.gf rfl ?_
      refine Ops.gf rfl ?_
      refine Ops.gf rfl ?_
      refine Ops.gf rfl ?_
      refine Ops.gf rfl ?_
      refine Ops.gf rfl ?_
      refine Ops.gf rfl ?_
      refine Ops.gf rfl ?_
      refine Ops.gf rfl ?_
      refine Ops.gf rfl ?_
      refine Ops.gf rfl ?_
      refine Ops.gf rfl ?_
      refine Ops.gf rfl ?_
      refine Ops.gf rfl ?_
      refine Ops.gf rfl ?_
      refine Ops.gf rfl ?_
      refine Ops.gf rfl ?_
      refine Ops.gf rfl ?_
      refine Ops.gf rfl ?_
      refine Ops.gf rfl ?_
      refine Ops.y (v := .bool _) (Y.pick_f rfl rfl) ?_
      refine Ops.nil ?_
      exact ⟨(), ⟨rfl, bF (fun h => c1 h.1), trivial⟩, I⟩
  rintro _ e w I
  refine WP.cond_dec rfl (fun d2 => ?_) (fun d2 => ?_)
  · refine WP.seq ?_
    refine WP.region ?_
    refine Ops.y (v := .int .i64 _) (Y.assign rfl) ?_
    refine Ops.nil ?_
    refine WP.ret ?_
    repeat (first | refine thenE_ret ?_ | refine blockE_ret ?_)
    exact retQ.mk (vs := [.int .i64 _]) rfl ⟨rfl, trivial⟩ I.ext_of (by simp only [tup, checkRule]; rw [if_neg (by simp [h1]), if_neg (by omega), if_neg (by simp [hb0]), hfr, if_neg (by simp), if_neg h5', if_neg d1, if_pos d2])
  refine WP.skip ?_
  refine WP.seq ?_
  refine WP.seq ?_
  refine WP.region ?_
  refine Ops.y (v := .pointer (some ⟨_, _, none⟩)) (Y.fa fa_68_2 rfl) ?_
  refine Ops.y (v := .int .i64 _) (Y.loadv ty_3 rfl (I.rdbox 0 rfl 3 1) rfl rfl) ?_
  refine Ops.go (O.callv I Tryz.call72 (within_ok _ I.base_ok _ _ _) rfl ?_)
  intro w I
  refine Ops.y (v := .bool (decide _)) (Y.notd rfl) ?_
  refine Ops.nil ?_
  refine WP.cond_dec rfl (fun h6 => ?_) (fun h6 => ?_)
  · refine WP.seq ?_
    refine WP.region ?_
    refine Ops.y (v := .int .i64 _) (Y.assign rfl) ?_
    refine Ops.nil ?_
    refine WP.ret ?_
    repeat (first | refine thenE_ret ?_ | refine blockE_ret ?_)
    exact retQ.mk (vs := [.int .i64 _]) rfl ⟨rfl, trivial⟩ I.ext_of (by simp only [tup, checkRule]; rw [if_neg (by simp [h1]), if_neg (by omega), if_neg (by simp [hb0]), hfr, if_neg (by simp), if_neg h5', if_neg d1, if_neg d2, if_pos (by simp only [within] at h6; omega)])
  refine WP.skip ?_
  refine WP.seq ?_
  refine WP.region ?_
  refine Ops.y (v := .int .i64 _) (Y.assign rfl) ?_
  refine Ops.nil ?_
  refine WP.ret ?_
  repeat (first | refine thenE_ret ?_ | refine blockE_ret ?_)
  exact retQ.mk (vs := [.int .i64 _]) rfl ⟨rfl, trivial⟩ I.ext_of (by simp only [tup, checkRule]; rw [if_neg (by simp [h1]), if_neg (by omega), if_neg (by simp [hb0]), hfr, if_neg (by simp), if_neg h5', if_neg d1, if_neg d2, if_neg (by simp only [within] at h6; omega)])
end Go.TF
end
section
/- What programs are, wherever they lie; pieces of slices; what is yielded in a region that draws: plain. -/
namespace Go.TF
open Go Go.RowKit

/-! ### The same, laid nowhere -/
def Sl.er {α : Type} (s : Sl α) : Sl α := ⟨none, 0, s.xs⟩
def Atm.er (a : Atm) : Atm := ⟨a.pred, a.args.er⟩
def Ltl.er (x : Ltl) : Ltl := ⟨x.neg, x.atom.er⟩
def Rul.er (r : Rul) : Rul := ⟨r.head.er, r.src, r.n, ⟨none, 0, r.body.xs.map Ltl.er⟩⟩
def Prg.er (p : Prg) : Prg := ⟨p.preds.er, ⟨none, 0, p.rules.xs.map Rul.er⟩⟩
theorem checkAtom_er (l : List Prd) (a : Atm) : checkAtom l a.er = checkAtom l a := rfl
theorem standsIn_er (a : Atm) (v : Int) : standsIn a.er v = standsIn a v := rfl
theorem bodyErr_er (l : List Prd) (b : List Ltl) : bodyErr l (b.map Ltl.er) = bodyErr l b := by
  induction b with
  | nil => rfl
  | cons x r ih => simp only [List.map_cons, bodyErr, ih, Ltl.er, checkAtom_er]
theorem any_er (f : Ltl → Bool) (hf : ∀ x, f x.er = f x) (b : List Ltl) : (b.map Ltl.er).any f = b.any f := by
  rw [List.any_map]; congr 1; funext x; exact hf x
theorem freeVar_er (r : Rul) (v : Int) : freeVar r.er v = freeVar r v := by
  unfold freeVar boundIn Rul.er
  rw [any_er _ (fun x => rfl), any_er _ (fun x => rfl), standsIn_er]
theorem litOf_er {r : Rul} {k : Int} (h0 : 0 ≤ k) (h1 : k < r.body.xs.length) : litOf r.er k = (litOf r k).er := by
  have : k.toNat < r.body.xs.length := by omega
  simp [litOf, Rul.er, List.getD_eq_getElem?_getD, this]
theorem checkRule_er (l : List Prd) (r : Rul) : checkRule l r.er = checkRule l r := by
  have h1 : r.er.head = r.head.er := rfl
  have h2 : r.er.body.xs = r.body.xs.map Ltl.er := rfl
  have h3 : r.er.src = r.src := rfl
  have h4 : r.er.n = r.n := rfl
  have h5 : r.head.er.pred = r.head.pred := rfl
  unfold checkRule
  rw [h1, h2, h3, h4, h5, checkAtom_er, bodyErr_er, freeVar_er, freeVar_er, freeVar_er, List.length_map]
  by_cases c : r.src < -1 ∨ (r.body.xs.length : Int) ≤ r.src
  · simp only [if_pos c]
  · by_cases h0 : 0 ≤ r.src
    · rw [litOf_er h0 (by omega)]; rfl
    · have e : ∀ p : Prop, (0 ≤ r.src ∧ p) ↔ False := fun p => ⟨fun h => h0 h.1, False.elim⟩
      simp only [e]

/-- A piece of a slice. -/
def Sl.cut {α : Type} (s : Sl α) (k l h : Nat) : Sl α := ⟨some (if s.cap = l then ⟨s.blk, s.off, none⟩ else ⟨s.blk, s.off + l * k, none⟩), s.cap - l, (s.xs.take h).drop l⟩
theorem Sl.In.cut {α : Type} {s : Sl α} {k : Nat} {enc : α → List Value} {h : Heap} (hs : s.In k enc h) {l hi : Nat} (hc : s.xs.length ≤ s.cap) : (s.cut k l hi).In k enc h := fun i x hx => by
  simp only [Sl.cut, List.getElem?_drop, List.getElem?_take] at hx
  split at hx
  · have h1 := hs _ _ hx
    have h2 := (List.getElem?_eq_some_iff.1 hx).1
    have hne : s.cap ≠ l := by omega
    refine ⟨by simp [Sl.cut, hne, Sl.blk, Sl.off], ?_⟩
    have e1 : (s.cut k l hi).blk = s.blk := by simp [Sl.cut, hne, Sl.blk]
    have e2 : (s.cut k l hi).off = s.off + l * k := by
      have : (s.cut k l hi).off = ((if s.cap = l then (⟨s.blk, s.off, none⟩ : Addr) else ⟨s.blk, s.off + l * k, none⟩)).off := rfl
      rw [this, if_neg hne]
    rw [e1, e2, show s.off + l * k + i * k = s.off + (l + i) * k by rw [Nat.add_mul]; omega]
    exact h1.2
  · cases hx
theorem Sl.Is.cut {α : Type} {s : Sl α} {k : Nat} {enc : α → List Value} {h : Heap} (hs : s.Is k enc h) {l hi : Nat} (hc : s.xs.length ≤ s.cap) : (s.cut k l hi).Is k enc h :=
  ⟨hs.el.cut hc, by have := hs.small; simp only [Sl.cut, List.length_drop, List.length_take]; omega⟩
theorem Y.cut {P : Program} {e : Env} {w : World} {d : Option Nat} {t : TypeId} {pos : String} {af : Array Edge} {g : Option (Nat × Bool)} {α : Type} {s : Sl α} {x : Operand} {T el ks : TypeId} {lo hi : Option Operand} {l h : Nat} (hT : Und P T (.slice el)) (hk : ∀ w, (sizeOf el).run P w = .ok ks w)
    (ha : s.at_ = some ⟨s.blk, s.off, none⟩) (hc : s.xs.length ≤ s.cap) (hx : ev e x = s.val)
    (hl : lo = none ∧ l = 0 ∨ ∃ q k, lo = some q ∧ ev e q = .int k (l : Int)) (hh : hi = none ∧ h = s.xs.length ∨ ∃ q k, hi = some q ∧ ev e q = .int k (h : Int)) (h1 : l ≤ h) (h2 : h ≤ s.xs.length) :
    Y P ⟨d, .slice T x lo hi none, t, pos, af, g⟩ e w (s.cut ks l h).val := by
  have hx' : ev e x = .slice (some ⟨s.blk, s.off, none⟩) s.xs.length s.cap := by rw [hx, Sl.val, ha]
  refine (Y.slicesl hT hk hx' hl hh h1 (by omega)).is ?_
  simp only [Sl.cut, Sl.val, List.length_drop, List.length_take]
  rw [Nat.min_eq_left h2]

/-! ### What regions that draw their order yield -/
def SlS {α : Type} (k : Nat) (enc : α → List Value) (xs : List α) : Sp := fun u h => ∃ s : Sl α, u = s.val ∧ s.xs = xs ∧ s.Is k enc h
theorem SlS.mono {α : Type} {k : Nat} {enc : α → List Value} {xs : List α} : MonoS (SlS k enc xs) := fun _ _ _ hl ⟨s, a, b, c⟩ => ⟨s, a, b, c.le hl⟩
def AtmS (p : Int) (xs : List Trm) : Sp := fun u h => ∃ a : Atm, u = a.val ∧ a.er = ⟨p, ⟨none, 0, xs⟩⟩ ∧ a.In h
theorem AtmS.mono {p : Int} {xs : List Trm} : MonoS (AtmS p xs) := fun _ _ _ hl ⟨s, a, b, c⟩ => ⟨s, a, b, c.le hl⟩
theorem nilIs {α : Type} {k : Nat} {enc : α → List Value} {h : Heap} : (⟨none, 0, []⟩ : Sl α).Is k enc h := ⟨fun i x hx => by simp at hx, by simp⟩

/-! ### The roads -/
def aT (p : Int) (l : List Trm) : Atm := ⟨p, ⟨none, 0, l⟩⟩
@[reducible] def tV (n : Int) : Trm := ⟨true, n⟩
@[reducible] def tC (n : Int) : Trm := ⟨false, n⟩
def bEdge : ByteArray := ⟨#[101, 100, 103, 101]⟩
def bFar : ByteArray := ⟨#[102, 97, 114]⟩
def bLone : ByteArray := ⟨#[108, 111, 110, 101]⟩
def rT (h : Atm) (src n : Int) (b : List Ltl) : Rul := ⟨h, src, n, ⟨none, 0, b⟩⟩
def roadsC : Prg := ⟨⟨none, 0, [⟨bEdge, 2, 0⟩, ⟨bFar, 2, 2⟩, ⟨bLone, 1, 0⟩]⟩, ⟨none, 0, [
  rT (aT 0 [tC 0, tC 1]) (-1) 0 [], rT (aT 0 [tC 1, tC 2]) (-1) 0 [], rT (aT 0 [tC 2, tC 0]) (-1) 0 [], rT (aT 0 [tC 3, tC 0]) (-1) 0 [],
  rT (aT 1 [tV 0, tV 1]) (-1) 1 [⟨false, aT 0 [tV 0, tV 1]⟩],
  rT (aT 1 [tV 0, tV 2]) 0 1 [⟨false, aT 1 [tV 0, tV 1]⟩, ⟨false, aT 0 [tV 1, tV 2]⟩],
  rT (aT 2 [tV 0]) (-1) 0 [⟨false, aT 0 [tV 0, tV 1]⟩, ⟨true, aT 1 [tV 0, tV 0]⟩]]⟩⟩
structure RoadsAt (p : Prg) (h : Heap) : Prop where
  is : p.In h
  er : p.er = roadsC
  cap : ∀ x ∈ p.rules.xs, x.body.xs.length ≤ x.body.cap
end Go.TF
end
section
/- What the laws of rules begin with. -/
namespace Go.TF
open Go Go.RowKit Go.Proofs
set_option maxRecDepth 20000

theorem lV_ok (B : Base) (hB : B.ok) (n : Int) : Fn Tryz.prog 57 [.int .i64 n] B (fun v _ => v = (tV n).val) := by
  refine Fn.of Tryz.func57 rfl Tryz.ntmps57 (by kernel_rfl) (by simp) ?_
  intro e
  have I := Inv.start hB
  refine WP.seq ?_
  refine WP.region ?_
  refine Ops.go (O.alloc I Tryz.zeroValue91 rfl ?_)
  intro b2 w I
  refine Ops.nil ?_
  refine WP.seq ?_
  refine WP.region ?_
  refine Ops.y (v := .int .i64 _) (Y.move rfl) ?_
  refine Ops.y (v := .agg #[.bool _, .int .i64 _]) (Y.build pl_91 Tryz.zeroValue91 rfl rfl) ?_
  refine Ops.go (O.store (v := .agg #[_, _]) I ty_91 0 rfl rfl rfl rfl rfl rfl (Nat.le_of_ble_eq_true rfl) rfl ?_)
  intro w I
  refine Ops.nil ?_
  refine WP.ret ?_
  repeat (first | refine thenE_ret ?_ | refine blockE_ret ?_)
  exact retQ.mk (vs := [.agg #[_, _]]) rfl ⟨⟨_, _, _, _, _, rfl, ty_91, I.rdbox 0 rfl 0 2, rfl, rfl⟩, trivial⟩ I.ext_of (rfl)
theorem lC_ok (B : Base) (hB : B.ok) (n : Int) : Fn Tryz.prog 58 [.int .i64 n] B (fun v _ => v = (tC n).val) := by
  refine Fn.of Tryz.func58 rfl Tryz.ntmps58 (by kernel_rfl) (by simp) ?_
  intro e
  have I := Inv.start hB
  refine WP.seq ?_
  refine WP.region ?_
  refine Ops.go (O.alloc I Tryz.zeroValue91 rfl ?_)
  intro b2 w I
  refine Ops.nil ?_
  refine WP.seq ?_
  refine WP.region ?_
  refine Ops.y (v := .int .i64 _) (Y.move rfl) ?_
  refine Ops.y (v := .agg #[.bool _, .int .i64 _]) (Y.build pl_91 Tryz.zeroValue91 rfl rfl) ?_
  refine Ops.go (O.store (v := .agg #[_, _]) I ty_91 0 rfl rfl rfl rfl rfl rfl (Nat.le_of_ble_eq_true rfl) rfl ?_)
  intro w I
  refine Ops.nil ?_
  refine WP.ret ?_
  repeat (first | refine thenE_ret ?_ | refine blockE_ret ?_)
  exact retQ.mk (vs := [.agg #[_, _]]) rfl ⟨⟨_, _, _, _, _, rfl, ty_91, I.rdbox 0 rfl 0 2, rfl, rfl⟩, trivial⟩ I.ext_of (rfl)
theorem lAt_ok (B : Base) (hB : B.ok) (p : Int) (l : Sl Trm) : Fn Tryz.prog 115 [.int .i64 p, l.val] B (fun v _ => v = (Atm.mk p l).val) := by
  refine Fn.of Tryz.func115 rfl Tryz.ntmps115 (by kernel_rfl) (by simp) ?_
  intro e
  have I := Inv.start hB
  refine WP.seq ?_
  refine WP.region ?_
  refine Ops.go (O.alloc I Tryz.zeroValue65 rfl ?_)
  intro b4 w I
  refine Ops.nil ?_
  refine WP.seq ?_
  refine WP.region ?_
  refine Ops.y (v := .int .i64 _) (Y.move rfl) ?_
  refine Ops.y (v := .slice _ _ _) (Y.move rfl) ?_
  refine Ops.y (v := .agg #[.int .i64 _, .slice _ _ _]) (Y.build pl_65 Tryz.zeroValue65 rfl rfl) ?_
  refine Ops.go (O.store (v := .agg #[_, _]) I ty_65 0 rfl rfl rfl rfl rfl rfl (Nat.le_of_ble_eq_true rfl) rfl ?_)
  intro w I
  refine Ops.nil ?_
  refine WP.ret ?_
  repeat (first | refine thenE_ret ?_ | refine blockE_ret ?_)
  exact retQ.mk (vs := [.agg #[_, _]]) rfl ⟨⟨_, _, _, _, _, rfl, ty_65, I.rdbox 0 rfl 0 2, rfl, rfl⟩, trivial⟩ I.ext_of (rfl)
theorem lIs_ok (B : Base) (hB : B.ok) (a : Atm) : Fn Tryz.prog 146 [a.val] B (fun v _ => v = (Ltl.mk false a).val) := by
  refine Fn.of Tryz.func146 rfl Tryz.ntmps146 (by kernel_rfl) (by simp) ?_
  intro e
  have I := Inv.start hB
  refine WP.seq ?_
  refine WP.region ?_
  refine Ops.go (O.box (v := .agg #[_, _]) I rfl rfl ?_)
  intro b1 w I
  refine Ops.go (O.alloc I Tryz.zeroValue131 rfl ?_)
  intro b2 w I
  refine Ops.nil ?_
  refine WP.seq ?_
  refine WP.region ?_
  refine Ops.y (v := .agg #[_, _]) (Y.loadv ty_65 rfl (I.rdbox 1 rfl 0 2) rfl rfl) ?_
  refine Ops.y (v := .agg #[.bool _, .int .i64 _, .slice _ _ _]) (Y.build pl_131 Tryz.zeroValue131 rfl rfl) ?_
  refine Ops.go (O.store (v := .agg #[_, _, _]) I ty_131 0 rfl rfl rfl rfl rfl rfl (Nat.le_of_ble_eq_true rfl) rfl ?_)
  intro w I
  refine Ops.nil ?_
  refine WP.ret ?_
  repeat (first | refine thenE_ret ?_ | refine blockE_ret ?_)
  exact retQ.mk (vs := [.agg #[_, _, _]]) rfl ⟨⟨_, _, _, _, _, rfl, ty_131, I.rdbox 0 rfl 0 3, rfl, rfl⟩, trivial⟩ I.ext_of (rfl)
theorem lNot_ok (B : Base) (hB : B.ok) (a : Atm) : Fn Tryz.prog 147 [a.val] B (fun v _ => v = (Ltl.mk true a).val) := by
  refine Fn.of Tryz.func147 rfl Tryz.ntmps147 (by kernel_rfl) (by simp) ?_
  intro e
  have I := Inv.start hB
  refine WP.seq ?_
  refine WP.region ?_
  refine Ops.go (O.box (v := .agg #[_, _]) I rfl rfl ?_)
  intro b1 w I
  refine Ops.go (O.alloc I Tryz.zeroValue131 rfl ?_)
  intro b2 w I
  refine Ops.nil ?_
  refine WP.seq ?_
  refine WP.region ?_
  refine Ops.y (v := .agg #[_, _]) (Y.loadv ty_65 rfl (I.rdbox 1 rfl 0 2) rfl rfl) ?_
  refine Ops.y (v := .agg #[.bool _, .int .i64 _, .slice _ _ _]) (Y.build pl_131 Tryz.zeroValue131 rfl rfl) ?_
  refine Ops.go (O.store (v := .agg #[_, _, _]) I ty_131 0 rfl rfl rfl rfl rfl rfl (Nat.le_of_ble_eq_true rfl) rfl ?_)
  intro w I
  refine Ops.nil ?_
  refine WP.ret ?_
  repeat (first | refine thenE_ret ?_ | refine blockE_ret ?_)
  exact retQ.mk (vs := [.agg #[_, _, _]]) rfl ⟨⟨_, _, _, _, _, rfl, ty_131, I.rdbox 0 rfl 0 3, rfl, rfl⟩, trivial⟩ I.ext_of (rfl)
set_option maxHeartbeats 4000000 in
theorem roads_okC (B : Base) (hB : B.ok) : Fn Tryz.prog 81 [] B (fun v h => ∃ p : Prg, v = p.val ∧ RoadsAt p h ∧ p.rules.xs.length ≤ p.rules.cap) := by
  refine Fn.of Tryz.func81 rfl Tryz.ntmps81 (by kernel_rfl) (by simp) ?_
  intro e
  have I := Inv.start hB
  refine WP.seq ?_
  refine WP.region ?_
  refine Ops.go (O.alloc I Tryz.zeroValue25 rfl ?_)
  intro b0 w I
  refine Ops.nil ?_
  refine WP.seq ?_
  refine WP.region ?_
  refine Ops.y (v := .agg #[.string _, .int .i64 _, .int .i64 _]) (Y.build pl_62 Tryz.zeroValue62 rfl rfl) ?_
  refine Ops.y (v := .agg #[.string _, .int .i64 _, .int .i64 _]) (Y.build pl_62 Tryz.zeroValue62 rfl rfl) ?_
  refine Ops.y (v := .agg #[.string _, .int .i64 _, .int .i64 _]) (Y.build pl_62 Tryz.zeroValue62 rfl rfl) ?_
  refine Ops.go (O.mksl (xs := [⟨bEdge, 2, 0⟩, ⟨bFar, 2, 2⟩, ⟨bLone, 1, 0⟩]) (enc := Prd.enc) I Tryz.underlying22 Tryz.sizeOf62 Tryz.zeroValue62 rfl (Nat.le_of_ble_eq_true rfl) rfl rfl (by decide) (fun _ => rfl) ?_)
  intro b4 h4 w I le4 sl4
  refine Ops.go (O.callv I Tryz.call58 (lC_ok _ I.base_ok 0) rfl ?_)
  intro w I
  refine Ops.go (O.callv I Tryz.call58 (lC_ok _ I.base_ok 1) rfl ?_)
  intro w I
  refine Ops.go (O.mksl (xs := [tC 0, tC 1]) (enc := Trm.enc) I Tryz.underlying63 Tryz.sizeOf91 Tryz.zeroValue91 rfl (Nat.le_of_ble_eq_true rfl) rfl rfl (by decide) (fun _ => rfl) ?_)
  intro b7 h7 w I le7 sl7
  refine Ops.go (O.callv I Tryz.call115 (lAt_ok _ I.base_ok 0 ⟨some ⟨b7, 0, none⟩, 2, [tC 0, tC 1]⟩) rfl ?_)
  intro w I
  refine Ops.y (v := .agg #[.int .i64 _, .slice _ _ _, .int .i64 _, .int .i64 _, .slice _ _ _]) (Y.build pl_68 Tryz.zeroValue68 rfl rfl) ?_
  refine Ops.go (O.callv I Tryz.call58 (lC_ok _ I.base_ok 1) rfl ?_)
  intro w I
  refine Ops.go (O.callv I Tryz.call58 (lC_ok _ I.base_ok 2) rfl ?_)
  intro w I
  refine Ops.go (O.mksl (xs := [tC 1, tC 2]) (enc := Trm.enc) I Tryz.underlying63 Tryz.sizeOf91 Tryz.zeroValue91 rfl (Nat.le_of_ble_eq_true rfl) rfl rfl (by decide) (fun _ => rfl) ?_)
  intro b12 h12 w I le12 sl12
  refine Ops.go (O.callv I Tryz.call115 (lAt_ok _ I.base_ok 0 ⟨some ⟨b12, 0, none⟩, 2, [tC 1, tC 2]⟩) rfl ?_)
  intro w I
  refine Ops.y (v := .agg #[.int .i64 _, .slice _ _ _, .int .i64 _, .int .i64 _, .slice _ _ _]) (Y.build pl_68 Tryz.zeroValue68 rfl rfl) ?_
  refine Ops.go (O.callv I Tryz.call58 (lC_ok _ I.base_ok 2) rfl ?_)
  intro w I
  refine Ops.go (O.callv I Tryz.call58 (lC_ok _ I.base_ok 0) rfl ?_)
  intro w I
  refine Ops.go (O.mksl (xs := [tC 2, tC 0]) (enc := Trm.enc) I Tryz.underlying63 Tryz.sizeOf91 Tryz.zeroValue91 rfl (Nat.le_of_ble_eq_true rfl) rfl rfl (by decide) (fun _ => rfl) ?_)
  intro b17 h17 w I le17 sl17
  refine Ops.go (O.callv I Tryz.call115 (lAt_ok _ I.base_ok 0 ⟨some ⟨b17, 0, none⟩, 2, [tC 2, tC 0]⟩) rfl ?_)
  intro w I
  refine Ops.y (v := .agg #[.int .i64 _, .slice _ _ _, .int .i64 _, .int .i64 _, .slice _ _ _]) (Y.build pl_68 Tryz.zeroValue68 rfl rfl) ?_
  refine Ops.go (O.callv I Tryz.call58 (lC_ok _ I.base_ok 3) rfl ?_)
  intro w I
  refine Ops.go (O.callv I Tryz.call58 (lC_ok _ I.base_ok 0) rfl ?_)
  intro w I
  refine Ops.go (O.mksl (xs := [tC 3, tC 0]) (enc := Trm.enc) I Tryz.underlying63 Tryz.sizeOf91 Tryz.zeroValue91 rfl (Nat.le_of_ble_eq_true rfl) rfl rfl (by decide) (fun _ => rfl) ?_)
  intro b22 h22 w I le22 sl22
  refine Ops.go (O.callv I Tryz.call115 (lAt_ok _ I.base_ok 0 ⟨some ⟨b22, 0, none⟩, 2, [tC 3, tC 0]⟩) rfl ?_)
  intro w I
  refine Ops.y (v := .agg #[.int .i64 _, .slice _ _ _, .int .i64 _, .int .i64 _, .slice _ _ _]) (Y.build pl_68 Tryz.zeroValue68 rfl rfl) ?_
  refine Ops.go (O.callv I Tryz.call57 (lV_ok _ I.base_ok 0) rfl ?_)
  intro w I
  refine Ops.go (O.callv I Tryz.call57 (lV_ok _ I.base_ok 1) rfl ?_)
  intro w I
  refine Ops.go (O.mksl (xs := [tV 0, tV 1]) (enc := Trm.enc) I Tryz.underlying63 Tryz.sizeOf91 Tryz.zeroValue91 rfl (Nat.le_of_ble_eq_true rfl) rfl rfl (by decide) (fun _ => rfl) ?_)
  intro b27 h27 w I le27 sl27
  refine Ops.go (O.callv I Tryz.call115 (lAt_ok _ I.base_ok 1 ⟨some ⟨b27, 0, none⟩, 2, [tV 0, tV 1]⟩) rfl ?_)
  intro w I
  refine Ops.go (O.callv I Tryz.call57 (lV_ok _ I.base_ok 0) rfl ?_)
  intro w I
  refine Ops.go (O.callv I Tryz.call57 (lV_ok _ I.base_ok 1) rfl ?_)
  intro w I
  refine Ops.go (O.mksl (xs := [tV 0, tV 1]) (enc := Trm.enc) I Tryz.underlying63 Tryz.sizeOf91 Tryz.zeroValue91 rfl (Nat.le_of_ble_eq_true rfl) rfl rfl (by decide) (fun _ => rfl) ?_)
  intro b31 h31 w I le31 sl31
  refine Ops.go (O.callv I Tryz.call115 (lAt_ok _ I.base_ok 0 ⟨some ⟨b31, 0, none⟩, 2, [tV 0, tV 1]⟩) rfl ?_)
  intro w I
  refine Ops.go (O.callv I Tryz.call146 (lIs_ok _ I.base_ok ⟨0, ⟨some ⟨b31, 0, none⟩, 2, [tV 0, tV 1]⟩⟩) rfl ?_)
  intro w I
  refine Ops.go (O.mksl (xs := [⟨false, ⟨0, ⟨some ⟨b31, 0, none⟩, 2, [tV 0, tV 1]⟩⟩⟩]) (enc := Ltl.enc) I Tryz.underlying66 Tryz.sizeOf131 Tryz.zeroValue131 rfl (Nat.le_of_ble_eq_true rfl) rfl rfl (by decide) (fun _ => rfl) ?_)
  intro b34 h34 w I le34 sl34
  refine Ops.y (v := .agg #[.int .i64 _, .slice _ _ _, .int .i64 _, .int .i64 _, .slice _ _ _]) (Y.build pl_68 Tryz.zeroValue68 rfl rfl) ?_
  refine Ops.go (O.callv I Tryz.call57 (lV_ok _ I.base_ok 0) rfl ?_)
  intro w I
  refine Ops.go (O.callv I Tryz.call57 (lV_ok _ I.base_ok 2) rfl ?_)
  intro w I
  refine Ops.go (O.mksl (xs := [tV 0, tV 2]) (enc := Trm.enc) I Tryz.underlying63 Tryz.sizeOf91 Tryz.zeroValue91 rfl (Nat.le_of_ble_eq_true rfl) rfl rfl (by decide) (fun _ => rfl) ?_)
  intro b38 h38 w I le38 sl38
  refine Ops.go (O.callv I Tryz.call115 (lAt_ok _ I.base_ok 1 ⟨some ⟨b38, 0, none⟩, 2, [tV 0, tV 2]⟩) rfl ?_)
  intro w I
  refine Ops.go (O.callv I Tryz.call57 (lV_ok _ I.base_ok 0) rfl ?_)
  intro w I
  refine Ops.go (O.callv I Tryz.call57 (lV_ok _ I.base_ok 1) rfl ?_)
  intro w I
  refine Ops.go (O.mksl (xs := [tV 0, tV 1]) (enc := Trm.enc) I Tryz.underlying63 Tryz.sizeOf91 Tryz.zeroValue91 rfl (Nat.le_of_ble_eq_true rfl) rfl rfl (by decide) (fun _ => rfl) ?_)
  intro b42 h42 w I le42 sl42
  refine Ops.go (O.callv I Tryz.call115 (lAt_ok _ I.base_ok 1 ⟨some ⟨b42, 0, none⟩, 2, [tV 0, tV 1]⟩) rfl ?_)
  intro w I
  refine Ops.go (O.callv I Tryz.call146 (lIs_ok _ I.base_ok ⟨1, ⟨some ⟨b42, 0, none⟩, 2, [tV 0, tV 1]⟩⟩) rfl ?_)
  intro w I
  refine Ops.go (O.callv I Tryz.call57 (lV_ok _ I.base_ok 1) rfl ?_)
  intro w I
  refine Ops.go (O.callv I Tryz.call57 (lV_ok _ I.base_ok 2) rfl ?_)
  intro w I
  refine Ops.go (O.mksl (xs := [tV 1, tV 2]) (enc := Trm.enc) I Tryz.underlying63 Tryz.sizeOf91 Tryz.zeroValue91 rfl (Nat.le_of_ble_eq_true rfl) rfl rfl (by decide) (fun _ => rfl) ?_)
  intro b47 h47 w I le47 sl47
  refine Ops.go (O.callv I Tryz.call115 (lAt_ok _ I.base_ok 0 ⟨some ⟨b47, 0, none⟩, 2, [tV 1, tV 2]⟩) rfl ?_)
  intro w I
  refine Ops.go (O.callv I Tryz.call146 (lIs_ok _ I.base_ok ⟨0, ⟨some ⟨b47, 0, none⟩, 2, [tV 1, tV 2]⟩⟩) rfl ?_)
  intro w I
  refine Ops.go (O.mksl (xs := [⟨false, ⟨1, ⟨some ⟨b42, 0, none⟩, 2, [tV 0, tV 1]⟩⟩⟩, ⟨false, ⟨0, ⟨some ⟨b47, 0, none⟩, 2, [tV 1, tV 2]⟩⟩⟩]) (enc := Ltl.enc) I Tryz.underlying66 Tryz.sizeOf131 Tryz.zeroValue131 rfl (Nat.le_of_ble_eq_true rfl) rfl rfl (by decide) (fun _ => rfl) ?_)
  intro b50 h50 w I le50 sl50
  refine Ops.y (v := .agg #[.int .i64 _, .slice _ _ _, .int .i64 _, .int .i64 _, .slice _ _ _]) (Y.build pl_68 Tryz.zeroValue68 rfl rfl) ?_
  refine Ops.go (O.callv I Tryz.call57 (lV_ok _ I.base_ok 0) rfl ?_)
  intro w I
  refine Ops.go (O.mksl (xs := [tV 0]) (enc := Trm.enc) I Tryz.underlying63 Tryz.sizeOf91 Tryz.zeroValue91 rfl (Nat.le_of_ble_eq_true rfl) rfl rfl (by decide) (fun _ => rfl) ?_)
  intro b53 h53 w I le53 sl53
  refine Ops.go (O.callv I Tryz.call115 (lAt_ok _ I.base_ok 2 ⟨some ⟨b53, 0, none⟩, 1, [tV 0]⟩) rfl ?_)
  intro w I
  refine Ops.go (O.callv I Tryz.call57 (lV_ok _ I.base_ok 0) rfl ?_)
  intro w I
  refine Ops.go (O.callv I Tryz.call57 (lV_ok _ I.base_ok 1) rfl ?_)
  intro w I
  refine Ops.go (O.mksl (xs := [tV 0, tV 1]) (enc := Trm.enc) I Tryz.underlying63 Tryz.sizeOf91 Tryz.zeroValue91 rfl (Nat.le_of_ble_eq_true rfl) rfl rfl (by decide) (fun _ => rfl) ?_)
  intro b57 h57 w I le57 sl57
  refine Ops.go (O.callv I Tryz.call115 (lAt_ok _ I.base_ok 0 ⟨some ⟨b57, 0, none⟩, 2, [tV 0, tV 1]⟩) rfl ?_)
  intro w I
  refine Ops.go (O.callv I Tryz.call146 (lIs_ok _ I.base_ok ⟨0, ⟨some ⟨b57, 0, none⟩, 2, [tV 0, tV 1]⟩⟩) rfl ?_)
  intro w I
  refine Ops.go (O.callv I Tryz.call57 (lV_ok _ I.base_ok 0) rfl ?_)
  intro w I
  refine Ops.go (O.callv I Tryz.call57 (lV_ok _ I.base_ok 0) rfl ?_)
  intro w I
  refine Ops.go (O.mksl (xs := [tV 0, tV 0]) (enc := Trm.enc) I Tryz.underlying63 Tryz.sizeOf91 Tryz.zeroValue91 rfl (Nat.le_of_ble_eq_true rfl) rfl rfl (by decide) (fun _ => rfl) ?_)
  intro b62 h62 w I le62 sl62
  refine Ops.go (O.callv I Tryz.call115 (lAt_ok _ I.base_ok 1 ⟨some ⟨b62, 0, none⟩, 2, [tV 0, tV 0]⟩) rfl ?_)
  intro w I
  refine Ops.go (O.callv I Tryz.call147 (lNot_ok _ I.base_ok ⟨1, ⟨some ⟨b62, 0, none⟩, 2, [tV 0, tV 0]⟩⟩) rfl ?_)
  intro w I
  refine Ops.go (O.mksl (xs := [⟨false, ⟨0, ⟨some ⟨b57, 0, none⟩, 2, [tV 0, tV 1]⟩⟩⟩, ⟨true, ⟨1, ⟨some ⟨b62, 0, none⟩, 2, [tV 0, tV 0]⟩⟩⟩]) (enc := Ltl.enc) I Tryz.underlying66 Tryz.sizeOf131 Tryz.zeroValue131 rfl (Nat.le_of_ble_eq_true rfl) rfl rfl (by decide) (fun _ => rfl) ?_)
  intro b65 h65 w I le65 sl65
  refine Ops.y (v := .agg #[.int .i64 _, .slice _ _ _, .int .i64 _, .int .i64 _, .slice _ _ _]) (Y.build pl_68 Tryz.zeroValue68 rfl rfl) ?_
  refine Ops.go (O.mksl (xs := [⟨⟨0, ⟨some ⟨b7, 0, none⟩, 2, [tC 0, tC 1]⟩⟩, -1, 0, ⟨none, 0, []⟩⟩, ⟨⟨0, ⟨some ⟨b12, 0, none⟩, 2, [tC 1, tC 2]⟩⟩, -1, 0, ⟨none, 0, []⟩⟩, ⟨⟨0, ⟨some ⟨b17, 0, none⟩, 2, [tC 2, tC 0]⟩⟩, -1, 0, ⟨none, 0, []⟩⟩, ⟨⟨0, ⟨some ⟨b22, 0, none⟩, 2, [tC 3, tC 0]⟩⟩, -1, 0, ⟨none, 0, []⟩⟩, ⟨⟨1, ⟨some ⟨b27, 0, none⟩, 2, [tV 0, tV 1]⟩⟩, -1, 1, ⟨some ⟨b34, 0, none⟩, 1, [⟨false, ⟨0, ⟨some ⟨b31, 0, none⟩, 2, [tV 0, tV 1]⟩⟩⟩]⟩⟩, ⟨⟨1, ⟨some ⟨b38, 0, none⟩, 2, [tV 0, tV 2]⟩⟩, 0, 1, ⟨some ⟨b50, 0, none⟩, 2, [⟨false, ⟨1, ⟨some ⟨b42, 0, none⟩, 2, [tV 0, tV 1]⟩⟩⟩, ⟨false, ⟨0, ⟨some ⟨b47, 0, none⟩, 2, [tV 1, tV 2]⟩⟩⟩]⟩⟩, ⟨⟨2, ⟨some ⟨b53, 0, none⟩, 1, [tV 0]⟩⟩, -1, 0, ⟨some ⟨b65, 0, none⟩, 2, [⟨false, ⟨0, ⟨some ⟨b57, 0, none⟩, 2, [tV 0, tV 1]⟩⟩⟩, ⟨true, ⟨1, ⟨some ⟨b62, 0, none⟩, 2, [tV 0, tV 0]⟩⟩⟩]⟩⟩]) (enc := Rul.enc) I Tryz.underlying23 Tryz.sizeOf68 Tryz.zeroValue68 rfl (Nat.le_of_ble_eq_true rfl) rfl rfl (by decide) (fun _ => rfl) ?_)
  intro b67 h67 w I le67 sl67
  refine Ops.y (v := .agg #[.slice _ _ _, .slice _ _ _]) (Y.build pl_25 Tryz.zeroValue25 rfl rfl) ?_
  refine Ops.go (O.store (v := .agg #[_, _]) I ty_25 0 rfl rfl rfl rfl rfl rfl (Nat.le_of_ble_eq_true rfl) rfl ?_)
  intro w I
  refine Ops.nil ?_
  have q67 := Heap.le.refl h67
  have q65 := le67.trans q67
  have q62 := le65.trans q65
  have q57 := le62.trans q62
  have q53 := le57.trans q57
  have q50 := le53.trans q53
  have q47 := le50.trans q50
  have q42 := le47.trans q47
  have q38 := le42.trans q42
  have q34 := le38.trans q38
  have q31 := le34.trans q34
  have q27 := le31.trans q31
  have q22 := le27.trans q27
  have q17 := le22.trans q22
  have q12 := le17.trans q17
  have q7 := le12.trans q12
  have q4 := le7.trans q7
  have r0 : Rul.In ⟨⟨0, ⟨some ⟨b7, 0, none⟩, 2, [tC 0, tC 1]⟩⟩, -1, 0, ⟨none, 0, []⟩⟩ h67 := ⟨⟨sl7.le q7, by simp⟩, ⟨nilIs, by simp⟩⟩
  have r1 : Rul.In ⟨⟨0, ⟨some ⟨b12, 0, none⟩, 2, [tC 1, tC 2]⟩⟩, -1, 0, ⟨none, 0, []⟩⟩ h67 := ⟨⟨sl12.le q12, by simp⟩, ⟨nilIs, by simp⟩⟩
  have r2 : Rul.In ⟨⟨0, ⟨some ⟨b17, 0, none⟩, 2, [tC 2, tC 0]⟩⟩, -1, 0, ⟨none, 0, []⟩⟩ h67 := ⟨⟨sl17.le q17, by simp⟩, ⟨nilIs, by simp⟩⟩
  have r3 : Rul.In ⟨⟨0, ⟨some ⟨b22, 0, none⟩, 2, [tC 3, tC 0]⟩⟩, -1, 0, ⟨none, 0, []⟩⟩ h67 := ⟨⟨sl22.le q22, by simp⟩, ⟨nilIs, by simp⟩⟩
  have r4 : Rul.In ⟨⟨1, ⟨some ⟨b27, 0, none⟩, 2, [tV 0, tV 1]⟩⟩, -1, 1, ⟨some ⟨b34, 0, none⟩, 1, [⟨false, ⟨0, ⟨some ⟨b31, 0, none⟩, 2, [tV 0, tV 1]⟩⟩⟩]⟩⟩ h67 := ⟨⟨sl27.le q27, by simp⟩, ⟨⟨sl34.le q34, by simp⟩, by simp only [List.mem_cons, List.not_mem_nil, or_false]; rintro x (rfl) <;> first | exact (⟨sl31.le q31, by simp⟩ : Trms _ _)⟩⟩
  have r5 : Rul.In ⟨⟨1, ⟨some ⟨b38, 0, none⟩, 2, [tV 0, tV 2]⟩⟩, 0, 1, ⟨some ⟨b50, 0, none⟩, 2, [⟨false, ⟨1, ⟨some ⟨b42, 0, none⟩, 2, [tV 0, tV 1]⟩⟩⟩, ⟨false, ⟨0, ⟨some ⟨b47, 0, none⟩, 2, [tV 1, tV 2]⟩⟩⟩]⟩⟩ h67 := ⟨⟨sl38.le q38, by simp⟩, ⟨⟨sl50.le q50, by simp⟩, by simp only [List.mem_cons, List.not_mem_nil, or_false]; rintro x (rfl | rfl) <;> first | exact (⟨sl42.le q42, by simp⟩ : Trms _ _) | exact (⟨sl47.le q47, by simp⟩ : Trms _ _)⟩⟩
  have r6 : Rul.In ⟨⟨2, ⟨some ⟨b53, 0, none⟩, 1, [tV 0]⟩⟩, -1, 0, ⟨some ⟨b65, 0, none⟩, 2, [⟨false, ⟨0, ⟨some ⟨b57, 0, none⟩, 2, [tV 0, tV 1]⟩⟩⟩, ⟨true, ⟨1, ⟨some ⟨b62, 0, none⟩, 2, [tV 0, tV 0]⟩⟩⟩]⟩⟩ h67 := ⟨⟨sl53.le q53, by simp⟩, ⟨⟨sl65.le q65, by simp⟩, by simp only [List.mem_cons, List.not_mem_nil, or_false]; rintro x (rfl | rfl) <;> first | exact (⟨sl57.le q57, by simp⟩ : Trms _ _) | exact (⟨sl62.le q62, by simp⟩ : Trms _ _)⟩⟩
  refine WP.ret ?_
  repeat (first | refine thenE_ret ?_ | refine blockE_ret ?_)
  exact retQ.mk (vs := [.agg #[_, _]]) rfl ⟨⟨_, _, _, _, _, rfl, ty_25, I.rdbox 0 rfl 0 2, rfl, rfl⟩, trivial⟩ I.ext_of (⟨⟨⟨some ⟨b4, 0, none⟩, 3, [⟨bEdge, 2, 0⟩, ⟨bFar, 2, 2⟩, ⟨bLone, 1, 0⟩]⟩, ⟨some ⟨b67, 0, none⟩, 7, [⟨⟨0, ⟨some ⟨b7, 0, none⟩, 2, [tC 0, tC 1]⟩⟩, -1, 0, ⟨none, 0, []⟩⟩, ⟨⟨0, ⟨some ⟨b12, 0, none⟩, 2, [tC 1, tC 2]⟩⟩, -1, 0, ⟨none, 0, []⟩⟩, ⟨⟨0, ⟨some ⟨b17, 0, none⟩, 2, [tC 2, tC 0]⟩⟩, -1, 0, ⟨none, 0, []⟩⟩, ⟨⟨0, ⟨some ⟨b22, 0, none⟩, 2, [tC 3, tC 0]⟩⟩, -1, 0, ⟨none, 0, []⟩⟩, ⟨⟨1, ⟨some ⟨b27, 0, none⟩, 2, [tV 0, tV 1]⟩⟩, -1, 1, ⟨some ⟨b34, 0, none⟩, 1, [⟨false, ⟨0, ⟨some ⟨b31, 0, none⟩, 2, [tV 0, tV 1]⟩⟩⟩]⟩⟩, ⟨⟨1, ⟨some ⟨b38, 0, none⟩, 2, [tV 0, tV 2]⟩⟩, 0, 1, ⟨some ⟨b50, 0, none⟩, 2, [⟨false, ⟨1, ⟨some ⟨b42, 0, none⟩, 2, [tV 0, tV 1]⟩⟩⟩, ⟨false, ⟨0, ⟨some ⟨b47, 0, none⟩, 2, [tV 1, tV 2]⟩⟩⟩]⟩⟩, ⟨⟨2, ⟨some ⟨b53, 0, none⟩, 1, [tV 0]⟩⟩, -1, 0, ⟨some ⟨b65, 0, none⟩, 2, [⟨false, ⟨0, ⟨some ⟨b57, 0, none⟩, 2, [tV 0, tV 1]⟩⟩⟩, ⟨true, ⟨1, ⟨some ⟨b62, 0, none⟩, 2, [tV 0, tV 0]⟩⟩⟩]⟩⟩]⟩⟩, rfl, ⟨⟨⟨sl4.le q4, by simp⟩, ⟨⟨sl67.le q67, by simp⟩, by simp only [List.mem_cons, List.not_mem_nil, or_false]; rintro x (rfl | rfl | rfl | rfl | rfl | rfl | rfl) <;> assumption⟩⟩, rfl, by simp only [List.mem_cons, List.not_mem_nil, or_false]; rintro x (rfl | rfl | rfl | rfl | rfl | rfl | rfl) <;> simp⟩, Nat.le_refl 7⟩)
theorem roads_ok (B : Base) (hB : B.ok) : Fn Tryz.prog 81 [] B (fun v h => ∃ p : Prg, v = p.val ∧ RoadsAt p h) := (roads_okC B hB).mono fun _ _ _ ⟨p, a, b, _⟩ => ⟨p, a, b⟩
end Go.TF
end
section
/- Facts: which may be, where each stands, finding, adding, being under: plain. -/
namespace Go.TF
open Go

def predFine (p : Prd) : Bool := decide (0 ≤ p.arity ∧ p.arity ≤ 2 ∧ 0 ≤ p.kind ∧ p.kind ≤ 3)
def factFine (l : List Prd) (x : Fct) : Bool :=
  decide (within x.pred 0 (l.length - 1)) && decide (within x.a 0 4) && decide (within x.b 0 4) && (decide (1 ≤ (predOf l x.pred).arity) || decide (x.a = 0)) && (decide (2 ≤ (predOf l x.pred).arity) || decide (x.b = 0)) &&
    decide (checkVal (predOf l x.pred).kind x.v = 0)

def placeF (x : Fct) : Int := (x.pred * 5 + x.a) * 5 + x.b
structure PF (x : Fct) : Prop where
  p0 : 0 ≤ x.pred
  p1 : x.pred ≤ 4
  a0 : 0 ≤ x.a
  a1 : x.a ≤ 4
  b0 : 0 ≤ x.b
  b1 : x.b ≤ 4
theorem PF.inj {x y : Fct} (hx : PF x) (hy : PF y) (h : placeF x = placeF y) : x.pred = y.pred ∧ x.a = y.a ∧ x.b = y.b := by
  obtain ⟨_, _, _, _, _, _⟩ := hx; obtain ⟨_, _, _, _, _, _⟩ := hy
  unfold placeF at h; omega
theorem PF.place {x : Fct} (hx : PF x) : 0 ≤ placeF x ∧ placeF x < 125 := by
  obtain ⟨_, _, _, _, _, _⟩ := hx
  unfold placeF; omega
theorem PF.lt {x y : Fct} (hx : PF x) (hy : PF y) : placeF x < placeF y ↔ x.pred < y.pred ∨ x.pred = y.pred ∧ (x.a < y.a ∨ x.a = y.a ∧ x.b < y.b) := by
  obtain ⟨_, _, _, _, _, _⟩ := hx; obtain ⟨_, _, _, _, _, _⟩ := hy
  unfold placeF; omega
theorem PF.ext {x y : Fct} (hx : PF x) (hy : PF y) (h : placeF x = placeF y) (hv : x.v = y.v) : x = y := by
  obtain ⟨h1, h2, h3⟩ := hx.inj hy h
  cases x; cases y; simp_all
def cmpI (a b : Int) : Int := if a < b then -1 else if b < a then 1 else 0
def ordF (x y : Fct) : Int := if cmpI x.pred y.pred ≠ 0 then cmpI x.pred y.pred else if cmpI x.a y.a ≠ 0 then cmpI x.a y.a else cmpI x.b y.b
theorem ordF_neg {x y : Fct} (hx : PF x) (hy : PF y) : ordF x y < 0 ↔ placeF x < placeF y := by
  rw [hx.lt hy]; unfold ordF cmpI
  (repeat' split) <;> omega
theorem ordF_zero {x y : Fct} (hx : PF x) (hy : PF y) : ordF x y = 0 ↔ placeF x = placeF y := by
  constructor
  · intro h
    have : x.pred = y.pred ∧ x.a = y.a ∧ x.b = y.b := by
      unfold ordF cmpI at h
      (repeat' split at h) <;> omega
    unfold placeF; omega
  · intro h
    obtain ⟨h1, h2, h3⟩ := hx.inj hy h
    unfold ordF cmpI
    (repeat' split) <;> omega
abbrev SrtF (f : List Fct) : Prop := f.Pairwise fun x y => placeF x < placeF y
theorem SrtF.get {f : List Fct} (h : SrtF f) {i j : Nat} (hij : i < j) (hj : j < f.length) : placeF f[i] < placeF f[j] := List.pairwise_iff_getElem.1 h i j (by omega) hj hij
/-- Right facts, of right predicates. -/
structure FOk (l : List Prd) (f : List Fct) : Prop where
  len : l.length ≤ 5
  preds : ∀ p ∈ l, predFine p = true
  fine : ∀ x ∈ f, factFine l x = true
  srt : SrtF f
theorem fine_iff {l : List Prd} {x : Fct} : factFine l x = true ↔ (0 ≤ x.pred ∧ x.pred < l.length) ∧ (0 ≤ x.a ∧ x.a ≤ 4) ∧ (0 ≤ x.b ∧ x.b ≤ 4) ∧ (1 ≤ (predOf l x.pred).arity ∨ x.a = 0) ∧ (2 ≤ (predOf l x.pred).arity ∨ x.b = 0) ∧ VOk (predOf l x.pred).kind x.v := by
  simp only [factFine, Bool.and_eq_true, Bool.or_eq_true, decide_eq_true_eq]
  unfold within
  constructor
  · rintro ⟨⟨⟨⟨⟨h1, h2⟩, h3⟩, h4⟩, h5⟩, h6⟩; exact ⟨⟨h1.1, by omega⟩, h2, h3, h4, h5, h6⟩
  · rintro ⟨h1, h2, h3, h4, h5, h6⟩; exact ⟨⟨⟨⟨⟨⟨h1.1, by omega⟩, h2⟩, h3⟩, h4⟩, h5⟩, h6⟩
theorem fine_pf {l : List Prd} {x : Fct} (hl : l.length ≤ 5) (h : factFine l x = true) : PF x := by
  obtain ⟨h1, h2, h3, _⟩ := fine_iff.1 h
  exact ⟨h1.1, by omega, h2.1, h2.2, h3.1, h3.2⟩
theorem FOk.pf {l : List Prd} {f : List Fct} (h : FOk l f) : ∀ x ∈ f, PF x := fun x hx => fine_pf h.len (h.fine x hx)
/-! ### What is told at a place -/
def lkF (f : List Fct) (p : Int) : Option Int := (f.find? fun y => decide (placeF y = p)).map (·.v)
def findF (f : List Fct) (x : Fct) : Int × Bool := ((lkF f (placeF x)).getD 0, (lkF f (placeF x)).isSome)
theorem lkF_nil (p : Int) : lkF [] p = none := rfl
theorem lkF_cons (y : Fct) (r : List Fct) (p : Int) : lkF (y :: r) p = if placeF y = p then some y.v else lkF r p := by
  unfold lkF; rw [List.find?_cons]
  by_cases h : placeF y = p
  · simp [h]
  · simp [h]
theorem lkF_none {f : List Fct} {p : Int} : lkF f p = none ↔ ∀ y ∈ f, placeF y ≠ p := by
  induction f with
  | nil => simp [lkF_nil]
  | cons y r ih =>
    rw [lkF_cons]
    split
    · rename_i h; simp [h]
    · rename_i h; rw [ih]; simp [h]
theorem lkF_some {f : List Fct} (hs : SrtF f) {p v : Int} : lkF f p = some v ↔ ∃ y ∈ f, placeF y = p ∧ y.v = v := by
  induction f with
  | nil => simp [lkF_nil]
  | cons y r ih =>
    obtain ⟨h1, h2⟩ := List.pairwise_cons.1 hs
    rw [lkF_cons]
    split
    · rename_i h
      constructor
      · intro e; exact ⟨y, List.mem_cons_self, h, by simpa using e⟩
      · rintro ⟨z, hz, e1, e2⟩
        rcases List.mem_cons.1 hz with rfl | hz
        · rw [e2]
        · have := h1 z hz; omega
    · rename_i h
      rw [ih h2]
      constructor
      · rintro ⟨z, hz, e⟩; exact ⟨z, List.mem_cons_of_mem _ hz, e⟩
      · rintro ⟨z, hz, e⟩
        rcases List.mem_cons.1 hz with rfl | hz
        · exact absurd e.1 h
        · exact ⟨z, hz, e⟩
theorem lkF_mem {f : List Fct} {p v : Int} (h : lkF f p = some v) : ∃ y ∈ f, placeF y = p ∧ y.v = v := by
  unfold lkF at h
  cases hf : f.find? fun y => decide (placeF y = p) with
  | none => rw [hf] at h; simp at h
  | some y =>
    rw [hf] at h
    refine ⟨y, List.mem_of_find?_eq_some hf, ?_, by simpa using h⟩
    have := List.find?_some hf
    simpa using this
theorem lkF_of_mem {f : List Fct} (hs : SrtF f) {y : Fct} (hy : y ∈ f) : lkF f (placeF y) = some y.v := (lkF_some hs).2 ⟨y, hy, rfl, rfl⟩
/-- Facts that tell the same are the same. -/
theorem lkF_ext : ∀ {f g : List Fct}, (∀ x ∈ f, PF x) → (∀ x ∈ g, PF x) → SrtF f → SrtF g → (∀ p, lkF f p = lkF g p) → f = g
  | [], [], _, _, _, _, _ => rfl
  | [], y :: r, _, _, _, _, h => by have := h (placeF y); rw [lkF_nil, lkF_cons, if_pos rfl] at this; cases this
  | x :: s, [], _, _, _, _, h => by have := h (placeF x); rw [lkF_nil, lkF_cons, if_pos rfl] at this; cases this
  | x :: s, y :: r, pf, pg, hf, hg, h => by
    obtain ⟨f1, f2⟩ := List.pairwise_cons.1 hf
    obtain ⟨g1, g2⟩ := List.pairwise_cons.1 hg
    have hx := h (placeF x)
    have hy := h (placeF y)
    rw [lkF_cons, if_pos rfl] at hx
    rw [lkF_cons y, if_pos rfl] at hy
    obtain ⟨z, hz, e1, e2⟩ := (lkF_some hg).1 hx.symm
    obtain ⟨z', hz', e1', e2'⟩ := (lkF_some hf).1 hy
    have hp : placeF x = placeF y := by
      rcases List.mem_cons.1 hz with rfl | hz
      · exact e1.symm
      · rcases List.mem_cons.1 hz' with rfl | hz'
        · exact e1'
        · have := g1 z hz; have := f1 z' hz'; omega
    rw [hp, lkF_cons, if_pos rfl] at hx
    have hxy : x = y := (pf x List.mem_cons_self).ext (pg y List.mem_cons_self) hp (by simpa using hx)
    rw [hxy]
    congr 1
    refine lkF_ext (fun z hz => pf z (List.mem_cons_of_mem _ hz)) (fun z hz => pg z (List.mem_cons_of_mem _ hz)) f2 g2 fun p => ?_
    have := h p
    rw [lkF_cons, lkF_cons, hp] at this
    by_cases e : placeF y = p
    · have a : lkF s p = none := lkF_none.2 fun z hz => by have := f1 z hz; omega
      have b : lkF r p = none := lkF_none.2 fun z hz => by have := g1 z hz; omega
      rw [a, b]
    · rwa [if_neg e, if_neg e] at this
/-! ### Adding -/
def addF (k : Int) : List Fct → Fct → List Fct × Bool
  | [], x => ([x], true)
  | y :: r, x => if placeF y = placeF x then (⟨y.pred, y.a, y.b, joinV k y.v x.v⟩ :: r, decide (joinV k y.v x.v ≠ y.v)) else if placeF x < placeF y then (x :: y :: r, true) else (y :: (addF k r x).1, (addF k r x).2)
def newV (k : Int) (o : Option Int) (x : Fct) : Int := match o with | none => x.v | some v => joinV k v x.v
theorem lkF_addF {k : Int} {x : Fct} : ∀ {f : List Fct}, SrtF f → ∀ p, lkF (addF k f x).1 p = if p = placeF x then some (newV k (lkF f p) x) else lkF f p
  | [], _, p => by
    rw [addF, lkF_cons, lkF_nil]
    by_cases h : p = placeF x
    · rw [if_pos h.symm, if_pos h]; rfl
    · rw [if_neg (Ne.symm h), if_neg h]
  | y :: r, hs, p => by
    obtain ⟨h1, h2⟩ := List.pairwise_cons.1 hs
    rw [addF]
    split
    · rename_i he
      show lkF (_ :: r) p = _
      rw [lkF_cons, lkF_cons]
      have hpl : placeF ⟨y.pred, y.a, y.b, joinV k y.v x.v⟩ = placeF y := rfl
      rw [hpl]
      by_cases h : p = placeF x
      · rw [if_pos (he.trans h.symm), if_pos h, if_pos (he.trans h.symm)]; rfl
      · rw [if_neg (by omega), if_neg h, if_neg (by omega)]
    · rename_i he
      split
      · rename_i hlt
        show lkF (x :: y :: r) p = _
        rw [lkF_cons]
        by_cases h : p = placeF x
        · have : lkF (y :: r) p = none := lkF_none.2 fun z hz => by
            rcases List.mem_cons.1 hz with rfl | hz
            · omega
            · have := h1 z hz; omega
          rw [if_pos h.symm, if_pos h, this]; rfl
        · rw [if_neg (Ne.symm h), if_neg h]
      · rename_i hge
        show lkF (y :: (addF k r x).1) p = _
        rw [lkF_cons, lkF_cons, lkF_addF h2]
        by_cases h : p = placeF x
        · rw [if_neg (by omega), if_pos h, if_pos h, if_neg (by omega)]
        · rw [if_neg h, if_neg h]
theorem mem_addF {k : Int} {x z : Fct} : ∀ {f : List Fct}, z ∈ (addF k f x).1 → z ∈ f ∨ z = x ∨ ∃ y ∈ f, placeF y = placeF x ∧ z = ⟨y.pred, y.a, y.b, joinV k y.v x.v⟩
  | [], h => by rw [addF] at h; exact .inr (.inl (by simpa using h))
  | y :: r, h => by
    rw [addF] at h
    split at h
    · rename_i he
      rcases List.mem_cons.1 h with rfl | h
      · exact .inr (.inr ⟨y, List.mem_cons_self, he, rfl⟩)
      · exact .inl (List.mem_cons_of_mem _ h)
    · split at h
      · rcases List.mem_cons.1 h with rfl | h
        · exact .inr (.inl rfl)
        · exact .inl h
      · rcases List.mem_cons.1 h with rfl | h
        · exact .inl List.mem_cons_self
        · rcases mem_addF h with h | h | ⟨y', h1, h2⟩
          · exact .inl (List.mem_cons_of_mem _ h)
          · exact .inr (.inl h)
          · exact .inr (.inr ⟨y', List.mem_cons_of_mem _ h1, h2⟩)
theorem addF_srt {k : Int} {x : Fct} : ∀ {f : List Fct}, SrtF f → SrtF (addF k f x).1
  | [], _ => by rw [addF]; exact List.pairwise_singleton _ _
  | y :: r, hs => by
    obtain ⟨h1, h2⟩ := List.pairwise_cons.1 hs
    rw [addF]
    split
    · exact List.pairwise_cons.2 ⟨fun z hz => h1 z hz, h2⟩
    · rename_i he
      split
      · rename_i hlt
        refine List.pairwise_cons.2 ⟨fun z hz => ?_, hs⟩
        rcases List.mem_cons.1 hz with rfl | hz
        · exact hlt
        · exact Int.lt_trans hlt (h1 z hz)
      · rename_i hge
        refine List.pairwise_cons.2 ⟨fun z hz => ?_, addF_srt h2⟩
        rcases mem_addF hz with hz | rfl | ⟨y', hy', e, rfl⟩
        · exact h1 z hz
        · omega
        · show placeF y < placeF y'
          exact h1 y' hy'
theorem addF_chg {k : Int} {x : Fct} : ∀ {f : List Fct}, SrtF f → (addF k f x).2 = decide (lkF f (placeF x) ≠ some (newV k (lkF f (placeF x)) x))
  | [], _ => by simp [addF, lkF_nil, newV]
  | y :: r, hs => by
    obtain ⟨h1, h2⟩ := List.pairwise_cons.1 hs
    rw [addF, lkF_cons]
    split
    · simp [newV, eq_comm]
    · rename_i he
      split
      · rename_i hlt
        have : lkF r (placeF x) = none := lkF_none.2 fun z hz => by have := h1 z hz; omega
        rw [this]; simp
      · exact addF_chg h2
theorem addF_same {k : Int} {x : Fct} : ∀ {f : List Fct}, (addF k f x).2 = false → (addF k f x).1 = f
  | [], h => by simp [addF] at h
  | y :: r, h => by
    rw [addF] at h ⊢
    split
    · rename_i he
      rw [if_pos he] at h
      have : joinV k y.v x.v = y.v := by simpa using h
      show _ :: r = y :: r
      rw [this]
    · rename_i he
      rw [if_neg he] at h
      split
      · rename_i hlt; rw [if_pos hlt] at h; cases h
      · rename_i hlt
        rw [if_neg hlt] at h
        show y :: _ = y :: r
        rw [addF_same h]
theorem addF_fok {l : List Prd} {f : List Fct} {x : Fct} (h : FOk l f) (hx : factFine l x = true) : FOk l (addF (predOf l x.pred).kind f x).1 := by
  refine ⟨h.len, h.preds, fun z hz => ?_, addF_srt h.srt⟩
  rcases mem_addF hz with hz | rfl | ⟨y, hy, e, rfl⟩
  · exact h.fine z hz
  · exact hx
  · have hpy := (fine_pf h.len (h.fine y hy)).inj (fine_pf h.len hx) e
    have f1 := fine_iff.1 (h.fine y hy)
    have f2 := fine_iff.1 hx
    refine fine_iff.2 ⟨f1.1, f1.2.1, f1.2.2.1, f1.2.2.2.1, f1.2.2.2.2.1, ?_⟩
    show VOk (predOf l y.pred).kind _
    rw [hpy.1]
    exact joinV_ok (by have := f1.2.2.2.2.2; rwa [hpy.1] at this) f2.2.2.2.2.2
/-! ### Where a fact stands -/
def posF (f : List Fct) (x : Fct) : Nat := (f.takeWhile fun y => decide (placeF y < placeF x)).length
theorem posF_of {x : Fct} : ∀ {f : List Fct} {k : Nat}, k ≤ f.length → (∀ m, (h : m < f.length) → m < k → placeF f[m] < placeF x) → (∀ (h : k < f.length), ¬ placeF f[k] < placeF x) → posF f x = k
  | [], k, hk, _, _ => by simp at hk; subst hk; rfl
  | y :: r, 0, _, _, h2 => by
    have := h2 (by simp)
    simp only [List.getElem_cons_zero] at this
    simp [posF, this]
  | y :: r, k + 1, hk, h1, h2 => by
    have h0 := h1 0 (by simp) (by omega)
    simp only [List.getElem_cons_zero] at h0
    have := posF_of (f := r) (x := x) (k := k) (by simpa using hk) (fun m hm hmk => h1 (m + 1) (by simpa using hm) (by omega)) (fun hkl => h2 (by simpa using hkl))
    unfold posF at this ⊢
    rw [List.takeWhile_cons, if_pos (by simpa using h0), List.length_cons, this]
theorem posF_le {f : List Fct} {x : Fct} : posF f x ≤ f.length := by unfold posF; exact (List.takeWhile_sublist _).length_le
theorem posF_cons_lt {y x : Fct} {r : List Fct} (h : placeF y < placeF x) : posF (y :: r) x = posF r x + 1 := by
  unfold posF; rw [List.takeWhile_cons, if_pos (by simpa using h), List.length_cons]
theorem posF_cons_ge {y x : Fct} {r : List Fct} (h : ¬ placeF y < placeF x) : posF (y :: r) x = 0 := by
  unfold posF; rw [List.takeWhile_cons, if_neg (by simpa using h)]; rfl
/-- Is it there? -/
def isF (f : List Fct) (x : Fct) : Bool := (lkF f (placeF x)).isSome
theorem isF_iff {x : Fct} : ∀ {f : List Fct}, SrtF f → (isF f x = true ↔ ∃ h : posF f x < f.length, placeF f[posF f x] = placeF x)
  | [], _ => by simp [isF, lkF_nil]
  | y :: r, hs => by
    obtain ⟨h1, h2⟩ := List.pairwise_cons.1 hs
    unfold isF
    rw [lkF_cons]
    by_cases hlt : placeF y < placeF x
    · rw [if_neg (by omega)]
      have ih := isF_iff (x := x) h2
      unfold isF at ih
      rw [ih]
      simp only [posF_cons_lt hlt, List.length_cons, List.getElem_cons_succ]
      constructor
      · rintro ⟨a, b⟩; exact ⟨by omega, b⟩
      · rintro ⟨a, b⟩; exact ⟨by omega, b⟩
    · simp only [posF_cons_ge hlt, List.length_cons, List.getElem_cons_zero]
      by_cases he : placeF y = placeF x
      · rw [if_pos he]; simp [he]
      · rw [if_neg he]
        have : lkF r (placeF x) = none := lkF_none.2 fun z hz => by have := h1 z hz; omega
        rw [this]; simp [he]
theorem lkF_pos {f : List Fct} {x : Fct} (hs : SrtF f) (h : posF f x < f.length) (he : placeF f[posF f x] = placeF x) : lkF f (placeF x) = some f[posF f x].v :=
  (lkF_some hs).2 ⟨_, List.getElem_mem h, he, rfl⟩
theorem addF_new {k : Int} {x : Fct} : ∀ {f : List Fct}, SrtF f → isF f x = false → addF k f x = (f.take (posF f x) ++ x :: f.drop (posF f x), true)
  | [], _, _ => by simp [addF, posF]
  | y :: r, hs, hi => by
    obtain ⟨h1, h2⟩ := List.pairwise_cons.1 hs
    have hne : placeF y ≠ placeF x := fun e => by simp [isF, lkF_cons, e] at hi
    rw [addF, if_neg hne]
    by_cases hlt : placeF y < placeF x
    · rw [if_neg (by omega), posF_cons_lt hlt, addF_new h2 (by simpa [isF, lkF_cons, hne] using hi)]; rfl
    · rw [if_pos (by omega), posF_cons_ge hlt]; rfl
theorem addF_old {k : Int} {x : Fct} : ∀ {f : List Fct}, SrtF f → ∀ (h : posF f x < f.length), placeF f[posF f x] = placeF x →
    addF k f x = (f.set (posF f x) ⟨f[posF f x].pred, f[posF f x].a, f[posF f x].b, joinV k f[posF f x].v x.v⟩, decide (joinV k f[posF f x].v x.v ≠ f[posF f x].v))
  | [], _, h, _ => by simp at h
  | y :: r, hs, h, he => by
    obtain ⟨h1, h2⟩ := List.pairwise_cons.1 hs
    by_cases hlt : placeF y < placeF x
    · have e := posF_cons_lt (r := r) hlt
      simp only [e, List.length_cons, List.getElem_cons_succ] at h he ⊢
      rw [addF, if_neg (by omega), if_neg (by omega), addF_old h2 (by omega) he]
      simp
    · have e := posF_cons_ge (r := r) hlt
      simp only [e, List.getElem_cons_zero] at he ⊢
      rw [addF, if_pos he]
      simp
/-! ### Being under -/
def underF (l : List Prd) (f g : List Fct) : Bool := f.all fun x => (lkF g (placeF x)).isSome && decide (joinV (predOf l x.pred).kind x.v ((lkF g (placeF x)).getD 0) = (lkF g (placeF x)).getD 0)
theorem underF_iff {l : List Prd} {f g : List Fct} : underF l f g = true ↔ ∀ x ∈ f, ∃ v, lkF g (placeF x) = some v ∧ LeV (predOf l x.pred).kind x.v v := by
  unfold underF
  rw [List.all_eq_true]
  refine forall_congr' fun x => imp_congr_right fun _ => ?_
  cases h : lkF g (placeF x) <;> simp [LeV]
end Go.TF
end
section
/- The laws of rules: each returns true. -/
namespace Go.TF
open Go Go.RowKit Go.Proofs
set_option maxRecDepth 20000

theorem RoadsAt.le {p : Prg} {h h' : Heap} (x : RoadsAt p h) (hl : h.le h') : RoadsAt p h' := ⟨x.is.le hl, x.er, x.cap⟩
theorem RoadsAt.preds {p : Prg} {h : Heap} (x : RoadsAt p h) : p.preds.xs = roadsC.preds.xs := by have := congrArg (fun q : Prg => q.preds.xs) x.er; exact this
theorem RoadsAt.get {p : Prg} {h : Heap} (x : RoadsAt p h) {i : Nat} {r : Rul} (hr : roadsC.rules.xs[i]? = some r) : ∃ r', p.rules.xs[i]? = some r' ∧ r'.er = r := by
  have h1 := congrArg (fun q : Prg => q.rules.xs[i]?) x.er
  simp only [Prg.er, hr, List.getElem?_map, Option.map_eq_some_iff] at h1
  exact h1
theorem RoadsAt.atom {p : Prg} {h : Heap} (x : RoadsAt p h) {a b : Atm} (e : a.er = b) : checkAtom p.preds.xs a = checkAtom roadsC.preds.xs b := by rw [← checkAtom_er, e, x.preds]
theorem RoadsAt.rule {p : Prg} {h : Heap} (x : RoadsAt p h) {a b : Rul} (e : a.er = b) : checkRule p.preds.xs a = checkRule roadsC.preds.xs b := by rw [← checkRule_er, e, x.preds]
end Go.TF
end
section
/- What holds of adding and being under: plain. -/
namespace Go.TF
open Go

theorem fine_v {l : List Prd} {x : Fct} (h : factFine l x = true) : VOk (predOf l x.pred).kind x.v := (fine_iff.1 h).2.2.2.2.2
theorem same_pred {l : List Prd} {x y : Fct} (hl : l.length ≤ 5) (hx : factFine l x = true) (hy : factFine l y = true) (h : placeF x = placeF y) : x.pred = y.pred := ((fine_pf hl hx).inj (fine_pf hl hy) h).1
theorem FOk.look {l : List Prd} {f : List Fct} (h : FOk l f) {x : Fct} (hx : factFine l x = true) {v : Int} (hv : lkF f (placeF x) = some v) : VOk (predOf l x.pred).kind v := by
  obtain ⟨y, hy, e, rfl⟩ := lkF_mem hv
  have := fine_v (h.fine y hy)
  rwa [same_pred h.len (h.fine y hy) hx e] at this
section
variable {l : List Prd} {f g : List Fct} {x y : Fct}
abbrev addL (l : List Prd) (f : List Fct) (x : Fct) : List Fct := (addF (predOf l x.pred).kind f x).1
theorem lkF_addL (h : FOk l f) (p : Int) : lkF (addL l f x) p = if p = placeF x then some (newV (predOf l x.pred).kind (lkF f p) x) else lkF f p := lkF_addF h.srt p
theorem FOk.ext (hf : FOk l f) (hg : FOk l g) (h : ∀ p, lkF f p = lkF g p) : f = g := lkF_ext hf.pf hg.pf hf.srt hg.srt h
theorem under_add (hf : FOk l f) (hx : factFine l x = true) : underF l f (addL l f x) = true := by
  refine underF_iff.2 fun z hz => ?_
  rw [lkF_addL hf]
  have hzf := hf.fine z hz
  split
  · rename_i e
    rw [lkF_of_mem hf.srt hz]
    refine ⟨_, rfl, ?_⟩
    have := same_pred hf.len hzf hx e
    rw [this]
    have hv := fine_v hzf
    rw [this] at hv
    exact leV_up hv (fine_v hx)
  · exact ⟨z.v, lkF_of_mem hf.srt hz, joinV_idem (fine_v hzf)⟩
theorem under_one (hf : FOk l f) (hx : factFine l x = true) : underF l [x] (addL l f x) = true := by
  refine underF_iff.2 fun z hz => ?_
  obtain rfl : z = x := by simpa using hz
  rw [lkF_addL hf, if_pos rfl]
  refine ⟨_, rfl, ?_⟩
  have hv := fine_v hx
  cases h : lkF f (placeF z) with
  | none => exact joinV_idem hv
  | some v =>
    have := hf.look hx h
    show joinV _ z.v (joinV _ v z.v) = joinV _ v z.v
    rw [joinV_comm this hv]
    exact leV_up hv this
theorem fok_one (hl : l.length ≤ 5) (hp : ∀ p ∈ l, predFine p = true) (hx : factFine l x = true) : FOk l [x] := ⟨hl, hp, fun z hz => by rw [List.mem_singleton.1 hz]; exact hx, List.pairwise_singleton _ _⟩
theorem add_chg (hf : FOk l f) : (addF (predOf l x.pred).kind f x).2 = decide (addL l f x ≠ f) := by
  cases h : (addF (predOf l x.pred).kind f x).2
  · rw [show addL l f x = f from addF_same h]; simp
  · symm; rw [decide_eq_true_eq]; intro e
    rw [addF_chg hf.srt, decide_eq_true_eq] at h
    have := lkF_addL (x := x) hf (placeF x)
    rw [if_pos rfl, e] at this
    exact h this
theorem under_refl (hf : FOk l f) : underF l f f = true := underF_iff.2 fun z hz => ⟨z.v, lkF_of_mem hf.srt hz, joinV_idem (fine_v (hf.fine z hz))⟩
theorem under_trans {k : List Fct} (hf : FOk l f) (hg : FOk l g) (hk : FOk l k) (h1 : underF l f g = true) (h2 : underF l g k = true) : underF l f k = true := underF_iff.2 fun z hz => by
  have hzf := hf.fine z hz
  obtain ⟨v, hv, l1⟩ := underF_iff.1 h1 z hz
  obtain ⟨z', hz', e, rfl⟩ := lkF_mem hv
  obtain ⟨u, hu, l2⟩ := underF_iff.1 h2 z' hz'
  have ep := same_pred hf.len (hg.fine z' hz') hzf e
  rw [e] at hu
  rw [ep] at l2
  have hv' := fine_v (hg.fine z' hz')
  rw [ep] at hv'
  exact ⟨u, hu, leV_trans (fine_v hzf) hv' (hk.look hzf hu) l1 l2⟩
theorem under_anti (hf : FOk l f) (hg : FOk l g) (h1 : underF l f g = true) (h2 : underF l g f = true) : f = g := by
  have key : ∀ {f g : List Fct}, FOk l f → FOk l g → underF l f g = true → underF l g f = true → ∀ p v, lkF f p = some v → lkF g p = some v := fun {f g} hf hg h1 h2 p v hv => by
    obtain ⟨z, hz, rfl, rfl⟩ := lkF_mem hv
    obtain ⟨u, hu, l1⟩ := underF_iff.1 h1 z hz
    obtain ⟨z', hz', e, rfl⟩ := lkF_mem hu
    obtain ⟨t, ht, l2⟩ := underF_iff.1 h2 z' hz'
    rw [e, hv] at ht
    cases ht
    have ep := same_pred hf.len (hg.fine z' hz') (hf.fine z hz) e
    rw [ep] at l2
    have hv' := fine_v (hg.fine z' hz')
    rw [ep] at hv'
    rw [hu, leV_antisymm (fine_v (hf.fine z hz)) hv' l1 l2]
  refine hf.ext hg fun p => ?_
  cases h : lkF f p with
  | some v => exact (key hf hg h1 h2 p v h).symm
  | none =>
    cases h' : lkF g p with
    | none => rfl
    | some v => rw [key hg hf h2 h1 p v h'] at h; cases h
end
end Go.TF
end
