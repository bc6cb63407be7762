/- Texts Rule3 Rule4 SpProg RuleLaw Base10 Base11. -/
import Derived.Test.YtljkkojkfddpeaaGreatU2
import Derived.Test.YtljkkojkfddpeaaGreatU1
import Derived.RangeFuncWrites
import Derived.RangeFuncLeaves
import Derived.RangeFuncCalls
import Derived.TacticsIn
import Derived.ScopeJumps
import Derived.Laws.MakeOwn
import Derived.Laws.AppendOwn
import Derived.Laws.RangeAny
section
/- The contract of rule.Check. -/
namespace Go.TF
open Go Go.RowKit Go.Proofs
set_option maxRecDepth 10000

theorem checkAtom_in {l : List Prd} {a : Atm} (h : checkAtom l a = 0) : 0 ≤ a.pred ∧ a.pred < l.length := by
  unfold checkAtom at h
  split at h
  · cases h
  · omega
theorem free_any {l : List Prd} {r : Rul} {v : Int} (h : freeVar r v = true) (h0 : checkAtom l r.head = 0) (h1 : bodyErr l r.body.xs = 0) : (freeVar r 0 || freeVar r 1 || freeVar r 2) = true := by
  have hv : v = 0 ∨ v = 1 ∨ v = 2 := by
    have := h
    simp only [freeVar, Bool.and_eq_true, Bool.or_eq_true, List.any_eq_true] at this
    rcases this.1 with hs | ⟨x, hx, hs⟩
    · exact standsIn_small h0 hs
    · exact standsIn_small (bodyErr_ne.1 h1 x hx) hs
  rcases hv with rfl | rfl | rfl <;> simp [h]
theorem free_none {r : Rul} (h : ∀ v, cntA (negs r.body.xs ++ [r.head]) v ≠ 0 → cntA (poss r.body.xs) v ≠ 0) : (freeVar r 0 || freeVar r 1 || freeVar r 2) = false := by
  have : ∀ v, freeVar r v = false := fun v => by
    cases hf : freeVar r v
    · rfl
    · have := freeVar_iff.1 hf; exact absurd this.2 (h v this.1)
  simp [this]
theorem litOf_get {r : Rul} {k : Int} (h0 : 0 ≤ k) (h1 : k < r.body.xs.length) : litOf r k = r.body.xs[k.toNat]'(by omega) := by
  simp [litOf, List.getD_eq_getElem?_getD, show k.toNat < r.body.xs.length by omega]
theorem predOf_getE {l : List Prd} {p : Int} (h0 : 0 ≤ p) (h1 : p < l.length) : predOf l p = l[p.toNat]'(by omega) := by
  simp [predOf, List.getD_eq_getElem?_getD, show p.toNat < l.length by omega]
set_option maxHeartbeats 1000000 in
theorem RCheck_ok (B : Base) (hB : B.ok) (l : Sl Prd) (hl : Prds l B.h) (r : Rul) (hr : r.In B.h) : Fn Tryz.prog 66 [l.val, r.val] B (fun v _ => v = .int .i64 (checkRule l.xs r)) := by
  have hsm := hl.small
  have hsb := hr.body.is.small
  refine Fn.of Tryz.func66 rfl Tryz.ntmps66 (by kernel_rfl) (by simp) ?_
  intro e
  have I := Inv.start hB
  refine WP.seq ?_
  refine WP.region ?_
  refine Ops.go (O.box (v := .agg #[_, _, _, _, _]) I rfl rfl ?_)
  intro b3 w I
  refine Ops.y (v := .int .i64 _) (Y.assign rfl) ?_
  refine Ops.nil ?_
  refine WP.seq ?_
  refine WP.seq ?_
  refine WP.region ?_
  refine Ops.y (v := .slice _ _ _) (Y.move rfl) ?_
  refine Ops.y (v := .pointer (some ⟨_, _, none⟩)) (Y.fa0 fa_46_0 rfl) ?_
  refine Ops.y (v := .agg #[_, _]) (Y.loadv ty_43 rfl (I.rdbox 0 rfl 0 2) rfl rfl) ?_
  refine Ops.go (O.callv I Tryz.call93 (Atom_ok _ I.base_ok l hl r.head hr.head) rfl ?_)
  intro w I
  refine Ops.y (v := .int .i64 _) (Y.assign rfl) ?_
  refine Ops.nil ?_
  refine WP.seq ?_
  refine WP.region ?_
  refine Ops.y (v := .int .i64 _) (Y.move rfl) ?_
  refine Ops.y (v := .bool (decide _)) (Y.nei rfl rfl) ?_
  refine Ops.nil ?_
  refine WP.cond_dec rfl (fun h1 => ?_) (fun h1 => ?_)
  · refine WP.seq ?_
    refine WP.region ?_
    refine Ops.y (v := .int .i64 _) (Y.move rfl) ?_
    refine Ops.y (v := .int .i64 _) (Y.assign rfl) ?_
    refine Ops.nil ?_
    refine WP.ret ?_
    repeat (first | refine thenE_ret ?_ | refine blockE_ret ?_)
    exact retQ.mk (vs := [.int .i64 _]) rfl ⟨rfl, trivial⟩ I.ext_of (by simp only [tup, checkRule]; rw [if_pos h1])
  have h1 := Decidable.not_not.1 h1
  have hh := checkAtom_in h1
  refine WP.skip ?_
  refine WP.seq ?_
  refine WP.seq ?_
  refine WP.region ?_
  refine Ops.y (v := .pointer (some ⟨_, _, none⟩)) (Y.fa fa_46_3 rfl) ?_
  refine Ops.y (v := .slice _ _ _) (Y.loadv ty_44 rfl (I.rdbox 0 rfl 4 1) rfl rfl) ?_
  refine Ops.y (v := .int .i64 _) (Y.lens Tryz.underlying44 rfl) ?_
  refine Ops.y (v := .bool (decide _)) (Y.gti rfl rfl) ?_
  refine Ops.nil ?_
  refine WP.cond_dec rfl (fun h2 => ?_) (fun h2 => ?_)
  · refine WP.seq ?_
    refine WP.region ?_
    refine Ops.y (v := .int .i64 _) (Y.assign rfl) ?_
    refine Ops.nil ?_
    refine WP.ret ?_
    repeat (first | refine thenE_ret ?_ | refine blockE_ret ?_)
    exact retQ.mk (vs := [.int .i64 _]) rfl ⟨rfl, trivial⟩ I.ext_of (by simp only [tup, checkRule]; rw [if_neg (by simp [h1]), if_pos (by omega)])
  refine WP.skip ?_
  refine WP.seq ?_
  refine WP.seq ?_
  refine WP.region ?_
  refine Ops.y (v := .pointer (some ⟨_, _, none⟩)) (Y.fa fa_46_3 rfl) ?_
  refine Ops.y (v := .slice _ _ _) (Y.loadv ty_44 rfl (I.rdbox 0 rfl 4 1) rfl rfl) ?_
  refine Ops.y (v := .int .i64 _) (Y.lens Tryz.underlying44 rfl) ?_
  refine Ops.y (v := .int .i64 _) (Y.move rfl) ?_
  refine Ops.nil ?_
  refine WP.block ?_
  refine WP.loopE (σ := Nat) (fun k => [(0, l.val), (3, .pointer (some ⟨b3, 0, none⟩)), (26, r.body.val), (27, .int .i64 r.body.xs.length), (28, .int .i64 k)]) (fun k w => Inv B B.h [box b3 r.enc 46] w ∧ k ≤ r.body.xs.length ∧ ∀ j, j < k → ∀ hj' : j < r.body.xs.length, checkAtom l.xs r.body.xs[j].atom = 0) (fun k => r.body.xs.length - k)
    ⟨0, ⟨rfl, rfl, rfl, rfl, rfl, trivial⟩, I, Nat.zero_le _, fun j hj => (by omega)⟩ ?_
  rintro k e w ⟨I, hk, hn⟩
  refine WP.seq ?_
  refine WP.region ?_
  refine Ops.y (v := .bool (decide _)) (Y.lti rfl rfl) ?_
  refine Ops.nil ?_
  refine WP.seq ?_
  refine WP.cond_dec rfl (fun h3 => ?_) (fun h3 => ?_)
  · have hk' : k < r.body.xs.length := by omega
    have E1 := hr.body.is.at hk'
    refine WP.skip ?_
    refine WP.seq ?_
    refine WP.block ?_
    refine WP.seq ?_
    refine WP.region ?_
    refine Ops.y (v := .pointer (some ⟨_, _, none⟩)) (Y.idxEl E1 Tryz.underlying44 Tryz.sizeOf61 rfl rfl (Int.natCast_nonneg _) rfl) ?_
    refine Ops.y (v := .agg #[_, _, _]) (Y.loadv ty_61 rfl (I.rd (E1.rd.part 0 3)) rfl rfl) ?_
    refine Ops.go (O.alloc I Tryz.zeroValue61 rfl ?_)
    intro b7 w I
    refine Ops.go (O.store (v := .agg #[_, _, _]) I ty_61 0 rfl rfl rfl rfl rfl rfl (Nat.le_of_ble_eq_true rfl) rfl ?_)
    intro w I
    refine Ops.nil ?_
    refine WP.seq ?_
    refine WP.region ?_
    refine Ops.y (v := .slice _ _ _) (Y.move rfl) ?_
    refine Ops.y (v := .pointer (some ⟨_, _, none⟩)) (Y.fa fa_61_1 rfl) ?_
    refine Ops.y (v := .agg #[_, _]) (Y.loadv ty_43 rfl (I.rdbox 0 rfl 1 2) rfl rfl) ?_
    refine Ops.go (O.callv I Tryz.call93 (Atom_ok _ I.base_ok l hl r.body.xs[k].atom (hr.body.each _ (List.getElem_mem hk'))) rfl ?_)
    intro w I
    refine Ops.y (v := .int .i64 _) (Y.assign rfl) ?_
    refine Ops.nil ?_
    refine WP.seq ?_
    refine WP.region ?_
    refine Ops.y (v := .int .i64 _) (Y.move rfl) ?_
    refine Ops.y (v := .bool (decide _)) (Y.nei rfl rfl) ?_
    refine Ops.nil ?_
    refine WP.cond_dec rfl (fun h4 => ?_) (fun h4 => ?_)
    · refine WP.seq ?_
      refine WP.region ?_
      refine Ops.y (v := .int .i64 _) (Y.move rfl) ?_
      refine Ops.y (v := .int .i64 _) (Y.assign rfl) ?_
      refine Ops.nil ?_
      refine WP.ret ?_
      repeat (first | refine thenE_ret ?_ | refine blockE_ret ?_)
      exact retQ.mk (vs := [.int .i64 _]) rfl ⟨rfl, trivial⟩ I.ext_of (by simp only [tup, checkRule]; rw [if_neg (by simp [h1]), if_neg (by omega), if_pos (by rw [bodyErr_at hk' hn h4]; exact h4), bodyErr_at hk' hn h4])
    refine WP.skip ?_
    refine WP.region ?_
    refine Ops.y (v := .int .i64 _) (Y.addi rfl rfl ⟨by omega, by omega⟩) ?_
    refine Ops.y (v := .int .i64 _) (Y.move rfl) ?_
    refine Ops.nil ?_
    exact ⟨k + 1, ⟨⟨rfl, rfl, rfl, rfl, rfl, trivial⟩, I.drop, by omega, fun j hj hj' => by
      rcases Nat.lt_succ_iff_lt_or_eq.1 hj with h' | h'
      · exact hn j h' hj'
      · subst h'; exact Decidable.not_not.1 h4⟩, by omega⟩
  have hb0 : bodyErr l.xs r.body.xs = 0 := bodyErr_ne.2 fun x hx => by obtain ⟨j, hj, rfl⟩ := List.getElem_of_mem hx; exact hn j (by omega) hj
  have hb3 : r.body.xs.length ≤ 3 := by omega
  have n1 := negs_le r.body.xs
  have n2 := poss_le r.body.xs
  clear hn hk h3
  refine WP.exit ?_
  refine WP.seq ?_
  refine WP.region ?_
  refine Ops.y (v := .agg #[_, _, _, _, _]) (Y.loadv ty_46 rfl (I.rdbox 0 rfl 0 5) rfl rfl) ?_
  refine Ops.go (O.callM I Tryz.call94 (Atoms_ok _ I.base_ok r hr.body hb3) rfl ?_)
  rintro _ h1' _ w I le1 ⟨u1, u2, rfl, rfl⟩
  try simp only [List.cons_append, List.nil_append] at I
  refine Ops.y (v := .tuple #[_, _]) (Y.move rfl) ?_
  refine Ops.y (v := u1) (Y.extract rfl rfl) ?_
  refine Ops.y (v := u2) (Y.extract rfl rfl) ?_
  refine Ops.y (v := u1) (Y.assign rfl) ?_
  refine Ops.y (v := u2) (Y.assign rfl) ?_
  refine Ops.nil ?_
  have If := I.front 1 rfl
  obtain ⟨h2', sI, le2, hv2, hx2, hs2, I2⟩ := If.settleSl (fun _ => rfl) rfl
  simp only [List.eraseIdx_cons_succ, List.eraseIdx_zero, List.tail_cons] at I2
  clear If
  subst hv2
  have I := I2
  have le12 := le1.trans le2
  have q1 : ∀ a ∈ sI.xs, a.In h2' := fun a ha => by
    rw [hx2] at ha
    obtain ⟨x, hx, _, rfl⟩ := mem_poss.1 ha
    exact (hr.body.each x hx).le le12
  refine WP.seq ?_
  refine WP.region ?_
  refine Ops.y (v := .slice _ _ _) (Y.move rfl) ?_
  refine Ops.go (O.callM I Tryz.call95 (Vars_ok _ I.base_ok sI ⟨hs2, by rw [hx2]; omega⟩ q1 (by rw [hx2]; omega)) rfl ?_)
  rintro _ h3' _ w I le3 ⟨bm, es, rfl, rfl, hc⟩
  try simp only [List.cons_append, List.nil_append] at I
  refine Ops.y (v := .map _) (Y.assign rfl) ?_
  refine Ops.nil ?_
  refine WP.seq ?_
  refine WP.seq ?_
  refine WP.region ?_
  refine Ops.y (v := u1) (Y.move rfl) ?_
  refine Ops.y (v := .pointer (some ⟨_, _, none⟩)) (Y.fa0 fa_46_0 rfl) ?_
  refine Ops.y (v := .agg #[_, _]) (Y.loadv ty_43 rfl (I.rdbox 2 rfl 0 2) rfl rfl) ?_
  refine Ops.go (O.mksl (xs := [r.head]) (enc := Atm.enc) I Tryz.underlying130 Tryz.sizeOf43 Tryz.zeroValue43 rfl (Nat.le_of_ble_eq_true rfl) rfl rfl (by decide) (fun _ => rfl) ?_)
  intro b50 h50 w I le50 sl50
  refine Ops.go (O.append I Tryz.underlying130 et_43 1 rfl rfl rfl (I.rd (sl50 0 _ rfl).2) rfl rfl (by decide) (by omega) (by omega) ?_)
  intro b51 c51 w I
  have If := I.front 1 rfl
  have e0 : (negs r.body.xs).flatMap Atm.enc ++ Atm.enc r.head = (negs r.body.xs ++ [r.head]).flatMap Atm.enc := by simp
  rw [e0] at If
  obtain ⟨h5, sN, le5, hv5, hx5, hs5, I⟩ := If.settleSl (fun _ => rfl) (by simp)
  have le25 : B.h.le h5 := le12.trans (le3.trans (le50.trans le5))
  have V := Vars_ok _ I.base_ok sN ⟨hs5, by rw [hx5, List.length_append, List.length_singleton]; omega⟩ (fun a ha => by rw [hx5] at ha; rcases List.mem_append.1 ha with ha | ha; (obtain ⟨x, hx, _, rfl⟩ := mem_negs.1 ha; exact (hr.body.each x hx).le le25); (rw [List.mem_singleton.1 ha]; exact hr.head.le le25)) (by rw [hx5, List.length_append, List.length_singleton]; omega)
  rw [hv5] at V
  refine Ops.go (O.callM I Tryz.call95 (V) rfl ?_)
  rintro _ h6 _ w I le6 ⟨bn, en, rfl, rfl, hcn⟩
  try simp only [List.cons_append, List.nil_append] at I
  obtain ⟨h7, ents, clock, le7, hm7, hi7, I⟩ := I.settleMap
  refine Ops.go (O.range I Tryz.underlying133 rfl hm7 ?_)
  intro b53 w I
  refine Ops.nil ?_
  have hle : B.h.le h7 := le25.trans (le6.trans le7)
  rw [hx5] at hcn
  rw [hx2] at hc
  refine WP.block ?_
  refine WP.loopE (σ := List Nat) (fun _ => [(0, l.val), (3, .pointer (some ⟨b3, 0, none⟩)), (11, .map (some bm)), (53, .pointer (some ⟨b53, 0, none⟩))]) (fun done w => Inv B h7 [mit b53 bn clock done, imap bm es, box b3 r.enc 46] w ∧ ∀ q ∈ ents, q.born ∈ done → ∀ v, q.key = .int .i64 v → cntA (poss r.body.xs) v ≠ 0) (fun done => (ents.filter fun q => decide (q.born ∉ done)).length)
    ⟨[], ⟨rfl, rfl, rfl, rfl, trivial⟩, I, fun q _ hq => by cases hq⟩ ?_
  rintro done e w ⟨I, hd⟩
  refine WP.seq ?_
  refine WP.region ?_
  refine Ops.go (O.next I 0 rfl rfl hm7 hi7 ?_ ?_)
  · intro hall
    refine Ops.y (v := .bool _) (Y.extract rfl rfl) ?_
    refine Ops.nil ?_
    refine WP.seq ?_
    refine WP.cond_f rfl ?_
    have hfr : (freeVar r 0 || freeVar r 1 || freeVar r 2) = false := free_none fun v hv => by
      have h8 := hcn v
      rw [if_neg hv] at h8
      obtain ⟨q, hq, hk⟩ := ents_has hi7 (ilook_some_mem h8)
      exact hd q hq (hall q hq) v hk
    clear hd hall
    have I := I.drop.drop
    refine WP.exit ?_
    refine WP.seq ?_
    refine WP.seq ?_
    by_cases o0 : r.src < -1
    · refine WP.region ?_
      refine Ops.y (v := .pointer (some ⟨_, _, none⟩)) (Y.fa fa_46_1 rfl) ?_
      refine Ops.y (v := .int .i64 _) (Y.loadv ty_3 rfl (I.rdbox 0 rfl 2 1) rfl rfl) ?_
      refine Ops.y (v := .bool true) (Y.dec_t (Y.lti rfl rfl) (o0)) ?_
      refine Ops.y (v := .bool _) (Y.move rfl) ?_
      refine Ops.gf rfl ?_
      refine Ops.gf rfl ?_
      refine Ops.gf rfl ?_
      refine Ops.gf rfl ?_
      refine Ops.gf rfl ?_
      refine Ops.gf rfl ?_
      refine Ops.y (v := .bool _) (Y.pick_t rfl rfl) ?_
      refine Ops.nil ?_
      refine WP.cond_t rfl ?_
      refine WP.seq ?_
      refine WP.region ?_
      refine Ops.y (v := .int .i64 _) (Y.assign rfl) ?_
      refine Ops.nil ?_
      refine WP.ret ?_
      repeat (first | refine thenE_ret ?_ | refine blockE_ret ?_)
      exact retQ.mk (vs := [.int .i64 _]) rfl ⟨rfl, trivial⟩ I.ext_of (by simp only [tup, checkRule]; rw [if_neg (by simp [h1]), if_neg (by omega), if_neg (by simp [hb0]), hfr, if_neg (by simp), if_pos (by omega)])
    by_cases o1 : (r.body.xs.length : Int) ≤ r.src
    · refine WP.region ?_
      refine Ops.y (v := .pointer (some ⟨_, _, none⟩)) (Y.fa fa_46_1 rfl) ?_
      refine Ops.y (v := .int .i64 _) (Y.loadv ty_3 rfl (I.rdbox 0 rfl 2 1) rfl rfl) ?_
      refine Ops.y (v := .bool false) (Y.dec_f (Y.lti rfl rfl) (o0)) ?_
      refine Ops.y (v := .bool _) (Y.move rfl) ?_
      refine Ops.ygt rfl (v := .pointer (some ⟨_, _, none⟩)) (Y.fa fa_46_1 rfl) ?_
      refine Ops.ygt rfl (v := .int .i64 _) (Y.loadv ty_3 rfl (I.rdbox 0 rfl 2 1) rfl rfl) ?_
      refine Ops.ygt rfl (v := .pointer (some ⟨_, _, none⟩)) (Y.fa fa_46_3 rfl) ?_
      refine Ops.ygt rfl (v := .slice _ _ _) (Y.loadv ty_44 rfl (I.rdbox 0 rfl 4 1) rfl rfl) ?_
      refine Ops.ygt rfl (v := .int .i64 _) (Y.lens Tryz.underlying44 rfl) ?_
      refine Ops.ygt rfl (v := .bool true) (Y.dec_t (Y.gei rfl rfl) (o1)) ?_
      refine Ops.y (v := .bool _) (Y.pick_f rfl rfl) ?_
      refine Ops.nil ?_
      refine WP.cond_t rfl ?_
      refine WP.seq ?_
      refine WP.region ?_
      refine Ops.y (v := .int .i64 _) (Y.assign rfl) ?_
      refine Ops.nil ?_
      refine WP.ret ?_
      repeat (first | refine thenE_ret ?_ | refine blockE_ret ?_)
      exact retQ.mk (vs := [.int .i64 _]) rfl ⟨rfl, trivial⟩ I.ext_of (by simp only [tup, checkRule]; rw [if_neg (by simp [h1]), if_neg (by omega), if_neg (by simp [hb0]), hfr, if_neg (by simp), if_pos (by omega)])
    refine WP.region ?_
    refine Ops.y (v := .pointer (some ⟨_, _, none⟩)) (Y.fa fa_46_1 rfl) ?_
    refine Ops.y (v := .int .i64 _) (Y.loadv ty_3 rfl (I.rdbox 0 rfl 2 1) rfl rfl) ?_
    refine Ops.y (v := .bool false) (Y.dec_f (Y.lti rfl rfl) (o0)) ?_
    refine Ops.y (v := .bool _) (Y.move rfl) ?_
    refine Ops.ygt rfl (v := .pointer (some ⟨_, _, none⟩)) (Y.fa fa_46_1 rfl) ?_
    refine Ops.ygt rfl (v := .int .i64 _) (Y.loadv ty_3 rfl (I.rdbox 0 rfl 2 1) rfl rfl) ?_
    refine Ops.ygt rfl (v := .pointer (some ⟨_, _, none⟩)) (Y.fa fa_46_3 rfl) ?_
    refine Ops.ygt rfl (v := .slice _ _ _) (Y.loadv ty_44 rfl (I.rdbox 0 rfl 4 1) rfl rfl) ?_
    refine Ops.ygt rfl (v := .int .i64 _) (Y.lens Tryz.underlying44 rfl) ?_
    refine Ops.ygt rfl (v := .bool false) (Y.dec_f (Y.gei rfl rfl) (o1)) ?_
    refine Ops.y (v := .bool _) (Y.pick_f rfl rfl) ?_
    refine Ops.nil ?_
    refine WP.cond_f rfl ?_
    have hle' := hle
    have EH := (hl.at (i := r.head.pred.toNat) (by omega)).le hle
    have eH := predOf_getE hh.1 hh.2
    refine WP.skip ?_
    refine WP.seq ?_
    refine WP.region ?_
    refine Ops.y (v := .slice _ _ _) (Y.move rfl) ?_
    refine Ops.y (v := .pointer (some ⟨_, _, none⟩)) (Y.fa0 fa_46_0 rfl) ?_
    refine Ops.y (v := .pointer (some ⟨_, _, none⟩)) (Y.fa0 fa_43_0 rfl) ?_
    refine Ops.y (v := .int .i64 _) (Y.loadv ty_3 rfl (I.rdbox 0 rfl 0 1) rfl rfl) ?_
    refine Ops.y (v := .pointer (some ⟨_, _, none⟩)) (Y.idxEl EH Tryz.underlying22 Tryz.sizeOf40 rfl rfl hh.1 rfl) ?_
    refine Ops.y (v := .pointer (some ⟨_, _, none⟩)) (Y.fa fa_40_2 rfl) ?_
    refine Ops.y (v := .int .i64 _) (Y.loadv ty_3 rfl (I.rd (EH.rd.part 2 1)) rfl rfl) ?_
    refine Ops.y (v := .int .i64 _) (Y.assign rfl) ?_
    refine Ops.nil ?_
    refine WP.seq ?_
    refine WP.block ?_
    refine WP.seq ?_
    refine WP.cutL (σ := Unit) (fun _ => [(0, l.val), (3, .pointer (some ⟨b3, 0, none⟩)), (13, .int .i64 (predOf l.xs r.head.pred).kind), (80, .bool (decide ((predOf l.xs r.head.pred).kind = 0 ∧ (r.src ≠ -1 ∨ r.n ≠ 0))))]) (fun _ w => Inv B h7 [box b3 r.enc 46] w) ?_ ?_
    · rw [eH]
      by_cases c1 : (l.xs[r.head.pred.toNat]'(by omega)).kind = 0
      · by_cases c2 : r.src ≠ -1
        · refine WP.region ?_
          refine Ops.y (v := .int .i64 _) (Y.move rfl) ?_
          refine Ops.y (v := .bool true) (Y.dec_t (Y.eqi rfl rfl) (c1)) ?_
          refine Ops.y (v := .bool _) (Y.move rfl) ?_
          refine Ops.ygt rfl (v := .pointer (some ⟨_, _, none⟩)) (Y.fa fa_46_1 rfl) ?_
          refine Ops.ygt rfl (v := .int .i64 _) (Y.loadv ty_3 rfl (I.rdbox 0 rfl 2 1) rfl rfl) ?_
          refine Ops.ygt rfl (v := .bool true) (Y.dec_t (Y.nei rfl rfl) (c2)) ?_
          refine Ops.ygt rfl (v := .bool _) (Y.move rfl) ?_
          refine Ops.gf rfl ?_
          refine Ops.gf rfl ?_
          refine Ops.gf rfl ?_
          refine Ops.ygt rfl (v := .bool _) (Y.pick_t rfl rfl) ?_
          refine Ops.y (v := .bool _) (Y.pick_t rfl rfl) ?_
          refine Ops.y (v := .bool _) (Y.assign rfl) ?_
          refine Ops.nil ?_
          exact ⟨(), ⟨rfl, rfl, rfl, bT ⟨c1, .inl c2⟩, trivial⟩, I⟩
        · by_cases c3 : r.n ≠ 0
          · refine WP.region ?_
            refine Ops.y (v := .int .i64 _) (Y.move rfl) ?_
            refine Ops.y (v := .bool true) (Y.dec_t (Y.eqi rfl rfl) (c1)) ?_
            refine Ops.y (v := .bool _) (Y.move rfl) ?_
            refine Ops.ygt rfl (v := .pointer (some ⟨_, _, none⟩)) (Y.fa fa_46_1 rfl) ?_
            refine Ops.ygt rfl (v := .int .i64 _) (Y.loadv ty_3 rfl (I.rdbox 0 rfl 2 1) rfl rfl) ?_
            refine Ops.ygt rfl (v := .bool false) (Y.dec_f (Y.nei rfl rfl) (c2)) ?_
            refine Ops.ygt rfl (v := .bool _) (Y.move rfl) ?_
            refine Ops.ygt rfl (v := .pointer (some ⟨_, _, none⟩)) (Y.fa fa_46_2 rfl) ?_
            refine Ops.ygt rfl (v := .int .i64 _) (Y.loadv ty_3 rfl (I.rdbox 0 rfl 3 1) rfl rfl) ?_
            refine Ops.ygt rfl (v := .bool true) (Y.dec_t (Y.nei rfl rfl) (c3)) ?_
            refine Ops.ygt rfl (v := .bool _) (Y.pick_f rfl rfl) ?_
            refine Ops.y (v := .bool _) (Y.pick_t rfl rfl) ?_
            refine Ops.y (v := .bool _) (Y.assign rfl) ?_
            refine Ops.nil ?_
            exact ⟨(), ⟨rfl, rfl, rfl, bT ⟨c1, .inr c3⟩, trivial⟩, I⟩
          · refine WP.region ?_
            refine Ops.y (v := .int .i64 _) (Y.move rfl) ?_
            refine Ops.y (v := .bool true) (Y.dec_t (Y.eqi rfl rfl) (c1)) ?_
            refine Ops.y (v := .bool _) (Y.move rfl) ?_
            refine Ops.ygt rfl (v := .pointer (some ⟨_, _, none⟩)) (Y.fa fa_46_1 rfl) ?_
            refine Ops.ygt rfl (v := .int .i64 _) (Y.loadv ty_3 rfl (I.rdbox 0 rfl 2 1) rfl rfl) ?_
            refine Ops.ygt rfl (v := .bool false) (Y.dec_f (Y.nei rfl rfl) (c2)) ?_
            refine Ops.ygt rfl (v := .bool _) (Y.move rfl) ?_
            refine Ops.ygt rfl (v := .pointer (some ⟨_, _, none⟩)) (Y.fa fa_46_2 rfl) ?_
            refine Ops.ygt rfl (v := .int .i64 _) (Y.loadv ty_3 rfl (I.rdbox 0 rfl 3 1) rfl rfl) ?_
            refine Ops.ygt rfl (v := .bool false) (Y.dec_f (Y.nei rfl rfl) (c3)) ?_
            refine Ops.ygt rfl (v := .bool _) (Y.pick_f rfl rfl) ?_
            refine Ops.y (v := .bool _) (Y.pick_t rfl rfl) ?_
            refine Ops.y (v := .bool _) (Y.assign rfl) ?_
            refine Ops.nil ?_
            exact ⟨(), ⟨rfl, rfl, rfl, bF (fun h => h.2.elim c2 c3), trivial⟩, I⟩
      · refine WP.region ?_
        refine Ops.y (v := .int .i64 _) (Y.move rfl) ?_
        refine Ops.y (v := .bool false) (Y.dec_f (Y.eqi rfl rfl) (c1)) ?_
        refine Ops.y (v := .bool _) (Y.move rfl) ?_
        refine Ops.gf rfl ?_
        refine Ops.gf rfl ?_
        refine Ops.gf rfl ?_
        refine Ops.gf rfl ?_
        refine Ops.gf rfl ?_
        refine Ops.gf rfl ?_
        refine Ops.gf rfl ?_
        refine Ops.gf rfl ?_
        refine Ops.y (v := .bool _) (Y.pick_f rfl rfl) ?_
        refine Ops.y (v := .bool _) (Y.assign rfl) ?_
        refine Ops.nil ?_
        exact ⟨(), ⟨rfl, rfl, rfl, bF (fun h => c1 h.1), trivial⟩, I⟩
    rintro _ e w I
    refine WP.cond_dec rfl (fun d1 => ?_) (fun d1 => ?_)
    · refine WP.seq ?_
      refine WP.region ?_
      refine Ops.y (v := .int .i64 _) (Y.assign rfl) ?_
      refine Ops.nil ?_
      refine WP.ret ?_
      repeat (first | refine thenE_ret ?_ | refine blockE_ret ?_)
      exact retQ.mk (vs := [.int .i64 _]) rfl ⟨rfl, trivial⟩ I.ext_of (by simp only [tup, checkRule]; rw [if_neg (by simp [h1]), if_neg (by omega), if_neg (by simp [hb0]), hfr, if_neg (by simp), if_neg (by omega), if_pos d1])
    refine WP.seq ?_
    refine WP.cutL (σ := Unit) (fun _ => [(3, .pointer (some ⟨b3, 0, none⟩)), (93, .bool (decide (0 ≤ r.src ∧ ((litOf r r.src).neg = true ∨ (predOf l.xs (litOf r r.src).atom.pred).kind ≠ (predOf l.xs r.head.pred).kind))))]) (fun _ w => Inv B h7 [box b3 r.enc 46] w) ?_ ?_
    · by_cases c1 : 0 ≤ r.src
      · have hs1 : r.src.toNat < r.body.xs.length := by omega
        have EB := (hr.body.is.at hs1).le hle
        rw [litOf_get c1 (by omega)]
        have hap := checkAtom_in (bodyErr_ne.1 hb0 _ (List.getElem_mem hs1))
        have EP := (hl.at (i := (r.body.xs[r.src.toNat]'hs1).atom.pred.toNat) (by omega)).le hle
        rw [predOf_getE hap.1 hap.2]
        by_cases c2 : (r.body.xs[r.src.toNat]'hs1).neg = true
        · refine WP.region ?_
          refine Ops.y (v := .pointer (some ⟨_, _, none⟩)) (Y.fa fa_46_1 rfl) ?_
          refine Ops.y (v := .int .i64 _) (Y.loadv ty_3 rfl (I.rdbox 0 rfl 2 1) rfl rfl) ?_
          refine Ops.y (v := .bool true) (Y.dec_t (Y.gei rfl rfl) (c1)) ?_
          refine Ops.y (v := .bool _) (Y.move rfl) ?_
          refine Ops.ygt rfl (v := .pointer (some ⟨_, _, none⟩)) (Y.fa fa_46_3 rfl) ?_
          refine Ops.ygt rfl (v := .slice _ _ _) (Y.loadv ty_44 rfl (I.rdbox 0 rfl 4 1) rfl rfl) ?_
          refine Ops.ygt rfl (v := .pointer (some ⟨_, _, none⟩)) (Y.fa fa_46_1 rfl) ?_
          refine Ops.ygt rfl (v := .int .i64 _) (Y.loadv ty_3 rfl (I.rdbox 0 rfl 2 1) rfl rfl) ?_
          refine Ops.ygt rfl (v := .pointer (some ⟨_, _, none⟩)) (Y.idxEl EB Tryz.underlying44 Tryz.sizeOf61 rfl rfl c1 rfl) ?_
          refine Ops.ygt rfl (v := .pointer (some ⟨_, _, none⟩)) (Y.fa0 fa_61_0 rfl) ?_
          refine Ops.ygt rfl (v := .bool true) (Y.b (Y.loadv ty_4 rfl (I.rd (EB.rd.part 0 1)) rfl rfl) (c2)) ?_
          refine Ops.ygt rfl (v := .bool _) (Y.move rfl) ?_
          refine Ops.gf rfl ?_
          refine Ops.gf rfl ?_
          refine Ops.gf rfl ?_
          refine Ops.gf rfl ?_
          refine Ops.gf rfl ?_
          refine Ops.gf rfl ?_
          refine Ops.gf rfl ?_
          refine Ops.gf rfl ?_
          refine Ops.gf rfl ?_
          refine Ops.gf rfl ?_
          refine Ops.gf rfl ?_
          refine Ops.gf rfl ?_
          refine Ops.gf rfl ?_
          refine Ops.gf rfl ?_
          refine Ops.ygt rfl (v := .bool _) (Y.pick_t rfl rfl) ?_
          refine Ops.y (v := .bool _) (Y.pick_t rfl rfl) ?_
          refine Ops.y (v := .bool _) (Y.assign rfl) ?_
          refine Ops.nil ?_
          exact ⟨(), ⟨rfl, bT ⟨c1, .inl c2⟩, trivial⟩, I⟩
        · by_cases c3 : (l.xs[(r.body.xs[r.src.toNat]'hs1).atom.pred.toNat]'(by omega)).kind ≠ (predOf l.xs r.head.pred).kind
          · refine WP.region ?_
            refine Ops.y (v := .pointer (some ⟨_, _, none⟩)) (Y.fa fa_46_1 rfl) ?_
            refine Ops.y (v := .int .i64 _) (Y.loadv ty_3 rfl (I.rdbox 0 rfl 2 1) rfl rfl) ?_
            refine Ops.y (v := .bool true) (Y.dec_t (Y.gei rfl rfl) (c1)) ?_
            refine Ops.y (v := .bool _) (Y.move rfl) ?_
            refine Ops.ygt rfl (v := .pointer (some ⟨_, _, none⟩)) (Y.fa fa_46_3 rfl) ?_
            refine Ops.ygt rfl (v := .slice _ _ _) (Y.loadv ty_44 rfl (I.rdbox 0 rfl 4 1) rfl rfl) ?_
            refine Ops.ygt rfl (v := .pointer (some ⟨_, _, none⟩)) (Y.fa fa_46_1 rfl) ?_
            refine Ops.ygt rfl (v := .int .i64 _) (Y.loadv ty_3 rfl (I.rdbox 0 rfl 2 1) rfl rfl) ?_
            refine Ops.ygt rfl (v := .pointer (some ⟨_, _, none⟩)) (Y.idxEl EB Tryz.underlying44 Tryz.sizeOf61 rfl rfl c1 rfl) ?_
            refine Ops.ygt rfl (v := .pointer (some ⟨_, _, none⟩)) (Y.fa0 fa_61_0 rfl) ?_
            refine Ops.ygt rfl (v := .bool false) (Y.b (Y.loadv ty_4 rfl (I.rd (EB.rd.part 0 1)) rfl rfl) ((by simpa using c2))) ?_
            refine Ops.ygt rfl (v := .bool _) (Y.move rfl) ?_
            refine Ops.ygt rfl (v := .slice _ _ _) (Y.move rfl) ?_
            refine Ops.ygt rfl (v := .pointer (some ⟨_, _, none⟩)) (Y.fa fa_46_3 rfl) ?_
            refine Ops.ygt rfl (v := .slice _ _ _) (Y.loadv ty_44 rfl (I.rdbox 0 rfl 4 1) rfl rfl) ?_
            refine Ops.ygt rfl (v := .pointer (some ⟨_, _, none⟩)) (Y.fa fa_46_1 rfl) ?_
            refine Ops.ygt rfl (v := .int .i64 _) (Y.loadv ty_3 rfl (I.rdbox 0 rfl 2 1) rfl rfl) ?_
            refine Ops.ygt rfl (v := .pointer (some ⟨_, _, none⟩)) (Y.idxEl EB Tryz.underlying44 Tryz.sizeOf61 rfl rfl c1 rfl) ?_
            refine Ops.ygt rfl (v := .pointer (some ⟨_, _, none⟩)) (Y.fa fa_61_1 rfl) ?_
            refine Ops.ygt rfl (v := .pointer (some ⟨_, _, none⟩)) (Y.fa0 fa_43_0 rfl) ?_
            refine Ops.ygt rfl (v := .int .i64 _) (Y.loadv ty_3 rfl (I.rd (EB.rd.part 1 1)) rfl rfl) ?_
            refine Ops.ygt rfl (v := .pointer (some ⟨_, _, none⟩)) (Y.idxEl EP Tryz.underlying22 Tryz.sizeOf40 rfl rfl hap.1 rfl) ?_
            refine Ops.ygt rfl (v := .pointer (some ⟨_, _, none⟩)) (Y.fa fa_40_2 rfl) ?_
            refine Ops.ygt rfl (v := .int .i64 _) (Y.loadv ty_3 rfl (I.rd (EP.rd.part 2 1)) rfl rfl) ?_
            refine Ops.ygt rfl (v := .int .i64 _) (Y.move rfl) ?_
            refine Ops.ygt rfl (v := .bool true) (Y.dec_t (Y.nei rfl rfl) (c3)) ?_
            refine Ops.ygt rfl (v := .bool _) (Y.pick_f rfl rfl) ?_
            refine Ops.y (v := .bool _) (Y.pick_t rfl rfl) ?_
            refine Ops.y (v := .bool _) (Y.assign rfl) ?_
            refine Ops.nil ?_
            exact ⟨(), ⟨rfl, bT ⟨c1, .inr c3⟩, trivial⟩, I⟩
          · refine WP.region ?_
            refine Ops.y (v := .pointer (some ⟨_, _, none⟩)) (Y.fa fa_46_1 rfl) ?_
            refine Ops.y (v := .int .i64 _) (Y.loadv ty_3 rfl (I.rdbox 0 rfl 2 1) rfl rfl) ?_
            refine Ops.y (v := .bool true) (Y.dec_t (Y.gei rfl rfl) (c1)) ?_
            refine Ops.y (v := .bool _) (Y.move rfl) ?_
            refine Ops.ygt rfl (v := .pointer (some ⟨_, _, none⟩)) (Y.fa fa_46_3 rfl) ?_
            refine Ops.ygt rfl (v := .slice _ _ _) (Y.loadv ty_44 rfl (I.rdbox 0 rfl 4 1) rfl rfl) ?_
            refine Ops.ygt rfl (v := .pointer (some ⟨_, _, none⟩)) (Y.fa fa_46_1 rfl) ?_
            refine Ops.ygt rfl (v := .int .i64 _) (Y.loadv ty_3 rfl (I.rdbox 0 rfl 2 1) rfl rfl) ?_
            refine Ops.ygt rfl (v := .pointer (some ⟨_, _, none⟩)) (Y.idxEl EB Tryz.underlying44 Tryz.sizeOf61 rfl rfl c1 rfl) ?_
            refine Ops.ygt rfl (v := .pointer (some ⟨_, _, none⟩)) (Y.fa0 fa_61_0 rfl) ?_
            refine Ops.ygt rfl (v := .bool false) (Y.b (Y.loadv ty_4 rfl (I.rd (EB.rd.part 0 1)) rfl rfl) ((by simpa using c2))) ?_
            refine Ops.ygt rfl (v := .bool _) (Y.move rfl) ?_
            refine Ops.ygt rfl (v := .slice _ _ _) (Y.move rfl) ?_
            refine Ops.ygt rfl (v := .pointer (some ⟨_, _, none⟩)) (Y.fa fa_46_3 rfl) ?_
            refine Ops.ygt rfl (v := .slice _ _ _) (Y.loadv ty_44 rfl (I.rdbox 0 rfl 4 1) rfl rfl) ?_
            refine Ops.ygt rfl (v := .pointer (some ⟨_, _, none⟩)) (Y.fa fa_46_1 rfl) ?_
            refine Ops.ygt rfl (v := .int .i64 _) (Y.loadv ty_3 rfl (I.rdbox 0 rfl 2 1) rfl rfl) ?_
            refine Ops.ygt rfl (v := .pointer (some ⟨_, _, none⟩)) (Y.idxEl EB Tryz.underlying44 Tryz.sizeOf61 rfl rfl c1 rfl) ?_
            refine Ops.ygt rfl (v := .pointer (some ⟨_, _, none⟩)) (Y.fa fa_61_1 rfl) ?_
            refine Ops.ygt rfl (v := .pointer (some ⟨_, _, none⟩)) (Y.fa0 fa_43_0 rfl) ?_
            refine Ops.ygt rfl (v := .int .i64 _) (Y.loadv ty_3 rfl (I.rd (EB.rd.part 1 1)) rfl rfl) ?_
            refine Ops.ygt rfl (v := .pointer (some ⟨_, _, none⟩)) (Y.idxEl EP Tryz.underlying22 Tryz.sizeOf40 rfl rfl hap.1 rfl) ?_
            refine Ops.ygt rfl (v := .pointer (some ⟨_, _, none⟩)) (Y.fa fa_40_2 rfl) ?_
            refine Ops.ygt rfl (v := .int .i64 _) (Y.loadv ty_3 rfl (I.rd (EP.rd.part 2 1)) rfl rfl) ?_
            refine Ops.ygt rfl (v := .int .i64 _) (Y.move rfl) ?_
            refine Ops.ygt rfl (v := .bool false) (Y.dec_f (Y.nei rfl rfl) (c3)) ?_
            refine Ops.ygt rfl (v := .bool _) (Y.pick_f rfl rfl) ?_
            refine Ops.y (v := .bool _) (Y.pick_t rfl rfl) ?_
            refine Ops.y (v := .bool _) (Y.assign rfl) ?_
            refine Ops.nil ?_
            exact ⟨(), ⟨rfl, bF (fun h => h.2.elim c2 c3), trivial⟩, I⟩
      · refine WP.region ?_
        refine Ops.y (v := .pointer (some ⟨_, _, none⟩)) (Y.fa fa_46_1 rfl) ?_
        refine Ops.y (v := .int .i64 _) (Y.loadv ty_3 rfl (I.rdbox 0 rfl 2 1) rfl rfl) ?_
        refine Ops.y (v := .bool false) (Y.dec_f (Y.gei rfl rfl) (c1)) ?_
        refine Ops.y (v := .bool _) (Y.move rfl) ?_
        refine Ops.gf rfl ?_
        refine Ops.gf rfl ?_
        refine Ops.gf rfl ?_
        refine Ops.gf rfl ?_
        refine Ops.gf rfl ?_
        refine Ops.gf rfl ?_
        refine Ops.gf rfl ?_
        refine Ops.gf rfl ?_
        refine Ops.gf rfl ?_
        refine Ops.gf rfl ?_
        refine Ops.gf rfl ?_
        refine Ops.gf rfl ?_
        refine Ops.gf rfl ?_
        refine Ops.gf rfl ?_
        refine Ops.gf rfl ?_
        refine Ops.gf rfl ?_
        refine Ops.gf rfl ?_
        refine Ops.gf rfl ?_
        refine Ops.gf rfl ?_
        refine Ops.gf rfl ?_
        refine Ops.gf rfl ?_
        refine Ops.gf rfl ?_
        refine Ops.gf rfl ?_
        refine Ops.y (v := .bool _) (Y.pick_f rfl rfl) ?_
        refine Ops.y (v := .bool _) (Y.assign rfl) ?_
        refine Ops.nil ?_
        exact ⟨(), ⟨rfl, bF (fun h => c1 h.1), trivial⟩, I⟩
    rintro _ e w I
    refine WP.cond_dec rfl (fun d2 => ?_) (fun d2 => ?_)
    · refine WP.seq ?_
      refine WP.region ?_
      refine Ops.y (v := .int .i64 _) (Y.assign rfl) ?_
      refine Ops.nil ?_
      refine WP.ret ?_
      repeat (first | refine thenE_ret ?_ | refine blockE_ret ?_)
      exact retQ.mk (vs := [.int .i64 _]) rfl ⟨rfl, trivial⟩ I.ext_of (by simp only [tup, checkRule]; rw [if_neg (by simp [h1]), if_neg (by omega), if_neg (by simp [hb0]), hfr, if_neg (by simp), if_neg (by omega), if_neg d1, if_pos d2])
    refine WP.seq ?_
    by_cases o0 : r.n < 0
    · refine WP.region ?_
      refine Ops.y (v := .pointer (some ⟨_, _, none⟩)) (Y.fa fa_46_2 rfl) ?_
      refine Ops.y (v := .int .i64 _) (Y.loadv ty_3 rfl (I.rdbox 0 rfl 3 1) rfl rfl) ?_
      refine Ops.y (v := .bool true) (Y.dec_t (Y.lti rfl rfl) (o0)) ?_
      refine Ops.y (v := .bool _) (Y.move rfl) ?_
      refine Ops.gf rfl ?_
      refine Ops.gf rfl ?_
      refine Ops.gf rfl ?_
      refine Ops.y (v := .bool _) (Y.pick_t rfl rfl) ?_
      refine Ops.y (v := .bool _) (Y.assign rfl) ?_
      refine Ops.nil ?_
      refine WP.cond_t rfl ?_
      refine WP.seq ?_
      refine WP.region ?_
      refine Ops.y (v := .int .i64 _) (Y.assign rfl) ?_
      refine Ops.nil ?_
      refine WP.ret ?_
      repeat (first | refine thenE_ret ?_ | refine blockE_ret ?_)
      exact retQ.mk (vs := [.int .i64 _]) rfl ⟨rfl, trivial⟩ I.ext_of (by simp only [tup, checkRule]; rw [if_neg (by simp [h1]), if_neg (by omega), if_neg (by simp [hb0]), hfr, if_neg (by simp), if_neg (by omega), if_neg d1, if_neg d2, if_pos (by omega)])
    by_cases o1 : 15 < r.n
    · refine WP.region ?_
      refine Ops.y (v := .pointer (some ⟨_, _, none⟩)) (Y.fa fa_46_2 rfl) ?_
      refine Ops.y (v := .int .i64 _) (Y.loadv ty_3 rfl (I.rdbox 0 rfl 3 1) rfl rfl) ?_
      refine Ops.y (v := .bool false) (Y.dec_f (Y.lti rfl rfl) (o0)) ?_
      refine Ops.y (v := .bool _) (Y.move rfl) ?_
      refine Ops.ygt rfl (v := .pointer (some ⟨_, _, none⟩)) (Y.fa fa_46_2 rfl) ?_
      refine Ops.ygt rfl (v := .int .i64 _) (Y.loadv ty_3 rfl (I.rdbox 0 rfl 3 1) rfl rfl) ?_
      refine Ops.ygt rfl (v := .bool true) (Y.dec_t (Y.gti rfl rfl) (o1)) ?_
      refine Ops.y (v := .bool _) (Y.pick_f rfl rfl) ?_
      refine Ops.y (v := .bool _) (Y.assign rfl) ?_
      refine Ops.nil ?_
      refine WP.cond_t rfl ?_
      refine WP.seq ?_
      refine WP.region ?_
      refine Ops.y (v := .int .i64 _) (Y.assign rfl) ?_
      refine Ops.nil ?_
      refine WP.ret ?_
      repeat (first | refine thenE_ret ?_ | refine blockE_ret ?_)
      exact retQ.mk (vs := [.int .i64 _]) rfl ⟨rfl, trivial⟩ I.ext_of (by simp only [tup, checkRule]; rw [if_neg (by simp [h1]), if_neg (by omega), if_neg (by simp [hb0]), hfr, if_neg (by simp), if_neg (by omega), if_neg d1, if_neg d2, if_pos (by omega)])
    refine WP.region ?_
    refine Ops.y (v := .pointer (some ⟨_, _, none⟩)) (Y.fa fa_46_2 rfl) ?_
    refine Ops.y (v := .int .i64 _) (Y.loadv ty_3 rfl (I.rdbox 0 rfl 3 1) rfl rfl) ?_
    refine Ops.y (v := .bool false) (Y.dec_f (Y.lti rfl rfl) (o0)) ?_
    refine Ops.y (v := .bool _) (Y.move rfl) ?_
    refine Ops.ygt rfl (v := .pointer (some ⟨_, _, none⟩)) (Y.fa fa_46_2 rfl) ?_
    refine Ops.ygt rfl (v := .int .i64 _) (Y.loadv ty_3 rfl (I.rdbox 0 rfl 3 1) rfl rfl) ?_
    refine Ops.ygt rfl (v := .bool false) (Y.dec_f (Y.gti rfl rfl) (o1)) ?_
    refine Ops.y (v := .bool _) (Y.pick_f rfl rfl) ?_
    refine Ops.y (v := .bool _) (Y.assign rfl) ?_
    refine Ops.nil ?_
    refine WP.cond_f rfl ?_
    refine WP.skip ?_
    refine WP.seq ?_
    refine WP.region ?_
    refine Ops.y (v := .int .i64 _) (Y.assign rfl) ?_
    refine Ops.nil ?_
    refine WP.ret ?_
    repeat (first | refine thenE_ret ?_ | refine blockE_ret ?_)
    exact retQ.mk (vs := [.int .i64 _]) rfl ⟨rfl, trivial⟩ I.ext_of (by simp only [tup, checkRule]; rw [if_neg (by simp [h1]), if_neg (by omega), if_neg (by simp [hb0]), hfr, if_neg (by simp), if_neg (by omega), if_neg d1, if_neg d2, if_neg (by omega)])
  · intro q w hq hnd I
    refine Ops.y (v := .bool _) (Y.extract rfl rfl) ?_
    refine Ops.nil ?_
    refine WP.seq ?_
    refine WP.cond_t rfl ?_
    obtain ⟨v, x, hvx, hkq, hvq⟩ := ents_of hi7 hq
    refine WP.skip ?_
    refine WP.block ?_
    refine WP.seq ?_
    refine WP.region ?_
    refine Ops.y (v := .tuple #[.int .i64 v, .int .i64 x]) (hkq ▸ hvq ▸ Y.entry I 0 rfl rfl hm7 hi7 hq) ?_
    refine Ops.y (v := .int .i64 _) (Y.extract rfl rfl) ?_
    refine Ops.y (v := .int .i64 _) (Y.assign rfl) ?_
    refine Ops.nil ?_
    refine WP.seq ?_
    refine WP.region ?_
    refine Ops.y (v := .map _) (Y.move rfl) ?_
    refine Ops.y (v := .int .i64 _) (Y.move rfl) ?_
    refine Ops.y (v := .int .i64 _) (Y.lookup I Tryz.underlying133 Tryz.underlying3 Tryz.zeroValue3 1 rfl rfl rfl) ?_
    refine Ops.y (v := .bool (decide _)) (Y.eqi rfl rfl) ?_
    refine Ops.nil ?_
    refine WP.cond_dec rfl (fun hz => ?_) (fun hz => ?_)
    · refine WP.seq ?_
      refine WP.region ?_
      refine Ops.y (v := .int .i64 _) (Y.assign rfl) ?_
      refine Ops.nil ?_
      have hz' : cntA (poss r.body.xs) v = 0 := by rw [hc.get v] at hz; omega
      have hnz : cntA (negs r.body.xs ++ [r.head]) v ≠ 0 := fun h0 => mem_ilook hvx (by rw [hcn v, if_pos h0])
      refine WP.ret ?_
      repeat (first | refine thenE_ret ?_ | refine blockE_ret ?_)
      exact retQ.mk (vs := [.int .i64 _]) rfl ⟨rfl, trivial⟩ I.ext_of (by simp only [tup, checkRule]; rw [if_neg (by simp [h1]), if_neg (by omega), if_neg (by simp [hb0]), if_pos (free_any (freeVar_iff.2 ⟨hnz, hz'⟩) h1 hb0)])
    refine WP.skip ?_
    refine ⟨done ++ [q.born], ⟨⟨rfl, rfl, rfl, rfl, trivial⟩, I, fun q' hq' hb' v' hv' => ?_⟩, filter_shorter hq (by simp) (by simpa using hnd) (fun y _ hy => by simp at hy ⊢; exact hy.1)⟩
    rcases List.mem_append.1 hb' with h8 | h8
    · exact hd q' hq' h8 v' hv'
    · have : q' = q := nodup_inj hi7.nodup hq' hq (List.mem_singleton.1 h8)
      subst this
      rw [hkq] at hv'
      cases hv'
      rw [hc.get v] at hz
      omega
end Go.TF
end
section
/- The contract of the reference's CheckRule. -/
namespace Go.TF
open Go Go.RowKit Go.Proofs
set_option maxRecDepth 10000

set_option maxHeartbeats 1000000 in
theorem CheckRule_ok (B : Base) (hB : B.ok) (l : Sl Prd) (hl : Prds l B.h) (r : Rul) (hr : r.In B.h) : Fn Tryz.prog 40 [l.val, r.val] B (fun v _ => v = .int .i64 (checkRule l.xs r)) := by
  have hsm := hl.small
  have hsb := hr.body.is.small
  refine Fn.of Tryz.func40 rfl Tryz.ntmps40 (by kernel_rfl) (by simp) ?_
  intro e
  have I := Inv.start hB
  refine WP.seq ?_
  refine WP.region ?_
  refine Ops.go (O.box (v := .agg #[_, _, _, _, _]) I rfl rfl ?_)
  intro b3 w I
  refine Ops.y (v := .int .i64 _) (Y.assign rfl) ?_
  refine Ops.nil ?_
  refine WP.seq ?_
  refine WP.seq ?_
  refine WP.region ?_
  refine Ops.y (v := .slice _ _ _) (Y.move rfl) ?_
  refine Ops.y (v := .pointer (some ⟨_, _, none⟩)) (Y.fa0 fa_46_0 rfl) ?_
  refine Ops.y (v := .agg #[_, _]) (Y.loadv ty_43 rfl (I.rdbox 0 rfl 0 2) rfl rfl) ?_
  refine Ops.go (O.callv I Tryz.call73 (CheckAtom_ok _ I.base_ok l hl r.head hr.head) rfl ?_)
  intro w I
  refine Ops.y (v := .int .i64 _) (Y.assign rfl) ?_
  refine Ops.nil ?_
  refine WP.seq ?_
  refine WP.region ?_
  refine Ops.y (v := .int .i64 _) (Y.move rfl) ?_
  refine Ops.y (v := .bool (decide _)) (Y.nei rfl rfl) ?_
  refine Ops.nil ?_
  refine WP.cond_dec rfl (fun h1 => ?_) (fun h1 => ?_)
  · refine WP.seq ?_
    refine WP.region ?_
    refine Ops.y (v := .int .i64 _) (Y.move rfl) ?_
    refine Ops.y (v := .int .i64 _) (Y.assign rfl) ?_
    refine Ops.nil ?_
    refine WP.ret ?_
    repeat (first | refine thenE_ret ?_ | refine blockE_ret ?_)
    exact retQ.mk (vs := [.int .i64 _]) rfl ⟨rfl, trivial⟩ I.ext_of (by simp only [tup, checkRule]; rw [if_pos h1])
  have h1 := Decidable.not_not.1 h1
  have hh := checkAtom_in h1
  refine WP.skip ?_
  refine WP.seq ?_
  refine WP.seq ?_
  refine WP.region ?_
  refine Ops.y (v := .pointer (some ⟨_, _, none⟩)) (Y.fa fa_46_3 rfl) ?_
  refine Ops.y (v := .slice _ _ _) (Y.loadv ty_44 rfl (I.rdbox 0 rfl 4 1) rfl rfl) ?_
  refine Ops.y (v := .int .i64 _) (Y.lens Tryz.underlying44 rfl) ?_
  refine Ops.y (v := .bool (decide _)) (Y.gti rfl rfl) ?_
  refine Ops.nil ?_
  refine WP.cond_dec rfl (fun h2 => ?_) (fun h2 => ?_)
  · refine WP.seq ?_
    refine WP.region ?_
    refine Ops.y (v := .int .i64 _) (Y.assign rfl) ?_
    refine Ops.nil ?_
    refine WP.ret ?_
    repeat (first | refine thenE_ret ?_ | refine blockE_ret ?_)
    exact retQ.mk (vs := [.int .i64 _]) rfl ⟨rfl, trivial⟩ I.ext_of (by simp only [tup, checkRule]; rw [if_neg (by simp [h1]), if_pos (by omega)])
  refine WP.skip ?_
  refine WP.seq ?_
  refine WP.seq ?_
  refine WP.region ?_
  refine Ops.y (v := .int .i64 _) (Y.assign rfl) ?_
  refine Ops.nil ?_
  refine WP.block ?_
  refine WP.loopE (σ := Nat) (fun k => [(0, l.val), (3, .pointer (some ⟨b3, 0, none⟩)), (6, .int .i64 k)]) (fun k w => Inv B B.h [box b3 r.enc 46] w ∧ k ≤ r.body.xs.length ∧ ∀ j, j < k → ∀ hj' : j < r.body.xs.length, checkAtom l.xs r.body.xs[j].atom = 0) (fun k => r.body.xs.length - k)
    ⟨0, ⟨rfl, rfl, rfl, trivial⟩, I, Nat.zero_le _, fun j hj => (by omega)⟩ ?_
  rintro k e w ⟨I, hk, hn⟩
  refine WP.seq ?_
  refine WP.seq ?_
  refine WP.region ?_
  refine Ops.y (v := .int .i64 _) (Y.move rfl) ?_
  refine Ops.y (v := .pointer (some ⟨_, _, none⟩)) (Y.fa fa_46_3 rfl) ?_
  refine Ops.y (v := .slice _ _ _) (Y.loadv ty_44 rfl (I.rdbox 0 rfl 4 1) rfl rfl) ?_
  refine Ops.y (v := .int .i64 _) (Y.lens Tryz.underlying44 rfl) ?_
  refine Ops.y (v := .bool (decide _)) (Y.lti rfl rfl) ?_
  refine Ops.nil ?_
  refine WP.cond_dec rfl (fun h3 => ?_) (fun h3 => ?_)
  · have hk' : k < r.body.xs.length := by omega
    have E1 := hr.body.is.at hk'
    refine WP.skip ?_
    refine WP.seq ?_
    refine WP.block ?_
    refine WP.seq ?_
    refine WP.region ?_
    refine Ops.y (v := .slice _ _ _) (Y.move rfl) ?_
    refine Ops.y (v := .pointer (some ⟨_, _, none⟩)) (Y.fa fa_46_3 rfl) ?_
    refine Ops.y (v := .slice _ _ _) (Y.loadv ty_44 rfl (I.rdbox 0 rfl 4 1) rfl rfl) ?_
    refine Ops.y (v := .int .i64 _) (Y.move rfl) ?_
    refine Ops.y (v := .pointer (some ⟨_, _, none⟩)) (Y.idxEl E1 Tryz.underlying44 Tryz.sizeOf61 rfl rfl (Int.natCast_nonneg _) rfl) ?_
    refine Ops.y (v := .pointer (some ⟨_, _, none⟩)) (Y.fa fa_61_1 rfl) ?_
    refine Ops.y (v := .agg #[_, _]) (Y.loadv ty_43 rfl (I.rd (E1.rd.part 1 2)) rfl rfl) ?_
    refine Ops.go (O.callv I Tryz.call73 (CheckAtom_ok _ I.base_ok l hl r.body.xs[k].atom (hr.body.each _ (List.getElem_mem hk'))) rfl ?_)
    intro w I
    refine Ops.y (v := .int .i64 _) (Y.assign rfl) ?_
    refine Ops.nil ?_
    refine WP.seq ?_
    refine WP.region ?_
    refine Ops.y (v := .int .i64 _) (Y.move rfl) ?_
    refine Ops.y (v := .bool (decide _)) (Y.nei rfl rfl) ?_
    refine Ops.nil ?_
    refine WP.cond_dec rfl (fun h4 => ?_) (fun h4 => ?_)
    · refine WP.seq ?_
      refine WP.region ?_
      refine Ops.y (v := .int .i64 _) (Y.move rfl) ?_
      refine Ops.y (v := .int .i64 _) (Y.assign rfl) ?_
      refine Ops.nil ?_
      refine WP.ret ?_
      repeat (first | refine thenE_ret ?_ | refine blockE_ret ?_)
      exact retQ.mk (vs := [.int .i64 _]) rfl ⟨rfl, trivial⟩ I.ext_of (by simp only [tup, checkRule]; rw [if_neg (by simp [h1]), if_neg (by omega), if_pos (by rw [bodyErr_at hk' hn h4]; exact h4), bodyErr_at hk' hn h4])
    refine WP.skip ?_
    refine WP.region ?_
    refine Ops.y (v := .int .i64 _) (Y.move rfl) ?_
    refine Ops.y (v := .int .i64 _) (Y.addi rfl rfl ⟨by omega, by omega⟩) ?_
    refine Ops.y (v := .int .i64 _) (Y.assign rfl) ?_
    refine Ops.nil ?_
    exact ⟨k + 1, ⟨⟨rfl, rfl, rfl, trivial⟩, I, by omega, fun j hj hj' => by
      rcases Nat.lt_succ_iff_lt_or_eq.1 hj with h' | h'
      · exact hn j h' hj'
      · subst h'; exact Decidable.not_not.1 h4⟩, by omega⟩
  have hb0 : bodyErr l.xs r.body.xs = 0 := bodyErr_ne.2 fun x hx => by obtain ⟨j, hj, rfl⟩ := List.getElem_of_mem hx; exact hn j (by omega) hj
  clear hn hk h3
  refine WP.exit ?_
  refine WP.seq ?_
  refine WP.seq ?_
  refine WP.region ?_
  refine Ops.y (v := .int .i64 _) (Y.assign rfl) ?_
  refine Ops.nil ?_
  refine WP.block ?_
  refine WP.loopE (σ := Nat) (fun k => [(0, l.val), (3, .pointer (some ⟨b3, 0, none⟩)), (8, .int .i64 k)]) (fun k w => Inv B B.h [box b3 r.enc 46] w ∧ k ≤ 3 ∧ ∀ j : Nat, j < k → freeVar r j = false) (fun k => 3 - k)
    ⟨0, ⟨rfl, rfl, rfl, trivial⟩, I, Nat.zero_le _, fun j hj => (by omega)⟩ ?_
  rintro k e w ⟨I, hk, hn⟩
  refine WP.seq ?_
  refine WP.seq ?_
  refine WP.region ?_
  refine Ops.y (v := .int .i64 _) (Y.move rfl) ?_
  refine Ops.y (v := .bool (decide _)) (Y.lti rfl rfl) ?_
  refine Ops.nil ?_
  refine WP.cond_dec rfl (fun h3 => ?_) (fun h3 => ?_)
  · refine WP.skip ?_
    refine WP.seq ?_
    refine WP.block ?_
    refine WP.seq ?_
    refine WP.region ?_
    refine Ops.y (v := .pointer (some ⟨_, _, none⟩)) (Y.fa0 fa_46_0 rfl) ?_
    refine Ops.y (v := .agg #[_, _]) (Y.loadv ty_43 rfl (I.rdbox 0 rfl 0 2) rfl rfl) ?_
    refine Ops.y (v := .int .i64 _) (Y.move rfl) ?_
    refine Ops.go (O.callv I Tryz.call74 (standsR_ok _ I.base_ok r.head hr.head k) rfl ?_)
    intro w I
    refine Ops.y (v := .bool _) (Y.assign rfl) ?_
    refine Ops.nil ?_
    refine WP.seq ?_
    refine WP.seq ?_
    refine WP.region ?_
    refine Ops.y (v := .int .i64 _) (Y.assign rfl) ?_
    refine Ops.nil ?_
    refine WP.block ?_
    refine WP.loopE (σ := Nat) (fun j => [(0, l.val), (3, .pointer (some ⟨b3, 0, none⟩)), (8, .int .i64 k), (9, .bool (standsIn r.head k || (r.body.xs.take j).any fun x => standsIn x.atom k)), (10, .int .i64 j)]) (fun j w => Inv B B.h [box b3 r.enc 46] w ∧ j ≤ r.body.xs.length) (fun j => r.body.xs.length - j)
      ⟨0, ⟨rfl, rfl, rfl, by simp; rfl, rfl, trivial⟩, I, Nat.zero_le _⟩ ?_
    rintro j e w ⟨I, hj⟩
    refine WP.seq ?_
    refine WP.seq ?_
    refine WP.region ?_
    refine Ops.y (v := .int .i64 _) (Y.move rfl) ?_
    refine Ops.y (v := .pointer (some ⟨_, _, none⟩)) (Y.fa fa_46_3 rfl) ?_
    refine Ops.y (v := .slice _ _ _) (Y.loadv ty_44 rfl (I.rdbox 0 rfl 4 1) rfl rfl) ?_
    refine Ops.y (v := .int .i64 _) (Y.lens Tryz.underlying44 rfl) ?_
    refine Ops.y (v := .bool (decide _)) (Y.lti rfl rfl) ?_
    refine Ops.nil ?_
    refine WP.cond_dec rfl (fun h4 => ?_) (fun h4 => ?_)
    · have hj' : j < r.body.xs.length := by omega
      have E1 := hr.body.is.at hj'
      refine WP.skip ?_
      refine WP.seq ?_
      refine WP.block ?_
      refine WP.cutL (σ := Unit) (fun _ => [(0, l.val), (3, .pointer (some ⟨b3, 0, none⟩)), (8, .int .i64 k), (9, .bool (standsIn r.head k || (r.body.xs.take (j + 1)).any fun x => standsIn x.atom k)), (10, .int .i64 j)]) (fun _ w => Inv B B.h [box b3 r.enc 46] w) ?_ ?_
      · rw [List.take_succ_eq_append_getElem hj', List.any_append, List.any_cons, List.any_nil, Bool.or_false, ← Bool.or_assoc]
        cases hs : (standsIn r.head k || (r.body.xs.take j).any fun x => standsIn x.atom k)
        · refine WP.region ?_
          refine Ops.y (v := .bool false) (Y.b (Y.move rfl) (rfl)) ?_
          refine Ops.y (v := .bool false) (Y.b (Y.move rfl) (rfl)) ?_
          refine Ops.ygt rfl (v := .pointer (some ⟨_, _, none⟩)) (Y.fa fa_46_3 rfl) ?_
          refine Ops.ygt rfl (v := .slice _ _ _) (Y.loadv ty_44 rfl (I.rdbox 0 rfl 4 1) rfl rfl) ?_
          refine Ops.ygt rfl (v := .int .i64 _) (Y.move rfl) ?_
          refine Ops.ygt rfl (v := .pointer (some ⟨_, _, none⟩)) (Y.idxEl E1 Tryz.underlying44 Tryz.sizeOf61 rfl rfl (Int.natCast_nonneg _) rfl) ?_
          refine Ops.ygt rfl (v := .pointer (some ⟨_, _, none⟩)) (Y.fa fa_61_1 rfl) ?_
          refine Ops.ygt rfl (v := .agg #[_, _]) (Y.loadv ty_43 rfl (I.rd (E1.rd.part 1 2)) rfl rfl) ?_
          refine Ops.ygt rfl (v := .int .i64 _) (Y.move rfl) ?_
          refine Ops.gt rfl (O.callv I Tryz.call74 (standsR_ok _ I.base_ok r.body.xs[j].atom (hr.body.each _ (List.getElem_mem hj')) k) rfl ?_)
          intro w I
          refine Ops.y (v := .bool _) (Y.pick_f rfl rfl) ?_
          refine Ops.y (v := .bool _) (Y.assign rfl) ?_
          refine Ops.nil ?_
          exact ⟨(), ⟨rfl, rfl, rfl, by rw [Bool.false_or]; rfl, rfl, trivial⟩, I⟩
        · refine WP.region ?_
          refine Ops.y (v := .bool true) (Y.b (Y.move rfl) (rfl)) ?_
          refine Ops.y (v := .bool true) (Y.b (Y.move rfl) (rfl)) ?_
          refine Ops.gf rfl ?_
          refine Ops.gf rfl ?_
          refine Ops.gf rfl ?_
          refine Ops.gf rfl ?_
          refine Ops.gf rfl ?_
          refine Ops.gf rfl ?_
          refine Ops.gf rfl ?_
          refine Ops.gf rfl ?_
          refine Ops.y (v := .bool _) (Y.pick_t rfl rfl) ?_
          refine Ops.y (v := .bool _) (Y.assign rfl) ?_
          refine Ops.nil ?_
          exact ⟨(), ⟨rfl, rfl, rfl, by rw [Bool.true_or]; rfl, rfl, trivial⟩, I⟩
      rintro _ e w I
      refine WP.region ?_
      refine Ops.y (v := .int .i64 _) (Y.move rfl) ?_
      refine Ops.y (v := .int .i64 _) (Y.addi rfl rfl ⟨by omega, by omega⟩) ?_
      refine Ops.y (v := .int .i64 _) (Y.assign rfl) ?_
      refine Ops.nil ?_
      exact ⟨j + 1, ⟨⟨rfl, rfl, rfl, rfl, rfl, trivial⟩, I, by omega⟩, by omega⟩
    have hj0 : j = r.body.xs.length := by omega
    have hfv : freeVar r k = ((standsIn r.head k || (r.body.xs.take j).any fun x => standsIn x.atom k) && !boundIn r k) := by rw [hj0, List.take_length]; rfl
    refine WP.exit ?_
    refine WP.seq ?_
    refine WP.cutL (σ := Unit) (fun _ => [(0, l.val), (3, .pointer (some ⟨b3, 0, none⟩)), (8, .int .i64 k), (73, .bool (freeVar r k))]) (fun _ w => Inv B B.h [box b3 r.enc 46] w) ?_ ?_
    · rw [hfv]
      cases hs : (standsIn r.head k || (r.body.xs.take j).any fun x => standsIn x.atom k)
      · refine WP.region ?_
        refine Ops.y (v := .bool false) (Y.b (Y.move rfl) (rfl)) ?_
        refine Ops.y (v := .bool false) (Y.b (Y.move rfl) (rfl)) ?_
        refine Ops.gf rfl ?_
        refine Ops.gf rfl ?_
        refine Ops.gf rfl ?_
        refine Ops.gf rfl ?_
        refine Ops.y (v := .bool _) (Y.pick_f rfl rfl) ?_
        refine Ops.nil ?_
        exact ⟨(), ⟨rfl, rfl, rfl, by rw [Bool.false_and]; rfl, trivial⟩, I⟩
      · refine WP.region ?_
        refine Ops.y (v := .bool true) (Y.b (Y.move rfl) (rfl)) ?_
        refine Ops.y (v := .bool true) (Y.b (Y.move rfl) (rfl)) ?_
        refine Ops.ygt rfl (v := .agg #[_, _, _, _, _]) (Y.loadv ty_46 rfl (I.rdbox 0 rfl 0 5) rfl rfl) ?_
        refine Ops.ygt rfl (v := .int .i64 _) (Y.move rfl) ?_
        refine Ops.gt rfl (O.callv I Tryz.call75 (boundR_ok _ I.base_ok r hr.body k) rfl ?_)
        intro w I
        refine Ops.ygt rfl (v := .bool _) (Y.not rfl) ?_
        refine Ops.y (v := .bool _) (Y.pick_t rfl rfl) ?_
        refine Ops.nil ?_
        exact ⟨(), ⟨rfl, rfl, rfl, by rw [Bool.true_and]; rfl, trivial⟩, I⟩
    rintro _ e w I
    refine WP.cond rfl (fun hf => ?_) (fun hf => ?_)
    · refine WP.seq ?_
      refine WP.region ?_
      refine Ops.y (v := .int .i64 _) (Y.assign rfl) ?_
      refine Ops.nil ?_
      refine WP.ret ?_
      repeat (first | refine thenE_ret ?_ | refine blockE_ret ?_)
      exact retQ.mk (vs := [.int .i64 _]) rfl ⟨rfl, trivial⟩ I.ext_of (by simp only [tup, checkRule]; rw [if_neg (by simp [h1]), if_neg (by omega), if_neg (by simp [hb0]), if_pos (free_any hf h1 hb0)])
    refine WP.skip ?_
    refine WP.region ?_
    refine Ops.y (v := .int .i64 _) (Y.move rfl) ?_
    refine Ops.y (v := .int .i64 _) (Y.addi rfl rfl ⟨by omega, by omega⟩) ?_
    refine Ops.y (v := .int .i64 _) (Y.assign rfl) ?_
    refine Ops.nil ?_
    exact ⟨k + 1, ⟨⟨rfl, rfl, rfl, trivial⟩, I, by omega, fun q hq => by
      rcases Nat.lt_succ_iff_lt_or_eq.1 hq with h' | h'
      · exact hn q h'
      · subst h'; exact hf⟩, by omega⟩
  have hfr : (freeVar r 0 || freeVar r 1 || freeVar r 2) = false := by
    have g0 := hn 0 (by omega); have g1 := hn 1 (by omega); have g2 := hn 2 (by omega)
    simp only [Bool.or_eq_false_iff]; exact ⟨⟨g0, g1⟩, g2⟩
  clear hn
  refine WP.exit ?_
  refine WP.seq ?_
  refine WP.seq ?_
  refine WP.region ?_
  refine Ops.y (v := .pointer (some ⟨_, _, none⟩)) (Y.fa fa_46_1 rfl) ?_
  refine Ops.y (v := .int .i64 _) (Y.loadv ty_3 rfl (I.rdbox 0 rfl 2 1) rfl rfl) ?_
  refine Ops.y (v := .pointer (some ⟨_, _, none⟩)) (Y.fa fa_46_3 rfl) ?_
  refine Ops.y (v := .slice _ _ _) (Y.loadv ty_44 rfl (I.rdbox 0 rfl 4 1) rfl rfl) ?_
  refine Ops.y (v := .int .i64 _) (Y.lens Tryz.underlying44 rfl) ?_
  refine Ops.y (v := .int .i64 _) (Y.subi rfl rfl ⟨by omega, by omega⟩) ?_
  refine Ops.go (O.callv I Tryz.call37 (within_ok _ I.base_ok _ _ _) rfl ?_)
  intro w I
  refine Ops.y (v := .bool (decide _)) (Y.notd rfl) ?_
  refine Ops.nil ?_
  refine WP.cond_dec rfl (fun h5 => ?_) (fun h5 => ?_)
  · refine WP.seq ?_
    refine WP.region ?_
    refine Ops.y (v := .int .i64 _) (Y.assign rfl) ?_
    refine Ops.nil ?_
    refine WP.ret ?_
    repeat (first | refine thenE_ret ?_ | refine blockE_ret ?_)
    exact retQ.mk (vs := [.int .i64 _]) rfl ⟨rfl, trivial⟩ I.ext_of (by simp only [tup, checkRule, within] at *; rw [if_neg (by simp [h1]), if_neg (by omega), if_neg (by simp [hb0]), hfr, if_neg (by simp), if_pos (by omega)])
  have h5' : ¬ (r.src < -1 ∨ (r.body.xs.length : Int) ≤ r.src) := by simp only [within, Decidable.not_not] at h5; omega
  have EH := hl.at (i := r.head.pred.toNat) (by omega)
  have eH := predOf_getE hh.1 hh.2
  refine WP.skip ?_
  refine WP.seq ?_
  refine WP.region ?_
  refine Ops.y (v := .slice _ _ _) (Y.move rfl) ?_
  refine Ops.y (v := .pointer (some ⟨_, _, none⟩)) (Y.fa0 fa_46_0 rfl) ?_
  refine Ops.y (v := .pointer (some ⟨_, _, none⟩)) (Y.fa0 fa_43_0 rfl) ?_
  refine Ops.y (v := .int .i64 _) (Y.loadv ty_3 rfl (I.rdbox 0 rfl 0 1) rfl rfl) ?_
  refine Ops.y (v := .pointer (some ⟨_, _, none⟩)) (Y.idxEl EH Tryz.underlying22 Tryz.sizeOf40 rfl rfl hh.1 rfl) ?_
  refine Ops.y (v := .pointer (some ⟨_, _, none⟩)) (Y.fa fa_40_2 rfl) ?_
  refine Ops.y (v := .int .i64 _) (Y.loadv ty_3 rfl (I.rd (EH.rd.part 2 1)) rfl rfl) ?_
  refine Ops.y (v := .int .i64 _) (Y.assign rfl) ?_
  refine Ops.nil ?_
  refine WP.seq ?_
  refine WP.seq ?_
  refine WP.cutL (σ := Unit) (fun _ => [(0, l.val), (3, .pointer (some ⟨b3, 0, none⟩)), (11, .int .i64 (predOf l.xs r.head.pred).kind), (100, .bool (decide ((predOf l.xs r.head.pred).kind = 0 ∧ (r.src ≠ -1 ∨ r.n ≠ 0))))]) (fun _ w => Inv B B.h [box b3 r.enc 46] w) ?_ ?_
  · rw [eH]
    by_cases c1 : (l.xs[r.head.pred.toNat]'(by omega)).kind = 0
    · by_cases c2 : r.src ≠ -1
      · refine WP.region ?_
        refine Ops.y (v := .int .i64 _) (Y.move rfl) ?_
        refine Ops.y (v := .bool true) (Y.dec_t (Y.eqi rfl rfl) (c1)) ?_
        refine Ops.y (v := .bool _) (Y.move rfl) ?_
        refine Ops.ygt rfl (v := .pointer (some ⟨_, _, none⟩)) (Y.fa fa_46_1 rfl) ?_
        refine Ops.ygt rfl (v := .int .i64 _) (Y.loadv ty_3 rfl (I.rdbox 0 rfl 2 1) rfl rfl) ?_
        refine Ops.ygt rfl (v := .bool true) (Y.dec_t (Y.nei rfl rfl) (c2)) ?_
        refine Ops.ygt rfl (v := .bool _) (Y.move rfl) ?_
        refine Ops.gf rfl ?_
        refine Ops.gf rfl ?_
        refine Ops.gf rfl ?_
        refine Ops.ygt rfl (v := .bool _) (Y.pick_t rfl rfl) ?_
        refine Ops.y (v := .bool _) (Y.pick_t rfl rfl) ?_
        refine Ops.nil ?_
        exact ⟨(), ⟨rfl, rfl, rfl, bT ⟨c1, .inl c2⟩, trivial⟩, I⟩
      · by_cases c3 : r.n ≠ 0
        · refine WP.region ?_
          refine Ops.y (v := .int .i64 _) (Y.move rfl) ?_
          refine Ops.y (v := .bool true) (Y.dec_t (Y.eqi rfl rfl) (c1)) ?_
          refine Ops.y (v := .bool _) (Y.move rfl) ?_
          refine Ops.ygt rfl (v := .pointer (some ⟨_, _, none⟩)) (Y.fa fa_46_1 rfl) ?_
          refine Ops.ygt rfl (v := .int .i64 _) (Y.loadv ty_3 rfl (I.rdbox 0 rfl 2 1) rfl rfl) ?_
          refine Ops.ygt rfl (v := .bool false) (Y.dec_f (Y.nei rfl rfl) (c2)) ?_
          refine Ops.ygt rfl (v := .bool _) (Y.move rfl) ?_
          refine Ops.ygt rfl (v := .pointer (some ⟨_, _, none⟩)) (Y.fa fa_46_2 rfl) ?_
          refine Ops.ygt rfl (v := .int .i64 _) (Y.loadv ty_3 rfl (I.rdbox 0 rfl 3 1) rfl rfl) ?_
          refine Ops.ygt rfl (v := .bool true) (Y.dec_t (Y.nei rfl rfl) (c3)) ?_
          refine Ops.ygt rfl (v := .bool _) (Y.pick_f rfl rfl) ?_
          refine Ops.y (v := .bool _) (Y.pick_t rfl rfl) ?_
          refine Ops.nil ?_
          exact ⟨(), ⟨rfl, rfl, rfl, bT ⟨c1, .inr c3⟩, trivial⟩, I⟩
        · refine WP.region ?_
          refine Ops.y (v := .int .i64 _) (Y.move rfl) ?_
          refine Ops.y (v := .bool true) (Y.dec_t (Y.eqi rfl rfl) (c1)) ?_
          refine Ops.y (v := .bool _) (Y.move rfl) ?_
          refine Ops.ygt rfl (v := .pointer (some ⟨_, _, none⟩)) (Y.fa fa_46_1 rfl) ?_
          refine Ops.ygt rfl (v := .int .i64 _) (Y.loadv ty_3 rfl (I.rdbox 0 rfl 2 1) rfl rfl) ?_
          refine Ops.ygt rfl (v := .bool false) (Y.dec_f (Y.nei rfl rfl) (c2)) ?_
          refine Ops.ygt rfl (v := .bool _) (Y.move rfl) ?_
          refine Ops.ygt rfl (v := .pointer (some ⟨_, _, none⟩)) (Y.fa fa_46_2 rfl) ?_
          refine Ops.ygt rfl (v := .int .i64 _) (Y.loadv ty_3 rfl (I.rdbox 0 rfl 3 1) rfl rfl) ?_
          refine Ops.ygt rfl (v := .bool false) (Y.dec_f (Y.nei rfl rfl) (c3)) ?_
          refine Ops.ygt rfl (v := .bool _) (Y.pick_f rfl rfl) ?_
          refine Ops.y (v := .bool _) (Y.pick_t rfl rfl) ?_
          refine Ops.nil ?_
          exact ⟨(), ⟨rfl, rfl, rfl, bF (fun h => h.2.elim c2 c3), trivial⟩, I⟩
    · refine WP.region ?_
      refine Ops.y (v := .int .i64 _) (Y.move rfl) ?_
      refine Ops.y (v := .bool false) (Y.dec_f (Y.eqi rfl rfl) (c1)) ?_
      refine Ops.y (v := .bool _) (Y.move rfl) ?_
      refine Ops.gf rfl ?_
      refine Ops.gf rfl ?_
      refine Ops.gf rfl ?_
      refine Ops.gf rfl ?_
      refine Ops.gf rfl ?_
      refine Ops.gf rfl ?_
      refine Ops.gf rfl ?_
      refine Ops.gf rfl ?_
      refine Ops.y (v := .bool _) (Y.pick_f rfl rfl) ?_
      refine Ops.nil ?_
      exact ⟨(), ⟨rfl, rfl, rfl, bF (fun h => c1 h.1), trivial⟩, I⟩
  rintro _ e w I
  refine WP.cond_dec rfl (fun d1 => ?_) (fun d1 => ?_)
  · refine WP.seq ?_
    refine WP.region ?_
    refine Ops.y (v := .int .i64 _) (Y.assign rfl) ?_
    refine Ops.nil ?_
    refine WP.ret ?_
    repeat (first | refine thenE_ret ?_ | refine blockE_ret ?_)
    exact retQ.mk (vs := [.int .i64 _]) rfl ⟨rfl, trivial⟩ I.ext_of (by simp only [tup, checkRule]; rw [if_neg (by simp [h1]), if_neg (by omega), if_neg (by simp [hb0]), hfr, if_neg (by simp), if_neg h5', if_pos d1])
  refine WP.skip ?_
  refine WP.seq ?_
  refine WP.seq ?_
  refine WP.cutL (σ := Unit) (fun _ => [(3, .pointer (some ⟨b3, 0, none⟩)), (128, .bool (decide (0 ≤ r.src ∧ ((litOf r r.src).neg = true ∨ (predOf l.xs (litOf r r.src).atom.pred).kind ≠ (predOf l.xs r.head.pred).kind))))]) (fun _ w => Inv B B.h [box b3 r.enc 46] w) ?_ ?_
  · by_cases c1 : 0 ≤ r.src
    · have hs1 : r.src.toNat < r.body.xs.length := by omega
      have EB := hr.body.is.at hs1
      rw [litOf_get c1 (by omega)]
      have hap := checkAtom_in (bodyErr_ne.1 hb0 _ (List.getElem_mem hs1))
      have EP := hl.at (i := (r.body.xs[r.src.toNat]'hs1).atom.pred.toNat) (by omega)
      rw [predOf_getE hap.1 hap.2]
      by_cases c2 : (r.body.xs[r.src.toNat]'hs1).neg = true
      · refine WP.region ?_
        refine Ops.y (v := .pointer (some ⟨_, _, none⟩)) (Y.fa fa_46_1 rfl) ?_
        refine Ops.y (v := .int .i64 _) (Y.loadv ty_3 rfl (I.rdbox 0 rfl 2 1) rfl rfl) ?_
        refine Ops.y (v := .bool true) (Y.dec_t (Y.gei rfl rfl) (c1)) ?_
        refine Ops.y (v := .bool _) (Y.move rfl) ?_
        refine Ops.ygt rfl (v := .pointer (some ⟨_, _, none⟩)) (Y.fa fa_46_3 rfl) ?_
        refine Ops.ygt rfl (v := .slice _ _ _) (Y.loadv ty_44 rfl (I.rdbox 0 rfl 4 1) rfl rfl) ?_
        refine Ops.ygt rfl (v := .pointer (some ⟨_, _, none⟩)) (Y.fa fa_46_1 rfl) ?_
        refine Ops.ygt rfl (v := .int .i64 _) (Y.loadv ty_3 rfl (I.rdbox 0 rfl 2 1) rfl rfl) ?_
        refine Ops.ygt rfl (v := .pointer (some ⟨_, _, none⟩)) (Y.idxEl EB Tryz.underlying44 Tryz.sizeOf61 rfl rfl c1 rfl) ?_
        refine Ops.ygt rfl (v := .pointer (some ⟨_, _, none⟩)) (Y.fa0 fa_61_0 rfl) ?_
        refine Ops.ygt rfl (v := .bool true) (Y.b (Y.loadv ty_4 rfl (I.rd (EB.rd.part 0 1)) rfl rfl) (c2)) ?_
        refine Ops.ygt rfl (v := .bool _) (Y.move rfl) ?_
        refine Ops.gf rfl ?_
        refine Ops.gf rfl ?_
        refine Ops.gf rfl ?_
        refine Ops.gf rfl ?_
        refine Ops.gf rfl ?_
        refine Ops.gf rfl ?_
        refine Ops.gf rfl ?_
        refine Ops.gf rfl ?_
        refine Ops.gf rfl ?_
        refine Ops.gf rfl ?_
        refine Ops.gf rfl ?_
        refine Ops.gf rfl ?_
        refine Ops.gf rfl ?_
        refine Ops.gf rfl ?_
        refine Ops.ygt rfl (v := .bool _) (Y.pick_t rfl rfl) ?_
        refine Ops.y (v := .bool _) (Y.pick_t rfl rfl) ?_
        refine Ops.nil ?_
        exact ⟨(), ⟨rfl, bT ⟨c1, .inl c2⟩, trivial⟩, I⟩
      · by_cases c3 : (l.xs[(r.body.xs[r.src.toNat]'hs1).atom.pred.toNat]'(by omega)).kind ≠ (predOf l.xs r.head.pred).kind
        · refine WP.region ?_
          refine Ops.y (v := .pointer (some ⟨_, _, none⟩)) (Y.fa fa_46_1 rfl) ?_
          refine Ops.y (v := .int .i64 _) (Y.loadv ty_3 rfl (I.rdbox 0 rfl 2 1) rfl rfl) ?_
          refine Ops.y (v := .bool true) (Y.dec_t (Y.gei rfl rfl) (c1)) ?_
          refine Ops.y (v := .bool _) (Y.move rfl) ?_
          refine Ops.ygt rfl (v := .pointer (some ⟨_, _, none⟩)) (Y.fa fa_46_3 rfl) ?_
          refine Ops.ygt rfl (v := .slice _ _ _) (Y.loadv ty_44 rfl (I.rdbox 0 rfl 4 1) rfl rfl) ?_
          refine Ops.ygt rfl (v := .pointer (some ⟨_, _, none⟩)) (Y.fa fa_46_1 rfl) ?_
          refine Ops.ygt rfl (v := .int .i64 _) (Y.loadv ty_3 rfl (I.rdbox 0 rfl 2 1) rfl rfl) ?_
          refine Ops.ygt rfl (v := .pointer (some ⟨_, _, none⟩)) (Y.idxEl EB Tryz.underlying44 Tryz.sizeOf61 rfl rfl c1 rfl) ?_
          refine Ops.ygt rfl (v := .pointer (some ⟨_, _, none⟩)) (Y.fa0 fa_61_0 rfl) ?_
          refine Ops.ygt rfl (v := .bool false) (Y.b (Y.loadv ty_4 rfl (I.rd (EB.rd.part 0 1)) rfl rfl) ((by simpa using c2))) ?_
          refine Ops.ygt rfl (v := .bool _) (Y.move rfl) ?_
          refine Ops.ygt rfl (v := .slice _ _ _) (Y.move rfl) ?_
          refine Ops.ygt rfl (v := .pointer (some ⟨_, _, none⟩)) (Y.fa fa_46_3 rfl) ?_
          refine Ops.ygt rfl (v := .slice _ _ _) (Y.loadv ty_44 rfl (I.rdbox 0 rfl 4 1) rfl rfl) ?_
          refine Ops.ygt rfl (v := .pointer (some ⟨_, _, none⟩)) (Y.fa fa_46_1 rfl) ?_
          refine Ops.ygt rfl (v := .int .i64 _) (Y.loadv ty_3 rfl (I.rdbox 0 rfl 2 1) rfl rfl) ?_
          refine Ops.ygt rfl (v := .pointer (some ⟨_, _, none⟩)) (Y.idxEl EB Tryz.underlying44 Tryz.sizeOf61 rfl rfl c1 rfl) ?_
          refine Ops.ygt rfl (v := .pointer (some ⟨_, _, none⟩)) (Y.fa fa_61_1 rfl) ?_
          refine Ops.ygt rfl (v := .pointer (some ⟨_, _, none⟩)) (Y.fa0 fa_43_0 rfl) ?_
          refine Ops.ygt rfl (v := .int .i64 _) (Y.loadv ty_3 rfl (I.rd (EB.rd.part 1 1)) rfl rfl) ?_
          refine Ops.ygt rfl (v := .pointer (some ⟨_, _, none⟩)) (Y.idxEl EP Tryz.underlying22 Tryz.sizeOf40 rfl rfl hap.1 rfl) ?_
          refine Ops.ygt rfl (v := .pointer (some ⟨_, _, none⟩)) (Y.fa fa_40_2 rfl) ?_
          refine Ops.ygt rfl (v := .int .i64 _) (Y.loadv ty_3 rfl (I.rd (EP.rd.part 2 1)) rfl rfl) ?_
          refine Ops.ygt rfl (v := .int .i64 _) (Y.move rfl) ?_
          refine Ops.ygt rfl (v := .bool true) (Y.dec_t (Y.nei rfl rfl) (c3)) ?_
          refine Ops.ygt rfl (v := .bool _) (Y.pick_f rfl rfl) ?_
          refine Ops.y (v := .bool _) (Y.pick_t rfl rfl) ?_
          refine Ops.nil ?_
          exact ⟨(), ⟨rfl, bT ⟨c1, .inr c3⟩, trivial⟩, I⟩
        · refine WP.region ?_
          refine Ops.y (v := .pointer (some ⟨_, _, none⟩)) (Y.fa fa_46_1 rfl) ?_
          refine Ops.y (v := .int .i64 _) (Y.loadv ty_3 rfl (I.rdbox 0 rfl 2 1) rfl rfl) ?_
          refine Ops.y (v := .bool true) (Y.dec_t (Y.gei rfl rfl) (c1)) ?_
          refine Ops.y (v := .bool _) (Y.move rfl) ?_
          refine Ops.ygt rfl (v := .pointer (some ⟨_, _, none⟩)) (Y.fa fa_46_3 rfl) ?_
          refine Ops.ygt rfl (v := .slice _ _ _) (Y.loadv ty_44 rfl (I.rdbox 0 rfl 4 1) rfl rfl) ?_
          refine Ops.ygt rfl (v := .pointer (some ⟨_, _, none⟩)) (Y.fa fa_46_1 rfl) ?_
          refine Ops.ygt rfl (v := .int .i64 _) (Y.loadv ty_3 rfl (I.rdbox 0 rfl 2 1) rfl rfl) ?_
          refine Ops.ygt rfl (v := .pointer (some ⟨_, _, none⟩)) (Y.idxEl EB Tryz.underlying44 Tryz.sizeOf61 rfl rfl c1 rfl) ?_
          refine Ops.ygt rfl (v := .pointer (some ⟨_, _, none⟩)) (Y.fa0 fa_61_0 rfl) ?_
          refine Ops.ygt rfl (v := .bool false) (Y.b (Y.loadv ty_4 rfl (I.rd (EB.rd.part 0 1)) rfl rfl) ((by simpa using c2))) ?_
          refine Ops.ygt rfl (v := .bool _) (Y.move rfl) ?_
          refine Ops.ygt rfl (v := .slice _ _ _) (Y.move rfl) ?_
          refine Ops.ygt rfl (v := .pointer (some ⟨_, _, none⟩)) (Y.fa fa_46_3 rfl) ?_
          refine Ops.ygt rfl (v := .slice _ _ _) (Y.loadv ty_44 rfl (I.rdbox 0 rfl 4 1) rfl rfl) ?_
          refine Ops.ygt rfl (v := .pointer (some ⟨_, _, none⟩)) (Y.fa fa_46_1 rfl) ?_
          refine Ops.ygt rfl (v := .int .i64 _) (Y.loadv ty_3 rfl (I.rdbox 0 rfl 2 1) rfl rfl) ?_
          refine Ops.ygt rfl (v := .pointer (some ⟨_, _, none⟩)) (Y.idxEl EB Tryz.underlying44 Tryz.sizeOf61 rfl rfl c1 rfl) ?_
          refine Ops.ygt rfl (v := .pointer (some ⟨_, _, none⟩)) (Y.fa fa_61_1 rfl) ?_
          refine Ops.ygt rfl (v := .pointer (some ⟨_, _, none⟩)) (Y.fa0 fa_43_0 rfl) ?_
          refine Ops.ygt rfl (v := .int .i64 _) (Y.loadv ty_3 rfl (I.rd (EB.rd.part 1 1)) rfl rfl) ?_
          refine Ops.ygt rfl (v := .pointer (some ⟨_, _, none⟩)) (Y.idxEl EP Tryz.underlying22 Tryz.sizeOf40 rfl rfl hap.1 rfl) ?_
          refine Ops.ygt rfl (v := .pointer (some ⟨_, _, none⟩)) (Y.fa fa_40_2 rfl) ?_
          refine Ops.ygt rfl (v := .int .i64 _) (Y.loadv ty_3 rfl (I.rd (EP.rd.part 2 1)) rfl rfl) ?_
          refine Ops.ygt rfl (v := .int .i64 _) (Y.move rfl) ?_
          refine Ops.ygt rfl (v := .bool false) (Y.dec_f (Y.nei rfl rfl) (c3)) ?_
          refine Ops.ygt rfl (v := .bool _) (Y.pick_f rfl rfl) ?_
          refine Ops.y (v := .bool _) (Y.pick_t rfl rfl) ?_
          refine Ops.nil ?_
          exact ⟨(), ⟨rfl, bF (fun h => h.2.elim c2 c3), trivial⟩, I⟩
    · refine WP.region ?_
      refine Ops.y (v := .pointer (some ⟨_, _, none⟩)) (Y.fa fa_46_1 rfl) ?_
      refine Ops.y (v := .int .i64 _) (Y.loadv ty_3 rfl (I.rdbox 0 rfl 2 1) rfl rfl) ?_
      refine Ops.y (v := .bool false) (Y.dec_f (Y.gei rfl rfl) (c1)) ?_
      refine Ops.y (v := .bool _) (Y.move rfl) ?_
      refine Ops.gf rfl ?_
      refine Ops.gf rfl ?_
      refine Ops.gf rfl ?_
      refine Ops.gf rfl ?_
      refine Ops.gf rfl ?_
      refine Ops.gf rfl ?_
      refine Ops.gf rfl ?_
      refine Ops.gf rfl ?_
      refine Ops.gf rfl ?_
      refine Ops.gf rfl ?_
      refine Ops.gf rfl ?_
      refine Ops.gf rfl ?_
      refine Ops.gf rfl ?_
      refine Ops.gf rfl ?_
      refine Ops.gf rfl ?_
      refine Ops.gf rfl ?_
      refine Ops.gf rfl ?_
      refine Ops.gf rfl ?_
      refine Ops.gf rfl ?_
      refine Ops.gf rfl ?_
      refine Ops.gf rfl ?_
      refine Ops.gf rfl ?_
      refine Ops.gf rfl ?_
      refine Ops.y (v := .bool _) (Y.pick_f rfl rfl) ?_
      refine Ops.nil ?_
      exact ⟨(), ⟨rfl, bF (fun h => c1 h.1), trivial⟩, I⟩
  rintro _ e w I
  refine WP.cond_dec rfl (fun d2 => ?_) (fun d2 => ?_)
  · refine WP.seq ?_
    refine WP.region ?_
    refine Ops.y (v := .int .i64 _) (Y.assign rfl) ?_
    refine Ops.nil ?_
    refine WP.ret ?_
    repeat (first | refine thenE_ret ?_ | refine blockE_ret ?_)
    exact retQ.mk (vs := [.int .i64 _]) rfl ⟨rfl, trivial⟩ I.ext_of (by simp only [tup, checkRule]; rw [if_neg (by simp [h1]), if_neg (by omega), if_neg (by simp [hb0]), hfr, if_neg (by simp), if_neg h5', if_neg d1, if_pos d2])
  refine WP.skip ?_
  refine WP.seq ?_
  refine WP.seq ?_
  refine WP.region ?_
  refine Ops.y (v := .pointer (some ⟨_, _, none⟩)) (Y.fa fa_46_2 rfl) ?_
  refine Ops.y (v := .int .i64 _) (Y.loadv ty_3 rfl (I.rdbox 0 rfl 3 1) rfl rfl) ?_
  refine Ops.go (O.callv I Tryz.call37 (within_ok _ I.base_ok _ _ _) rfl ?_)
  intro w I
  refine Ops.y (v := .bool (decide _)) (Y.notd rfl) ?_
  refine Ops.nil ?_
  refine WP.cond_dec rfl (fun h6 => ?_) (fun h6 => ?_)
  · refine WP.seq ?_
    refine WP.region ?_
    refine Ops.y (v := .int .i64 _) (Y.assign rfl) ?_
    refine Ops.nil ?_
    refine WP.ret ?_
    repeat (first | refine thenE_ret ?_ | refine blockE_ret ?_)
    exact retQ.mk (vs := [.int .i64 _]) rfl ⟨rfl, trivial⟩ I.ext_of (by simp only [tup, checkRule]; rw [if_neg (by simp [h1]), if_neg (by omega), if_neg (by simp [hb0]), hfr, if_neg (by simp), if_neg h5', if_neg d1, if_neg d2, if_pos (by simp only [within] at h6; omega)])
  refine WP.skip ?_
  refine WP.seq ?_
  refine WP.region ?_
  refine Ops.y (v := .int .i64 _) (Y.assign rfl) ?_
  refine Ops.nil ?_
  refine WP.ret ?_
  repeat (first | refine thenE_ret ?_ | refine blockE_ret ?_)
  exact retQ.mk (vs := [.int .i64 _]) rfl ⟨rfl, trivial⟩ I.ext_of (by simp only [tup, checkRule]; rw [if_neg (by simp [h1]), if_neg (by omega), if_neg (by simp [hb0]), hfr, if_neg (by simp), if_neg h5', if_neg d1, if_neg d2, if_neg (by simp only [within] at h6; omega)])
end Go.TF
end
section
/- What programs are, wherever they lie; pieces of slices; what is yielded in a region that draws: plain. -/
namespace Go.TF
open Go Go.RowKit

/-! ### The same, laid nowhere -/
def Sl.er {α : Type} (s : Sl α) : Sl α := ⟨none, 0, s.xs⟩
def Atm.er (a : Atm) : Atm := ⟨a.pred, a.args.er⟩
def Ltl.er (x : Ltl) : Ltl := ⟨x.neg, x.atom.er⟩
def Rul.er (r : Rul) : Rul := ⟨r.head.er, r.src, r.n, ⟨none, 0, r.body.xs.map Ltl.er⟩⟩
def Prg.er (p : Prg) : Prg := ⟨p.preds.er, ⟨none, 0, p.rules.xs.map Rul.er⟩⟩
theorem checkAtom_er (l : List Prd) (a : Atm) : checkAtom l a.er = checkAtom l a := rfl
theorem standsIn_er (a : Atm) (v : Int) : standsIn a.er v = standsIn a v := rfl
theorem bodyErr_er (l : List Prd) (b : List Ltl) : bodyErr l (b.map Ltl.er) = bodyErr l b := by
  induction b with
  | nil => rfl
  | cons x r ih => simp only [List.map_cons, bodyErr, ih, Ltl.er, checkAtom_er]
theorem any_er (f : Ltl → Bool) (hf : ∀ x, f x.er = f x) (b : List Ltl) : (b.map Ltl.er).any f = b.any f := by
  rw [List.any_map]; congr 1; funext x; exact hf x
theorem freeVar_er (r : Rul) (v : Int) : freeVar r.er v = freeVar r v := by
  unfold freeVar boundIn Rul.er
  rw [any_er _ (fun x => rfl), any_er _ (fun x => rfl), standsIn_er]
theorem litOf_er {r : Rul} {k : Int} (h0 : 0 ≤ k) (h1 : k < r.body.xs.length) : litOf r.er k = (litOf r k).er := by
  have : k.toNat < r.body.xs.length := by omega
  simp [litOf, Rul.er, List.getD_eq_getElem?_getD, this]
theorem checkRule_er (l : List Prd) (r : Rul) : checkRule l r.er = checkRule l r := by
  have h1 : r.er.head = r.head.er := rfl
  have h2 : r.er.body.xs = r.body.xs.map Ltl.er := rfl
  have h3 : r.er.src = r.src := rfl
  have h4 : r.er.n = r.n := rfl
  have h5 : r.head.er.pred = r.head.pred := rfl
  unfold checkRule
  rw [h1, h2, h3, h4, h5, checkAtom_er, bodyErr_er, freeVar_er, freeVar_er, freeVar_er, List.length_map]
  by_cases c : r.src < -1 ∨ (r.body.xs.length : Int) ≤ r.src
  · simp only [if_pos c]
  · by_cases h0 : 0 ≤ r.src
    · rw [litOf_er h0 (by omega)]; rfl
    · have e : ∀ p : Prop, (0 ≤ r.src ∧ p) ↔ False := fun p => ⟨fun h => h0 h.1, False.elim⟩
      simp only [e]

/-- A piece of a slice. -/
def Sl.cut {α : Type} (s : Sl α) (k l h : Nat) : Sl α := ⟨some (if s.cap = l then ⟨s.blk, s.off, none⟩ else ⟨s.blk, s.off + l * k, none⟩), s.cap - l, (s.xs.take h).drop l⟩
theorem Sl.In.cut {α : Type} {s : Sl α} {k : Nat} {enc : α → List Value} {h : Heap} (hs : s.In k enc h) {l hi : Nat} (hc : s.xs.length ≤ s.cap) : (s.cut k l hi).In k enc h := fun i x hx => by
  simp only [Sl.cut, List.getElem?_drop, List.getElem?_take] at hx
  split at hx
  · have h1 := hs _ _ hx
    have h2 := (List.getElem?_eq_some_iff.1 hx).1
    have hne : s.cap ≠ l := by omega
    refine ⟨by simp [Sl.cut, hne, Sl.blk, Sl.off], ?_⟩
    have e1 : (s.cut k l hi).blk = s.blk := by simp [Sl.cut, hne, Sl.blk]
    have e2 : (s.cut k l hi).off = s.off + l * k := by
      have : (s.cut k l hi).off = ((if s.cap = l then (⟨s.blk, s.off, none⟩ : Addr) else ⟨s.blk, s.off + l * k, none⟩)).off := rfl
      rw [this, if_neg hne]
    rw [e1, e2, show s.off + l * k + i * k = s.off + (l + i) * k by rw [Nat.add_mul]; omega]
    exact h1.2
  · cases hx
theorem Sl.Is.cut {α : Type} {s : Sl α} {k : Nat} {enc : α → List Value} {h : Heap} (hs : s.Is k enc h) {l hi : Nat} (hc : s.xs.length ≤ s.cap) : (s.cut k l hi).Is k enc h :=
  ⟨hs.el.cut hc, by have := hs.small; simp only [Sl.cut, List.length_drop, List.length_take]; omega⟩
theorem Y.cut {P : Program} {e : Env} {w : World} {d : Option Nat} {t : TypeId} {pos : String} {af : Array Edge} {g : Option (Nat × Bool)} {α : Type} {s : Sl α} {x : Operand} {T el ks : TypeId} {lo hi : Option Operand} {l h : Nat} (hT : Und P T (.slice el)) (hk : ∀ w, (sizeOf el).run P w = .ok ks w)
    (ha : s.at_ = some ⟨s.blk, s.off, none⟩) (hc : s.xs.length ≤ s.cap) (hx : ev e x = s.val)
    (hl : lo = none ∧ l = 0 ∨ ∃ q k, lo = some q ∧ ev e q = .int k (l : Int)) (hh : hi = none ∧ h = s.xs.length ∨ ∃ q k, hi = some q ∧ ev e q = .int k (h : Int)) (h1 : l ≤ h) (h2 : h ≤ s.xs.length) :
    Y P ⟨d, .slice T x lo hi none, t, pos, af, g⟩ e w (s.cut ks l h).val := by
  have hx' : ev e x = .slice (some ⟨s.blk, s.off, none⟩) s.xs.length s.cap := by rw [hx, Sl.val, ha]
  refine (Y.slicesl hT hk hx' hl hh h1 (by omega)).is ?_
  simp only [Sl.cut, Sl.val, List.length_drop, List.length_take]
  rw [Nat.min_eq_left h2]

/-! ### What regions that draw their order yield -/
def SlS {α : Type} (k : Nat) (enc : α → List Value) (xs : List α) : Sp := fun u h => ∃ s : Sl α, u = s.val ∧ s.xs = xs ∧ s.Is k enc h
theorem SlS.mono {α : Type} {k : Nat} {enc : α → List Value} {xs : List α} : MonoS (SlS k enc xs) := fun _ _ _ hl ⟨s, a, b, c⟩ => ⟨s, a, b, c.le hl⟩
def AtmS (p : Int) (xs : List Trm) : Sp := fun u h => ∃ a : Atm, u = a.val ∧ a.er = ⟨p, ⟨none, 0, xs⟩⟩ ∧ a.In h
theorem AtmS.mono {p : Int} {xs : List Trm} : MonoS (AtmS p xs) := fun _ _ _ hl ⟨s, a, b, c⟩ => ⟨s, a, b, c.le hl⟩
theorem nilIs {α : Type} {k : Nat} {enc : α → List Value} {h : Heap} : (⟨none, 0, []⟩ : Sl α).Is k enc h := ⟨fun i x hx => by simp at hx, by simp⟩

/-! ### The roads -/
def aT (p : Int) (l : List Trm) : Atm := ⟨p, ⟨none, 0, l⟩⟩
@[reducible] def tV (n : Int) : Trm := ⟨true, n⟩
@[reducible] def tC (n : Int) : Trm := ⟨false, n⟩
def bEdge : ByteArray := ⟨#[101, 100, 103, 101]⟩
def bFar : ByteArray := ⟨#[102, 97, 114]⟩
def bLone : ByteArray := ⟨#[108, 111, 110, 101]⟩
def rT (h : Atm) (src n : Int) (b : List Ltl) : Rul := ⟨h, src, n, ⟨none, 0, b⟩⟩
def roadsC : Prg := ⟨⟨none, 0, [⟨bEdge, 2, 0⟩, ⟨bFar, 2, 2⟩, ⟨bLone, 1, 0⟩]⟩, ⟨none, 0, [
  rT (aT 0 [tC 0, tC 1]) (-1) 0 [], rT (aT 0 [tC 1, tC 2]) (-1) 0 [], rT (aT 0 [tC 2, tC 0]) (-1) 0 [], rT (aT 0 [tC 3, tC 0]) (-1) 0 [],
  rT (aT 1 [tV 0, tV 1]) (-1) 1 [⟨false, aT 0 [tV 0, tV 1]⟩],
  rT (aT 1 [tV 0, tV 2]) 0 1 [⟨false, aT 1 [tV 0, tV 1]⟩, ⟨false, aT 0 [tV 1, tV 2]⟩],
  rT (aT 2 [tV 0]) (-1) 0 [⟨false, aT 0 [tV 0, tV 1]⟩, ⟨true, aT 1 [tV 0, tV 0]⟩]]⟩⟩
structure RoadsAt (p : Prg) (h : Heap) : Prop where
  is : p.In h
  er : p.er = roadsC
  cap : ∀ x ∈ p.rules.xs, x.body.xs.length ≤ x.body.cap
end Go.TF
end
section
/- What the laws of rules begin with. -/
namespace Go.TF
open Go Go.RowKit Go.Proofs
set_option maxRecDepth 20000

theorem lV_ok (B : Base) (hB : B.ok) (n : Int) : Fn Tryz.prog 45 [.int .i64 n] B (fun v _ => v = (tV n).val) := by
  refine Fn.of Tryz.func45 rfl Tryz.ntmps45 (by kernel_rfl) (by simp) ?_
  intro e
  have I := Inv.start hB
  refine WP.seq ?_
  refine WP.region ?_
  refine Ops.go (O.alloc I Tryz.zeroValue89 rfl ?_)
  intro b2 w I
  refine Ops.nil ?_
  refine WP.seq ?_
  refine WP.region ?_
  refine Ops.y (v := .int .i64 _) (Y.move rfl) ?_
  refine Ops.y (v := .agg #[.bool _, .int .i64 _]) (Y.build pl_89 Tryz.zeroValue89 rfl rfl) ?_
  refine Ops.go (O.store (v := .agg #[_, _]) I ty_89 0 rfl rfl rfl rfl rfl rfl (Nat.le_of_ble_eq_true rfl) rfl ?_)
  intro w I
  refine Ops.nil ?_
  refine WP.ret ?_
  repeat (first | refine thenE_ret ?_ | refine blockE_ret ?_)
  exact retQ.mk (vs := [.agg #[_, _]]) rfl ⟨⟨_, _, _, _, _, rfl, ty_89, I.rdbox 0 rfl 0 2, rfl, rfl⟩, trivial⟩ I.ext_of (rfl)
theorem lC_ok (B : Base) (hB : B.ok) (n : Int) : Fn Tryz.prog 44 [.int .i64 n] B (fun v _ => v = (tC n).val) := by
  refine Fn.of Tryz.func44 rfl Tryz.ntmps44 (by kernel_rfl) (by simp) ?_
  intro e
  have I := Inv.start hB
  refine WP.seq ?_
  refine WP.region ?_
  refine Ops.go (O.alloc I Tryz.zeroValue89 rfl ?_)
  intro b2 w I
  refine Ops.nil ?_
  refine WP.seq ?_
  refine WP.region ?_
  refine Ops.y (v := .int .i64 _) (Y.move rfl) ?_
  refine Ops.y (v := .agg #[.bool _, .int .i64 _]) (Y.build pl_89 Tryz.zeroValue89 rfl rfl) ?_
  refine Ops.go (O.store (v := .agg #[_, _]) I ty_89 0 rfl rfl rfl rfl rfl rfl (Nat.le_of_ble_eq_true rfl) rfl ?_)
  intro w I
  refine Ops.nil ?_
  refine WP.ret ?_
  repeat (first | refine thenE_ret ?_ | refine blockE_ret ?_)
  exact retQ.mk (vs := [.agg #[_, _]]) rfl ⟨⟨_, _, _, _, _, rfl, ty_89, I.rdbox 0 rfl 0 2, rfl, rfl⟩, trivial⟩ I.ext_of (rfl)
theorem lAt_ok (B : Base) (hB : B.ok) (p : Int) (l : Sl Trm) : Fn Tryz.prog 43 [.int .i64 p, l.val] B (fun v _ => v = (Atm.mk p l).val) := by
  refine Fn.of Tryz.func43 rfl Tryz.ntmps43 (by kernel_rfl) (by simp) ?_
  intro e
  have I := Inv.start hB
  refine WP.seq ?_
  refine WP.region ?_
  refine Ops.go (O.alloc I Tryz.zeroValue43 rfl ?_)
  intro b4 w I
  refine Ops.nil ?_
  refine WP.seq ?_
  refine WP.region ?_
  refine Ops.y (v := .int .i64 _) (Y.move rfl) ?_
  refine Ops.y (v := .slice _ _ _) (Y.move rfl) ?_
  refine Ops.y (v := .agg #[.int .i64 _, .slice _ _ _]) (Y.build pl_43 Tryz.zeroValue43 rfl rfl) ?_
  refine Ops.go (O.store (v := .agg #[_, _]) I ty_43 0 rfl rfl rfl rfl rfl rfl (Nat.le_of_ble_eq_true rfl) rfl ?_)
  intro w I
  refine Ops.nil ?_
  refine WP.ret ?_
  repeat (first | refine thenE_ret ?_ | refine blockE_ret ?_)
  exact retQ.mk (vs := [.agg #[_, _]]) rfl ⟨⟨_, _, _, _, _, rfl, ty_43, I.rdbox 0 rfl 0 2, rfl, rfl⟩, trivial⟩ I.ext_of (rfl)
theorem lIs_ok (B : Base) (hB : B.ok) (a : Atm) : Fn Tryz.prog 46 [a.val] B (fun v _ => v = (Ltl.mk false a).val) := by
  refine Fn.of Tryz.func46 rfl Tryz.ntmps46 (by kernel_rfl) (by simp) ?_
  intro e
  have I := Inv.start hB
  refine WP.seq ?_
  refine WP.region ?_
  refine Ops.go (O.box (v := .agg #[_, _]) I rfl rfl ?_)
  intro b1 w I
  refine Ops.go (O.alloc I Tryz.zeroValue61 rfl ?_)
  intro b2 w I
  refine Ops.nil ?_
  refine WP.seq ?_
  refine WP.region ?_
  refine Ops.y (v := .agg #[_, _]) (Y.loadv ty_43 rfl (I.rdbox 1 rfl 0 2) rfl rfl) ?_
  refine Ops.y (v := .agg #[.bool _, .int .i64 _, .slice _ _ _]) (Y.build pl_61 Tryz.zeroValue61 rfl rfl) ?_
  refine Ops.go (O.store (v := .agg #[_, _, _]) I ty_61 0 rfl rfl rfl rfl rfl rfl (Nat.le_of_ble_eq_true rfl) rfl ?_)
  intro w I
  refine Ops.nil ?_
  refine WP.ret ?_
  repeat (first | refine thenE_ret ?_ | refine blockE_ret ?_)
  exact retQ.mk (vs := [.agg #[_, _, _]]) rfl ⟨⟨_, _, _, _, _, rfl, ty_61, I.rdbox 0 rfl 0 3, rfl, rfl⟩, trivial⟩ I.ext_of (rfl)
theorem lNot_ok (B : Base) (hB : B.ok) (a : Atm) : Fn Tryz.prog 47 [a.val] B (fun v _ => v = (Ltl.mk true a).val) := by
  refine Fn.of Tryz.func47 rfl Tryz.ntmps47 (by kernel_rfl) (by simp) ?_
  intro e
  have I := Inv.start hB
  refine WP.seq ?_
  refine WP.region ?_
  refine Ops.go (O.box (v := .agg #[_, _]) I rfl rfl ?_)
  intro b1 w I
  refine Ops.go (O.alloc I Tryz.zeroValue61 rfl ?_)
  intro b2 w I
  refine Ops.nil ?_
  refine WP.seq ?_
  refine WP.region ?_
  refine Ops.y (v := .agg #[_, _]) (Y.loadv ty_43 rfl (I.rdbox 1 rfl 0 2) rfl rfl) ?_
  refine Ops.y (v := .agg #[.bool _, .int .i64 _, .slice _ _ _]) (Y.build pl_61 Tryz.zeroValue61 rfl rfl) ?_
  refine Ops.go (O.store (v := .agg #[_, _, _]) I ty_61 0 rfl rfl rfl rfl rfl rfl (Nat.le_of_ble_eq_true rfl) rfl ?_)
  intro w I
  refine Ops.nil ?_
  refine WP.ret ?_
  repeat (first | refine thenE_ret ?_ | refine blockE_ret ?_)
  exact retQ.mk (vs := [.agg #[_, _, _]]) rfl ⟨⟨_, _, _, _, _, rfl, ty_61, I.rdbox 0 rfl 0 3, rfl, rfl⟩, trivial⟩ I.ext_of (rfl)
set_option maxHeartbeats 4000000 in
theorem roads_okC (B : Base) (hB : B.ok) : Fn Tryz.prog 17 [] B (fun v h => ∃ p : Prg, v = p.val ∧ RoadsAt p h ∧ p.rules.xs.length ≤ p.rules.cap) := by
  refine Fn.of Tryz.func17 rfl Tryz.ntmps17 (by kernel_rfl) (by simp) ?_
  intro e
  have I := Inv.start hB
  refine WP.seq ?_
  refine WP.region ?_
  refine Ops.go (O.alloc I Tryz.zeroValue25 rfl ?_)
  intro b0 w I
  refine Ops.nil ?_
  refine WP.seq ?_
  refine WP.region ?_
  refine Ops.y (v := .agg #[.string _, .int .i64 _, .int .i64 _]) (Y.build pl_40 Tryz.zeroValue40 rfl rfl) ?_
  refine Ops.y (v := .agg #[.string _, .int .i64 _, .int .i64 _]) (Y.build pl_40 Tryz.zeroValue40 rfl rfl) ?_
  refine Ops.y (v := .agg #[.string _, .int .i64 _, .int .i64 _]) (Y.build pl_40 Tryz.zeroValue40 rfl rfl) ?_
  refine Ops.go (O.mksl (xs := [⟨bEdge, 2, 0⟩, ⟨bFar, 2, 2⟩, ⟨bLone, 1, 0⟩]) (enc := Prd.enc) I Tryz.underlying22 Tryz.sizeOf40 Tryz.zeroValue40 rfl (Nat.le_of_ble_eq_true rfl) rfl rfl (by decide) (fun _ => rfl) ?_)
  intro b4 h4 w I le4 sl4
  refine Ops.go (O.callv I Tryz.call44 (lC_ok _ I.base_ok 0) rfl ?_)
  intro w I
  refine Ops.go (O.callv I Tryz.call44 (lC_ok _ I.base_ok 1) rfl ?_)
  intro w I
  refine Ops.go (O.mksl (xs := [tC 0, tC 1]) (enc := Trm.enc) I Tryz.underlying41 Tryz.sizeOf89 Tryz.zeroValue89 rfl (Nat.le_of_ble_eq_true rfl) rfl rfl (by decide) (fun _ => rfl) ?_)
  intro b7 h7 w I le7 sl7
  refine Ops.go (O.callv I Tryz.call43 (lAt_ok _ I.base_ok 0 ⟨some ⟨b7, 0, none⟩, 2, [tC 0, tC 1]⟩) rfl ?_)
  intro w I
  refine Ops.y (v := .agg #[.int .i64 _, .slice _ _ _, .int .i64 _, .int .i64 _, .slice _ _ _]) (Y.build pl_46 Tryz.zeroValue46 rfl rfl) ?_
  refine Ops.go (O.callv I Tryz.call44 (lC_ok _ I.base_ok 1) rfl ?_)
  intro w I
  refine Ops.go (O.callv I Tryz.call44 (lC_ok _ I.base_ok 2) rfl ?_)
  intro w I
  refine Ops.go (O.mksl (xs := [tC 1, tC 2]) (enc := Trm.enc) I Tryz.underlying41 Tryz.sizeOf89 Tryz.zeroValue89 rfl (Nat.le_of_ble_eq_true rfl) rfl rfl (by decide) (fun _ => rfl) ?_)
  intro b12 h12 w I le12 sl12
  refine Ops.go (O.callv I Tryz.call43 (lAt_ok _ I.base_ok 0 ⟨some ⟨b12, 0, none⟩, 2, [tC 1, tC 2]⟩) rfl ?_)
  intro w I
  refine Ops.y (v := .agg #[.int .i64 _, .slice _ _ _, .int .i64 _, .int .i64 _, .slice _ _ _]) (Y.build pl_46 Tryz.zeroValue46 rfl rfl) ?_
  refine Ops.go (O.callv I Tryz.call44 (lC_ok _ I.base_ok 2) rfl ?_)
  intro w I
  refine Ops.go (O.callv I Tryz.call44 (lC_ok _ I.base_ok 0) rfl ?_)
  intro w I
  refine Ops.go (O.mksl (xs := [tC 2, tC 0]) (enc := Trm.enc) I Tryz.underlying41 Tryz.sizeOf89 Tryz.zeroValue89 rfl (Nat.le_of_ble_eq_true rfl) rfl rfl (by decide) (fun _ => rfl) ?_)
  intro b17 h17 w I le17 sl17
  refine Ops.go (O.callv I Tryz.call43 (lAt_ok _ I.base_ok 0 ⟨some ⟨b17, 0, none⟩, 2, [tC 2, tC 0]⟩) rfl ?_)
  intro w I
  refine Ops.y (v := .agg #[.int .i64 _, .slice _ _ _, .int .i64 _, .int .i64 _, .slice _ _ _]) (Y.build pl_46 Tryz.zeroValue46 rfl rfl) ?_
  refine Ops.go (O.callv I Tryz.call44 (lC_ok _ I.base_ok 3) rfl ?_)
  intro w I
  refine Ops.go (O.callv I Tryz.call44 (lC_ok _ I.base_ok 0) rfl ?_)
  intro w I
  refine Ops.go (O.mksl (xs := [tC 3, tC 0]) (enc := Trm.enc) I Tryz.underlying41 Tryz.sizeOf89 Tryz.zeroValue89 rfl (Nat.le_of_ble_eq_true rfl) rfl rfl (by decide) (fun _ => rfl) ?_)
  intro b22 h22 w I le22 sl22
  refine Ops.go (O.callv I Tryz.call43 (lAt_ok _ I.base_ok 0 ⟨some ⟨b22, 0, none⟩, 2, [tC 3, tC 0]⟩) rfl ?_)
  intro w I
  refine Ops.y (v := .agg #[.int .i64 _, .slice _ _ _, .int .i64 _, .int .i64 _, .slice _ _ _]) (Y.build pl_46 Tryz.zeroValue46 rfl rfl) ?_
  refine Ops.go (O.callv I Tryz.call45 (lV_ok _ I.base_ok 0) rfl ?_)
  intro w I
  refine Ops.go (O.callv I Tryz.call45 (lV_ok _ I.base_ok 1) rfl ?_)
  intro w I
  refine Ops.go (O.mksl (xs := [tV 0, tV 1]) (enc := Trm.enc) I Tryz.underlying41 Tryz.sizeOf89 Tryz.zeroValue89 rfl (Nat.le_of_ble_eq_true rfl) rfl rfl (by decide) (fun _ => rfl) ?_)
  intro b27 h27 w I le27 sl27
  refine Ops.go (O.callv I Tryz.call43 (lAt_ok _ I.base_ok 1 ⟨some ⟨b27, 0, none⟩, 2, [tV 0, tV 1]⟩) rfl ?_)
  intro w I
  refine Ops.go (O.callv I Tryz.call45 (lV_ok _ I.base_ok 0) rfl ?_)
  intro w I
  refine Ops.go (O.callv I Tryz.call45 (lV_ok _ I.base_ok 1) rfl ?_)
  intro w I
  refine Ops.go (O.mksl (xs := [tV 0, tV 1]) (enc := Trm.enc) I Tryz.underlying41 Tryz.sizeOf89 Tryz.zeroValue89 rfl (Nat.le_of_ble_eq_true rfl) rfl rfl (by decide) (fun _ => rfl) ?_)
  intro b31 h31 w I le31 sl31
  refine Ops.go (O.callv I Tryz.call43 (lAt_ok _ I.base_ok 0 ⟨some ⟨b31, 0, none⟩, 2, [tV 0, tV 1]⟩) rfl ?_)
  intro w I
  refine Ops.go (O.callv I Tryz.call46 (lIs_ok _ I.base_ok ⟨0, ⟨some ⟨b31, 0, none⟩, 2, [tV 0, tV 1]⟩⟩) rfl ?_)
  intro w I
  refine Ops.go (O.mksl (xs := [⟨false, ⟨0, ⟨some ⟨b31, 0, none⟩, 2, [tV 0, tV 1]⟩⟩⟩]) (enc := Ltl.enc) I Tryz.underlying44 Tryz.sizeOf61 Tryz.zeroValue61 rfl (Nat.le_of_ble_eq_true rfl) rfl rfl (by decide) (fun _ => rfl) ?_)
  intro b34 h34 w I le34 sl34
  refine Ops.y (v := .agg #[.int .i64 _, .slice _ _ _, .int .i64 _, .int .i64 _, .slice _ _ _]) (Y.build pl_46 Tryz.zeroValue46 rfl rfl) ?_
  refine Ops.go (O.callv I Tryz.call45 (lV_ok _ I.base_ok 0) rfl ?_)
  intro w I
  refine Ops.go (O.callv I Tryz.call45 (lV_ok _ I.base_ok 2) rfl ?_)
  intro w I
  refine Ops.go (O.mksl (xs := [tV 0, tV 2]) (enc := Trm.enc) I Tryz.underlying41 Tryz.sizeOf89 Tryz.zeroValue89 rfl (Nat.le_of_ble_eq_true rfl) rfl rfl (by decide) (fun _ => rfl) ?_)
  intro b38 h38 w I le38 sl38
  refine Ops.go (O.callv I Tryz.call43 (lAt_ok _ I.base_ok 1 ⟨some ⟨b38, 0, none⟩, 2, [tV 0, tV 2]⟩) rfl ?_)
  intro w I
  refine Ops.go (O.callv I Tryz.call45 (lV_ok _ I.base_ok 0) rfl ?_)
  intro w I
  refine Ops.go (O.callv I Tryz.call45 (lV_ok _ I.base_ok 1) rfl ?_)
  intro w I
  refine Ops.go (O.mksl (xs := [tV 0, tV 1]) (enc := Trm.enc) I Tryz.underlying41 Tryz.sizeOf89 Tryz.zeroValue89 rfl (Nat.le_of_ble_eq_true rfl) rfl rfl (by decide) (fun _ => rfl) ?_)
  intro b42 h42 w I le42 sl42
  refine Ops.go (O.callv I Tryz.call43 (lAt_ok _ I.base_ok 1 ⟨some ⟨b42, 0, none⟩, 2, [tV 0, tV 1]⟩) rfl ?_)
  intro w I
  refine Ops.go (O.callv I Tryz.call46 (lIs_ok _ I.base_ok ⟨1, ⟨some ⟨b42, 0, none⟩, 2, [tV 0, tV 1]⟩⟩) rfl ?_)
  intro w I
  refine Ops.go (O.callv I Tryz.call45 (lV_ok _ I.base_ok 1) rfl ?_)
  intro w I
  refine Ops.go (O.callv I Tryz.call45 (lV_ok _ I.base_ok 2) rfl ?_)
  intro w I
  refine Ops.go (O.mksl (xs := [tV 1, tV 2]) (enc := Trm.enc) I Tryz.underlying41 Tryz.sizeOf89 Tryz.zeroValue89 rfl (Nat.le_of_ble_eq_true rfl) rfl rfl (by decide) (fun _ => rfl) ?_)
  intro b47 h47 w I le47 sl47
  refine Ops.go (O.callv I Tryz.call43 (lAt_ok _ I.base_ok 0 ⟨some ⟨b47, 0, none⟩, 2, [tV 1, tV 2]⟩) rfl ?_)
  intro w I
  refine Ops.go (O.callv I Tryz.call46 (lIs_ok _ I.base_ok ⟨0, ⟨some ⟨b47, 0, none⟩, 2, [tV 1, tV 2]⟩⟩) rfl ?_)
  intro w I
  refine Ops.go (O.mksl (xs := [⟨false, ⟨1, ⟨some ⟨b42, 0, none⟩, 2, [tV 0, tV 1]⟩⟩⟩, ⟨false, ⟨0, ⟨some ⟨b47, 0, none⟩, 2, [tV 1, tV 2]⟩⟩⟩]) (enc := Ltl.enc) I Tryz.underlying44 Tryz.sizeOf61 Tryz.zeroValue61 rfl (Nat.le_of_ble_eq_true rfl) rfl rfl (by decide) (fun _ => rfl) ?_)
  intro b50 h50 w I le50 sl50
  refine Ops.y (v := .agg #[.int .i64 _, .slice _ _ _, .int .i64 _, .int .i64 _, .slice _ _ _]) (Y.build pl_46 Tryz.zeroValue46 rfl rfl) ?_
  refine Ops.go (O.callv I Tryz.call45 (lV_ok _ I.base_ok 0) rfl ?_)
  intro w I
  refine Ops.go (O.mksl (xs := [tV 0]) (enc := Trm.enc) I Tryz.underlying41 Tryz.sizeOf89 Tryz.zeroValue89 rfl (Nat.le_of_ble_eq_true rfl) rfl rfl (by decide) (fun _ => rfl) ?_)
  intro b53 h53 w I le53 sl53
  refine Ops.go (O.callv I Tryz.call43 (lAt_ok _ I.base_ok 2 ⟨some ⟨b53, 0, none⟩, 1, [tV 0]⟩) rfl ?_)
  intro w I
  refine Ops.go (O.callv I Tryz.call45 (lV_ok _ I.base_ok 0) rfl ?_)
  intro w I
  refine Ops.go (O.callv I Tryz.call45 (lV_ok _ I.base_ok 1) rfl ?_)
  intro w I
  refine Ops.go (O.mksl (xs := [tV 0, tV 1]) (enc := Trm.enc) I Tryz.underlying41 Tryz.sizeOf89 Tryz.zeroValue89 rfl (Nat.le_of_ble_eq_true rfl) rfl rfl (by decide) (fun _ => rfl) ?_)
  intro b57 h57 w I le57 sl57
  refine Ops.go (O.callv I Tryz.call43 (lAt_ok _ I.base_ok 0 ⟨some ⟨b57, 0, none⟩, 2, [tV 0, tV 1]⟩) rfl ?_)
  intro w I
  refine Ops.go (O.callv I Tryz.call46 (lIs_ok _ I.base_ok ⟨0, ⟨some ⟨b57, 0, none⟩, 2, [tV 0, tV 1]⟩⟩) rfl ?_)
  intro w I
  refine Ops.go (O.callv I Tryz.call45 (lV_ok _ I.base_ok 0) rfl ?_)
  intro w I
  refine Ops.go (O.callv I Tryz.call45 (lV_ok _ I.base_ok 0) rfl ?_)
  intro w I
  refine Ops.go (O.mksl (xs := [tV 0, tV 0]) (enc := Trm.enc) I Tryz.underlying41 Tryz.sizeOf89 Tryz.zeroValue89 rfl (Nat.le_of_ble_eq_true rfl) rfl rfl (by decide) (fun _ => rfl) ?_)
  intro b62 h62 w I le62 sl62
  refine Ops.go (O.callv I Tryz.call43 (lAt_ok _ I.base_ok 1 ⟨some ⟨b62, 0, none⟩, 2, [tV 0, tV 0]⟩) rfl ?_)
  intro w I
  refine Ops.go (O.callv I Tryz.call47 (lNot_ok _ I.base_ok ⟨1, ⟨some ⟨b62, 0, none⟩, 2, [tV 0, tV 0]⟩⟩) rfl ?_)
  intro w I
  refine Ops.go (O.mksl (xs := [⟨false, ⟨0, ⟨some ⟨b57, 0, none⟩, 2, [tV 0, tV 1]⟩⟩⟩, ⟨true, ⟨1, ⟨some ⟨b62, 0, none⟩, 2, [tV 0, tV 0]⟩⟩⟩]) (enc := Ltl.enc) I Tryz.underlying44 Tryz.sizeOf61 Tryz.zeroValue61 rfl (Nat.le_of_ble_eq_true rfl) rfl rfl (by decide) (fun _ => rfl) ?_)
  intro b65 h65 w I le65 sl65
  refine Ops.y (v := .agg #[.int .i64 _, .slice _ _ _, .int .i64 _, .int .i64 _, .slice _ _ _]) (Y.build pl_46 Tryz.zeroValue46 rfl rfl) ?_
  refine Ops.go (O.mksl (xs := [⟨⟨0, ⟨some ⟨b7, 0, none⟩, 2, [tC 0, tC 1]⟩⟩, -1, 0, ⟨none, 0, []⟩⟩, ⟨⟨0, ⟨some ⟨b12, 0, none⟩, 2, [tC 1, tC 2]⟩⟩, -1, 0, ⟨none, 0, []⟩⟩, ⟨⟨0, ⟨some ⟨b17, 0, none⟩, 2, [tC 2, tC 0]⟩⟩, -1, 0, ⟨none, 0, []⟩⟩, ⟨⟨0, ⟨some ⟨b22, 0, none⟩, 2, [tC 3, tC 0]⟩⟩, -1, 0, ⟨none, 0, []⟩⟩, ⟨⟨1, ⟨some ⟨b27, 0, none⟩, 2, [tV 0, tV 1]⟩⟩, -1, 1, ⟨some ⟨b34, 0, none⟩, 1, [⟨false, ⟨0, ⟨some ⟨b31, 0, none⟩, 2, [tV 0, tV 1]⟩⟩⟩]⟩⟩, ⟨⟨1, ⟨some ⟨b38, 0, none⟩, 2, [tV 0, tV 2]⟩⟩, 0, 1, ⟨some ⟨b50, 0, none⟩, 2, [⟨false, ⟨1, ⟨some ⟨b42, 0, none⟩, 2, [tV 0, tV 1]⟩⟩⟩, ⟨false, ⟨0, ⟨some ⟨b47, 0, none⟩, 2, [tV 1, tV 2]⟩⟩⟩]⟩⟩, ⟨⟨2, ⟨some ⟨b53, 0, none⟩, 1, [tV 0]⟩⟩, -1, 0, ⟨some ⟨b65, 0, none⟩, 2, [⟨false, ⟨0, ⟨some ⟨b57, 0, none⟩, 2, [tV 0, tV 1]⟩⟩⟩, ⟨true, ⟨1, ⟨some ⟨b62, 0, none⟩, 2, [tV 0, tV 0]⟩⟩⟩]⟩⟩]) (enc := Rul.enc) I Tryz.underlying23 Tryz.sizeOf46 Tryz.zeroValue46 rfl (Nat.le_of_ble_eq_true rfl) rfl rfl (by decide) (fun _ => rfl) ?_)
  intro b67 h67 w I le67 sl67
  refine Ops.y (v := .agg #[.slice _ _ _, .slice _ _ _]) (Y.build pl_25 Tryz.zeroValue25 rfl rfl) ?_
  refine Ops.go (O.store (v := .agg #[_, _]) I ty_25 0 rfl rfl rfl rfl rfl rfl (Nat.le_of_ble_eq_true rfl) rfl ?_)
  intro w I
  refine Ops.nil ?_
  have q67 := Heap.le.refl h67
  have q65 := le67.trans q67
  have q62 := le65.trans q65
  have q57 := le62.trans q62
  have q53 := le57.trans q57
  have q50 := le53.trans q53
  have q47 := le50.trans q50
  have q42 := le47.trans q47
  have q38 := le42.trans q42
  have q34 := le38.trans q38
  have q31 := le34.trans q34
  have q27 := le31.trans q31
  have q22 := le27.trans q27
  have q17 := le22.trans q22
  have q12 := le17.trans q17
  have q7 := le12.trans q12
  have q4 := le7.trans q7
  have r0 : Rul.In ⟨⟨0, ⟨some ⟨b7, 0, none⟩, 2, [tC 0, tC 1]⟩⟩, -1, 0, ⟨none, 0, []⟩⟩ h67 := ⟨⟨sl7.le q7, by simp⟩, ⟨nilIs, by simp⟩⟩
  have r1 : Rul.In ⟨⟨0, ⟨some ⟨b12, 0, none⟩, 2, [tC 1, tC 2]⟩⟩, -1, 0, ⟨none, 0, []⟩⟩ h67 := ⟨⟨sl12.le q12, by simp⟩, ⟨nilIs, by simp⟩⟩
  have r2 : Rul.In ⟨⟨0, ⟨some ⟨b17, 0, none⟩, 2, [tC 2, tC 0]⟩⟩, -1, 0, ⟨none, 0, []⟩⟩ h67 := ⟨⟨sl17.le q17, by simp⟩, ⟨nilIs, by simp⟩⟩
  have r3 : Rul.In ⟨⟨0, ⟨some ⟨b22, 0, none⟩, 2, [tC 3, tC 0]⟩⟩, -1, 0, ⟨none, 0, []⟩⟩ h67 := ⟨⟨sl22.le q22, by simp⟩, ⟨nilIs, by simp⟩⟩
  have r4 : Rul.In ⟨⟨1, ⟨some ⟨b27, 0, none⟩, 2, [tV 0, tV 1]⟩⟩, -1, 1, ⟨some ⟨b34, 0, none⟩, 1, [⟨false, ⟨0, ⟨some ⟨b31, 0, none⟩, 2, [tV 0, tV 1]⟩⟩⟩]⟩⟩ h67 := ⟨⟨sl27.le q27, by simp⟩, ⟨⟨sl34.le q34, by simp⟩, by simp only [List.mem_cons, List.not_mem_nil, or_false]; rintro x (rfl) <;> first | exact (⟨sl31.le q31, by simp⟩ : Trms _ _)⟩⟩
  have r5 : Rul.In ⟨⟨1, ⟨some ⟨b38, 0, none⟩, 2, [tV 0, tV 2]⟩⟩, 0, 1, ⟨some ⟨b50, 0, none⟩, 2, [⟨false, ⟨1, ⟨some ⟨b42, 0, none⟩, 2, [tV 0, tV 1]⟩⟩⟩, ⟨false, ⟨0, ⟨some ⟨b47, 0, none⟩, 2, [tV 1, tV 2]⟩⟩⟩]⟩⟩ h67 := ⟨⟨sl38.le q38, by simp⟩, ⟨⟨sl50.le q50, by simp⟩, by simp only [List.mem_cons, List.not_mem_nil, or_false]; rintro x (rfl | rfl) <;> first | exact (⟨sl42.le q42, by simp⟩ : Trms _ _) | exact (⟨sl47.le q47, by simp⟩ : Trms _ _)⟩⟩
  have r6 : Rul.In ⟨⟨2, ⟨some ⟨b53, 0, none⟩, 1, [tV 0]⟩⟩, -1, 0, ⟨some ⟨b65, 0, none⟩, 2, [⟨false, ⟨0, ⟨some ⟨b57, 0, none⟩, 2, [tV 0, tV 1]⟩⟩⟩, ⟨true, ⟨1, ⟨some ⟨b62, 0, none⟩, 2, [tV 0, tV 0]⟩⟩⟩]⟩⟩ h67 := ⟨⟨sl53.le q53, by simp⟩, ⟨⟨sl65.le q65, by simp⟩, by simp only [List.mem_cons, List.not_mem_nil, or_false]; rintro x (rfl | rfl) <;> first | exact (⟨sl57.le q57, by simp⟩ : Trms _ _) | exact (⟨sl62.le q62, by simp⟩ : Trms _ _)⟩⟩
  refine WP.ret ?_
  repeat (first | refine thenE_ret ?_ | refine blockE_ret ?_)
  exact retQ.mk (vs := [.agg #[_, _]]) rfl ⟨⟨_, _, _, _, _, rfl, ty_25, I.rdbox 0 rfl 0 2, rfl, rfl⟩, trivial⟩ I.ext_of (⟨⟨⟨some ⟨b4, 0, none⟩, 3, [⟨bEdge, 2, 0⟩, ⟨bFar, 2, 2⟩, ⟨bLone, 1, 0⟩]⟩, ⟨some ⟨b67, 0, none⟩, 7, [⟨⟨0, ⟨some ⟨b7, 0, none⟩, 2, [tC 0, tC 1]⟩⟩, -1, 0, ⟨none, 0, []⟩⟩, ⟨⟨0, ⟨some ⟨b12, 0, none⟩, 2, [tC 1, tC 2]⟩⟩, -1, 0, ⟨none, 0, []⟩⟩, ⟨⟨0, ⟨some ⟨b17, 0, none⟩, 2, [tC 2, tC 0]⟩⟩, -1, 0, ⟨none, 0, []⟩⟩, ⟨⟨0, ⟨some ⟨b22, 0, none⟩, 2, [tC 3, tC 0]⟩⟩, -1, 0, ⟨none, 0, []⟩⟩, ⟨⟨1, ⟨some ⟨b27, 0, none⟩, 2, [tV 0, tV 1]⟩⟩, -1, 1, ⟨some ⟨b34, 0, none⟩, 1, [⟨false, ⟨0, ⟨some ⟨b31, 0, none⟩, 2, [tV 0, tV 1]⟩⟩⟩]⟩⟩, ⟨⟨1, ⟨some ⟨b38, 0, none⟩, 2, [tV 0, tV 2]⟩⟩, 0, 1, ⟨some ⟨b50, 0, none⟩, 2, [⟨false, ⟨1, ⟨some ⟨b42, 0, none⟩, 2, [tV 0, tV 1]⟩⟩⟩, ⟨false, ⟨0, ⟨some ⟨b47, 0, none⟩, 2, [tV 1, tV 2]⟩⟩⟩]⟩⟩, ⟨⟨2, ⟨some ⟨b53, 0, none⟩, 1, [tV 0]⟩⟩, -1, 0, ⟨some ⟨b65, 0, none⟩, 2, [⟨false, ⟨0, ⟨some ⟨b57, 0, none⟩, 2, [tV 0, tV 1]⟩⟩⟩, ⟨true, ⟨1, ⟨some ⟨b62, 0, none⟩, 2, [tV 0, tV 0]⟩⟩⟩]⟩⟩]⟩⟩, rfl, ⟨⟨⟨sl4.le q4, by simp⟩, ⟨⟨sl67.le q67, by simp⟩, by simp only [List.mem_cons, List.not_mem_nil, or_false]; rintro x (rfl | rfl | rfl | rfl | rfl | rfl | rfl) <;> assumption⟩⟩, rfl, by simp only [List.mem_cons, List.not_mem_nil, or_false]; rintro x (rfl | rfl | rfl | rfl | rfl | rfl | rfl) <;> simp⟩, Nat.le_refl 7⟩)
theorem roads_ok (B : Base) (hB : B.ok) : Fn Tryz.prog 17 [] B (fun v h => ∃ p : Prg, v = p.val ∧ RoadsAt p h) := (roads_okC B hB).mono fun _ _ _ ⟨p, a, b, _⟩ => ⟨p, a, b⟩
end Go.TF
end
section
/- Ranges over functions: a call of yield; the body of a round; what a function that holds such a range leaves behind. -/
namespace Go.TF
open Go Go.RowKit

/-! ### Operations, a call of yield among them -/
def Op1X (P : Program) (o : Oper) (e : Env) (w : World) (K : Value → World → Prop) : Prop :=
  Op1 P o e w K ∨ ∃ l f tmps assign body w', (execOp (ev e) o).run P w = .ok (.round l f tmps assign body) w' ∧ RoundIn Fence.wide 0 P l f tmps assign body w' fun | .returned v, w'' => K v w'' | _, _ => False
def OpsX (P : Program) (full : Array Oper) : List Oper → Env → World → (Env → World → Prop) → Prop
  | [], e, w, K => K e w
  | o :: rest, e, w, K => if runs full e o then Op1X P o e w (fun v w' => OpsX P full rest (updo e o.dst v) w' K) else OpsX P full rest (updo e o.dst undef) w K
def noDefer (l : List Oper) : Bool := l.all fun o => match o.op with | .defer _ => false | _ => true
theorem uponIn_of_Op1 {P : Program} {F : Fence} {o : Oper} {a : Act} {w : World} {next : Act → World → Prop} {Q : Exit → Act → World → Prop} (hfn : ∀ f, F.fn f) (hdep : F.depth = none) (hal : ∀ f args w R, Calls P f args w R → CallsIn F (0 - 1) P f args w R)
    (hnd : ∀ c, o.op ≠ .defer c) (h : Op1 P o (env a) w fun v w' => next (a.put o.dst v) w') : o.wpIn F 0 P a w next Q := by
  refine ⟨fun f _ => hfn f, ?_⟩
  rw [Oper.semAt_eq _ _ _ hnd, eval_env]
  unfold Op1 at h
  generalize (execOp (ev (env a)) o).run P w = r at *
  cases r with
  | ok n w' =>
    cases n <;> simp only at h <;> first | exact h.elim | exact h | skip
    refine ⟨(fun hd => by rw [hdep] at hd; cases hd), (hal _ _ _ _ h).mono fun e w'' he => ?_⟩
    cases e <;> first | exact he | exact he.elim
  | halt x w' => exact h.elim
theorem calls_wide {P : Program} {f : FuncId} {args : Array Value} {w : World} {R : Ending → World → Prop} (n : Nat) (h : Calls P f args w R) : CallsIn Fence.wide n P f args w R := callsIn_wide.2 h
theorem drop_cons {ops : Array Oper} {k n : Nat} (h : k + (n + 1) = ops.size) : ∃ o, ops[k]? = some o ∧ ops.toList.drop k = o :: ops.toList.drop (k + 1) := by
  have hk : k < ops.size := by omega
  exact ⟨ops[k], by simp [hk], by rw [List.drop_eq_getElem_cons (by simpa using hk)]; simp⟩
theorem OpsX.sound {P : Program} {ops : Array Oper} {Q : Exit → Act → World → Prop} {N : Nat} {D : List Deferred} (hds : dstsOk N ops.toList = true) (hnd : noDefer ops.toList = true) : ∀ (n k : Nat) (a : Act) (w : World) (K : Env → World → Prop),
    k + n = ops.size → a.tmps.size = N → a.defers = D → (∀ a' w', a'.tmps.size = N → a'.defers = D → K (env a') w' → Q .normal a' w') → OpsX P ops (ops.toList.drop k) (env a) w K → wpOpsIn Fence.wide 0 P ops Q (List.range' k n) a w
  | 0, k, a, w, K, hk, hs, hd, hK, h => by
    rw [List.drop_eq_nil_of_le (by simp; omega)] at h
    exact hK _ _ hs hd h
  | n + 1, k, a, w, K, hk, hs, hd, hK, h => by
    obtain ⟨o, ho, hdr⟩ := drop_cons hk
    have hmem : o ∈ ops.toList := by have := Array.mem_of_getElem? ho; simpa using this
    have hdo : o.dst.all (· < N) = true := (List.all_eq_true.1 hds) o hmem
    have hno : ∀ c, o.op ≠ .defer c := fun c e => by have := (List.all_eq_true.1 hnd) o hmem; simp [e] at this
    have hput : ∀ v, env (a.put o.dst v) = updo (env a) o.dst v := fun v => env_puto a o.dst v (by rw [hs]; exact hdo)
    rw [hdr] at h
    simp only [List.range'_succ, wpOpsIn, ho, wanted_env]
    simp only [OpsX] at h
    split
    · rename_i hr
      rw [if_pos hr] at h
      have step : ∀ v w', OpsX P ops (ops.toList.drop (k + 1)) (updo (env a) o.dst v) w' K → wpOpsIn Fence.wide 0 P ops Q (List.range' (k + 1) n) (a.put o.dst v) w' := fun v w' hh =>
        OpsX.sound hds hnd n (k + 1) _ _ K (by omega) (by rw [size_put, hs]) (by rw [defers_put, hd]) hK (by rw [hput]; exact hh)
      rcases h with h | ⟨l, f, tmps, assign, body, w', hrun, hround⟩
      · exact uponIn_of_Op1 (fun _ => trivial) rfl (fun _ _ _ _ h => calls_wide _ h) hno (h.mono step)
      · refine ⟨fun _ _ => trivial, ?_⟩
        rw [Oper.semAt_eq _ _ _ hno, eval_env, hrun]
        refine ⟨(fun hd => by cases hd), hround.mono fun e w'' he => ?_⟩
        cases e <;> first | exact step _ _ he | exact he.elim
    · rename_i hr
      rw [if_neg hr] at h
      exact ⟨fun _ _ => trivial, OpsX.sound hds hnd n (k + 1) _ _ K (by omega) (by rw [size_put, hs]) (by rw [defers_put, hd]) hK (by rw [hput]; exact h)⟩
theorem WP.regionX {P : Program} {N : Nat} {D : List Deferred} {e : Env} {w : World} {Q : Exit → Env → World → Prop} {id : Nat} {ops : Array Oper} (hnd : noDefer ops.toList = true)
    (h : OpsX P ops ops.toList e w (fun e' w' => Q .normal e' w')) : WP P N D (.region id ops false) e w Q := by
  intro hs a h1 h2 h3
  subst h3
  refine (wpIn_wide (n := 0)).1 (wpIn_region ?_)
  rw [List.range_eq_range']
  exact OpsX.sound hs hnd _ 0 a w _ (by omega) h1 h2 (fun _ _ g1 g2 g3 => ⟨g1, g2, g3⟩) h
section
variable {P : Program} {full : Array Oper} {rest : List Oper} {e : Env} {w : World} {K : Env → World → Prop}
theorem OpsX.nil (h : K e w) : OpsX P full [] e w K := h
theorem OpsX.go {d : Option Nat} {op : Op} {t : TypeId} {pos : String} {af : Array Edge} (h : Op1 P ⟨d, op, t, pos, af, none⟩ e w (fun v w' => OpsX P full rest (updo e d v) w' K)) :
    OpsX P full (⟨d, op, t, pos, af, none⟩ :: rest) e w K := by simp only [OpsX, runs, if_true]; exact .inl h
theorem OpsX.y {d : Nat} {op : Op} {t : TypeId} {pos : String} {af : Array Edge} {v : Value} (hy : Y P ⟨some d, op, t, pos, af, none⟩ e w v) (h : OpsX P full rest (upd e d v) w K) :
    OpsX P full (⟨some d, op, t, pos, af, none⟩ :: rest) e w K := OpsX.go (by unfold Op1; rw [hy]; exact h)
/-- A call of yield. -/
theorem OpsX.yield {d : Option Nat} {x : Operand} {l : Nat} {args : Array Operand} {ts : Array TypeId} {vs : List Value} {t : TypeId} {pos : String} {af : Array Edge} {R : Ending → World → Prop} (hx : ev e x = .func (.yield l) #[] #[]) (ha : args.toList.map (ev e) = vs)
    (hy : YieldAt Fence.wide 0 P l vs.toArray w R) (k : ∀ ed w', R ed w' → ∃ v, ed = .returned v ∧ OpsX P full rest (updo e d v) w' K) :
    OpsX P full (⟨d, .call { callee := .value x, args := args, argTypes := ts }, t, pos, af, none⟩ :: rest) e w K := by
  have ha' : args.map (ev e) = vs.toArray := by rw [← ha]; apply Array.ext'; simp
  obtain ⟨fn, tmps, assign, body, hrun, hR⟩ := hy
  simp only [OpsX, runs, if_true]
  refine .inr ⟨l, fn, tmps, assign, body, w, ?_, hR.mono fun ed w' hh => ?_⟩
  · simp only [execOp, resolve, hx, Deferred.ofValue]
    simp [invoke, ha', hrun]
  · obtain ⟨v, rfl, hk⟩ := k ed w' hh
    exact hk
end

/-! ### The body of a round -/
def WPI (P : Program) (N : Nat) (l : Nat) (c : Code) (e : Env) (w : World) (Q : Exit → Env → World → Prop) : Prop :=
  slotsOk N c = true → ∀ a : Act, a.tmps.size = N → a.defers = [] → env a = e → c.wpIn (Fence.wide.inRound l) 0 P (fun x a' w' => a'.tmps.size = N ∧ a'.defers = [] ∧ Q x (env a') w') a w
section
variable {P : Program} {N l : Nat} {e : Env} {w : World} {Q : Exit → Env → World → Prop}
theorem WPI.mono {c : Code} {Q' : Exit → Env → World → Prop} (h : WPI P N l c e w Q) (hq : ∀ x e w, Q x e w → Q' x e w) : WPI P N l c e w Q' :=
  fun hs a h1 h2 h3 => wpIn_mono (h hs a h1 h2 h3) fun _ _ _ ⟨g1, g2, g3⟩ => ⟨g1, g2, hq _ _ _ g3⟩
theorem WPI.seq {x y : Code} (h : WPI P N l x e w (thenE (fun e' w' => WPI P N l y e' w' Q) Q)) : WPI P N l (.seq x y) e w Q := by
  intro hs a h1 h2 h3
  simp only [slotsOk, Bool.and_eq_true] at hs
  refine wpIn_seq (wpIn_mono (h hs.1 a h1 h2 h3) ?_)
  rintro x a' w' ⟨g1, g2, g3⟩
  cases x <;> simp only [thenE] at g3 <;> first | exact ⟨g1, g2, g3⟩ | exact g3 hs.2 a' g1 g2 rfl
theorem WPI.skip (h : Q .normal e w) : WPI P N l .skip e w Q := fun _ _ h1 h2 h3 => wpIn_skip ⟨h1, h2, h3 ▸ h⟩
theorem WPI.ret (h : Q .ret e w) : WPI P N l .ret e w Q := fun _ _ h1 h2 h3 => wpIn_ret ⟨h1, h2, h3 ▸ h⟩
theorem WPI.exit {id : Nat} (h : Q (.exit id) e w) : WPI P N l (.exit id) e w Q := fun _ _ h1 h2 h3 => wpIn_exit ⟨h1, h2, h3 ▸ h⟩
theorem WPI.goto {t : Nat} (h : Q (.goto t) e w) : WPI P N l (.goto t) e w Q := fun _ _ h1 h2 h3 => wpIn_goto ⟨h1, h2, h3 ▸ h⟩
theorem WPI.block {id : Nat} {c : Code} (h : WPI P N l c e w (blockE id Q)) : WPI P N l (.block id c) e w Q := by
  intro hs a h1 h2 h3
  refine wpIn_block (wpIn_mono (h hs a h1 h2 h3) ?_)
  rintro x a' w' ⟨g1, g2, g3⟩
  cases x <;> simp only [blockE] at g3 <;> simp only [Exit.inBlock] <;> first | exact ⟨g1, g2, g3⟩ | (split at g3 <;> rename_i hi <;> simp only [hi, if_true, if_false] <;> exact ⟨g1, g2, g3⟩)
theorem WPI.cond {c : Operand} {x y : Code} {b : Bool} (hc : ev e c = .bool b) (ht : b = true → WPI P N l x e w Q) (hf : b = false → WPI P N l y e w Q) : WPI P N l (.cond c x y) e w Q := by
  intro hs a h1 h2 h3
  simp only [slotsOk, Bool.and_eq_true] at hs
  have he : a.eval c = .bool b := by rw [eval_env, h3]; exact hc
  exact wpIn_cond_split he (fun t => ht t hs.1 a h1 h2 h3) (fun t => hf t hs.2 a h1 h2 h3)
theorem WPI.cond_dec {c : Operand} {x y : Code} {p : Prop} [Decidable p] (hc : ev e c = .bool (decide p)) (ht : p → WPI P N l x e w Q) (hf : ¬ p → WPI P N l y e w Q) : WPI P N l (.cond c x y) e w Q :=
  WPI.cond hc (fun h => ht (of_decide_eq_true h)) (fun h => hf (of_decide_eq_false h))
theorem WPI.cond_decT {c : Operand} {x y : Code} {p : Prop} [Decidable p] (hc : ev e c = .bool (decide p)) (hp : p) (ht : WPI P N l x e w Q) : WPI P N l (.cond c x y) e w Q :=
  WPI.cond_dec hc (fun _ => ht) (fun h => (h hp).elim)
theorem WPI.cond_decF {c : Operand} {x y : Code} {p : Prop} [Decidable p] (hc : ev e c = .bool (decide p)) (hp : ¬p) (hf : WPI P N l y e w Q) : WPI P N l (.cond c x y) e w Q :=
  WPI.cond_dec hc (fun h => (hp h).elim) (fun _ => hf)
theorem WPI.cond_t {c : Operand} {x y : Code} (hc : ev e c = .bool true) (ht : WPI P N l x e w Q) : WPI P N l (.cond c x y) e w Q :=
  WPI.cond hc (fun _ => ht) (fun h => by cases h)
theorem WPI.cond_f {c : Operand} {x y : Code} (hc : ev e c = .bool false) (hf : WPI P N l y e w Q) : WPI P N l (.cond c x y) e w Q :=
  WPI.cond hc (fun h => by cases h) (fun _ => hf)
theorem WPI.region {id : Nat} {ops : Array Oper} (hnd : noDefer ops.toList = true) (h : Ops P ops ops.toList e w (fun e' w' => Q .normal e' w')) : WPI P N l (.region id ops false) e w Q := by
  intro hs a h1 h2 h3
  subst h3
  refine wpIn_region ?_
  rw [List.range_eq_range']
  have key : ∀ (n k : Nat) (a : Act) (w : World), k + n = ops.size → a.tmps.size = N → a.defers = [] → Ops P ops (ops.toList.drop k) (env a) w (fun e' w' => Q .normal e' w') →
      wpOpsIn (Fence.wide.inRound l) 0 P ops (fun x a' w' => a'.tmps.size = N ∧ a'.defers = [] ∧ Q x (env a') w') (List.range' k n) a w := by
    intro n
    induction n with
    | zero =>
      intro k a w hk hs1 hd h
      rw [List.drop_eq_nil_of_le (by simp; omega)] at h
      exact ⟨hs1, hd, h⟩
    | succ n ih =>
      intro k a w hk hs1 hd h
      obtain ⟨o, ho, hdr⟩ := drop_cons hk
      have hmem : o ∈ ops.toList := by have := Array.mem_of_getElem? ho; simpa using this
      have hdo : o.dst.all (· < N) = true := (List.all_eq_true.1 hs) o hmem
      have hno : ∀ c, o.op ≠ .defer c := fun c e => by have := (List.all_eq_true.1 hnd) o hmem; simp [e] at this
      have hput : ∀ v, env (a.put o.dst v) = updo (env a) o.dst v := fun v => env_puto a o.dst v (by rw [hs1]; exact hdo)
      rw [hdr] at h
      simp only [List.range'_succ, wpOpsIn, ho, wanted_env]
      simp only [Ops] at h
      have step : ∀ v w', Ops P ops (ops.toList.drop (k + 1)) (updo (env a) o.dst v) w' (fun e' w' => Q .normal e' w') → wpOpsIn (Fence.wide.inRound l) 0 P ops (fun x a' w' => a'.tmps.size = N ∧ a'.defers = [] ∧ Q x (env a') w') (List.range' (k + 1) n) (a.put o.dst v) w' := fun v w' hh =>
        ih (k + 1) _ _ (by omega) (by rw [size_put, hs1]) (by rw [defers_put, hd]) (by rw [hput]; exact hh)
      split
      · rename_i hr
        rw [if_pos hr] at h
        exact uponIn_of_Op1 (fun _ => trivial) rfl (fun _ _ _ _ h => (calls_wide _ h).inRound l) hno (h.mono step)
      · rename_i hr
        rw [if_neg hr] at h
        exact ⟨fun _ _ => trivial, step _ _ h⟩
  exact key _ 0 a w (by omega) h1 h2 h
end

/-! ### Code whose activation gathers marks -/
def WPD (P : Program) (N : Nat) (D : List Deferred) (c : Code) (e : Env) (w : World) (Q : Exit → Env → World → List Deferred → Prop) : Prop :=
  slotsOk N c = true → ∀ a : Act, a.tmps.size = N → a.defers = D → env a = e → c.wp P (fun x a' w' => a'.tmps.size = N ∧ Q x (env a') w' a'.defers) a w
def thenD (next : Env → World → List Deferred → Prop) (Q : Exit → Env → World → List Deferred → Prop) : Exit → Env → World → List Deferred → Prop
  | .normal, e, w, D => next e w D
  | x, e, w, D => Q x e w D
def blockD (id : Nat) (Q : Exit → Env → World → List Deferred → Prop) : Exit → Env → World → List Deferred → Prop
  | .exit id', e, w, D => if id' = id then Q .normal e w D else Q (.exit id') e w D
  | x, e, w, D => Q x e w D
section
variable {P : Program} {N : Nat} {D : List Deferred} {e : Env} {w : World} {Q : Exit → Env → World → List Deferred → Prop}
theorem WPD.mono {c : Code} {Q' : Exit → Env → World → List Deferred → Prop} (h : WPD P N D c e w Q) (hq : ∀ x e w D, Q x e w D → Q' x e w D) : WPD P N D c e w Q' :=
  fun hs a h1 h2 h3 => wp_mono (h hs a h1 h2 h3) fun _ _ _ ⟨g1, g3⟩ => ⟨g1, hq _ _ _ _ g3⟩
theorem WPD.of {c : Code} (h : WP P N D c e w (fun x e' w' => Q x e' w' D)) : WPD P N D c e w Q :=
  fun hs a h1 h2 h3 => wp_mono (h hs a h1 h2 h3) fun _ _ _ ⟨g1, g2, g3⟩ => ⟨g1, g2 ▸ g3⟩
theorem WPD.seq {x y : Code} (h : WPD P N D x e w (thenD (fun e' w' D' => WPD P N D' y e' w' Q) Q)) : WPD P N D (.seq x y) e w Q := by
  intro hs a h1 h2 h3
  simp only [slotsOk, Bool.and_eq_true] at hs
  refine wp_seq (wp_mono (h hs.1 a h1 h2 h3) ?_)
  rintro x a' w' ⟨g1, g3⟩
  cases x <;> simp only [thenD] at g3 <;> first | exact ⟨g1, g3⟩ | exact g3 hs.2 a' g1 rfl rfl
theorem WPD.block {id : Nat} {c : Code} (h : WPD P N D c e w (blockD id Q)) : WPD P N D (.block id c) e w Q := by
  intro hs a h1 h2 h3
  refine wp_block (wp_mono (h hs a h1 h2 h3) ?_)
  rintro x a' w' ⟨g1, g3⟩
  cases x <;> simp only [blockD] at g3 <;> simp only [Exit.inBlock] <;> first | exact ⟨g1, g3⟩ | (split at g3 <;> rename_i hi <;> simp only [hi, if_true, if_false] <;> exact ⟨g1, g3⟩)
theorem WPD.cond {c : Operand} {x y : Code} {b : Bool} (hc : ev e c = .bool b) (ht : b = true → WPD P N D x e w Q) (hf : b = false → WPD P N D y e w Q) : WPD P N D (.cond c x y) e w Q := by
  intro hs a h1 h2 h3
  simp only [slotsOk, Bool.and_eq_true] at hs
  have he : a.eval c = .bool b := by rw [eval_env, h3]; exact hc
  exact wp_cond_split he (fun t => ht t hs.1 a h1 h2 h3) (fun t => hf t hs.2 a h1 h2 h3)
theorem WPD.cond_dec {c : Operand} {x y : Code} {p : Prop} [Decidable p] (hc : ev e c = .bool (decide p)) (ht : p → WPD P N D x e w Q) (hf : ¬ p → WPD P N D y e w Q) : WPD P N D (.cond c x y) e w Q :=
  WPD.cond hc (fun h => ht (of_decide_eq_true h)) (fun h => hf (of_decide_eq_false h))
theorem WPD.cond_t {c : Operand} {x y : Code} (hc : ev e c = .bool true) (ht : WPD P N D x e w Q) : WPD P N D (.cond c x y) e w Q :=
  WPD.cond hc (fun _ => ht) (fun h => by cases h)
theorem WPD.cond_f {c : Operand} {x y : Code} (hc : ev e c = .bool false) (hf : WPD P N D y e w Q) : WPD P N D (.cond c x y) e w Q :=
  WPD.cond hc (fun h => by cases h) (fun _ => hf)
theorem WPD.skip (h : Q .normal e w D) : WPD P N D .skip e w Q := fun _ _ h1 h2 h3 => wp_skip ⟨h1, h2 ▸ h3 ▸ h⟩
theorem WPD.label {l : Nat} (h : Q .normal e w D) : WPD P N D (.label l) e w Q := fun _ _ h1 h2 h3 => wp_label ⟨h1, h2 ▸ h3 ▸ h⟩
theorem WPD.ret (h : Q .ret e w D) : WPD P N D .ret e w Q := fun _ _ h1 h2 h3 => wp_ret ⟨h1, h2 ▸ h3 ▸ h⟩
theorem WPD.exit {id : Nat} (h : Q (.exit id) e w D) : WPD P N D (.exit id) e w Q := fun _ _ h1 h2 h3 => wp_exit ⟨h1, h2 ▸ h3 ▸ h⟩
theorem WPD.goto {l : Nat} (h : Q (.goto l) e w D) : WPD P N D (.goto l) e w Q := fun _ _ h1 h2 h3 => wp_goto ⟨h1, h2 ▸ h3 ▸ h⟩
theorem WPD.region {id : Nat} {ops : Array Oper} (h : Ops P ops ops.toList e w (fun e' w' => Q .normal e' w' D)) : WPD P N D (.region id ops false) e w Q := WPD.of (WP.region h)
/-- A loop; s tells all. -/
theorem WPD.loop {σ : Type} (kv : σ → List (Nat × Value)) (Df : σ → List Deferred) (J : σ → World → Prop) (μ : σ → Nat) {c : Code} (h0 : ∃ s, Has e (kv s) ∧ D = Df s ∧ J s w)
    (round : ∀ s e w, J s w → WPD P N (Df s) c (E e (kv s)) w (thenD (fun e' w' D' => ∃ s', (Has e' (kv s') ∧ D' = Df s' ∧ J s' w') ∧ μ s' < μ s) Q)) : WPD P N D (.loop c) e w Q := by
  intro hs a h1 h2 h3
  obtain ⟨s0, hh, hd, hj⟩ := h0
  intro b k cs
  have key : ∀ n s a w, μ s = n → a.tmps.size = N → a.defers = Df s → Has (env a) (kv s) → J s w →
      ∃ x a' w', (a'.tmps.size = N ∧ Q x (env a') w' a'.defers) ∧ Arrives P (lone (b.at a (.code c :: .inLoop c :: k)) cs w) b k cs x a' w' := by
    intro n
    induction n using Nat.strongRecOn with
    | _ n ih =>
      intro s a w hn g1 g2 gh hJ
      have hr := round s (env a) w hJ hs a g1 g2 (E_self gh).symm
      obtain ⟨x, a₁, w₁, ⟨q1, q3⟩, harr⟩ := hr b (.inLoop c :: k) cs
      cases x with
      | normal =>
        obtain ⟨s', ⟨k1, k2, k3⟩, hlt⟩ := q3
        obtain ⟨e₂, a₂, w₂, hq₂, harr₂⟩ := ih (μ s') (hn ▸ hlt) s' a₁ w₁ rfl q1 k2 k1 k3
        exact ⟨e₂, a₂, w₂, hq₂, .of_steps (Steps.trans harr (.one step_inLoop)) harr₂⟩
      | exit id => exact ⟨_, a₁, w₁, ⟨q1, q3⟩, .pass (x := .inLoop c) rfl (fun _ _ => .inl (by simp)) harr⟩
      | goto l => exact ⟨_, a₁, w₁, ⟨q1, q3⟩, .pass (x := .inLoop c) rfl (fun _ _ => .inl (by simp)) harr⟩
      | ret => exact ⟨_, a₁, w₁, ⟨q1, q3⟩, .pass (x := .inLoop c) rfl (fun _ _ => .inl (by simp)) harr⟩
      | panic ch => exact ⟨_, a₁, w₁, ⟨q1, q3⟩, .pass (x := .inLoop c) rfl (fun _ _ => .inl (by simp)) harr⟩
      | outgrown => exact ⟨_, a₁, w₁, ⟨q1, q3⟩, .pass (x := .inLoop c) rfl (fun _ _ => .inl (by simp)) harr⟩
  obtain ⟨x, a', w', hq, harr⟩ := key _ s0 a w rfl h1 (h2.trans hd) (h3 ▸ hh) hj
  exact ⟨x, a', w', hq, .of_steps (.one step_loop) harr⟩
/-- A scope with jumps back to one label. -/
def jumpD (l : Nat) (J : Env → World → List Deferred → Prop) (Q : Exit → Env → World → List Deferred → Prop) : Exit → Env → World → List Deferred → Prop
  | .goto l', e, w, D => l' = l ∧ J e w D
  | x, e, w, D => Q x e w D
theorem WPD.scope {σ : Type} {c rest : Code} (l : Nat) (kv : σ → List (Nat × Value)) (Df : σ → List Deferred) (J : σ → World → Prop) (μ : σ → Nat) (hf : findLabel c l = some rest) (hsr : slotsOk N rest = true)
    (first : WPD P N D c e w (jumpD l (fun e' w' D' => ∃ s, Has e' (kv s) ∧ D' = Df s ∧ J s w') Q))
    (pass : ∀ s e w, J s w → WPD P N (Df s) rest (E e (kv s)) w (jumpD l (fun e' w' D' => ∃ s', (Has e' (kv s') ∧ D' = Df s' ∧ J s' w') ∧ μ s' < μ s) Q)) : WPD P N D (.scope c) e w Q := by
  intro hs a h1 h2 h3
  intro b k cs
  have hg : gotoIn l (.inScope c :: k) = some (.code rest :: .inScope c :: k) := by simp [gotoIn, hf]
  have key : ∀ n s a w, μ s = n → a.tmps.size = N → a.defers = Df s → Has (env a) (kv s) → J s w →
      ∃ x a' w', (a'.tmps.size = N ∧ Q x (env a') w' a'.defers) ∧ Arrives P (lone (b.at a (.code rest :: .inScope c :: k)) cs w) b k cs x a' w' := by
    intro n
    induction n using Nat.strongRecOn with
    | _ n ih =>
      intro s a w hn g1 g2 gh hJ
      obtain ⟨x, a₁, w₁, ⟨q1, q3⟩, harr⟩ := pass s (env a) w hJ hsr a g1 g2 (E_self gh).symm b (.inScope c :: k) cs
      cases x with
      | normal => exact ⟨.normal, a₁, w₁, ⟨q1, q3⟩, Steps.trans harr (.one step_inScope)⟩
      | exit id => exact ⟨.exit id, a₁, w₁, ⟨q1, q3⟩, fun k' hk => harr k' (by simp [exitTo, hk])⟩
      | goto l' =>
        obtain ⟨rfl, s', ⟨k1, k2, k3⟩, hlt⟩ := q3
        obtain ⟨e₂, a₂, w₂, hq₂, harr₂⟩ := ih (μ s') (hn ▸ hlt) s' a₁ w₁ rfl q1 k2 k1 k3
        exact ⟨e₂, a₂, w₂, hq₂, .of_steps (harr _ hg) harr₂⟩
      | ret => exact ⟨_, a₁, w₁, ⟨q1, q3⟩, harr⟩
      | panic ch => exact ⟨_, a₁, w₁, ⟨q1, q3⟩, harr⟩
      | outgrown => exact ⟨_, a₁, w₁, ⟨q1, q3⟩, harr⟩
  obtain ⟨x, a₁, w₁, ⟨q1, q3⟩, harr⟩ := first hs a h1 h2 h3 b (.inScope c :: k) cs
  cases x with
  | normal => exact ⟨.normal, a₁, w₁, ⟨q1, q3⟩, .head step_scope (Steps.trans harr (.one step_inScope))⟩
  | exit id => exact ⟨.exit id, a₁, w₁, ⟨q1, q3⟩, fun k' hk => .head step_scope (harr k' (by simp [exitTo, hk]))⟩
  | goto l' =>
    obtain ⟨rfl, s', k1, k2, k3⟩ := q3
    obtain ⟨e₂, a₂, w₂, hq₂, harr₂⟩ := key _ s' a₁ w₁ rfl q1 k2 k1 k3
    exact ⟨e₂, a₂, w₂, hq₂, .of_steps (.head step_scope (harr _ hg)) harr₂⟩
  | ret => exact ⟨_, a₁, w₁, ⟨q1, q3⟩, .of_steps (.one step_scope) harr⟩
  | panic ch => exact ⟨_, a₁, w₁, ⟨q1, q3⟩, .of_steps (.one step_scope) harr⟩
  | outgrown => exact ⟨_, a₁, w₁, ⟨q1, q3⟩, .of_steps (.one step_scope) harr⟩
end

section
variable {P : Program} {N : Nat} {D : List Deferred} {e : Env} {w : World} {Q : Exit → Env → World → List Deferred → Prop}
theorem WPD.scopeL {σ : Type} {a X : Code} (l : Nat) (kv : σ → List (Nat × Value)) (Df : σ → List Deferred) (J : σ → World → Prop) (μ : σ → Nat) (hf : findLabel a l = none) (hsX : slotsOk N X = true)
    (first : WPD P N D a e w (thenD (fun e' w' D' => ∃ s, Has e' (kv s) ∧ D' = Df s ∧ J s w') (jumpD l (fun _ _ _ => False) Q)))
    (pass : ∀ s e w, J s w → WPD P N (Df s) X (E e (kv s)) w (jumpD l (fun e' w' D' => ∃ s', (Has e' (kv s') ∧ D' = Df s' ∧ J s' w') ∧ μ s' < μ s) Q)) : WPD P N D (.scope (.seq a (.seq (.label l) X))) e w Q := by
  refine WPD.scope (rest := .seq .skip X) l kv Df J μ (by simp [findLabel, hf]) (by simpa [slotsOk] using hsX) ?_ (fun s e w hj => WPD.seq (WPD.skip (pass s e w hj)))
  refine WPD.seq (first.mono ?_)
  intro x e' w' D' h
  cases x <;> simp only [thenD, jumpD] at h ⊢ <;> first | exact h | exact h.2.elim | skip
  obtain ⟨s, h1, rfl, h3⟩ := h
  refine WPD.seq (WPD.label ?_)
  have := pass s e' w' h3
  rw [E_self h1] at this
  refine this.mono ?_
  intro x e2 w2 D2 h
  cases x <;> simp only [jumpD] at h ⊢ <;> first | exact h | skip
  obtain ⟨e1, s', h5, _⟩ := h
  exact ⟨e1, s', h5⟩
end
/-! ### Marks -/
def mark (D : Nat) : Deferred := { target := .collected D, args := #[] }
def markSA (D : Nat) : SA where
  fp := [D]
  P := fun w => w.heap[D]? = some (.deferred (some []))
  loc := fun _ _ h hp => (h D (by simp)).trans hp
theorem run_takeMark {P : Program} {w : World} {D : Nat} (h : w.heap[D]? = some (.deferred (some []))) : (Instr.takeDeferred D).run P w = .ok [] (w.putObj D (.deferred none)) := run_takeDeferred h
theorem Inv.shut {B : Base} {h : Heap} {M : List SA} {w : World} {D : Nat} (I : Inv B h (markSA D :: M) w) : Inv B h M (w.putObj D (.deferred none)) := by
  have hD : w.heap[D]? = some (.deferred (some [])) := (I.own _ (List.mem_cons_self ..)).1
  have J := I.step (A' := ⟨[], fun _ => True, fun _ _ _ h => h⟩) (w' := w.putObj D (.deferred none)) rfl rfl rfl (by simp [World.putObj]) (fun b _ hb => World.putObj_heap_other (fun e => hb (by simp [markSA, e]))) trivial (fun b hb => by cases hb)
  exact J.drop
theorem leave_marks {P : Program} {fn : Func} {tmps : Array Value} {R : Ending → World → Prop} {B : Base} {h : Heap} {M : List SA} : ∀ (ms : List Nat) (w : World), Inv B h (M ++ ms.map markSA) w →
    (∀ w', Inv B h M w' → ∃ v, (results fn tmps).run P w' = .ok v w' ∧ R (.returned v) w') → LeavesInM Fence.wide 0 P fn tmps R (ms.map mark) .returning w
  | [], w, I, k => by
    simp only [List.map_nil, List.append_nil] at I
    exact k w I
  | m :: ms, w, I, k => by
    have I' : Inv B h (markSA m :: (M ++ ms.map markSA)) w := I.perm (by simp only [List.map_cons]; exact List.perm_middle.symm)
    have hD : w.heap[m]? = some (.deferred (some [])) := (I'.own _ (List.mem_cons_self ..)).1
    exact ⟨by simp, .inl ⟨m, _, rfl, run_takeMark hD, leave_marks ms _ I'.shut k⟩⟩
def doneQ (P : Program) (fn : Func) (B : Base) (Post : Value → Heap → Prop) (x : Exit) (e : Env) (w : World) (D : List Deferred) : Prop :=
  (x = .ret ∨ x = .normal) ∧ ∃ (ms : List Nat) (M : List SA) (h' : Heap) (vs : List Value), D = ms.map mark ∧ Inv B h' (M ++ ms.map markSA) w ∧ (∀ w2, Inv B h' M w2 → RV P e w2 fn.results.toList vs) ∧ Post (tup vs) h'
theorem Fn.ofD {P : Program} {f : FuncId} {fn : Func} {c : Code} {N : Nat} {args : List Value} {B : Base} {Post : Value → Heap → Prop} (hf : P.funcs[f]? = some fn) (hb : fn.body = some c) (hN : fn.ntmps = N) (hs : slotsOk N c = true)
    (hl : args.length ≤ N) (h : ∀ e, WPD P N [] c (E e (argsE 0 args)) B.w (doneQ P fn B Post)) : Fn P f args B Post := by
  refine callsIn_wide.1 (callsIn_of_wp_marks (n := 0) hf hb trivial ?_)
  refine wpIn_wide.2 ?_
  subst hN
  refine wp_mono (h _ hs { tmps := args.toArray ++ Array.replicate (fn.ntmps - args.toArray.size) undef, defers := [] } (by simp; omega) rfl (E_self (has_args args 0 fun j v hv => ?_)).symm) ?_
  · have hj := (List.getElem?_eq_some_iff.1 hv).1
    have hg : args[j] = v := (List.getElem?_eq_some_iff.1 hv).2
    simp [env, Array.getD_eq_getD_getElem?, Array.getElem?_append, hj, hg]
  · rintro x a' w' ⟨_, hx, ms, M, h', vs, hd, I, hv, hp⟩
    have : LeavesInM Fence.wide 0 P fn a'.tmps (fun x w' => ∃ v h', x = .returned v ∧ Ext B w' h' ∧ Post v h') a'.defers .returning w' := by
      rw [hd]
      exact leave_marks ms w' I fun w2 I2 => ⟨_, results_run rfl (hv w2 I2), _, h', rfl, I2.ext_of, hp⟩
    rcases hx with rfl | rfl <;> exact this

def callQ (P : Program) (fn : Func) (R : Ending → World → Prop) (x : Exit) (e : Env) (w : World) : Prop := (x = .ret ∨ x = .normal) ∧ ∃ vs, RV P e w fn.results.toList vs ∧ R (.returned (tup vs)) w
theorem Calls.ofWP {P : Program} {f : FuncId} {fn : Func} {c : Code} {N : Nat} {args : List Value} {w : World} {R : Ending → World → Prop} (hf : P.funcs[f]? = some fn) (hb : fn.body = some c) (hN : fn.ntmps = N) (hs : slotsOk N c = true)
    (hl : args.length ≤ N) (h : ∀ e, WP P N [] c (E e (argsE 0 args)) w (callQ P fn R)) : Calls P f args.toArray w R := by
  refine calls_of_wp hf hb ?_
  subst hN
  refine wp_mono (h _ hs { tmps := args.toArray ++ Array.replicate (fn.ntmps - args.toArray.size) undef, defers := [] } (by simp; omega) rfl (E_self (has_args args 0 fun j v hv => ?_)).symm) ?_
  · have hj := (List.getElem?_eq_some_iff.1 hv).1
    have hg : args[j] = v := (List.getElem?_eq_some_iff.1 hv).2
    simp [env, Array.getD_eq_getD_getElem?, Array.getElem?_append, hj, hg]
  · rintro x a' w' ⟨_, g2, hx, vs, hv, hr⟩
    rcases hx with rfl | rfl <;> exact ⟨g2, _, results_run rfl hv, hr⟩
theorem thenD_ret {K : Env → World → List Deferred → Prop} {Q : Exit → Env → World → List Deferred → Prop} {e : Env} {w : World} {D : List Deferred} (h : Q .ret e w D) : thenD K Q .ret e w D := h
theorem blockD_ret {id : Nat} {Q : Exit → Env → World → List Deferred → Prop} {e : Env} {w : World} {D : List Deferred} (h : Q .ret e w D) : blockD id Q .ret e w D := h
theorem rdHb {h : Heap} {b : Nat} {cs : List Value} {T : TypeId} {f : Nat × Nat} (hp : h b = some (.cells cs.toArray T f)) (o n : Nat) : RdH h b o ((cs.drop o).take n) := fun j v e => by
  rw [List.getElem?_take] at e
  split at e
  · rw [List.getElem?_drop] at e; simp [Heap.cell, hp, e]
  · cases e
/-! ### The statement -/
/-- An iterator's contract: it hands xs to yield, one behind the other, and keeps nothing of the caller's from what it was; hg: what is known for good, of the caller's and of its own. -/
def Iter {α : Type} (P : Program) (g : FuncId) (lb : List Value) (encs : α → List Value) (xs : List α) (h : Heap) : Prop :=
  ∀ (l : Nat) (J : Heap → Nat → World → Prop) (Jx : World → Prop) (hg : Heap) (W : World), h.le hg → J hg 0 W →
    (∀ hg k W, J hg k W → Base.ok ⟨W, hg⟩) →
    (∀ hg k W hg' W', J hg k W → Ext ⟨W, hg⟩ W' hg' → J hg' k W') →
    (∀ hg' k x W, hg.le hg' → xs[k]? = some x → J hg' k W → YieldAt Fence.wide 0 P l (encs x).toArray W fun ed W' => (ed = .returned (.bool true) ∧ ∃ h2, hg'.le h2 ∧ J h2 (k + 1) W') ∨ (ed = .returned (.bool false) ∧ Jx W')) →
    Calls P g (#[.func (.yield l) #[] #[]] ++ lb.toArray) W fun ed W' => (∃ v, ed = .returned v) ∧ ((∃ hg', hg.le hg' ∧ J hg' xs.length W') ∨ Jx W')
theorem Iter.le {α : Type} {P : Program} {g : FuncId} {lb : List Value} {encs : α → List Value} {xs : List α} {h h' : Heap} (it : Iter P g lb encs xs h) (hl : h.le h') : Iter P g lb encs xs h' :=
  fun l J Jx hg W h1 => it l J Jx hg W (hl.trans h1)

inductive Jmp where
  | ret
  | exit (id : Nat)
  | goto (t : Nat)
def Jmp.code : Jmp → Code
  | .ret => .ret
  | .exit id => .exit id
  | .goto t => .goto t
def Jmp.ex : Jmp → Exit
  | .ret => .ret
  | .exit id => .exit id
  | .goto t => .goto t
def loopSA (l : Nat) (r : Loop) : SA where
  fp := [l]
  P := fun w => w.heap[l]? = some (.loop r)
  loc := fun _ _ h hp => (h l (by simp)).trans hp
theorem Inv.setLoop {B : Base} {h : Heap} {X Y : List SA} {w : World} {l : Nat} {r : Loop} (r' : Loop) (I : Inv B h (X ++ loopSA l r :: Y) w) : Inv B h (X ++ loopSA l r' :: Y) (w.putObj l (.loop r')) := by
  have I1 : Inv B h (loopSA l r :: (X ++ Y)) w := I.perm List.perm_middle.symm
  have hl : w.heap[l]? = some (.loop r) := (I1.own _ (List.mem_cons_self ..)).1
  have hlt := (Array.getElem?_eq_some_iff.1 hl).1
  have J := I1.step (A' := loopSA l r') (w' := w.putObj l (.loop r')) rfl rfl rfl (by simp [World.putObj]) (fun b _ hb => World.putObj_heap_other (fun e => hb (by simp [loopSA, e]))) (World.putObj_heap_same hlt)
    (fun b hb => ⟨.inl (by simpa [loopSA] using hb), by simp [loopSA] at hb; subst hb; simpa [World.putObj] using hlt⟩)
  exact J.perm List.perm_middle
theorem Inv.getLoop {B : Base} {h : Heap} {X Y : List SA} {w : World} {l : Nat} {r : Loop} (I : Inv B h (X ++ loopSA l r :: Y) w) : w.heap[l]? = some (.loop r) := (I.own (loopSA l r) (by simp)).1
theorem Inv.outLoop {B : Base} {h : Heap} {X Y : List SA} {w : World} {l : Nat} {r : Loop} (I : Inv B h (X ++ loopSA l r :: Y) w) : Inv B h (X ++ Y) w := I.weak ((List.sublist_cons_self _ _).append_left X)
/-- The round's slots: the activation's, with what yield was handed. -/
def argE (e : Env) : List (Nat × Value) → Env
  | [] => e
  | p :: r => argE (upd e p.1 p.2) r
theorem env_args {N : Nat} : ∀ (l : List (Nat × Value)) (t : Array Value), t.size = N → (∀ p ∈ l, p.1 < N) → env { tmps := l.foldl (fun t p => t.setIfInBounds p.1 p.2) t, defers := [] } = argE (env { tmps := t, defers := [] }) l ∧ (l.foldl (fun t p => t.setIfInBounds p.1 p.2) t).size = N
  | [], t, hs, _ => ⟨rfl, hs⟩
  | p :: l, t, hs, hp => by
    have ih := env_args l (t.setIfInBounds p.1 p.2) (by simpa using hs) (fun q hq => hp q (List.mem_cons_of_mem _ hq))
    have h1 : env { tmps := t.setIfInBounds p.1 p.2, defers := [] } = upd (env { tmps := t, defers := [] }) p.1 p.2 := env_put { tmps := t, defers := [] } p.1 p.2 (by have := hp p (List.mem_cons_self ..); simpa [hs] using this)
    simp only [List.foldl_cons, argE, ← h1]
    exact ih
/-- What a round owes at its end. -/
def roundQ (B : Base) (hg : Heap) {σ : Type} (U : σ → List SA) (T : List SA) (Jn : σ → Prop) (Jx : Jmp → σ → Prop) : Exit → Env → World → Prop
  | .normal, _, W => ∃ h2 s X, hg.le h2 ∧ Inv B h2 (X ++ (U s ++ T)) W ∧ Jn s
  | .ret, _, W => ∃ h2 s X, hg.le h2 ∧ Inv B h2 (X ++ (U s ++ T)) W ∧ Jx .ret s
  | .exit id, _, W => ∃ h2 s X, hg.le h2 ∧ Inv B h2 (X ++ (U s ++ T)) W ∧ Jx (.exit id) s
  | .goto t, _, W => ∃ h2 s X, hg.le h2 ∧ Inv B h2 (X ++ (U s ++ T)) W ∧ Jx (.goto t) s
  | _, _, _ => False
theorem WPD.rangeFunc {α σ : Type} {P : Program} {N : Nat} {e : Env} {w : World} {Q : Exit → Env → World → List Deferred → Prop} {B : Base} {h : Heap} {ms : List Nat} {g : Operand} {ps : Array Tmp} {assign body : Code} {gf : FuncId} {lb : List Value}
    {encs : α → List Value} {xs : List α} (U : σ → List SA) (Jc : Nat → σ → Prop) (Jx : Jmp → σ → Prop) (s0 : σ) (I : Inv B h (U s0 ++ ms.map markSA) w) (j0 : Jc 0 s0)
    (hg : ev e g = .func (.func gf) #[] lb.toArray) (eg : Enters P gf) (it : Iter P gf lb encs xs h) (hps : ∀ x, (encs x).length = ps.size) (hpN : ps.toList.all (· < N) = true) (hsa : slotsOk N assign = true) (hsb : slotsOk N body = true)
    (round : ∀ (l : Nat) (r : Loop) (ms' : List Nat) (hg : Heap) (k : Nat) (x : α) (s : σ) (W : World), xs[k]? = some x → h.le hg → Inv B hg (U s ++ (loopSA l r :: ms'.map markSA)) W → Jc k s →
      WPI P N l assign (argE e (ps.toList.zip (encs x))) W (thenE (fun e1 W1 => ∃ h1 X, hg.le h1 ∧ Inv B h1 (X ++ (U s ++ (loopSA l r :: ms'.map markSA))) W1 ∧
        ∀ r' W2, Inv B h1 (X ++ (U s ++ (loopSA l r' :: ms'.map markSA))) W2 → WPI P N l body e1 W2 (roundQ B h1 U (loopSA l r' :: ms'.map markSA) (Jc (k + 1)) Jx)) (fun _ _ _ => False)))
    (hdone : ∀ D h2 s W, h.le h2 → Inv B h2 (U s ++ (D :: ms).map markSA) W → Jc xs.length s → Q .normal e W ((D :: ms).map mark))
    (hstop : ∀ D c h2 s W, h.le h2 → Inv B h2 (U s ++ (D :: ms).map markSA) W → Jx c s → Q c.ex e W ((D :: ms).map mark)) :
    WPD P N (ms.map mark) (.rangeFunc g ps assign body) e w Q := by
  intro _ a h1 h2 h3
  subst h3
  refine (wpIn_wide (n := 1)).1 (wpIn_rangeFunc ?_)
  intro fn _
  obtain ⟨rec, hrec⟩ : ∃ rec : LoopState → Option Code → Loop, rec = fun st pe => { state := st, pending := pe, fn, tmps := a.tmps, params := ps, assign, body, defers := w.heap.size } := ⟨_, rfl⟩
  obtain ⟨l, hl⟩ : ∃ l, l = w.heap.size + 1 := ⟨_, rfl⟩
  obtain ⟨W1, hW1⟩ : ∃ W1, (w.alloc (.deferred (some []))).alloc (.loop (rec .ready none)) = W1 := ⟨_, rfl⟩
  have I1 : Inv B h (U s0 ++ (loopSA l (rec .ready none) :: (w.heap.size :: ms).map markSA)) W1 := by
    have J1 : Inv B h (markSA w.heap.size :: (U s0 ++ ms.map markSA)) (w.alloc (.deferred (some []))) := I.gain (Grow.alloc w _) (World.alloc_heap_new w _) (fun b hb => by simp [markSA] at hb; subst hb; simp)
    have J2 : Inv B h (loopSA l (rec .ready none) :: (markSA w.heap.size :: (U s0 ++ ms.map markSA))) W1 := by
      rw [← hW1]
      refine J1.gain (Grow.alloc _ _) ?_ (fun b hb => ?_)
      · have := World.alloc_heap_new (w.alloc (.deferred (some []))) (.loop (rec .ready none))
        rw [World.size_alloc] at this
        rw [hl]; exact this
      · simp [loopSA] at hb; subst hb; rw [hl]; simp
    refine J2.perm ?_
    refine List.perm_middle.trans ?_
    refine List.Perm.cons _ ?_
    exact List.perm_middle
  refine ⟨l, [mark w.heap.size], W1, { target := .fn (.func gf) lb.toArray, args := #[.func (.yield l) #[] #[]] }, W1, gf, #[.func (.yield l) #[] #[]] ++ lb.toArray, W1, ?_, ?_, fun _ _ => trivial, ?_, (fun hd => by cases hd), ?_⟩
  · rw [← hW1, hrec, hl]; exact run_enterLoop_outer _ _ _ _ _
  · rw [eval_env]
    have hg' : ev (env a) g = .func (.func gf) #[] lb.toArray := hg
    simp only [resolve, hg']
    simp [go_sem]
    rfl
  · simp [invoke, go_sem]; exact eg _ _
  · refine callsIn_wide.2 ?_
    refine (it l (fun hg k W => h.le hg ∧ ∃ s, Inv B hg (U s ++ (loopSA l (rec .ready none) :: (w.heap.size :: ms).map markSA)) W ∧ Jc k s)
      (fun W => ∃ c hg s, h.le hg ∧ Inv B hg (U s ++ (loopSA l (rec .done (some c.code)) :: (w.heap.size :: ms).map markSA)) W ∧ Jx c s) h W1 (Heap.le.refl h) ⟨Heap.le.refl h, s0, I1, j0⟩
      (fun hg k W ⟨_, s, I, _⟩ => I.base_ok) (fun hg k W hg' W' ⟨g1, s, I, hj⟩ X => ⟨g1.trans X.ext, s, I.called X, hj⟩) ?_).mono ?_
    · rintro hg' k x W g0 hx ⟨g1, s, IW, hj⟩
      have hL := IW.getLoop
      have hy := run_yield (P := P) (args := (encs x).toArray) hL (by rw [hrec]; simpa using hps x)
      refine ⟨_, _, _, _, hy, roundIn_of_wpIn trivial ?_⟩
      rw [hrec]
      have hfold : (ps.zip (encs x).toArray).foldl (fun tmps (t, a) => tmps.setIfInBounds t a) a.tmps = (ps.toList.zip (encs x)).foldl (fun t p => t.setIfInBounds p.1 p.2) a.tmps := by
        rw [← Array.foldl_toList]; simp
      have hE := env_args (N := N) (ps.toList.zip (encs x)) a.tmps h1 (fun p hp => by
        have := (List.all_eq_true.1 hpN) p.1 (List.of_mem_zip hp).1
        simpa using this)
      have henv : env { tmps := a.tmps, defers := [] } = env a := rfl
      rw [henv] at hE
      have hR := round l (rec .ready none) (w.heap.size :: ms) hg' k x s W hx g1 IW hj hsa { tmps := (ps.toList.zip (encs x)).foldl (fun t p => t.setIfInBounds p.1 p.2) a.tmps, defers := [] } hE.2 rfl hE.1
      simp only [hfold]
      refine wpIn_mono hR ?_
      rintro x1 a1 w1 ⟨k1, k2, k3⟩
      cases x1 <;> simp only [thenE] at k3 <;> first | exact k3.elim | skip
      obtain ⟨hg1, X, gl1, IX, hb⟩ := k3
      have IX' : Inv B hg1 ((X ++ U s) ++ (loopSA l (rec .ready none) :: (w.heap.size :: ms).map markSA)) w1 := by rw [List.append_assoc]; exact IX
      refine ⟨_, run_beginRound IX'.getLoop (by rw [hrec]), ?_⟩
      have I2 := IX'.setLoop { rec .ready none with state := .busy }
      rw [List.append_assoc] at I2
      refine wpIn_mono (hb _ _ I2 hsb a1 k1 k2 rfl) ?_
      have fin : ∀ (jump : Option Code) (h2 : Heap) (s2 : σ) (X2 : List SA) (W3 : World), Inv B h2 (X2 ++ (U s2 ++ (loopSA l { rec .ready none with state := .busy } :: (w.heap.size :: ms).map markSA))) W3 →
          ∃ W4, (Instr.endRound l jump).run P W3 = .ok (.bool jump.isNone) W4 ∧ Inv B h2 (U s2 ++ (loopSA l (rec (if jump.isNone then .ready else .done) jump) :: (w.heap.size :: ms).map markSA)) W4 := fun jump h2 s2 X2 W3 I3 => by
        have I3' : Inv B h2 (U s2 ++ (loopSA l { rec .ready none with state := .busy } :: (w.heap.size :: ms).map markSA)) W3 := I3.weak (List.sublist_append_right _ _)
        have := run_endRound (P := P) jump I3'.getLoop
        refine ⟨_, this, ?_⟩
        have I4 := I3'.setLoop (rec (if jump.isNone then .ready else .done) jump)
        rw [hrec] at I4 ⊢
        exact I4
      rintro x2 a2 w2 ⟨q1, q2, q3⟩
      cases x2 <;> simp only [roundQ] at q3 <;> simp only [roundPost] <;> first | exact q3.elim | skip
      · obtain ⟨h2, s2, X2, gl2, I3, hj2⟩ := q3
        obtain ⟨W4, hr, I4⟩ := fin none h2 s2 X2 _ I3
        exact ⟨_, _, hr, .inl ⟨rfl, h2, gl1.trans gl2, (g1.trans gl1).trans gl2, s2, (by rw [hrec] at I4; exact I4), hj2⟩⟩
      · rename_i id
        obtain ⟨h2, s2, X2, gl2, I3, hj2⟩ := q3
        obtain ⟨W4, hr, I4⟩ := fin (some (.exit id)) h2 s2 X2 _ I3
        exact ⟨_, _, hr, .inr ⟨rfl, .exit id, h2, s2, (g1.trans gl1).trans gl2, (by rw [hrec] at I4; exact I4), hj2⟩⟩
      · rename_i t
        obtain ⟨h2, s2, X2, gl2, I3, hj2⟩ := q3
        obtain ⟨W4, hr, I4⟩ := fin (some (.goto t)) h2 s2 X2 _ I3
        exact ⟨_, _, hr, .inr ⟨rfl, .goto t, h2, s2, (g1.trans gl1).trans gl2, (by rw [hrec] at I4; exact I4), hj2⟩⟩
      · obtain ⟨h2, s2, X2, gl2, I3, hj2⟩ := q3
        obtain ⟨W4, hr, I4⟩ := fin (some .ret) h2 s2 X2 _ I3
        exact ⟨_, _, hr, .inr ⟨rfl, .ret, h2, s2, (g1.trans gl1).trans gl2, (by rw [hrec] at I4; exact I4), hj2⟩⟩
    · rintro ed W2 ⟨⟨v, rfl⟩, (⟨hg', gl, g1, s, I2, hj⟩ | ⟨c, hg', s, g1, I2, hj⟩)⟩
      · refine ⟨none, _, by have := run_endLoop (P := P) I2.getLoop (by rw [hrec]; simp); rw [hrec] at this; exact this, ?_⟩
        have I3 := (I2.setLoop { rec .ready none with state := .exhausted }).outLoop
        refine ⟨h1, ?_⟩
        have hq := hdone w.heap.size hg' s _ g1 (by rw [hrec] at I3; exact I3) hj
        have hq' : Q .normal (env a) (W2.putObj l (.loop { rec .ready none with state := .exhausted })) (mark w.heap.size :: a.defers) := by rw [h2]; rw [hrec]; exact hq
        rw [hrec] at hq'
        exact hq'
      · refine ⟨some c.code, _, by have := run_endLoop (P := P) I2.getLoop (by rw [hrec]; simp); rw [hrec] at this; exact this, ?_⟩
        have I3 := (I2.setLoop { rec .done (some c.code) with state := .exhausted }).outLoop
        have hq := hstop w.heap.size c hg' s _ g1 (by rw [hrec] at I3; exact I3) hj
        have hq' : Q c.ex (env a) (W2.putObj l (.loop { rec .done (some c.code) with state := .exhausted })) (mark w.heap.size :: a.defers) := by rw [h2]; rw [hrec]; exact hq
        rw [hrec] at hq'
        cases c with
        | ret => exact wpIn_ret ⟨h1, hq'⟩
        | exit id => exact wpIn_exit ⟨h1, hq'⟩
        | goto t => exact wpIn_goto ⟨h1, hq'⟩

theorem WPI.cutL {P : Program} {N l : Nat} {e : Env} {w : World} {Q : Exit → Env → World → Prop} {x : Code} {σ : Type} (kv : σ → List (Nat × Value)) (J : σ → World → Prop)
    (hx : WPI P N l x e w (thenE (fun e' w' => ∃ s, Has e' (kv s) ∧ J s w') Q)) (hy : ∀ s e' w', J s w' → Q .normal (E e' (kv s)) w') : WPI P N l x e w Q := by
  refine hx.mono ?_
  intro x e' w' h
  cases x <;> first | exact h | skip
  obtain ⟨s, h1, h2⟩ := h
  have := hy s e' w' h2
  rwa [E_self h1] at this

/-! ### Slices of one cell an element, made whole and written -/
section
variable {P : Program} {e : Env} {w : World} {B : Base} {h : Heap} {M : List SA} {d : Option Nat} {t : TypeId} {pos : String} {af : Array Edge} {g : Option (Nat × Bool)} {K : Value → World → Prop}
theorem O.make1 {T el bytes n : Nat} {z zc : Value} {x y : Operand} {k k' : IntKind} (I : Inv B h M w) (hT : Und P T (.slice el)) (he : ElT P el 1 bytes z) (hzc : z.cells = #[zc]) (hx : ev e x = .int k (n : Int)) (hy : ev e y = .int k' (n : Int)) (hb : bytes * n ≤ 140737488355328) (hn : n ≤ 140737488355328)
    (kk : ∀ b w', Inv B h (TF.box b (List.replicate n zc) el :: M) w' → K (.slice (some ⟨b, 0, none⟩) n n) w') : Op1 P ⟨d, .makeSlice T x y, t, pos, af, g⟩ e w K := by
  obtain ⟨i, hi, hz, hs, hby⟩ : ∃ i, P.info? el = some i ∧ i.zero = some z ∧ i.size = 1 ∧ i.bytes = bytes := by
    have := he.info
    cases h : P.info? el with
    | none => simp [h] at this
    | some i => simp [h] at this; exact ⟨i, rfl, this.1, this.2.1, this.2.2⟩
  have hb' : (i.bytes : Int) * (n : Int) ≤ 281474976710656 := by
    have h : ((i.bytes * n : Nat) : Int) ≤ 281474976710656 := by rw [hby]; omega
    rwa [Int.natCast_mul] at h
  have hr := run_make (P := P) w T el i z hT hi hz k k' n n (by omega) (Int.le_refl _) hb' (by omega)
  have hc : madeCells z.cells ((n : Int).toNat * i.size) = (List.replicate n zc).toArray := by
    rw [hs, hzc]
    apply Array.ext'
    simp [madeCells, Nat.mod_one]
    apply List.ext_getElem <;> simp
  rw [hc] at hr
  simp only [Int.toNat_natCast] at hr
  have : (execOp (ev e) ⟨d, .makeSlice T x y, t, pos, af, g⟩).run P w = .ok (.value (.slice (some ⟨w.heap.size, 0, none⟩) n n)) (w.alloc (.cells (List.replicate n zc).toArray el)) := by
    simp [execOp, hx, hy, hr]
  unfold Op1
  rw [this]
  exact kk _ _ (I.alloc _ _)
theorem putAt_one {α : Type} (f : α → Value) (L : List α) (i : Nat) (v : α) (hi : i < L.length) : putAt (L.map f) i [f v] = (L.set i v).map f := by
  rw [putAt_eq _ _ _ (by simp; omega), List.map_set]
  apply List.ext_getElem?
  intro j
  simp only [List.getElem?_append, List.length_append, List.length_take, List.length_map, List.length_cons, List.length_nil, List.getElem?_take, List.getElem?_drop, List.getElem?_set, Nat.min_eq_left (Nat.le_of_lt hi)]
  by_cases h1 : j < i
  · simp [h1, show j < i + 1 by omega, show i ≠ j by omega]
  · by_cases h2 : j = i
    · subst h2; simp [hi]
    · simp [show ¬ j < i + 1 by omega, show i ≠ j by omega, show i + 1 + (j - (i + 1)) = j by omega]
theorem O.store1 {T T' : TypeId} {a x : Operand} {b o : Nat} {α : Type} {f : α → Value} {L : List α} {i : Nat} {v : α} (I : Inv B h M w) (hT : Ty P T 1 false) (n : Nat) (hn : M[n]? = some (TF.box b (L.map f) T')) (ha : ev e a = .pointer (some ⟨b, o, none⟩)) (ho : o = i) (hi : i < L.length) (hx : ev e x = f v)
    (hc : (f v).cells = #[f v]) (h1 : (f v).oneCell' = true) (k : ∀ w', Inv B h (M.set n (TF.box b ((L.set i v).map f) T')) w' → K undef w') : Op1 P ⟨d, .store T a x, t, pos, af, g⟩ e w K := by
  subst ho
  exact O.store I hT n hn ha hx (vs := [f v]) hc rfl (by simp [oneCells, h1]) (by simp; omega) (putAt_one f L o v hi) k
theorem Inv.rdL {b T : Nat} {α : Type} {f : α → Value} {L : List α} {i : Nat} {v : α} (I : Inv B h M w) (n : Nat) (hn : M[n]? = some (box b (L.map f) T)) {o : Nat} (ho : o = i) (hi : L[i]? = some v) : Rd w b o [f v] := fun j u e => by
  subst ho
  have hb : w.heap[b]? = some (.cells (L.map f).toArray T (0, 0)) := I.at n hn
  cases j with
  | zero => simp at e; subst e; simp [World.cell?, hb, hi]
  | succ j => simp at e
end
end Go.TF
end
section
/- A queue of the call's own: a slice that is read in front, cut there, and appended to behind; conversions of pieces; string ranges. -/
namespace Go.TF
open Go Go.RowKit

/-- A piece told otherwise. -/
theorem Inv.conv {B : Base} {h : Heap} {M : List SA} {w : World} (I : Inv B h M w) (n : Nat) {A A' : SA} (hn : M[n]? = some A) (hf : ∀ b ∈ A'.fp, b ∈ A.fp) (hP : A.P w → A'.P w) : Inv B h (M.set n A') w :=
  I.stepAt n hn rfl rfl rfl (Nat.le_refl _) (fun _ _ _ => rfl) (hP (I.at n hn)) (fun b hb => by
    have hA := (I.own A (List.mem_of_getElem? hn)).2 b (hf b hb)
    exact ⟨.inl (hf b hb), hA.2.1⟩)
/-- Elements of one cell each, from o on, in block g, room for c. -/
def ownQ (e : TypeId) (g o c : Nat) (xs : List Value) : SA where
  fp := [g]
  P := fun w => ∃ cur : Array Value, w.heap[g]? = some (.cells cur e (0, 0)) ∧ xs.length ≤ c ∧ o + c ≤ cur.size ∧ (cur.toList.drop o).take xs.length = xs
  loc := fun w w' h hp => by
    obtain ⟨cur, h1, h2⟩ := hp
    exact ⟨cur, (h g (by simp)).trans h1, h2⟩
section
variable {P : Program} {e : Env} {w : World} {B : Base} {h : Heap} {M : List SA} {d : Option Nat} {t : TypeId} {pos : String} {af : Array Edge} {g : Option (Nat × Bool)} {K : Value → World → Prop}
theorem O.mkbox {T el k n : Nat} {parts : Array (Nat × Operand)} {z : Value} {cs : List Value} (I : Inv B h M w) (hT : Und P T (.slice el)) (hk : ∀ w, (sizeOf el).run P w = .ok k w) (hz : Zero P el z) (hs : n * k ≤ 16777216) (h0 : n * k ≠ 0)
    (hf : fillL (fun i => some (i * k, k)) ((List.range (n * k)).map fun i => (cellsL z)[i % k]!) (parts.toList.map fun (i, x) => (i, ev e x)) = some cs) (hzc : (cellsL z).length = k)
    (kk : ∀ b w', Inv B h (TF.box b cs el :: M) w' → K (.slice (some ⟨b, 0, none⟩) n n) w') :
    Op1 P ⟨d, .buildSlice T n parts, t, pos, af, g⟩ e w K := by
  have h3 : (parts.map fun (i, x) => (i, ev e x)).toList = parts.toList.map fun (i, x) => (i, ev e x) := by simp
  have h4 := fill_eq (fun i => some (i * k, k)) (parts.toList.map fun (i, x) => (i, ev e x)) ((List.range (n * k)).map fun i => (cellsL z)[i % k]!)
  rw [hf] at h4
  have hrun : (execOp (ev e) ⟨d, .buildSlice T n parts, t, pos, af, g⟩).run P w = .ok (.value (.slice (some ⟨w.heap.size, 0, none⟩) n n)) (w.alloc (.cells cs.toArray el)) := by
    have hs' : ¬ (n * k > 2 ^ 24) := by simp; omega
    simp only [execOp, Instr.buildSlice, Sem.run_bind, run_underlying hT, Result.andThen_ok, hk w, h3, if_neg hs', if_neg h0, hz w]
    have h5 : (Array.map (fun x => z.cells[x % z.cells.size]!) (Array.range (n * k))) = ((List.range (n * k)).map fun i => (cellsL z)[i % k]!).toArray := by
      apply Array.ext'
      simp [cells_eq z, hzc]
    simp only [Sem.run_pure, Result.andThen_ok]
    rw [h5, h4]
    simp [newRow]
  unfold Op1
  rw [hrun]
  exact kk _ _ (I.gain (A := TF.box w.heap.size cs el) (Grow.alloc w _) (heap_alloc_new w _) (fun b hb => by simp [TF.box] at hb; subst hb; simp))
end

/-! ### Ranges over strings -/
def sit (b : Nat) (s : ByteArray) (i : Nat) : SA where
  fp := [b]
  P := fun w => w.heap[b]? = some (.stringIter s i)
  loc := fun _ _ h hp => (h b (by simp)).trans hp
section
variable {P : Program} {e : Env} {w : World} {B : Base} {h : Heap} {M : List SA} {d : Option Nat} {t : TypeId} {pos : String} {af : Array Edge} {g : Option (Nat × Bool)} {K : Value → World → Prop}
theorem O.ranges {T : Nat} {x : Operand} {s : ByteArray} (I : Inv B h M w) (hT : Und P T .string) (hx : ev e x = .string s) (kk : ∀ b w', Inv B h (sit b s 0 :: M) w' → K (.pointer (some ⟨b, 0, none⟩)) w') :
    Op1 P ⟨d, .range T x, t, pos, af, g⟩ e w K := by
  have : (execOp (ev e) ⟨d, .range T x, t, pos, af, g⟩).run P w = .ok (.value (.pointer (some ⟨w.heap.size, 0, none⟩))) (w.iter s 0) := by
    simp [execOp, hx, run_range_string w T s hT]
  unfold Op1
  rw [this]
  exact kk _ _ (I.gain (A := sit w.heap.size s 0) (Grow.alloc w _) (World.iter_heap w s 0) (fun b hb => by simp [sit] at hb; subst hb; simp [World.iter]))
theorem O.nexts {x : Operand} {b i : Nat} {s : ByteArray} (I : Inv B h M w) (n : Nat) (hn : M[n]? = some (sit b s i)) (hx : ev e x = .pointer (some ⟨b, 0, none⟩))
    (k0 : ¬ i < s.size → K (.tuple #[.bool false]) w)
    (k1 : i < s.size → ∀ w', Inv B h (M.set n (sit b s (i + (Utf8.decode s i).2))) w' → K (.tuple #[.bool true, .int .i64 i, .int .i32 (Utf8.decode s i).1]) w') :
    Op1 P ⟨d, .next x true, t, pos, af, g⟩ e w K := by
  have hb : w.heap[b]? = some (.stringIter s i) := I.at n hn
  have hg : (getObj b).run P w = .ok (.stringIter s i) w := getObj_run hb (by intro c t f h; cases h)
  have hset := fun o => setObj_run (P := P) (o' := o) hb (by intro c t f h; cases h)
  unfold Op1
  by_cases hlt : i < s.size
  · have hrun : (execOp (ev e) ⟨d, .next x true, t, pos, af, g⟩).run P w = .ok (.value (.tuple #[.bool true, .int .i64 i, .int .i32 (Utf8.decode s i).1])) { w with heap := w.heap.setIfInBounds b (.stringIter s (i + (Utf8.decode s i).2)) } := by
      simp [execOp, hx, Instr.next, hg, hlt, hset, goInt]
    rw [hrun]
    exact k1 hlt _ (I.setObj n hn rfl rfl fun w' hw' => hw')
  · have hrun : (execOp (ev e) ⟨d, .next x true, t, pos, af, g⟩).run P w = .ok (.value (.tuple #[.bool false])) w := by
      simp [execOp, hx, Instr.next, hg, hlt]
    rw [hrun]
    exact k0 hlt
end
end Go.TF
end
