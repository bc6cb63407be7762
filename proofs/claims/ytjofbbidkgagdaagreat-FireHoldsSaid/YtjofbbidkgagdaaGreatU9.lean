/- Texts Fir10 Open FirLaw2. -/
import Derived.Test.YtjofbbidkgagdaaGreatU8
import Derived.Test.YtjofbbidkgagdaaGreatU2
import Derived.Deep.Slices
import Derived.SizedLaws
import Derived.OpenShut
import Derived.ChangeArms
section
/- What stands in a rule; all steps of a rule, as the document tells them. -/
namespace Go.TF
open Go Go.RowKit Go.Proofs
set_option maxRecDepth 20000

theorem any_take {α : Type} (q : α → Bool) {l : List α} {k : Nat} (hk : k < l.length) : (l.take (k + 1)).any q = ((l.take k).any q || q l[k]) := by
  rw [List.take_succ_eq_append_getElem hk, List.any_append]; simp
def stdT (r : Rul) (v : Int) (j : Nat) : Bool := standsIn r.head v || (r.body.xs.take j).any fun x => standsIn x.atom v
theorem stdT_zero (r : Rul) (v : Int) : stdT r v 0 = standsIn r.head v := by simp [stdT]
theorem stdT_end (r : Rul) (v : Int) : stdT r v r.body.xs.length = standsR r v := by unfold stdT standsR; rw [List.take_length]
theorem stdT_succ {r : Rul} {v : Int} {j : Nat} (hj : j < r.body.xs.length) : stdT r v (j + 1) = (stdT r v j || standsIn r.body.xs[j].atom v) := by
  unfold stdT; rw [any_take _ hj, Bool.or_assoc]
set_option maxHeartbeats 4000000 in
theorem stand_ok (B : Base) (hB : B.ok) (r : Rul) (hr : r.In B.h) (hlen : r.body.xs.length ≤ 3) : Fn Tryz.prog 37 [r.val] B (fun v _ => v = .agg #[.bool (standsR r 0), .bool (standsR r 1), .bool (standsR r 2)]) := by
  refine Fn.of Tryz.func37 rfl Tryz.ntmps37 (by kernel_rfl) (by simp) ?_
  intro e
  have I := Inv.start hB
  refine WP.seq ?_
  refine WP.region ?_
  refine Ops.go (O.box (v := .agg #[_, _, _, _, _]) I rfl rfl ?_)
  intro b1 w I
  refine Ops.go (O.alloc I Tryz.zeroValue67 rfl ?_)
  intro b2 w I
  refine Ops.nil ?_
  refine WP.seq ?_
  refine WP.region ?_
  refine Ops.go (O.alloc I Tryz.zeroValue67 rfl ?_)
  intro b3 w I
  refine Ops.nil ?_
  refine WP.seq ?_
  refine WP.seq ?_
  refine WP.region ?_
  refine Ops.y (v := .int .i64 _) (Y.assign rfl) ?_
  refine Ops.nil ?_
  refine WP.block ?_
  refine WP.loopE (σ := Nat) (fun k => [(1, .pointer (some ⟨b1, 0, none⟩)), (2, .pointer (some ⟨b2, 0, none⟩)), (3, .pointer (some ⟨b3, 0, none⟩)), (4, .int .i64 k)]) (fun k w => Inv B B.h [box b3 [.bool (if 0 < k then standsR r 0 else false), .bool (if 1 < k then standsR r 1 else false), .bool (if 2 < k then standsR r 2 else false)] 67, box b2 [.bool false, .bool false, .bool false] 67, box b1 r.enc 74] w ∧ k ≤ 3) (fun k => 3 - k)
    ⟨0, ⟨rfl, rfl, rfl, rfl, trivial⟩, I, by omega⟩ ?_
  rintro k e w ⟨I, hk⟩
  refine WP.seq ?_
  refine WP.seq ?_
  refine WP.region ?_
  refine Ops.y (v := .int .i64 _) (Y.move rfl) ?_
  refine Ops.y (v := .bool (decide _)) (Y.lti rfl rfl) ?_
  refine Ops.nil ?_
  refine WP.cond_dec rfl (fun h => ?_) (fun h => ?_)
  · have hk3 : k = 0 ∨ k = 1 ∨ k = 2 := by omega
    rcases hk3 with rfl | rfl | rfl
    · refine WP.skip ?_
      refine WP.seq ?_
      refine WP.block ?_
      refine WP.seq ?_
      refine WP.region ?_
      refine Ops.y (v := .int .i64 _) (Y.move rfl) ?_
      refine Ops.y (v := .pointer (some ⟨_, _, none⟩)) (Y.fa0 fa_74_0 rfl) ?_
      refine Ops.y (v := .agg #[_, _]) (Y.loadv ty_71 rfl (I.rdbox 2 rfl 0 2) rfl rfl) ?_
      refine Ops.y (v := .int .i64 _) (Y.move rfl) ?_
      refine Ops.go (O.callv I Tryz.call77 (standsR_ok _ I.base_ok r.head hr.head 0) rfl ?_)
      intro w I
      refine Ops.y (v := .pointer (some ⟨_, _, none⟩)) (Y.idxa Tryz.underlying67 Tryz.sizeOf4 rfl rfl (by omega) (by omega)) ?_
      refine Ops.go (O.store (v := .bool _) I ty_4 0 rfl rfl rfl rfl rfl rfl (Nat.le_of_ble_eq_true rfl) rfl ?_)
      intro w I
      refine Ops.nil ?_
      refine WP.seq ?_
      refine WP.region ?_
      refine Ops.y (v := .int .i64 _) (Y.assign rfl) ?_
      refine Ops.nil ?_
      refine WP.block ?_
      refine WP.loopE (σ := Nat) (fun j => [(1, .pointer (some ⟨b1, 0, none⟩)), (2, .pointer (some ⟨b2, 0, none⟩)), (3, .pointer (some ⟨b3, 0, none⟩)), (4, .int .i64 0), (5, .int .i64 j)]) (fun j w => Inv B B.h [box b3 [.bool (stdT r 0 j), .bool false, .bool false] 67, box b2 [.bool false, .bool false, .bool false] 67, box b1 r.enc 74] w ∧ j ≤ r.body.xs.length) (fun j => r.body.xs.length - j)
        ⟨0, ⟨rfl, rfl, rfl, rfl, rfl, trivial⟩, by simp only [stdT_zero]; exact I, by omega⟩ ?_
      rintro j e w ⟨I, hj⟩
      refine WP.seq ?_
      refine WP.seq ?_
      refine WP.region ?_
      refine Ops.y (v := .int .i64 _) (Y.move rfl) ?_
      refine Ops.y (v := .pointer (some ⟨_, _, none⟩)) (Y.fa fa_74_3 rfl) ?_
      refine Ops.y (v := .slice _ _ _) (Y.loadv ty_72 rfl (I.rdbox 2 rfl 4 1) rfl rfl) ?_
      refine Ops.y (v := .int .i64 _) (Y.lens Tryz.underlying72 rfl) ?_
      refine Ops.y (v := .bool (decide _)) (Y.lti rfl rfl) ?_
      refine Ops.nil ?_
      refine WP.cond_dec rfl (fun h7 => ?_) (fun h7 => ?_)
      · have hj' : j < r.body.xs.length := by omega
        have E := hr.body.is.at hj'
        cases hs : stdT r 0 j
        · refine WP.skip ?_
          refine WP.seq ?_
          refine WP.block ?_
          refine WP.region ?_
          refine Ops.y (v := .int .i64 _) (Y.move rfl) ?_
          refine Ops.y (v := .int .i64 _) (Y.move rfl) ?_
          refine Ops.y (v := .pointer (some ⟨_, _, none⟩)) (Y.idxa Tryz.underlying67 Tryz.sizeOf4 rfl rfl (by omega) (by omega)) ?_
          refine Ops.y (v := .bool false) (Y.b (Y.loadv ty_4 rfl (I.rdbox 0 rfl 0 1) rfl rfl) (hs)) ?_
          refine Ops.y (v := .bool _) (Y.move rfl) ?_
          refine Ops.ygt rfl (v := .pointer (some ⟨_, _, none⟩)) (Y.fa fa_74_3 rfl) ?_
          refine Ops.ygt rfl (v := .slice _ _ _) (Y.loadv ty_72 rfl (I.rdbox 2 rfl 4 1) rfl rfl) ?_
          refine Ops.ygt rfl (v := .int .i64 _) (Y.move rfl) ?_
          refine Ops.ygt rfl (v := .pointer (some ⟨_, _, none⟩)) (Y.idxEl E Tryz.underlying72 Tryz.sizeOf87 rfl rfl (Int.natCast_nonneg _) rfl) ?_
          refine Ops.ygt rfl (v := .pointer (some ⟨_, _, none⟩)) (Y.fa fa_87_1 rfl) ?_
          refine Ops.ygt rfl (v := .agg #[_, _]) (Y.loadv ty_71 rfl (I.rd (E.rd.part 1 2)) rfl rfl) ?_
          refine Ops.ygt rfl (v := .int .i64 _) (Y.move rfl) ?_
          refine Ops.gt rfl (O.callv I Tryz.call77 (standsR_ok _ I.base_ok r.body.xs[j].atom (hr.body.each _ (List.getElem_mem hj')) 0) rfl ?_)
          intro w I
          refine Ops.y (v := .bool _) (Y.pick_f rfl rfl) ?_
          refine Ops.y (v := .pointer (some ⟨_, _, none⟩)) (Y.idxa Tryz.underlying67 Tryz.sizeOf4 rfl rfl (by omega) (by omega)) ?_
          refine Ops.go (O.store (v := .bool _) I ty_4 0 rfl rfl rfl rfl rfl rfl (Nat.le_of_ble_eq_true rfl) rfl ?_)
          intro w I
          refine Ops.nil ?_
          refine WP.region ?_
          refine Ops.y (v := .int .i64 _) (Y.move rfl) ?_
          refine Ops.y (v := .int .i64 _) (Y.addi rfl rfl ⟨by omega, by omega⟩) ?_
          refine Ops.y (v := .int .i64 _) (Y.assign rfl) ?_
          refine Ops.nil ?_
          exact ⟨j + 1, ⟨⟨rfl, rfl, rfl, rfl, rfl, trivial⟩, by rw [stdT_succ hj', hs, Bool.false_or]; exact I, by omega⟩, by omega⟩
        · refine WP.skip ?_
          refine WP.seq ?_
          refine WP.block ?_
          refine WP.region ?_
          refine Ops.y (v := .int .i64 _) (Y.move rfl) ?_
          refine Ops.y (v := .int .i64 _) (Y.move rfl) ?_
          refine Ops.y (v := .pointer (some ⟨_, _, none⟩)) (Y.idxa Tryz.underlying67 Tryz.sizeOf4 rfl rfl (by omega) (by omega)) ?_
          refine Ops.y (v := .bool true) (Y.b (Y.loadv ty_4 rfl (I.rdbox 0 rfl 0 1) rfl rfl) (hs)) ?_
          refine Ops.y (v := .bool _) (Y.move rfl) ?_
          refine Ops.gf rfl ?_
          refine Ops.gf rfl ?_
          refine Ops.gf rfl ?_
          refine Ops.gf rfl ?_
          refine Ops.gf rfl ?_
          refine Ops.gf rfl ?_
          refine Ops.gf rfl ?_
          refine Ops.gf rfl ?_
          refine Ops.y (v := .bool _) (Y.pick_t rfl rfl) ?_
          refine Ops.y (v := .pointer (some ⟨_, _, none⟩)) (Y.idxa Tryz.underlying67 Tryz.sizeOf4 rfl rfl (by omega) (by omega)) ?_
          refine Ops.go (O.store (v := .bool _) I ty_4 0 rfl rfl rfl rfl rfl rfl (Nat.le_of_ble_eq_true rfl) rfl ?_)
          intro w I
          refine Ops.nil ?_
          refine WP.region ?_
          refine Ops.y (v := .int .i64 _) (Y.move rfl) ?_
          refine Ops.y (v := .int .i64 _) (Y.addi rfl rfl ⟨by omega, by omega⟩) ?_
          refine Ops.y (v := .int .i64 _) (Y.assign rfl) ?_
          refine Ops.nil ?_
          exact ⟨j + 1, ⟨⟨rfl, rfl, rfl, rfl, rfl, trivial⟩, by rw [stdT_succ hj', hs, Bool.true_or]; exact I, by omega⟩, by omega⟩
      obtain rfl : j = r.body.xs.length := by omega
      rw [stdT_end] at I
      refine WP.exit ?_
      refine WP.region ?_
      refine Ops.y (v := .int .i64 _) (Y.move rfl) ?_
      refine Ops.y (v := .int .i64 _) (Y.addi rfl rfl ⟨by omega, by omega⟩) ?_
      refine Ops.y (v := .int .i64 _) (Y.assign rfl) ?_
      refine Ops.nil ?_
      exact ⟨0 + 1, ⟨⟨rfl, rfl, rfl, rfl, trivial⟩, I, by omega⟩, by omega⟩
    · refine WP.skip ?_
      refine WP.seq ?_
      refine WP.block ?_
      refine WP.seq ?_
      refine WP.region ?_
      refine Ops.y (v := .int .i64 _) (Y.move rfl) ?_
      refine Ops.y (v := .pointer (some ⟨_, _, none⟩)) (Y.fa0 fa_74_0 rfl) ?_
      refine Ops.y (v := .agg #[_, _]) (Y.loadv ty_71 rfl (I.rdbox 2 rfl 0 2) rfl rfl) ?_
      refine Ops.y (v := .int .i64 _) (Y.move rfl) ?_
      refine Ops.go (O.callv I Tryz.call77 (standsR_ok _ I.base_ok r.head hr.head 1) rfl ?_)
      intro w I
      refine Ops.y (v := .pointer (some ⟨_, _, none⟩)) (Y.idxa Tryz.underlying67 Tryz.sizeOf4 rfl rfl (by omega) (by omega)) ?_
      refine Ops.go (O.store (v := .bool _) I ty_4 0 rfl rfl rfl rfl rfl rfl (Nat.le_of_ble_eq_true rfl) rfl ?_)
      intro w I
      refine Ops.nil ?_
      refine WP.seq ?_
      refine WP.region ?_
      refine Ops.y (v := .int .i64 _) (Y.assign rfl) ?_
      refine Ops.nil ?_
      refine WP.block ?_
      refine WP.loopE (σ := Nat) (fun j => [(1, .pointer (some ⟨b1, 0, none⟩)), (2, .pointer (some ⟨b2, 0, none⟩)), (3, .pointer (some ⟨b3, 0, none⟩)), (4, .int .i64 1), (5, .int .i64 j)]) (fun j w => Inv B B.h [box b3 [.bool (standsR r 0), .bool (stdT r 1 j), .bool false] 67, box b2 [.bool false, .bool false, .bool false] 67, box b1 r.enc 74] w ∧ j ≤ r.body.xs.length) (fun j => r.body.xs.length - j)
        ⟨0, ⟨rfl, rfl, rfl, rfl, rfl, trivial⟩, by simp only [stdT_zero]; exact I, by omega⟩ ?_
      rintro j e w ⟨I, hj⟩
      refine WP.seq ?_
      refine WP.seq ?_
      refine WP.region ?_
      refine Ops.y (v := .int .i64 _) (Y.move rfl) ?_
      refine Ops.y (v := .pointer (some ⟨_, _, none⟩)) (Y.fa fa_74_3 rfl) ?_
      refine Ops.y (v := .slice _ _ _) (Y.loadv ty_72 rfl (I.rdbox 2 rfl 4 1) rfl rfl) ?_
      refine Ops.y (v := .int .i64 _) (Y.lens Tryz.underlying72 rfl) ?_
      refine Ops.y (v := .bool (decide _)) (Y.lti rfl rfl) ?_
      refine Ops.nil ?_
      refine WP.cond_dec rfl (fun h7 => ?_) (fun h7 => ?_)
      · have hj' : j < r.body.xs.length := by omega
        have E := hr.body.is.at hj'
        cases hs : stdT r 1 j
        · refine WP.skip ?_
          refine WP.seq ?_
          refine WP.block ?_
          refine WP.region ?_
          refine Ops.y (v := .int .i64 _) (Y.move rfl) ?_
          refine Ops.y (v := .int .i64 _) (Y.move rfl) ?_
          refine Ops.y (v := .pointer (some ⟨_, _, none⟩)) (Y.idxa Tryz.underlying67 Tryz.sizeOf4 rfl rfl (by omega) (by omega)) ?_
          refine Ops.y (v := .bool false) (Y.b (Y.loadv ty_4 rfl (I.rdbox 0 rfl 1 1) rfl rfl) (hs)) ?_
          refine Ops.y (v := .bool _) (Y.move rfl) ?_
          refine Ops.ygt rfl (v := .pointer (some ⟨_, _, none⟩)) (Y.fa fa_74_3 rfl) ?_
          refine Ops.ygt rfl (v := .slice _ _ _) (Y.loadv ty_72 rfl (I.rdbox 2 rfl 4 1) rfl rfl) ?_
          refine Ops.ygt rfl (v := .int .i64 _) (Y.move rfl) ?_
          refine Ops.ygt rfl (v := .pointer (some ⟨_, _, none⟩)) (Y.idxEl E Tryz.underlying72 Tryz.sizeOf87 rfl rfl (Int.natCast_nonneg _) rfl) ?_
          refine Ops.ygt rfl (v := .pointer (some ⟨_, _, none⟩)) (Y.fa fa_87_1 rfl) ?_
          refine Ops.ygt rfl (v := .agg #[_, _]) (Y.loadv ty_71 rfl (I.rd (E.rd.part 1 2)) rfl rfl) ?_
          refine Ops.ygt rfl (v := .int .i64 _) (Y.move rfl) ?_
          refine Ops.gt rfl (O.callv I Tryz.call77 (standsR_ok _ I.base_ok r.body.xs[j].atom (hr.body.each _ (List.getElem_mem hj')) 1) rfl ?_)
          intro w I
          refine Ops.y (v := .bool _) (Y.pick_f rfl rfl) ?_
          refine Ops.y (v := .pointer (some ⟨_, _, none⟩)) (Y.idxa Tryz.underlying67 Tryz.sizeOf4 rfl rfl (by omega) (by omega)) ?_
          refine Ops.go (O.store (v := .bool _) I ty_4 0 rfl rfl rfl rfl rfl rfl (Nat.le_of_ble_eq_true rfl) rfl ?_)
          intro w I
          refine Ops.nil ?_
          refine WP.region ?_
          refine Ops.y (v := .int .i64 _) (Y.move rfl) ?_
          refine Ops.y (v := .int .i64 _) (Y.addi rfl rfl ⟨by omega, by omega⟩) ?_
          refine Ops.y (v := .int .i64 _) (Y.assign rfl) ?_
          refine Ops.nil ?_
          exact ⟨j + 1, ⟨⟨rfl, rfl, rfl, rfl, rfl, trivial⟩, by rw [stdT_succ hj', hs, Bool.false_or]; exact I, by omega⟩, by omega⟩
        · refine WP.skip ?_
          refine WP.seq ?_
          refine WP.block ?_
          refine WP.region ?_
          refine Ops.y (v := .int .i64 _) (Y.move rfl) ?_
          refine Ops.y (v := .int .i64 _) (Y.move rfl) ?_
          refine Ops.y (v := .pointer (some ⟨_, _, none⟩)) (Y.idxa Tryz.underlying67 Tryz.sizeOf4 rfl rfl (by omega) (by omega)) ?_
          refine Ops.y (v := .bool true) (Y.b (Y.loadv ty_4 rfl (I.rdbox 0 rfl 1 1) rfl rfl) (hs)) ?_
          refine Ops.y (v := .bool _) (Y.move rfl) ?_
          refine Ops.gf rfl ?_
          refine Ops.gf rfl ?_
          refine Ops.gf rfl ?_
          refine Ops.gf rfl ?_
          refine Ops.gf rfl ?_
          refine Ops.gf rfl ?_
          refine Ops.gf rfl ?_
          refine Ops.gf rfl ?_
          refine Ops.y (v := .bool _) (Y.pick_t rfl rfl) ?_
          refine Ops.y (v := .pointer (some ⟨_, _, none⟩)) (Y.idxa Tryz.underlying67 Tryz.sizeOf4 rfl rfl (by omega) (by omega)) ?_
          refine Ops.go (O.store (v := .bool _) I ty_4 0 rfl rfl rfl rfl rfl rfl (Nat.le_of_ble_eq_true rfl) rfl ?_)
          intro w I
          refine Ops.nil ?_
          refine WP.region ?_
          refine Ops.y (v := .int .i64 _) (Y.move rfl) ?_
          refine Ops.y (v := .int .i64 _) (Y.addi rfl rfl ⟨by omega, by omega⟩) ?_
          refine Ops.y (v := .int .i64 _) (Y.assign rfl) ?_
          refine Ops.nil ?_
          exact ⟨j + 1, ⟨⟨rfl, rfl, rfl, rfl, rfl, trivial⟩, by rw [stdT_succ hj', hs, Bool.true_or]; exact I, by omega⟩, by omega⟩
      obtain rfl : j = r.body.xs.length := by omega
      rw [stdT_end] at I
      refine WP.exit ?_
      refine WP.region ?_
      refine Ops.y (v := .int .i64 _) (Y.move rfl) ?_
      refine Ops.y (v := .int .i64 _) (Y.addi rfl rfl ⟨by omega, by omega⟩) ?_
      refine Ops.y (v := .int .i64 _) (Y.assign rfl) ?_
      refine Ops.nil ?_
      exact ⟨1 + 1, ⟨⟨rfl, rfl, rfl, rfl, trivial⟩, I, by omega⟩, by omega⟩
    · refine WP.skip ?_
      refine WP.seq ?_
      refine WP.block ?_
      refine WP.seq ?_
      refine WP.region ?_
      refine Ops.y (v := .int .i64 _) (Y.move rfl) ?_
      refine Ops.y (v := .pointer (some ⟨_, _, none⟩)) (Y.fa0 fa_74_0 rfl) ?_
      refine Ops.y (v := .agg #[_, _]) (Y.loadv ty_71 rfl (I.rdbox 2 rfl 0 2) rfl rfl) ?_
      refine Ops.y (v := .int .i64 _) (Y.move rfl) ?_
      refine Ops.go (O.callv I Tryz.call77 (standsR_ok _ I.base_ok r.head hr.head 2) rfl ?_)
      intro w I
      refine Ops.y (v := .pointer (some ⟨_, _, none⟩)) (Y.idxa Tryz.underlying67 Tryz.sizeOf4 rfl rfl (by omega) (by omega)) ?_
      refine Ops.go (O.store (v := .bool _) I ty_4 0 rfl rfl rfl rfl rfl rfl (Nat.le_of_ble_eq_true rfl) rfl ?_)
      intro w I
      refine Ops.nil ?_
      refine WP.seq ?_
      refine WP.region ?_
      refine Ops.y (v := .int .i64 _) (Y.assign rfl) ?_
      refine Ops.nil ?_
      refine WP.block ?_
      refine WP.loopE (σ := Nat) (fun j => [(1, .pointer (some ⟨b1, 0, none⟩)), (2, .pointer (some ⟨b2, 0, none⟩)), (3, .pointer (some ⟨b3, 0, none⟩)), (4, .int .i64 2), (5, .int .i64 j)]) (fun j w => Inv B B.h [box b3 [.bool (standsR r 0), .bool (standsR r 1), .bool (stdT r 2 j)] 67, box b2 [.bool false, .bool false, .bool false] 67, box b1 r.enc 74] w ∧ j ≤ r.body.xs.length) (fun j => r.body.xs.length - j)
        ⟨0, ⟨rfl, rfl, rfl, rfl, rfl, trivial⟩, by simp only [stdT_zero]; exact I, by omega⟩ ?_
      rintro j e w ⟨I, hj⟩
      refine WP.seq ?_
      refine WP.seq ?_
      refine WP.region ?_
      refine Ops.y (v := .int .i64 _) (Y.move rfl) ?_
      refine Ops.y (v := .pointer (some ⟨_, _, none⟩)) (Y.fa fa_74_3 rfl) ?_
      refine Ops.y (v := .slice _ _ _) (Y.loadv ty_72 rfl (I.rdbox 2 rfl 4 1) rfl rfl) ?_
      refine Ops.y (v := .int .i64 _) (Y.lens Tryz.underlying72 rfl) ?_
      refine Ops.y (v := .bool (decide _)) (Y.lti rfl rfl) ?_
      refine Ops.nil ?_
      refine WP.cond_dec rfl (fun h7 => ?_) (fun h7 => ?_)
      · have hj' : j < r.body.xs.length := by omega
        have E := hr.body.is.at hj'
        cases hs : stdT r 2 j
        · refine WP.skip ?_
          refine WP.seq ?_
          refine WP.block ?_
          refine WP.region ?_
          refine Ops.y (v := .int .i64 _) (Y.move rfl) ?_
          refine Ops.y (v := .int .i64 _) (Y.move rfl) ?_
          refine Ops.y (v := .pointer (some ⟨_, _, none⟩)) (Y.idxa Tryz.underlying67 Tryz.sizeOf4 rfl rfl (by omega) (by omega)) ?_
          refine Ops.y (v := .bool false) (Y.b (Y.loadv ty_4 rfl (I.rdbox 0 rfl 2 1) rfl rfl) (hs)) ?_
          refine Ops.y (v := .bool _) (Y.move rfl) ?_
          refine Ops.ygt rfl (v := .pointer (some ⟨_, _, none⟩)) (Y.fa fa_74_3 rfl) ?_
          refine Ops.ygt rfl (v := .slice _ _ _) (Y.loadv ty_72 rfl (I.rdbox 2 rfl 4 1) rfl rfl) ?_
          refine Ops.ygt rfl (v := .int .i64 _) (Y.move rfl) ?_
          refine Ops.ygt rfl (v := .pointer (some ⟨_, _, none⟩)) (Y.idxEl E Tryz.underlying72 Tryz.sizeOf87 rfl rfl (Int.natCast_nonneg _) rfl) ?_
          refine Ops.ygt rfl (v := .pointer (some ⟨_, _, none⟩)) (Y.fa fa_87_1 rfl) ?_
          refine Ops.ygt rfl (v := .agg #[_, _]) (Y.loadv ty_71 rfl (I.rd (E.rd.part 1 2)) rfl rfl) ?_
          refine Ops.ygt rfl (v := .int .i64 _) (Y.move rfl) ?_
          refine Ops.gt rfl (O.callv I Tryz.call77 (standsR_ok _ I.base_ok r.body.xs[j].atom (hr.body.each _ (List.getElem_mem hj')) 2) rfl ?_)
          intro w I
          refine Ops.y (v := .bool _) (Y.pick_f rfl rfl) ?_
          refine Ops.y (v := .pointer (some ⟨_, _, none⟩)) (Y.idxa Tryz.underlying67 Tryz.sizeOf4 rfl rfl (by omega) (by omega)) ?_
          refine Ops.go (O.store (v := .bool _) I ty_4 0 rfl rfl rfl rfl rfl rfl (Nat.le_of_ble_eq_true rfl) rfl ?_)
          intro w I
          refine Ops.nil ?_
          refine WP.region ?_
          refine Ops.y (v := .int .i64 _) (Y.move rfl) ?_
          refine Ops.y (v := .int .i64 _) (Y.addi rfl rfl ⟨by omega, by omega⟩) ?_
          refine Ops.y (v := .int .i64 _) (Y.assign rfl) ?_
          refine Ops.nil ?_
          exact ⟨j + 1, ⟨⟨rfl, rfl, rfl, rfl, rfl, trivial⟩, by rw [stdT_succ hj', hs, Bool.false_or]; exact I, by omega⟩, by omega⟩
        · refine WP.skip ?_
          refine WP.seq ?_
          refine WP.block ?_
          refine WP.region ?_
          refine Ops.y (v := .int .i64 _) (Y.move rfl) ?_
          refine Ops.y (v := .int .i64 _) (Y.move rfl) ?_
          refine Ops.y (v := .pointer (some ⟨_, _, none⟩)) (Y.idxa Tryz.underlying67 Tryz.sizeOf4 rfl rfl (by omega) (by omega)) ?_
          refine Ops.y (v := .bool true) (Y.b (Y.loadv ty_4 rfl (I.rdbox 0 rfl 2 1) rfl rfl) (hs)) ?_
          refine Ops.y (v := .bool _) (Y.move rfl) ?_
          refine Ops.gf rfl ?_
          refine Ops.gf rfl ?_
          refine Ops.gf rfl ?_
          refine Ops.gf rfl ?_
          refine Ops.gf rfl ?_
          refine Ops.gf rfl ?_
          refine Ops.gf rfl ?_
          refine Ops.gf rfl ?_
          refine Ops.y (v := .bool _) (Y.pick_t rfl rfl) ?_
          refine Ops.y (v := .pointer (some ⟨_, _, none⟩)) (Y.idxa Tryz.underlying67 Tryz.sizeOf4 rfl rfl (by omega) (by omega)) ?_
          refine Ops.go (O.store (v := .bool _) I ty_4 0 rfl rfl rfl rfl rfl rfl (Nat.le_of_ble_eq_true rfl) rfl ?_)
          intro w I
          refine Ops.nil ?_
          refine WP.region ?_
          refine Ops.y (v := .int .i64 _) (Y.move rfl) ?_
          refine Ops.y (v := .int .i64 _) (Y.addi rfl rfl ⟨by omega, by omega⟩) ?_
          refine Ops.y (v := .int .i64 _) (Y.assign rfl) ?_
          refine Ops.nil ?_
          exact ⟨j + 1, ⟨⟨rfl, rfl, rfl, rfl, rfl, trivial⟩, by rw [stdT_succ hj', hs, Bool.true_or]; exact I, by omega⟩, by omega⟩
      obtain rfl : j = r.body.xs.length := by omega
      rw [stdT_end] at I
      refine WP.exit ?_
      refine WP.region ?_
      refine Ops.y (v := .int .i64 _) (Y.move rfl) ?_
      refine Ops.y (v := .int .i64 _) (Y.addi rfl rfl ⟨by omega, by omega⟩) ?_
      refine Ops.y (v := .int .i64 _) (Y.assign rfl) ?_
      refine Ops.nil ?_
      exact ⟨2 + 1, ⟨⟨rfl, rfl, rfl, rfl, trivial⟩, I, by omega⟩, by omega⟩
  obtain rfl : k = 3 := by omega
  refine WP.exit ?_
  refine WP.seq ?_
  refine WP.region ?_
  refine Ops.y (v := .agg #[_, _, _]) (Y.loadv ty_67 rfl (I.rdbox 0 rfl 0 3) rfl rfl) ?_
  refine Ops.go (O.store (v := .agg #[_, _, _]) I ty_67 1 rfl rfl rfl rfl rfl rfl (Nat.le_of_ble_eq_true rfl) rfl ?_)
  intro w I
  refine Ops.nil ?_
  refine WP.ret ?_
  repeat (first | refine thenE_ret ?_ | refine blockE_ret ?_)
  exact retQ.mk (vs := [.agg #[_, _, _]]) rfl ⟨⟨_, _, _, _, _, rfl, ty_67, I.rdbox 1 rfl 0 3, rfl, rfl⟩, trivial⟩ I.ext_of (rfl)
theorem stdTri (a : Nat) (s q : Bool) (h : (decide ((a : Int) = 0) || s) = q) : (¬ (a : Int) > 0 ∧ q = true) ∨ ((a : Int) > 0 ∧ s = true ∧ q = true) ∨ ((a : Int) > 0 ∧ s = false ∧ q = false) := by
  subst h
  by_cases h0 : (a : Int) > 0
  · rw [decide_eq_false (show ¬ (a : Int) = 0 by omega), Bool.false_or]
    cases s
    · exact .inr (.inr ⟨h0, rfl, rfl⟩)
    · exact .inr (.inl ⟨h0, rfl, rfl⟩)
  · rw [decide_eq_true (show (a : Int) = 0 by omega), Bool.true_or]
    exact .inl ⟨h0, rfl⟩
def stepV (f : List Fct) (n : Int) (r : Rul) (x : Vrs) : List Stp := if stdOk r x && holdsB f r x then [⟨n, x⟩] else []
theorem filter_map_flat {α β : Type} (q : α → Bool) (g : α → β) : ∀ l : List α, (l.filter q).map g = l.flatMap fun x => if q x then [g x] else []
  | [] => rfl
  | x :: l => by
    rw [List.filter_cons, List.flatMap_cons, ← filter_map_flat q g l]
    cases q x <;> rfl
def C5 (f : List Fct) (n : Int) (r : Rul) (a b k : Nat) : List Stp := (List.range k).flatMap fun c : Nat => stepV f n r ⟨a, b, c⟩
def B5 (f : List Fct) (n : Int) (r : Rul) (a k : Nat) : List Stp := (List.range k).flatMap fun b : Nat => C5 f n r a b 5
def A5 (f : List Fct) (n : Int) (r : Rul) (k : Nat) : List Stp := (List.range k).flatMap fun a : Nat => B5 f n r a 5
theorem steps_A5 (f : List Fct) (n : Int) (r : Rul) : stepsF f n r = A5 f n r 5 := by
  unfold stepsF A5 B5 C5 stepV
  rw [filter_map_flat]
  unfold vecs
  simp only [List.flatMap_assoc, List.flatMap_map]
theorem C5_succ (f : List Fct) (n : Int) (r : Rul) (a b k : Nat) : C5 f n r a b (k + 1) = C5 f n r a b k ++ stepV f n r ⟨a, b, k⟩ := by unfold C5; rw [List.range_succ, List.flatMap_append]; simp
theorem B5_succ (f : List Fct) (n : Int) (r : Rul) (a k : Nat) : B5 f n r a (k + 1) = B5 f n r a k ++ C5 f n r a k 5 := by unfold B5; rw [List.range_succ, List.flatMap_append]; simp
theorem A5_succ (f : List Fct) (n : Int) (r : Rul) (k : Nat) : A5 f n r (k + 1) = A5 f n r k ++ B5 f n r k 5 := by unfold A5; rw [List.range_succ, List.flatMap_append]; simp
theorem stepV_le (f : List Fct) (n : Int) (r : Rul) (x : Vrs) : (stepV f n r x).length ≤ 1 := by unfold stepV; split <;> simp
theorem C5_le (f : List Fct) (n : Int) (r : Rul) (a b : Nat) : ∀ k, (C5 f n r a b k).length ≤ k
  | 0 => by simp [C5]
  | k + 1 => by rw [C5_succ, List.length_append]; have := C5_le f n r a b k; have := stepV_le f n r ⟨a, b, k⟩; omega
theorem B5_le (f : List Fct) (n : Int) (r : Rul) (a : Nat) : ∀ k, (B5 f n r a k).length ≤ 5 * k
  | 0 => by simp [B5]
  | k + 1 => by rw [B5_succ, List.length_append]; have := B5_le f n r a k; have := C5_le f n r a k 5; omega
theorem A5_le (f : List Fct) (n : Int) (r : Rul) : ∀ k, (A5 f n r k).length ≤ 25 * k
  | 0 => by simp [A5]
  | k + 1 => by rw [A5_succ, List.length_append]; have := A5_le f n r k; have := B5_le f n r k 5; omega
set_option maxHeartbeats 8000000 in
theorem AllOf_ok (B : Base) (hB : B.ok) (p : Prg) (hp : p.In B.h) (f : Sl Fct) (hf : Fcts f B.h) (n : Int) (r : Rul) (h0 : 0 ≤ n) (hr : p.rules.xs[n.toNat]? = some r) (ok : ROk p.preds.xs r) (okf : FOk p.preds.xs f.xs) :
    Fn Tryz.prog 14 [p.val, f.val, .int .i64 n] B (StpsR (stepsF f.xs n r)) := by
  have Er := hp.rules.is.el.el hr
  have ir := hp.rules.each _ (List.mem_of_getElem? hr)
  refine Fn.of Tryz.func14 rfl Tryz.ntmps14 (by kernel_rfl) (by simp) ?_
  intro e
  have I := Inv.start hB
  refine WP.seq ?_
  refine WP.region ?_
  refine Ops.go (O.box (v := .agg #[_, _]) I rfl rfl ?_)
  intro b3 w I
  refine Ops.y (v := .slice _ _ _) (Y.assign rfl) ?_
  refine Ops.nil ?_
  refine WP.seq ?_
  refine WP.region ?_
  refine Ops.y (v := .slice _ _ _) (Y.assign rfl) ?_
  refine Ops.nil ?_
  refine WP.seq ?_
  refine WP.region ?_
  refine Ops.y (v := .pointer (some ⟨_, _, none⟩)) (Y.fa fa_25_1 rfl) ?_
  refine Ops.y (v := .slice _ _ _) (Y.loadv ty_23 rfl (I.rdbox 0 rfl 1 1) rfl rfl) ?_
  refine Ops.y (v := .int .i64 _) (Y.move rfl) ?_
  refine Ops.y (v := .pointer (some ⟨_, _, none⟩)) (Y.idxEl Er Tryz.underlying23 Tryz.sizeOf74 rfl rfl h0 rfl) ?_
  refine Ops.y (v := .agg #[_, _, _, _, _]) (Y.loadv ty_74 rfl (I.rd (Er.rd.part 0 5)) rfl rfl) ?_
  refine Ops.go (O.callv I Tryz.call37 (stand_ok _ I.base_ok r ir ok.len) rfl ?_)
  intro w I
  refine Ops.go (O.alloc I Tryz.zeroValue67 rfl ?_)
  intro b8 w I
  refine Ops.go (O.store (v := .agg #[_, _, _]) I ty_67 0 rfl rfl rfl rfl rfl rfl (Nat.le_of_ble_eq_true rfl) rfl ?_)
  intro w I
  refine Ops.nil ?_
  refine WP.seq ?_
  refine WP.seq ?_
  refine WP.region ?_
  refine Ops.y (v := .int .i64 _) (Y.assign rfl) ?_
  refine Ops.nil ?_
  refine WP.block ?_
  have I := I.nilSl 63 4
  refine WP.loopE (σ := Nat × Value × Heap) (fun s => [(1, f.val), (2, .int .i64 n), (3, .pointer (some ⟨b3, 0, none⟩)), (7, s.2.1), (8, .pointer (some ⟨b8, 0, none⟩)), (9, .int .i64 s.1)])
    (fun s w => Inv B s.2.2 [ownSl 63 4 s.2.1 (A5 f.xs n r s.1).length ((A5 f.xs n r s.1).flatMap Stp.enc), box b8 [.bool (standsR r 0), .bool (standsR r 1), .bool (standsR r 2)] 67, box b3 p.enc 25] w ∧ s.1 ≤ 5 ∧ B.h.le s.2.2) (fun s => 5 - s.1)
    ⟨(0, .slice none 0 0, B.h), ⟨rfl, rfl, rfl, rfl, rfl, rfl, trivial⟩, I, by omega, Heap.le.refl _⟩ ?_
  rintro ⟨a, va, ha⟩ e w ⟨I, ka, la⟩
  dsimp only at I ka la ⊢
  refine WP.seq ?_
  refine WP.seq ?_
  refine WP.region ?_
  refine Ops.y (v := .int .i64 _) (Y.move rfl) ?_
  refine Ops.y (v := .bool (decide _)) (Y.lei rfl rfl) ?_
  refine Ops.nil ?_
  refine WP.cond_dec rfl (fun h4 => ?_) (fun h4 => ?_)
  · have ka' : a < 5 := by omega
    refine WP.skip ?_
    refine WP.seq ?_
    refine WP.block ?_
    refine WP.seq ?_
    refine WP.region ?_
    refine Ops.y (v := .int .i64 _) (Y.assign rfl) ?_
    refine Ops.nil ?_
    refine WP.block ?_
    refine WP.loopE (σ := Nat × Value × Heap) (fun s => [(1, f.val), (2, .int .i64 n), (3, .pointer (some ⟨b3, 0, none⟩)), (7, s.2.1), (8, .pointer (some ⟨b8, 0, none⟩)), (9, .int .i64 a), (10, .int .i64 s.1)])
      (fun s w => Inv B s.2.2 [ownSl 63 4 s.2.1 (A5 f.xs n r a ++ B5 f.xs n r a s.1).length ((A5 f.xs n r a ++ B5 f.xs n r a s.1).flatMap Stp.enc), box b8 [.bool (standsR r 0), .bool (standsR r 1), .bool (standsR r 2)] 67, box b3 p.enc 25] w ∧ s.1 ≤ 5 ∧ B.h.le s.2.2) (fun s => 5 - s.1)
      ⟨(0, va, ha), ⟨rfl, rfl, rfl, rfl, rfl, rfl, rfl, trivial⟩, by simpa [B5] using I, by omega, la⟩ ?_
    rintro ⟨b, vb, hb⟩ e w ⟨I, kb, lb⟩
    dsimp only at I kb lb ⊢
    refine WP.seq ?_
    refine WP.seq ?_
    refine WP.region ?_
    refine Ops.y (v := .int .i64 _) (Y.move rfl) ?_
    refine Ops.y (v := .bool (decide _)) (Y.lei rfl rfl) ?_
    refine Ops.nil ?_
    refine WP.cond_dec rfl (fun h7 => ?_) (fun h7 => ?_)
    · have kb' : b < 5 := by omega
      refine WP.skip ?_
      refine WP.seq ?_
      refine WP.block ?_
      refine WP.seq ?_
      refine WP.region ?_
      refine Ops.y (v := .int .i64 _) (Y.assign rfl) ?_
      refine Ops.nil ?_
      refine WP.block ?_
      refine WP.loopE (σ := Nat × Value × Heap) (fun s => [(1, f.val), (2, .int .i64 n), (3, .pointer (some ⟨b3, 0, none⟩)), (7, s.2.1), (8, .pointer (some ⟨b8, 0, none⟩)), (9, .int .i64 a), (10, .int .i64 b), (11, .int .i64 s.1)])
        (fun s w => Inv B s.2.2 [ownSl 63 4 s.2.1 (A5 f.xs n r a ++ B5 f.xs n r a b ++ C5 f.xs n r a b s.1).length ((A5 f.xs n r a ++ B5 f.xs n r a b ++ C5 f.xs n r a b s.1).flatMap Stp.enc), box b8 [.bool (standsR r 0), .bool (standsR r 1), .bool (standsR r 2)] 67, box b3 p.enc 25] w ∧ s.1 ≤ 5 ∧ B.h.le s.2.2) (fun s => 5 - s.1)
        ⟨(0, vb, hb), ⟨rfl, rfl, rfl, rfl, rfl, rfl, rfl, rfl, trivial⟩, by simpa [C5] using I, by omega, lb⟩ ?_
      rintro ⟨c, vc, hc⟩ e w ⟨I, kc, lc⟩
      dsimp only at I kc lc ⊢
      refine WP.seq ?_
      refine WP.seq ?_
      refine WP.region ?_
      refine Ops.y (v := .int .i64 _) (Y.move rfl) ?_
      refine Ops.y (v := .bool (decide _)) (Y.lei rfl rfl) ?_
      refine Ops.nil ?_
      refine WP.cond_dec rfl (fun h10 => ?_) (fun h10 => ?_)
      · have kc' : c < 5 := by omega
        obtain ⟨q0, hq0⟩ : ∃ q, (decide ((a : Int) = 0) || standsR r 0) = q := ⟨_, rfl⟩
        obtain ⟨q1, hq1⟩ : ∃ q, (decide ((b : Int) = 0) || standsR r 1) = q := ⟨_, rfl⟩
        obtain ⟨q2, hq2⟩ : ∃ q, (decide ((c : Int) = 0) || standsR r 2) = q := ⟨_, rfl⟩
        have hst : stdOk r ⟨a, b, c⟩ = (q0 && q1 && q2) := by unfold stdOk; rw [hq0, hq1, hq2]
        have la1 := A5_le f.xs n r a
        have lb1 := B5_le f.xs n r a b
        have lc1 := C5_le f.xs n r a b c
        have l125 : (A5 f.xs n r a ++ B5 f.xs n r a b ++ C5 f.xs n r a b c).length ≤ 1000 := by simp only [List.length_append]; omega
        have lsn : (A5 f.xs n r a ++ B5 f.xs n r a b ++ C5 f.xs n r a b c ++ [(⟨n, ⟨a, b, c⟩⟩ : Stp)]).length = (A5 f.xs n r a ++ B5 f.xs n r a b ++ C5 f.xs n r a b c).length + 1 := by rw [List.length_append]; rfl
        refine WP.skip ?_
        refine WP.seq ?_
        refine WP.block ?_
        refine WP.seq ?_
        refine WP.seq ?_
        refine WP.cutK (σ := Unit) (fun _ => [(1, f.val), (2, .int .i64 n), (3, .pointer (some ⟨b3, 0, none⟩)), (7, vc), (8, .pointer (some ⟨b8, 0, none⟩)), (9, .int .i64 a), (10, .int .i64 b), (11, .int .i64 c), (57, .bool (!(q0 && q1 && q2)))]) (fun _ w => Inv B hc [ownSl 63 4 vc (A5 f.xs n r a ++ B5 f.xs n r a b ++ C5 f.xs n r a b c).length ((A5 f.xs n r a ++ B5 f.xs n r a b ++ C5 f.xs n r a b c).flatMap Stp.enc), box b8 [.bool (standsR r 0), .bool (standsR r 1), .bool (standsR r 2)] 67, box b3 p.enc 25] w) ?_ ?_
        · rcases stdTri a (standsR r 0) q0 hq0 with ⟨ha, rfl⟩ | ⟨ha, sa, rfl⟩ | ⟨ha, sa, rfl⟩ <;> rcases stdTri b (standsR r 1) q1 hq1 with ⟨hb, rfl⟩ | ⟨hb, sb, rfl⟩ | ⟨hb, sb, rfl⟩ <;> rcases stdTri c (standsR r 2) q2 hq2 with ⟨hc, rfl⟩ | ⟨hc, sc, rfl⟩ | ⟨hc, sc, rfl⟩
          all_goals refine WP.region ?_
          all_goals refine Ops.y (v := .int .i64 _) (Y.move rfl) ?_
          all_goals first | refine Ops.y (v := .bool true) (Y.dec_t (Y.gti rfl rfl) (by assumption)) ?_ | refine Ops.y (v := .bool false) (Y.dec_f (Y.gti rfl rfl) (by assumption)) ?_
          all_goals refine Ops.y (v := .bool _) (Y.move rfl) ?_
          all_goals first | refine Ops.gf rfl ?_ | refine Ops.ygt rfl (v := .pointer (some ⟨_, _, none⟩)) (Y.idxa Tryz.underlying67 Tryz.sizeOf4 rfl rfl (by decide) (by decide)) ?_
          all_goals first | refine Ops.gf rfl ?_ | refine Ops.ygt rfl (v := .bool true) (Y.b (Y.loadv ty_4 rfl (I.rdbox 1 rfl 0 1) rfl rfl) (by assumption)) ?_ | refine Ops.ygt rfl (v := .bool false) (Y.b (Y.loadv ty_4 rfl (I.rdbox 1 rfl 0 1) rfl rfl) (by assumption)) ?_
          all_goals first | refine Ops.gf rfl ?_ | refine Ops.ygt rfl (v := .bool true) (Y.b (Y.not rfl) rfl) ?_ | refine Ops.ygt rfl (v := .bool false) (Y.b (Y.not rfl) rfl) ?_
          all_goals first | refine Ops.y (v := .bool _) (Y.pick_t rfl rfl) ?_ | refine Ops.y (v := .bool _) (Y.pick_f rfl rfl) ?_
          all_goals refine Ops.y (v := .bool _) (Y.move rfl) ?_
          all_goals first | refine Ops.gf rfl ?_ | refine Ops.ygt rfl (v := .int .i64 _) (Y.move rfl) ?_
          all_goals first | refine Ops.gf rfl ?_ | refine Ops.ygt rfl (v := .bool true) (Y.dec_t (Y.gti rfl rfl) (by assumption)) ?_ | refine Ops.ygt rfl (v := .bool false) (Y.dec_f (Y.gti rfl rfl) (by assumption)) ?_
          all_goals first | refine Ops.gf rfl ?_ | refine Ops.ygt rfl (v := .bool _) (Y.move rfl) ?_
          all_goals first | refine Ops.gf rfl ?_ | refine Ops.ygt rfl (v := .pointer (some ⟨_, _, none⟩)) (Y.idxa Tryz.underlying67 Tryz.sizeOf4 rfl rfl (by decide) (by decide)) ?_
          all_goals first | refine Ops.gf rfl ?_ | refine Ops.ygt rfl (v := .bool true) (Y.b (Y.loadv ty_4 rfl (I.rdbox 1 rfl 1 1) rfl rfl) (by assumption)) ?_ | refine Ops.ygt rfl (v := .bool false) (Y.b (Y.loadv ty_4 rfl (I.rdbox 1 rfl 1 1) rfl rfl) (by assumption)) ?_
          all_goals first | refine Ops.gf rfl ?_ | refine Ops.ygt rfl (v := .bool true) (Y.b (Y.not rfl) rfl) ?_ | refine Ops.ygt rfl (v := .bool false) (Y.b (Y.not rfl) rfl) ?_
          all_goals first | refine Ops.gf rfl ?_ | refine Ops.ygt rfl (v := .bool _) (Y.pick_t rfl rfl) ?_ | refine Ops.ygt rfl (v := .bool _) (Y.pick_f rfl rfl) ?_
          all_goals first | refine Ops.y (v := .bool _) (Y.pick_t rfl rfl) ?_ | refine Ops.y (v := .bool _) (Y.pick_f rfl rfl) ?_
          all_goals refine Ops.y (v := .bool _) (Y.move rfl) ?_
          all_goals first | refine Ops.gf rfl ?_ | refine Ops.ygt rfl (v := .int .i64 _) (Y.move rfl) ?_
          all_goals first | refine Ops.gf rfl ?_ | refine Ops.ygt rfl (v := .bool true) (Y.dec_t (Y.gti rfl rfl) (by assumption)) ?_ | refine Ops.ygt rfl (v := .bool false) (Y.dec_f (Y.gti rfl rfl) (by assumption)) ?_
          all_goals first | refine Ops.gf rfl ?_ | refine Ops.ygt rfl (v := .bool _) (Y.move rfl) ?_
          all_goals first | refine Ops.gf rfl ?_ | refine Ops.ygt rfl (v := .pointer (some ⟨_, _, none⟩)) (Y.idxa Tryz.underlying67 Tryz.sizeOf4 rfl rfl (by decide) (by decide)) ?_
          all_goals first | refine Ops.gf rfl ?_ | refine Ops.ygt rfl (v := .bool true) (Y.b (Y.loadv ty_4 rfl (I.rdbox 1 rfl 2 1) rfl rfl) (by assumption)) ?_ | refine Ops.ygt rfl (v := .bool false) (Y.b (Y.loadv ty_4 rfl (I.rdbox 1 rfl 2 1) rfl rfl) (by assumption)) ?_
          all_goals first | refine Ops.gf rfl ?_ | refine Ops.ygt rfl (v := .bool true) (Y.b (Y.not rfl) rfl) ?_ | refine Ops.ygt rfl (v := .bool false) (Y.b (Y.not rfl) rfl) ?_
          all_goals first | refine Ops.gf rfl ?_ | refine Ops.ygt rfl (v := .bool _) (Y.pick_t rfl rfl) ?_ | refine Ops.ygt rfl (v := .bool _) (Y.pick_f rfl rfl) ?_
          all_goals first | refine Ops.y (v := .bool _) (Y.pick_t rfl rfl) ?_ | refine Ops.y (v := .bool _) (Y.pick_f rfl rfl) ?_
          all_goals refine Ops.nil ?_
          all_goals exact ⟨(), ⟨rfl, rfl, rfl, rfl, rfl, rfl, rfl, rfl, rfl, trivial⟩, I⟩
        rintro _ e w I
        cases hso : (q0 && q1 && q2)
        · refine WP.cond_t rfl ?_
          have hsv : stepV f.xs n r ⟨a, b, c⟩ = [] := by unfold stepV; rw [hst, hso]; rfl
          refine WP.exit ?_
          refine WP.region ?_
          refine Ops.y (v := .int .i64 _) (Y.move rfl) ?_
          refine Ops.y (v := .int .i64 _) (Y.addi rfl rfl ⟨by omega, by omega⟩) ?_
          refine Ops.y (v := .int .i64 _) (Y.assign rfl) ?_
          refine Ops.nil ?_
          exact ⟨(c + 1, vc, hc), ⟨⟨rfl, rfl, rfl, rfl, rfl, rfl, rfl, rfl, trivial⟩, by dsimp only; rw [C5_succ, hsv, List.append_nil]; exact I, by dsimp only; omega, lc⟩, by dsimp only; omega⟩
        refine WP.cond_f rfl ?_
        have hvs : VsOk ⟨a, b, c⟩ := ⟨⟨by dsimp only; omega, by dsimp only; omega⟩, ⟨by dsimp only; omega, by dsimp only; omega⟩, ⟨by dsimp only; omega, by dsimp only; omega⟩⟩
        refine WP.skip ?_
        refine WP.seq ?_
        refine WP.region ?_
        refine Ops.y (v := .int .i64 _) (Y.move rfl) ?_
        refine Ops.y (v := .int .i64 _) (Y.move rfl) ?_
        refine Ops.y (v := .int .i64 _) (Y.move rfl) ?_
        refine Ops.y (v := .agg #[.int .i64 _, .int .i64 _, .int .i64 _]) (Y.builda Tryz.underlying27 Tryz.zeroValue27 Tryz.sizeOf3 rfl rfl) ?_
        refine Ops.go (O.alloc I Tryz.zeroValue27 rfl ?_)
        intro b12 w I
        refine Ops.go (O.store (v := .agg #[_, _, _]) I ty_27 0 rfl rfl rfl rfl rfl rfl (Nat.le_of_ble_eq_true rfl) rfl ?_)
        intro w I
        refine Ops.nil ?_
        cases hh : holdsB f.xs r ⟨a, b, c⟩
        · have hsv : stepV f.xs n r ⟨a, b, c⟩ = [] := by unfold stepV; rw [hh, Bool.and_false]; rfl
          refine WP.seq ?_
          refine WP.region ?_
          refine Ops.y (v := .agg #[_, _]) (Y.loadv ty_25 rfl (I.rdbox 3 rfl 0 2) rfl rfl) ?_
          refine Ops.y (v := .slice _ _ _) (Y.move rfl) ?_
          refine Ops.y (v := .int .i64 _) (Y.move rfl) ?_
          refine Ops.y (v := .agg #[_, _, _]) (Y.loadv ty_27 rfl (I.rdbox 0 rfl 0 3) rfl rfl) ?_
          refine Ops.go (O.callv I Tryz.call30 ((show holdsF p.preds.xs f.xs r ⟨a, b, c⟩ = (false, default) from by unfold holdsF; rw [hh]; rfl) ▸ rholds_ok _ I.base_ok p (hp.le lc) f (hf.le lc) n r h0 hr ok okf ⟨a, b, c⟩ hvs) rfl ?_)
          intro w I
          refine Ops.y (v := .tuple #[_, _]) (Y.move rfl) ?_
          refine Ops.y (v := .bool _) (Y.extract rfl rfl) ?_
          refine Ops.y (v := .agg #[_, _, _, _]) (Y.extract rfl rfl) ?_
          refine Ops.go (O.alloc I Tryz.zeroValue29 rfl ?_)
          intro b14 w I
          refine Ops.y (v := .bool _) (Y.assign rfl) ?_
          refine Ops.go (O.store (v := .agg #[_, _, _, _]) I ty_29 0 rfl rfl rfl rfl rfl rfl (Nat.le_of_ble_eq_true rfl) rfl ?_)
          intro w I
          refine Ops.nil ?_
          refine WP.seq ?_
          refine WP.region ?_
          refine Ops.y (v := .bool _) (Y.move rfl) ?_
          refine Ops.nil ?_
          refine WP.cond_f rfl ?_
          refine WP.skip ?_
          refine WP.region ?_
          refine Ops.y (v := .int .i64 _) (Y.move rfl) ?_
          refine Ops.y (v := .int .i64 _) (Y.addi rfl rfl ⟨by omega, by omega⟩) ?_
          refine Ops.y (v := .int .i64 _) (Y.assign rfl) ?_
          refine Ops.nil ?_
          exact ⟨(c + 1, vc, hc), ⟨⟨rfl, rfl, rfl, rfl, rfl, rfl, rfl, rfl, trivial⟩, by dsimp only; rw [C5_succ, hsv, List.append_nil]; exact I.drop.drop, by dsimp only; omega, lc⟩, by dsimp only; omega⟩
        · have hsv : stepV f.xs n r ⟨a, b, c⟩ = [⟨n, ⟨a, b, c⟩⟩] := by unfold stepV; rw [hst, hso, hh]; rfl
          obtain ⟨y, hy⟩ : ∃ y, holdsF p.preds.xs f.xs r ⟨a, b, c⟩ = (true, y) := ⟨_, by unfold holdsF; rw [hh]; rfl⟩
          refine WP.seq ?_
          refine WP.region ?_
          refine Ops.y (v := .agg #[_, _]) (Y.loadv ty_25 rfl (I.rdbox 3 rfl 0 2) rfl rfl) ?_
          refine Ops.y (v := .slice _ _ _) (Y.move rfl) ?_
          refine Ops.y (v := .int .i64 _) (Y.move rfl) ?_
          refine Ops.y (v := .agg #[_, _, _]) (Y.loadv ty_27 rfl (I.rdbox 0 rfl 0 3) rfl rfl) ?_
          refine Ops.go (O.callv I Tryz.call30 (hy ▸ rholds_ok _ I.base_ok p (hp.le lc) f (hf.le lc) n r h0 hr ok okf ⟨a, b, c⟩ hvs) rfl ?_)
          intro w I
          refine Ops.y (v := .tuple #[_, _]) (Y.move rfl) ?_
          refine Ops.y (v := .bool _) (Y.extract rfl rfl) ?_
          refine Ops.y (v := .agg #[_, _, _, _]) (Y.extract rfl rfl) ?_
          refine Ops.go (O.alloc I Tryz.zeroValue29 rfl ?_)
          intro b14 w I
          refine Ops.y (v := .bool _) (Y.assign rfl) ?_
          refine Ops.go (O.store (v := .agg #[_, _, _, _]) I ty_29 0 rfl rfl rfl rfl rfl rfl (Nat.le_of_ble_eq_true rfl) rfl ?_)
          intro w I
          refine Ops.nil ?_
          refine WP.seq ?_
          refine WP.region ?_
          refine Ops.y (v := .bool _) (Y.move rfl) ?_
          refine Ops.nil ?_
          refine WP.cond_t rfl ?_
          refine WP.region ?_
          refine Ops.y (v := vc) (Y.move rfl) ?_
          refine Ops.y (v := .int .i64 _) (Y.move rfl) ?_
          refine Ops.y (v := .agg #[_, _, _]) (Y.loadv ty_27 rfl (I.rdbox 1 rfl 0 3) rfl rfl) ?_
          refine Ops.y (v := .agg #[.int .i64 _, .int .i64 _, .int .i64 _, .int .i64 _]) (Y.build pl_63 Tryz.zeroValue63 rfl rfl) ?_
          refine Ops.go (O.mksl (xs := [⟨n, ⟨a, b, c⟩⟩]) (enc := Stp.enc) I Tryz.underlying35 Tryz.sizeOf63 Tryz.zeroValue63 rfl (Nat.le_of_ble_eq_true rfl) rfl rfl (by decide) (fun _ => rfl) ?_)
          intro b75 h75 w I le75 sl75
          refine Ops.go (O.append I Tryz.underlying35 et_63 2 rfl rfl rfl (I.rd (sl75 0 _ rfl).2) rfl rfl (by decide) ((by omega)) (by omega) ?_)
          intro b76 c76 w I
          refine Ops.y (v := .slice _ _ _) (Y.assign rfl) ?_
          refine Ops.nil ?_
          refine WP.region ?_
          refine Ops.y (v := .int .i64 _) (Y.move rfl) ?_
          refine Ops.y (v := .int .i64 _) (Y.addi rfl rfl ⟨by omega, by omega⟩) ?_
          refine Ops.y (v := .int .i64 _) (Y.assign rfl) ?_
          refine Ops.nil ?_
          exact ⟨(c + 1, .slice (some ⟨b76, 0, none⟩) ((A5 f.xs n r a ++ B5 f.xs n r a b ++ C5 f.xs n r a b c).length + 1) c76, h75), ⟨⟨rfl, rfl, rfl, rfl, rfl, rfl, rfl, rfl, trivial⟩, by dsimp only; rw [C5_succ, hsv, ← List.append_assoc, snocS, lsn]; exact I.drop.drop, by dsimp only; omega, lc.trans le75⟩, by dsimp only; omega⟩
      · obtain rfl : c = 5 := by omega
        refine WP.exit ?_
        refine WP.region ?_
        refine Ops.y (v := .int .i64 _) (Y.move rfl) ?_
        refine Ops.y (v := .int .i64 _) (Y.addi rfl rfl ⟨by omega, by omega⟩) ?_
        refine Ops.y (v := .int .i64 _) (Y.assign rfl) ?_
        refine Ops.nil ?_
        exact ⟨(b + 1, vc, hc), ⟨⟨rfl, rfl, rfl, rfl, rfl, rfl, rfl, trivial⟩, by dsimp only; rw [B5_succ, ← List.append_assoc]; exact I, by dsimp only; omega, lc⟩, by dsimp only; omega⟩
    · obtain rfl : b = 5 := by omega
      refine WP.exit ?_
      refine WP.region ?_
      refine Ops.y (v := .int .i64 _) (Y.move rfl) ?_
      refine Ops.y (v := .int .i64 _) (Y.addi rfl rfl ⟨by omega, by omega⟩) ?_
      refine Ops.y (v := .int .i64 _) (Y.assign rfl) ?_
      refine Ops.nil ?_
      exact ⟨(a + 1, vb, hb), ⟨⟨rfl, rfl, rfl, rfl, rfl, rfl, trivial⟩, by dsimp only; rw [A5_succ]; exact I, by dsimp only; omega, lb⟩, by dsimp only; omega⟩
  · obtain rfl : a = 5 := by omega
    rw [← steps_A5] at I
    have hsl : (stepsF f.xs n r).length ≤ 140737488355328 := by rw [steps_A5]; have := A5_le f.xs n r 5; omega
    obtain ⟨h8, s8, le8, rfl, hx8, in8, I⟩ := I.settleSl (fun _ => rfl) rfl
    refine WP.exit ?_
    refine WP.seq ?_
    refine WP.region ?_
    refine Ops.y (v := .slice _ _ _) (Y.move rfl) ?_
    refine Ops.y (v := .slice _ _ _) (Y.assign rfl) ?_
    refine Ops.nil ?_
    refine WP.ret ?_
    repeat (first | refine thenE_ret ?_ | refine blockE_ret ?_)
    exact retQ.mk (vs := [.slice _ _ _]) rfl ⟨rfl, trivial⟩ I.ext_of (⟨s8, rfl, hx8, in8, by rw [hx8]; exact hsl⟩)
end Go.TF
end
section
/- Arguments as they come in: what is read as data lies in memory as located data. -/
namespace Go.TF
open Go Go.RowKit Go.Proofs Go.Deep

def memH (W : World) : Heap := fun b => W.heap[b]?
theorem memH_cell {W : World} {b o : Nat} {v : Value} (h : W.cell? ⟨b, o, none⟩ = some v) : (memH W).cell b o = some v := by
  unfold World.cell? at h
  unfold Heap.cell memH
  split at h
  · rename_i c t f hb; rw [hb]; simpa using h
  · cases h
def Opens (P : Program) (T : TypeId) {α : Type} (enc : α → List Value) (In : α → Heap → Prop) : Prop :=
  ∀ (H : Type) (en : TypeId × Value → H) (W : World) (fuel : Nat) (cs : List Value) (x : DataW H × List MemPlace), DataW.trod en P W 0 (fun _ => true) true fuel T cs = some x → (∀ n ∈ x.1.weights P T, n ≤ reachBytes) → ∃ y : α, cs = enc y ∧ In y (memH W)
/-- A slice, its elements, and that there are not too many. -/
structure Sl.Ok {α : Type} (s : Sl α) (k b : Nat) (enc : α → List Value) (In : α → Heap → Prop) (h : Heap) : Prop where
  is : s.Is k enc h
  each : ∀ x ∈ s.xs, In x h
  cap : s.xs.length ≤ s.cap
  size : s.cap * b ≤ reachBytes
section
variable {P : Program} {T : TypeId}
theorem i64_of_wf {n : Int} (hw : (Lit.int .i64 n).wf = true) : I64 n := by
  simp only [Lit.wf, Bool.and_eq_true, decide_eq_true_eq] at hw
  have h1 : IntKind.i64.min = -9223372036854775808 := rfl
  have h2 : IntKind.i64.max = 9223372036854775807 := rfl
  exact ⟨by omega, by omega⟩
theorem op_int (hT : P.underlying T = some (.int .i64)) : Opens P T (fun n : Int => [.int .i64 n]) (fun n _ => I64 n) := fun H en W fuel cs x h _ => by
  obtain ⟨n, rfl, _, hw⟩ := DataW.trod_int hT h
  refine ⟨n, rfl, ?_⟩
  simp only [Lit.wf, Bool.and_eq_true, decide_eq_true_eq] at hw
  have h1 : IntKind.i64.min = -9223372036854775808 := rfl
  have h2 : IntKind.i64.max = 9223372036854775807 := rfl
  exact ⟨by omega, by omega⟩
theorem op_bool (hT : P.underlying T = some .bool) : Opens P T (fun n : Bool => [.bool n]) (fun _ _ => True) := fun H en W fuel cs x h _ => by
  obtain ⟨n, rfl, _⟩ := DataW.trod_bool hT h
  exact ⟨n, rfl, trivial⟩
theorem op_string (hT : P.underlying T = some .string) : Opens P T (fun n : ByteArray => [.string n]) (fun s _ => s.size ≤ reachBytes) := fun H en W fuel cs x h hw => by
  obtain ⟨n, rfl, rfl, _⟩ := DataW.trod_string hT h
  refine ⟨n, rfl, ?_⟩
  have := hw n.data.toList.length (by simp [DataW.weights])
  simpa using this
theorem weightsAll_mem {H : Type} {e : TypeId} : ∀ {l : List (DataW H)} {d : DataW H}, d ∈ l → ∀ n ∈ d.weights P e, n ∈ DataW.weightsAll P e l
  | x :: l, d, hd, n, hn => by
    simp only [DataW.weightsAll]
    rcases List.mem_cons.1 hd with rfl | hd
    · exact List.mem_append_left _ hn
    · exact List.mem_append_right _ (weightsAll_mem hd n hn)
theorem op_slice {e k b : Nat} {α : Type} {enc : α → List Value} {In : α → Heap → Prop} (hT : P.underlying T = some (.slice e)) (hk : P.cellsOf e = k) (hb : P.bytesOf e = b) (hb0 : 0 < b) (hk0 : 0 < k) (he : Opens P e enc In) :
    Opens P T (fun s : Sl α => [s.val]) (fun s h => s.Ok k b enc In h) := fun H en W fuel cs x h hw => by
  rcases open_slice hT h with ⟨rfl, rfl⟩ | ⟨a, len, cap, m, n, D, Pl, rfl, _, hl, _, hmm, rfl, hall⟩
  · exact ⟨⟨none, 0, []⟩, rfl, ⟨⟨fun i x hx => by simp at hx, by simp⟩, fun x hx => by simp at hx, by simp, by simp [reachBytes]⟩⟩
  · simp only [if_true] at hmm
    subst hmm
    have hel : ∀ i, i < len → ∃ (y : α), W.cells? 0 (a.add (i * k)) k = some (enc y) ∧ In y (memH W) := fun i hi => by
      obtain ⟨cs', h1, h2⟩ := hall i (by omega)
      obtain ⟨y, rfl, hy⟩ := he H en W n cs' _ h2 fun q hq => hw q (by
        simp only [DataW.weights, hT]
        refine List.mem_cons_of_mem _ (List.mem_append_left _ (weightsAll_mem (d := D i) (List.mem_map.2 ⟨i, List.mem_range.2 hi, rfl⟩) q hq)))
      rw [hk] at h1
      exact ⟨y, h1, hy⟩
    have hsz : m * b ≤ reachBytes := by
      have := hw ((len + (m - len)) * b) (by simp [DataW.weights, hT, hb])
      rwa [show len + (m - len) = m by omega] at this
    have hm47 : m ≤ 140737488355328 := by
      have h1 : m ≤ m * b := Nat.le_mul_of_pos_right m hb0
      have h2 : reachBytes ≤ 140737488355328 := by decide
      omega
    have key : ∃ xs : List α, xs.length = len ∧ ∀ i y, xs[i]? = some y → W.cells? 0 (a.add (i * k)) k = some (enc y) ∧ In y (memH W) := by
      have : ∀ l, l ≤ len → ∃ xs : List α, xs.length = l ∧ ∀ i y, xs[i]? = some y → W.cells? 0 (a.add (i * k)) k = some (enc y) ∧ In y (memH W) := by
        intro l
        induction l with
        | zero => intro _; exact ⟨[], rfl, fun i y hy => by simp at hy⟩
        | succ l ih =>
          intro hl'
          obtain ⟨xs, h1, h2⟩ := ih (by omega)
          obtain ⟨y, h3⟩ := hel l (by omega)
          refine ⟨xs ++ [y], by simp [h1], fun i z hz => ?_⟩
          rw [List.getElem?_append] at hz
          split at hz
          · exact h2 i z hz
          · have : i = l := by
              have := (List.getElem?_eq_some_iff.1 hz).1
              simp at this; omega
            subst this
            simp [h1] at hz
            subst hz; exact h3
      exact this len (Nat.le_refl _)
    obtain ⟨xs, hxs, hx⟩ := key
    obtain ⟨ab, ao, spot⟩ := a
    have hspot : 0 < len → spot = none := fun h0 => by
      obtain ⟨y, h1, _⟩ := hel 0 h0
      obtain ⟨_, hlen, hc⟩ := World.cells?_some h1
      have hc0 := hc 0 hk0
      have : ∃ v, (enc y)[0]? = some v := ⟨(enc y)[0]'(by omega), by simp⟩
      obtain ⟨v, hv⟩ := this
      rw [hv] at hc0
      have := World.cell?_spot hc0
      simpa [Addr.add] using this
    refine ⟨⟨some ⟨ab, ao, spot⟩, m, xs⟩, by simp [Sl.val, hxs], ⟨⟨fun i y hy => ?_, by simp only [hxs]; omega⟩, fun y hy => ?_, by simp only [hxs]; omega, hsz⟩⟩
    · have hi : i < xs.length := (List.getElem?_eq_some_iff.1 hy).1
      have hs := hspot (by omega)
      subst hs
      refine ⟨rfl, fun j v hj => ?_⟩
      obtain ⟨_, hlen, hc⟩ := World.cells?_some (hx i y hy).1
      have hjk : j < k := by have := (List.getElem?_eq_some_iff.1 hj).1; omega
      have := hc j hjk
      rw [hj, addr_add, addr_add] at this
      exact memH_cell this
    · obtain ⟨i, hi, rfl⟩ := List.getElem_of_mem hy
      exact (hx i xs[i] (List.getElem?_eq_getElem hi)).2
theorem op_field {fs : Array Field} {H : Type} {en : TypeId × Value → H} {W : World} {fuel : Nat} {cs : List Value} {x : DataW H × List MemPlace} (hT : P.underlying T = some (.struct fs)) (h : DataW.trod en P W 0 (fun _ => true) true fuel T cs = some x) (hw : ∀ n ∈ x.1.weights P T, n ≤ reachBytes)
    {α : Type} {enc : α → List Value} {In : α → Heap → Prop} (i : Nat) {f : Field} (hf : fs[i]? = some f) {k : Nat} (hk : P.cellsOf f.type = k) (he : Opens P f.type enc In) : ∃ y : α, (cs.drop f.offset).take k = enc y ∧ In y (memH W) := by
  subst hk
  obtain ⟨xs, n, _, rfl, _, hlen, hfs⟩ := DataW.trod_struct hT h
  have hi : i < xs.length := by rw [hlen]; exact (Array.getElem?_eq_some_iff.1 hf).1
  have h1 := hfs i f hf
  rw [List.getElem?_eq_getElem hi] at h1
  refine he H en W n _ xs[i] h1 fun q hq => hw q ?_
  simp only [DataW.weights, hT]
  exact DataW.weights_mem_each (j := i) (t := f.type) (d := xs[i].1) (by simp [hf]) (by simp [hi]) q hq
theorem op_len {fs : Array Field} {H : Type} {en : TypeId × Value → H} {W : World} {fuel : Nat} {cs : List Value} {x : DataW H × List MemPlace} (hT : P.underlying T = some (.struct fs)) (h : DataW.trod en P W 0 (fun _ => true) true fuel T cs = some x) : cs.length = P.cellsOf T := by
  obtain ⟨xs, n, _, rfl, hl, _, _⟩ := DataW.trod_struct hT h
  exact hl
theorem op_arr {e n k : Nat} {H : Type} {en : TypeId × Value → H} {W : World} {fuel : Nat} {cs : List Value} {x : DataW H × List MemPlace} (hT : P.underlying T = some (.array n e)) (hk : P.cellsOf e = k) (h : DataW.trod en P W 0 (fun _ => true) true fuel T cs = some x) (hw : ∀ n ∈ x.1.weights P T, n ≤ reachBytes)
    {α : Type} {enc : α → List Value} {In : α → Heap → Prop} (he : Opens P e enc In) : cs.length = P.cellsOf T ∧ ∀ i, i < n → ∃ y : α, (cs.drop (i * k)).take k = enc y ∧ In y (memH W) := by
  cases fuel with
  | zero => simp [DataW.trod] at h
  | succ f =>
    have h2 : cs.length = P.cellsOf T ∧ ∃ xs, (List.range n).mapM (fun i => DataW.trod en P W 0 (fun _ => true) true f e ((cs.drop (i * k)).take k)) = some xs ∧ x = (.agg (xs.map (·.1)), xs.flatMap (·.2)) := by
      clear hw he
      simp only [DataW.trod, hT, hk] at h
      by_cases hl : cs.length = P.cellsOf T
      · rw [if_pos hl, Option.map_eq_some_iff] at h
        obtain ⟨xs, hp, hd⟩ := h
        exact ⟨hl, xs, hp, hd.symm⟩
      · rw [if_neg hl] at h; cases h
    obtain ⟨hl, xs, hp, rfl⟩ := h2
    refine ⟨hl, fun i hi => ?_⟩
    have hlen := mapM_some_length hp
    simp at hlen
    have h1 := mapM_some_get hp i i (by simp [hi])
    rw [List.getElem?_eq_getElem (by omega)] at h1
    refine he H en W f _ _ h1 fun q hq => ?_
    refine hw q ?_
    simp only [DataW.weights, hT]
    exact weightsAll_mem (d := (xs[i]'(by omega)).1) (List.mem_map.2 ⟨_, List.getElem_mem _, rfl⟩) q hq
/-- From the argument's cells to its value. -/
theorem val_slice {W : World} {r : Go.Reach} {b0 e : Nat} {v w : Value} (hT : P.underlying T = some (.slice e)) (hval : Value.okWide P W r b0 T v) (hc : v.cells.toList = [w]) : v = w := by
  unfold Value.okWide at hval
  rw [hT] at hval
  simp only at hval
  cases v <;> simp_all [Value.cells, Cell.okWide, Cell.ok]
theorem val_struct {W : World} {r : Go.Reach} {b0 : Nat} {fs : Array Field} {v : Value} {cs : List Value} (hT : P.underlying T = some (.struct fs)) (hval : Value.okWide P W r b0 T v) (hc : v.cells.toList = cs) : v = .agg cs.toArray := by
  unfold Value.okWide at hval
  rw [hT] at hval
  obtain ⟨cs', rfl, _⟩ := hval
  subst hc; simp [Value.cells]
theorem val_array {W : World} {r : Go.Reach} {b0 n e : Nat} {v : Value} {cs : List Value} (hT : P.underlying T = some (.array n e)) (hval : Value.okWide P W r b0 T v) (hc : v.cells.toList = cs) : v = .agg cs.toArray := by
  unfold Value.okWide at hval
  rw [hT] at hval
  obtain ⟨cs', rfl, _⟩ := hval
  subst hc; simp [Value.cells]
theorem weights_of {H : Type} {ts : List TypeId} {ds : List (DataW H)} (hz : (DataW.weightsEach P ts ds).all (· ≤ reachBytes) = true) (j : Nat) {t : TypeId} {d : DataW H} (ht : ts[j]? = some t) (hd : ds[j]? = some d) : ∀ n ∈ d.weights P t, n ≤ reachBytes := fun n hn => by
  have := List.all_eq_true.1 hz n (DataW.weights_mem_each ht hd n hn)
  simpa using this
end
theorem len47 {s : ByteArray} (h : s.data.toList.length ≤ reachBytes) : s.size ≤ 140737488355328 := by
  have h2 : reachBytes ≤ 140737488355328 := by decide
  have h3 : s.data.toList.length = s.size := by simp
  omega
theorem open_of {P : Program} {T : TypeId} {α : Type} {enc : α → List Value} {In : α → Heap → Prop} {H : Type} {en : TypeId × Value → H} {W : World} {v : Value} {d : DataW H} {ps : List MemPlace} (he : Opens P T enc In) (hd : DataW.Trod en P W 0 (fun _ => true) true T v d ps) (hw : ∀ n ∈ d.weights P T, n ≤ reachBytes) :
    ∃ y : α, v.cells.toList = enc y ∧ In y (memH W) := by
  obtain ⟨fuel, h⟩ := hd
  exact he H en W fuel _ _ h hw

/-! ### This program's types -/
theorem len2 {cs : List Value} (h : cs.length = 2) : ∃ c0 c1, cs = [c0, c1] := by
  match cs, h with
  | [c0, c1], _ => exact ⟨c0, c1, rfl⟩
theorem len3 {cs : List Value} (h : cs.length = 3) : ∃ c0 c1 c2, cs = [c0, c1, c2] := by
  match cs, h with
  | [c0, c1, c2], _ => exact ⟨c0, c1, c2, rfl⟩
theorem len4 {cs : List Value} (h : cs.length = 4) : ∃ c0 c1 c2 c3, cs = [c0, c1, c2, c3] := by
  match cs, h with
  | [c0, c1, c2, c3], _ => exact ⟨c0, c1, c2, c3, rfl⟩
theorem len5 {cs : List Value} (h : cs.length = 5) : ∃ c0 c1 c2 c3 c4, cs = [c0, c1, c2, c3, c4] := by
  match cs, h with
  | [c0, c1, c2, c3, c4], _ => exact ⟨c0, c1, c2, c3, c4, rfl⟩
def TrmOk (t : Trm) (_ : Heap) : Prop := I64 t.n
structure PrdOk (p : Prd) (_ : Heap) : Prop where
  name : p.name.size ≤ reachBytes
  arity : I64 p.arity
  kind : I64 p.kind
structure AtmOk (a : Atm) (h : Heap) : Prop where
  pred : I64 a.pred
  args : a.args.Ok 2 16 Trm.enc TrmOk h
def LtlOk (x : Ltl) (h : Heap) : Prop := AtmOk x.atom h
structure RulOk (r : Rul) (h : Heap) : Prop where
  head : AtmOk r.head h
  src : I64 r.src
  n : I64 r.n
  body : r.body.Ok 3 40 Ltl.enc LtlOk h
structure PrgOk (p : Prg) (h : Heap) : Prop where
  preds : p.preds.Ok 3 32 Prd.enc PrdOk h
  rules : p.rules.Ok 5 72 Rul.enc RulOk h
structure FctOk (x : Fct) (_ : Heap) : Prop where
  pred : I64 x.pred
  a : I64 x.a
  b : I64 x.b
  v : I64 x.v
structure VrsOk (x : Vrs) (_ : Heap) : Prop where
  x0 : I64 x.x0
  x1 : I64 x.x1
  x2 : I64 x.x2
structure StpOk (x : Stp) (h : Heap) : Prop where
  rule : I64 x.rule
  vars : VrsOk x.vars h
theorem AtmOk.in_ {a : Atm} {h : Heap} (x : AtmOk a h) : a.In h := x.args.is
theorem RulOk.in_ {r : Rul} {h : Heap} (x : RulOk r h) : r.In h := ⟨x.head.in_, x.body.is, fun y hy => AtmOk.in_ (x.body.each y hy)⟩
theorem PrgOk.in_ {p : Prg} {h : Heap} (x : PrgOk p h) : p.In h := ⟨x.preds.is, x.rules.is, fun y hy => (x.rules.each y hy).in_⟩
theorem op_Trm : Opens Tryz.prog 97 Trm.enc TrmOk := fun H en W fuel cs x h hw => by
  have hl := op_len Tryz.underlying97 h
  rw [show Tryz.prog.cellsOf 97 = 2 by kernel_rfl] at hl
  obtain ⟨y0, e0, g0⟩ := op_field Tryz.underlying97 h hw 0 rfl (k := 1) (by kernel_rfl) (op_bool Tryz.underlying4)
  obtain ⟨y1, e1, g1⟩ := op_field Tryz.underlying97 h hw 1 rfl (k := 1) (by kernel_rfl) (op_int Tryz.underlying3)
  obtain ⟨c0, c1, rfl⟩ := len2 hl
  replace e0 : [c0] = _ := e0
  replace e1 : [c1] = _ := e1
  simp only [List.cons.injEq, and_true] at e0 e1
  exact ⟨⟨y0, y1⟩, by simp [*], g1⟩
theorem op_SlTrm : Opens Tryz.prog 69 (fun s : Sl Trm => [s.val]) (fun s h => s.Ok 2 16 Trm.enc TrmOk h) := op_slice Tryz.underlying69 (by kernel_rfl) (by kernel_rfl) (by decide) (by decide) op_Trm
theorem op_Prd : Opens Tryz.prog 94 Prd.enc PrdOk := fun H en W fuel cs x h hw => by
  have hl := op_len Tryz.underlying94 h
  rw [show Tryz.prog.cellsOf 94 = 3 by kernel_rfl] at hl
  obtain ⟨y0, e0, g0⟩ := op_field Tryz.underlying94 h hw 0 rfl (k := 1) (by kernel_rfl) (op_string Tryz.underlying9)
  obtain ⟨y1, e1, g1⟩ := op_field Tryz.underlying94 h hw 1 rfl (k := 1) (by kernel_rfl) (op_int Tryz.underlying3)
  obtain ⟨y2, e2, g2⟩ := op_field Tryz.underlying94 h hw 2 rfl (k := 1) (by kernel_rfl) (op_int Tryz.underlying3)
  obtain ⟨c0, c1, c2, rfl⟩ := len3 hl
  replace e0 : [c0] = _ := e0
  replace e1 : [c1] = _ := e1
  replace e2 : [c2] = _ := e2
  simp only [List.cons.injEq, and_true] at e0 e1 e2
  exact ⟨⟨y0, y1, y2⟩, by simp [*], ⟨g0, g1, g2⟩⟩
theorem op_SlPrd : Opens Tryz.prog 22 (fun s : Sl Prd => [s.val]) (fun s h => s.Ok 3 32 Prd.enc PrdOk h) := op_slice Tryz.underlying22 (by kernel_rfl) (by kernel_rfl) (by decide) (by decide) op_Prd
theorem op_Atm : Opens Tryz.prog 71 Atm.enc AtmOk := fun H en W fuel cs x h hw => by
  have hl := op_len Tryz.underlying71 h
  rw [show Tryz.prog.cellsOf 71 = 2 by kernel_rfl] at hl
  obtain ⟨y0, e0, g0⟩ := op_field Tryz.underlying71 h hw 0 rfl (k := 1) (by kernel_rfl) (op_int Tryz.underlying3)
  obtain ⟨y1, e1, g1⟩ := op_field Tryz.underlying71 h hw 1 rfl (k := 1) (by kernel_rfl) (op_SlTrm)
  obtain ⟨c0, c1, rfl⟩ := len2 hl
  replace e0 : [c0] = _ := e0
  replace e1 : [c1] = _ := e1
  simp only [List.cons.injEq, and_true] at e0 e1
  exact ⟨⟨y0, y1⟩, by simp [*], ⟨g0, g1⟩⟩
theorem op_Ltl : Opens Tryz.prog 87 Ltl.enc LtlOk := fun H en W fuel cs x h hw => by
  have hl := op_len Tryz.underlying87 h
  rw [show Tryz.prog.cellsOf 87 = 3 by kernel_rfl] at hl
  obtain ⟨y0, e0, g0⟩ := op_field Tryz.underlying87 h hw 0 rfl (k := 1) (by kernel_rfl) (op_bool Tryz.underlying4)
  obtain ⟨y1, e1, g1⟩ := op_field Tryz.underlying87 h hw 1 rfl (k := 2) (by kernel_rfl) (op_Atm)
  obtain ⟨c0, c1, c2, rfl⟩ := len3 hl
  replace e0 : [c0] = _ := e0
  replace e1 : [c1, c2] = _ := e1
  simp only [List.cons.injEq, and_true] at e0 e1
  exact ⟨⟨y0, y1⟩, by simp [*], g1⟩
theorem op_SlLtl : Opens Tryz.prog 72 (fun s : Sl Ltl => [s.val]) (fun s h => s.Ok 3 40 Ltl.enc LtlOk h) := op_slice Tryz.underlying72 (by kernel_rfl) (by kernel_rfl) (by decide) (by decide) op_Ltl
theorem op_Rul : Opens Tryz.prog 74 Rul.enc RulOk := fun H en W fuel cs x h hw => by
  have hl := op_len Tryz.underlying74 h
  rw [show Tryz.prog.cellsOf 74 = 5 by kernel_rfl] at hl
  obtain ⟨y0, e0, g0⟩ := op_field Tryz.underlying74 h hw 0 rfl (k := 2) (by kernel_rfl) (op_Atm)
  obtain ⟨y1, e1, g1⟩ := op_field Tryz.underlying74 h hw 1 rfl (k := 1) (by kernel_rfl) (op_int Tryz.underlying3)
  obtain ⟨y2, e2, g2⟩ := op_field Tryz.underlying74 h hw 2 rfl (k := 1) (by kernel_rfl) (op_int Tryz.underlying3)
  obtain ⟨y3, e3, g3⟩ := op_field Tryz.underlying74 h hw 3 rfl (k := 1) (by kernel_rfl) (op_SlLtl)
  obtain ⟨c0, c1, c2, c3, c4, rfl⟩ := len5 hl
  replace e0 : [c0, c1] = _ := e0
  replace e1 : [c2] = _ := e1
  replace e2 : [c3] = _ := e2
  replace e3 : [c4] = _ := e3
  simp only [List.cons.injEq, and_true] at e0 e1 e2 e3
  exact ⟨⟨y0, y1, y2, y3⟩, by simp [*], ⟨g0, g1, g2, g3⟩⟩
theorem op_SlRul : Opens Tryz.prog 23 (fun s : Sl Rul => [s.val]) (fun s h => s.Ok 5 72 Rul.enc RulOk h) := op_slice Tryz.underlying23 (by kernel_rfl) (by kernel_rfl) (by decide) (by decide) op_Rul
theorem op_Prg : Opens Tryz.prog 25 Prg.enc PrgOk := fun H en W fuel cs x h hw => by
  have hl := op_len Tryz.underlying25 h
  rw [show Tryz.prog.cellsOf 25 = 2 by kernel_rfl] at hl
  obtain ⟨y0, e0, g0⟩ := op_field Tryz.underlying25 h hw 0 rfl (k := 1) (by kernel_rfl) (op_SlPrd)
  obtain ⟨y1, e1, g1⟩ := op_field Tryz.underlying25 h hw 1 rfl (k := 1) (by kernel_rfl) (op_SlRul)
  obtain ⟨c0, c1, rfl⟩ := len2 hl
  replace e0 : [c0] = _ := e0
  replace e1 : [c1] = _ := e1
  simp only [List.cons.injEq, and_true] at e0 e1
  exact ⟨⟨y0, y1⟩, by simp [*], ⟨g0, g1⟩⟩
theorem op_Fct : Opens Tryz.prog 29 Fct.enc FctOk := fun H en W fuel cs x h hw => by
  have hl := op_len Tryz.underlying29 h
  rw [show Tryz.prog.cellsOf 29 = 4 by kernel_rfl] at hl
  obtain ⟨y0, e0, g0⟩ := op_field Tryz.underlying29 h hw 0 rfl (k := 1) (by kernel_rfl) (op_int Tryz.underlying3)
  obtain ⟨y1, e1, g1⟩ := op_field Tryz.underlying29 h hw 1 rfl (k := 1) (by kernel_rfl) (op_int Tryz.underlying3)
  obtain ⟨y2, e2, g2⟩ := op_field Tryz.underlying29 h hw 2 rfl (k := 1) (by kernel_rfl) (op_int Tryz.underlying3)
  obtain ⟨y3, e3, g3⟩ := op_field Tryz.underlying29 h hw 3 rfl (k := 1) (by kernel_rfl) (op_int Tryz.underlying3)
  obtain ⟨c0, c1, c2, c3, rfl⟩ := len4 hl
  replace e0 : [c0] = _ := e0
  replace e1 : [c1] = _ := e1
  replace e2 : [c2] = _ := e2
  replace e3 : [c3] = _ := e3
  simp only [List.cons.injEq, and_true] at e0 e1 e2 e3
  exact ⟨⟨y0, y1, y2, y3⟩, by simp [*], ⟨g0, g1, g2, g3⟩⟩
theorem op_SlFct : Opens Tryz.prog 26 (fun s : Sl Fct => [s.val]) (fun s h => s.Ok 4 32 Fct.enc FctOk h) := op_slice Tryz.underlying26 (by kernel_rfl) (by kernel_rfl) (by decide) (by decide) op_Fct
theorem op_Vrs : Opens Tryz.prog 27 Vrs.enc VrsOk := fun H en W fuel cs x h hw => by
  obtain ⟨hl, hf⟩ := op_arr (k := 1) Tryz.underlying27 (by kernel_rfl) h hw (op_int Tryz.underlying3)
  rw [show Tryz.prog.cellsOf 27 = 3 by kernel_rfl] at hl
  obtain ⟨y0, e0, g0⟩ := hf 0 (by decide)
  obtain ⟨y1, e1, g1⟩ := hf 1 (by decide)
  obtain ⟨y2, e2, g2⟩ := hf 2 (by decide)
  obtain ⟨c0, c1, c2, rfl⟩ := len3 hl
  replace e0 : [c0] = _ := e0
  replace e1 : [c1] = _ := e1
  replace e2 : [c2] = _ := e2
  simp only [List.cons.injEq, and_true] at e0 e1 e2
  exact ⟨⟨y0, y1, y2⟩, by simp [*], ⟨g0, g1, g2⟩⟩
theorem op_Stp : Opens Tryz.prog 63 Stp.enc StpOk := fun H en W fuel cs x h hw => by
  have hl := op_len Tryz.underlying63 h
  rw [show Tryz.prog.cellsOf 63 = 4 by kernel_rfl] at hl
  obtain ⟨y0, e0, g0⟩ := op_field Tryz.underlying63 h hw 0 rfl (k := 1) (by kernel_rfl) (op_int Tryz.underlying3)
  obtain ⟨y1, e1, g1⟩ := op_field Tryz.underlying63 h hw 1 rfl (k := 3) (by kernel_rfl) (op_Vrs)
  obtain ⟨c0, c1, c2, c3, rfl⟩ := len4 hl
  replace e0 : [c0] = _ := e0
  replace e1 : [c1, c2, c3] = _ := e1
  simp only [List.cons.injEq, and_true] at e0 e1
  exact ⟨⟨y0, y1⟩, by simp [*], ⟨g0, g1⟩⟩
theorem op_SlStp : Opens Tryz.prog 35 (fun s : Sl Stp => [s.val]) (fun s h => s.Ok 4 32 Stp.enc StpOk h) := op_slice Tryz.underlying35 (by kernel_rfl) (by kernel_rfl) (by decide) (by decide) op_Stp
end Go.TF
end
section
/- The laws of fire with it: each returns true. -/
namespace Go.TF
open Go Go.RowKit Go.Proofs
set_option maxRecDepth 20000

theorem PrgOk.nm2 {p : Prg} {h : Heap} (x : PrgOk p h) : p.Nm := fun y hy => by
  have := (x.preds.each y hy).1
  simp only [reachBytes] at this; omega
set_option maxHeartbeats 2000000 in
theorem FireHolds_ok (B : Base) (hB : B.ok) (p : Prg) (hp : p.In B.h) (hnm : p.Nm) (f : Sl Fct) (hf : Fcts f B.h) (n : Int) (x : Vrs) : Fn Tryz.prog 3 [p.val, f.val, .int .i64 n, x.val] B (fun v _ => v = .bool true) := by
  obtain ⟨⟨y1, y2, y3⟩, hy⟩ : ∃ y, holdsOf p f.xs n x = y := ⟨_, rfl⟩
  refine Fn.of Tryz.func3 rfl Tryz.ntmps3 (by kernel_rfl) (by simp) ?_
  intro e
  have I := Inv.start hB
  refine WP.seq ?_
  refine WP.region ?_
  refine Ops.go (O.box (v := .agg #[_, _]) I rfl rfl ?_)
  intro b4 w I
  refine Ops.go (O.box (v := .agg #[_, _, _]) I rfl rfl ?_)
  intro b7 w I
  refine Ops.y (v := .bool _) (Y.assign rfl) ?_
  refine Ops.nil ?_
  refine WP.seq ?_
  refine WP.region ?_
  refine Ops.y (v := .agg #[_, _]) (Y.loadv ty_25 rfl (I.rdbox 1 rfl 0 2) rfl rfl) ?_
  refine Ops.y (v := .slice _ _ _) (Y.move rfl) ?_
  refine Ops.y (v := .int .i64 _) (Y.move rfl) ?_
  refine Ops.y (v := .agg #[_, _, _]) (Y.loadv ty_27 rfl (I.rdbox 0 rfl 0 3) rfl rfl) ?_
  refine Ops.go (O.callv I Tryz.call9 (Holds_at _ I.base_ok p hp hnm f hf n x _ hy) rfl ?_)
  intro w I
  refine Ops.y (v := .tuple #[_, _, _]) (Y.move rfl) ?_
  refine Ops.y (v := .bool _) (Y.extract rfl rfl) ?_
  refine Ops.y (v := .agg #[_, _, _, _]) (Y.extract rfl rfl) ?_
  refine Ops.y (v := .int .i64 _) (Y.extract rfl rfl) ?_
  refine Ops.go (O.alloc I Tryz.zeroValue29 rfl ?_)
  intro b10 w I
  refine Ops.y (v := .bool _) (Y.assign rfl) ?_
  refine Ops.go (O.store (v := .agg #[_, _, _, _]) I ty_29 0 rfl rfl rfl rfl rfl rfl (Nat.le_of_ble_eq_true rfl) rfl ?_)
  intro w I
  refine Ops.y (v := .int .i64 _) (Y.assign rfl) ?_
  refine Ops.nil ?_
  refine WP.seq ?_
  refine WP.region ?_
  refine Ops.y (v := .agg #[_, _]) (Y.loadv ty_25 rfl (I.rdbox 2 rfl 0 2) rfl rfl) ?_
  refine Ops.y (v := .slice _ _ _) (Y.move rfl) ?_
  refine Ops.y (v := .int .i64 _) (Y.move rfl) ?_
  refine Ops.y (v := .agg #[_, _, _]) (Y.loadv ty_27 rfl (I.rdbox 1 rfl 0 3) rfl rfl) ?_
  refine Ops.go (O.callv I Tryz.call10 (hy ▸ HoldsOf_ok _ I.base_ok p hp hnm f hf n x) rfl ?_)
  intro w I
  refine Ops.y (v := .tuple #[_, _, _]) (Y.move rfl) ?_
  refine Ops.y (v := .bool _) (Y.extract rfl rfl) ?_
  refine Ops.y (v := .agg #[_, _, _, _]) (Y.extract rfl rfl) ?_
  refine Ops.y (v := .int .i64 _) (Y.extract rfl rfl) ?_
  refine Ops.go (O.alloc I Tryz.zeroValue29 rfl ?_)
  intro b13 w I
  refine Ops.y (v := .bool _) (Y.assign rfl) ?_
  refine Ops.go (O.store (v := .agg #[_, _, _, _]) I ty_29 0 rfl rfl rfl rfl rfl rfl (Nat.le_of_ble_eq_true rfl) rfl ?_)
  intro w I
  refine Ops.y (v := .int .i64 _) (Y.assign rfl) ?_
  refine Ops.nil ?_
  refine WP.seq ?_
  refine WP.region ?_
  refine Ops.go (O.callv I Tryz.call11 (fireBegun_ok _ I.base_ok) rfl ?_)
  intro w I
  refine Ops.y (v := .bool _) (Y.move rfl) ?_
  refine Ops.ygt rfl (v := .bool _) (Y.move rfl) ?_
  refine Ops.ygt rfl (v := .bool _) (Y.move rfl) ?_
  refine Ops.ygt rfl (v := .bool true) (Y.dec_t (Y.eqb Tryz.underlying4 rfl rfl) (rfl)) ?_
  refine Ops.y (v := .bool _) (Y.pick_t rfl rfl) ?_
  refine Ops.y (v := .bool _) (Y.move rfl) ?_
  refine Ops.ygt rfl (v := .agg #[_, _, _, _]) (Y.loadv ty_29 rfl (I.rdbox 1 rfl 0 4) rfl rfl) ?_
  refine Ops.ygt rfl (v := .agg #[_, _, _, _]) (Y.loadv ty_29 rfl (I.rdbox 0 rfl 0 4) rfl rfl) ?_
  refine Ops.ygt rfl (v := .bool true) (Y.b (Y.eqst Tryz.eqGuardType29 (eq_29 _ _ _ _ _ _ _ _) rfl rfl) ((by simp))) ?_
  refine Ops.y (v := .bool _) (Y.pick_t rfl rfl) ?_
  refine Ops.y (v := .bool _) (Y.move rfl) ?_
  refine Ops.ygt rfl (v := .int .i64 _) (Y.move rfl) ?_
  refine Ops.ygt rfl (v := .int .i64 _) (Y.move rfl) ?_
  refine Ops.ygt rfl (v := .bool true) (Y.dec_t (Y.eqi rfl rfl) (rfl)) ?_
  refine Ops.y (v := .bool _) (Y.pick_t rfl rfl) ?_
  refine Ops.y (v := .bool _) (Y.assign rfl) ?_
  refine Ops.nil ?_
  refine WP.ret ?_
  repeat (first | refine thenE_ret ?_ | refine blockE_ret ?_)
  exact retQ.mk (vs := [.bool _]) rfl ⟨rfl, trivial⟩ I.ext_of (rfl)
set_option maxHeartbeats 2000000 in
theorem FireAll_ok (B : Base) (hB : B.ok) (p : Prg) (hp : p.In B.h) (hnm : p.Nm) (f : Sl Fct) (hf : Fcts f B.h) (n : Int) : Fn Tryz.prog 4 [p.val, f.val, .int .i64 n] B (fun v _ => v = .bool true) := by
  refine Fn.of Tryz.func4 rfl Tryz.ntmps4 (by kernel_rfl) (by simp) ?_
  intro e
  have I := Inv.start hB
  refine WP.seq ?_
  refine WP.region ?_
  refine Ops.go (O.box (v := .agg #[_, _]) I rfl rfl ?_)
  intro b3 w I
  refine Ops.y (v := .bool _) (Y.assign rfl) ?_
  refine Ops.nil ?_
  refine WP.seq ?_
  refine WP.region ?_
  refine Ops.y (v := .agg #[_, _]) (Y.loadv ty_25 rfl (I.rdbox 0 rfl 0 2) rfl rfl) ?_
  refine Ops.y (v := .slice _ _ _) (Y.move rfl) ?_
  refine Ops.y (v := .int .i64 _) (Y.move rfl) ?_
  refine Ops.go (O.call I Tryz.call12 (All_ok _ I.base_ok p hp hnm f hf n) rfl ?_)
  rintro _ h1 w I le1 ⟨s1, rfl, e1, i1⟩
  refine Ops.y (v := .tuple #[_, _]) (Y.move rfl) ?_
  refine Ops.y (v := .slice _ _ _) (Y.extract rfl rfl) ?_
  refine Ops.y (v := .int .i64 _) (Y.extract rfl rfl) ?_
  refine Ops.y (v := .slice _ _ _) (Y.assign rfl) ?_
  refine Ops.y (v := .int .i64 _) (Y.assign rfl) ?_
  refine Ops.nil ?_
  have hp := hp.le le1
  have hf := hf.le le1
  refine WP.seq ?_
  refine WP.region ?_
  refine Ops.y (v := .agg #[_, _]) (Y.loadv ty_25 rfl (I.rdbox 0 rfl 0 2) rfl rfl) ?_
  refine Ops.y (v := .slice _ _ _) (Y.move rfl) ?_
  refine Ops.y (v := .int .i64 _) (Y.move rfl) ?_
  refine Ops.go (O.callv I Tryz.call13 (FireError_ok _ I.base_ok p hp hnm f hf n) rfl ?_)
  intro w I
  refine Ops.y (v := .int .i64 _) (Y.assign rfl) ?_
  refine Ops.nil ?_
  refine WP.seq ?_
  refine WP.region ?_
  refine Ops.y (v := .slice _ _ _) (Y.assign rfl) ?_
  refine Ops.nil ?_
  refine WP.seq ?_
  refine WP.seq ?_
  refine WP.region ?_
  refine Ops.y (v := .int .i64 _) (Y.move rfl) ?_
  refine Ops.y (v := .bool (decide _)) (Y.eqi rfl rfl) ?_
  refine Ops.nil ?_
  refine WP.cond_dec rfl (fun h4 => ?_) (fun h4 => ?_)
  · have h4 : askedOf p f.xs n = 0 := h4
    obtain ak := askd_iff.1 h4
    obtain ⟨r, hr, ok⟩ := ak.rule
    have e1' : s1.xs = stepsF f.xs n r := by rw [e1]; unfold allOf; rw [if_neg (by rw [h4]; decide), ruleAt_eq hr]
    have e2' : (allOf p f.xs n).2 = askedOf p f.xs n := by unfold allOf; rw [if_neg (by rw [h4]; decide), h4]
    refine WP.region ?_
    refine Ops.y (v := .agg #[_, _]) (Y.loadv ty_25 rfl (I.rdbox 0 rfl 0 2) rfl rfl) ?_
    refine Ops.y (v := .slice _ _ _) (Y.move rfl) ?_
    refine Ops.y (v := .int .i64 _) (Y.move rfl) ?_
    refine Ops.go (O.call I Tryz.call14 (AllOf_ok _ I.base_ok p hp f hf n r ak.n.1 hr ok ak.fok) rfl ?_)
    rintro _ h5 w I le5 ⟨s5, rfl, e5, i5⟩
    refine Ops.y (v := .slice _ _ _) (Y.assign rfl) ?_
    refine Ops.nil ?_
    refine WP.seq ?_
    refine WP.region ?_
    refine Ops.go (O.callv I Tryz.call11 (fireBegun_ok _ I.base_ok) rfl ?_)
    intro w I
    refine Ops.y (v := .bool _) (Y.move rfl) ?_
    refine Ops.ygt rfl (v := .slice _ _ _) (Y.move rfl) ?_
    refine Ops.ygt rfl (v := .slice _ _ _) (Y.move rfl) ?_
    refine Ops.gt rfl (O.callv I Tryz.call15 (SameSteps_at _ I.base_ok s1 s5 (i1.le le5) i5 (e1'.trans e5.symm)) rfl ?_)
    intro w I
    refine Ops.y (v := .bool _) (Y.pick_t rfl rfl) ?_
    refine Ops.y (v := .bool _) (Y.move rfl) ?_
    refine Ops.ygt rfl (v := .int .i64 _) (Y.move rfl) ?_
    refine Ops.ygt rfl (v := .int .i64 _) (Y.move rfl) ?_
    refine Ops.ygt rfl (v := .bool true) (Y.dec_t (Y.eqi rfl rfl) (e2')) ?_
    refine Ops.y (v := .bool _) (Y.pick_t rfl rfl) ?_
    refine Ops.y (v := .bool _) (Y.assign rfl) ?_
    refine Ops.nil ?_
    refine WP.ret ?_
    repeat (first | refine thenE_ret ?_ | refine blockE_ret ?_)
    exact retQ.mk (vs := [.bool _]) rfl ⟨rfl, trivial⟩ I.ext_of (rfl)
  · have h4 : askedOf p f.xs n ≠ 0 := h4
    have e1' : s1.xs = [] := by rw [e1]; unfold allOf; rw [if_pos h4]
    have e2' : (allOf p f.xs n).2 = askedOf p f.xs n := by unfold allOf; rw [if_pos h4]
    refine WP.skip ?_
    refine WP.seq ?_
    refine WP.region ?_
    refine Ops.go (O.callv I Tryz.call11 (fireBegun_ok _ I.base_ok) rfl ?_)
    intro w I
    refine Ops.y (v := .bool _) (Y.move rfl) ?_
    refine Ops.ygt rfl (v := .slice _ _ _) (Y.move rfl) ?_
    refine Ops.ygt rfl (v := .slice _ _ _) (Y.move rfl) ?_
    refine Ops.gt rfl (O.callv I Tryz.call15 (SameSteps_at _ I.base_ok s1 ⟨none, 0, []⟩ i1 ⟨fun i x hx => by simp at hx, by simp⟩ e1') rfl ?_)
    intro w I
    refine Ops.y (v := .bool _) (Y.pick_t rfl rfl) ?_
    refine Ops.y (v := .bool _) (Y.move rfl) ?_
    refine Ops.ygt rfl (v := .int .i64 _) (Y.move rfl) ?_
    refine Ops.ygt rfl (v := .int .i64 _) (Y.move rfl) ?_
    refine Ops.ygt rfl (v := .bool true) (Y.dec_t (Y.eqi rfl rfl) (e2')) ?_
    refine Ops.y (v := .bool _) (Y.pick_t rfl rfl) ?_
    refine Ops.y (v := .bool _) (Y.assign rfl) ?_
    refine Ops.nil ?_
    refine WP.ret ?_
    repeat (first | refine thenE_ret ?_ | refine blockE_ret ?_)
    exact retQ.mk (vs := [.bool _]) rfl ⟨rfl, trivial⟩ I.ext_of (rfl)
end Go.TF
end
