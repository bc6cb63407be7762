/- Texts Fir10 Base18 Prog8 Rnd1 Rnd2 Rnd3 Rnd4 Open RndLaw SpNaive2 SpSemi RndLaw2 SpSub Nai1 Semi1. -/
import Derived.Test.YtgblgeddpegplaaGreatU7
import Derived.Test.YtgblgeddpegplaaGreatU5
import Derived.Test.YtgblgeddpegplaaGreatU6
import Derived.Test.YtgblgeddpegplaaGreatU2
import Derived.Deep.Slices
import Derived.SizedLaws
import Derived.OpenShut
import Derived.ChangeArms
section
/- What stands in a rule; all steps of a rule, as the document tells them. -/
namespace Go.TF
open Go Go.RowKit Go.Proofs
set_option maxRecDepth 20000

theorem any_take {α : Type} (q : α → Bool) {l : List α} {k : Nat} (hk : k < l.length) : (l.take (k + 1)).any q = ((l.take k).any q || q l[k]) := by
  rw [List.take_succ_eq_append_getElem hk, List.any_append]; simp
def stdT (r : Rul) (v : Int) (j : Nat) : Bool := standsIn r.head v || (r.body.xs.take j).any fun x => standsIn x.atom v
theorem stdT_zero (r : Rul) (v : Int) : stdT r v 0 = standsIn r.head v := by simp [stdT]
theorem stdT_end (r : Rul) (v : Int) : stdT r v r.body.xs.length = standsR r v := by unfold stdT standsR; rw [List.take_length]
theorem stdT_succ {r : Rul} {v : Int} {j : Nat} (hj : j < r.body.xs.length) : stdT r v (j + 1) = (stdT r v j || standsIn r.body.xs[j].atom v) := by
  unfold stdT; rw [any_take _ hj, Bool.or_assoc]
set_option maxHeartbeats 4000000 in
theorem stand_ok (B : Base) (hB : B.ok) (r : Rul) (hr : r.In B.h) (hlen : r.body.xs.length ≤ 3) : Fn Tryz.prog 108 [r.val] B (fun v _ => v = .agg #[.bool (standsR r 0), .bool (standsR r 1), .bool (standsR r 2)]) := by
  refine Fn.of Tryz.func108 rfl Tryz.ntmps108 (by kernel_rfl) (by simp) ?_
  intro e
  have I := Inv.start hB
  refine WP.seq ?_
  refine WP.region ?_
  refine Ops.go (O.box (v := .agg #[_, _, _, _, _]) I rfl rfl ?_)
  intro b1 w I
  refine Ops.go (O.alloc I Tryz.zeroValue143 rfl ?_)
  intro b2 w I
  refine Ops.nil ?_
  refine WP.seq ?_
  refine WP.region ?_
  refine Ops.go (O.alloc I Tryz.zeroValue143 rfl ?_)
  intro b3 w I
  refine Ops.nil ?_
  refine WP.seq ?_
  refine WP.seq ?_
  refine WP.region ?_
  refine Ops.y (v := .int .i64 _) (Y.assign rfl) ?_
  refine Ops.nil ?_
  refine WP.block ?_
  refine WP.loopE (σ := Nat) (fun k => [(1, .pointer (some ⟨b1, 0, none⟩)), (2, .pointer (some ⟨b2, 0, none⟩)), (3, .pointer (some ⟨b3, 0, none⟩)), (4, .int .i64 k)]) (fun k w => Inv B B.h [box b3 [.bool (if 0 < k then standsR r 0 else false), .bool (if 1 < k then standsR r 1 else false), .bool (if 2 < k then standsR r 2 else false)] 143, box b2 [.bool false, .bool false, .bool false] 143, box b1 r.enc 68] w ∧ k ≤ 3) (fun k => 3 - k)
    ⟨0, ⟨rfl, rfl, rfl, rfl, trivial⟩, I, by omega⟩ ?_
  rintro k e w ⟨I, hk⟩
  refine WP.seq ?_
  refine WP.seq ?_
  refine WP.region ?_
  refine Ops.y (v := .int .i64 _) (Y.move rfl) ?_
  refine Ops.y (v := .bool (decide _)) (Y.lti rfl rfl) ?_
  refine Ops.nil ?_
  refine WP.cond_dec rfl (fun h => ?_) (fun h => ?_)
  · have hk3 : k = 0 ∨ k = 1 ∨ k = 2 := by omega
    rcases hk3 with rfl | rfl | rfl
    · refine WP.skip ?_
      refine WP.seq ?_
      refine WP.block ?_
      refine WP.seq ?_
      refine WP.region ?_
      refine Ops.y (v := .int .i64 _) (Y.move rfl) ?_
      refine Ops.y (v := .pointer (some ⟨_, _, none⟩)) (Y.fa0 fa_68_0 rfl) ?_
      refine Ops.y (v := .agg #[_, _]) (Y.loadv ty_65 rfl (I.rdbox 2 rfl 0 2) rfl rfl) ?_
      refine Ops.y (v := .int .i64 _) (Y.move rfl) ?_
      refine Ops.go (O.callv I Tryz.call140 (standsR_ok _ I.base_ok r.head hr.head 0) rfl ?_)
      intro w I
      refine Ops.y (v := .pointer (some ⟨_, _, none⟩)) (Y.idxa Tryz.underlying143 Tryz.sizeOf4 rfl rfl (by omega) (by omega)) ?_
      refine Ops.go (O.store (v := .bool _) I ty_4 0 rfl rfl rfl rfl rfl rfl (Nat.le_of_ble_eq_true rfl) rfl ?_)
      intro w I
      refine Ops.nil ?_
      refine WP.seq ?_
      refine WP.region ?_
      refine Ops.y (v := .int .i64 _) (Y.assign rfl) ?_
      refine Ops.nil ?_
      refine WP.block ?_
      refine WP.loopE (σ := Nat) (fun j => [(1, .pointer (some ⟨b1, 0, none⟩)), (2, .pointer (some ⟨b2, 0, none⟩)), (3, .pointer (some ⟨b3, 0, none⟩)), (4, .int .i64 0), (5, .int .i64 j)]) (fun j w => Inv B B.h [box b3 [.bool (stdT r 0 j), .bool false, .bool false] 143, box b2 [.bool false, .bool false, .bool false] 143, box b1 r.enc 68] w ∧ j ≤ r.body.xs.length) (fun j => r.body.xs.length - j)
        ⟨0, ⟨rfl, rfl, rfl, rfl, rfl, trivial⟩, by simp only [stdT_zero]; exact I, by omega⟩ ?_
      rintro j e w ⟨I, hj⟩
      refine WP.seq ?_
      refine WP.seq ?_
      refine WP.region ?_
      refine Ops.y (v := .int .i64 _) (Y.move rfl) ?_
      refine Ops.y (v := .pointer (some ⟨_, _, none⟩)) (Y.fa fa_68_3 rfl) ?_
      refine Ops.y (v := .slice _ _ _) (Y.loadv ty_66 rfl (I.rdbox 2 rfl 4 1) rfl rfl) ?_
      refine Ops.y (v := .int .i64 _) (Y.lens Tryz.underlying66 rfl) ?_
      refine Ops.y (v := .bool (decide _)) (Y.lti rfl rfl) ?_
      refine Ops.nil ?_
      refine WP.cond_dec rfl (fun h7 => ?_) (fun h7 => ?_)
      · have hj' : j < r.body.xs.length := by omega
        have E := hr.body.is.at hj'
        cases hs : stdT r 0 j
        · refine WP.skip ?_
          refine WP.seq ?_
          refine WP.block ?_
          refine WP.region ?_
          refine Ops.y (v := .int .i64 _) (Y.move rfl) ?_
          refine Ops.y (v := .int .i64 _) (Y.move rfl) ?_
          refine Ops.y (v := .pointer (some ⟨_, _, none⟩)) (Y.idxa Tryz.underlying143 Tryz.sizeOf4 rfl rfl (by omega) (by omega)) ?_
          refine Ops.y (v := .bool false) (Y.b (Y.loadv ty_4 rfl (I.rdbox 0 rfl 0 1) rfl rfl) (hs)) ?_
          refine Ops.y (v := .bool _) (Y.move rfl) ?_
          refine Ops.ygt rfl (v := .pointer (some ⟨_, _, none⟩)) (Y.fa fa_68_3 rfl) ?_
          refine Ops.ygt rfl (v := .slice _ _ _) (Y.loadv ty_66 rfl (I.rdbox 2 rfl 4 1) rfl rfl) ?_
          refine Ops.ygt rfl (v := .int .i64 _) (Y.move rfl) ?_
          refine Ops.ygt rfl (v := .pointer (some ⟨_, _, none⟩)) (Y.idxEl E Tryz.underlying66 Tryz.sizeOf131 rfl rfl (Int.natCast_nonneg _) rfl) ?_
          refine Ops.ygt rfl (v := .pointer (some ⟨_, _, none⟩)) (Y.fa fa_131_1 rfl) ?_
          refine Ops.ygt rfl (v := .agg #[_, _]) (Y.loadv ty_65 rfl (I.rd (E.rd.part 1 2)) rfl rfl) ?_
          refine Ops.ygt rfl (v := .int .i64 _) (Y.move rfl) ?_
          refine Ops.gt rfl (O.callv I Tryz.call140 (standsR_ok _ I.base_ok r.body.xs[j].atom (hr.body.each _ (List.getElem_mem hj')) 0) rfl ?_)
          intro w I
          refine Ops.y (v := .bool _) (Y.pick_f rfl rfl) ?_
          refine Ops.y (v := .pointer (some ⟨_, _, none⟩)) (Y.idxa Tryz.underlying143 Tryz.sizeOf4 rfl rfl (by omega) (by omega)) ?_
          refine Ops.go (O.store (v := .bool _) I ty_4 0 rfl rfl rfl rfl rfl rfl (Nat.le_of_ble_eq_true rfl) rfl ?_)
          intro w I
          refine Ops.nil ?_
          refine WP.region ?_
          refine Ops.y (v := .int .i64 _) (Y.move rfl) ?_
          refine Ops.y (v := .int .i64 _) (Y.addi rfl rfl ⟨by omega, by omega⟩) ?_
          refine Ops.y (v := .int .i64 _) (Y.assign rfl) ?_
          refine Ops.nil ?_
          exact ⟨j + 1, ⟨⟨rfl, rfl, rfl, rfl, rfl, trivial⟩, by rw [stdT_succ hj', hs, Bool.false_or]; exact I, by omega⟩, by omega⟩
        · refine WP.skip ?_
          refine WP.seq ?_
          refine WP.block ?_
          refine WP.region ?_
          refine Ops.y (v := .int .i64 _) (Y.move rfl) ?_
          refine Ops.y (v := .int .i64 _) (Y.move rfl) ?_
          refine Ops.y (v := .pointer (some ⟨_, _, none⟩)) (Y.idxa Tryz.underlying143 Tryz.sizeOf4 rfl rfl (by omega) (by omega)) ?_
          refine Ops.y (v := .bool true) (Y.b (Y.loadv ty_4 rfl (I.rdbox 0 rfl 0 1) rfl rfl) (hs)) ?_
          refine Ops.y (v := .bool _) (Y.move rfl) ?_
          refine Ops.gf rfl ?_
          refine Ops.gf rfl ?_
          refine Ops.gf rfl ?_
          refine Ops.gf rfl ?_
          refine Ops.gf rfl ?_
          refine Ops.gf rfl ?_
          refine Ops.gf rfl ?_
          refine Ops.gf rfl ?_
          refine Ops.y (v := .bool _) (Y.pick_t rfl rfl) ?_
          refine Ops.y (v := .pointer (some ⟨_, _, none⟩)) (Y.idxa Tryz.underlying143 Tryz.sizeOf4 rfl rfl (by omega) (by omega)) ?_
          refine Ops.go (O.store (v := .bool _) I ty_4 0 rfl rfl rfl rfl rfl rfl (Nat.le_of_ble_eq_true rfl) rfl ?_)
          intro w I
          refine Ops.nil ?_
          refine WP.region ?_
          refine Ops.y (v := .int .i64 _) (Y.move rfl) ?_
          refine Ops.y (v := .int .i64 _) (Y.addi rfl rfl ⟨by omega, by omega⟩) ?_
          refine Ops.y (v := .int .i64 _) (Y.assign rfl) ?_
          refine Ops.nil ?_
          exact ⟨j + 1, ⟨⟨rfl, rfl, rfl, rfl, rfl, trivial⟩, by rw [stdT_succ hj', hs, Bool.true_or]; exact I, by omega⟩, by omega⟩
      obtain rfl : j = r.body.xs.length := by omega
      rw [stdT_end] at I
      refine WP.exit ?_
      refine WP.region ?_
      refine Ops.y (v := .int .i64 _) (Y.move rfl) ?_
      refine Ops.y (v := .int .i64 _) (Y.addi rfl rfl ⟨by omega, by omega⟩) ?_
      refine Ops.y (v := .int .i64 _) (Y.assign rfl) ?_
      refine Ops.nil ?_
      exact ⟨0 + 1, ⟨⟨rfl, rfl, rfl, rfl, trivial⟩, I, by omega⟩, by omega⟩
    · refine WP.skip ?_
      refine WP.seq ?_
      refine WP.block ?_
      refine WP.seq ?_
      refine WP.region ?_
      refine Ops.y (v := .int .i64 _) (Y.move rfl) ?_
      refine Ops.y (v := .pointer (some ⟨_, _, none⟩)) (Y.fa0 fa_68_0 rfl) ?_
      refine Ops.y (v := .agg #[_, _]) (Y.loadv ty_65 rfl (I.rdbox 2 rfl 0 2) rfl rfl) ?_
      refine Ops.y (v := .int .i64 _) (Y.move rfl) ?_
      refine Ops.go (O.callv I Tryz.call140 (standsR_ok _ I.base_ok r.head hr.head 1) rfl ?_)
      intro w I
      refine Ops.y (v := .pointer (some ⟨_, _, none⟩)) (Y.idxa Tryz.underlying143 Tryz.sizeOf4 rfl rfl (by omega) (by omega)) ?_
      refine Ops.go (O.store (v := .bool _) I ty_4 0 rfl rfl rfl rfl rfl rfl (Nat.le_of_ble_eq_true rfl) rfl ?_)
      intro w I
      refine Ops.nil ?_
      refine WP.seq ?_
      refine WP.region ?_
      refine Ops.y (v := .int .i64 _) (Y.assign rfl) ?_
      refine Ops.nil ?_
      refine WP.block ?_
      refine WP.loopE (σ := Nat) (fun j => [(1, .pointer (some ⟨b1, 0, none⟩)), (2, .pointer (some ⟨b2, 0, none⟩)), (3, .pointer (some ⟨b3, 0, none⟩)), (4, .int .i64 1), (5, .int .i64 j)]) (fun j w => Inv B B.h [box b3 [.bool (standsR r 0), .bool (stdT r 1 j), .bool false] 143, box b2 [.bool false, .bool false, .bool false] 143, box b1 r.enc 68] w ∧ j ≤ r.body.xs.length) (fun j => r.body.xs.length - j)
        ⟨0, ⟨rfl, rfl, rfl, rfl, rfl, trivial⟩, by simp only [stdT_zero]; exact I, by omega⟩ ?_
      rintro j e w ⟨I, hj⟩
      refine WP.seq ?_
      refine WP.seq ?_
      refine WP.region ?_
      refine Ops.y (v := .int .i64 _) (Y.move rfl) ?_
      refine Ops.y (v := .pointer (some ⟨_, _, none⟩)) (Y.fa fa_68_3 rfl) ?_
      refine Ops.y (v := .slice _ _ _) (Y.loadv ty_66 rfl (I.rdbox 2 rfl 4 1) rfl rfl) ?_
      refine Ops.y (v := .int .i64 _) (Y.lens Tryz.underlying66 rfl) ?_
      refine Ops.y (v := .bool (decide _)) (Y.lti rfl rfl) ?_
      refine Ops.nil ?_
      refine WP.cond_dec rfl (fun h7 => ?_) (fun h7 => ?_)
      · have hj' : j < r.body.xs.length := by omega
        have E := hr.body.is.at hj'
        cases hs : stdT r 1 j
        · refine WP.skip ?_
          refine WP.seq ?_
          refine WP.block ?_
          refine WP.region ?_
          refine Ops.y (v := .int .i64 _) (Y.move rfl) ?_
          refine Ops.y (v := .int .i64 _) (Y.move rfl) ?_
          refine Ops.y (v := .pointer (some ⟨_, _, none⟩)) (Y.idxa Tryz.underlying143 Tryz.sizeOf4 rfl rfl (by omega) (by omega)) ?_
          refine Ops.y (v := .bool false) (Y.b (Y.loadv ty_4 rfl (I.rdbox 0 rfl 1 1) rfl rfl) (hs)) ?_
          refine Ops.y (v := .bool _) (Y.move rfl) ?_
          refine Ops.ygt rfl (v := .pointer (some ⟨_, _, none⟩)) (Y.fa fa_68_3 rfl) ?_
          refine Ops.ygt rfl (v := .slice _ _ _) (Y.loadv ty_66 rfl (I.rdbox 2 rfl 4 1) rfl rfl) ?_
          refine Ops.ygt rfl (v := .int .i64 _) (Y.move rfl) ?_
          refine Ops.ygt rfl (v := .pointer (some ⟨_, _, none⟩)) (Y.idxEl E Tryz.underlying66 Tryz.sizeOf131 rfl rfl (Int.natCast_nonneg _) rfl) ?_
          refine Ops.ygt rfl (v := .pointer (some ⟨_, _, none⟩)) (Y.fa fa_131_1 rfl) ?_
          refine Ops.ygt rfl (v := .agg #[_, _]) (Y.loadv ty_65 rfl (I.rd (E.rd.part 1 2)) rfl rfl) ?_
          refine Ops.ygt rfl (v := .int .i64 _) (Y.move rfl) ?_
          refine Ops.gt rfl (O.callv I Tryz.call140 (standsR_ok _ I.base_ok r.body.xs[j].atom (hr.body.each _ (List.getElem_mem hj')) 1) rfl ?_)
          intro w I
          refine Ops.y (v := .bool _) (Y.pick_f rfl rfl) ?_
          refine Ops.y (v := .pointer (some ⟨_, _, none⟩)) (Y.idxa Tryz.underlying143 Tryz.sizeOf4 rfl rfl (by omega) (by omega)) ?_
          refine Ops.go (O.store (v := .bool _) I ty_4 0 rfl rfl rfl rfl rfl rfl (Nat.le_of_ble_eq_true rfl) rfl ?_)
          intro w I
          refine Ops.nil ?_
          refine WP.region ?_
          refine Ops.y (v := .int .i64 _) (Y.move rfl) ?_
          refine Ops.y (v := .int .i64 _) (Y.addi rfl rfl ⟨by omega, by omega⟩) ?_
          refine Ops.y (v := .int .i64 _) (Y.assign rfl) ?_
          refine Ops.nil ?_
          exact ⟨j + 1, ⟨⟨rfl, rfl, rfl, rfl, rfl, trivial⟩, by rw [stdT_succ hj', hs, Bool.false_or]; exact I, by omega⟩, by omega⟩
        · refine WP.skip ?_
          refine WP.seq ?_
          refine WP.block ?_
          refine WP.region ?_
          refine Ops.y (v := .int .i64 _) (Y.move rfl) ?_
          refine Ops.y (v := .int .i64 _) (Y.move rfl) ?_
          refine Ops.y (v := .pointer (some ⟨_, _, none⟩)) (Y.idxa Tryz.underlying143 Tryz.sizeOf4 rfl rfl (by omega) (by omega)) ?_
          refine Ops.y (v := .bool true) (Y.b (Y.loadv ty_4 rfl (I.rdbox 0 rfl 1 1) rfl rfl) (hs)) ?_
          refine Ops.y (v := .bool _) (Y.move rfl) ?_
          refine Ops.gf rfl ?_
          refine Ops.gf rfl ?_
          refine Ops.gf rfl ?_
          refine Ops.gf rfl ?_
          refine Ops.gf rfl ?_
          refine Ops.gf rfl ?_
          refine Ops.gf rfl ?_
          refine Ops.gf rfl ?_
          refine Ops.y (v := .bool _) (Y.pick_t rfl rfl) ?_
          refine Ops.y (v := .pointer (some ⟨_, _, none⟩)) (Y.idxa Tryz.underlying143 Tryz.sizeOf4 rfl rfl (by omega) (by omega)) ?_
          refine Ops.go (O.store (v := .bool _) I ty_4 0 rfl rfl rfl rfl rfl rfl (Nat.le_of_ble_eq_true rfl) rfl ?_)
          intro w I
          refine Ops.nil ?_
          refine WP.region ?_
          refine Ops.y (v := .int .i64 _) (Y.move rfl) ?_
          refine Ops.y (v := .int .i64 _) (Y.addi rfl rfl ⟨by omega, by omega⟩) ?_
          refine Ops.y (v := .int .i64 _) (Y.assign rfl) ?_
          refine Ops.nil ?_
          exact ⟨j + 1, ⟨⟨rfl, rfl, rfl, rfl, rfl, trivial⟩, by rw [stdT_succ hj', hs, Bool.true_or]; exact I, by omega⟩, by omega⟩
      obtain rfl : j = r.body.xs.length := by omega
      rw [stdT_end] at I
      refine WP.exit ?_
      refine WP.region ?_
      refine Ops.y (v := .int .i64 _) (Y.move rfl) ?_
      refine Ops.y (v := .int .i64 _) (Y.addi rfl rfl ⟨by omega, by omega⟩) ?_
      refine Ops.y (v := .int .i64 _) (Y.assign rfl) ?_
      refine Ops.nil ?_
      exact ⟨1 + 1, ⟨⟨rfl, rfl, rfl, rfl, trivial⟩, I, by omega⟩, by omega⟩
    · refine WP.skip ?_
      refine WP.seq ?_
      refine WP.block ?_
      refine WP.seq ?_
      refine WP.region ?_
      refine Ops.y (v := .int .i64 _) (Y.move rfl) ?_
      refine Ops.y (v := .pointer (some ⟨_, _, none⟩)) (Y.fa0 fa_68_0 rfl) ?_
      refine Ops.y (v := .agg #[_, _]) (Y.loadv ty_65 rfl (I.rdbox 2 rfl 0 2) rfl rfl) ?_
      refine Ops.y (v := .int .i64 _) (Y.move rfl) ?_
      refine Ops.go (O.callv I Tryz.call140 (standsR_ok _ I.base_ok r.head hr.head 2) rfl ?_)
      intro w I
      refine Ops.y (v := .pointer (some ⟨_, _, none⟩)) (Y.idxa Tryz.underlying143 Tryz.sizeOf4 rfl rfl (by omega) (by omega)) ?_
      refine Ops.go (O.store (v := .bool _) I ty_4 0 rfl rfl rfl rfl rfl rfl (Nat.le_of_ble_eq_true rfl) rfl ?_)
      intro w I
      refine Ops.nil ?_
      refine WP.seq ?_
      refine WP.region ?_
      refine Ops.y (v := .int .i64 _) (Y.assign rfl) ?_
      refine Ops.nil ?_
      refine WP.block ?_
      refine WP.loopE (σ := Nat) (fun j => [(1, .pointer (some ⟨b1, 0, none⟩)), (2, .pointer (some ⟨b2, 0, none⟩)), (3, .pointer (some ⟨b3, 0, none⟩)), (4, .int .i64 2), (5, .int .i64 j)]) (fun j w => Inv B B.h [box b3 [.bool (standsR r 0), .bool (standsR r 1), .bool (stdT r 2 j)] 143, box b2 [.bool false, .bool false, .bool false] 143, box b1 r.enc 68] w ∧ j ≤ r.body.xs.length) (fun j => r.body.xs.length - j)
        ⟨0, ⟨rfl, rfl, rfl, rfl, rfl, trivial⟩, by simp only [stdT_zero]; exact I, by omega⟩ ?_
      rintro j e w ⟨I, hj⟩
      refine WP.seq ?_
      refine WP.seq ?_
      refine WP.region ?_
      refine Ops.y (v := .int .i64 _) (Y.move rfl) ?_
      refine Ops.y (v := .pointer (some ⟨_, _, none⟩)) (Y.fa fa_68_3 rfl) ?_
      refine Ops.y (v := .slice _ _ _) (Y.loadv ty_66 rfl (I.rdbox 2 rfl 4 1) rfl rfl) ?_
      refine Ops.y (v := .int .i64 _) (Y.lens Tryz.underlying66 rfl) ?_
      refine Ops.y (v := .bool (decide _)) (Y.lti rfl rfl) ?_
      refine Ops.nil ?_
      refine WP.cond_dec rfl (fun h7 => ?_) (fun h7 => ?_)
      · have hj' : j < r.body.xs.length := by omega
        have E := hr.body.is.at hj'
        cases hs : stdT r 2 j
        · refine WP.skip ?_
          refine WP.seq ?_
          refine WP.block ?_
          refine WP.region ?_
          refine Ops.y (v := .int .i64 _) (Y.move rfl) ?_
          refine Ops.y (v := .int .i64 _) (Y.move rfl) ?_
          refine Ops.y (v := .pointer (some ⟨_, _, none⟩)) (Y.idxa Tryz.underlying143 Tryz.sizeOf4 rfl rfl (by omega) (by omega)) ?_
          refine Ops.y (v := .bool false) (Y.b (Y.loadv ty_4 rfl (I.rdbox 0 rfl 2 1) rfl rfl) (hs)) ?_
          refine Ops.y (v := .bool _) (Y.move rfl) ?_
          refine Ops.ygt rfl (v := .pointer (some ⟨_, _, none⟩)) (Y.fa fa_68_3 rfl) ?_
          refine Ops.ygt rfl (v := .slice _ _ _) (Y.loadv ty_66 rfl (I.rdbox 2 rfl 4 1) rfl rfl) ?_
          refine Ops.ygt rfl (v := .int .i64 _) (Y.move rfl) ?_
          refine Ops.ygt rfl (v := .pointer (some ⟨_, _, none⟩)) (Y.idxEl E Tryz.underlying66 Tryz.sizeOf131 rfl rfl (Int.natCast_nonneg _) rfl) ?_
          refine Ops.ygt rfl (v := .pointer (some ⟨_, _, none⟩)) (Y.fa fa_131_1 rfl) ?_
          refine Ops.ygt rfl (v := .agg #[_, _]) (Y.loadv ty_65 rfl (I.rd (E.rd.part 1 2)) rfl rfl) ?_
          refine Ops.ygt rfl (v := .int .i64 _) (Y.move rfl) ?_
          refine Ops.gt rfl (O.callv I Tryz.call140 (standsR_ok _ I.base_ok r.body.xs[j].atom (hr.body.each _ (List.getElem_mem hj')) 2) rfl ?_)
          intro w I
          refine Ops.y (v := .bool _) (Y.pick_f rfl rfl) ?_
          refine Ops.y (v := .pointer (some ⟨_, _, none⟩)) (Y.idxa Tryz.underlying143 Tryz.sizeOf4 rfl rfl (by omega) (by omega)) ?_
          refine Ops.go (O.store (v := .bool _) I ty_4 0 rfl rfl rfl rfl rfl rfl (Nat.le_of_ble_eq_true rfl) rfl ?_)
          intro w I
          refine Ops.nil ?_
          refine WP.region ?_
          refine Ops.y (v := .int .i64 _) (Y.move rfl) ?_
          refine Ops.y (v := .int .i64 _) (Y.addi rfl rfl ⟨by omega, by omega⟩) ?_
          refine Ops.y (v := .int .i64 _) (Y.assign rfl) ?_
          refine Ops.nil ?_
          exact ⟨j + 1, ⟨⟨rfl, rfl, rfl, rfl, rfl, trivial⟩, by rw [stdT_succ hj', hs, Bool.false_or]; exact I, by omega⟩, by omega⟩
        · refine WP.skip ?_
          refine WP.seq ?_
          refine WP.block ?_
          refine WP.region ?_
          refine Ops.y (v := .int .i64 _) (Y.move rfl) ?_
          refine Ops.y (v := .int .i64 _) (Y.move rfl) ?_
          refine Ops.y (v := .pointer (some ⟨_, _, none⟩)) (Y.idxa Tryz.underlying143 Tryz.sizeOf4 rfl rfl (by omega) (by omega)) ?_
          refine Ops.y (v := .bool true) (Y.b (Y.loadv ty_4 rfl (I.rdbox 0 rfl 2 1) rfl rfl) (hs)) ?_
          refine Ops.y (v := .bool _) (Y.move rfl) ?_
          refine Ops.gf rfl ?_
          refine Ops.gf rfl ?_
          refine Ops.gf rfl ?_
          refine Ops.gf rfl ?_
          refine Ops.gf rfl ?_
          refine Ops.gf rfl ?_
          refine Ops.gf rfl ?_
          refine Ops.gf rfl ?_
          refine Ops.y (v := .bool _) (Y.pick_t rfl rfl) ?_
          refine Ops.y (v := .pointer (some ⟨_, _, none⟩)) (Y.idxa Tryz.underlying143 Tryz.sizeOf4 rfl rfl (by omega) (by omega)) ?_
          refine Ops.go (O.store (v := .bool _) I ty_4 0 rfl rfl rfl rfl rfl rfl (Nat.le_of_ble_eq_true rfl) rfl ?_)
          intro w I
          refine Ops.nil ?_
          refine WP.region ?_
          refine Ops.y (v := .int .i64 _) (Y.move rfl) ?_
          refine Ops.y (v := .int .i64 _) (Y.addi rfl rfl ⟨by omega, by omega⟩) ?_
          refine Ops.y (v := .int .i64 _) (Y.assign rfl) ?_
          refine Ops.nil ?_
          exact ⟨j + 1, ⟨⟨rfl, rfl, rfl, rfl, rfl, trivial⟩, by rw [stdT_succ hj', hs, Bool.true_or]; exact I, by omega⟩, by omega⟩
      obtain rfl : j = r.body.xs.length := by omega
      rw [stdT_end] at I
      refine WP.exit ?_
      refine WP.region ?_
      refine Ops.y (v := .int .i64 _) (Y.move rfl) ?_
      refine Ops.y (v := .int .i64 _) (Y.addi rfl rfl ⟨by omega, by omega⟩) ?_
      refine Ops.y (v := .int .i64 _) (Y.assign rfl) ?_
      refine Ops.nil ?_
      exact ⟨2 + 1, ⟨⟨rfl, rfl, rfl, rfl, trivial⟩, I, by omega⟩, by omega⟩
  obtain rfl : k = 3 := by omega
  refine WP.exit ?_
  refine WP.seq ?_
  refine WP.region ?_
  refine Ops.y (v := .agg #[_, _, _]) (Y.loadv ty_143 rfl (I.rdbox 0 rfl 0 3) rfl rfl) ?_
  refine Ops.go (O.store (v := .agg #[_, _, _]) I ty_143 1 rfl rfl rfl rfl rfl rfl (Nat.le_of_ble_eq_true rfl) rfl ?_)
  intro w I
  refine Ops.nil ?_
  refine WP.ret ?_
  repeat (first | refine thenE_ret ?_ | refine blockE_ret ?_)
  exact retQ.mk (vs := [.agg #[_, _, _]]) rfl ⟨⟨_, _, _, _, _, rfl, ty_143, I.rdbox 1 rfl 0 3, rfl, rfl⟩, trivial⟩ I.ext_of (rfl)
theorem stdTri (a : Nat) (s q : Bool) (h : (decide ((a : Int) = 0) || s) = q) : (¬ (a : Int) > 0 ∧ q = true) ∨ ((a : Int) > 0 ∧ s = true ∧ q = true) ∨ ((a : Int) > 0 ∧ s = false ∧ q = false) := by
  subst h
  by_cases h0 : (a : Int) > 0
  · rw [decide_eq_false (show ¬ (a : Int) = 0 by omega), Bool.false_or]
    cases s
    · exact .inr (.inr ⟨h0, rfl, rfl⟩)
    · exact .inr (.inl ⟨h0, rfl, rfl⟩)
  · rw [decide_eq_true (show (a : Int) = 0 by omega), Bool.true_or]
    exact .inl ⟨h0, rfl⟩
def stepV (f : List Fct) (n : Int) (r : Rul) (x : Vrs) : List Stp := if stdOk r x && holdsB f r x then [⟨n, x⟩] else []
theorem filter_map_flat {α β : Type} (q : α → Bool) (g : α → β) : ∀ l : List α, (l.filter q).map g = l.flatMap fun x => if q x then [g x] else []
  | [] => rfl
  | x :: l => by
    rw [List.filter_cons, List.flatMap_cons, ← filter_map_flat q g l]
    cases q x <;> rfl
def C5 (f : List Fct) (n : Int) (r : Rul) (a b k : Nat) : List Stp := (List.range k).flatMap fun c : Nat => stepV f n r ⟨a, b, c⟩
def B5 (f : List Fct) (n : Int) (r : Rul) (a k : Nat) : List Stp := (List.range k).flatMap fun b : Nat => C5 f n r a b 5
def A5 (f : List Fct) (n : Int) (r : Rul) (k : Nat) : List Stp := (List.range k).flatMap fun a : Nat => B5 f n r a 5
theorem steps_A5 (f : List Fct) (n : Int) (r : Rul) : stepsF f n r = A5 f n r 5 := by
  unfold stepsF A5 B5 C5 stepV
  rw [filter_map_flat]
  unfold vecs
  simp only [List.flatMap_assoc, List.flatMap_map]
theorem C5_succ (f : List Fct) (n : Int) (r : Rul) (a b k : Nat) : C5 f n r a b (k + 1) = C5 f n r a b k ++ stepV f n r ⟨a, b, k⟩ := by unfold C5; rw [List.range_succ, List.flatMap_append]; simp
theorem B5_succ (f : List Fct) (n : Int) (r : Rul) (a k : Nat) : B5 f n r a (k + 1) = B5 f n r a k ++ C5 f n r a k 5 := by unfold B5; rw [List.range_succ, List.flatMap_append]; simp
theorem A5_succ (f : List Fct) (n : Int) (r : Rul) (k : Nat) : A5 f n r (k + 1) = A5 f n r k ++ B5 f n r k 5 := by unfold A5; rw [List.range_succ, List.flatMap_append]; simp
theorem stepV_le (f : List Fct) (n : Int) (r : Rul) (x : Vrs) : (stepV f n r x).length ≤ 1 := by unfold stepV; split <;> simp
theorem C5_le (f : List Fct) (n : Int) (r : Rul) (a b : Nat) : ∀ k, (C5 f n r a b k).length ≤ k
  | 0 => by simp [C5]
  | k + 1 => by rw [C5_succ, List.length_append]; have := C5_le f n r a b k; have := stepV_le f n r ⟨a, b, k⟩; omega
theorem B5_le (f : List Fct) (n : Int) (r : Rul) (a : Nat) : ∀ k, (B5 f n r a k).length ≤ 5 * k
  | 0 => by simp [B5]
  | k + 1 => by rw [B5_succ, List.length_append]; have := B5_le f n r a k; have := C5_le f n r a k 5; omega
theorem A5_le (f : List Fct) (n : Int) (r : Rul) : ∀ k, (A5 f n r k).length ≤ 25 * k
  | 0 => by simp [A5]
  | k + 1 => by rw [A5_succ, List.length_append]; have := A5_le f n r k; have := B5_le f n r k 5; omega
set_option maxHeartbeats 8000000 in
theorem AllOf_ok (B : Base) (hB : B.ok) (p : Prg) (hp : p.In B.h) (f : Sl Fct) (hf : Fcts f B.h) (n : Int) (r : Rul) (h0 : 0 ≤ n) (hr : p.rules.xs[n.toNat]? = some r) (ok : ROk p.preds.xs r) (okf : FOk p.preds.xs f.xs) :
    Fn Tryz.prog 47 [p.val, f.val, .int .i64 n] B (StpsR (stepsF f.xs n r)) := by
  have Er := hp.rules.is.el.el hr
  have ir := hp.rules.each _ (List.mem_of_getElem? hr)
  refine Fn.of Tryz.func47 rfl Tryz.ntmps47 (by kernel_rfl) (by simp) ?_
  intro e
  have I := Inv.start hB
  refine WP.seq ?_
  refine WP.region ?_
  refine Ops.go (O.box (v := .agg #[_, _]) I rfl rfl ?_)
  intro b3 w I
  refine Ops.y (v := .slice _ _ _) (Y.assign rfl) ?_
  refine Ops.nil ?_
  refine WP.seq ?_
  refine WP.region ?_
  refine Ops.y (v := .slice _ _ _) (Y.assign rfl) ?_
  refine Ops.nil ?_
  refine WP.seq ?_
  refine WP.region ?_
  refine Ops.y (v := .pointer (some ⟨_, _, none⟩)) (Y.fa fa_25_1 rfl) ?_
  refine Ops.y (v := .slice _ _ _) (Y.loadv ty_23 rfl (I.rdbox 0 rfl 1 1) rfl rfl) ?_
  refine Ops.y (v := .int .i64 _) (Y.move rfl) ?_
  refine Ops.y (v := .pointer (some ⟨_, _, none⟩)) (Y.idxEl Er Tryz.underlying23 Tryz.sizeOf68 rfl rfl h0 rfl) ?_
  refine Ops.y (v := .agg #[_, _, _, _, _]) (Y.loadv ty_68 rfl (I.rd (Er.rd.part 0 5)) rfl rfl) ?_
  refine Ops.go (O.callv I Tryz.call108 (stand_ok _ I.base_ok r ir ok.len) rfl ?_)
  intro w I
  refine Ops.go (O.alloc I Tryz.zeroValue143 rfl ?_)
  intro b8 w I
  refine Ops.go (O.store (v := .agg #[_, _, _]) I ty_143 0 rfl rfl rfl rfl rfl rfl (Nat.le_of_ble_eq_true rfl) rfl ?_)
  intro w I
  refine Ops.nil ?_
  refine WP.seq ?_
  refine WP.seq ?_
  refine WP.region ?_
  refine Ops.y (v := .int .i64 _) (Y.assign rfl) ?_
  refine Ops.nil ?_
  refine WP.block ?_
  have I := I.nilSl 82 4
  refine WP.loopE (σ := Nat × Value × Heap) (fun s => [(1, f.val), (2, .int .i64 n), (3, .pointer (some ⟨b3, 0, none⟩)), (7, s.2.1), (8, .pointer (some ⟨b8, 0, none⟩)), (9, .int .i64 s.1)])
    (fun s w => Inv B s.2.2 [ownSl 82 4 s.2.1 (A5 f.xs n r s.1).length ((A5 f.xs n r s.1).flatMap Stp.enc), box b8 [.bool (standsR r 0), .bool (standsR r 1), .bool (standsR r 2)] 143, box b3 p.enc 25] w ∧ s.1 ≤ 5 ∧ B.h.le s.2.2) (fun s => 5 - s.1)
    ⟨(0, .slice none 0 0, B.h), ⟨rfl, rfl, rfl, rfl, rfl, rfl, trivial⟩, I, by omega, Heap.le.refl _⟩ ?_
  rintro ⟨a, va, ha⟩ e w ⟨I, ka, la⟩
  dsimp only at I ka la ⊢
  refine WP.seq ?_
  refine WP.seq ?_
  refine WP.region ?_
  refine Ops.y (v := .int .i64 _) (Y.move rfl) ?_
  refine Ops.y (v := .bool (decide _)) (Y.lei rfl rfl) ?_
  refine Ops.nil ?_
  refine WP.cond_dec rfl (fun h4 => ?_) (fun h4 => ?_)
  · have ka' : a < 5 := by omega
    refine WP.skip ?_
    refine WP.seq ?_
    refine WP.block ?_
    refine WP.seq ?_
    refine WP.region ?_
    refine Ops.y (v := .int .i64 _) (Y.assign rfl) ?_
    refine Ops.nil ?_
    refine WP.block ?_
    refine WP.loopE (σ := Nat × Value × Heap) (fun s => [(1, f.val), (2, .int .i64 n), (3, .pointer (some ⟨b3, 0, none⟩)), (7, s.2.1), (8, .pointer (some ⟨b8, 0, none⟩)), (9, .int .i64 a), (10, .int .i64 s.1)])
      (fun s w => Inv B s.2.2 [ownSl 82 4 s.2.1 (A5 f.xs n r a ++ B5 f.xs n r a s.1).length ((A5 f.xs n r a ++ B5 f.xs n r a s.1).flatMap Stp.enc), box b8 [.bool (standsR r 0), .bool (standsR r 1), .bool (standsR r 2)] 143, box b3 p.enc 25] w ∧ s.1 ≤ 5 ∧ B.h.le s.2.2) (fun s => 5 - s.1)
      ⟨(0, va, ha), ⟨rfl, rfl, rfl, rfl, rfl, rfl, rfl, trivial⟩, by simpa [B5] using I, by omega, la⟩ ?_
    rintro ⟨b, vb, hb⟩ e w ⟨I, kb, lb⟩
    dsimp only at I kb lb ⊢
    refine WP.seq ?_
    refine WP.seq ?_
    refine WP.region ?_
    refine Ops.y (v := .int .i64 _) (Y.move rfl) ?_
    refine Ops.y (v := .bool (decide _)) (Y.lei rfl rfl) ?_
    refine Ops.nil ?_
    refine WP.cond_dec rfl (fun h7 => ?_) (fun h7 => ?_)
    · have kb' : b < 5 := by omega
      refine WP.skip ?_
      refine WP.seq ?_
      refine WP.block ?_
      refine WP.seq ?_
      refine WP.region ?_
      refine Ops.y (v := .int .i64 _) (Y.assign rfl) ?_
      refine Ops.nil ?_
      refine WP.block ?_
      refine WP.loopE (σ := Nat × Value × Heap) (fun s => [(1, f.val), (2, .int .i64 n), (3, .pointer (some ⟨b3, 0, none⟩)), (7, s.2.1), (8, .pointer (some ⟨b8, 0, none⟩)), (9, .int .i64 a), (10, .int .i64 b), (11, .int .i64 s.1)])
        (fun s w => Inv B s.2.2 [ownSl 82 4 s.2.1 (A5 f.xs n r a ++ B5 f.xs n r a b ++ C5 f.xs n r a b s.1).length ((A5 f.xs n r a ++ B5 f.xs n r a b ++ C5 f.xs n r a b s.1).flatMap Stp.enc), box b8 [.bool (standsR r 0), .bool (standsR r 1), .bool (standsR r 2)] 143, box b3 p.enc 25] w ∧ s.1 ≤ 5 ∧ B.h.le s.2.2) (fun s => 5 - s.1)
        ⟨(0, vb, hb), ⟨rfl, rfl, rfl, rfl, rfl, rfl, rfl, rfl, trivial⟩, by simpa [C5] using I, by omega, lb⟩ ?_
      rintro ⟨c, vc, hc⟩ e w ⟨I, kc, lc⟩
      dsimp only at I kc lc ⊢
      refine WP.seq ?_
      refine WP.seq ?_
      refine WP.region ?_
      refine Ops.y (v := .int .i64 _) (Y.move rfl) ?_
      refine Ops.y (v := .bool (decide _)) (Y.lei rfl rfl) ?_
      refine Ops.nil ?_
      refine WP.cond_dec rfl (fun h10 => ?_) (fun h10 => ?_)
      · have kc' : c < 5 := by omega
        obtain ⟨q0, hq0⟩ : ∃ q, (decide ((a : Int) = 0) || standsR r 0) = q := ⟨_, rfl⟩
        obtain ⟨q1, hq1⟩ : ∃ q, (decide ((b : Int) = 0) || standsR r 1) = q := ⟨_, rfl⟩
        obtain ⟨q2, hq2⟩ : ∃ q, (decide ((c : Int) = 0) || standsR r 2) = q := ⟨_, rfl⟩
        have hst : stdOk r ⟨a, b, c⟩ = (q0 && q1 && q2) := by unfold stdOk; rw [hq0, hq1, hq2]
        have la1 := A5_le f.xs n r a
        have lb1 := B5_le f.xs n r a b
        have lc1 := C5_le f.xs n r a b c
        have l125 : (A5 f.xs n r a ++ B5 f.xs n r a b ++ C5 f.xs n r a b c).length ≤ 1000 := by simp only [List.length_append]; omega
        have lsn : (A5 f.xs n r a ++ B5 f.xs n r a b ++ C5 f.xs n r a b c ++ [(⟨n, ⟨a, b, c⟩⟩ : Stp)]).length = (A5 f.xs n r a ++ B5 f.xs n r a b ++ C5 f.xs n r a b c).length + 1 := by rw [List.length_append]; rfl
        refine WP.skip ?_
        refine WP.seq ?_
        refine WP.block ?_
        refine WP.seq ?_
        refine WP.seq ?_
        refine WP.cutK (σ := Unit) (fun _ => [(1, f.val), (2, .int .i64 n), (3, .pointer (some ⟨b3, 0, none⟩)), (7, vc), (8, .pointer (some ⟨b8, 0, none⟩)), (9, .int .i64 a), (10, .int .i64 b), (11, .int .i64 c), (57, .bool (!(q0 && q1 && q2)))]) (fun _ w => Inv B hc [ownSl 82 4 vc (A5 f.xs n r a ++ B5 f.xs n r a b ++ C5 f.xs n r a b c).length ((A5 f.xs n r a ++ B5 f.xs n r a b ++ C5 f.xs n r a b c).flatMap Stp.enc), box b8 [.bool (standsR r 0), .bool (standsR r 1), .bool (standsR r 2)] 143, box b3 p.enc 25] w) ?_ ?_
        · rcases stdTri a (standsR r 0) q0 hq0 with ⟨ha, rfl⟩ | ⟨ha, sa, rfl⟩ | ⟨ha, sa, rfl⟩ <;> rcases stdTri b (standsR r 1) q1 hq1 with ⟨hb, rfl⟩ | ⟨hb, sb, rfl⟩ | ⟨hb, sb, rfl⟩ <;> rcases stdTri c (standsR r 2) q2 hq2 with ⟨hc, rfl⟩ | ⟨hc, sc, rfl⟩ | ⟨hc, sc, rfl⟩
          all_goals refine WP.region ?_
          all_goals refine Ops.y (v := .int .i64 _) (Y.move rfl) ?_
          all_goals first | refine Ops.y (v := .bool true) (Y.dec_t (Y.gti rfl rfl) (by assumption)) ?_ | refine Ops.y (v := .bool false) (Y.dec_f (Y.gti rfl rfl) (by assumption)) ?_
          all_goals refine Ops.y (v := .bool _) (Y.move rfl) ?_
          all_goals first | refine Ops.gf rfl ?_ | refine Ops.ygt rfl (v := .pointer (some ⟨_, _, none⟩)) (Y.idxa Tryz.underlying143 Tryz.sizeOf4 rfl rfl (by decide) (by decide)) ?_
          all_goals first | refine Ops.gf rfl ?_ | refine Ops.ygt rfl (v := .bool true) (Y.b (Y.loadv ty_4 rfl (I.rdbox 1 rfl 0 1) rfl rfl) (by assumption)) ?_ | refine Ops.ygt rfl (v := .bool false) (Y.b (Y.loadv ty_4 rfl (I.rdbox 1 rfl 0 1) rfl rfl) (by assumption)) ?_
          all_goals first | refine Ops.gf rfl ?_ | refine Ops.ygt rfl (v := .bool true) (Y.b (Y.not rfl) rfl) ?_ | refine Ops.ygt rfl (v := .bool false) (Y.b (Y.not rfl) rfl) ?_
          all_goals first | refine Ops.y (v := .bool _) (Y.pick_t rfl rfl) ?_ | refine Ops.y (v := .bool _) (Y.pick_f rfl rfl) ?_
          all_goals refine Ops.y (v := .bool _) (Y.move rfl) ?_
          all_goals first | refine Ops.gf rfl ?_ | refine Ops.ygt rfl (v := .int .i64 _) (Y.move rfl) ?_
          all_goals first | refine Ops.gf rfl ?_ | refine Ops.ygt rfl (v := .bool true) (Y.dec_t (Y.gti rfl rfl) (by assumption)) ?_ | refine Ops.ygt rfl (v := .bool false) (Y.dec_f (Y.gti rfl rfl) (by assumption)) ?_
          all_goals first | refine Ops.gf rfl ?_ | refine Ops.ygt rfl (v := .bool _) (Y.move rfl) ?_
          all_goals first | refine Ops.gf rfl ?_ | refine Ops.ygt rfl (v := .pointer (some ⟨_, _, none⟩)) (Y.idxa Tryz.underlying143 Tryz.sizeOf4 rfl rfl (by decide) (by decide)) ?_
          all_goals first | refine Ops.gf rfl ?_ | refine Ops.ygt rfl (v := .bool true) (Y.b (Y.loadv ty_4 rfl (I.rdbox 1 rfl 1 1) rfl rfl) (by assumption)) ?_ | refine Ops.ygt rfl (v := .bool false) (Y.b (Y.loadv ty_4 rfl (I.rdbox 1 rfl 1 1) rfl rfl) (by assumption)) ?_
          all_goals first | refine Ops.gf rfl ?_ | refine Ops.ygt rfl (v := .bool true) (Y.b (Y.not rfl) rfl) ?_ | refine Ops.ygt rfl (v := .bool false) (Y.b (Y.not rfl) rfl) ?_
          all_goals first | refine Ops.gf rfl ?_ | refine Ops.ygt rfl (v := .bool _) (Y.pick_t rfl rfl) ?_ | refine Ops.ygt rfl (v := .bool _) (Y.pick_f rfl rfl) ?_
          all_goals first | refine Ops.y (v := .bool _) (Y.pick_t rfl rfl) ?_ | refine Ops.y (v := .bool _) (Y.pick_f rfl rfl) ?_
          all_goals refine Ops.y (v := .bool _) (Y.move rfl) ?_
          all_goals first | refine Ops.gf rfl ?_ | refine Ops.ygt rfl (v := .int .i64 _) (Y.move rfl) ?_
          all_goals first | refine Ops.gf rfl ?_ | refine Ops.ygt rfl (v := .bool true) (Y.dec_t (Y.gti rfl rfl) (by assumption)) ?_ | refine Ops.ygt rfl (v := .bool false) (Y.dec_f (Y.gti rfl rfl) (by assumption)) ?_
          all_goals first | refine Ops.gf rfl ?_ | refine Ops.ygt rfl (v := .bool _) (Y.move rfl) ?_
          all_goals first | refine Ops.gf rfl ?_ | refine Ops.ygt rfl (v := .pointer (some ⟨_, _, none⟩)) (Y.idxa Tryz.underlying143 Tryz.sizeOf4 rfl rfl (by decide) (by decide)) ?_
          all_goals first | refine Ops.gf rfl ?_ | refine Ops.ygt rfl (v := .bool true) (Y.b (Y.loadv ty_4 rfl (I.rdbox 1 rfl 2 1) rfl rfl) (by assumption)) ?_ | refine Ops.ygt rfl (v := .bool false) (Y.b (Y.loadv ty_4 rfl (I.rdbox 1 rfl 2 1) rfl rfl) (by assumption)) ?_
          all_goals first | refine Ops.gf rfl ?_ | refine Ops.ygt rfl (v := .bool true) (Y.b (Y.not rfl) rfl) ?_ | refine Ops.ygt rfl (v := .bool false) (Y.b (Y.not rfl) rfl) ?_
          all_goals first | refine Ops.gf rfl ?_ | refine Ops.ygt rfl (v := .bool _) (Y.pick_t rfl rfl) ?_ | refine Ops.ygt rfl (v := .bool _) (Y.pick_f rfl rfl) ?_
          all_goals first | refine Ops.y (v := .bool _) (Y.pick_t rfl rfl) ?_ | refine Ops.y (v := .bool _) (Y.pick_f rfl rfl) ?_
          all_goals refine Ops.nil ?_
          all_goals exact ⟨(), ⟨rfl, rfl, rfl, rfl, rfl, rfl, rfl, rfl, rfl, trivial⟩, I⟩
        rintro _ e w I
        cases hso : (q0 && q1 && q2)
        · refine WP.cond_t rfl ?_
          have hsv : stepV f.xs n r ⟨a, b, c⟩ = [] := by unfold stepV; rw [hst, hso]; rfl
          refine WP.exit ?_
          refine WP.region ?_
          refine Ops.y (v := .int .i64 _) (Y.move rfl) ?_
          refine Ops.y (v := .int .i64 _) (Y.addi rfl rfl ⟨by omega, by omega⟩) ?_
          refine Ops.y (v := .int .i64 _) (Y.assign rfl) ?_
          refine Ops.nil ?_
          exact ⟨(c + 1, vc, hc), ⟨⟨rfl, rfl, rfl, rfl, rfl, rfl, rfl, rfl, trivial⟩, by dsimp only; rw [C5_succ, hsv, List.append_nil]; exact I, by dsimp only; omega, lc⟩, by dsimp only; omega⟩
        refine WP.cond_f rfl ?_
        have hvs : VsOk ⟨a, b, c⟩ := ⟨⟨by dsimp only; omega, by dsimp only; omega⟩, ⟨by dsimp only; omega, by dsimp only; omega⟩, ⟨by dsimp only; omega, by dsimp only; omega⟩⟩
        refine WP.skip ?_
        refine WP.seq ?_
        refine WP.region ?_
        refine Ops.y (v := .int .i64 _) (Y.move rfl) ?_
        refine Ops.y (v := .int .i64 _) (Y.move rfl) ?_
        refine Ops.y (v := .int .i64 _) (Y.move rfl) ?_
        refine Ops.y (v := .agg #[.int .i64 _, .int .i64 _, .int .i64 _]) (Y.builda Tryz.underlying80 Tryz.zeroValue80 Tryz.sizeOf3 rfl rfl) ?_
        refine Ops.go (O.alloc I Tryz.zeroValue80 rfl ?_)
        intro b12 w I
        refine Ops.go (O.store (v := .agg #[_, _, _]) I ty_80 0 rfl rfl rfl rfl rfl rfl (Nat.le_of_ble_eq_true rfl) rfl ?_)
        intro w I
        refine Ops.nil ?_
        cases hh : holdsB f.xs r ⟨a, b, c⟩
        · have hsv : stepV f.xs n r ⟨a, b, c⟩ = [] := by unfold stepV; rw [hh, Bool.and_false]; rfl
          refine WP.seq ?_
          refine WP.region ?_
          refine Ops.y (v := .agg #[_, _]) (Y.loadv ty_25 rfl (I.rdbox 3 rfl 0 2) rfl rfl) ?_
          refine Ops.y (v := .slice _ _ _) (Y.move rfl) ?_
          refine Ops.y (v := .int .i64 _) (Y.move rfl) ?_
          refine Ops.y (v := .agg #[_, _, _]) (Y.loadv ty_80 rfl (I.rdbox 0 rfl 0 3) rfl rfl) ?_
          refine Ops.go (O.callv I Tryz.call78 ((show holdsF p.preds.xs f.xs r ⟨a, b, c⟩ = (false, default) from by unfold holdsF; rw [hh]; rfl) ▸ rholds_ok _ I.base_ok p (hp.le lc) f (hf.le lc) n r h0 hr ok okf ⟨a, b, c⟩ hvs) rfl ?_)
          intro w I
          refine Ops.y (v := .tuple #[_, _]) (Y.move rfl) ?_
          refine Ops.y (v := .bool _) (Y.extract rfl rfl) ?_
          refine Ops.y (v := .agg #[_, _, _, _]) (Y.extract rfl rfl) ?_
          refine Ops.go (O.alloc I Tryz.zeroValue52 rfl ?_)
          intro b14 w I
          refine Ops.y (v := .bool _) (Y.assign rfl) ?_
          refine Ops.go (O.store (v := .agg #[_, _, _, _]) I ty_52 0 rfl rfl rfl rfl rfl rfl (Nat.le_of_ble_eq_true rfl) rfl ?_)
          intro w I
          refine Ops.nil ?_
          refine WP.seq ?_
          refine WP.region ?_
          refine Ops.y (v := .bool _) (Y.move rfl) ?_
          refine Ops.nil ?_
          refine WP.cond_f rfl ?_
          refine WP.skip ?_
          refine WP.region ?_
          refine Ops.y (v := .int .i64 _) (Y.move rfl) ?_
          refine Ops.y (v := .int .i64 _) (Y.addi rfl rfl ⟨by omega, by omega⟩) ?_
          refine Ops.y (v := .int .i64 _) (Y.assign rfl) ?_
          refine Ops.nil ?_
          exact ⟨(c + 1, vc, hc), ⟨⟨rfl, rfl, rfl, rfl, rfl, rfl, rfl, rfl, trivial⟩, by dsimp only; rw [C5_succ, hsv, List.append_nil]; exact I.drop.drop, by dsimp only; omega, lc⟩, by dsimp only; omega⟩
        · have hsv : stepV f.xs n r ⟨a, b, c⟩ = [⟨n, ⟨a, b, c⟩⟩] := by unfold stepV; rw [hst, hso, hh]; rfl
          obtain ⟨y, hy⟩ : ∃ y, holdsF p.preds.xs f.xs r ⟨a, b, c⟩ = (true, y) := ⟨_, by unfold holdsF; rw [hh]; rfl⟩
          refine WP.seq ?_
          refine WP.region ?_
          refine Ops.y (v := .agg #[_, _]) (Y.loadv ty_25 rfl (I.rdbox 3 rfl 0 2) rfl rfl) ?_
          refine Ops.y (v := .slice _ _ _) (Y.move rfl) ?_
          refine Ops.y (v := .int .i64 _) (Y.move rfl) ?_
          refine Ops.y (v := .agg #[_, _, _]) (Y.loadv ty_80 rfl (I.rdbox 0 rfl 0 3) rfl rfl) ?_
          refine Ops.go (O.callv I Tryz.call78 (hy ▸ rholds_ok _ I.base_ok p (hp.le lc) f (hf.le lc) n r h0 hr ok okf ⟨a, b, c⟩ hvs) rfl ?_)
          intro w I
          refine Ops.y (v := .tuple #[_, _]) (Y.move rfl) ?_
          refine Ops.y (v := .bool _) (Y.extract rfl rfl) ?_
          refine Ops.y (v := .agg #[_, _, _, _]) (Y.extract rfl rfl) ?_
          refine Ops.go (O.alloc I Tryz.zeroValue52 rfl ?_)
          intro b14 w I
          refine Ops.y (v := .bool _) (Y.assign rfl) ?_
          refine Ops.go (O.store (v := .agg #[_, _, _, _]) I ty_52 0 rfl rfl rfl rfl rfl rfl (Nat.le_of_ble_eq_true rfl) rfl ?_)
          intro w I
          refine Ops.nil ?_
          refine WP.seq ?_
          refine WP.region ?_
          refine Ops.y (v := .bool _) (Y.move rfl) ?_
          refine Ops.nil ?_
          refine WP.cond_t rfl ?_
          refine WP.region ?_
          refine Ops.y (v := vc) (Y.move rfl) ?_
          refine Ops.y (v := .int .i64 _) (Y.move rfl) ?_
          refine Ops.y (v := .agg #[_, _, _]) (Y.loadv ty_80 rfl (I.rdbox 1 rfl 0 3) rfl rfl) ?_
          refine Ops.y (v := .agg #[.int .i64 _, .int .i64 _, .int .i64 _, .int .i64 _]) (Y.build pl_82 Tryz.zeroValue82 rfl rfl) ?_
          refine Ops.go (O.mksl (xs := [⟨n, ⟨a, b, c⟩⟩]) (enc := Stp.enc) I Tryz.underlying36 Tryz.sizeOf82 Tryz.zeroValue82 rfl (Nat.le_of_ble_eq_true rfl) rfl rfl (by decide) (fun _ => rfl) ?_)
          intro b75 h75 w I le75 sl75
          refine Ops.go (O.append I Tryz.underlying36 et_82 2 rfl rfl rfl (I.rd (sl75 0 _ rfl).2) rfl rfl (by decide) ((by omega)) (by omega) ?_)
          intro b76 c76 w I
          refine Ops.y (v := .slice _ _ _) (Y.assign rfl) ?_
          refine Ops.nil ?_
          refine WP.region ?_
          refine Ops.y (v := .int .i64 _) (Y.move rfl) ?_
          refine Ops.y (v := .int .i64 _) (Y.addi rfl rfl ⟨by omega, by omega⟩) ?_
          refine Ops.y (v := .int .i64 _) (Y.assign rfl) ?_
          refine Ops.nil ?_
          exact ⟨(c + 1, .slice (some ⟨b76, 0, none⟩) ((A5 f.xs n r a ++ B5 f.xs n r a b ++ C5 f.xs n r a b c).length + 1) c76, h75), ⟨⟨rfl, rfl, rfl, rfl, rfl, rfl, rfl, rfl, trivial⟩, by dsimp only; rw [C5_succ, hsv, ← List.append_assoc, snocS, lsn]; exact I.drop.drop, by dsimp only; omega, lc.trans le75⟩, by dsimp only; omega⟩
      · obtain rfl : c = 5 := by omega
        refine WP.exit ?_
        refine WP.region ?_
        refine Ops.y (v := .int .i64 _) (Y.move rfl) ?_
        refine Ops.y (v := .int .i64 _) (Y.addi rfl rfl ⟨by omega, by omega⟩) ?_
        refine Ops.y (v := .int .i64 _) (Y.assign rfl) ?_
        refine Ops.nil ?_
        exact ⟨(b + 1, vc, hc), ⟨⟨rfl, rfl, rfl, rfl, rfl, rfl, rfl, trivial⟩, by dsimp only; rw [B5_succ, ← List.append_assoc]; exact I, by dsimp only; omega, lc⟩, by dsimp only; omega⟩
    · obtain rfl : b = 5 := by omega
      refine WP.exit ?_
      refine WP.region ?_
      refine Ops.y (v := .int .i64 _) (Y.move rfl) ?_
      refine Ops.y (v := .int .i64 _) (Y.addi rfl rfl ⟨by omega, by omega⟩) ?_
      refine Ops.y (v := .int .i64 _) (Y.assign rfl) ?_
      refine Ops.nil ?_
      exact ⟨(a + 1, vb, hb), ⟨⟨rfl, rfl, rfl, rfl, rfl, rfl, trivial⟩, by dsimp only; rw [A5_succ]; exact I, by dsimp only; omega, lb⟩, by dsimp only; omega⟩
  · obtain rfl : a = 5 := by omega
    rw [← steps_A5] at I
    have hsl : (stepsF f.xs n r).length ≤ 140737488355328 := by rw [steps_A5]; have := A5_le f.xs n r 5; omega
    obtain ⟨h8, s8, le8, rfl, hx8, in8, I⟩ := I.settleSl (fun _ => rfl) rfl
    refine WP.exit ?_
    refine WP.seq ?_
    refine WP.region ?_
    refine Ops.y (v := .slice _ _ _) (Y.move rfl) ?_
    refine Ops.y (v := .slice _ _ _) (Y.assign rfl) ?_
    refine Ops.nil ?_
    refine WP.ret ?_
    repeat (first | refine thenE_ret ?_ | refine blockE_ret ?_)
    exact retQ.mk (vs := [.slice _ _ _]) rfl ⟨rfl, trivial⟩ I.ext_of (⟨s8, rfl, hx8, in8, by rw [hx8]; exact hsl⟩)
end Go.TF
end
section
/- Ranging over an iterator: what is known may grow from round to round. -/
namespace Go.TF
open Go Go.RowKit

/-- What a round owes at its end. -/
def roundQH (B : Base) (hg : Heap) {σ : Type} (U : σ → List SA) (T : List SA) (Jn : σ → Heap → Prop) (Jx : Jmp → σ → Heap → Prop) : Exit → Env → World → Prop
  | .normal, _, W => ∃ h2 s X, hg.le h2 ∧ Inv B h2 (X ++ (U s ++ T)) W ∧ Jn s h2
  | .ret, _, W => ∃ h2 s X, hg.le h2 ∧ Inv B h2 (X ++ (U s ++ T)) W ∧ Jx .ret s h2
  | .exit id, _, W => ∃ h2 s X, hg.le h2 ∧ Inv B h2 (X ++ (U s ++ T)) W ∧ Jx (.exit id) s h2
  | .goto t, _, W => ∃ h2 s X, hg.le h2 ∧ Inv B h2 (X ++ (U s ++ T)) W ∧ Jx (.goto t) s h2
  | _, _, _ => False
theorem WPD.rangeFuncH {α σ : Type} {P : Program} {N : Nat} {e : Env} {w : World} {Q : Exit → Env → World → List Deferred → Prop} {B : Base} {h : Heap} {ms : List Nat} {g : Operand} {ps : Array Tmp} {assign body : Code} {gf : FuncId} {lb : List Value}
    {encs : α → List Value} {xs : List α} (U : σ → List SA) (Jc : Nat → σ → Heap → Prop) (Jx : Jmp → σ → Heap → Prop) (mono : ∀ k s h h', h.le h' → Jc k s h → Jc k s h') (s0 : σ) (I : Inv B h (U s0 ++ ms.map markSA) w) (j0 : Jc 0 s0 h)
    (hg : ev e g = .func (.func gf) #[] lb.toArray) (eg : Enters P gf) (it : Iter P gf lb encs xs h) (hps : ∀ x, (encs x).length = ps.size) (hpN : ps.toList.all (· < N) = true) (hsa : slotsOk N assign = true) (hsb : slotsOk N body = true)
    (round : ∀ (l : Nat) (r : Loop) (ms' : List Nat) (hg : Heap) (k : Nat) (x : α) (s : σ) (W : World), xs[k]? = some x → h.le hg → Inv B hg (U s ++ (loopSA l r :: ms'.map markSA)) W → Jc k s hg →
      WPI P N l assign (argE e (ps.toList.zip (encs x))) W (thenE (fun e1 W1 => ∃ h1 X, hg.le h1 ∧ Inv B h1 (X ++ (U s ++ (loopSA l r :: ms'.map markSA))) W1 ∧
        ∀ r' W2, Inv B h1 (X ++ (U s ++ (loopSA l r' :: ms'.map markSA))) W2 → WPI P N l body e1 W2 (roundQH B h1 U (loopSA l r' :: ms'.map markSA) (Jc (k + 1)) Jx)) (fun _ _ _ => False)))
    (hdone : ∀ D h2 s W, h.le h2 → Inv B h2 (U s ++ (D :: ms).map markSA) W → Jc xs.length s h2 → Q .normal e W ((D :: ms).map mark))
    (hstop : ∀ D c h2 s W, h.le h2 → Inv B h2 (U s ++ (D :: ms).map markSA) W → Jx c s h2 → Q c.ex e W ((D :: ms).map mark)) :
    WPD P N (ms.map mark) (.rangeFunc g ps assign body) e w Q := by
  intro _ a h1 h2 h3
  subst h3
  refine (wpIn_wide (n := 1)).1 (wpIn_rangeFunc ?_)
  intro fn _
  obtain ⟨rec, hrec⟩ : ∃ rec : LoopState → Option Code → Loop, rec = fun st pe => { state := st, pending := pe, fn, tmps := a.tmps, params := ps, assign, body, defers := w.heap.size } := ⟨_, rfl⟩
  obtain ⟨l, hl⟩ : ∃ l, l = w.heap.size + 1 := ⟨_, rfl⟩
  obtain ⟨W1, hW1⟩ : ∃ W1, (w.alloc (.deferred (some []))).alloc (.loop (rec .ready none)) = W1 := ⟨_, rfl⟩
  have I1 : Inv B h (U s0 ++ (loopSA l (rec .ready none) :: (w.heap.size :: ms).map markSA)) W1 := by
    have J1 : Inv B h (markSA w.heap.size :: (U s0 ++ ms.map markSA)) (w.alloc (.deferred (some []))) := I.gain (Grow.alloc w _) (World.alloc_heap_new w _) (fun b hb => by simp [markSA] at hb; subst hb; simp)
    have J2 : Inv B h (loopSA l (rec .ready none) :: (markSA w.heap.size :: (U s0 ++ ms.map markSA))) W1 := by
      rw [← hW1]
      refine J1.gain (Grow.alloc _ _) ?_ (fun b hb => ?_)
      · have := World.alloc_heap_new (w.alloc (.deferred (some []))) (.loop (rec .ready none))
        rw [World.size_alloc] at this
        rw [hl]; exact this
      · simp [loopSA] at hb; subst hb; rw [hl]; simp
    refine J2.perm ?_
    refine List.perm_middle.trans ?_
    refine List.Perm.cons _ ?_
    exact List.perm_middle
  refine ⟨l, [mark w.heap.size], W1, { target := .fn (.func gf) lb.toArray, args := #[.func (.yield l) #[] #[]] }, W1, gf, #[.func (.yield l) #[] #[]] ++ lb.toArray, W1, ?_, ?_, fun _ _ => trivial, ?_, (fun hd => by cases hd), ?_⟩
  · rw [← hW1, hrec, hl]; exact run_enterLoop_outer _ _ _ _ _
  · rw [eval_env]
    have hg' : ev (env a) g = .func (.func gf) #[] lb.toArray := hg
    simp only [resolve, hg']
    simp [go_sem]
    rfl
  · simp [invoke, go_sem]; exact eg _ _
  · refine callsIn_wide.2 ?_
    refine (it l (fun hg k W => h.le hg ∧ ∃ s, Inv B hg (U s ++ (loopSA l (rec .ready none) :: (w.heap.size :: ms).map markSA)) W ∧ Jc k s hg)
      (fun W => ∃ c hg s, h.le hg ∧ Inv B hg (U s ++ (loopSA l (rec .done (some c.code)) :: (w.heap.size :: ms).map markSA)) W ∧ Jx c s hg) h W1 (Heap.le.refl h) ⟨Heap.le.refl h, s0, I1, j0⟩
      (fun hg k W ⟨_, s, I, _⟩ => I.base_ok) (fun hg k W hg' W' ⟨g1, s, I, hj⟩ X => ⟨g1.trans X.ext, s, I.called X, mono _ _ _ _ X.ext hj⟩) ?_).mono ?_
    · rintro hg' k x W g0 hx ⟨g1, s, IW, hj⟩
      have hL := IW.getLoop
      have hy := run_yield (P := P) (args := (encs x).toArray) hL (by rw [hrec]; simpa using hps x)
      refine ⟨_, _, _, _, hy, roundIn_of_wpIn trivial ?_⟩
      rw [hrec]
      have hfold : (ps.zip (encs x).toArray).foldl (fun tmps (t, a) => tmps.setIfInBounds t a) a.tmps = (ps.toList.zip (encs x)).foldl (fun t p => t.setIfInBounds p.1 p.2) a.tmps := by
        rw [← Array.foldl_toList]; simp
      have hE := env_args (N := N) (ps.toList.zip (encs x)) a.tmps h1 (fun p hp => by
        have := (List.all_eq_true.1 hpN) p.1 (List.of_mem_zip hp).1
        simpa using this)
      have henv : env { tmps := a.tmps, defers := [] } = env a := rfl
      rw [henv] at hE
      have hR := round l (rec .ready none) (w.heap.size :: ms) hg' k x s W hx g1 IW hj hsa { tmps := (ps.toList.zip (encs x)).foldl (fun t p => t.setIfInBounds p.1 p.2) a.tmps, defers := [] } hE.2 rfl hE.1
      simp only [hfold]
      refine wpIn_mono hR ?_
      rintro x1 a1 w1 ⟨k1, k2, k3⟩
      cases x1 <;> simp only [thenE] at k3 <;> first | exact k3.elim | skip
      obtain ⟨hg1, X, gl1, IX, hb⟩ := k3
      have IX' : Inv B hg1 ((X ++ U s) ++ (loopSA l (rec .ready none) :: (w.heap.size :: ms).map markSA)) w1 := by rw [List.append_assoc]; exact IX
      refine ⟨_, run_beginRound IX'.getLoop (by rw [hrec]), ?_⟩
      have I2 := IX'.setLoop { rec .ready none with state := .busy }
      rw [List.append_assoc] at I2
      refine wpIn_mono (hb _ _ I2 hsb a1 k1 k2 rfl) ?_
      have fin : ∀ (jump : Option Code) (h2 : Heap) (s2 : σ) (X2 : List SA) (W3 : World), Inv B h2 (X2 ++ (U s2 ++ (loopSA l { rec .ready none with state := .busy } :: (w.heap.size :: ms).map markSA))) W3 →
          ∃ W4, (Instr.endRound l jump).run P W3 = .ok (.bool jump.isNone) W4 ∧ Inv B h2 (U s2 ++ (loopSA l (rec (if jump.isNone then .ready else .done) jump) :: (w.heap.size :: ms).map markSA)) W4 := fun jump h2 s2 X2 W3 I3 => by
        have I3' : Inv B h2 (U s2 ++ (loopSA l { rec .ready none with state := .busy } :: (w.heap.size :: ms).map markSA)) W3 := I3.weak (List.sublist_append_right _ _)
        have := run_endRound (P := P) jump I3'.getLoop
        refine ⟨_, this, ?_⟩
        have I4 := I3'.setLoop (rec (if jump.isNone then .ready else .done) jump)
        rw [hrec] at I4 ⊢
        exact I4
      rintro x2 a2 w2 ⟨q1, q2, q3⟩
      cases x2 <;> simp only [roundQH] at q3 <;> simp only [roundPost] <;> first | exact q3.elim | skip
      · obtain ⟨h2, s2, X2, gl2, I3, hj2⟩ := q3
        obtain ⟨W4, hr, I4⟩ := fin none h2 s2 X2 _ I3
        exact ⟨_, _, hr, .inl ⟨rfl, h2, gl1.trans gl2, (g1.trans gl1).trans gl2, s2, (by rw [hrec] at I4; exact I4), hj2⟩⟩
      · rename_i id
        obtain ⟨h2, s2, X2, gl2, I3, hj2⟩ := q3
        obtain ⟨W4, hr, I4⟩ := fin (some (.exit id)) h2 s2 X2 _ I3
        exact ⟨_, _, hr, .inr ⟨rfl, .exit id, h2, s2, (g1.trans gl1).trans gl2, (by rw [hrec] at I4; exact I4), hj2⟩⟩
      · rename_i t
        obtain ⟨h2, s2, X2, gl2, I3, hj2⟩ := q3
        obtain ⟨W4, hr, I4⟩ := fin (some (.goto t)) h2 s2 X2 _ I3
        exact ⟨_, _, hr, .inr ⟨rfl, .goto t, h2, s2, (g1.trans gl1).trans gl2, (by rw [hrec] at I4; exact I4), hj2⟩⟩
      · obtain ⟨h2, s2, X2, gl2, I3, hj2⟩ := q3
        obtain ⟨W4, hr, I4⟩ := fin (some .ret) h2 s2 X2 _ I3
        exact ⟨_, _, hr, .inr ⟨rfl, .ret, h2, s2, (g1.trans gl1).trans gl2, (by rw [hrec] at I4; exact I4), hj2⟩⟩
    · rintro ed W2 ⟨⟨v, rfl⟩, (⟨hg', gl, g1, s, I2, hj⟩ | ⟨c, hg', s, g1, I2, hj⟩)⟩
      · refine ⟨none, _, by have := run_endLoop (P := P) I2.getLoop (by rw [hrec]; simp); rw [hrec] at this; exact this, ?_⟩
        have I3 := (I2.setLoop { rec .ready none with state := .exhausted }).outLoop
        refine ⟨h1, ?_⟩
        have hq := hdone w.heap.size hg' s _ g1 (by rw [hrec] at I3; exact I3) hj
        have hq' : Q .normal (env a) (W2.putObj l (.loop { rec .ready none with state := .exhausted })) (mark w.heap.size :: a.defers) := by rw [h2]; rw [hrec]; exact hq
        rw [hrec] at hq'
        exact hq'
      · refine ⟨some c.code, _, by have := run_endLoop (P := P) I2.getLoop (by rw [hrec]; simp); rw [hrec] at this; exact this, ?_⟩
        have I3 := (I2.setLoop { rec .done (some c.code) with state := .exhausted }).outLoop
        have hq := hstop w.heap.size c hg' s _ g1 (by rw [hrec] at I3; exact I3) hj
        have hq' : Q c.ex (env a) (W2.putObj l (.loop { rec .done (some c.code) with state := .exhausted })) (mark w.heap.size :: a.defers) := by rw [h2]; rw [hrec]; exact hq
        rw [hrec] at hq'
        cases c with
        | ret => exact wpIn_ret ⟨h1, hq'⟩
        | exit id => exact wpIn_exit ⟨h1, hq'⟩
        | goto t => exact wpIn_goto ⟨h1, hq'⟩

theorem WPD.regionQ {P : Program} {N : Nat} {D : List Deferred} {e : Env} {w : World} {Q : Exit → Env → World → List Deferred → Prop} {id : Nat} {ops : Array Oper} {B : Base} {h : Heap} {M : List SA} (hm : Mixed P) (I : Inv B h M w) (hB : Region.lexB .any ops = true)
    (k : OpsQ P ops (Inv B h M) ops.toList e (fun e' => ∀ w', Inv B h M w' → Q .normal e' w' D)) : WPD P N D (.region id ops true) e w Q := WPD.of (WP.regionQ hm I hB k)
end Go.TF
end
section
/- Strata, StrataOf, NeedsOf. -/
namespace Go.TF
open Go Go.RowKit Go.Proofs
set_option maxRecDepth 20000

def StrP (p : Prg) (v : Value) (h : Heap) : Prop :=
  (checkProg p ≠ 0 ∧ v = .tuple #[.slice none 0 0, .int .i64 (checkProg p)]) ∨ (checkProg p = 0 ∧ ∃ s : Sl Int, Least (usesL p.rules.xs) p.preds.xs.length s.xs ∧ s.Is 1 iEnc h ∧ v = .tuple #[s.val, .int .i64 0])
theorem heads_in {p : Prg} (h : rulesErr p.preds.xs p.rules.xs = 0) : ∀ r ∈ p.rules.xs, 0 ≤ r.head.pred ∧ r.head.pred < p.preds.xs.length := fun r hr => checkAtom_in' (checkRule_ok (rulesErr_zero.1 h r hr)).1
theorem Strata_ok (B : Base) (hB : B.ok) (p : Prg) (hp : p.In B.h) (hnm : p.Nm) : Fn Tryz.prog 61 [p.val] B (fun v h => StrP p v h) := by
  refine Fn.of Tryz.func61 rfl Tryz.ntmps61 (by kernel_rfl) (by simp) ?_
  intro e
  have I := Inv.start hB
  refine WP.seq ?_
  refine WP.region ?_
  refine Ops.go (O.box (v := .agg #[_, _]) I rfl rfl ?_)
  intro b1 w I
  refine Ops.y (v := .slice _ _ _) (Y.assign rfl) ?_
  refine Ops.y (v := .int .i64 _) (Y.assign rfl) ?_
  refine Ops.nil ?_
  refine WP.seq ?_
  refine WP.seq ?_
  refine WP.region ?_
  refine Ops.y (v := .agg #[_, _]) (Y.loadv ty_25 rfl (I.rdbox 0 rfl 0 2) rfl rfl) ?_
  refine Ops.go (O.callv I Tryz.call56 (PCheck_ok _ I.base_ok p hp hnm) rfl ?_)
  intro w I
  refine Ops.y (v := .int .i64 _) (Y.assign rfl) ?_
  refine Ops.nil ?_
  refine WP.seq ?_
  refine WP.region ?_
  refine Ops.y (v := .int .i64 _) (Y.move rfl) ?_
  refine Ops.y (v := .bool (decide _)) (Y.nei rfl rfl) ?_
  refine Ops.nil ?_
  refine WP.cond_dec rfl (fun h => ?_) (fun h => ?_)
  · refine WP.seq ?_
    refine WP.region ?_
    refine Ops.y (v := .int .i64 _) (Y.move rfl) ?_
    refine Ops.y (v := .slice _ _ _) (Y.assign rfl) ?_
    refine Ops.y (v := .int .i64 _) (Y.assign rfl) ?_
    refine Ops.nil ?_
    refine WP.ret ?_
    repeat (first | refine thenE_ret ?_ | refine blockE_ret ?_)
    exact retQ.mk (vs := [.slice _ _ _, .int .i64 _]) rfl ⟨rfl, rfl, trivial⟩ I.ext_of (.inl ⟨h, rfl⟩)
  have h0 := Decidable.not_not.1 h
  obtain ⟨k1, k2, k3, M, hM⟩ := checkProg_ok h0
  refine WP.skip ?_
  refine WP.seq ?_
  refine WP.region ?_
  refine Ops.y (v := .agg #[_, _]) (Y.loadv ty_25 rfl (I.rdbox 0 rfl 0 2) rfl rfl) ?_
  refine Ops.go (O.call I Tryz.call94 (Levels_ok _ I.base_ok p hp (inR_of k3) k1) rfl ?_)
  rintro v14 h3 w I le3 hL
  rcases hL with ⟨s, hS, hI, rfl⟩ | ⟨hno, rfl⟩
  rotate_left
  exact absurd hM (hno M)
  refine Ops.y (v := .tuple #[_, _]) (Y.move rfl) ?_
  refine Ops.y (v := .slice _ _ _) (Y.extract rfl rfl) ?_
  refine Ops.y (v := .bool _) (Y.extract rfl rfl) ?_
  refine Ops.y (v := .slice _ _ _) (Y.assign rfl) ?_
  refine Ops.y (v := .bool _) (Y.assign rfl) ?_
  refine Ops.nil ?_
  refine WP.seq ?_
  refine WP.region ?_
  refine Ops.y (v := .slice _ _ _) (Y.move rfl) ?_
  refine Ops.y (v := .slice _ _ _) (Y.assign rfl) ?_
  refine Ops.y (v := .int .i64 _) (Y.assign rfl) ?_
  refine Ops.nil ?_
  refine WP.ret ?_
  repeat (first | refine thenE_ret ?_ | refine blockE_ret ?_)
  exact retQ.mk (vs := [.slice _ _ _, .int .i64 _]) rfl ⟨rfl, rfl, trivial⟩ I.ext_of (.inr ⟨h0, s, hS, hI, rfl⟩)
theorem StrataOf_ok (B : Base) (hB : B.ok) (p : Prg) (hp : p.In B.h) (h0 : checkProg p = 0) : Fn Tryz.prog 75 [p.val] B (fun v h => ∃ s : Sl Int, Least (usesL p.rules.xs) p.preds.xs.length s.xs ∧ s.Is 1 iEnc h ∧ v = s.val) := by
  obtain ⟨k1, k2, k3, M, hM⟩ := checkProg_ok h0
  refine Fn.of Tryz.func75 rfl Tryz.ntmps75 (by kernel_rfl) (by simp) ?_
  intro e
  have I := Inv.start hB
  refine WP.seq ?_
  refine WP.region ?_
  refine Ops.go (O.box (v := .agg #[_, _]) I rfl rfl ?_)
  intro b1 w I
  refine Ops.y (v := .slice _ _ _) (Y.assign rfl) ?_
  refine Ops.nil ?_
  refine WP.seq ?_
  refine WP.region ?_
  refine Ops.y (v := .agg #[_, _]) (Y.loadv ty_25 rfl (I.rdbox 0 rfl 0 2) rfl rfl) ?_
  refine Ops.go (O.call I Tryz.call74 (strata_ok _ I.base_ok p hp (inR_of k3) k1 k2 (fun r hr => (checkRule_ok (rulesErr_zero.1 k3 r hr)).2.1)) rfl ?_)
  rintro v14 h3 w I le3 hL
  rcases hL with ⟨s, hS, hI, rfl⟩ | ⟨hno, rfl⟩
  rotate_left
  exact absurd hM (hno M)
  refine Ops.y (v := .tuple #[_, _]) (Y.move rfl) ?_
  refine Ops.y (v := .slice _ _ _) (Y.extract rfl rfl) ?_
  refine Ops.y (v := .bool _) (Y.extract rfl rfl) ?_
  refine Ops.y (v := .slice _ _ _) (Y.assign rfl) ?_
  refine Ops.y (v := .bool _) (Y.assign rfl) ?_
  refine Ops.nil ?_
  refine WP.seq ?_
  refine WP.region ?_
  refine Ops.y (v := .slice _ _ _) (Y.move rfl) ?_
  refine Ops.y (v := .slice _ _ _) (Y.assign rfl) ?_
  refine Ops.nil ?_
  refine WP.ret ?_
  repeat (first | refine thenE_ret ?_ | refine blockE_ret ?_)
  exact retQ.mk (vs := [.slice _ _ _]) rfl ⟨rfl, trivial⟩ I.ext_of (⟨s, hS, hI, rfl⟩)
end Go.TF
end
section
/- A round: asked, which rules, what they tell; put one behind the other. -/
namespace Go.TF
open Go Go.RowKit Go.Proofs
set_option maxRecDepth 20000

theorem rules_rok {p : Prg} (h : checkProg p = 0) {f : List Fct} (okf : FOk p.preds.xs f) : ∀ r ∈ p.rules.xs, ROk p.preds.xs r := fun r hr =>
  rok_of okf.len okf.preds (rulesErr_zero.1 (checkProg_ok h).2.2.1 r hr)
/-- A test of a rule's number, as a function that keeps cs. -/
def OfC (P : Program) (g : FuncId) (cs : List Value) (h : Heap) (len : Nat) (q : Nat → Bool) : Prop :=
  Enters P g ∧ ∀ B : Base, B.ok → h.le B.h → ∀ n : Nat, n < len → Fn P g ([.int .i64 n] ++ cs) B (fun v _ => v = .bool (q n))
theorem OfC.le {P : Program} {g : FuncId} {cs : List Value} {h h' : Heap} {len : Nat} {q : Nat → Bool} (o : OfC P g cs h len q) (hl : h.le h') : OfC P g cs h' len q := ⟨o.1, fun B hB hle => o.2 B hB (hl.trans hle)⟩
theorem ROf_ok (B : Base) (hB : B.ok) (p : Prg) (s : Sl Int) (st : Int) : Fn Tryz.prog 65 [p.val, s.val, .int .i64 st] B (fun v h => ∃ b4 b3 b5, v = .func (.func 132) #[] #[.pointer (some ⟨b4, 0, none⟩), .pointer (some ⟨b3, 0, none⟩), .pointer (some ⟨b5, 0, none⟩)] ∧ Known h b4 [s.val] ∧ Known h b3 p.enc ∧ Known h b5 [.int .i64 st]) := by
  refine Fn.of Tryz.func65 rfl Tryz.ntmps65 (by kernel_rfl) (by simp) ?_
  intro e
  have I := Inv.start hB
  refine WP.seq ?_
  refine WP.region ?_
  refine Ops.go (O.box (v := .agg #[_, _]) I rfl rfl ?_)
  intro b3 w I
  refine Ops.go (O.box (v := .slice _ _ _) I rfl rfl ?_)
  intro b4 w I
  refine Ops.go (O.box (v := .int .i64 _) I rfl rfl ?_)
  intro b5 w I
  refine Ops.y (v := .nilFunc) (Y.assign rfl) ?_
  refine Ops.nil ?_
  refine WP.seq ?_
  refine WP.region ?_
  refine Ops.y (v := .func _ _ _) (Y.mkfunc rfl rfl) ?_
  refine Ops.y (v := .func _ _ _) (Y.assign rfl) ?_
  refine Ops.nil ?_
  obtain ⟨h5, le5, k5, I⟩ := I.settleBox
  obtain ⟨h4, le4, k4, I⟩ := I.settleBox
  obtain ⟨h3, le3, k3, I⟩ := I.settleBox
  refine WP.ret ?_
  repeat (first | refine thenE_ret ?_ | refine blockE_ret ?_)
  exact retQ.mk (vs := [.func _ _ _]) rfl ⟨rfl, trivial⟩ I.ext_of (⟨b4, b3, b5, rfl, k4.le le3, k3, k5.le (le4.trans le3)⟩)
theorem ROf1_ok (p : Prg) (s : Sl Int) (st : Int) (b4 b3 b5 : Nat) {h : Heap} (k4 : Known h b4 [s.val]) (k3 : Known h b3 p.enc) (k5 : Known h b5 [.int .i64 st]) (hp : p.In h) (hs : s.Is 1 iEnc h) (hl : s.xs.length = p.preds.xs.length) (hin : ∀ r ∈ p.rules.xs, 0 ≤ r.head.pred ∧ r.head.pred < p.preds.xs.length) :
    OfC Tryz.prog 132 [.pointer (some ⟨b4, 0, none⟩), .pointer (some ⟨b3, 0, none⟩), .pointer (some ⟨b5, 0, none⟩)] h p.rules.xs.length (ofQ p s.xs st) := by
  refine ⟨Tryz.call132, fun B hB hle n hn => ?_⟩
  have k4 := k4.le hle
  have k3 := k3.le hle
  have k5 := k5.le hle
  have hp := hp.le hle
  have Er := hp.rules.is.at hn
  obtain ⟨i0, i1⟩ := hin _ (List.getElem_mem hn)
  have El1 := (hs.le hle).el.el (lv_some hl i0 i1)
  have hq : ofQ p s.xs st n = decide (lv s.xs p.rules.xs[n].head.pred = st) := by unfold ofQ; rw [List.getD_eq_getElem?_getD, List.getElem?_eq_getElem hn]; rfl
  show Fn Tryz.prog 132 [.int .i64 n, .pointer (some ⟨b4, 0, none⟩), .pointer (some ⟨b3, 0, none⟩), .pointer (some ⟨b5, 0, none⟩)] B _
  refine Fn.of Tryz.func132 rfl Tryz.ntmps132 (by kernel_rfl) (by simp) ?_
  intro e
  have I := Inv.start hB
  refine WP.seq ?_
  refine WP.region ?_
  refine Ops.y (v := .bool _) (Y.assign rfl) ?_
  refine Ops.nil ?_
  refine WP.seq ?_
  refine WP.regionQ mixed I (by kernel_rfl) ?_
  refine OpsQ.y (v := .slice _ _ _) (fun w I => Y.loadv ty_45 rfl (I.rd (k4.rd.part 0 1)) rfl rfl) ?_
  refine OpsQ.y (v := .pointer (some ⟨_, _, none⟩)) (fun w I => Y.fa fa_25_1 rfl) ?_
  refine OpsQ.y (v := .slice _ _ _) (fun w I => Y.loadv ty_23 rfl (I.rd (k3.rd.part 1 1)) rfl rfl) ?_
  refine OpsQ.y (v := .int .i64 _) (fun w I => Y.move rfl) ?_
  refine OpsQ.y (v := .pointer (some ⟨_, _, none⟩)) (fun w I => Y.idxEl Er Tryz.underlying23 Tryz.sizeOf68 rfl rfl (Int.natCast_nonneg _) rfl) ?_
  refine OpsQ.y (v := .pointer (some ⟨_, _, none⟩)) (fun w I => Y.fa0 fa_68_0 rfl) ?_
  refine OpsQ.y (v := .pointer (some ⟨_, _, none⟩)) (fun w I => Y.fa0 fa_65_0 rfl) ?_
  refine OpsQ.y (v := .int .i64 _) (fun w I => Y.loadv ty_3 rfl (I.rd (Er.rd.part 0 1)) rfl rfl) ?_
  refine OpsQ.y (v := .pointer (some ⟨_, _, none⟩)) (fun w I => Y.idxEl El1 Tryz.underlying45 Tryz.sizeOf3 rfl rfl i0 rfl) ?_
  refine OpsQ.y (v := .int .i64 _) (fun w I => Y.loadv ty_3 rfl (I.rd (El1.rd.part 0 1)) rfl rfl) ?_
  refine OpsQ.y (v := .int .i64 _) (fun w I => Y.loadv ty_3 rfl (I.rd (k5.rd.part 0 1)) rfl rfl) ?_
  refine OpsQ.y (v := .bool (decide _)) (fun w I => Y.eqi rfl rfl) ?_
  refine OpsQ.y (v := .bool _) (fun w I => Y.assign rfl) ?_
  refine OpsQ.nil ?_
  intro w I
  refine WP.ret ?_
  repeat (first | refine thenE_ret ?_ | refine blockE_ret ?_)
  exact retQ.mk (vs := [.bool _]) rfl ⟨rfl, trivial⟩ I.ext_of (by simp only [tup]; rw [hq])
theorem Told_ok (B : Base) (hB : B.ok) (p : Prg) (f : Sl Fct) (g : FuncId) (cs : List Value) : Fn Tryz.prog 64 [p.val, f.val, .func (.func g) #[] cs.toArray] B (fun v h => ∃ b3 b5 b4, v = .func (.func 130) #[] #[.pointer (some ⟨b3, 0, none⟩), .pointer (some ⟨b5, 0, none⟩), .pointer (some ⟨b4, 0, none⟩)] ∧ Known h b3 p.enc ∧ Known h b5 [.func (.func g) #[] cs.toArray] ∧ Known h b4 [f.val]) := by
  refine Fn.of Tryz.func64 rfl Tryz.ntmps64 (by kernel_rfl) (by simp) ?_
  intro e
  have I := Inv.start hB
  refine WP.seq ?_
  refine WP.region ?_
  refine Ops.go (O.box (v := .agg #[_, _]) I rfl rfl ?_)
  intro b3 w I
  refine Ops.go (O.box (v := .slice _ _ _) I rfl rfl ?_)
  intro b4 w I
  refine Ops.go (O.box (v := .func _ _ _) I rfl rfl ?_)
  intro b5 w I
  refine Ops.y (v := .nilFunc) (Y.assign rfl) ?_
  refine Ops.nil ?_
  refine WP.seq ?_
  refine WP.region ?_
  refine Ops.y (v := .func _ _ _) (Y.mkfunc rfl rfl) ?_
  refine Ops.y (v := .func _ _ _) (Y.assign rfl) ?_
  refine Ops.nil ?_
  obtain ⟨h5, le5, k5, I⟩ := I.settleBox
  obtain ⟨h4, le4, k4, I⟩ := I.settleBox
  obtain ⟨h3, le3, k3, I⟩ := I.settleBox
  refine WP.ret ?_
  repeat (first | refine thenE_ret ?_ | refine blockE_ret ?_)
  exact retQ.mk (vs := [.func _ _ _]) rfl ⟨rfl, trivial⟩ I.ext_of (⟨b3, b5, b4, rfl, k3, k5.le (le4.trans le3), k4.le le3⟩)
def tEnc (t : Stp × Fct) : List Value := [t.1.val, t.2.val]
set_option maxHeartbeats 4000000 in
theorem Told1_iter (p : Prg) (f : Sl Fct) (g : FuncId) (cs : List Value) (q : Nat → Bool) (bp bo bf : Nat) (h : Heap) (kp : Known h bp p.enc) (ko : Known h bo [.func (.func g) #[] cs.toArray]) (kf : Known h bf [f.val]) (hp : p.In h) (hf : Fcts f h)
    (hpr : checkProg p = 0) (okf : FOk p.preds.xs f.xs) (ho : OfC Tryz.prog g cs h p.rules.xs.length q) :
    Iter Tryz.prog 130 [.pointer (some ⟨bp, 0, none⟩), .pointer (some ⟨bo, 0, none⟩), .pointer (some ⟨bf, 0, none⟩)] tEnc (toldL p.preds.xs f.xs p.rules.xs q) h := by
  intro l J Jx hg W hle j0 hok hext hround
  have hsm := hp.rules.is.small
  refine Calls.ofWP (args := [.func (.yield l) #[] #[], .pointer (some ⟨bp, 0, none⟩), .pointer (some ⟨bo, 0, none⟩), .pointer (some ⟨bf, 0, none⟩)]) Tryz.func130 rfl Tryz.ntmps130 (by kernel_rfl) (by simp) ?_
  intro e
  have I := Inv.start (hok _ _ _ j0)
  have kp0 := kp.le hle
  refine WP.seq ?_
  refine WP.region ?_
  refine Ops.y (v := .pointer (some ⟨_, _, none⟩)) (Y.fa fa_25_1 rfl) ?_
  refine Ops.y (v := .slice _ _ _) (Y.loadv ty_23 rfl (I.rd (kp0.rd.part 1 1)) rfl rfl) ?_
  refine Ops.y (v := .int .i64 _) (Y.lens Tryz.underlying23 rfl) ?_
  refine Ops.y (v := .int .i64 _) (Y.move rfl) ?_
  refine Ops.nil ?_
  refine WP.block ?_
  refine WP.loopE (σ := Nat) (fun n => [(0, .func (.yield l) #[] #[]), (1, .pointer (some ⟨bp, 0, none⟩)), (2, .pointer (some ⟨bo, 0, none⟩)), (3, .pointer (some ⟨bf, 0, none⟩)), (12, .int .i64 p.rules.xs.length), (13, .int .i64 n)])
    (fun n w => n ≤ p.rules.xs.length ∧ ∃ h1, hg.le h1 ∧ J h1 (toldK p.preds.xs f.xs p.rules.xs q n).length w) (fun n => p.rules.xs.length - n)
    ⟨0, ⟨rfl, rfl, rfl, rfl, rfl, rfl, trivial⟩, Nat.zero_le _, hg, Heap.le.refl _, j0⟩ ?_
  rintro n e w ⟨hn, h1, gl1, j1⟩
  have I := Inv.start (hok _ _ _ j1)
  have l1 := hle.trans gl1
  have kp := kp.le l1
  have ko := ko.le l1
  have kf := kf.le l1
  have hp := hp.le l1
  have hf := hf.le l1
  refine WP.seq ?_
  refine WP.region ?_
  refine Ops.y (v := .bool (decide _)) (Y.lti rfl rfl) ?_
  refine Ops.nil ?_
  refine WP.seq ?_
  refine WP.cond_dec rfl (fun hc => ?_) (fun hc => ?_)
  · have hn' : n < p.rules.xs.length := by omega
    have hr : p.rules.xs[n]? = some p.rules.xs[n] := List.getElem?_eq_getElem hn'
    have hr' : p.rules.xs[(n : Int).toNat]? = some p.rules.xs[n] := by rw [Int.toNat_natCast]; exact hr
    have ok := rules_rok hpr okf _ (List.getElem_mem hn')
    have hgd : p.rules.xs.getD n default = p.rules.xs[n] := by rw [List.getD_eq_getElem?_getD, hr]; rfl
    refine WP.skip ?_
    refine WP.seq ?_
    refine WP.block ?_
    refine WP.seq ?_
    refine WP.region ?_
    refine Ops.y (v := .int .i64 _) (Y.move rfl) ?_
    refine Ops.y (v := .int .i64 _) (Y.assign rfl) ?_
    refine Ops.nil ?_
    refine WP.seq ?_
    refine WP.seq ?_
    refine WP.region ?_
    refine Ops.y (v := .func _ _ _) (Y.loadv ty_102 rfl (I.rd (ko.rd.part 0 1)) rfl rfl) ?_
    refine Ops.y (v := .int .i64 _) (Y.move rfl) ?_
    refine Ops.go (O.callcv I ho.1 (fs := []) (cs := cs) rfl (ho.2 _ I.base_ok l1 n hn') rfl ?_)
    intro w I
    refine Ops.y (v := .bool _) (Y.not rfl) ?_
    refine Ops.nil ?_
    refine WP.cond rfl (fun h3 => ?_) (fun h3 => ?_)
    · have hq : q n = false := by simpa using h3
      have hN : toldN p.preds.xs f.xs p.rules.xs q n = [] := by unfold toldN; rw [hq]; rfl
      refine WP.exit ?_
      refine WP.region ?_
      refine Ops.y (v := .int .i64 _) (Y.addi rfl rfl ⟨by omega, by omega⟩) ?_
      refine Ops.y (v := .int .i64 _) (Y.move rfl) ?_
      refine Ops.nil ?_
      exact ⟨n + 1, ⟨⟨rfl, rfl, rfl, rfl, rfl, rfl, trivial⟩, by omega, h1, gl1, by rw [toldK_succ, hN, List.append_nil]; exact hext _ _ _ _ _ j1 I.ext_of⟩, by omega⟩
    have hq : q n = true := by simpa using h3
    have hN : toldN p.preds.xs f.xs p.rules.xs q n = (stepsF f.xs n p.rules.xs[n]).map fun s => (s, headF p.preds.xs f.xs p.rules.xs[n] s.vars) := by unfold toldN; rw [hq, if_pos rfl, hgd]
    refine WP.skip ?_
    refine WP.seq ?_
    refine WP.region ?_
    refine Ops.y (v := .agg #[_, _]) (Y.loadv ty_25 rfl (I.rd (kp.rd.part 0 2)) rfl rfl) ?_
    refine Ops.y (v := .slice _ _ _) (Y.loadv ty_26 rfl (I.rd (kf.rd.part 0 1)) rfl rfl) ?_
    refine Ops.y (v := .int .i64 _) (Y.move rfl) ?_
    refine Ops.go (O.call I Tryz.call131 (Steps_ok _ I.base_ok p hp f hf n p.rules.xs[n] (by omega) hr' ok okf) rfl ?_)
    rintro _ h2 w I le2 ⟨s, rfl, hs, is⟩
    refine Ops.y (v := .int .i64 _) (Y.lens Tryz.underlying36 rfl) ?_
    refine Ops.y (v := .int .i64 _) (Y.move rfl) ?_
    refine Ops.nil ?_
    have kp := kp.le le2
    have ko := ko.le le2
    have kf := kf.le le2
    have hp := hp.le le2
    have hf := hf.le le2
    have hss := is.small
    refine WP.block ?_
    refine WP.loopE (σ := Nat) (fun k => [(0, .func (.yield l) #[] #[]), (1, .pointer (some ⟨bp, 0, none⟩)), (2, .pointer (some ⟨bo, 0, none⟩)), (3, .pointer (some ⟨bf, 0, none⟩)), (12, .int .i64 p.rules.xs.length), (13, .int .i64 n), (5, .int .i64 n), (23, s.val), (24, .int .i64 s.xs.length), (25, .int .i64 k)])
      (fun k w => k ≤ s.xs.length ∧ ∃ h3, h2.le h3 ∧ J h3 ((toldK p.preds.xs f.xs p.rules.xs q n).length + k) w) (fun k => s.xs.length - k)
      ⟨0, ⟨rfl, rfl, rfl, rfl, rfl, rfl, rfl, rfl, rfl, rfl, trivial⟩, Nat.zero_le _, h2, Heap.le.refl _, hext _ _ _ _ _ j1 I.ext_of⟩ ?_
    rintro k e w ⟨hk, h3, gl3, j3⟩
    have I := Inv.start (hok _ _ _ j3)
    have kp := kp.le gl3
    have ko := ko.le gl3
    have kf := kf.le gl3
    have hp := hp.le gl3
    have hf := hf.le gl3
    refine WP.seq ?_
    refine WP.region ?_
    refine Ops.y (v := .bool (decide _)) (Y.lti rfl rfl) ?_
    refine Ops.nil ?_
    refine WP.seq ?_
    refine WP.cond_dec rfl (fun h5 => ?_) (fun h5 => ?_)
    · have hk' : k < s.xs.length := by omega
      have E := (is.le gl3).at hk'
      have hmem : s.xs[k] ∈ stepsF f.xs n p.rules.xs[n] := hs ▸ List.getElem_mem hk'
      obtain ⟨_, hvs, hhf⟩ := steps_holds hmem
      obtain ⟨y, hy⟩ : ∃ y, headF p.preds.xs f.xs p.rules.xs[n] s.xs[k].vars = y := ⟨_, rfl⟩
      have hyF : holdsF p.preds.xs f.xs p.rules.xs[n] s.xs[k].vars = (true, y) := by unfold holdsF; rw [if_pos hhf, hy]
      have hget : (toldN p.preds.xs f.xs p.rules.xs q n)[k]? = some (s.xs[k], y) := by rw [hN, List.getElem?_map, ← hs, List.getElem?_eq_getElem hk', ← hy]; rfl
      refine WP.skip ?_
      refine WP.seq ?_
      refine WP.block ?_
      refine WP.seq ?_
      refine WP.region ?_
      refine Ops.y (v := .pointer (some ⟨_, _, none⟩)) (Y.idxEl E Tryz.underlying36 Tryz.sizeOf82 rfl rfl (Int.natCast_nonneg _) rfl) ?_
      refine Ops.y (v := .agg #[_, _, _, _]) (Y.loadv ty_82 rfl (I.rd (E.rd.part 0 4)) rfl rfl) ?_
      refine Ops.go (O.alloc I Tryz.zeroValue82 rfl ?_)
      intro b7 w I
      refine Ops.go (O.store (v := .agg #[_, _, _, _]) I ty_82 0 rfl rfl rfl rfl rfl rfl (Nat.le_of_ble_eq_true rfl) rfl ?_)
      intro w I
      refine Ops.nil ?_
      refine WP.seq ?_
      refine WP.region ?_
      refine Ops.y (v := .agg #[_, _]) (Y.loadv ty_25 rfl (I.rd (kp.rd.part 0 2)) rfl rfl) ?_
      refine Ops.y (v := .slice _ _ _) (Y.loadv ty_26 rfl (I.rd (kf.rd.part 0 1)) rfl rfl) ?_
      refine Ops.y (v := .int .i64 _) (Y.move rfl) ?_
      refine Ops.y (v := .pointer (some ⟨_, _, none⟩)) (Y.fa fa_82_1 rfl) ?_
      refine Ops.y (v := .agg #[_, _, _]) (Y.loadv ty_80 rfl (I.rdbox 0 rfl 1 3) rfl rfl) ?_
      refine Ops.go (O.callv I Tryz.call84 (FOf_at _ I.base_ok p hp f hf n p.rules.xs[n] (by omega) hr' ok okf s.xs[k].vars hvs (true, y) hyF) rfl ?_)
      intro w I
      refine Ops.y (v := .tuple #[_, _]) (Y.move rfl) ?_
      refine Ops.y (v := .bool _) (Y.extract rfl rfl) ?_
      refine Ops.y (v := .agg #[_, _, _, _]) (Y.extract rfl rfl) ?_
      refine Ops.go (O.alloc I Tryz.zeroValue52 rfl ?_)
      intro b9 w I
      refine Ops.y (v := .bool _) (Y.assign rfl) ?_
      refine Ops.go (O.store (v := .agg #[_, _, _, _]) I ty_52 0 rfl rfl rfl rfl rfl rfl (Nat.le_of_ble_eq_true rfl) rfl ?_)
      intro w I
      refine Ops.nil ?_
      refine WP.seq ?_
      refine WP.regionX (by kernel_rfl) ?_
      refine OpsX.y (v := .func _ _ _) (Y.move rfl) ?_
      refine OpsX.y (v := .agg #[_, _, _, _]) (Y.loadv ty_82 rfl (I.rdbox 1 rfl 0 4) rfl rfl) ?_
      refine OpsX.y (v := .agg #[_, _, _, _]) (Y.loadv ty_52 rfl (I.rdbox 0 rfl 0 4) rfl rfl) ?_
      refine OpsX.yield rfl rfl (hround h3 _ _ _ (gl1.trans (le2.trans gl3)) (toldK_get hn' hget) (hext _ _ _ _ _ j3 I.ext_of)) ?_
      rintro ed w (⟨rfl, h4, gl4, j4⟩ | ⟨rfl, jx⟩)
      · refine ⟨_, rfl, ?_⟩
        refine OpsX.y (v := .bool _) (Y.not rfl) ?_
        refine OpsX.nil ?_
        refine WP.cond_f rfl ?_
        refine WP.skip ?_
        refine WP.region ?_
        refine Ops.y (v := .int .i64 _) (Y.addi rfl rfl ⟨by omega, by omega⟩) ?_
        refine Ops.y (v := .int .i64 _) (Y.move rfl) ?_
        refine Ops.nil ?_
        exact ⟨k + 1, ⟨⟨rfl, rfl, rfl, rfl, rfl, rfl, rfl, rfl, rfl, rfl, trivial⟩, by omega, h4, gl3.trans gl4, j4⟩, by omega⟩
      · refine ⟨_, rfl, ?_⟩
        refine OpsX.y (v := .bool _) (Y.not rfl) ?_
        refine OpsX.nil ?_
        refine WP.cond_t rfl ?_
        refine WP.ret ?_
        repeat (first | refine thenE_ret ?_ | refine blockE_ret ?_)
        exact ⟨.inl rfl, [], trivial, ⟨_, rfl⟩, .inr jx⟩
    obtain rfl : k = s.xs.length := by omega
    refine WP.exit ?_
    refine WP.region ?_
    refine Ops.y (v := .int .i64 _) (Y.addi rfl rfl ⟨by omega, by omega⟩) ?_
    refine Ops.y (v := .int .i64 _) (Y.move rfl) ?_
    refine Ops.nil ?_
    exact ⟨n + 1, ⟨⟨rfl, rfl, rfl, rfl, rfl, rfl, trivial⟩, by omega, h3, gl1.trans (le2.trans gl3), by rw [toldK_succ, hN, List.length_append, List.length_map, ← hs]; exact j3⟩, by omega⟩
  obtain rfl : n = p.rules.xs.length := by omega
  refine WP.exit ?_
  exact ⟨.inr rfl, [], trivial, ⟨_, rfl⟩, .inl ⟨h1, gl1, j1⟩⟩
end Go.TF
end
section
/- Turn, Once, Closed. -/
namespace Go.TF
open Go Go.RowKit Go.Proofs
set_option maxRecDepth 20000

theorem lv_eq_of_least {cs : List (Int × Ltl)} {n : Nat} {L M : List Int} (h1 : Least cs n L) (h2 : Least cs n M) : L = M :=
  lv_ext (h1.sol.len.trans h2.sol.len.symm) fun i => Int.le_antisymm (h1.least M h2.sol i) (h2.least L h1.sol i)
open Classical in
noncomputable def strataM (p : Prg) : List Int := if h : ∃ M, Least (usesL p.rules.xs) p.preds.xs.length M then Classical.choose h else []
theorem strataM_eq {p : Prg} {M : List Int} (h : Least (usesL p.rules.xs) p.preds.xs.length M) : strataM p = M := by
  have he : ∃ M, Least (usesL p.rules.xs) p.preds.xs.length M := ⟨M, h⟩
  unfold strataM
  rw [dif_pos he]
  exact lv_eq_of_least (Classical.choose_spec he) h
theorem PutP.mono {r : List Fct × Bool} : MonoS (PutP r) := fun _ _ _ hl ⟨s, a, b, c⟩ => ⟨s, a, b, c.le hl⟩
def ROfS (p : Prg) (M : List Int) (st : Int) : Sp := fun v h => ∃ cs, v = .func (.func 132) #[] (List.toArray cs) ∧ OfC Tryz.prog 132 cs h p.rules.xs.length (ofQ p M st)
theorem ROfS.mono {p : Prg} {M : List Int} {st : Int} : MonoS (ROfS p M st) := fun _ _ _ hl ⟨cs, a, b⟩ => ⟨cs, a, b.le hl⟩
theorem fnil {h : Heap} : Fcts ⟨none, 0, []⟩ h := ⟨fun i x hx => by simp at hx, by simp⟩
/-! ### Closed -/
end Go.TF
end
section
/- What the document says of a round, and of what is closed. -/
namespace Go.TF
open Go Go.RowKit Go.Proofs
set_option maxRecDepth 20000

end Go.TF
end
section
/- What the document says of what is closed; what must be in any case; laws of a round: plain. -/
namespace Go.TF
open Go Go.RowKit Go.Proofs
set_option maxRecDepth 20000

/-! ### The roads' rounds -/
theorem toldK_er (l : List Prd) (f : List Fct) (rs : List Rul) (q : Nat → Bool) (k : Nat) (hk : k ≤ rs.length) : toldK l f (rs.map Rul.er) q k = toldK l f rs q k := by
  unfold toldK
  have : ∀ n ∈ List.range k, toldN l f (rs.map Rul.er) q n = toldN l f rs q n := fun n hn => by
    have hn' : n < rs.length := by have := List.mem_range.1 hn; omega
    have hg : (rs.map Rul.er).getD n default = (rs.getD n default).er := by
      rw [List.getD_eq_getElem?_getD, List.getD_eq_getElem?_getD, List.getElem?_map, List.getElem?_eq_getElem hn']; rfl
    unfold toldN
    rw [hg, stepsF_er]
    simp only [headF_er]
  rw [List.flatMap_def, List.flatMap_def, List.map_congr_left this]
theorem toldL_er (l : List Prd) (f : List Fct) (rs : List Rul) (q : Nat → Bool) : toldL l f (rs.map Rul.er) q = toldL l f rs q := by
  unfold toldL; rw [List.length_map]; exact toldK_er l f rs q _ (Nat.le_refl _)
theorem toldK_congr {l : List Prd} {f : List Fct} {rs : List Rul} {q q' : Nat → Bool} {k : Nat} (hq : ∀ n, n < k → q n = q' n) : toldK l f rs q k = toldK l f rs q' k := by
  unfold toldK
  have : ∀ n ∈ List.range k, toldN l f rs q n = toldN l f rs q' n := fun n hn => by unfold toldN; rw [hq n (List.mem_range.1 hn)]
  rw [List.flatMap_def, List.flatMap_def, List.map_congr_left this]
section
variable {p : Prg} {h : Heap} (hp : RoadsAt p h)
include hp
theorem rd_rules : p.rules.xs.map Rul.er = roadsC.rules.xs := by have := congrArg (fun q : Prg => q.rules.xs) hp.er; exact this
theorem rd_strata : strataM p = [0, 0, 1] := by
  refine strataM_eq (least_er ?_)
  rw [← usesL_er, rd_rules hp, rd_preds hp]
  exact roads_least
end
end Go.TF
end
section
/- Arguments as they come in: what is read as data lies in memory as located data. -/
namespace Go.TF
open Go Go.RowKit Go.Proofs Go.Deep

def memH (W : World) : Heap := fun b => W.heap[b]?
theorem memH_cell {W : World} {b o : Nat} {v : Value} (h : W.cell? ⟨b, o, none⟩ = some v) : (memH W).cell b o = some v := by
  unfold World.cell? at h
  unfold Heap.cell memH
  split at h
  · rename_i c t f hb; rw [hb]; simpa using h
  · cases h
def Opens (P : Program) (T : TypeId) {α : Type} (enc : α → List Value) (In : α → Heap → Prop) : Prop :=
  ∀ (H : Type) (en : TypeId × Value → H) (W : World) (fuel : Nat) (cs : List Value) (x : DataW H × List MemPlace), DataW.trod en P W 0 (fun _ => true) true fuel T cs = some x → (∀ n ∈ x.1.weights P T, n ≤ reachBytes) → ∃ y : α, cs = enc y ∧ In y (memH W)
/-- A slice, its elements, and that there are not too many. -/
structure Sl.Ok {α : Type} (s : Sl α) (k b : Nat) (enc : α → List Value) (In : α → Heap → Prop) (h : Heap) : Prop where
  is : s.Is k enc h
  each : ∀ x ∈ s.xs, In x h
  cap : s.xs.length ≤ s.cap
  size : s.cap * b ≤ reachBytes
section
variable {P : Program} {T : TypeId}
theorem op_int (hT : P.underlying T = some (.int .i64)) : Opens P T (fun n : Int => [.int .i64 n]) (fun n _ => I64 n) := fun H en W fuel cs x h _ => by
  obtain ⟨n, rfl, _, hw⟩ := DataW.trod_int hT h
  refine ⟨n, rfl, ?_⟩
  simp only [Lit.wf, Bool.and_eq_true, decide_eq_true_eq] at hw
  have h1 : IntKind.i64.min = -9223372036854775808 := rfl
  have h2 : IntKind.i64.max = 9223372036854775807 := rfl
  exact ⟨by omega, by omega⟩
theorem op_bool (hT : P.underlying T = some .bool) : Opens P T (fun n : Bool => [.bool n]) (fun _ _ => True) := fun H en W fuel cs x h _ => by
  obtain ⟨n, rfl, _⟩ := DataW.trod_bool hT h
  exact ⟨n, rfl, trivial⟩
theorem op_string (hT : P.underlying T = some .string) : Opens P T (fun n : ByteArray => [.string n]) (fun s _ => s.size ≤ reachBytes) := fun H en W fuel cs x h hw => by
  obtain ⟨n, rfl, rfl, _⟩ := DataW.trod_string hT h
  refine ⟨n, rfl, ?_⟩
  have := hw n.data.toList.length (by simp [DataW.weights])
  simpa using this
theorem weightsAll_mem {H : Type} {e : TypeId} : ∀ {l : List (DataW H)} {d : DataW H}, d ∈ l → ∀ n ∈ d.weights P e, n ∈ DataW.weightsAll P e l
  | x :: l, d, hd, n, hn => by
    simp only [DataW.weightsAll]
    rcases List.mem_cons.1 hd with rfl | hd
    · exact List.mem_append_left _ hn
    · exact List.mem_append_right _ (weightsAll_mem hd n hn)
theorem op_slice {e k b : Nat} {α : Type} {enc : α → List Value} {In : α → Heap → Prop} (hT : P.underlying T = some (.slice e)) (hk : P.cellsOf e = k) (hb : P.bytesOf e = b) (hb0 : 0 < b) (hk0 : 0 < k) (he : Opens P e enc In) :
    Opens P T (fun s : Sl α => [s.val]) (fun s h => s.Ok k b enc In h) := fun H en W fuel cs x h hw => by
  rcases open_slice hT h with ⟨rfl, rfl⟩ | ⟨a, len, cap, m, n, D, Pl, rfl, _, hl, _, hmm, rfl, hall⟩
  · exact ⟨⟨none, 0, []⟩, rfl, ⟨⟨fun i x hx => by simp at hx, by simp⟩, fun x hx => by simp at hx, by simp, by simp [reachBytes]⟩⟩
  · simp only [if_true] at hmm
    subst hmm
    have hel : ∀ i, i < len → ∃ (y : α), W.cells? 0 (a.add (i * k)) k = some (enc y) ∧ In y (memH W) := fun i hi => by
      obtain ⟨cs', h1, h2⟩ := hall i (by omega)
      obtain ⟨y, rfl, hy⟩ := he H en W n cs' _ h2 fun q hq => hw q (by
        simp only [DataW.weights, hT]
        refine List.mem_cons_of_mem _ (List.mem_append_left _ (weightsAll_mem (d := D i) (List.mem_map.2 ⟨i, List.mem_range.2 hi, rfl⟩) q hq)))
      rw [hk] at h1
      exact ⟨y, h1, hy⟩
    have hsz : m * b ≤ reachBytes := by
      have := hw ((len + (m - len)) * b) (by simp [DataW.weights, hT, hb])
      rwa [show len + (m - len) = m by omega] at this
    have hm47 : m ≤ 140737488355328 := by
      have h1 : m ≤ m * b := Nat.le_mul_of_pos_right m hb0
      have h2 : reachBytes ≤ 140737488355328 := by decide
      omega
    have key : ∃ xs : List α, xs.length = len ∧ ∀ i y, xs[i]? = some y → W.cells? 0 (a.add (i * k)) k = some (enc y) ∧ In y (memH W) := by
      have : ∀ l, l ≤ len → ∃ xs : List α, xs.length = l ∧ ∀ i y, xs[i]? = some y → W.cells? 0 (a.add (i * k)) k = some (enc y) ∧ In y (memH W) := by
        intro l
        induction l with
        | zero => intro _; exact ⟨[], rfl, fun i y hy => by simp at hy⟩
        | succ l ih =>
          intro hl'
          obtain ⟨xs, h1, h2⟩ := ih (by omega)
          obtain ⟨y, h3⟩ := hel l (by omega)
          refine ⟨xs ++ [y], by simp [h1], fun i z hz => ?_⟩
          rw [List.getElem?_append] at hz
          split at hz
          · exact h2 i z hz
          · have : i = l := by
              have := (List.getElem?_eq_some_iff.1 hz).1
              simp at this; omega
            subst this
            simp [h1] at hz
            subst hz; exact h3
      exact this len (Nat.le_refl _)
    obtain ⟨xs, hxs, hx⟩ := key
    obtain ⟨ab, ao, spot⟩ := a
    have hspot : 0 < len → spot = none := fun h0 => by
      obtain ⟨y, h1, _⟩ := hel 0 h0
      obtain ⟨_, hlen, hc⟩ := World.cells?_some h1
      have hc0 := hc 0 hk0
      have : ∃ v, (enc y)[0]? = some v := ⟨(enc y)[0]'(by omega), by simp⟩
      obtain ⟨v, hv⟩ := this
      rw [hv] at hc0
      have := World.cell?_spot hc0
      simpa [Addr.add] using this
    refine ⟨⟨some ⟨ab, ao, spot⟩, m, xs⟩, by simp [Sl.val, hxs], ⟨⟨fun i y hy => ?_, by simp only [hxs]; omega⟩, fun y hy => ?_, by simp only [hxs]; omega, hsz⟩⟩
    · have hi : i < xs.length := (List.getElem?_eq_some_iff.1 hy).1
      have hs := hspot (by omega)
      subst hs
      refine ⟨rfl, fun j v hj => ?_⟩
      obtain ⟨_, hlen, hc⟩ := World.cells?_some (hx i y hy).1
      have hjk : j < k := by have := (List.getElem?_eq_some_iff.1 hj).1; omega
      have := hc j hjk
      rw [hj, addr_add, addr_add] at this
      exact memH_cell this
    · obtain ⟨i, hi, rfl⟩ := List.getElem_of_mem hy
      exact (hx i xs[i] (List.getElem?_eq_getElem hi)).2
theorem op_field {fs : Array Field} {H : Type} {en : TypeId × Value → H} {W : World} {fuel : Nat} {cs : List Value} {x : DataW H × List MemPlace} (hT : P.underlying T = some (.struct fs)) (h : DataW.trod en P W 0 (fun _ => true) true fuel T cs = some x) (hw : ∀ n ∈ x.1.weights P T, n ≤ reachBytes)
    {α : Type} {enc : α → List Value} {In : α → Heap → Prop} (i : Nat) {f : Field} (hf : fs[i]? = some f) {k : Nat} (hk : P.cellsOf f.type = k) (he : Opens P f.type enc In) : ∃ y : α, (cs.drop f.offset).take k = enc y ∧ In y (memH W) := by
  subst hk
  obtain ⟨xs, n, _, rfl, _, hlen, hfs⟩ := DataW.trod_struct hT h
  have hi : i < xs.length := by rw [hlen]; exact (Array.getElem?_eq_some_iff.1 hf).1
  have h1 := hfs i f hf
  rw [List.getElem?_eq_getElem hi] at h1
  refine he H en W n _ xs[i] h1 fun q hq => hw q ?_
  simp only [DataW.weights, hT]
  exact DataW.weights_mem_each (j := i) (t := f.type) (d := xs[i].1) (by simp [hf]) (by simp [hi]) q hq
theorem op_len {fs : Array Field} {H : Type} {en : TypeId × Value → H} {W : World} {fuel : Nat} {cs : List Value} {x : DataW H × List MemPlace} (hT : P.underlying T = some (.struct fs)) (h : DataW.trod en P W 0 (fun _ => true) true fuel T cs = some x) : cs.length = P.cellsOf T := by
  obtain ⟨xs, n, _, rfl, hl, _, _⟩ := DataW.trod_struct hT h
  exact hl
theorem val_struct {W : World} {r : Go.Reach} {b0 : Nat} {fs : Array Field} {v : Value} {cs : List Value} (hT : P.underlying T = some (.struct fs)) (hval : Value.okWide P W r b0 T v) (hc : v.cells.toList = cs) : v = .agg cs.toArray := by
  unfold Value.okWide at hval
  rw [hT] at hval
  obtain ⟨cs', rfl, _⟩ := hval
  subst hc; simp [Value.cells]
theorem weights_of {H : Type} {ts : List TypeId} {ds : List (DataW H)} (hz : (DataW.weightsEach P ts ds).all (· ≤ reachBytes) = true) (j : Nat) {t : TypeId} {d : DataW H} (ht : ts[j]? = some t) (hd : ds[j]? = some d) : ∀ n ∈ d.weights P t, n ≤ reachBytes := fun n hn => by
  have := List.all_eq_true.1 hz n (DataW.weights_mem_each ht hd n hn)
  simpa using this
end
theorem open_of {P : Program} {T : TypeId} {α : Type} {enc : α → List Value} {In : α → Heap → Prop} {H : Type} {en : TypeId × Value → H} {W : World} {v : Value} {d : DataW H} {ps : List MemPlace} (he : Opens P T enc In) (hd : DataW.Trod en P W 0 (fun _ => true) true T v d ps) (hw : ∀ n ∈ d.weights P T, n ≤ reachBytes) :
    ∃ y : α, v.cells.toList = enc y ∧ In y (memH W) := by
  obtain ⟨fuel, h⟩ := hd
  exact he H en W fuel _ _ h hw

/-! ### This program's types -/
theorem len2 {cs : List Value} (h : cs.length = 2) : ∃ c0 c1, cs = [c0, c1] := by
  match cs, h with
  | [c0, c1], _ => exact ⟨c0, c1, rfl⟩
theorem len3 {cs : List Value} (h : cs.length = 3) : ∃ c0 c1 c2, cs = [c0, c1, c2] := by
  match cs, h with
  | [c0, c1, c2], _ => exact ⟨c0, c1, c2, rfl⟩
theorem len5 {cs : List Value} (h : cs.length = 5) : ∃ c0 c1 c2 c3 c4, cs = [c0, c1, c2, c3, c4] := by
  match cs, h with
  | [c0, c1, c2, c3, c4], _ => exact ⟨c0, c1, c2, c3, c4, rfl⟩
def TrmOk (t : Trm) (_ : Heap) : Prop := I64 t.n
structure PrdOk (p : Prd) (_ : Heap) : Prop where
  name : p.name.size ≤ reachBytes
  arity : I64 p.arity
  kind : I64 p.kind
structure AtmOk (a : Atm) (h : Heap) : Prop where
  pred : I64 a.pred
  args : a.args.Ok 2 16 Trm.enc TrmOk h
def LtlOk (x : Ltl) (h : Heap) : Prop := AtmOk x.atom h
structure RulOk (r : Rul) (h : Heap) : Prop where
  head : AtmOk r.head h
  src : I64 r.src
  n : I64 r.n
  body : r.body.Ok 3 40 Ltl.enc LtlOk h
structure PrgOk (p : Prg) (h : Heap) : Prop where
  preds : p.preds.Ok 3 32 Prd.enc PrdOk h
  rules : p.rules.Ok 5 72 Rul.enc RulOk h
structure FctOk (x : Fct) (_ : Heap) : Prop where
  pred : I64 x.pred
  a : I64 x.a
  b : I64 x.b
  v : I64 x.v
structure VrsOk (x : Vrs) (_ : Heap) : Prop where
  x0 : I64 x.x0
  x1 : I64 x.x1
  x2 : I64 x.x2
structure StpOk (x : Stp) (h : Heap) : Prop where
  rule : I64 x.rule
  vars : VrsOk x.vars h
theorem AtmOk.in_ {a : Atm} {h : Heap} (x : AtmOk a h) : a.In h := x.args.is
theorem RulOk.in_ {r : Rul} {h : Heap} (x : RulOk r h) : r.In h := ⟨x.head.in_, x.body.is, fun y hy => AtmOk.in_ (x.body.each y hy)⟩
theorem PrgOk.in_ {p : Prg} {h : Heap} (x : PrgOk p h) : p.In h := ⟨x.preds.is, x.rules.is, fun y hy => (x.rules.each y hy).in_⟩
theorem op_Trm : Opens Tryz.prog 91 Trm.enc TrmOk := fun H en W fuel cs x h hw => by
  have hl := op_len Tryz.underlying91 h
  rw [show Tryz.prog.cellsOf 91 = 2 by kernel_rfl] at hl
  obtain ⟨y0, e0, g0⟩ := op_field Tryz.underlying91 h hw 0 rfl (k := 1) (by kernel_rfl) (op_bool Tryz.underlying4)
  obtain ⟨y1, e1, g1⟩ := op_field Tryz.underlying91 h hw 1 rfl (k := 1) (by kernel_rfl) (op_int Tryz.underlying3)
  obtain ⟨c0, c1, rfl⟩ := len2 hl
  replace e0 : [c0] = _ := e0
  replace e1 : [c1] = _ := e1
  simp only [List.cons.injEq, and_true] at e0 e1
  exact ⟨⟨y0, y1⟩, by simp [*], g1⟩
theorem op_SlTrm : Opens Tryz.prog 63 (fun s : Sl Trm => [s.val]) (fun s h => s.Ok 2 16 Trm.enc TrmOk h) := op_slice Tryz.underlying63 (by kernel_rfl) (by kernel_rfl) (by decide) (by decide) op_Trm
theorem op_Prd : Opens Tryz.prog 62 Prd.enc PrdOk := fun H en W fuel cs x h hw => by
  have hl := op_len Tryz.underlying62 h
  rw [show Tryz.prog.cellsOf 62 = 3 by kernel_rfl] at hl
  obtain ⟨y0, e0, g0⟩ := op_field Tryz.underlying62 h hw 0 rfl (k := 1) (by kernel_rfl) (op_string Tryz.underlying9)
  obtain ⟨y1, e1, g1⟩ := op_field Tryz.underlying62 h hw 1 rfl (k := 1) (by kernel_rfl) (op_int Tryz.underlying3)
  obtain ⟨y2, e2, g2⟩ := op_field Tryz.underlying62 h hw 2 rfl (k := 1) (by kernel_rfl) (op_int Tryz.underlying3)
  obtain ⟨c0, c1, c2, rfl⟩ := len3 hl
  replace e0 : [c0] = _ := e0
  replace e1 : [c1] = _ := e1
  replace e2 : [c2] = _ := e2
  simp only [List.cons.injEq, and_true] at e0 e1 e2
  exact ⟨⟨y0, y1, y2⟩, by simp [*], ⟨g0, g1, g2⟩⟩
theorem op_SlPrd : Opens Tryz.prog 22 (fun s : Sl Prd => [s.val]) (fun s h => s.Ok 3 32 Prd.enc PrdOk h) := op_slice Tryz.underlying22 (by kernel_rfl) (by kernel_rfl) (by decide) (by decide) op_Prd
theorem op_Atm : Opens Tryz.prog 65 Atm.enc AtmOk := fun H en W fuel cs x h hw => by
  have hl := op_len Tryz.underlying65 h
  rw [show Tryz.prog.cellsOf 65 = 2 by kernel_rfl] at hl
  obtain ⟨y0, e0, g0⟩ := op_field Tryz.underlying65 h hw 0 rfl (k := 1) (by kernel_rfl) (op_int Tryz.underlying3)
  obtain ⟨y1, e1, g1⟩ := op_field Tryz.underlying65 h hw 1 rfl (k := 1) (by kernel_rfl) (op_SlTrm)
  obtain ⟨c0, c1, rfl⟩ := len2 hl
  replace e0 : [c0] = _ := e0
  replace e1 : [c1] = _ := e1
  simp only [List.cons.injEq, and_true] at e0 e1
  exact ⟨⟨y0, y1⟩, by simp [*], ⟨g0, g1⟩⟩
theorem op_Ltl : Opens Tryz.prog 131 Ltl.enc LtlOk := fun H en W fuel cs x h hw => by
  have hl := op_len Tryz.underlying131 h
  rw [show Tryz.prog.cellsOf 131 = 3 by kernel_rfl] at hl
  obtain ⟨y0, e0, g0⟩ := op_field Tryz.underlying131 h hw 0 rfl (k := 1) (by kernel_rfl) (op_bool Tryz.underlying4)
  obtain ⟨y1, e1, g1⟩ := op_field Tryz.underlying131 h hw 1 rfl (k := 2) (by kernel_rfl) (op_Atm)
  obtain ⟨c0, c1, c2, rfl⟩ := len3 hl
  replace e0 : [c0] = _ := e0
  replace e1 : [c1, c2] = _ := e1
  simp only [List.cons.injEq, and_true] at e0 e1
  exact ⟨⟨y0, y1⟩, by simp [*], g1⟩
theorem op_SlLtl : Opens Tryz.prog 66 (fun s : Sl Ltl => [s.val]) (fun s h => s.Ok 3 40 Ltl.enc LtlOk h) := op_slice Tryz.underlying66 (by kernel_rfl) (by kernel_rfl) (by decide) (by decide) op_Ltl
theorem op_Rul : Opens Tryz.prog 68 Rul.enc RulOk := fun H en W fuel cs x h hw => by
  have hl := op_len Tryz.underlying68 h
  rw [show Tryz.prog.cellsOf 68 = 5 by kernel_rfl] at hl
  obtain ⟨y0, e0, g0⟩ := op_field Tryz.underlying68 h hw 0 rfl (k := 2) (by kernel_rfl) (op_Atm)
  obtain ⟨y1, e1, g1⟩ := op_field Tryz.underlying68 h hw 1 rfl (k := 1) (by kernel_rfl) (op_int Tryz.underlying3)
  obtain ⟨y2, e2, g2⟩ := op_field Tryz.underlying68 h hw 2 rfl (k := 1) (by kernel_rfl) (op_int Tryz.underlying3)
  obtain ⟨y3, e3, g3⟩ := op_field Tryz.underlying68 h hw 3 rfl (k := 1) (by kernel_rfl) (op_SlLtl)
  obtain ⟨c0, c1, c2, c3, c4, rfl⟩ := len5 hl
  replace e0 : [c0, c1] = _ := e0
  replace e1 : [c2] = _ := e1
  replace e2 : [c3] = _ := e2
  replace e3 : [c4] = _ := e3
  simp only [List.cons.injEq, and_true] at e0 e1 e2 e3
  exact ⟨⟨y0, y1, y2, y3⟩, by simp [*], ⟨g0, g1, g2, g3⟩⟩
theorem op_SlRul : Opens Tryz.prog 23 (fun s : Sl Rul => [s.val]) (fun s h => s.Ok 5 72 Rul.enc RulOk h) := op_slice Tryz.underlying23 (by kernel_rfl) (by kernel_rfl) (by decide) (by decide) op_Rul
theorem op_Prg : Opens Tryz.prog 25 Prg.enc PrgOk := fun H en W fuel cs x h hw => by
  have hl := op_len Tryz.underlying25 h
  rw [show Tryz.prog.cellsOf 25 = 2 by kernel_rfl] at hl
  obtain ⟨y0, e0, g0⟩ := op_field Tryz.underlying25 h hw 0 rfl (k := 1) (by kernel_rfl) (op_SlPrd)
  obtain ⟨y1, e1, g1⟩ := op_field Tryz.underlying25 h hw 1 rfl (k := 1) (by kernel_rfl) (op_SlRul)
  obtain ⟨c0, c1, rfl⟩ := len2 hl
  replace e0 : [c0] = _ := e0
  replace e1 : [c1] = _ := e1
  simp only [List.cons.injEq, and_true] at e0 e1
  exact ⟨⟨y0, y1⟩, by simp [*], ⟨g0, g1⟩⟩
end Go.TF
end
section
/- The laws of a round: each returns true. -/
namespace Go.TF
open Go Go.RowKit Go.Proofs
set_option maxRecDepth 20000

theorem PrgOk.nm3 {p : Prg} {h : Heap} (x : PrgOk p h) : p.Nm := fun y hy => by
  have := (x.preds.each y hy).1
  simp only [reachBytes] at this; omega
/-! ### RoundMore -/
end Go.TF
end
section
/- The model is closed, each of its facts is told, it is the least, and the order of the rules is nothing to it: plain. -/
namespace Go.TF
open Go

theorem mem_uses {rs : List Rul} {r : Rul} {x : Ltl} (hr : r ∈ rs) (hx : x ∈ r.body.xs) : (r.head.pred, x) ∈ usesL rs := by
  unfold usesL
  exact List.mem_flatMap.2 ⟨r, hr, List.mem_map.2 ⟨x, hx, rfl⟩⟩
def SameLv (M : List Int) (P : Int → Prop) (f g : List Fct) : Prop := ∀ y : Fct, PF y → P (lv M y.pred) → lkF f (placeF y) = lkF g (placeF y)
theorem isF_lv {M : List Int} {P : Int → Prop} {f g : List Fct} (h : SameLv M P f g) {y : Fct} (hy : PF y) (hp : P (lv M y.pred)) : isF f y = isF g y := by unfold isF; rw [h y hy hp]
theorem ng_ge (x : Ltl) : 0 ≤ ng x := by unfold ng; split <;> omega
theorem same_symm {M : List Int} {P : Int → Prop} {f g : List Fct} (h : SameLv M P f g) : SameLv M P g f := fun y a b => (h y a b).symm
theorem lit_lv {p : Prg} {M : List Int} (hM : Sol (usesL p.rules.xs) p.preds.xs.length M) {r : Rul} (hr : r ∈ p.rules.xs) {x : Ltl} (hx : x ∈ r.body.xs) : lv M x.atom.pred + ng x ≤ lv M r.head.pred := hM.sat _ (mem_uses hr hx)
theorem run_off {l : List Prd} {M : List Int} {st : Int} {y : Fct} (hy : PF y) (hl : lv M y.pred ≠ st) : ∀ (ts : List (Stp × Fct)) (s : List Fct × Bool), FOk l s.1 → (∀ t ∈ ts, factFine l t.2 = true) → (∀ t ∈ ts, lv M t.2.pred = st) → lkF (runL l s ts).1 (placeF y) = lkF s.1 (placeF y)
  | [], s, _, _, _ => rfl
  | t :: ts, s, hs, hf, ht => by
    have hx := hf t List.mem_cons_self
    have := run_off hy hl ts (putS l s t.2) (addF_fok hs hx) (fun u hu => hf u (List.mem_cons_of_mem _ hu)) fun u hu => ht u (List.mem_cons_of_mem _ hu)
    refine this.trans ?_
    show lkF (addL l s.1 t.2) (placeF y) = _
    rw [lkF_addL hs, if_neg]
    intro e
    have := (hy.inj (fine_pf hs.len hx) e).1
    exact hl (by rw [this]; exact ht t List.mem_cons_self)
theorem run_mem {l : List Prd} {y : Fct} : ∀ (ts : List (Stp × Fct)) (s : List Fct × Bool), y ∈ (runL l s ts).1 → (∃ z ∈ s.1, placeF z = placeF y) ∨ ∃ t ∈ ts, placeF t.2 = placeF y
  | [], s, h => .inl ⟨y, h, rfl⟩
  | t :: ts, s, h => by
    rcases run_mem ts (putS l s t.2) h with ⟨z, hz, e⟩ | ⟨u, hu, e⟩
    · rcases mem_addF hz with hz | rfl | ⟨y', hy', e', rfl⟩
      · exact .inl ⟨z, hz, e⟩
      · exact .inr ⟨t, List.mem_cons_self, e⟩
      · exact .inl ⟨y', hy', e⟩
    · exact .inr ⟨u, List.mem_cons_of_mem _ hu, e⟩
theorem fok_nil {l : List Prd} (h5 : l.length ≤ 5) (hp : ∀ p ∈ l, predFine p = true) : FOk l [] := ⟨h5, hp, fun x hx => by simp at hx, List.Pairwise.nil⟩
section
variable {p : Prg} {M : List Int} (rk : ∀ r ∈ p.rules.xs, ROk p.preds.xs r) (hM : Sol (usesL p.rules.xs) p.preds.xs.length M)
theorem ofQ_iff {s : Int} {n : Nat} {r : Rul} (hr : p.rules.xs[n]? = some r) : ofQ p M s n = true ↔ lv M r.head.pred = s := by
  unfold ofQ
  rw [List.getD_eq_getElem?_getD, hr, decide_eq_true_eq]
  rfl
theorem told_lv {f : List Fct} {s : Int} : ∀ t ∈ toldL p.preds.xs f p.rules.xs (ofQ p M s), lv M t.2.pred = s := fun t ht => by
  obtain ⟨n, r, hr, hq, hs, he⟩ := mem_told.1 ht
  rw [he]; exact (ofQ_iff hr).1 hq
include rk hM
/-- What holds ahead of a round holds behind it. -/
theorem holds_next {f g : List Fct} {s : Int} (hu : underF p.preds.xs f g = true) (hs : SameLv M (· < s) f g) {r : Rul} (hr : r ∈ p.rules.xs) (hl : lv M r.head.pred ≤ s) {x : Vrs} (hx : VsOk x) (h : holdsB f r x = true) : holdsB g r x = true := by
  unfold holdsB at *
  rw [List.all_eq_true] at *
  intro t ht
  have h1 := h t ht
  unfold litOk at h1 ⊢
  rw [decide_eq_true_eq] at h1 ⊢
  have hlv := lit_lv hM hr ht
  cases hn : t.neg
  · rw [hn] at h1
    have := isF_up hu (y := groundF t.atom x) (by simpa using h1)
    rw [this]; decide
  · rw [hn] at h1
    have hng : ng t = 1 := by unfold ng; rw [hn]; rfl
    have ao := aok_of (rk r hr).preds ((rk r hr).body t ht)
    have pf := ao.pf (rk r hr).five hx 0
    have e := isF_lv hs (y := groundF t.atom x) pf (show lv M t.atom.pred < s by omega)
    rw [← e]
    exact h1
theorem holds_same {f g : List Fct} {s : Int} (hs : SameLv M (· ≤ s) f g) {r : Rul} (hr : r ∈ p.rules.xs) (hl : lv M r.head.pred ≤ s) {x : Vrs} (hx : VsOk x) : holdsB f r x = holdsB g r x ∧ headF p.preds.xs f r x = headF p.preds.xs g r x := by
  have hlit : ∀ t ∈ r.body.xs, lkF f (placeF (groundF t.atom x)) = lkF g (placeF (groundF t.atom x)) := fun t ht => by
    have hlv := lit_lv hM hr ht
    have := ng_ge t
    have ao := aok_of (rk r hr).preds ((rk r hr).body t ht)
    exact hs _ (ao.pf (rk r hr).five hx 0) (show lv M t.atom.pred ≤ s by omega)
  constructor
  · unfold holdsB
    rw [Bool.eq_iff_iff, List.all_eq_true, List.all_eq_true]
    have key : ∀ t ∈ r.body.xs, litOk f x t = litOk g x t := fun t ht => by unfold litOk isF; rw [hlit t ht]
    exact ⟨fun h t ht => (key t ht) ▸ h t ht, fun h t ht => (key t ht).symm ▸ h t ht⟩
  · unfold headF headV
    by_cases h0 : 0 ≤ r.src
    · rw [if_pos h0, if_pos h0, hlit _ (litOf_mem ⟨h0, (rk r hr).src.2⟩)]
    · rw [if_neg h0, if_neg h0]
theorem steps_same {f g : List Fct} {s : Int} (hs : SameLv M (· ≤ s) f g) {r : Rul} (hr : r ∈ p.rules.xs) (hl : lv M r.head.pred ≤ s) (n : Int) : ∀ x, x ∈ stepsF f n r → x ∈ stepsF g n r := fun x hx => by
  unfold stepsF at *
  obtain ⟨v, hv, e⟩ := List.mem_map.1 hx
  obtain ⟨h1, h2⟩ := List.mem_filter.1 hv
  refine List.mem_map.2 ⟨v, List.mem_filter.2 ⟨h1, ?_⟩, e⟩
  rw [← (holds_same rk hM hs hr hl (mem_vecs.1 h1)).1]
  exact h2
theorem told_same {f g : List Fct} {s : Int} (hs : SameLv M (· ≤ s) f g) : ∀ t, t ∈ toldL p.preds.xs f p.rules.xs (ofQ p M s) → t ∈ toldL p.preds.xs g p.rules.xs (ofQ p M s) := fun t ht => by
  obtain ⟨n, r, hr, hq, hst, he⟩ := mem_told.1 ht
  have hrm := List.mem_of_getElem? hr
  have hl := (ofQ_iff hr).1 hq
  refine mem_told.2 ⟨n, r, hr, hq, steps_same rk hM hs hrm (Int.le_of_eq hl) n _ hst, ?_⟩
  rw [he]
  exact (holds_same rk hM hs hrm (Int.le_of_eq hl) (steps_holds hst).2.1).2
theorem turn_still {f g : List Fct} {s : Int} (okf : FOk p.preds.xs f) (okg : FOk p.preds.xs g) (hs : SameLv M (· ≤ s) f g) (h : (turnT p M s f).2 = false) : (turnT p M s g).2 = false := by
  unfold turnT at *
  rw [turn_no okf (told_fine rk okf)] at h
  rw [turn_no okg (told_fine rk okg)]
  intro t ht
  have ht' := told_same rk hM (same_symm hs) t ht
  have h1 := h t ht'
  have hfine := told_fine rk okf t ht'
  rw [underF_iff] at h1 ⊢
  intro z hz
  obtain ⟨v, k1, k2⟩ := h1 z hz
  rw [List.mem_singleton.1 hz] at k1 k2 ⊢
  exact ⟨v, by rw [← hs _ (fine_pf okf.len hfine) (Int.le_of_eq (told_lv t ht'))]; exact k1, k2⟩
/-- A fact that is told. -/
def TldF (p : Prg) (f : List Fct) (y : Fct) : Prop := ∃ (n : Nat) (r : Rul) (x : Vrs), p.rules.xs[n]? = some r ∧ VsOk x ∧ stdOk r x = true ∧ holdsB f r x = true ∧ placeF (headF p.preds.xs f r x) = placeF y
structure MJ (p : Prg) (M : List Int) (k : Nat) (f : List Fct) : Prop where
  fok : FOk p.preds.xs f
  still : ∀ s : Nat, s < k → (turnT p M s f).2 = false
  lev : ∀ y ∈ f, lv M y.pred ≤ k
  told : ∀ y ∈ f, TldF p f y
theorem mj_next {k : Nat} {f : List Fct} (j : MJ p M k f) : MJ p M k (turnT p M k f).1 := by
  have tf := told_fine (q := ofQ p M k) rk j.fok
  have tl := told_lv (p := p) (M := M) (f := f) (s := k)
  have hu : underF p.preds.xs f (turnT p M k f).1 = true := turn_above j.fok tf
  have okg : FOk p.preds.xs (turnT p M k f).1 := turn_fok j.fok tf
  have hoff : SameLv M (· ≠ (k : Int)) f (turnT p M k f).1 := fun y hy hl => (run_off hy hl _ (f, false) j.fok tf tl).symm
  have hlt : SameLv M (· < (k : Int)) f (turnT p M k f).1 := fun y hy hl => hoff y hy (Int.ne_of_lt hl)
  have hold : ∀ y, TldF p f y → lv M y.pred ≤ k → PF y → TldF p (turnT p M k f).1 y := fun y ⟨n, r, x, h1, h2, h3, h4, h5⟩ hl hy => by
    have hrm := List.mem_of_getElem? h1
    have hp1 : (headF p.preds.xs f r x).pred = y.pred := ((fine_pf j.fok.len (headF_fine (rk r hrm) j.fok h2 h4)).inj hy h5).1
    exact ⟨n, r, x, h1, h2, h3, holds_next rk hM hu hlt hrm (by rw [show r.head.pred = y.pred from hp1]; exact hl) h2 h4, h5⟩
  have hmem : ∀ y ∈ (turnT p M k f).1, lv M y.pred ≤ k ∧ TldF p (turnT p M k f).1 y := fun y hy => by
    have hyf := fine_pf okg.len (okg.fine y hy)
    rcases run_mem _ (f, false) hy with ⟨z, hz, e⟩ | ⟨t, ht, e⟩
    · have hzp : z.pred = y.pred := ((fine_pf j.fok.len (j.fok.fine z hz)).inj hyf e).1
      have hl := j.lev z hz
      obtain ⟨n, r, x, h1, h2, h3, h4, h5⟩ := hold z (j.told z hz) hl (fine_pf j.fok.len (j.fok.fine z hz))
      exact ⟨hzp ▸ hl, n, r, x, h1, h2, h3, h4, h5.trans e⟩
    · have htp : t.2.pred = y.pred := ((fine_pf j.fok.len (tf t ht)).inj hyf e).1
      have hl := tl t ht
      obtain ⟨n, r, hr, hq, hs, he⟩ := mem_told.1 ht
      unfold stepsF at hs
      obtain ⟨v, hv, ev⟩ := List.mem_map.1 hs
      obtain ⟨v1, v2⟩ := List.mem_filter.1 hv
      rw [Bool.and_eq_true] at v2
      have hvv : t.1.vars = v := by rw [← ev]
      rw [hvv] at he
      obtain ⟨n', r', x', h1, h2, h3, h4, h5⟩ := hold t.2 ⟨n, r, v, hr, mem_vecs.1 v1, v2.1, v2.2, by rw [he]⟩ (Int.le_of_eq hl) (fine_pf j.fok.len (tf t ht))
      exact ⟨by rw [← htp]; exact Int.le_of_eq hl, n', r', x', h1, h2, h3, h4, h5.trans e⟩
  refine ⟨okg, fun s hs => ?_, fun y hy => (hmem y hy).1, fun y hy => (hmem y hy).2⟩
  exact turn_still rk hM j.fok okg (fun y hy hl => hoff y hy (by omega)) (j.still s hs)
theorem modK_mj (h0 : FOk p.preds.xs []) : ∀ {k : Nat} {f : List Fct} {rs : List Int}, ModK p M k f rs → MJ p M k f
  | 0, f, _, ⟨h, _⟩ => by subst h; exact ⟨h0, fun s hs => by omega, fun y hy => by simp at hy, fun y hy => by simp at hy⟩
  | k + 1, f, _, ⟨f0, r0, n, a, b, _⟩ => by
    have j := modK_mj h0 a
    have j2 : MJ p M k f := b.inv (J := MJ p M k) j fun g hg _ => mj_next rk hM hg
    refine ⟨j2.fok, fun s hs => ?_, fun y hy => by have := j2.lev y hy; omega, j2.told⟩
    rcases Nat.lt_succ_iff_lt_or_eq.1 hs with h | rfl
    · exact j2.still s h
    · exact b.end_
end
/-! ### In whatever order -/
end Go.TF
end
section
/- Only what is new is used, and the same follows: plain. -/
namespace Go.TF
open Go

def newB (p : Prg) (M : List Int) (st : Int) (fr : List Fct) (s : Stp) : Bool := (p.rules.xs.getD s.rule.toNat default).body.xs.any fun x => !x.neg && decide (lv M x.atom.pred = st) && isF fr (groundF x.atom s.vars)
def freshF (f g : List Fct) : List Fct := g.filter fun x => decide (lkF f (placeF x) ≠ some x.v)
def semiQ (p : Prg) (M : List Int) (st : Int) (b : Bool) (fr : List Fct) (t : Stp × Fct) : Bool := b || newB p M st fr t.1
def semiL (p : Prg) (M : List Int) (st : Int) (b : Bool) (fr f : List Fct) : List (Stp × Fct) := (toldL p.preds.xs f p.rules.xs (ofQ p M st)).filter (semiQ p M st b fr)
def semiT (p : Prg) (M : List Int) (st : Int) (b : Bool) (fr f : List Fct) : List Fct := (turnL p.preds.xs f (semiL p M st b fr f)).1
inductive SClo (p : Prg) (M : List Int) (st : Int) : Bool → List Fct → List Fct → List Fct → Nat → Prop
  | stop {b : Bool} {fr f g : List Fct} {n : Nat} (hg : semiT p M st b fr f = g) (hn : (semiL p M st b fr f).length = n) (h : freshF f g = []) : SClo p M st b fr f g n
  | step {b : Bool} {fr f g r : List Fct} {n m : Nat} (hg : semiT p M st b fr f = g) (hn : (semiL p M st b fr f).length = n) (h : freshF f g ≠ []) (c : SClo p M st false (freshF f g) g r m) : SClo p M st b fr f r (n + m)
theorem SClo.uniq {p : Prg} {M : List Int} {st : Int} {b : Bool} {fr f r : List Fct} {n : Nat} (h : SClo p M st b fr f r n) : ∀ {r' : List Fct} {n' : Nat}, SClo p M st b fr f r' n' → r' = r ∧ n' = n := by
  induction h with
  | stop hg hn h =>
    intro r' n' h'
    cases h' with
    | stop hg' hn' h' => exact ⟨hg'.symm.trans hg, hn'.symm.trans hn⟩
    | step hg' hn' h' c' => exact absurd (hg.symm.trans hg' ▸ h) h'
  | step hg hn h c ih =>
    intro r' n' h'
    cases h' with
    | stop hg' hn' h' => exact absurd (hg'.symm.trans hg ▸ h') h
    | step hg' hn' h' c' =>
      have e := hg'.symm.trans hg
      subst e
      obtain ⟨rfl, rfl⟩ := ih c'
      exact ⟨rfl, by rw [← hn, ← hn']⟩
def SCloB (p : Prg) (M : List Int) (st : Int) (f0 : List Fct) (k : Nat) (b : Bool) (fr f : List Fct) : Prop := ∀ r n, SClo p M st b fr f r n → SClo p M st true [] f0 r (k + n)
theorem SCloB.zero {p : Prg} {M : List Int} {st : Int} {f : List Fct} : SCloB p M st f 0 true [] f := fun r n h => by rw [Nat.zero_add]; exact h
theorem SCloB.next {p : Prg} {M : List Int} {st : Int} {f0 fr f g : List Fct} {k n : Nat} {b : Bool} (h : SCloB p M st f0 k b fr f) (hg : semiT p M st b fr f = g) (hn : (semiL p M st b fr f).length = n) (hf : freshF f g ≠ []) : SCloB p M st f0 (k + n) false (freshF f g) g := fun r m c => by
  rw [Nat.add_assoc]; exact h r (n + m) (.step hg hn hf c)
theorem SCloB.done {p : Prg} {M : List Int} {st : Int} {f0 fr f g : List Fct} {k n : Nat} {b : Bool} (h : SCloB p M st f0 k b fr f) (hg : semiT p M st b fr f = g) (hn : (semiL p M st b fr f).length = n) (hf : freshF f g = []) : SClo p M st true [] f0 g (k + n) := h g n (.stop hg hn hf)
def SemK (p : Prg) (M : List Int) : Nat → List Fct → Nat → Prop
  | 0, f, c => f = [] ∧ c = 0
  | k + 1, f, c => ∃ f0 c0 c1, SemK p M k f0 c0 ∧ SClo p M k true [] f0 f c1 ∧ c = c0 + c1
theorem SemK.uniq {p : Prg} {M : List Int} : ∀ {k : Nat} {f f' : List Fct} {c c' : Nat}, SemK p M k f c → SemK p M k f' c' → f' = f ∧ c' = c
  | 0, _, _, _, _, ⟨h1, h2⟩, ⟨h3, h4⟩ => ⟨h3.trans h1.symm, h4.trans h2.symm⟩
  | k + 1, _, _, _, _, ⟨f0, r0, n, a, b, c⟩, ⟨f0', r0', n', a', b', c'⟩ => by
    obtain ⟨rfl, rfl⟩ := SemK.uniq a a'
    obtain ⟨rfl, rfl⟩ := b.uniq b'
    exact ⟨rfl, c'.trans c.symm⟩
theorem fresh_nil {l : List Prd} {f g : List Fct} (okf : FOk l f) (okg : FOk l g) (hu : underF l f g = true) (h : freshF f g = []) : g = f := by
  refine under_anti okg okf (underF_iff.2 fun x hx => ?_) hu
  have : ¬ (lkF f (placeF x) ≠ some x.v) := fun hne => by
    have hm : x ∈ freshF f g := List.mem_filter.2 ⟨hx, decide_eq_true hne⟩
    rw [h] at hm; cases hm
  exact ⟨x.v, Decidable.not_not.1 this, joinV_idem (fine_v (okg.fine x hx))⟩
theorem fresh_self {l : List Prd} {f : List Fct} (okf : FOk l f) : freshF f f = [] := by
  unfold freshF
  rw [List.filter_eq_nil_iff]
  intro x hx
  simp [lkF_of_mem okf.srt hx]
structure SInv (p : Prg) (M : List Int) (st : Int) (b : Bool) (fr f : List Fct) : Prop where
  fok : FOk p.preds.xs f
  was : b = false → ∃ f', FOk p.preds.xs f' ∧ SameLv M (· ≠ st) f' f ∧ fr = freshF f' f ∧ ∀ t ∈ toldL p.preds.xs f' p.rules.xs (ofQ p M st), underF p.preds.xs [t.2] f = true
section
variable {p : Prg} {M : List Int} (rk : ∀ r ∈ p.rules.xs, ROk p.preds.xs r) (hM : Sol (usesL p.rules.xs) p.preds.xs.length M)
include rk hM
end
end Go.TF
end
section
/- The laws of a round, the other two: each returns true. -/
namespace Go.TF
open Go Go.RowKit Go.Proofs
set_option maxRecDepth 20000

def sumN (L : List Int) : Nat := (L.map Int.toNat).sum
theorem sum_min : ∀ (L M : List Int), L.length = M.length → (∀ x ∈ L, 0 ≤ x) → (∀ x ∈ M, 0 ≤ x) → sumN (List.zipWith min L M) ≤ sumN L ∧ (sumN (List.zipWith min L M) = sumN L → ∀ (j : Nat) (h1 : j < L.length) (h2 : j < M.length), L[j] ≤ M[j])
  | [], _, _, _, _ => ⟨by simp [sumN], fun _ j h1 => by simp at h1⟩
  | _ :: _, [], h, _, _ => by simp at h
  | a :: L, b :: M, h, hp, hp2 => by
    obtain ⟨i1, i2⟩ := sum_min L M (by simpa using h) (fun x hx => hp x (List.mem_cons_of_mem _ hx)) fun x hx => hp2 x (List.mem_cons_of_mem _ hx)
    have hb := hp2 b List.mem_cons_self
    have ha := hp a List.mem_cons_self
    have e1 : sumN (List.zipWith min (a :: L) (b :: M)) = (min a b).toNat + sumN (List.zipWith min L M) := by simp [sumN]
    have e2 : sumN (a :: L) = a.toNat + sumN L := by simp [sumN]
    rw [e1, e2]
    refine ⟨by omega, fun e j h1 h2 => ?_⟩
    cases j with
    | zero => show a ≤ b; omega
    | succ j => exact i2 (by omega) j (by simpa using h1) (by simpa using h2)
theorem least_ex {cs : List (Int × Ltl)} {n : Nat} {M0 : List Int} (h0 : Sol cs n M0) : ∃ L, Least cs n L := by
  have hmin : ∀ k : Nat, ∀ L, Sol cs n L → sumN L = k → ∃ L, Sol cs n L ∧ ∀ M, Sol cs n M → sumN L ≤ sumN M := by
    intro k
    induction k using Nat.strongRecOn with
    | ind k ih =>
      intro L hL hk
      by_cases hx : ∃ M, Sol cs n M ∧ sumN M < k
      · obtain ⟨M, hM, hlt⟩ := hx
        exact ih _ hlt M hM rfl
      · refine ⟨L, hL, fun M hM => ?_⟩
        rcases Nat.lt_or_ge (sumN M) k with h | h
        · exact absurd ⟨M, hM, h⟩ hx
        · omega
  obtain ⟨L, hL, hm⟩ := hmin _ M0 h0 rfl
  refine ⟨L, hL, fun M hM i => ?_⟩
  have hlv : ∀ i, lv (List.zipWith min L M) i = min (lv L i) (lv M i) := fun i => by
    simp only [lv, List.getD_eq_getElem?_getD, List.getElem?_zipWith]
    by_cases hi : i.toNat < n
    · rw [List.getElem?_eq_getElem (by rw [hL.len]; exact hi), List.getElem?_eq_getElem (by rw [hM.len]; exact hi)]; rfl
    · rw [List.getElem?_eq_none (by rw [hL.len]; omega), List.getElem?_eq_none (by rw [hM.len]; omega)]; rfl
  have hS : Sol cs n (List.zipWith min L M) := by
    refine ⟨by rw [List.length_zipWith, hL.len, hM.len, Nat.min_self], fun i => ?_, fun c hc => ?_⟩
    · rw [hlv]; have := hL.pos i; have := hM.pos i; omega
    · have h1 := hL.sat c hc
      have h2 := hM.sat c hc
      unfold SatC lst at *
      rw [hlv, hlv]; omega
  have hnn : ∀ K, Sol cs n K → ∀ x ∈ K, 0 ≤ x := fun K hK x hx => by
    obtain ⟨j, hj, rfl⟩ := List.getElem_of_mem hx
    have := hK.pos j
    rw [lv_get hj] at this; exact this
  obtain ⟨s1, s2⟩ := sum_min L M (hL.len.trans hM.len.symm) (hnn L hL) (hnn M hM)
  have := s2 (Nat.le_antisymm s1 (hm _ hS))
  by_cases hi : i.toNat < n
  · simp only [lv, List.getD_eq_getElem?_getD]
    rw [List.getElem?_eq_getElem (by rw [hL.len]; exact hi), List.getElem?_eq_getElem (by rw [hM.len]; exact hi)]
    exact this _ _ _
  · simp only [lv, List.getD_eq_getElem?_getD]
    rw [List.getElem?_eq_none (by rw [hL.len]; omega), List.getElem?_eq_none (by rw [hM.len]; omega)]; exact Int.le_refl _
theorem strataM_least {p : Prg} (h : checkProg p = 0) : Least (usesL p.rules.xs) p.preds.xs.length (strataM p) := by
  obtain ⟨_, _, _, M, hM⟩ := checkProg_ok h
  obtain ⟨L, hL⟩ := least_ex hM
  rw [strataM_eq hL]; exact hL
theorem least_lt {cs : List (Int × Ltl)} {n : Nat} {L : List Int} (hr : InR cs n) (h : Least cs n L) {i : Int} (h0 : 0 ≤ i) (h1 : i < n) : lv L i < n := by
  obtain ⟨M', hM', hlt⟩ := h.sol.small hr
  exact Int.lt_of_le_of_lt (h.least M' hM' i) (hlt i h0 h1)
end Go.TF
end
section
/- A program of some of another's rules: right too, no stratum greater; what is needed follows alike: plain. -/
namespace Go.TF
open Go

theorem chk_preds {p : Prg} (h : checkProg p = 0) : ∀ x ∈ p.preds.xs, predFine x = true := by
  unfold checkProg at h
  split at h
  · cases h
  split at h
  · cases h
  split at h
  · cases h
  split at h
  · cases h
  split at h
  · cases h
  rename_i h1 h2 h3 h4 h5
  intro x hx
  have a : badArity x ≠ true := fun e => h4 (List.any_eq_true.2 ⟨x, hx, e⟩)
  have b : badKind x ≠ true := fun e => h5 (List.any_eq_true.2 ⟨x, hx, e⟩)
  simp only [badArity, badKind, ne_eq, decide_eq_true_eq, not_or, Int.not_lt] at a b
  simp only [predFine, decide_eq_true_eq]
  omega
theorem chk_nil {p : Prg} (h : checkProg p = 0) : FOk p.preds.xs [] := fok_nil (checkProg_ok h).1 (chk_preds h)
theorem chk_rok {p : Prg} (h : checkProg p = 0) : ∀ r ∈ p.rules.xs, ROk p.preds.xs r := rules_rok h (chk_nil h)
theorem sol_sub {rs rs' : List Rul} {n : Nat} {K : List Int} (hR : ∀ r, r ∈ rs' → r ∈ rs) (h : Sol (usesL rs) n K) : Sol (usesL rs') n K := ⟨h.len, h.pos, fun c hc => by
  unfold usesL at hc
  obtain ⟨r, hr, hc⟩ := List.mem_flatMap.1 hc
  obtain ⟨x, hx, rfl⟩ := List.mem_map.1 hc
  exact h.sat _ (mem_uses (hR r hr) hx)⟩
/-- No stratum is greater. -/
theorem strata_sub {p q : Prg} (hp : q.preds.xs = p.preds.xs) (hR : ∀ r, r ∈ q.rules.xs → r ∈ p.rules.xs) (h : checkProg p = 0) (h2 : checkProg q = 0) (i : Int) : lv (strataM q) i ≤ lv (strataM p) i :=
  (strataM_least h2).least _ (by rw [hp]; exact sol_sub hR (strataM_least h).sol) i
theorem most_sub {K M : List Int} (hl : K.length = M.length) (h : ∀ i, lv K i ≤ lv M i) : mostL K ≤ mostL M := by
  rcases mostL_of K with e | e
  · rw [e]; exact mostL_ge M
  · obtain ⟨j, hj, e⟩ := List.getElem_of_mem e
    have h1 := h j
    rw [lv_get hj, lv_get (hl ▸ hj), e] at h1
    exact Int.le_trans h1 (mostL_mem (List.getElem_mem _))
/-! ### Only what is needed -/
section
variable {l : List Prd} {N : List Bool}
def nd (N : List Bool) (x : Fct) : Bool := bv N x.pred
theorem addF_front {k : Int} {x : Fct} : ∀ {g : List Fct}, (∀ z ∈ g, placeF x < placeF z) → (addF k g x).1 = x :: g
  | [], _ => rfl
  | z :: g, h => by
    have := h z List.mem_cons_self
    rw [addF, if_neg (by omega), if_pos this]
theorem nd_add {k : Int} {x : Fct} : ∀ {f : List Fct}, SrtF f → (∀ y ∈ f, placeF y = placeF x → y.pred = x.pred) → (addF k f x).1.filter (nd N) = if nd N x = true then (addF k (f.filter (nd N)) x).1 else f.filter (nd N)
  | [], _, _ => by
    rw [addF]
    cases h : nd N x <;> simp [h, addF]
  | y :: r, hs, hx => by
    obtain ⟨s1, s2⟩ := List.pairwise_cons.1 hs
    have ih := nd_add (k := k) (x := x) s2 fun z hz => hx z (List.mem_cons_of_mem _ hz)
    rw [addF]
    split
    · rename_i e
      have hp := hx y List.mem_cons_self e
      have hy : nd N y = nd N x := by unfold nd; rw [hp]
      have hy2 : nd N (⟨y.pred, y.a, y.b, joinV k y.v x.v⟩ : Fct) = nd N x := hy
      cases h : nd N x
      · simp [hy, hy2, h]
      · rw [List.filter_cons, if_pos (by rw [hy2, h]), if_pos rfl, List.filter_cons, if_pos (by rw [hy, h]), addF, if_pos e]
    · rename_i e
      split
      · rename_i e2
        cases h : nd N x
        · simp [h]
        · rw [List.filter_cons, if_pos h, if_pos rfl, addF_front]
          intro z hz
          obtain ⟨hz, _⟩ := List.mem_filter.1 hz
          rcases List.mem_cons.1 hz with rfl | hz
          · exact e2
          · exact Int.lt_trans e2 (s1 z hz)
      · rename_i e2
        show (y :: (addF k r x).1).filter _ = _
        rw [List.filter_cons, ih]
        cases h : nd N x
        · simp only [Bool.false_eq_true, if_false]
          rw [List.filter_cons]
        · simp only [if_true]
          cases hy : nd N y
          · simp [hy]
          · rw [if_pos rfl, List.filter_cons, if_pos hy, addF, if_neg e, if_neg e2]
theorem nd_fok {f : List Fct} (h : FOk l f) : FOk l (f.filter (nd N)) := ⟨h.len, h.preds, fun x hx => h.fine x (List.mem_filter.1 hx).1, h.srt.sublist List.filter_sublist⟩
theorem nd_look {f : List Fct} (h : FOk l f) {y : Fct} (hy : PF y) (hn : nd N y = true) : lkF (f.filter (nd N)) (placeF y) = lkF f (placeF y) := by
  have ho := nd_fok (N := N) h
  cases hl : lkF f (placeF y) with
  | none =>
    refine lkF_none.2 fun z hz => lkF_none.1 hl z (List.mem_filter.1 hz).1
  | some v =>
    obtain ⟨z, hz, e, ev⟩ := lkF_mem hl
    refine (lkF_some ho.srt).2 ⟨z, List.mem_filter.2 ⟨hz, ?_⟩, e, ev⟩
    have := ((fine_pf h.len (h.fine z hz)).inj hy e).1
    unfold nd at hn ⊢
    rw [this]; exact hn
theorem nd_run : ∀ (ts : List (Stp × Fct)) (s : List Fct × Bool), FOk l s.1 → (∀ t ∈ ts, factFine l t.2 = true) → ∀ b, (runL l s ts).1.filter (nd N) = (runL l (s.1.filter (nd N), b) (ts.filter fun t => nd N t.2)).1
  | [], s, _, _, b => rfl
  | t :: ts, s, hs, hf, b => by
    have hx := hf t List.mem_cons_self
    have ih := nd_run ts (putS l s t.2) (addF_fok hs hx) fun u hu => hf u (List.mem_cons_of_mem _ hu)
    have hadd := nd_add (N := N) (k := (predOf l t.2.pred).kind) (x := t.2) hs.srt fun y hy e => same_pred hs.len (hs.fine y hy) hx e
    show (runL l (putS l s t.2) ts).1.filter _ = _
    cases h : nd N t.2
    · rw [List.filter_cons, if_neg (by rw [h]; decide), ih b]
      rw [h] at hadd
      rw [show (putS l s t.2).1.filter (nd N) = s.1.filter (nd N) from hadd]
    · rw [List.filter_cons, if_pos h]
      rw [h] at hadd
      show _ = (runL l (putS l (s.1.filter (nd N), b) t.2) _).1
      rw [ih (putS l (s.1.filter (nd N), b) t.2).2]
      rw [show (putS l s t.2).1.filter (nd N) = (putS l (s.1.filter (nd N), b) t.2).1 from hadd]
end
structure Only (p q : Prg) (N : List Bool) : Prop where
  preds : q.preds.xs = p.preds.xs
  rules : ∀ r, r ∈ q.rules.xs ↔ r ∈ p.rules.xs ∧ bv N r.head.pred = true
  cp : checkProg p = 0
  cq : checkProg q = 0
  closed : ClosedN (usesL p.rules.xs) N
section
variable {p q : Prg} {N : List Bool} (o : Only p q N)
include o
theorem Only.sub : ∀ r, r ∈ q.rules.xs → r ∈ p.rules.xs := fun r hr => ((o.rules r).1 hr).1
theorem Only.body {r : Rul} (hr : r ∈ p.rules.xs) (hn : bv N r.head.pred = true) {x : Ltl} (hx : x ∈ r.body.xs) : bv N x.atom.pred = true := o.closed _ (mem_uses hr hx) hn
theorem Only.lv {i : Int} (hn : bv N i = true) : lv (strataM q) i = lv (strataM p) i := by
  have hle := strata_sub o.preds o.sub o.cp o.cq
  refine Int.le_antisymm (hle i) ?_
  have hLp := strataM_least o.cp
  have hLq := strataM_least o.cq
  rw [o.preds] at hLq
  have hcomb : ∃ L : List Int, L.length = p.preds.xs.length ∧ ∀ i, Go.TF.lv L i = if bv N i = true then Go.TF.lv (strataM q) i else Go.TF.lv (strataM p) i := by
    refine ⟨(List.range p.preds.xs.length).map fun (j : Nat) => if bv N j = true then Go.TF.lv (strataM q) j else Go.TF.lv (strataM p) j, by simp, fun i => ?_⟩
    have hbv : bv N i = bv N (i.toNat : Int) := rfl
    have hlq : Go.TF.lv (strataM q) i = Go.TF.lv (strataM q) (i.toNat : Int) := rfl
    have hlp : Go.TF.lv (strataM p) i = Go.TF.lv (strataM p) (i.toNat : Int) := rfl
    rw [hbv, hlq, hlp]
    show (List.map _ _).getD i.toNat 0 = _
    generalize i.toNat = j
    by_cases hi : j < p.preds.xs.length
    · rw [List.getD_eq_getElem?_getD, List.getElem?_map, List.getElem?_range hi]; rfl
    · have e1 : Go.TF.lv (strataM q) (j : Int) = 0 := by unfold Go.TF.lv; rw [List.getD_eq_getElem?_getD, List.getElem?_eq_none (by rw [hLq.sol.len, Int.toNat_natCast]; omega)]; rfl
      have e2 : Go.TF.lv (strataM p) (j : Int) = 0 := by unfold Go.TF.lv; rw [List.getD_eq_getElem?_getD, List.getElem?_eq_none (by rw [hLp.sol.len, Int.toNat_natCast]; omega)]; rfl
      rw [e1, e2, List.getD_eq_getElem?_getD, List.getElem?_eq_none (by rw [List.length_map, List.length_range]; omega)]
      split <;> rfl
  obtain ⟨L, h1, h2⟩ := hcomb
  have hS : Sol (usesL p.rules.xs) p.preds.xs.length L := by
    refine ⟨h1, fun i => ?_, fun c hc => ?_⟩
    · rw [h2]; split
      · exact hLq.sol.pos i
      · exact hLp.sol.pos i
    · unfold usesL at hc
      obtain ⟨r, hr, hc⟩ := List.mem_flatMap.1 hc
      obtain ⟨x, hx, rfl⟩ := List.mem_map.1 hc
      unfold SatC lst
      dsimp only
      rw [h2, h2]
      by_cases hn : bv N r.head.pred = true
      · rw [if_pos hn, if_pos (o.body hr hn hx)]
        exact hLq.sol.sat _ (mem_uses ((o.rules r).2 ⟨hr, hn⟩) hx)
      · rw [if_neg hn]
        have h3 := hLp.sol.sat _ (mem_uses hr hx)
        unfold SatC lst at h3
        dsimp only at h3
        split
        · have := hle x.atom.pred; omega
        · exact h3
  have := hLp.least L hS i
  rw [h2, if_pos hn] at this
  exact this
theorem Only.hold {f : List Fct} (okf : FOk p.preds.xs f) {r : Rul} (hr : r ∈ p.rules.xs) (hn : bv N r.head.pred = true) {x : Vrs} (hx : VsOk x) : holdsB (f.filter (nd N)) r x = holdsB f r x ∧ headF p.preds.xs (f.filter (nd N)) r x = headF p.preds.xs f r x := by
  have rk := chk_rok o.cp
  have hlit : ∀ t ∈ r.body.xs, lkF (f.filter (nd N)) (placeF (groundF t.atom x)) = lkF f (placeF (groundF t.atom x)) := fun t ht => by
    have ao := aok_of (rk r hr).preds ((rk r hr).body t ht)
    exact nd_look okf (ao.pf (rk r hr).five hx 0) (o.body hr hn ht)
  constructor
  · unfold holdsB
    rw [Bool.eq_iff_iff, List.all_eq_true, List.all_eq_true]
    have key : ∀ t ∈ r.body.xs, litOk (f.filter (nd N)) x t = litOk f x t := fun t ht => by unfold litOk isF; rw [hlit t ht]
    exact ⟨fun h t ht => (key t ht) ▸ h t ht, fun h t ht => (key t ht).symm ▸ h t ht⟩
  · unfold headF headV
    by_cases h0 : 0 ≤ r.src
    · rw [if_pos h0, if_pos h0, hlit _ (litOf_mem ⟨h0, (rk r hr).src.2⟩)]
    · rw [if_neg h0, if_neg h0]
theorem Only.told {f : List Fct} (okf : FOk p.preds.xs f) (s : Int) (y : Fct) : (∃ t ∈ toldL q.preds.xs (f.filter (nd N)) q.rules.xs (ofQ q (strataM q) s), t.2 = y) ↔ ∃ t ∈ toldL p.preds.xs f p.rules.xs (ofQ p (strataM p) s), t.2 = y ∧ nd N y = true := by
  constructor
  · rintro ⟨t, ht, rfl⟩
    obtain ⟨n, r, hr, hq, hs, he⟩ := mem_told.1 ht
    obtain ⟨hrp, hn⟩ := (o.rules r).1 (List.mem_of_getElem? hr)
    obtain ⟨m, hm, em⟩ := List.getElem_of_mem hrp
    have hm' : p.rules.xs[m]? = some r := by rw [List.getElem?_eq_getElem hm, em]
    have hlv := (ofQ_iff hr).1 hq
    rw [o.lv hn] at hlv
    unfold stepsF at hs
    obtain ⟨v, hv, ev⟩ := List.mem_map.1 hs
    obtain ⟨v1, v2⟩ := List.mem_filter.1 hv
    have hh := o.hold okf hrp hn (mem_vecs.1 v1)
    have hvv : t.1.vars = v := by rw [← ev]
    refine ⟨(⟨(m : Int), v⟩, t.2), mem_told.2 ⟨m, r, hm', (ofQ_iff hm').2 hlv, ?_, ?_⟩, rfl, ?_⟩
    · unfold stepsF; exact List.mem_map.2 ⟨v, List.mem_filter.2 ⟨v1, by rw [← hh.1]; exact v2⟩, rfl⟩
    · rw [he, hvv, o.preds]; exact hh.2
    · rw [he]; exact hn
  · rintro ⟨t, ht, rfl, hn⟩
    obtain ⟨n, r, hr, hq, hs, he⟩ := mem_told.1 ht
    have hrp := List.mem_of_getElem? hr
    have hn : bv N r.head.pred = true := by rw [he] at hn; exact hn
    obtain ⟨m, hm, em⟩ := List.getElem_of_mem ((o.rules r).2 ⟨hrp, hn⟩)
    have hm' : q.rules.xs[m]? = some r := by rw [List.getElem?_eq_getElem hm, em]
    have hlv := (ofQ_iff hr).1 hq
    rw [← o.lv hn] at hlv
    unfold stepsF at hs
    obtain ⟨v, hv, ev⟩ := List.mem_map.1 hs
    obtain ⟨v1, v2⟩ := List.mem_filter.1 hv
    have hh := o.hold okf hrp hn (mem_vecs.1 v1)
    have hvv : t.1.vars = v := by rw [← ev]
    refine ⟨(⟨(m : Int), v⟩, t.2), mem_told.2 ⟨m, r, hm', (ofQ_iff hm').2 hlv, ?_, ?_⟩, rfl⟩
    · unfold stepsF; exact List.mem_map.2 ⟨v, List.mem_filter.2 ⟨v1, by rw [hh.1]; exact v2⟩, rfl⟩
    · rw [he, hvv, o.preds]; exact hh.2.symm
theorem Only.turn {f : List Fct} (okf : FOk p.preds.xs f) (s : Int) : (turnT q (strataM q) s (f.filter (nd N))).1 = (turnT p (strataM p) s f).1.filter (nd N) := by
  have rk := chk_rok o.cp
  have rkq := chk_rok o.cq
  rw [o.preds] at rkq
  have okF := nd_fok (N := N) okf
  have tp := told_fine (q := ofQ p (strataM p) s) rk okf
  have tq : ∀ t ∈ toldL q.preds.xs (f.filter (nd N)) q.rules.xs (ofQ q (strataM q) s), factFine p.preds.xs t.2 = true := by rw [o.preds]; exact told_fine rkq okF
  have e := nd_run (N := N) _ (f, false) okf tp false
  show (runL q.preds.xs (f.filter (nd N), false) _).1 = (runL p.preds.xs (f, false) _).1.filter (nd N)
  rw [e]
  have t2 : ∀ t ∈ (toldL p.preds.xs f p.rules.xs (ofQ p (strataM p) s)).filter (fun t => nd N t.2), factFine p.preds.xs t.2 = true := fun t ht => tp t (List.mem_filter.1 ht).1
  have r1 := run_up _ (f.filter (nd N), false) okF tq
  have r2 := run_up _ (f.filter (nd N), false) okF t2
  have hpq : runL q.preds.xs = runL p.preds.xs := by rw [o.preds]
  rw [hpq]
  refine under_anti r1.fok r2.fok (run_least r2.fok _ (f.filter (nd N), false) okF tq r2.up fun t ht => ?_) (run_least r1.fok _ (f.filter (nd N), false) okF t2 r1.up fun t ht => ?_)
  · obtain ⟨u, hu, e1, e2⟩ := (o.told okf s t.2).1 ⟨t, ht, rfl⟩
    rw [← e1]
    exact r2.each u (List.mem_filter.2 ⟨hu, by rw [e1]; exact e2⟩)
  · obtain ⟨h1, h2⟩ := List.mem_filter.1 ht
    obtain ⟨u, hu, e1⟩ := (o.told okf s t.2).2 ⟨t, h1, rfl, h2⟩
    rw [← e1]
    exact r1.each u hu
theorem Only.clo {s : Int} {f r : List Fct} {n : Nat} (h : Clo (turnT p (strataM p) s) f r n) : FOk p.preds.xs f → ∃ m, Clo (turnT q (strataM q) s) (f.filter (nd N)) (r.filter (nd N)) m := by
  have rk := chk_rok o.cp
  have rkq := chk_rok o.cq
  have chg : ∀ g, FOk p.preds.xs g → (turnT q (strataM q) s (g.filter (nd N))).2 = decide ((turnT q (strataM q) s (g.filter (nd N))).1 ≠ g.filter (nd N)) := fun g okg => turn_chg (by rw [o.preds]; exact nd_fok okg) (told_fine rkq (by rw [o.preds]; exact nd_fok okg))
  induction h with
  | @stop f h =>
    intro okf
    refine ⟨0, .stop ?_⟩
    rw [chg f okf, o.turn okf]
    have h1 : (turnT p (strataM p) s f).2 = decide ((turnT p (strataM p) s f).1 ≠ f) := turn_chg okf (told_fine rk okf)
    rw [h] at h1
    have h2 := of_decide_eq_false h1.symm
    rw [Decidable.not_not.1 h2]
    exact decide_eq_false fun hh => hh rfl
  | @step f r n h c ih =>
    intro okf
    obtain ⟨m, cm⟩ := ih (turn_fok okf (told_fine rk okf))
    rw [← o.turn okf] at cm
    cases hc : (turnT q (strataM q) s (f.filter (nd N))).2
    · have h1 := chg f okf
      rw [hc] at h1
      have h2 := Decidable.not_not.1 (of_decide_eq_false h1.symm)
      rw [h2] at cm
      exact ⟨m, cm⟩
    · exact ⟨m + 1, .step hc cm⟩
theorem Only.mod : ∀ {k : Nat} {f : List Fct} {rs : List Int}, ModK p (strataM p) k f rs → ∃ rs', ModK q (strataM q) k (f.filter (nd N)) rs'
  | 0, f, rs, ⟨h, _⟩ => ⟨[], by rw [h]; rfl, rfl⟩
  | k + 1, f, rs, ⟨f0, r0, n, a, b, _⟩ => by
    have j := modK_mj (chk_rok o.cp) (strataM_least o.cp).sol (chk_nil o.cp) a
    obtain ⟨rs', m⟩ := Only.mod a
    obtain ⟨n', c⟩ := o.clo b j.fok
    exact ⟨_, _, _, _, m, c, rfl⟩
theorem Only.most : numS (strataM q) ≤ numS (strataM p) := by
  have := most_sub (K := strataM q) (M := strataM p) (by rw [(strataM_least o.cq).sol.len, (strataM_least o.cp).sol.len, o.preds]) (strata_sub o.preds o.sub o.cp o.cq)
  unfold numS; omega
theorem Only.model {f g : List Fct} {rs rs' : List Int} (m : ModK p (strataM p) (numS (strataM p)) f rs) (m2 : ModK q (strataM q) (numS (strataM q)) g rs') : g = f.filter (nd N) := by
  obtain ⟨rs2, h⟩ := o.mod m
  have hLq := strataM_least o.cq
  have key : ∀ (d k : Nat), k = numS (strataM q) + d → ∀ {f rs}, ModK q (strataM q) k f rs → ∃ rs', ModK q (strataM q) (numS (strataM q)) f rs' := by
    intro d
    induction d with
    | zero => intro k hk f rs h; rw [hk] at h; exact ⟨rs, h⟩
    | succ d ih =>
      intro k hk f rs h
      rw [show k = (numS (strataM q) + d) + 1 by omega] at h
      obtain ⟨f0, r0, n, a, b, _⟩ := h
      have hno : ∀ g, (turnT q (strataM q) ((numS (strataM q) + d : Nat) : Int) g).2 = false := fun g => by
        have : toldL q.preds.xs g q.rules.xs (ofQ q (strataM q) ((numS (strataM q) + d : Nat) : Int)) = [] := by
          refine List.eq_nil_iff_forall_not_mem.2 fun t ht => ?_
          obtain ⟨n, r, hr, hq, _, _⟩ := mem_told.1 ht
          have e := (ofQ_iff hr).1 hq
          obtain ⟨_, _, k3, _, _⟩ := checkProg_ok o.cq
          obtain ⟨i0, i1⟩ := heads_in k3 r (List.mem_of_getElem? hr)
          have hlt : r.head.pred.toNat < (strataM q).length := by rw [hLq.sol.len]; omega
          have e2 := lv_get hlt
          rw [Int.toNat_of_nonneg i0] at e2
          have := mostL_mem (List.getElem_mem hlt)
          have := mostL_ge (strataM q)
          rw [e2] at e
          unfold numS at e
          omega
        unfold turnT
        rw [this]; rfl
      cases b with
      | stop _ => exact ih _ rfl a
      | step h2 _ => rw [hno] at h2; cases h2
  have hm := o.most
  obtain ⟨rs3, h3⟩ := key (numS (strataM p) - numS (strataM q)) _ (by omega) h
  exact ((h3.uniq m2).1)
end
end Go.TF
end
section
/- Naive: how many strata; rounds of each until none changes anything; and the document's. -/
namespace Go.TF
open Go Go.RowKit Go.Proofs
set_option maxRecDepth 20000

theorem mostL_take {L : List Int} {k : Nat} (hk : k < L.length) : mostL (L.take (k + 1)) = max (mostL (L.take k)) L[k] := by
  unfold mostL; rw [List.take_succ_eq_append_getElem hk, List.foldl_append]; rfl
theorem mostL_small {L : List Int} (h : ∀ x ∈ L, 0 ≤ x ∧ x ≤ 5) : mostL L ≤ 5 := by
  rcases mostL_of L with e | e
  · omega
  · exact (h _ e).2
theorem numS_eq (L : List Int) : ((numS L : Nat) : Int) = mostL L + 1 := by have := mostL_ge L; unfold numS; omega
theorem least_small {p : Prg} {L : List Int} (h : checkProg p = 0) (hL : Least (usesL p.rules.xs) p.preds.xs.length L) : ∀ x ∈ L, 0 ≤ x ∧ x ≤ 5 := fun x hx => by
  obtain ⟨k1, _, k3, _, _⟩ := checkProg_ok h
  obtain ⟨j, hj, rfl⟩ := List.getElem_of_mem hx
  have hl := hL.sol.len
  have h1 := hL.sol.pos j
  have h2 := least_lt (inR_of k3) hL (i := (j : Int)) (by omega) (by omega)
  rw [lv_get hj] at h1 h2
  omega
theorem NStrata_ok (B : Base) (hB : B.ok) (s : Sl Int) (hs : s.Is 1 iEnc B.h) (hb : ∀ x ∈ s.xs, 0 ≤ x ∧ x ≤ 5) : Fn Tryz.prog 62 [s.val] B (fun v _ => v = .int .i64 (numS s.xs : Nat)) := by
  have hsm := hs.small
  refine Fn.of Tryz.func62 rfl Tryz.ntmps62 (by kernel_rfl) (by simp) ?_
  intro e
  have I := Inv.start hB
  refine WP.seq ?_
  refine WP.region ?_
  refine Ops.y (v := .int .i64 _) (Y.assign rfl) ?_
  refine Ops.nil ?_
  refine WP.seq ?_
  refine WP.region ?_
  refine Ops.y (v := .int .i64 _) (Y.assign rfl) ?_
  refine Ops.nil ?_
  refine WP.seq ?_
  refine WP.seq ?_
  refine WP.region ?_
  refine Ops.y (v := .slice _ _ _) (Y.move rfl) ?_
  refine Ops.y (v := .int .i64 _) (Y.lens Tryz.underlying45 rfl) ?_
  refine Ops.y (v := .int .i64 _) (Y.move rfl) ?_
  refine Ops.nil ?_
  refine WP.block ?_
  refine WP.loopE (σ := Nat) (fun k => [(3, .int .i64 (mostL (s.xs.take k) + 1)), (6, s.val), (7, .int .i64 s.xs.length), (8, .int .i64 k)]) (fun k w => Inv B B.h [] w ∧ k ≤ s.xs.length) (fun k => s.xs.length - k)
    ⟨0, ⟨rfl, rfl, rfl, rfl, trivial⟩, I, Nat.zero_le _⟩ ?_
  rintro k e w ⟨I, hk⟩
  refine WP.seq ?_
  refine WP.region ?_
  refine Ops.y (v := .bool (decide _)) (Y.lti rfl rfl) ?_
  refine Ops.nil ?_
  refine WP.seq ?_
  refine WP.cond_dec rfl (fun h3 => ?_) (fun h3 => ?_)
  · have hk' : k < s.xs.length := by omega
    have E := hs.at hk'
    have hx := hb _ (List.getElem_mem hk')
    refine WP.skip ?_
    refine WP.seq ?_
    refine WP.block ?_
    refine WP.seq ?_
    refine WP.region ?_
    refine Ops.y (v := .pointer (some ⟨_, _, none⟩)) (Y.idxEl E Tryz.underlying45 Tryz.sizeOf3 rfl rfl (Int.natCast_nonneg _) rfl) ?_
    refine Ops.y (v := .int .i64 _) (Y.loadv ty_3 rfl (I.rd (E.rd.part 0 1)) rfl rfl) ?_
    refine Ops.y (v := .int .i64 _) (Y.assign rfl) ?_
    refine Ops.nil ?_
    refine WP.region ?_
    refine Ops.y (v := .int .i64 _) (Y.move rfl) ?_
    refine Ops.y (v := .int .i64 _) (Y.move rfl) ?_
    refine Ops.y (v := .int .i64 _) (Y.addi rfl rfl ⟨by omega, by omega⟩) ?_
    refine Ops.y (v := .int .i64 _) (Y.max2 rfl rfl) ?_
    refine Ops.y (v := .int .i64 _) (Y.assign rfl) ?_
    refine Ops.nil ?_
    refine WP.region ?_
    refine Ops.y (v := .int .i64 _) (Y.addi rfl rfl ⟨by omega, by omega⟩) ?_
    refine Ops.y (v := .int .i64 _) (Y.move rfl) ?_
    refine Ops.nil ?_
    exact ⟨k + 1, ⟨⟨congrArg (Value.int .i64) (by rw [mostL_take hk']; omega), rfl, rfl, rfl, trivial⟩, I, by omega⟩, by omega⟩
  obtain rfl : k = s.xs.length := by omega
  refine WP.exit ?_
  refine WP.seq ?_
  refine WP.region ?_
  refine Ops.y (v := .int .i64 _) (Y.move rfl) ?_
  refine Ops.y (v := .int .i64 _) (Y.assign rfl) ?_
  refine Ops.nil ?_
  refine WP.ret ?_
  repeat (first | refine thenE_ret ?_ | refine blockE_ret ?_)
  exact retQ.mk (vs := [.int .i64 _]) rfl ⟨rfl, trivial⟩ I.ext_of (by simp only [tup]; rw [List.take_length, numS_eq])
theorem most_ok (B : Base) (hB : B.ok) (s : Sl Int) (hs : s.Is 1 iEnc B.h) : Fn Tryz.prog 76 [s.val] B (fun v _ => v = .int .i64 (mostL s.xs)) := by
  have hsm := hs.small
  refine Fn.of Tryz.func76 rfl Tryz.ntmps76 (by kernel_rfl) (by simp) ?_
  intro e
  have I := Inv.start hB
  refine WP.seq ?_
  refine WP.region ?_
  refine Ops.y (v := .int .i64 _) (Y.assign rfl) ?_
  refine Ops.nil ?_
  refine WP.seq ?_
  refine WP.region ?_
  refine Ops.y (v := .int .i64 _) (Y.assign rfl) ?_
  refine Ops.nil ?_
  refine WP.seq ?_
  refine WP.seq ?_
  refine WP.region ?_
  refine Ops.y (v := .int .i64 _) (Y.assign rfl) ?_
  refine Ops.nil ?_
  refine WP.block ?_
  refine WP.loopE (σ := Nat) (fun k => [(0, s.val), (3, .int .i64 (mostL (s.xs.take k))), (4, .int .i64 k)]) (fun k w => Inv B B.h [] w ∧ k ≤ s.xs.length) (fun k => s.xs.length - k)
    ⟨0, ⟨rfl, rfl, rfl, trivial⟩, I, Nat.zero_le _⟩ ?_
  rintro k e w ⟨I, hk⟩
  refine WP.seq ?_
  refine WP.seq ?_
  refine WP.region ?_
  refine Ops.y (v := .int .i64 _) (Y.move rfl) ?_
  refine Ops.y (v := .slice _ _ _) (Y.move rfl) ?_
  refine Ops.y (v := .int .i64 _) (Y.lens Tryz.underlying45 rfl) ?_
  refine Ops.y (v := .bool (decide _)) (Y.lti rfl rfl) ?_
  refine Ops.nil ?_
  refine WP.cond_dec rfl (fun h3 => ?_) (fun h3 => ?_)
  · have hk' : k < s.xs.length := by omega
    have E := hs.at hk'
    refine WP.skip ?_
    refine WP.seq ?_
    refine WP.block ?_
    refine WP.region ?_
    refine Ops.y (v := .int .i64 _) (Y.move rfl) ?_
    refine Ops.y (v := .slice _ _ _) (Y.move rfl) ?_
    refine Ops.y (v := .int .i64 _) (Y.move rfl) ?_
    refine Ops.y (v := .pointer (some ⟨_, _, none⟩)) (Y.idxEl E Tryz.underlying45 Tryz.sizeOf3 rfl rfl (Int.natCast_nonneg _) rfl) ?_
    refine Ops.y (v := .int .i64 _) (Y.loadv ty_3 rfl (I.rd (E.rd.part 0 1)) rfl rfl) ?_
    refine Ops.y (v := .int .i64 _) (Y.max2 rfl rfl) ?_
    refine Ops.y (v := .int .i64 _) (Y.assign rfl) ?_
    refine Ops.nil ?_
    refine WP.region ?_
    refine Ops.y (v := .int .i64 _) (Y.move rfl) ?_
    refine Ops.y (v := .int .i64 _) (Y.addi rfl rfl ⟨by omega, by omega⟩) ?_
    refine Ops.y (v := .int .i64 _) (Y.assign rfl) ?_
    refine Ops.nil ?_
    exact ⟨k + 1, ⟨⟨rfl, congrArg (Value.int .i64) (by rw [mostL_take hk']), rfl, trivial⟩, I, by omega⟩, by omega⟩
  obtain rfl : k = s.xs.length := by omega
  refine WP.exit ?_
  refine WP.seq ?_
  refine WP.region ?_
  refine Ops.y (v := .int .i64 _) (Y.move rfl) ?_
  refine Ops.y (v := .int .i64 _) (Y.assign rfl) ?_
  refine Ops.nil ?_
  refine WP.ret ?_
  repeat (first | refine thenE_ret ?_ | refine blockE_ret ?_)
  exact retQ.mk (vs := [.int .i64 _]) rfl ⟨rfl, trivial⟩ I.ext_of (by simp only [tup]; rw [List.take_length])
def RecP (p : Prg) (v : Value) (h : Heap) : Prop := ∃ (s : Sl Fct) (r : Sl Int), v = .tuple #[s.val, r.val] ∧ Fcts s h ∧ r.Is 1 iEnc h ∧ ModK p (strataM p) (numS (strataM p)) s.xs r.xs
def RecO (h0 : Heap) (p : Prg) (v : Value) (h : Heap) : Prop := ∃ (s : Sl Fct) (r : Sl Int), v = .tuple #[s.val, r.val] ∧ Fcts s h ∧ r.Is 1 iEnc h ∧ ModK p (strataM p) (numS (strataM p)) s.xs r.xs ∧ OwnH 52 4 s Fct.enc h0 h
theorem RecO.rec {h0 h : Heap} {p : Prg} {v : Value} (x : RecO h0 p v h) : RecP p v h := by obtain ⟨s, r, a, b, c, d, _⟩ := x; exact ⟨s, r, a, b, c, d⟩
theorem PutO.mono {h0 : Heap} {r : List Fct × Bool} : MonoS (PutO h0 r) := fun _ _ _ hl ⟨s, a, b, c, d⟩ => ⟨s, a, b, c.le hl, d.le hl⟩
def SlO (h0 : Heap) (xs : List Fct) : Sp := fun v h => ∃ s : Sl Fct, v = s.val ∧ s.xs = xs ∧ Fcts s h ∧ OwnH 52 4 s Fct.enc h0 h
theorem SlO.mono {h0 : Heap} {xs : List Fct} : MonoS (SlO h0 xs) := fun _ _ _ hl ⟨s, a, b, c, d⟩ => ⟨s, a, b, c.le hl, d.le hl⟩
def MofP (p : Prg) (v : Value) (h : Heap) : Prop := ∃ (s : Sl Fct) (rs : List Int), v = s.val ∧ Fcts s h ∧ ModK p (strataM p) (numS (strataM p)) s.xs rs
def RofP (p : Prg) (v : Value) (h : Heap) : Prop := ∃ (r : Sl Int) (f : List Fct), v = r.val ∧ r.Is 1 iEnc h ∧ ModK p (strataM p) (numS (strataM p)) f r.xs
theorem MofP.mono {p : Prg} : MonoS (MofP p) := fun _ _ _ hl ⟨s, r, a, b, c⟩ => ⟨s, r, a, b.le hl, c⟩
theorem RofP.mono {p : Prg} : MonoS (RofP p) := fun _ _ _ hl ⟨s, r, a, b, c⟩ => ⟨s, r, a, b.le hl, c⟩
end Go.TF
end
section
/- Semi: is a literal of a step new; what is new of facts; the rounds. -/
namespace Go.TF
open Go Go.RowKit Go.Proofs
set_option maxRecDepth 20000

def newQ (M : List Int) (st : Int) (fr : List Fct) (x : Vrs) (l : Ltl) : Bool := !l.neg && decide (lv M l.atom.pred = st) && isF fr (groundF l.atom x)
@[reducible] def newsE (p : Prg) (s : Sl Int) (st : Int) (f : Sl Fct) : List Value := [p.preds.val, p.rules.val, s.val, .int .i64 st, f.val]
structure NewsAt (p : Prg) (s : Sl Int) (st : Int) (f : Sl Fct) (bn : Nat) (h : Heap) : Prop where
  at_ : Known h bn (newsE p s st f)
  p : p.In h
  s : s.Is 1 iEnc h
  f : Fcts f h
theorem NewsAt.le {p : Prg} {s : Sl Int} {st : Int} {f : Sl Fct} {bn : Nat} {h h' : Heap} (x : NewsAt p s st f bn h) (hl : h.le h') : NewsAt p s st f bn h' := ⟨x.at_.le hl, x.p.le hl, x.s.le hl, x.f.le hl⟩
theorem newsOf1_ok (p : Prg) (s : Sl Int) (st : Int) (f : Sl Fct) (bn b2 b3 : Nat) (x : Stp) (r : Rul) {h : Heap} (n : NewsAt p s st f bn h) (k2 : Known h b2 [.pointer (some ⟨bn, 0, none⟩)]) (k3 : Known h b3 x.enc) (hr : r ∈ p.rules.xs) (ok : ROk p.preds.xs r) (okf : FOk p.preds.xs f.xs) (hx : VsOk x.vars) (hl : s.xs.length = p.preds.xs.length) :
    PredFn Tryz.prog 134 [] [.pointer (some ⟨b2, 0, none⟩), .pointer (some ⟨b3, 0, none⟩)] h Ltl.val r.body.xs (newQ s.xs st f.xs x.vars) := by
  intro B hB hle l hlm
  have n := n.le hle
  have k2 := k2.le hle
  have k3 := k3.le hle
  have hla := (n.p.rules.each _ hr).body.each l hlm
  have ao := aok_of ok.preds (ok.body l hlm)
  have El1 := n.s.el.el (lv_some hl ao.pred.1 ao.pred.2)
  have pf := ao.pf ok.five hx 0
  show Fn Tryz.prog 134 [l.val, .pointer (some ⟨b2, 0, none⟩), .pointer (some ⟨b3, 0, none⟩)] B _
  refine Fn.of Tryz.func134 rfl Tryz.ntmps134 (by kernel_rfl) (by simp) ?_
  intro e
  have I := Inv.start hB
  refine WP.seq ?_
  refine WP.region ?_
  refine Ops.go (O.box (v := .agg #[_, _, _]) I rfl rfl ?_)
  intro b3 w I
  refine Ops.y (v := .bool _) (Y.assign rfl) ?_
  refine Ops.nil ?_
  cases hn : l.neg
  · by_cases hs : lv s.xs l.atom.pred = st
    · refine WP.seq ?_
      refine WP.seq ?_
      refine WP.regionQ mixed I (by kernel_rfl) ?_
      refine OpsQ.y (v := .pointer (some ⟨_, _, none⟩)) (fun w I => Y.fa0 fa_131_0 rfl) ?_
      refine OpsQ.y (v := .bool false) (fun w I => Y.b (Y.loadv ty_4 rfl (I.rdbox 0 rfl 0 1) rfl rfl) (hn)) ?_
      refine OpsQ.y (v := .bool _) (fun w I => Y.move rfl) ?_
      refine OpsQ.ygt rfl (v := .pointer (some ⟨_, _, none⟩)) (fun w I => Y.loadv ty_96 rfl (I.rd (k2.rd.part 0 1)) rfl rfl) ?_
      refine OpsQ.ygt rfl (v := .pointer (some ⟨_, _, none⟩)) (fun w I => Y.nilp rfl) ?_
      refine OpsQ.ygt rfl (v := .pointer (some ⟨_, _, none⟩)) (fun w I => Y.fa fa_98_1 rfl) ?_
      refine OpsQ.ygt rfl (v := .slice _ _ _) (fun w I => Y.loadv ty_45 rfl (I.rd (n.at_.rd.part 2 1)) rfl rfl) ?_
      refine OpsQ.ygt rfl (v := .pointer (some ⟨_, _, none⟩)) (fun w I => Y.fa fa_131_1 rfl) ?_
      refine OpsQ.ygt rfl (v := .pointer (some ⟨_, _, none⟩)) (fun w I => Y.fa0 fa_65_0 rfl) ?_
      refine OpsQ.ygt rfl (v := .int .i64 _) (fun w I => Y.loadv ty_3 rfl (I.rdbox 0 rfl 1 1) rfl rfl) ?_
      refine OpsQ.ygt rfl (v := .pointer (some ⟨_, _, none⟩)) (fun w I => Y.idxEl El1 Tryz.underlying45 Tryz.sizeOf3 rfl rfl ao.pred.1 rfl) ?_
      refine OpsQ.ygt rfl (v := .int .i64 _) (fun w I => Y.loadv ty_3 rfl (I.rd (El1.rd.part 0 1)) rfl rfl) ?_
      refine OpsQ.ygt rfl (v := .pointer (some ⟨_, _, none⟩)) (fun w I => Y.loadv ty_96 rfl (I.rd (k2.rd.part 0 1)) rfl rfl) ?_
      refine OpsQ.ygt rfl (v := .pointer (some ⟨_, _, none⟩)) (fun w I => Y.nilp rfl) ?_
      refine OpsQ.ygt rfl (v := .pointer (some ⟨_, _, none⟩)) (fun w I => Y.fa fa_98_2 rfl) ?_
      refine OpsQ.ygt rfl (v := .int .i64 _) (fun w I => Y.loadv ty_3 rfl (I.rd (n.at_.rd.part 3 1)) rfl rfl) ?_
      refine OpsQ.ygt rfl (v := .bool false) (fun w I => Y.dec_f (Y.nei rfl rfl) ((fun h => h hs))) ?_
      refine OpsQ.y (v := .bool _) (fun w I => Y.pick_f rfl rfl) ?_
      refine OpsQ.nil ?_
      intro w I
      refine WP.cond_f rfl ?_
      refine WP.skip ?_
      refine WP.seq ?_
      refine WP.regionQ mixed I (by kernel_rfl) ?_
      refine OpsQ.y (v := .pointer (some ⟨_, _, none⟩)) (fun w I => Y.loadv ty_96 rfl (I.rd (k2.rd.part 0 1)) rfl rfl) ?_
      refine OpsQ.y (v := .pointer (some ⟨_, _, none⟩)) (fun w I => Y.nilp rfl) ?_
      refine OpsQ.y (v := .pointer (some ⟨_, _, none⟩)) (fun w I => Y.fa fa_98_3 rfl) ?_
      refine OpsQ.y (v := .slice _ _ _) (fun w I => Y.loadv ty_26 rfl (I.rd (n.at_.rd.part 4 1)) rfl rfl) ?_
      refine OpsQ.y (v := .pointer (some ⟨_, _, none⟩)) (fun w I => Y.fa fa_131_1 rfl) ?_
      refine OpsQ.y (v := .agg #[_, _]) (fun w I => Y.loadv ty_65 rfl (I.rdbox 0 rfl 1 2) rfl rfl) ?_
      refine OpsQ.y (v := .pointer (some ⟨_, _, none⟩)) (fun w I => Y.fa fa_82_1 rfl) ?_
      refine OpsQ.y (v := .agg #[_, _, _]) (fun w I => Y.loadv ty_80 rfl (I.rd (k3.rd.part 1 3)) rfl rfl) ?_
      refine OpsQ.c (fun w I => QC.callv I Tryz.call135 (Of_ok _ I.base_ok l.atom hla x.vars ao.len ao.err) rfl) ?_
      refine OpsQ.c (fun w I => QC.callv I Tryz.call70 (Seek_ok _ I.base_ok f n.f (fun y hy => okf.pf y hy) okf.srt (groundF l.atom x.vars) pf) rfl) ?_
      refine OpsQ.y (v := .tuple #[_, _]) (fun w I => Y.move rfl) ?_
      refine OpsQ.y (v := .int .i64 _) (fun w I => Y.extract rfl rfl) ?_
      refine OpsQ.y (v := .bool _) (fun w I => Y.extract rfl rfl) ?_
      refine OpsQ.y (v := .int .i64 _) (fun w I => Y.assign rfl) ?_
      refine OpsQ.y (v := .bool _) (fun w I => Y.assign rfl) ?_
      refine OpsQ.nil ?_
      intro w I
      refine WP.seq ?_
      refine WP.region ?_
      refine Ops.y (v := .bool _) (Y.move rfl) ?_
      refine Ops.y (v := .bool _) (Y.assign rfl) ?_
      refine Ops.nil ?_
      refine WP.ret ?_
      repeat (first | refine thenE_ret ?_ | refine blockE_ret ?_)
      exact retQ.mk (vs := [.bool _]) rfl ⟨rfl, trivial⟩ I.ext_of (by simp only [tup, newQ]; rw [hn, decide_eq_true hs]; rfl)
    · refine WP.seq ?_
      refine WP.seq ?_
      refine WP.regionQ mixed I (by kernel_rfl) ?_
      refine OpsQ.y (v := .pointer (some ⟨_, _, none⟩)) (fun w I => Y.fa0 fa_131_0 rfl) ?_
      refine OpsQ.y (v := .bool false) (fun w I => Y.b (Y.loadv ty_4 rfl (I.rdbox 0 rfl 0 1) rfl rfl) (hn)) ?_
      refine OpsQ.y (v := .bool _) (fun w I => Y.move rfl) ?_
      refine OpsQ.ygt rfl (v := .pointer (some ⟨_, _, none⟩)) (fun w I => Y.loadv ty_96 rfl (I.rd (k2.rd.part 0 1)) rfl rfl) ?_
      refine OpsQ.ygt rfl (v := .pointer (some ⟨_, _, none⟩)) (fun w I => Y.nilp rfl) ?_
      refine OpsQ.ygt rfl (v := .pointer (some ⟨_, _, none⟩)) (fun w I => Y.fa fa_98_1 rfl) ?_
      refine OpsQ.ygt rfl (v := .slice _ _ _) (fun w I => Y.loadv ty_45 rfl (I.rd (n.at_.rd.part 2 1)) rfl rfl) ?_
      refine OpsQ.ygt rfl (v := .pointer (some ⟨_, _, none⟩)) (fun w I => Y.fa fa_131_1 rfl) ?_
      refine OpsQ.ygt rfl (v := .pointer (some ⟨_, _, none⟩)) (fun w I => Y.fa0 fa_65_0 rfl) ?_
      refine OpsQ.ygt rfl (v := .int .i64 _) (fun w I => Y.loadv ty_3 rfl (I.rdbox 0 rfl 1 1) rfl rfl) ?_
      refine OpsQ.ygt rfl (v := .pointer (some ⟨_, _, none⟩)) (fun w I => Y.idxEl El1 Tryz.underlying45 Tryz.sizeOf3 rfl rfl ao.pred.1 rfl) ?_
      refine OpsQ.ygt rfl (v := .int .i64 _) (fun w I => Y.loadv ty_3 rfl (I.rd (El1.rd.part 0 1)) rfl rfl) ?_
      refine OpsQ.ygt rfl (v := .pointer (some ⟨_, _, none⟩)) (fun w I => Y.loadv ty_96 rfl (I.rd (k2.rd.part 0 1)) rfl rfl) ?_
      refine OpsQ.ygt rfl (v := .pointer (some ⟨_, _, none⟩)) (fun w I => Y.nilp rfl) ?_
      refine OpsQ.ygt rfl (v := .pointer (some ⟨_, _, none⟩)) (fun w I => Y.fa fa_98_2 rfl) ?_
      refine OpsQ.ygt rfl (v := .int .i64 _) (fun w I => Y.loadv ty_3 rfl (I.rd (n.at_.rd.part 3 1)) rfl rfl) ?_
      refine OpsQ.ygt rfl (v := .bool true) (fun w I => Y.dec_t (Y.nei rfl rfl) (hs)) ?_
      refine OpsQ.y (v := .bool _) (fun w I => Y.pick_f rfl rfl) ?_
      refine OpsQ.nil ?_
      intro w I
      refine WP.cond_t rfl ?_
      refine WP.seq ?_
      refine WP.region ?_
      refine Ops.y (v := .bool _) (Y.assign rfl) ?_
      refine Ops.nil ?_
      refine WP.ret ?_
      repeat (first | refine thenE_ret ?_ | refine blockE_ret ?_)
      exact retQ.mk (vs := [.bool _]) rfl ⟨rfl, trivial⟩ I.ext_of (by simp only [tup, newQ]; rw [hn, decide_eq_false hs]; rfl)
  · refine WP.seq ?_
    refine WP.seq ?_
    refine WP.regionQ mixed I (by kernel_rfl) ?_
    refine OpsQ.y (v := .pointer (some ⟨_, _, none⟩)) (fun w I => Y.fa0 fa_131_0 rfl) ?_
    refine OpsQ.y (v := .bool true) (fun w I => Y.b (Y.loadv ty_4 rfl (I.rdbox 0 rfl 0 1) rfl rfl) (hn)) ?_
    refine OpsQ.y (v := .bool _) (fun w I => Y.move rfl) ?_
    refine OpsQ.gf rfl ?_
    refine OpsQ.gf rfl ?_
    refine OpsQ.gf rfl ?_
    refine OpsQ.gf rfl ?_
    refine OpsQ.gf rfl ?_
    refine OpsQ.gf rfl ?_
    refine OpsQ.gf rfl ?_
    refine OpsQ.gf rfl ?_
    refine OpsQ.gf rfl ?_
    refine OpsQ.gf rfl ?_
    refine OpsQ.gf rfl ?_
    refine OpsQ.gf rfl ?_
    refine OpsQ.gf rfl ?_
    refine OpsQ.gf rfl ?_
    refine OpsQ.y (v := .bool _) (fun w I => Y.pick_t rfl rfl) ?_
    refine OpsQ.nil ?_
    intro w I
    refine WP.cond_t rfl ?_
    refine WP.seq ?_
    refine WP.region ?_
    refine Ops.y (v := .bool _) (Y.assign rfl) ?_
    refine Ops.nil ?_
    refine WP.ret ?_
    repeat (first | refine thenE_ret ?_ | refine blockE_ret ?_)
    exact retQ.mk (vs := [.bool _]) rfl ⟨rfl, trivial⟩ I.ext_of (by simp only [tup, newQ]; rw [hn]; rfl)
theorem newsOf_ok (B : Base) (hB : B.ok) (p : Prg) (s : Sl Int) (st : Int) (f : Sl Fct) (bn : Nat) (n : NewsAt p s st f bn B.h) (x : Stp) (r : Rul) (h0 : 0 ≤ x.rule) (hr : p.rules.xs[x.rule.toNat]? = some r) (ok : ROk p.preds.xs r) (okf : FOk p.preds.xs f.xs) (hx : VsOk x.vars) (hl : s.xs.length = p.preds.xs.length) :
    Fn Tryz.prog 66 [.pointer (some ⟨bn, 0, none⟩), x.val] B (fun v _ => v = .bool (newB p s.xs st f.xs x)) := by
  have hrm := List.mem_of_getElem? hr
  refine Fn.of Tryz.func66 rfl Tryz.ntmps66 (by kernel_rfl) (by simp) ?_
  intro e
  have I := Inv.start hB
  refine WP.seq ?_
  refine WP.region ?_
  refine Ops.go (O.box (v := .pointer (some ⟨_, _, none⟩)) I rfl rfl ?_)
  intro b2 w I
  refine Ops.go (O.box (v := .agg #[_, _, _, _]) I rfl rfl ?_)
  intro b3 w I
  refine Ops.y (v := .bool _) (Y.assign rfl) ?_
  refine Ops.nil ?_
  obtain ⟨h3, le3, k3, I⟩ := I.settleBox
  obtain ⟨h2, le2, k2, I⟩ := I.settleBox
  have n := n.le (le3.trans le2)
  have k3 := k3.le le2
  have Er := n.p.rules.is.el.el hr
  have ir := n.p.rules.each _ hrm
  refine WP.seq ?_
  refine WP.regionQ mixed I (by kernel_rfl) ?_
  refine OpsQ.y (v := .pointer (some ⟨_, _, none⟩)) (fun w I => Y.loadv ty_96 rfl (I.rd (k2.rd.part 0 1)) rfl rfl) ?_
  refine OpsQ.y (v := .pointer (some ⟨_, _, none⟩)) (fun w I => Y.nilp rfl) ?_
  refine OpsQ.y (v := .pointer (some ⟨_, _, none⟩)) (fun w I => Y.fa0 fa_98_0 rfl) ?_
  refine OpsQ.y (v := .pointer (some ⟨_, _, none⟩)) (fun w I => Y.fa fa_25_1 rfl) ?_
  refine OpsQ.y (v := .slice _ _ _) (fun w I => Y.loadv ty_23 rfl (I.rd (n.at_.rd.part 1 1)) rfl rfl) ?_
  refine OpsQ.y (v := .pointer (some ⟨_, _, none⟩)) (fun w I => Y.fa0 fa_82_0 rfl) ?_
  refine OpsQ.y (v := .int .i64 _) (fun w I => Y.loadv ty_3 rfl (I.rd (k3.rd.part 0 1)) rfl rfl) ?_
  refine OpsQ.y (v := .pointer (some ⟨_, _, none⟩)) (fun w I => Y.idxEl Er Tryz.underlying23 Tryz.sizeOf68 rfl rfl h0 rfl) ?_
  refine OpsQ.y (v := .pointer (some ⟨_, _, none⟩)) (fun w I => Y.fa fa_68_3 rfl) ?_
  refine OpsQ.y (v := .slice _ _ _) (fun w I => Y.loadv ty_66 rfl (I.rd (Er.rd.part 4 1)) rfl rfl) ?_
  refine OpsQ.y (v := .func _ _ _) (fun w I => Y.mkfunc rfl rfl) ?_
  refine OpsQ.c (fun w I => QC.callv I Tryz.call133 (ContainsFuncLtl_ok _ I.base_ok r.body ir.body.is 134 Tryz.call134 [] [.pointer (some ⟨b2, 0, none⟩), .pointer (some ⟨b3, 0, none⟩)] (newQ s.xs st f.xs x.vars) (newsOf1_ok p s st f bn b2 b3 x r n k2 k3 hrm ok okf hx hl)) rfl) ?_
  refine OpsQ.y (v := .bool _) (fun w I => Y.assign rfl) ?_
  refine OpsQ.nil ?_
  intro w I
  refine WP.ret ?_
  repeat (first | refine thenE_ret ?_ | refine blockE_ret ?_)
  exact retQ.mk (vs := [.bool _]) rfl ⟨rfl, trivial⟩ I.ext_of (by simp only [tup, newB]; rw [List.getD_eq_getElem?_getD, hr]; rfl)
/-- Is a fact there as it is? -/
def sameQ (f : List Fct) (x : Fct) : Bool := decide (lkF f (placeF x) = some x.v)
theorem keep_fresh (f g : List Fct) : keepL (sameQ f) g = freshF f g := by unfold keepL freshF sameQ; simp only [decide_not, ne_eq]
theorem semiM1_ok (l : List Prd) (f : Sl Fct) (b : Nat) (g : List Fct) {h : Heap} (kb : Known h b [f.val]) (hf : Fcts f h) (okf : FOk l f.xs) (okg : ∀ x ∈ g, factFine l x = true) :
    PredFn Tryz.prog 69 [] [.pointer (some ⟨b, 0, none⟩)] h Fct.val g (sameQ f.xs) := by
  intro B hB hle x hx
  have kb := kb.le hle
  have hf := hf.le hle
  have px := fine_pf okf.len (okg x hx)
  have hiff := isF_iff (x := x) okf.srt
  show Fn Tryz.prog 69 [x.val, .pointer (some ⟨b, 0, none⟩)] B _
  refine Fn.of Tryz.func69 rfl Tryz.ntmps69 (by kernel_rfl) (by simp) ?_
  intro e
  have I := Inv.start hB
  refine WP.seq ?_
  refine WP.region ?_
  refine Ops.go (O.box (v := .agg #[_, _, _, _]) I rfl rfl ?_)
  intro b2 w I
  refine Ops.y (v := .bool _) (Y.assign rfl) ?_
  refine Ops.nil ?_
  refine WP.seq ?_
  refine WP.region ?_
  refine Ops.y (v := .slice _ _ _) (Y.loadv ty_26 rfl (I.rd (kb.rd.part 0 1)) rfl rfl) ?_
  refine Ops.y (v := .agg #[_, _, _, _]) (Y.loadv ty_52 rfl (I.rdbox 0 rfl 0 4) rfl rfl) ?_
  refine Ops.go (O.callv I Tryz.call70 (Seek_ok _ I.base_ok f hf (fun y hy => okf.pf y hy) okf.srt x px) rfl ?_)
  intro w I
  refine Ops.y (v := .tuple #[_, _]) (Y.move rfl) ?_
  refine Ops.y (v := .int .i64 _) (Y.extract rfl rfl) ?_
  refine Ops.y (v := .bool _) (Y.extract rfl rfl) ?_
  refine Ops.y (v := .int .i64 _) (Y.assign rfl) ?_
  refine Ops.y (v := .bool _) (Y.assign rfl) ?_
  refine Ops.nil ?_
  cases hi : isF f.xs x
  · refine WP.seq ?_
    refine WP.regionQ mixed I (by kernel_rfl) ?_
    refine OpsQ.y (v := .bool _) (fun w I => Y.move rfl) ?_
    refine OpsQ.y (v := .bool false) (fun w I => Y.b (Y.move rfl) (rfl)) ?_
    refine OpsQ.gf rfl ?_
    refine OpsQ.gf rfl ?_
    refine OpsQ.gf rfl ?_
    refine OpsQ.gf rfl ?_
    refine OpsQ.gf rfl ?_
    refine OpsQ.gf rfl ?_
    refine OpsQ.y (v := .bool _) (fun w I => Y.pick_f rfl rfl) ?_
    refine OpsQ.y (v := .bool _) (fun w I => Y.assign rfl) ?_
    refine OpsQ.nil ?_
    intro w I
    refine WP.ret ?_
    repeat (first | refine thenE_ret ?_ | refine blockE_ret ?_)
    exact retQ.mk (vs := [.bool _]) rfl ⟨rfl, trivial⟩ I.ext_of (by simp only [tup, sameQ]; rw [decide_eq_false]; intro e; unfold isF at hi; rw [e] at hi; cases hi)
  · obtain ⟨hlt, he⟩ := hiff.1 hi
    have E1 := hf.at hlt
    have hlk := lkF_pos okf.srt hlt he
    have pinj := (okf.pf _ (List.getElem_mem hlt)).inj px he
    by_cases hv : f.xs[posF f.xs x].v = x.v
    · refine WP.seq ?_
      refine WP.regionQ mixed I (by kernel_rfl) ?_
      refine OpsQ.y (v := .bool _) (fun w I => Y.move rfl) ?_
      refine OpsQ.y (v := .bool true) (fun w I => Y.b (Y.move rfl) (rfl)) ?_
      refine OpsQ.ygt rfl (v := .slice _ _ _) (fun w I => Y.loadv ty_26 rfl (I.rd (kb.rd.part 0 1)) rfl rfl) ?_
      refine OpsQ.ygt rfl (v := .int .i64 _) (fun w I => Y.move rfl) ?_
      refine OpsQ.ygt rfl (v := .pointer (some ⟨_, _, none⟩)) (fun w I => Y.idxEl E1 Tryz.underlying26 Tryz.sizeOf52 rfl rfl (Int.natCast_nonneg _) rfl) ?_
      refine OpsQ.ygt rfl (v := .agg #[_, _, _, _]) (fun w I => Y.loadv ty_52 rfl (I.rd (E1.rd.part 0 4)) rfl rfl) ?_
      refine OpsQ.ygt rfl (v := .agg #[_, _, _, _]) (fun w I => Y.loadv ty_52 rfl (I.rdbox 0 rfl 0 4) rfl rfl) ?_
      refine OpsQ.ygt rfl (v := .bool true) (fun w I => Y.b (Y.eqst Tryz.eqGuardType52 (eq_52 _ _ _ _ _ _ _ _) rfl rfl) ((by rw [pinj.1, pinj.2.1, pinj.2.2, hv]; simp))) ?_
      refine OpsQ.y (v := .bool _) (fun w I => Y.pick_t rfl rfl) ?_
      refine OpsQ.y (v := .bool _) (fun w I => Y.assign rfl) ?_
      refine OpsQ.nil ?_
      intro w I
      refine WP.ret ?_
      repeat (first | refine thenE_ret ?_ | refine blockE_ret ?_)
      exact retQ.mk (vs := [.bool _]) rfl ⟨rfl, trivial⟩ I.ext_of (by simp only [tup, sameQ]; rw [decide_eq_true (by rw [hlk, hv])])
    · refine WP.seq ?_
      refine WP.regionQ mixed I (by kernel_rfl) ?_
      refine OpsQ.y (v := .bool _) (fun w I => Y.move rfl) ?_
      refine OpsQ.y (v := .bool true) (fun w I => Y.b (Y.move rfl) (rfl)) ?_
      refine OpsQ.ygt rfl (v := .slice _ _ _) (fun w I => Y.loadv ty_26 rfl (I.rd (kb.rd.part 0 1)) rfl rfl) ?_
      refine OpsQ.ygt rfl (v := .int .i64 _) (fun w I => Y.move rfl) ?_
      refine OpsQ.ygt rfl (v := .pointer (some ⟨_, _, none⟩)) (fun w I => Y.idxEl E1 Tryz.underlying26 Tryz.sizeOf52 rfl rfl (Int.natCast_nonneg _) rfl) ?_
      refine OpsQ.ygt rfl (v := .agg #[_, _, _, _]) (fun w I => Y.loadv ty_52 rfl (I.rd (E1.rd.part 0 4)) rfl rfl) ?_
      refine OpsQ.ygt rfl (v := .agg #[_, _, _, _]) (fun w I => Y.loadv ty_52 rfl (I.rdbox 0 rfl 0 4) rfl rfl) ?_
      refine OpsQ.ygt rfl (v := .bool false) (fun w I => Y.b (Y.eqst Tryz.eqGuardType52 (eq_52 _ _ _ _ _ _ _ _) rfl rfl) ((by rw [beq_eq_false_iff_ne.2 hv]; simp))) ?_
      refine OpsQ.y (v := .bool _) (fun w I => Y.pick_t rfl rfl) ?_
      refine OpsQ.y (v := .bool _) (fun w I => Y.assign rfl) ?_
      refine OpsQ.nil ?_
      intro w I
      refine WP.ret ?_
      repeat (first | refine thenE_ret ?_ | refine blockE_ret ?_)
      exact retQ.mk (vs := [.bool _]) rfl ⟨rfl, trivial⟩ I.ext_of (by simp only [tup, sameQ]; rw [decide_eq_false (by rw [hlk]; intro e; exact hv (Option.some.inj e))])
end Go.TF
end
