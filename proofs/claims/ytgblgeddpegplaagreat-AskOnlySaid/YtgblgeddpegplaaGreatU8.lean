/- Texts Prog7 Fir9 Fir10 Base18 Prog8 Rnd1 Rnd2. -/
import Derived.Test.YtgblgeddpegplaaGreatU7
import Derived.Test.YtgblgeddpegplaaGreatU4
import Derived.Test.YtgblgeddpegplaaGreatU6
import Derived.Test.YtgblgeddpegplaaGreatU2
section
/- CheckProg, of the document; Strata; StrataOf. -/
namespace Go.TF
open Go Go.RowKit Go.Proofs
set_option maxRecDepth 20000

theorem toList_beq (a b : ByteArray) : (a.toList == b.toList) = decide (a = b) := by rw [← beq_toListBytes, beq_bytes]
theorem twice_true {l : List Prd} {i k : Nat} (hk : k < l.length) (hi : i < k) (e : l[i].name = l[k].name) : twice l = true := by
  unfold twice
  rw [List.any_eq_true]
  refine ⟨k, List.mem_range.2 hk, ?_⟩
  unfold early
  rw [List.any_eq_true]
  refine ⟨l[i], List.mem_iff_getElem.2 ⟨i, by simp; omega, by simp⟩, ?_⟩
  simp [List.getD_eq_getElem?_getD, hk, e]
theorem twice_false {l : List Prd} (h : ∀ k, ∀ hk : k < l.length, ∀ i, ∀ hi : i < k, l[i].name ≠ l[k].name) : twice l = false := by
  unfold twice
  rw [List.any_eq_false]
  intro k hk
  have hk := List.mem_range.1 hk
  unfold early
  rw [Bool.not_eq_true, List.any_eq_false]
  intro y hy
  obtain ⟨i, hi, rfl⟩ := List.getElem_of_mem hy
  have hi' : i < k := by simp at hi; omega
  have := h k hk i hi'
  simp only [List.getElem_take, List.getD_eq_getElem?_getD, List.getElem?_eq_getElem hk, Option.getD_some, decide_eq_true_eq]
  exact this
theorem any_false {α : Type} {l : List α} {q : α → Bool} (h : ∀ j, j < l.length → ∀ hj : j < l.length, q l[j] = false) : l.any q = false := by
  rw [List.any_eq_false]
  intro x hx
  obtain ⟨j, hj, rfl⟩ := List.getElem_of_mem hx
  rw [h j hj hj]; decide
theorem any_at {α : Type} {l : List α} {q : α → Bool} {k : Nat} (hk : k < l.length) (h : q l[k] = true) : l.any q = true := List.any_eq_true.2 ⟨_, List.getElem_mem hk, h⟩
theorem not_within' {a lo hi : Int} : (!decide (within a lo hi)) = true ↔ a < lo ∨ hi < a := by
  simp only [Bool.not_eq_true', decide_eq_false_iff_not]; unfold within; omega
set_option maxHeartbeats 4000000 in
theorem CheckProg_ok (B : Base) (hB : B.ok) (p : Prg) (hp : p.In B.h) (hnm : p.Nm) : Fn Tryz.prog 18 [p.val] B (fun v _ => v = .int .i64 (checkProg p)) := by
  have hsp := hp.preds.small
  have hsr := hp.rules.is.small
  refine Fn.of Tryz.func18 rfl Tryz.ntmps18 (by kernel_rfl) (by simp) ?_
  intro e
  have I := Inv.start hB
  refine WP.seq ?_
  refine WP.region ?_
  refine Ops.go (O.box (v := .agg #[_, _]) I rfl rfl ?_)
  intro b1 w I
  refine Ops.y (v := .int .i64 _) (Y.assign rfl) ?_
  refine Ops.nil ?_
  refine WP.seq ?_
  refine WP.seq ?_
  by_cases o0 : 5 < (p.preds.xs.length : Int)
  · refine WP.region ?_
    refine Ops.y (v := .pointer (some ⟨_, _, none⟩)) (Y.fa0 fa_25_0 rfl) ?_
    refine Ops.y (v := .slice _ _ _) (Y.loadv ty_22 rfl (I.rdbox 0 rfl 0 1) rfl rfl) ?_
    refine Ops.y (v := .int .i64 _) (Y.lens Tryz.underlying22 rfl) ?_
    refine Ops.y (v := .bool true) (Y.dec_t (Y.gti rfl rfl) (o0)) ?_
    refine Ops.y (v := .bool _) (Y.move rfl) ?_
    refine Ops.gf rfl ?_
    refine Ops.gf rfl ?_
    refine Ops.gf rfl ?_
    refine Ops.gf rfl ?_
    refine Ops.y (v := .bool _) (Y.pick_t rfl rfl) ?_
    refine Ops.nil ?_
    refine WP.cond_t rfl ?_
    refine WP.seq ?_
    refine WP.region ?_
    refine Ops.y (v := .int .i64 _) (Y.assign rfl) ?_
    refine Ops.nil ?_
    refine WP.ret ?_
    repeat (first | refine thenE_ret ?_ | refine blockE_ret ?_)
    exact retQ.mk (vs := [.int .i64 _]) rfl ⟨rfl, trivial⟩ I.ext_of (by simp only [tup, checkProg]; rw [if_pos (by omega)])
  by_cases o1 : 8 < (p.rules.xs.length : Int)
  · refine WP.region ?_
    refine Ops.y (v := .pointer (some ⟨_, _, none⟩)) (Y.fa0 fa_25_0 rfl) ?_
    refine Ops.y (v := .slice _ _ _) (Y.loadv ty_22 rfl (I.rdbox 0 rfl 0 1) rfl rfl) ?_
    refine Ops.y (v := .int .i64 _) (Y.lens Tryz.underlying22 rfl) ?_
    refine Ops.y (v := .bool false) (Y.dec_f (Y.gti rfl rfl) (o0)) ?_
    refine Ops.y (v := .bool _) (Y.move rfl) ?_
    refine Ops.ygt rfl (v := .pointer (some ⟨_, _, none⟩)) (Y.fa fa_25_1 rfl) ?_
    refine Ops.ygt rfl (v := .slice _ _ _) (Y.loadv ty_23 rfl (I.rdbox 0 rfl 1 1) rfl rfl) ?_
    refine Ops.ygt rfl (v := .int .i64 _) (Y.lens Tryz.underlying23 rfl) ?_
    refine Ops.ygt rfl (v := .bool true) (Y.dec_t (Y.gti rfl rfl) (o1)) ?_
    refine Ops.y (v := .bool _) (Y.pick_f rfl rfl) ?_
    refine Ops.nil ?_
    refine WP.cond_t rfl ?_
    refine WP.seq ?_
    refine WP.region ?_
    refine Ops.y (v := .int .i64 _) (Y.assign rfl) ?_
    refine Ops.nil ?_
    refine WP.ret ?_
    repeat (first | refine thenE_ret ?_ | refine blockE_ret ?_)
    exact retQ.mk (vs := [.int .i64 _]) rfl ⟨rfl, trivial⟩ I.ext_of (by simp only [tup, checkProg]; rw [if_pos (by omega)])
  refine WP.region ?_
  refine Ops.y (v := .pointer (some ⟨_, _, none⟩)) (Y.fa0 fa_25_0 rfl) ?_
  refine Ops.y (v := .slice _ _ _) (Y.loadv ty_22 rfl (I.rdbox 0 rfl 0 1) rfl rfl) ?_
  refine Ops.y (v := .int .i64 _) (Y.lens Tryz.underlying22 rfl) ?_
  refine Ops.y (v := .bool false) (Y.dec_f (Y.gti rfl rfl) (o0)) ?_
  refine Ops.y (v := .bool _) (Y.move rfl) ?_
  refine Ops.ygt rfl (v := .pointer (some ⟨_, _, none⟩)) (Y.fa fa_25_1 rfl) ?_
  refine Ops.ygt rfl (v := .slice _ _ _) (Y.loadv ty_23 rfl (I.rdbox 0 rfl 1 1) rfl rfl) ?_
  refine Ops.ygt rfl (v := .int .i64 _) (Y.lens Tryz.underlying23 rfl) ?_
  refine Ops.ygt rfl (v := .bool false) (Y.dec_f (Y.gti rfl rfl) (o1)) ?_
  refine Ops.y (v := .bool _) (Y.pick_f rfl rfl) ?_
  refine Ops.nil ?_
  refine WP.cond_f rfl ?_
  have c0 : ¬ (5 < p.preds.xs.length ∨ 8 < p.rules.xs.length) := by omega
  refine WP.skip ?_
  refine WP.seq ?_
  refine WP.seq ?_
  refine WP.region ?_
  refine Ops.y (v := .int .i64 _) (Y.assign rfl) ?_
  refine Ops.nil ?_
  refine WP.cutL (σ := Unit) (fun _ => [(1, .pointer (some ⟨b1, 0, none⟩))]) (fun _ w => Inv B B.h [box b1 p.enc 25] w ∧ (p.preds.xs.any fun x => !isName x.name) = false) ?_ ?_
  · refine WP.block ?_
    refine WP.loopE (σ := Nat) (fun k => [(1, .pointer (some ⟨b1, 0, none⟩)), (3, .int .i64 k)]) (fun k w => Inv B B.h [box b1 p.enc 25] w ∧ k ≤ p.preds.xs.length ∧ ∀ j, j < k → ∀ hj : j < p.preds.xs.length, (!isName p.preds.xs[j].name) = false) (fun k => p.preds.xs.length - k)
      ⟨0, ⟨rfl, rfl, trivial⟩, I, Nat.zero_le _, fun j hj => by omega⟩ ?_
    rintro k e w ⟨I, hk, hn⟩
    refine WP.seq ?_
    refine WP.seq ?_
    refine WP.region ?_
    refine Ops.y (v := .int .i64 _) (Y.move rfl) ?_
    refine Ops.y (v := .pointer (some ⟨_, _, none⟩)) (Y.fa0 fa_25_0 rfl) ?_
    refine Ops.y (v := .slice _ _ _) (Y.loadv ty_22 rfl (I.rdbox 0 rfl 0 1) rfl rfl) ?_
    refine Ops.y (v := .int .i64 _) (Y.lens Tryz.underlying22 rfl) ?_
    refine Ops.y (v := .bool (decide _)) (Y.lti rfl rfl) ?_
    refine Ops.nil ?_
    refine WP.cond_dec rfl (fun h => ?_) (fun h => ?_)
    · have hk' : k < p.preds.xs.length := by omega
      have E1 := hp.preds.at hk'
      refine WP.skip ?_
      refine WP.seq ?_
      refine WP.block ?_
      refine WP.seq ?_
      refine WP.region ?_
      refine Ops.y (v := .pointer (some ⟨_, _, none⟩)) (Y.fa0 fa_25_0 rfl) ?_
      refine Ops.y (v := .slice _ _ _) (Y.loadv ty_22 rfl (I.rdbox 0 rfl 0 1) rfl rfl) ?_
      refine Ops.y (v := .int .i64 _) (Y.move rfl) ?_
      refine Ops.y (v := .pointer (some ⟨_, _, none⟩)) (Y.idxEl E1 Tryz.underlying22 Tryz.sizeOf62 rfl rfl (Int.natCast_nonneg _) rfl) ?_
      refine Ops.y (v := .pointer (some ⟨_, _, none⟩)) (Y.fa0 fa_62_0 rfl) ?_
      refine Ops.y (v := .string _) (Y.loadv ty_9 rfl (I.rd (E1.rd.part 0 1)) rfl rfl) ?_
      refine Ops.go (O.callv I Tryz.call71 (IsName_ok _ I.base_ok p.preds.xs[k].name (hnm _ (List.getElem_mem hk'))) rfl ?_)
      intro w I
      refine Ops.y (v := .bool _) (Y.not rfl) ?_
      refine Ops.nil ?_
      refine WP.cond rfl (fun hb => ?_) (fun hb => ?_)
      · refine WP.seq ?_
        refine WP.region ?_
        refine Ops.y (v := .int .i64 _) (Y.assign rfl) ?_
        refine Ops.nil ?_
        refine WP.ret ?_
        repeat (first | refine thenE_ret ?_ | refine blockE_ret ?_)
        exact retQ.mk (vs := [.int .i64 _]) rfl ⟨rfl, trivial⟩ I.ext_of (by simp only [tup, checkProg]; rw [if_neg c0, if_pos (any_at hk' hb)])
      refine WP.skip ?_
      refine WP.region ?_
      refine Ops.y (v := .int .i64 _) (Y.move rfl) ?_
      refine Ops.y (v := .int .i64 _) (Y.addi rfl rfl ⟨by omega, by omega⟩) ?_
      refine Ops.y (v := .int .i64 _) (Y.assign rfl) ?_
      refine Ops.nil ?_
      exact ⟨k + 1, ⟨⟨rfl, rfl, trivial⟩, I, hk', fun j hj hj' => by
        rcases Nat.lt_succ_iff_lt_or_eq.1 hj with h' | rfl
        · exact hn j h' hj'
        · exact hb⟩, by omega⟩
    refine WP.exit ?_
    exact ⟨(), ⟨rfl, trivial⟩, I, any_false (fun j hj hj' => hn j (by omega) hj')⟩
  rintro _ e w ⟨I, c1⟩
  refine WP.seq ?_
  refine WP.seq ?_
  refine WP.region ?_
  refine Ops.y (v := .int .i64 _) (Y.assign rfl) ?_
  refine Ops.nil ?_
  refine WP.cutL (σ := Unit) (fun _ => [(1, .pointer (some ⟨b1, 0, none⟩))]) (fun _ w => Inv B B.h [box b1 p.enc 25] w ∧ twice p.preds.xs = false) ?_ ?_
  · refine WP.block ?_
    refine WP.loopE (σ := Nat) (fun k => [(1, .pointer (some ⟨b1, 0, none⟩)), (4, .int .i64 k)]) (fun k w => Inv B B.h [box b1 p.enc 25] w ∧ k ≤ p.preds.xs.length ∧ ∀ j, j < k → ∀ hj : j < p.preds.xs.length, ∀ i, ∀ hi : i < j, p.preds.xs[i].name ≠ p.preds.xs[j].name) (fun k => p.preds.xs.length - k)
      ⟨0, ⟨rfl, rfl, trivial⟩, I, Nat.zero_le _, fun j hj => by omega⟩ ?_
    rintro k e w ⟨I, hk, hn⟩
    refine WP.seq ?_
    refine WP.seq ?_
    refine WP.region ?_
    refine Ops.y (v := .int .i64 _) (Y.move rfl) ?_
    refine Ops.y (v := .pointer (some ⟨_, _, none⟩)) (Y.fa0 fa_25_0 rfl) ?_
    refine Ops.y (v := .slice _ _ _) (Y.loadv ty_22 rfl (I.rdbox 0 rfl 0 1) rfl rfl) ?_
    refine Ops.y (v := .int .i64 _) (Y.lens Tryz.underlying22 rfl) ?_
    refine Ops.y (v := .bool (decide _)) (Y.lti rfl rfl) ?_
    refine Ops.nil ?_
    refine WP.cond_dec rfl (fun h => ?_) (fun h => ?_)
    · have hk' : k < p.preds.xs.length := by omega
      have E1 := hp.preds.at hk'
      refine WP.skip ?_
      refine WP.seq ?_
      refine WP.block ?_
      refine WP.seq ?_
      refine WP.region ?_
      refine Ops.y (v := .int .i64 _) (Y.assign rfl) ?_
      refine Ops.nil ?_
      refine WP.block ?_
      refine WP.loopE (σ := Nat) (fun i => [(1, .pointer (some ⟨b1, 0, none⟩)), (4, .int .i64 k), (5, .int .i64 i)]) (fun i w => Inv B B.h [box b1 p.enc 25] w ∧ i ≤ k ∧ ∀ j, ∀ hj : j < i, ∀ hj' : j < p.preds.xs.length, p.preds.xs[j].name ≠ p.preds.xs[k].name) (fun i => k - i)
        ⟨0, ⟨rfl, rfl, rfl, trivial⟩, I, Nat.zero_le _, fun j hj => by omega⟩ ?_
      rintro i e w ⟨I, hi, hni⟩
      refine WP.seq ?_
      refine WP.seq ?_
      refine WP.region ?_
      refine Ops.y (v := .int .i64 _) (Y.move rfl) ?_
      refine Ops.y (v := .int .i64 _) (Y.move rfl) ?_
      refine Ops.y (v := .bool (decide _)) (Y.lti rfl rfl) ?_
      refine Ops.nil ?_
      refine WP.cond_dec rfl (fun h12 => ?_) (fun h12 => ?_)
      · have hi' : i < p.preds.xs.length := by omega
        have E2 := hp.preds.at hi'
        refine WP.skip ?_
        refine WP.seq ?_
        refine WP.block ?_
        refine WP.seq ?_
        refine WP.regionQ mixed I (by kernel_rfl) ?_
        refine OpsQ.y (v := .pointer (some ⟨_, _, none⟩)) (fun w I => Y.fa0 fa_25_0 rfl) ?_
        refine OpsQ.y (v := .slice _ _ _) (fun w I => Y.loadv ty_22 rfl (I.rdbox 0 rfl 0 1) rfl rfl) ?_
        refine OpsQ.y (v := .int .i64 _) (fun w I => Y.move rfl) ?_
        refine OpsQ.y (v := .pointer (some ⟨_, _, none⟩)) (fun w I => Y.idxEl E2 Tryz.underlying22 Tryz.sizeOf62 rfl rfl (Int.natCast_nonneg _) rfl) ?_
        refine OpsQ.y (v := .pointer (some ⟨_, _, none⟩)) (fun w I => Y.fa0 fa_62_0 rfl) ?_
        refine OpsQ.y (v := .string _) (fun w I => Y.loadv ty_9 rfl (I.rd (E2.rd.part 0 1)) rfl rfl) ?_
        refine OpsQ.y (v := .pointer (some ⟨_, _, none⟩)) (fun w I => Y.fa0 fa_25_0 rfl) ?_
        refine OpsQ.y (v := .slice _ _ _) (fun w I => Y.loadv ty_22 rfl (I.rdbox 0 rfl 0 1) rfl rfl) ?_
        refine OpsQ.y (v := .int .i64 _) (fun w I => Y.move rfl) ?_
        refine OpsQ.y (v := .pointer (some ⟨_, _, none⟩)) (fun w I => Y.idxEl E1 Tryz.underlying22 Tryz.sizeOf62 rfl rfl (Int.natCast_nonneg _) rfl) ?_
        refine OpsQ.y (v := .pointer (some ⟨_, _, none⟩)) (fun w I => Y.fa0 fa_62_0 rfl) ?_
        refine OpsQ.y (v := .string _) (fun w I => Y.loadv ty_9 rfl (I.rd (E1.rd.part 0 1)) rfl rfl) ?_
        refine OpsQ.y (v := .bool _) (fun w I => Y.eqs rfl rfl) ?_
        refine OpsQ.nil ?_
        intro w I
        refine WP.cond rfl (fun hb => ?_) (fun hb => ?_)
        · refine WP.seq ?_
          refine WP.region ?_
          refine Ops.y (v := .int .i64 _) (Y.assign rfl) ?_
          refine Ops.nil ?_
          refine WP.ret ?_
          repeat (first | refine thenE_ret ?_ | refine blockE_ret ?_)
          exact retQ.mk (vs := [.int .i64 _]) rfl ⟨rfl, trivial⟩ I.ext_of (by simp only [tup, checkProg]; rw [if_neg c0, if_neg (by rw [c1]; decide), if_pos (twice_true hk' (show i < k by omega) (by rw [toList_beq] at hb; exact of_decide_eq_true hb))])
        refine WP.skip ?_
        refine WP.region ?_
        refine Ops.y (v := .int .i64 _) (Y.move rfl) ?_
        refine Ops.y (v := .int .i64 _) (Y.addi rfl rfl ⟨by omega, by omega⟩) ?_
        refine Ops.y (v := .int .i64 _) (Y.assign rfl) ?_
        refine Ops.nil ?_
        exact ⟨i + 1, ⟨⟨rfl, rfl, rfl, trivial⟩, I, by omega, fun j hj hj' => by
          rcases Nat.lt_succ_iff_lt_or_eq.1 hj with h' | rfl
          · exact hni j h' hj'
          · rw [toList_beq] at hb; exact of_decide_eq_false hb⟩, by omega⟩
      refine WP.exit ?_
      refine WP.region ?_
      refine Ops.y (v := .int .i64 _) (Y.move rfl) ?_
      refine Ops.y (v := .int .i64 _) (Y.addi rfl rfl ⟨by omega, by omega⟩) ?_
      refine Ops.y (v := .int .i64 _) (Y.assign rfl) ?_
      refine Ops.nil ?_
      exact ⟨k + 1, ⟨⟨rfl, rfl, trivial⟩, I, hk', fun j hj hj' => by
        rcases Nat.lt_succ_iff_lt_or_eq.1 hj with h' | rfl
        · exact hn j h' hj'
        · exact fun q hq => hni q (by omega) (by omega)⟩, by omega⟩
    refine WP.exit ?_
    exact ⟨(), ⟨rfl, trivial⟩, I, twice_false (fun j hj => hn j (by omega) hj)⟩
  rintro _ e w ⟨I, c2⟩
  refine WP.seq ?_
  refine WP.seq ?_
  refine WP.region ?_
  refine Ops.y (v := .int .i64 _) (Y.assign rfl) ?_
  refine Ops.nil ?_
  refine WP.cutL (σ := Unit) (fun _ => [(1, .pointer (some ⟨b1, 0, none⟩))]) (fun _ w => Inv B B.h [box b1 p.enc 25] w ∧ p.preds.xs.any badArity = false) ?_ ?_
  · refine WP.block ?_
    refine WP.loopE (σ := Nat) (fun k => [(1, .pointer (some ⟨b1, 0, none⟩)), (6, .int .i64 k)]) (fun k w => Inv B B.h [box b1 p.enc 25] w ∧ k ≤ p.preds.xs.length ∧ ∀ j, j < k → ∀ hj : j < p.preds.xs.length, badArity p.preds.xs[j] = false) (fun k => p.preds.xs.length - k)
      ⟨0, ⟨rfl, rfl, trivial⟩, I, Nat.zero_le _, fun j hj => by omega⟩ ?_
    rintro k e w ⟨I, hk, hn⟩
    refine WP.seq ?_
    refine WP.seq ?_
    refine WP.region ?_
    refine Ops.y (v := .int .i64 _) (Y.move rfl) ?_
    refine Ops.y (v := .pointer (some ⟨_, _, none⟩)) (Y.fa0 fa_25_0 rfl) ?_
    refine Ops.y (v := .slice _ _ _) (Y.loadv ty_22 rfl (I.rdbox 0 rfl 0 1) rfl rfl) ?_
    refine Ops.y (v := .int .i64 _) (Y.lens Tryz.underlying22 rfl) ?_
    refine Ops.y (v := .bool (decide _)) (Y.lti rfl rfl) ?_
    refine Ops.nil ?_
    refine WP.cond_dec rfl (fun h => ?_) (fun h => ?_)
    · have hk' : k < p.preds.xs.length := by omega
      have E1 := hp.preds.at hk'
      refine WP.skip ?_
      refine WP.seq ?_
      refine WP.block ?_
      refine WP.seq ?_
      refine WP.region ?_
      refine Ops.y (v := .pointer (some ⟨_, _, none⟩)) (Y.fa0 fa_25_0 rfl) ?_
      refine Ops.y (v := .slice _ _ _) (Y.loadv ty_22 rfl (I.rdbox 0 rfl 0 1) rfl rfl) ?_
      refine Ops.y (v := .int .i64 _) (Y.move rfl) ?_
      refine Ops.y (v := .pointer (some ⟨_, _, none⟩)) (Y.idxEl E1 Tryz.underlying22 Tryz.sizeOf62 rfl rfl (Int.natCast_nonneg _) rfl) ?_
      refine Ops.y (v := .pointer (some ⟨_, _, none⟩)) (Y.fa fa_62_1 rfl) ?_
      refine Ops.y (v := .int .i64 _) (Y.loadv ty_3 rfl (I.rd (E1.rd.part 1 1)) rfl rfl) ?_
      refine Ops.go (O.callv I Tryz.call72 (within_ok _ I.base_ok _ _ _) rfl ?_)
      intro w I
      refine Ops.y (v := .bool _) (Y.not rfl) ?_
      refine Ops.nil ?_
      refine WP.cond rfl (fun hb => ?_) (fun hb => ?_)
      · refine WP.seq ?_
        refine WP.region ?_
        refine Ops.y (v := .int .i64 _) (Y.assign rfl) ?_
        refine Ops.nil ?_
        refine WP.ret ?_
        repeat (first | refine thenE_ret ?_ | refine blockE_ret ?_)
        exact retQ.mk (vs := [.int .i64 _]) rfl ⟨rfl, trivial⟩ I.ext_of (by simp only [tup, checkProg]; rw [if_neg c0, if_neg (by rw [c1]; decide), if_neg (by rw [c2]; decide), if_pos (any_at hk' (by unfold badArity; exact decide_eq_true (not_within'.1 hb)))])
      refine WP.skip ?_
      refine WP.region ?_
      refine Ops.y (v := .int .i64 _) (Y.move rfl) ?_
      refine Ops.y (v := .int .i64 _) (Y.addi rfl rfl ⟨by omega, by omega⟩) ?_
      refine Ops.y (v := .int .i64 _) (Y.assign rfl) ?_
      refine Ops.nil ?_
      exact ⟨k + 1, ⟨⟨rfl, rfl, trivial⟩, I, hk', fun j hj hj' => by
        rcases Nat.lt_succ_iff_lt_or_eq.1 hj with h' | rfl
        · exact hn j h' hj'
        · unfold badArity; exact decide_eq_false (fun hx => by rw [not_within'.2 hx] at hb; cases hb)⟩, by omega⟩
    refine WP.exit ?_
    exact ⟨(), ⟨rfl, trivial⟩, I, any_false (fun j hj hj' => hn j (by omega) hj')⟩
  rintro _ e w ⟨I, c3⟩
  refine WP.seq ?_
  refine WP.seq ?_
  refine WP.region ?_
  refine Ops.y (v := .int .i64 _) (Y.assign rfl) ?_
  refine Ops.nil ?_
  refine WP.cutL (σ := Unit) (fun _ => [(1, .pointer (some ⟨b1, 0, none⟩))]) (fun _ w => Inv B B.h [box b1 p.enc 25] w ∧ p.preds.xs.any badKind = false) ?_ ?_
  · refine WP.block ?_
    refine WP.loopE (σ := Nat) (fun k => [(1, .pointer (some ⟨b1, 0, none⟩)), (7, .int .i64 k)]) (fun k w => Inv B B.h [box b1 p.enc 25] w ∧ k ≤ p.preds.xs.length ∧ ∀ j, j < k → ∀ hj : j < p.preds.xs.length, badKind p.preds.xs[j] = false) (fun k => p.preds.xs.length - k)
      ⟨0, ⟨rfl, rfl, trivial⟩, I, Nat.zero_le _, fun j hj => by omega⟩ ?_
    rintro k e w ⟨I, hk, hn⟩
    refine WP.seq ?_
    refine WP.seq ?_
    refine WP.region ?_
    refine Ops.y (v := .int .i64 _) (Y.move rfl) ?_
    refine Ops.y (v := .pointer (some ⟨_, _, none⟩)) (Y.fa0 fa_25_0 rfl) ?_
    refine Ops.y (v := .slice _ _ _) (Y.loadv ty_22 rfl (I.rdbox 0 rfl 0 1) rfl rfl) ?_
    refine Ops.y (v := .int .i64 _) (Y.lens Tryz.underlying22 rfl) ?_
    refine Ops.y (v := .bool (decide _)) (Y.lti rfl rfl) ?_
    refine Ops.nil ?_
    refine WP.cond_dec rfl (fun h => ?_) (fun h => ?_)
    · have hk' : k < p.preds.xs.length := by omega
      have E1 := hp.preds.at hk'
      refine WP.skip ?_
      refine WP.seq ?_
      refine WP.block ?_
      refine WP.seq ?_
      refine WP.region ?_
      refine Ops.y (v := .pointer (some ⟨_, _, none⟩)) (Y.fa0 fa_25_0 rfl) ?_
      refine Ops.y (v := .slice _ _ _) (Y.loadv ty_22 rfl (I.rdbox 0 rfl 0 1) rfl rfl) ?_
      refine Ops.y (v := .int .i64 _) (Y.move rfl) ?_
      refine Ops.y (v := .pointer (some ⟨_, _, none⟩)) (Y.idxEl E1 Tryz.underlying22 Tryz.sizeOf62 rfl rfl (Int.natCast_nonneg _) rfl) ?_
      refine Ops.y (v := .pointer (some ⟨_, _, none⟩)) (Y.fa fa_62_2 rfl) ?_
      refine Ops.y (v := .int .i64 _) (Y.loadv ty_3 rfl (I.rd (E1.rd.part 2 1)) rfl rfl) ?_
      refine Ops.go (O.callv I Tryz.call72 (within_ok _ I.base_ok _ _ _) rfl ?_)
      intro w I
      refine Ops.y (v := .bool _) (Y.not rfl) ?_
      refine Ops.nil ?_
      refine WP.cond rfl (fun hb => ?_) (fun hb => ?_)
      · refine WP.seq ?_
        refine WP.region ?_
        refine Ops.y (v := .int .i64 _) (Y.assign rfl) ?_
        refine Ops.nil ?_
        refine WP.ret ?_
        repeat (first | refine thenE_ret ?_ | refine blockE_ret ?_)
        exact retQ.mk (vs := [.int .i64 _]) rfl ⟨rfl, trivial⟩ I.ext_of (by simp only [tup, checkProg]; rw [if_neg c0, if_neg (by rw [c1]; decide), if_neg (by rw [c2]; decide), if_neg (by rw [c3]; decide), if_pos (any_at hk' (by unfold badKind; exact decide_eq_true (not_within'.1 hb)))])
      refine WP.skip ?_
      refine WP.region ?_
      refine Ops.y (v := .int .i64 _) (Y.move rfl) ?_
      refine Ops.y (v := .int .i64 _) (Y.addi rfl rfl ⟨by omega, by omega⟩) ?_
      refine Ops.y (v := .int .i64 _) (Y.assign rfl) ?_
      refine Ops.nil ?_
      exact ⟨k + 1, ⟨⟨rfl, rfl, trivial⟩, I, hk', fun j hj hj' => by
        rcases Nat.lt_succ_iff_lt_or_eq.1 hj with h' | rfl
        · exact hn j h' hj'
        · unfold badKind; exact decide_eq_false (fun hx => by rw [not_within'.2 hx] at hb; cases hb)⟩, by omega⟩
    refine WP.exit ?_
    exact ⟨(), ⟨rfl, trivial⟩, I, any_false (fun j hj hj' => hn j (by omega) hj')⟩
  rintro _ e w ⟨I, c4⟩
  have e4 : checkProg p = if rulesErr p.preds.xs p.rules.xs ≠ 0 then rulesErr p.preds.xs p.rules.xs else @ite Int (∃ M, Sol (usesL p.rules.xs) p.preds.xs.length M) (Classical.propDecidable _) 0 8 := by
    unfold checkProg; rw [if_neg c0, if_neg (by rw [c1]; decide), if_neg (by rw [c2]; decide), if_neg (by rw [c3]; decide), if_neg (by rw [c4]; decide)]
  refine WP.seq ?_
  refine WP.seq ?_
  refine WP.region ?_
  refine Ops.y (v := .int .i64 _) (Y.assign rfl) ?_
  refine Ops.nil ?_
  refine WP.block ?_
  refine WP.loopE (σ := Nat) (fun k => [(1, .pointer (some ⟨b1, 0, none⟩)), (8, .int .i64 k)]) (fun k w => Inv B B.h [box b1 p.enc 25] w ∧ k ≤ p.rules.xs.length ∧ ∀ j, j < k → ∀ hj : j < p.rules.xs.length, checkRule p.preds.xs p.rules.xs[j] = 0) (fun k => p.rules.xs.length - k)
    ⟨0, ⟨rfl, rfl, trivial⟩, I, Nat.zero_le _, fun j hj => by omega⟩ ?_
  rintro k e w ⟨I, hk, hn⟩
  refine WP.seq ?_
  refine WP.seq ?_
  refine WP.region ?_
  refine Ops.y (v := .int .i64 _) (Y.move rfl) ?_
  refine Ops.y (v := .pointer (some ⟨_, _, none⟩)) (Y.fa fa_25_1 rfl) ?_
  refine Ops.y (v := .slice _ _ _) (Y.loadv ty_23 rfl (I.rdbox 0 rfl 1 1) rfl rfl) ?_
  refine Ops.y (v := .int .i64 _) (Y.lens Tryz.underlying23 rfl) ?_
  refine Ops.y (v := .bool (decide _)) (Y.lti rfl rfl) ?_
  refine Ops.nil ?_
  refine WP.cond_dec rfl (fun h => ?_) (fun h => ?_)
  · have hk' : k < p.rules.xs.length := by omega
    have E1 := hp.rules.is.at hk'
    refine WP.skip ?_
    refine WP.seq ?_
    refine WP.block ?_
    refine WP.seq ?_
    refine WP.regionQ mixed I (by kernel_rfl) ?_
    refine OpsQ.y (v := .pointer (some ⟨_, _, none⟩)) (fun w I => Y.fa0 fa_25_0 rfl) ?_
    refine OpsQ.y (v := .slice _ _ _) (fun w I => Y.loadv ty_22 rfl (I.rdbox 0 rfl 0 1) rfl rfl) ?_
    refine OpsQ.y (v := .pointer (some ⟨_, _, none⟩)) (fun w I => Y.fa fa_25_1 rfl) ?_
    refine OpsQ.y (v := .slice _ _ _) (fun w I => Y.loadv ty_23 rfl (I.rdbox 0 rfl 1 1) rfl rfl) ?_
    refine OpsQ.y (v := .int .i64 _) (fun w I => Y.move rfl) ?_
    refine OpsQ.y (v := .pointer (some ⟨_, _, none⟩)) (fun w I => Y.idxEl E1 Tryz.underlying23 Tryz.sizeOf68 rfl rfl (Int.natCast_nonneg _) rfl) ?_
    refine OpsQ.y (v := .agg #[_, _, _, _, _]) (fun w I => Y.loadv ty_68 rfl (I.rd (E1.rd.part 0 5)) rfl rfl) ?_
    refine OpsQ.c (fun w I => QC.callv I Tryz.call73 (CheckRule_ok _ I.base_ok p.preds hp.preds p.rules.xs[k] (hp.rules.each _ (List.getElem_mem hk'))) rfl) ?_
    refine OpsQ.y (v := .int .i64 _) (fun w I => Y.assign rfl) ?_
    refine OpsQ.nil ?_
    intro w I
    refine WP.seq ?_
    refine WP.region ?_
    refine Ops.y (v := .int .i64 _) (Y.move rfl) ?_
    refine Ops.y (v := .bool (decide _)) (Y.nei rfl rfl) ?_
    refine Ops.nil ?_
    refine WP.cond_dec rfl (fun h17 => ?_) (fun h17 => ?_)
    · refine WP.seq ?_
      refine WP.region ?_
      refine Ops.y (v := .int .i64 _) (Y.move rfl) ?_
      refine Ops.y (v := .int .i64 _) (Y.assign rfl) ?_
      refine Ops.nil ?_
      refine WP.ret ?_
      repeat (first | refine thenE_ret ?_ | refine blockE_ret ?_)
      exact retQ.mk (vs := [.int .i64 _]) rfl ⟨rfl, trivial⟩ I.ext_of (by simp only [tup, e4]; rw [rulesErr_at hk' hn h17, if_pos h17])
    refine WP.skip ?_
    refine WP.region ?_
    refine Ops.y (v := .int .i64 _) (Y.move rfl) ?_
    refine Ops.y (v := .int .i64 _) (Y.addi rfl rfl ⟨by omega, by omega⟩) ?_
    refine Ops.y (v := .int .i64 _) (Y.assign rfl) ?_
    refine Ops.nil ?_
    exact ⟨k + 1, ⟨⟨rfl, rfl, trivial⟩, I, hk', fun j hj hj' => by
      rcases Nat.lt_succ_iff_lt_or_eq.1 hj with h' | rfl
      · exact hn j h' hj'
      · exact Decidable.not_not.1 h17⟩, by omega⟩
  have hr0 : rulesErr p.preds.xs p.rules.xs = 0 := rulesErr_zero.2 fun r hr => by
    obtain ⟨j, hj, rfl⟩ := List.getElem_of_mem hr
    exact hn j (by omega) hj
  have e5 : checkProg p = @ite Int (∃ M, Sol (usesL p.rules.xs) p.preds.xs.length M) (Classical.propDecidable _) 0 8 := by rw [e4, if_neg (by rw [hr0]; decide)]
  refine WP.exit ?_
  refine WP.seq ?_
  refine WP.seq ?_
  refine WP.region ?_
  refine Ops.y (v := .agg #[_, _]) (Y.loadv ty_25 rfl (I.rdbox 0 rfl 0 2) rfl rfl) ?_
  refine Ops.go (O.call I Tryz.call74 (strata_ok _ I.base_ok p hp (inR_of hr0) (by omega) (by omega) (fun r hr => (checkRule_ok (rulesErr_zero.1 hr0 r hr)).2.1)) rfl ?_)
  rintro v112 h3 w I le3 hL
  rcases hL with ⟨s, hS, hI, rfl⟩ | ⟨hno, rfl⟩
  · refine Ops.y (v := .tuple #[_, _]) (Y.move rfl) ?_
    refine Ops.y (v := .slice _ _ _) (Y.extract rfl rfl) ?_
    refine Ops.y (v := .bool _) (Y.extract rfl rfl) ?_
    refine Ops.y (v := .slice _ _ _) (Y.assign rfl) ?_
    refine Ops.y (v := .bool _) (Y.assign rfl) ?_
    refine Ops.nil ?_
    refine WP.seq ?_
    refine WP.region ?_
    refine Ops.y (v := .bool _) (Y.move rfl) ?_
    refine Ops.y (v := .bool _) (Y.not rfl) ?_
    refine Ops.nil ?_
    refine WP.cond_f rfl ?_
    refine WP.skip ?_
    refine WP.seq ?_
    refine WP.region ?_
    refine Ops.y (v := .int .i64 _) (Y.assign rfl) ?_
    refine Ops.nil ?_
    refine WP.ret ?_
    repeat (first | refine thenE_ret ?_ | refine blockE_ret ?_)
    exact retQ.mk (vs := [.int .i64 _]) rfl ⟨rfl, trivial⟩ I.ext_of (by simp only [tup, e5]; rw [if_pos ⟨_, hS.sol⟩])
  · refine Ops.y (v := .tuple #[_, _]) (Y.move rfl) ?_
    refine Ops.y (v := .slice _ _ _) (Y.extract rfl rfl) ?_
    refine Ops.y (v := .bool _) (Y.extract rfl rfl) ?_
    refine Ops.y (v := .slice _ _ _) (Y.assign rfl) ?_
    refine Ops.y (v := .bool _) (Y.assign rfl) ?_
    refine Ops.nil ?_
    refine WP.seq ?_
    refine WP.region ?_
    refine Ops.y (v := .bool _) (Y.move rfl) ?_
    refine Ops.y (v := .bool _) (Y.not rfl) ?_
    refine Ops.nil ?_
    refine WP.cond_t rfl ?_
    refine WP.seq ?_
    refine WP.region ?_
    refine Ops.y (v := .int .i64 _) (Y.assign rfl) ?_
    refine Ops.nil ?_
    refine WP.ret ?_
    repeat (first | refine thenE_ret ?_ | refine blockE_ret ?_)
    exact retQ.mk (vs := [.int .i64 _]) rfl ⟨rfl, trivial⟩ I.ext_of (by simp only [tup, e5]; rw [if_neg (fun ⟨M, hM⟩ => hno M hM)])
end Go.TF
end
section
/- What the document says of a step and of all steps of a rule. -/
namespace Go.TF
open Go Go.RowKit Go.Proofs
set_option maxRecDepth 20000

theorem findF_get {f : List Fct} {y : Fct} : (findF f y).1 = (lkF f (placeF y)).getD 0 := rfl
set_option maxHeartbeats 4000000 in
theorem rholds_ok (B : Base) (hB : B.ok) (p : Prg) (hp : p.In B.h) (f : Sl Fct) (hf : Fcts f B.h) (n : Int) (r : Rul) (h0 : 0 ≤ n) (hr : p.rules.xs[n.toNat]? = some r) (ok : ROk p.preds.xs r) (okf : FOk p.preds.xs f.xs) (x : Vrs) (hx : VsOk x) :
    Fn Tryz.prog 78 [p.val, f.val, .int .i64 n, x.val] B (fun v _ => v = tHold (holdsF p.preds.xs f.xs r x)) := by
  have Er := hp.rules.is.el.el hr
  have ir := hp.rules.each _ (List.mem_of_getElem? hr)
  have ah := aok_of ok.preds ok.head
  have hlen := ok.len
  have hkp : r.head.pred.toNat < p.preds.xs.length := by have := ah.pred; omega
  have Eh := hp.preds.at hkp
  have hpo : p.preds.xs[r.head.pred.toNat] = predOf p.preds.xs r.head.pred := (predOf_getE ah.pred.1 ah.pred.2).symm
  refine Fn.of Tryz.func78 rfl Tryz.ntmps78 (by kernel_rfl) (by simp) ?_
  intro e
  have I := Inv.start hB
  refine WP.seq ?_
  refine WP.region ?_
  refine Ops.go (O.box (v := .agg #[_, _]) I rfl rfl ?_)
  intro b4 w I
  refine Ops.go (O.box (v := .agg #[_, _, _]) I rfl rfl ?_)
  intro b7 w I
  refine Ops.y (v := .bool _) (Y.assign rfl) ?_
  refine Ops.go (O.alloc I Tryz.zeroValue52 rfl ?_)
  intro b9 w I
  refine Ops.nil ?_
  refine WP.seq ?_
  refine WP.region ?_
  refine Ops.y (v := .pointer (some ⟨_, _, none⟩)) (Y.fa fa_25_1 rfl) ?_
  refine Ops.y (v := .slice _ _ _) (Y.loadv ty_23 rfl (I.rdbox 2 rfl 1 1) rfl rfl) ?_
  refine Ops.y (v := .int .i64 _) (Y.move rfl) ?_
  refine Ops.y (v := .pointer (some ⟨_, _, none⟩)) (Y.idxEl Er Tryz.underlying23 Tryz.sizeOf68 rfl rfl h0 rfl) ?_
  refine Ops.y (v := .agg #[_, _, _, _, _]) (Y.loadv ty_68 rfl (I.rd (Er.rd.part 0 5)) rfl rfl) ?_
  refine Ops.go (O.alloc I Tryz.zeroValue68 rfl ?_)
  intro b10 w I
  refine Ops.go (O.store (v := .agg #[_, _, _, _, _]) I ty_68 0 rfl rfl rfl rfl rfl rfl (Nat.le_of_ble_eq_true rfl) rfl ?_)
  intro w I
  refine Ops.nil ?_
  refine WP.seq ?_
  refine WP.region ?_
  refine Ops.y (v := .pointer (some ⟨_, _, none⟩)) (Y.fa0 fa_68_0 rfl) ?_
  refine Ops.y (v := .agg #[_, _]) (Y.loadv ty_65 rfl (I.rdbox 0 rfl 0 2) rfl rfl) ?_
  refine Ops.y (v := .agg #[_, _, _]) (Y.loadv ty_80 rfl (I.rdbox 2 rfl 0 3) rfl rfl) ?_
  refine Ops.go (O.callv I Tryz.call142 (ground_ok _ I.base_ok r.head ir.head x ah.len ah.err) rfl ?_)
  intro w I
  refine Ops.go (O.alloc I Tryz.zeroValue52 rfl ?_)
  intro b11 w I
  refine Ops.go (O.store (v := .agg #[_, _, _, _]) I ty_52 0 rfl rfl rfl rfl rfl rfl (Nat.le_of_ble_eq_true rfl) rfl ?_)
  intro w I
  refine Ops.nil ?_
  refine WP.seq ?_
  refine WP.region ?_
  refine Ops.y (v := .pointer (some ⟨_, _, none⟩)) (Y.fa fa_68_2 rfl) ?_
  refine Ops.y (v := .int .i64 _) (Y.loadv ty_3 rfl (I.rdbox 1 rfl 3 1) rfl rfl) ?_
  refine Ops.y (v := .pointer (some ⟨_, _, none⟩)) (Y.fa fa_52_3 rfl) ?_
  refine Ops.go (O.store (v := .int .i64 _) I ty_3 0 rfl rfl rfl rfl rfl rfl (Nat.le_of_ble_eq_true rfl) rfl ?_)
  intro w I
  refine Ops.nil ?_
  refine WP.seq ?_
  refine WP.seq ?_
  refine WP.region ?_
  refine Ops.y (v := .int .i64 _) (Y.assign rfl) ?_
  refine Ops.nil ?_
  refine WP.block ?_
  refine WP.loopE (σ := Nat) (fun k => [(1, f.val), (4, .pointer (some ⟨b4, 0, none⟩)), (7, .pointer (some ⟨b7, 0, none⟩)), (9, .pointer (some ⟨b9, 0, none⟩)), (10, .pointer (some ⟨b10, 0, none⟩)), (11, .pointer (some ⟨b11, 0, none⟩)), (12, .int .i64 k)])
    (fun k w => (∃ h1, B.h.le h1 ∧ Inv B h1 [box b11 [.int .i64 r.head.pred, .int .i64 (argv r.head x 0), .int .i64 (argv r.head x 1), .int .i64 (hvAt p.preds.xs f.xs r x k)] 52, box b10 r.enc 68, box b9 [.int .i64 0, .int .i64 0, .int .i64 0, .int .i64 0] 52, box b7 x.enc 80, box b4 p.enc 25] w) ∧ k ≤ r.body.xs.length ∧ ∀ j, j < k → ∀ hj : j < r.body.xs.length, litOk f.xs x r.body.xs[j] = true) (fun k => r.body.xs.length - k)
    ⟨0, ⟨rfl, rfl, rfl, rfl, rfl, rfl, rfl, trivial⟩, ?_, Nat.zero_le _, fun j hj => by omega⟩ ?_
  · have : hvAt p.preds.xs f.xs r x 0 = r.n := by unfold hvAt; rw [if_neg (by omega)]
    rw [this]; exact ⟨_, Heap.le.refl _, I⟩
  rintro k e w ⟨⟨h1, gl, I⟩, hk, hn⟩
  have ir := ir.le gl
  have hf := hf.le gl
  have Eh := Eh.le gl
  refine WP.seq ?_
  refine WP.seq ?_
  refine WP.region ?_
  refine Ops.y (v := .int .i64 _) (Y.move rfl) ?_
  refine Ops.y (v := .pointer (some ⟨_, _, none⟩)) (Y.fa fa_68_3 rfl) ?_
  refine Ops.y (v := .slice _ _ _) (Y.loadv ty_66 rfl (I.rdbox 1 rfl 4 1) rfl rfl) ?_
  refine Ops.y (v := .int .i64 _) (Y.lens Tryz.underlying66 rfl) ?_
  refine Ops.y (v := .bool (decide _)) (Y.lti rfl rfl) ?_
  refine Ops.nil ?_
  refine WP.cond_dec rfl (fun h => ?_) (fun h => ?_)
  · have hk' : k < r.body.xs.length := by omega
    have E1 := ir.body.is.at hk'
    have ab := aok_of ok.preds (ok.body _ (List.getElem_mem hk'))
    have pb := ab.pf ok.five hx 0
    refine WP.skip ?_
    refine WP.seq ?_
    refine WP.block ?_
    refine WP.seq ?_
    refine WP.regionQ mixed I (by kernel_rfl) ?_
    refine OpsQ.y (v := .slice _ _ _) (fun w I => Y.move rfl) ?_
    refine OpsQ.y (v := .pointer (some ⟨_, _, none⟩)) (fun w I => Y.fa fa_68_3 rfl) ?_
    refine OpsQ.y (v := .slice _ _ _) (fun w I => Y.loadv ty_66 rfl (I.rdbox 1 rfl 4 1) rfl rfl) ?_
    refine OpsQ.y (v := .int .i64 _) (fun w I => Y.move rfl) ?_
    refine OpsQ.y (v := .pointer (some ⟨_, _, none⟩)) (fun w I => Y.idxEl E1 Tryz.underlying66 Tryz.sizeOf131 rfl rfl (Int.natCast_nonneg _) rfl) ?_
    refine OpsQ.y (v := .pointer (some ⟨_, _, none⟩)) (fun w I => Y.fa fa_131_1 rfl) ?_
    refine OpsQ.y (v := .agg #[_, _]) (fun w I => Y.loadv ty_65 rfl (I.rd (E1.rd.part 1 2)) rfl rfl) ?_
    refine OpsQ.y (v := .agg #[_, _, _]) (fun w I => Y.loadv ty_80 rfl (I.rdbox 3 rfl 0 3) rfl rfl) ?_
    refine OpsQ.c (fun w I => QC.callv I Tryz.call142 (ground_ok _ I.base_ok r.body.xs[k].atom (ir.body.each _ (List.getElem_mem hk')) x ab.len ab.err) rfl) ?_
    refine OpsQ.c (fun w I => QC.callv I Tryz.call80 (rfind_ok _ I.base_ok f hf okf.pf _ pb) rfl) ?_
    refine OpsQ.y (v := .tuple #[_, _]) (fun w I => Y.move rfl) ?_
    refine OpsQ.y (v := .int .i64 _) (fun w I => Y.extract rfl rfl) ?_
    refine OpsQ.y (v := .bool _) (fun w I => Y.extract rfl rfl) ?_
    refine OpsQ.y (v := .int .i64 _) (fun w I => Y.assign rfl) ?_
    refine OpsQ.y (v := .bool _) (fun w I => Y.assign rfl) ?_
    refine OpsQ.nil ?_
    intro w I
    refine WP.seq ?_
    refine WP.seq ?_
    refine WP.region ?_
    refine Ops.y (v := .bool _) (Y.move rfl) ?_
    refine Ops.y (v := .pointer (some ⟨_, _, none⟩)) (Y.fa fa_68_3 rfl) ?_
    refine Ops.y (v := .slice _ _ _) (Y.loadv ty_66 rfl (I.rdbox 1 rfl 4 1) rfl rfl) ?_
    refine Ops.y (v := .int .i64 _) (Y.move rfl) ?_
    refine Ops.y (v := .pointer (some ⟨_, _, none⟩)) (Y.idxEl E1 Tryz.underlying66 Tryz.sizeOf131 rfl rfl (Int.natCast_nonneg _) rfl) ?_
    refine Ops.y (v := .pointer (some ⟨_, _, none⟩)) (Y.fa0 fa_131_0 rfl) ?_
    refine Ops.y (v := .bool _) (Y.loadv ty_4 rfl (I.rd (E1.rd.part 0 1)) rfl rfl) ?_
    refine Ops.y (v := .bool (decide _)) (Y.eqb Tryz.underlying4 rfl rfl) ?_
    refine Ops.nil ?_
    refine WP.cond_dec rfl (fun h8 => ?_) (fun h8 => ?_)
    · have h8 : isF f.xs (groundF r.body.xs[k].atom x) = r.body.xs[k].neg := h8
      have hno : holdsB f.xs r x = false := by
        unfold holdsB; rw [List.all_eq_false]; exact ⟨_, List.getElem_mem hk', by rw [litOk_iff]; exact fun hh => hh h8⟩
      refine WP.seq ?_
      refine WP.region ?_
      refine Ops.y (v := .agg #[.int .i64 _, .int .i64 _, .int .i64 _, .int .i64 _]) (Y.build pl_52 Tryz.zeroValue52 rfl rfl) ?_
      refine Ops.y (v := .bool _) (Y.assign rfl) ?_
      refine Ops.go (O.store (v := .agg #[_, _, _, _]) I ty_52 2 rfl rfl rfl rfl rfl rfl (Nat.le_of_ble_eq_true rfl) rfl ?_)
      intro w I
      refine Ops.nil ?_
      refine WP.ret ?_
      repeat (first | refine thenE_ret ?_ | refine blockE_ret ?_)
      exact retQ.mk (vs := [.bool _, .agg #[_, _, _, _]]) rfl ⟨rfl, ⟨_, _, _, _, _, rfl, ty_52, I.rdbox 2 rfl 0 4, rfl, rfl⟩, trivial⟩ I.ext_of (by simp only [tup, tHold, holdsF, hno]; rfl)
    have h8 : ¬ isF f.xs (groundF r.body.xs[k].atom x) = r.body.xs[k].neg := h8
    refine WP.skip ?_
    refine WP.seq ?_
    refine WP.region ?_
    refine Ops.y (v := .int .i64 _) (Y.move rfl) ?_
    refine Ops.y (v := .pointer (some ⟨_, _, none⟩)) (Y.fa fa_68_1 rfl) ?_
    refine Ops.y (v := .int .i64 _) (Y.loadv ty_3 rfl (I.rdbox 1 rfl 2 1) rfl rfl) ?_
    refine Ops.y (v := .bool (decide _)) (Y.eqi rfl rfl) ?_
    refine Ops.nil ?_
    refine WP.cond_dec rfl (fun h10 => ?_) (fun h10 => ?_)
    · have hs0 : 0 ≤ r.src := by omega
      obtain ⟨hng, hkq⟩ := ok.pos hs0
      have hlo : litOf r r.src = r.body.xs[k] := by rw [← h10]; exact litOf_at hk'
      have hval : hvAt p.preds.xs f.xs r x (k + 1) = liftV p.preds.xs[r.head.pred.toNat].kind (findF f.xs (groundF r.body.xs[k].atom x)).1 r.n := by
        unfold hvAt headV
        rw [if_pos ⟨hs0, by omega⟩, if_pos hs0, hlo, hpo]; rfl
      have hI : I64 ((findF f.xs (groundF r.body.xs[k].atom x)).1 + r.n) := by
        have h2 := ok.n
        have h1 : 0 ≤ (findF f.xs (groundF r.body.xs[k].atom x)).1 ∧ (findF f.xs (groundF r.body.xs[k].atom x)).1 ≤ 15 := by
          rw [findF_get]
          cases hlk : lkF f.xs (placeF (groundF r.body.xs[k].atom x)) with
          | none => exact ⟨by decide, by decide⟩
          | some v =>
            obtain ⟨y, hy, _, rfl⟩ := lkF_mem hlk
            have := vOk_iff.1 (fine_v (okf.fine _ hy))
            exact ⟨this.2.2.1, this.2.2.2.1⟩
        unfold I64; omega
      refine WP.regionF mixed I 11 (by kernel_rfl) ?_
      refine OpsF.y_ (v := .pointer (some ⟨_, _, none⟩)) (fun _ => runs_none _) (fun _ w us hl I => Y.fa0 fa_25_0 rfl) ?_
      refine OpsF.y_ (v := .slice _ _ _) (fun _ => runs_none _) (fun _ w us hl I => Y.loadv ty_22 rfl (I.rdbox 4 rfl 0 1) rfl rfl) ?_
      refine OpsF.y_ (v := .pointer (some ⟨_, _, none⟩)) (fun _ => runs_none _) (fun _ w us hl I => Y.fa0 fa_52_0 rfl) ?_
      refine OpsF.y_ (v := .int .i64 _) (fun _ => runs_none _) (fun _ w us hl I => Y.loadv ty_3 rfl (I.rdbox 0 rfl 0 1) rfl rfl) ?_
      refine OpsF.y_ (v := .pointer (some ⟨_, _, none⟩)) (fun _ => runs_none _) (fun _ w us hl I => Y.idxEl Eh Tryz.underlying22 Tryz.sizeOf62 rfl rfl ah.pred.1 rfl) ?_
      refine OpsF.y_ (v := .pointer (some ⟨_, _, none⟩)) (fun _ => runs_none _) (fun _ w us hl I => Y.fa fa_62_2 rfl) ?_
      refine OpsF.y_ (v := .int .i64 _) (fun _ => runs_none _) (fun _ w us hl I => Y.loadv ty_3 rfl (I.rd ((Eh.rd.part 2 1).le hl)) rfl rfl) ?_
      refine OpsF.y_ (v := .int .i64 _) (fun _ => runs_none _) (fun _ w us hl I => Y.move rfl) ?_
      refine OpsF.y_ (v := .pointer (some ⟨_, _, none⟩)) (fun _ => runs_none _) (fun _ w us hl I => Y.fa fa_68_2 rfl) ?_
      refine OpsF.y_ (v := .int .i64 _) (fun _ => runs_none _) (fun _ w us hl I => Y.loadv ty_3 rfl (I.rdbox 1 rfl 3 1) rfl rfl) ?_
      refine OpsF.c_ (fun _ => runs_none _) (fun _ w us hl I => O.callv I Tryz.call143 (liftR_ok _ I.base_ok _ _ _ hI) rfl (fun w' I' => ⟨rfl, I'⟩)) ?_
      refine OpsF.nil ?_
      intro _ w hl I
      refine Ops.y (v := .pointer (some ⟨_, _, none⟩)) (Y.fa fa_52_3 rfl) ?_
      refine Ops.go (O.store (v := .int .i64 _) I ty_3 0 rfl rfl rfl rfl rfl rfl (Nat.le_of_ble_eq_true rfl) rfl ?_)
      intro w I
      refine Ops.nil ?_
      refine WP.region ?_
      refine Ops.y (v := .int .i64 _) (Y.move rfl) ?_
      refine Ops.y (v := .int .i64 _) (Y.addi rfl rfl ⟨by omega, by omega⟩) ?_
      refine Ops.y (v := .int .i64 _) (Y.assign rfl) ?_
      refine Ops.nil ?_
      exact ⟨k + 1, ⟨⟨rfl, rfl, rfl, rfl, rfl, rfl, rfl, trivial⟩, ⟨_, gl.trans hl, by rw [hval]; exact I⟩, by omega, fun j hj hj' => by
        rcases Nat.lt_succ_iff_lt_or_eq.1 hj with h' | rfl
        · exact hn j h' hj'
        · exact litOk_iff.2 h8⟩, by omega⟩
    · have hval : hvAt p.preds.xs f.xs r x (k + 1) = hvAt p.preds.xs f.xs r x k := by
        unfold hvAt
        have : (0 ≤ r.src ∧ r.src < ((k + 1 : Nat) : Int)) ↔ (0 ≤ r.src ∧ r.src < (k : Int)) := by omega
        simp only [this]
      refine WP.skip ?_
      refine WP.region ?_
      refine Ops.y (v := .int .i64 _) (Y.move rfl) ?_
      refine Ops.y (v := .int .i64 _) (Y.addi rfl rfl ⟨by omega, by omega⟩) ?_
      refine Ops.y (v := .int .i64 _) (Y.assign rfl) ?_
      refine Ops.nil ?_
      exact ⟨k + 1, ⟨⟨rfl, rfl, rfl, rfl, rfl, rfl, rfl, trivial⟩, ⟨h1, gl, by rw [hval]; exact I⟩, by omega, fun j hj hj' => by
        rcases Nat.lt_succ_iff_lt_or_eq.1 hj with h' | rfl
        · exact hn j h' hj'
        · exact litOk_iff.2 h8⟩, by omega⟩
  obtain rfl : k = r.body.xs.length := by omega
  have hyes : holdsB f.xs r x = true := by
    unfold holdsB; rw [List.all_eq_true]; intro t ht; obtain ⟨j, hj, rfl⟩ := List.getElem_of_mem ht; exact hn j hj hj
  rw [hvAt_end ok] at I
  refine WP.exit ?_
  refine WP.seq ?_
  refine WP.regionF mixed I 2 (by kernel_rfl) ?_
  refine OpsF.y_ (v := .agg #[_, _, _, _]) (fun _ => runs_none _) (fun _ w us hl I => Y.loadv ty_52 rfl (I.rdbox 0 rfl 0 4) rfl rfl) ?_
  refine OpsF.y_ (v := .bool _) (fun _ => runs_none _) (fun _ w us hl I => Y.assign rfl) ?_
  refine OpsF.nil ?_
  intro _ w hl I
  refine Ops.go (O.store (v := .agg #[_, _, _, _]) I ty_52 2 rfl rfl rfl rfl rfl rfl (Nat.le_of_ble_eq_true rfl) rfl ?_)
  intro w I
  refine Ops.nil ?_
  refine WP.ret ?_
  repeat (first | refine thenE_ret ?_ | refine blockE_ret ?_)
  exact retQ.mk (vs := [.bool _, .agg #[_, _, _, _]]) rfl ⟨rfl, ⟨_, _, _, _, _, rfl, ty_52, I.rdbox 2 rfl 0 4, rfl, rfl⟩, trivial⟩ I.ext_of (by simp only [tup, tHold, holdsF, hyes]; rfl)
end Go.TF
end
section
/- What stands in a rule; all steps of a rule, as the document tells them. -/
namespace Go.TF
open Go Go.RowKit Go.Proofs
set_option maxRecDepth 20000

theorem any_take {α : Type} (q : α → Bool) {l : List α} {k : Nat} (hk : k < l.length) : (l.take (k + 1)).any q = ((l.take k).any q || q l[k]) := by
  rw [List.take_succ_eq_append_getElem hk, List.any_append]; simp
def stdT (r : Rul) (v : Int) (j : Nat) : Bool := standsIn r.head v || (r.body.xs.take j).any fun x => standsIn x.atom v
theorem stdT_zero (r : Rul) (v : Int) : stdT r v 0 = standsIn r.head v := by simp [stdT]
theorem stdT_end (r : Rul) (v : Int) : stdT r v r.body.xs.length = standsR r v := by unfold stdT standsR; rw [List.take_length]
theorem stdT_succ {r : Rul} {v : Int} {j : Nat} (hj : j < r.body.xs.length) : stdT r v (j + 1) = (stdT r v j || standsIn r.body.xs[j].atom v) := by
  unfold stdT; rw [any_take _ hj, Bool.or_assoc]
set_option maxHeartbeats 4000000 in
theorem stand_ok (B : Base) (hB : B.ok) (r : Rul) (hr : r.In B.h) (hlen : r.body.xs.length ≤ 3) : Fn Tryz.prog 108 [r.val] B (fun v _ => v = .agg #[.bool (standsR r 0), .bool (standsR r 1), .bool (standsR r 2)]) := by
  refine Fn.of Tryz.func108 rfl Tryz.ntmps108 (by kernel_rfl) (by simp) ?_
  intro e
  have I := Inv.start hB
  refine WP.seq ?_
  refine WP.region ?_
  refine Ops.go (O.box (v := .agg #[_, _, _, _, _]) I rfl rfl ?_)
  intro b1 w I
  refine Ops.go (O.alloc I Tryz.zeroValue143 rfl ?_)
  intro b2 w I
  refine Ops.nil ?_
  refine WP.seq ?_
  refine WP.region ?_
  refine Ops.go (O.alloc I Tryz.zeroValue143 rfl ?_)
  intro b3 w I
  refine Ops.nil ?_
  refine WP.seq ?_
  refine WP.seq ?_
  refine WP.region ?_
  refine Ops.y (v := .int .i64 _) (Y.assign rfl) ?_
  refine Ops.nil ?_
  refine WP.block ?_
  refine WP.loopE (σ := Nat) (fun k => [(1, .pointer (some ⟨b1, 0, none⟩)), (2, .pointer (some ⟨b2, 0, none⟩)), (3, .pointer (some ⟨b3, 0, none⟩)), (4, .int .i64 k)]) (fun k w => Inv B B.h [box b3 [.bool (if 0 < k then standsR r 0 else false), .bool (if 1 < k then standsR r 1 else false), .bool (if 2 < k then standsR r 2 else false)] 143, box b2 [.bool false, .bool false, .bool false] 143, box b1 r.enc 68] w ∧ k ≤ 3) (fun k => 3 - k)
    ⟨0, ⟨rfl, rfl, rfl, rfl, trivial⟩, I, by omega⟩ ?_
  rintro k e w ⟨I, hk⟩
  refine WP.seq ?_
  refine WP.seq ?_
  refine WP.region ?_
  refine Ops.y (v := .int .i64 _) (Y.move rfl) ?_
  refine Ops.y (v := .bool (decide _)) (Y.lti rfl rfl) ?_
  refine Ops.nil ?_
  refine WP.cond_dec rfl (fun h => ?_) (fun h => ?_)
  · have hk3 : k = 0 ∨ k = 1 ∨ k = 2 := by omega
    rcases hk3 with rfl | rfl | rfl
    · refine WP.skip ?_
      refine WP.seq ?_
      refine WP.block ?_
      refine WP.seq ?_
      refine WP.region ?_
      refine Ops.y (v := .int .i64 _) (Y.move rfl) ?_
      refine Ops.y (v := .pointer (some ⟨_, _, none⟩)) (Y.fa0 fa_68_0 rfl) ?_
      refine Ops.y (v := .agg #[_, _]) (Y.loadv ty_65 rfl (I.rdbox 2 rfl 0 2) rfl rfl) ?_
      refine Ops.y (v := .int .i64 _) (Y.move rfl) ?_
      refine Ops.go (O.callv I Tryz.call140 (standsR_ok _ I.base_ok r.head hr.head 0) rfl ?_)
      intro w I
      refine Ops.y (v := .pointer (some ⟨_, _, none⟩)) (Y.idxa Tryz.underlying143 Tryz.sizeOf4 rfl rfl (by omega) (by omega)) ?_
      refine Ops.go (O.store (v := .bool _) I ty_4 0 rfl rfl rfl rfl rfl rfl (Nat.le_of_ble_eq_true rfl) rfl ?_)
      intro w I
      refine Ops.nil ?_
      refine WP.seq ?_
      refine WP.region ?_
      refine Ops.y (v := .int .i64 _) (Y.assign rfl) ?_
      refine Ops.nil ?_
      refine WP.block ?_
      refine WP.loopE (σ := Nat) (fun j => [(1, .pointer (some ⟨b1, 0, none⟩)), (2, .pointer (some ⟨b2, 0, none⟩)), (3, .pointer (some ⟨b3, 0, none⟩)), (4, .int .i64 0), (5, .int .i64 j)]) (fun j w => Inv B B.h [box b3 [.bool (stdT r 0 j), .bool false, .bool false] 143, box b2 [.bool false, .bool false, .bool false] 143, box b1 r.enc 68] w ∧ j ≤ r.body.xs.length) (fun j => r.body.xs.length - j)
        ⟨0, ⟨rfl, rfl, rfl, rfl, rfl, trivial⟩, by simp only [stdT_zero]; exact I, by omega⟩ ?_
      rintro j e w ⟨I, hj⟩
      refine WP.seq ?_
      refine WP.seq ?_
      refine WP.region ?_
      refine Ops.y (v := .int .i64 _) (Y.move rfl) ?_
      refine Ops.y (v := .pointer (some ⟨_, _, none⟩)) (Y.fa fa_68_3 rfl) ?_
      refine Ops.y (v := .slice _ _ _) (Y.loadv ty_66 rfl (I.rdbox 2 rfl 4 1) rfl rfl) ?_
      refine Ops.y (v := .int .i64 _) (Y.lens Tryz.underlying66 rfl) ?_
      refine Ops.y (v := .bool (decide _)) (Y.lti rfl rfl) ?_
      refine Ops.nil ?_
      refine WP.cond_dec rfl (fun h7 => ?_) (fun h7 => ?_)
      · have hj' : j < r.body.xs.length := by omega
        have E := hr.body.is.at hj'
        cases hs : stdT r 0 j
        · refine WP.skip ?_
          refine WP.seq ?_
          refine WP.block ?_
          refine WP.region ?_
          refine Ops.y (v := .int .i64 _) (Y.move rfl) ?_
          refine Ops.y (v := .int .i64 _) (Y.move rfl) ?_
          refine Ops.y (v := .pointer (some ⟨_, _, none⟩)) (Y.idxa Tryz.underlying143 Tryz.sizeOf4 rfl rfl (by omega) (by omega)) ?_
          refine Ops.y (v := .bool false) (Y.b (Y.loadv ty_4 rfl (I.rdbox 0 rfl 0 1) rfl rfl) (hs)) ?_
          refine Ops.y (v := .bool _) (Y.move rfl) ?_
          refine Ops.ygt rfl (v := .pointer (some ⟨_, _, none⟩)) (Y.fa fa_68_3 rfl) ?_
          refine Ops.ygt rfl (v := .slice _ _ _) (Y.loadv ty_66 rfl (I.rdbox 2 rfl 4 1) rfl rfl) ?_
          refine Ops.ygt rfl (v := .int .i64 _) (Y.move rfl) ?_
          refine Ops.ygt rfl (v := .pointer (some ⟨_, _, none⟩)) (Y.idxEl E Tryz.underlying66 Tryz.sizeOf131 rfl rfl (Int.natCast_nonneg _) rfl) ?_
          refine Ops.ygt rfl (v := .pointer (some ⟨_, _, none⟩)) (Y.fa fa_131_1 rfl) ?_
          refine Ops.ygt rfl (v := .agg #[_, _]) (Y.loadv ty_65 rfl (I.rd (E.rd.part 1 2)) rfl rfl) ?_
          refine Ops.ygt rfl (v := .int .i64 _) (Y.move rfl) ?_
          refine Ops.gt rfl (O.callv I Tryz.call140 (standsR_ok _ I.base_ok r.body.xs[j].atom (hr.body.each _ (List.getElem_mem hj')) 0) rfl ?_)
          intro w I
          refine Ops.y (v := .bool _) (Y.pick_f rfl rfl) ?_
          refine Ops.y (v := .pointer (some ⟨_, _, none⟩)) (Y.idxa Tryz.underlying143 Tryz.sizeOf4 rfl rfl (by omega) (by omega)) ?_
          refine Ops.go (O.store (v := .bool _) I ty_4 0 rfl rfl rfl rfl rfl rfl (Nat.le_of_ble_eq_true rfl) rfl ?_)
          intro w I
          refine Ops.nil ?_
          refine WP.region ?_
          refine Ops.y (v := .int .i64 _) (Y.move rfl) ?_
          refine Ops.y (v := .int .i64 _) (Y.addi rfl rfl ⟨by omega, by omega⟩) ?_
          refine Ops.y (v := .int .i64 _) (Y.assign rfl) ?_
          refine Ops.nil ?_
          exact ⟨j + 1, ⟨⟨rfl, rfl, rfl, rfl, rfl, trivial⟩, by rw [stdT_succ hj', hs, Bool.false_or]; exact I, by omega⟩, by omega⟩
        · refine WP.skip ?_
          refine WP.seq ?_
          refine WP.block ?_
          refine WP.region ?_
          refine Ops.y (v := .int .i64 _) (Y.move rfl) ?_
          refine Ops.y (v := .int .i64 _) (Y.move rfl) ?_
          refine Ops.y (v := .pointer (some ⟨_, _, none⟩)) (Y.idxa Tryz.underlying143 Tryz.sizeOf4 rfl rfl (by omega) (by omega)) ?_
          refine Ops.y (v := .bool true) (Y.b (Y.loadv ty_4 rfl (I.rdbox 0 rfl 0 1) rfl rfl) (hs)) ?_
          refine Ops.y (v := .bool _) (Y.move rfl) ?_
          refine Ops.gf rfl ?_
          refine Ops.gf rfl ?_
          refine Ops.gf rfl ?_
          refine Ops.gf rfl ?_
          refine Ops.gf rfl ?_
          refine Ops.gf rfl ?_
          refine Ops.gf rfl ?_
          refine Ops.gf rfl ?_
          refine Ops.y (v := .bool _) (Y.pick_t rfl rfl) ?_
          refine Ops.y (v := .pointer (some ⟨_, _, none⟩)) (Y.idxa Tryz.underlying143 Tryz.sizeOf4 rfl rfl (by omega) (by omega)) ?_
          refine Ops.go (O.store (v := .bool _) I ty_4 0 rfl rfl rfl rfl rfl rfl (Nat.le_of_ble_eq_true rfl) rfl ?_)
          intro w I
          refine Ops.nil ?_
          refine WP.region ?_
          refine Ops.y (v := .int .i64 _) (Y.move rfl) ?_
          refine Ops.y (v := .int .i64 _) (Y.addi rfl rfl ⟨by omega, by omega⟩) ?_
          refine Ops.y (v := .int .i64 _) (Y.assign rfl) ?_
          refine Ops.nil ?_
          exact ⟨j + 1, ⟨⟨rfl, rfl, rfl, rfl, rfl, trivial⟩, by rw [stdT_succ hj', hs, Bool.true_or]; exact I, by omega⟩, by omega⟩
      obtain rfl : j = r.body.xs.length := by omega
      rw [stdT_end] at I
      refine WP.exit ?_
      refine WP.region ?_
      refine Ops.y (v := .int .i64 _) (Y.move rfl) ?_
      refine Ops.y (v := .int .i64 _) (Y.addi rfl rfl ⟨by omega, by omega⟩) ?_
      refine Ops.y (v := .int .i64 _) (Y.assign rfl) ?_
      refine Ops.nil ?_
      exact ⟨0 + 1, ⟨⟨rfl, rfl, rfl, rfl, trivial⟩, I, by omega⟩, by omega⟩
    · refine WP.skip ?_
      refine WP.seq ?_
      refine WP.block ?_
      refine WP.seq ?_
      refine WP.region ?_
      refine Ops.y (v := .int .i64 _) (Y.move rfl) ?_
      refine Ops.y (v := .pointer (some ⟨_, _, none⟩)) (Y.fa0 fa_68_0 rfl) ?_
      refine Ops.y (v := .agg #[_, _]) (Y.loadv ty_65 rfl (I.rdbox 2 rfl 0 2) rfl rfl) ?_
      refine Ops.y (v := .int .i64 _) (Y.move rfl) ?_
      refine Ops.go (O.callv I Tryz.call140 (standsR_ok _ I.base_ok r.head hr.head 1) rfl ?_)
      intro w I
      refine Ops.y (v := .pointer (some ⟨_, _, none⟩)) (Y.idxa Tryz.underlying143 Tryz.sizeOf4 rfl rfl (by omega) (by omega)) ?_
      refine Ops.go (O.store (v := .bool _) I ty_4 0 rfl rfl rfl rfl rfl rfl (Nat.le_of_ble_eq_true rfl) rfl ?_)
      intro w I
      refine Ops.nil ?_
      refine WP.seq ?_
      refine WP.region ?_
      refine Ops.y (v := .int .i64 _) (Y.assign rfl) ?_
      refine Ops.nil ?_
      refine WP.block ?_
      refine WP.loopE (σ := Nat) (fun j => [(1, .pointer (some ⟨b1, 0, none⟩)), (2, .pointer (some ⟨b2, 0, none⟩)), (3, .pointer (some ⟨b3, 0, none⟩)), (4, .int .i64 1), (5, .int .i64 j)]) (fun j w => Inv B B.h [box b3 [.bool (standsR r 0), .bool (stdT r 1 j), .bool false] 143, box b2 [.bool false, .bool false, .bool false] 143, box b1 r.enc 68] w ∧ j ≤ r.body.xs.length) (fun j => r.body.xs.length - j)
        ⟨0, ⟨rfl, rfl, rfl, rfl, rfl, trivial⟩, by simp only [stdT_zero]; exact I, by omega⟩ ?_
      rintro j e w ⟨I, hj⟩
      refine WP.seq ?_
      refine WP.seq ?_
      refine WP.region ?_
      refine Ops.y (v := .int .i64 _) (Y.move rfl) ?_
      refine Ops.y (v := .pointer (some ⟨_, _, none⟩)) (Y.fa fa_68_3 rfl) ?_
      refine Ops.y (v := .slice _ _ _) (Y.loadv ty_66 rfl (I.rdbox 2 rfl 4 1) rfl rfl) ?_
      refine Ops.y (v := .int .i64 _) (Y.lens Tryz.underlying66 rfl) ?_
      refine Ops.y (v := .bool (decide _)) (Y.lti rfl rfl) ?_
      refine Ops.nil ?_
      refine WP.cond_dec rfl (fun h7 => ?_) (fun h7 => ?_)
      · have hj' : j < r.body.xs.length := by omega
        have E := hr.body.is.at hj'
        cases hs : stdT r 1 j
        · refine WP.skip ?_
          refine WP.seq ?_
          refine WP.block ?_
          refine WP.region ?_
          refine Ops.y (v := .int .i64 _) (Y.move rfl) ?_
          refine Ops.y (v := .int .i64 _) (Y.move rfl) ?_
          refine Ops.y (v := .pointer (some ⟨_, _, none⟩)) (Y.idxa Tryz.underlying143 Tryz.sizeOf4 rfl rfl (by omega) (by omega)) ?_
          refine Ops.y (v := .bool false) (Y.b (Y.loadv ty_4 rfl (I.rdbox 0 rfl 1 1) rfl rfl) (hs)) ?_
          refine Ops.y (v := .bool _) (Y.move rfl) ?_
          refine Ops.ygt rfl (v := .pointer (some ⟨_, _, none⟩)) (Y.fa fa_68_3 rfl) ?_
          refine Ops.ygt rfl (v := .slice _ _ _) (Y.loadv ty_66 rfl (I.rdbox 2 rfl 4 1) rfl rfl) ?_
          refine Ops.ygt rfl (v := .int .i64 _) (Y.move rfl) ?_
          refine Ops.ygt rfl (v := .pointer (some ⟨_, _, none⟩)) (Y.idxEl E Tryz.underlying66 Tryz.sizeOf131 rfl rfl (Int.natCast_nonneg _) rfl) ?_
          refine Ops.ygt rfl (v := .pointer (some ⟨_, _, none⟩)) (Y.fa fa_131_1 rfl) ?_
          refine Ops.ygt rfl (v := .agg #[_, _]) (Y.loadv ty_65 rfl (I.rd (E.rd.part 1 2)) rfl rfl) ?_
          refine Ops.ygt rfl (v := .int .i64 _) (Y.move rfl) ?_
          refine Ops.gt rfl (O.callv I Tryz.call140 (standsR_ok _ I.base_ok r.body.xs[j].atom (hr.body.each _ (List.getElem_mem hj')) 1) rfl ?_)
          intro w I
          refine Ops.y (v := .bool _) (Y.pick_f rfl rfl) ?_
          refine Ops.y (v := .pointer (some ⟨_, _, none⟩)) (Y.idxa Tryz.underlying143 Tryz.sizeOf4 rfl rfl (by omega) (by omega)) ?_
          refine Ops.go (O.store (v := .bool _) I ty_4 0 rfl rfl rfl rfl rfl rfl (Nat.le_of_ble_eq_true rfl) rfl ?_)
          intro w I
          refine Ops.nil ?_
          refine WP.region ?_
          refine Ops.y (v := .int .i64 _) (Y.move rfl) ?_
          refine Ops.y (v := .int .i64 _) (Y.addi rfl rfl ⟨by omega, by omega⟩) ?_
          refine Ops.y (v := .int .i64 _) (Y.assign rfl) ?_
          refine Ops.nil ?_
          exact ⟨j + 1, ⟨⟨rfl, rfl, rfl, rfl, rfl, trivial⟩, by rw [stdT_succ hj', hs, Bool.false_or]; exact I, by omega⟩, by omega⟩
        · refine WP.skip ?_
          refine WP.seq ?_
          refine WP.block ?_
          refine WP.region ?_
          refine Ops.y (v := .int .i64 _) (Y.move rfl) ?_
          refine Ops.y (v := .int .i64 _) (Y.move rfl) ?_
          refine Ops.y (v := .pointer (some ⟨_, _, none⟩)) (Y.idxa Tryz.underlying143 Tryz.sizeOf4 rfl rfl (by omega) (by omega)) ?_
          refine Ops.y (v := .bool true) (Y.b (Y.loadv ty_4 rfl (I.rdbox 0 rfl 1 1) rfl rfl) (hs)) ?_
          refine Ops.y (v := .bool _) (Y.move rfl) ?_
          refine Ops.gf rfl ?_
          refine Ops.gf rfl ?_
          refine Ops.gf rfl ?_
          refine Ops.gf rfl ?_
          refine Ops.gf rfl ?_
          refine Ops.gf rfl ?_
          refine Ops.gf rfl ?_
          refine Ops.gf rfl ?_
          refine Ops.y (v := .bool _) (Y.pick_t rfl rfl) ?_
          refine Ops.y (v := .pointer (some ⟨_, _, none⟩)) (Y.idxa Tryz.underlying143 Tryz.sizeOf4 rfl rfl (by omega) (by omega)) ?_
          refine Ops.go (O.store (v := .bool _) I ty_4 0 rfl rfl rfl rfl rfl rfl (Nat.le_of_ble_eq_true rfl) rfl ?_)
          intro w I
          refine Ops.nil ?_
          refine WP.region ?_
          refine Ops.y (v := .int .i64 _) (Y.move rfl) ?_
          refine Ops.y (v := .int .i64 _) (Y.addi rfl rfl ⟨by omega, by omega⟩) ?_
          refine Ops.y (v := .int .i64 _) (Y.assign rfl) ?_
          refine Ops.nil ?_
          exact ⟨j + 1, ⟨⟨rfl, rfl, rfl, rfl, rfl, trivial⟩, by rw [stdT_succ hj', hs, Bool.true_or]; exact I, by omega⟩, by omega⟩
      obtain rfl : j = r.body.xs.length := by omega
      rw [stdT_end] at I
      refine WP.exit ?_
      refine WP.region ?_
      refine Ops.y (v := .int .i64 _) (Y.move rfl) ?_
      refine Ops.y (v := .int .i64 _) (Y.addi rfl rfl ⟨by omega, by omega⟩) ?_
      refine Ops.y (v := .int .i64 _) (Y.assign rfl) ?_
      refine Ops.nil ?_
      exact ⟨1 + 1, ⟨⟨rfl, rfl, rfl, rfl, trivial⟩, I, by omega⟩, by omega⟩
    · refine WP.skip ?_
      refine WP.seq ?_
      refine WP.block ?_
      refine WP.seq ?_
      refine WP.region ?_
      refine Ops.y (v := .int .i64 _) (Y.move rfl) ?_
      refine Ops.y (v := .pointer (some ⟨_, _, none⟩)) (Y.fa0 fa_68_0 rfl) ?_
      refine Ops.y (v := .agg #[_, _]) (Y.loadv ty_65 rfl (I.rdbox 2 rfl 0 2) rfl rfl) ?_
      refine Ops.y (v := .int .i64 _) (Y.move rfl) ?_
      refine Ops.go (O.callv I Tryz.call140 (standsR_ok _ I.base_ok r.head hr.head 2) rfl ?_)
      intro w I
      refine Ops.y (v := .pointer (some ⟨_, _, none⟩)) (Y.idxa Tryz.underlying143 Tryz.sizeOf4 rfl rfl (by omega) (by omega)) ?_
      refine Ops.go (O.store (v := .bool _) I ty_4 0 rfl rfl rfl rfl rfl rfl (Nat.le_of_ble_eq_true rfl) rfl ?_)
      intro w I
      refine Ops.nil ?_
      refine WP.seq ?_
      refine WP.region ?_
      refine Ops.y (v := .int .i64 _) (Y.assign rfl) ?_
      refine Ops.nil ?_
      refine WP.block ?_
      refine WP.loopE (σ := Nat) (fun j => [(1, .pointer (some ⟨b1, 0, none⟩)), (2, .pointer (some ⟨b2, 0, none⟩)), (3, .pointer (some ⟨b3, 0, none⟩)), (4, .int .i64 2), (5, .int .i64 j)]) (fun j w => Inv B B.h [box b3 [.bool (standsR r 0), .bool (standsR r 1), .bool (stdT r 2 j)] 143, box b2 [.bool false, .bool false, .bool false] 143, box b1 r.enc 68] w ∧ j ≤ r.body.xs.length) (fun j => r.body.xs.length - j)
        ⟨0, ⟨rfl, rfl, rfl, rfl, rfl, trivial⟩, by simp only [stdT_zero]; exact I, by omega⟩ ?_
      rintro j e w ⟨I, hj⟩
      refine WP.seq ?_
      refine WP.seq ?_
      refine WP.region ?_
      refine Ops.y (v := .int .i64 _) (Y.move rfl) ?_
      refine Ops.y (v := .pointer (some ⟨_, _, none⟩)) (Y.fa fa_68_3 rfl) ?_
      refine Ops.y (v := .slice _ _ _) (Y.loadv ty_66 rfl (I.rdbox 2 rfl 4 1) rfl rfl) ?_
      refine Ops.y (v := .int .i64 _) (Y.lens Tryz.underlying66 rfl) ?_
      refine Ops.y (v := .bool (decide _)) (Y.lti rfl rfl) ?_
      refine Ops.nil ?_
      refine WP.cond_dec rfl (fun h7 => ?_) (fun h7 => ?_)
      · have hj' : j < r.body.xs.length := by omega
        have E := hr.body.is.at hj'
        cases hs : stdT r 2 j
        · refine WP.skip ?_
          refine WP.seq ?_
          refine WP.block ?_
          refine WP.region ?_
          refine Ops.y (v := .int .i64 _) (Y.move rfl) ?_
          refine Ops.y (v := .int .i64 _) (Y.move rfl) ?_
          refine Ops.y (v := .pointer (some ⟨_, _, none⟩)) (Y.idxa Tryz.underlying143 Tryz.sizeOf4 rfl rfl (by omega) (by omega)) ?_
          refine Ops.y (v := .bool false) (Y.b (Y.loadv ty_4 rfl (I.rdbox 0 rfl 2 1) rfl rfl) (hs)) ?_
          refine Ops.y (v := .bool _) (Y.move rfl) ?_
          refine Ops.ygt rfl (v := .pointer (some ⟨_, _, none⟩)) (Y.fa fa_68_3 rfl) ?_
          refine Ops.ygt rfl (v := .slice _ _ _) (Y.loadv ty_66 rfl (I.rdbox 2 rfl 4 1) rfl rfl) ?_
          refine Ops.ygt rfl (v := .int .i64 _) (Y.move rfl) ?_
          refine Ops.ygt rfl (v := .pointer (some ⟨_, _, none⟩)) (Y.idxEl E Tryz.underlying66 Tryz.sizeOf131 rfl rfl (Int.natCast_nonneg _) rfl) ?_
          refine Ops.ygt rfl (v := .pointer (some ⟨_, _, none⟩)) (Y.fa fa_131_1 rfl) ?_
          refine Ops.ygt rfl (v := .agg #[_, _]) (Y.loadv ty_65 rfl (I.rd (E.rd.part 1 2)) rfl rfl) ?_
          refine Ops.ygt rfl (v := .int .i64 _) (Y.move rfl) ?_
          refine Ops.gt rfl (O.callv I Tryz.call140 (standsR_ok _ I.base_ok r.body.xs[j].atom (hr.body.each _ (List.getElem_mem hj')) 2) rfl ?_)
          intro w I
          refine Ops.y (v := .bool _) (Y.pick_f rfl rfl) ?_
          refine Ops.y (v := .pointer (some ⟨_, _, none⟩)) (Y.idxa Tryz.underlying143 Tryz.sizeOf4 rfl rfl (by omega) (by omega)) ?_
          refine Ops.go (O.store (v := .bool _) I ty_4 0 rfl rfl rfl rfl rfl rfl (Nat.le_of_ble_eq_true rfl) rfl ?_)
          intro w I
          refine Ops.nil ?_
          refine WP.region ?_
          refine Ops.y (v := .int .i64 _) (Y.move rfl) ?_
          refine Ops.y (v := .int .i64 _) (Y.addi rfl rfl ⟨by omega, by omega⟩) ?_
          refine Ops.y (v := .int .i64 _) (Y.assign rfl) ?_
          refine Ops.nil ?_
          exact ⟨j + 1, ⟨⟨rfl, rfl, rfl, rfl, rfl, trivial⟩, by rw [stdT_succ hj', hs, Bool.false_or]; exact I, by omega⟩, by omega⟩
        · refine WP.skip ?_
          refine WP.seq ?_
          refine WP.block ?_
          refine WP.region ?_
          refine Ops.y (v := .int .i64 _) (Y.move rfl) ?_
          refine Ops.y (v := .int .i64 _) (Y.move rfl) ?_
          refine Ops.y (v := .pointer (some ⟨_, _, none⟩)) (Y.idxa Tryz.underlying143 Tryz.sizeOf4 rfl rfl (by omega) (by omega)) ?_
          refine Ops.y (v := .bool true) (Y.b (Y.loadv ty_4 rfl (I.rdbox 0 rfl 2 1) rfl rfl) (hs)) ?_
          refine Ops.y (v := .bool _) (Y.move rfl) ?_
          refine Ops.gf rfl ?_
          refine Ops.gf rfl ?_
          refine Ops.gf rfl ?_
          refine Ops.gf rfl ?_
          refine Ops.gf rfl ?_
          refine Ops.gf rfl ?_
          refine Ops.gf rfl ?_
          refine Ops.gf rfl ?_
          refine Ops.y (v := .bool _) (Y.pick_t rfl rfl) ?_
          refine Ops.y (v := .pointer (some ⟨_, _, none⟩)) (Y.idxa Tryz.underlying143 Tryz.sizeOf4 rfl rfl (by omega) (by omega)) ?_
          refine Ops.go (O.store (v := .bool _) I ty_4 0 rfl rfl rfl rfl rfl rfl (Nat.le_of_ble_eq_true rfl) rfl ?_)
          intro w I
          refine Ops.nil ?_
          refine WP.region ?_
          refine Ops.y (v := .int .i64 _) (Y.move rfl) ?_
          refine Ops.y (v := .int .i64 _) (Y.addi rfl rfl ⟨by omega, by omega⟩) ?_
          refine Ops.y (v := .int .i64 _) (Y.assign rfl) ?_
          refine Ops.nil ?_
          exact ⟨j + 1, ⟨⟨rfl, rfl, rfl, rfl, rfl, trivial⟩, by rw [stdT_succ hj', hs, Bool.true_or]; exact I, by omega⟩, by omega⟩
      obtain rfl : j = r.body.xs.length := by omega
      rw [stdT_end] at I
      refine WP.exit ?_
      refine WP.region ?_
      refine Ops.y (v := .int .i64 _) (Y.move rfl) ?_
      refine Ops.y (v := .int .i64 _) (Y.addi rfl rfl ⟨by omega, by omega⟩) ?_
      refine Ops.y (v := .int .i64 _) (Y.assign rfl) ?_
      refine Ops.nil ?_
      exact ⟨2 + 1, ⟨⟨rfl, rfl, rfl, rfl, trivial⟩, I, by omega⟩, by omega⟩
  obtain rfl : k = 3 := by omega
  refine WP.exit ?_
  refine WP.seq ?_
  refine WP.region ?_
  refine Ops.y (v := .agg #[_, _, _]) (Y.loadv ty_143 rfl (I.rdbox 0 rfl 0 3) rfl rfl) ?_
  refine Ops.go (O.store (v := .agg #[_, _, _]) I ty_143 1 rfl rfl rfl rfl rfl rfl (Nat.le_of_ble_eq_true rfl) rfl ?_)
  intro w I
  refine Ops.nil ?_
  refine WP.ret ?_
  repeat (first | refine thenE_ret ?_ | refine blockE_ret ?_)
  exact retQ.mk (vs := [.agg #[_, _, _]]) rfl ⟨⟨_, _, _, _, _, rfl, ty_143, I.rdbox 1 rfl 0 3, rfl, rfl⟩, trivial⟩ I.ext_of (rfl)
theorem stdTri (a : Nat) (s q : Bool) (h : (decide ((a : Int) = 0) || s) = q) : (¬ (a : Int) > 0 ∧ q = true) ∨ ((a : Int) > 0 ∧ s = true ∧ q = true) ∨ ((a : Int) > 0 ∧ s = false ∧ q = false) := by
  subst h
  by_cases h0 : (a : Int) > 0
  · rw [decide_eq_false (show ¬ (a : Int) = 0 by omega), Bool.false_or]
    cases s
    · exact .inr (.inr ⟨h0, rfl, rfl⟩)
    · exact .inr (.inl ⟨h0, rfl, rfl⟩)
  · rw [decide_eq_true (show (a : Int) = 0 by omega), Bool.true_or]
    exact .inl ⟨h0, rfl⟩
def stepV (f : List Fct) (n : Int) (r : Rul) (x : Vrs) : List Stp := if stdOk r x && holdsB f r x then [⟨n, x⟩] else []
theorem filter_map_flat {α β : Type} (q : α → Bool) (g : α → β) : ∀ l : List α, (l.filter q).map g = l.flatMap fun x => if q x then [g x] else []
  | [] => rfl
  | x :: l => by
    rw [List.filter_cons, List.flatMap_cons, ← filter_map_flat q g l]
    cases q x <;> rfl
def C5 (f : List Fct) (n : Int) (r : Rul) (a b k : Nat) : List Stp := (List.range k).flatMap fun c : Nat => stepV f n r ⟨a, b, c⟩
def B5 (f : List Fct) (n : Int) (r : Rul) (a k : Nat) : List Stp := (List.range k).flatMap fun b : Nat => C5 f n r a b 5
def A5 (f : List Fct) (n : Int) (r : Rul) (k : Nat) : List Stp := (List.range k).flatMap fun a : Nat => B5 f n r a 5
theorem steps_A5 (f : List Fct) (n : Int) (r : Rul) : stepsF f n r = A5 f n r 5 := by
  unfold stepsF A5 B5 C5 stepV
  rw [filter_map_flat]
  unfold vecs
  simp only [List.flatMap_assoc, List.flatMap_map]
theorem C5_succ (f : List Fct) (n : Int) (r : Rul) (a b k : Nat) : C5 f n r a b (k + 1) = C5 f n r a b k ++ stepV f n r ⟨a, b, k⟩ := by unfold C5; rw [List.range_succ, List.flatMap_append]; simp
theorem B5_succ (f : List Fct) (n : Int) (r : Rul) (a k : Nat) : B5 f n r a (k + 1) = B5 f n r a k ++ C5 f n r a k 5 := by unfold B5; rw [List.range_succ, List.flatMap_append]; simp
theorem A5_succ (f : List Fct) (n : Int) (r : Rul) (k : Nat) : A5 f n r (k + 1) = A5 f n r k ++ B5 f n r k 5 := by unfold A5; rw [List.range_succ, List.flatMap_append]; simp
theorem stepV_le (f : List Fct) (n : Int) (r : Rul) (x : Vrs) : (stepV f n r x).length ≤ 1 := by unfold stepV; split <;> simp
theorem C5_le (f : List Fct) (n : Int) (r : Rul) (a b : Nat) : ∀ k, (C5 f n r a b k).length ≤ k
  | 0 => by simp [C5]
  | k + 1 => by rw [C5_succ, List.length_append]; have := C5_le f n r a b k; have := stepV_le f n r ⟨a, b, k⟩; omega
theorem B5_le (f : List Fct) (n : Int) (r : Rul) (a : Nat) : ∀ k, (B5 f n r a k).length ≤ 5 * k
  | 0 => by simp [B5]
  | k + 1 => by rw [B5_succ, List.length_append]; have := B5_le f n r a k; have := C5_le f n r a k 5; omega
theorem A5_le (f : List Fct) (n : Int) (r : Rul) : ∀ k, (A5 f n r k).length ≤ 25 * k
  | 0 => by simp [A5]
  | k + 1 => by rw [A5_succ, List.length_append]; have := A5_le f n r k; have := B5_le f n r k 5; omega
set_option maxHeartbeats 8000000 in
theorem AllOf_ok (B : Base) (hB : B.ok) (p : Prg) (hp : p.In B.h) (f : Sl Fct) (hf : Fcts f B.h) (n : Int) (r : Rul) (h0 : 0 ≤ n) (hr : p.rules.xs[n.toNat]? = some r) (ok : ROk p.preds.xs r) (okf : FOk p.preds.xs f.xs) :
    Fn Tryz.prog 47 [p.val, f.val, .int .i64 n] B (StpsR (stepsF f.xs n r)) := by
  have Er := hp.rules.is.el.el hr
  have ir := hp.rules.each _ (List.mem_of_getElem? hr)
  refine Fn.of Tryz.func47 rfl Tryz.ntmps47 (by kernel_rfl) (by simp) ?_
  intro e
  have I := Inv.start hB
  refine WP.seq ?_
  refine WP.region ?_
  refine Ops.go (O.box (v := .agg #[_, _]) I rfl rfl ?_)
  intro b3 w I
  refine Ops.y (v := .slice _ _ _) (Y.assign rfl) ?_
  refine Ops.nil ?_
  refine WP.seq ?_
  refine WP.region ?_
  refine Ops.y (v := .slice _ _ _) (Y.assign rfl) ?_
  refine Ops.nil ?_
  refine WP.seq ?_
  refine WP.region ?_
  refine Ops.y (v := .pointer (some ⟨_, _, none⟩)) (Y.fa fa_25_1 rfl) ?_
  refine Ops.y (v := .slice _ _ _) (Y.loadv ty_23 rfl (I.rdbox 0 rfl 1 1) rfl rfl) ?_
  refine Ops.y (v := .int .i64 _) (Y.move rfl) ?_
  refine Ops.y (v := .pointer (some ⟨_, _, none⟩)) (Y.idxEl Er Tryz.underlying23 Tryz.sizeOf68 rfl rfl h0 rfl) ?_
  refine Ops.y (v := .agg #[_, _, _, _, _]) (Y.loadv ty_68 rfl (I.rd (Er.rd.part 0 5)) rfl rfl) ?_
  refine Ops.go (O.callv I Tryz.call108 (stand_ok _ I.base_ok r ir ok.len) rfl ?_)
  intro w I
  refine Ops.go (O.alloc I Tryz.zeroValue143 rfl ?_)
  intro b8 w I
  refine Ops.go (O.store (v := .agg #[_, _, _]) I ty_143 0 rfl rfl rfl rfl rfl rfl (Nat.le_of_ble_eq_true rfl) rfl ?_)
  intro w I
  refine Ops.nil ?_
  refine WP.seq ?_
  refine WP.seq ?_
  refine WP.region ?_
  refine Ops.y (v := .int .i64 _) (Y.assign rfl) ?_
  refine Ops.nil ?_
  refine WP.block ?_
  have I := I.nilSl 82 4
  refine WP.loopE (σ := Nat × Value × Heap) (fun s => [(1, f.val), (2, .int .i64 n), (3, .pointer (some ⟨b3, 0, none⟩)), (7, s.2.1), (8, .pointer (some ⟨b8, 0, none⟩)), (9, .int .i64 s.1)])
    (fun s w => Inv B s.2.2 [ownSl 82 4 s.2.1 (A5 f.xs n r s.1).length ((A5 f.xs n r s.1).flatMap Stp.enc), box b8 [.bool (standsR r 0), .bool (standsR r 1), .bool (standsR r 2)] 143, box b3 p.enc 25] w ∧ s.1 ≤ 5 ∧ B.h.le s.2.2) (fun s => 5 - s.1)
    ⟨(0, .slice none 0 0, B.h), ⟨rfl, rfl, rfl, rfl, rfl, rfl, trivial⟩, I, by omega, Heap.le.refl _⟩ ?_
  rintro ⟨a, va, ha⟩ e w ⟨I, ka, la⟩
  dsimp only at I ka la ⊢
  refine WP.seq ?_
  refine WP.seq ?_
  refine WP.region ?_
  refine Ops.y (v := .int .i64 _) (Y.move rfl) ?_
  refine Ops.y (v := .bool (decide _)) (Y.lei rfl rfl) ?_
  refine Ops.nil ?_
  refine WP.cond_dec rfl (fun h4 => ?_) (fun h4 => ?_)
  · have ka' : a < 5 := by omega
    refine WP.skip ?_
    refine WP.seq ?_
    refine WP.block ?_
    refine WP.seq ?_
    refine WP.region ?_
    refine Ops.y (v := .int .i64 _) (Y.assign rfl) ?_
    refine Ops.nil ?_
    refine WP.block ?_
    refine WP.loopE (σ := Nat × Value × Heap) (fun s => [(1, f.val), (2, .int .i64 n), (3, .pointer (some ⟨b3, 0, none⟩)), (7, s.2.1), (8, .pointer (some ⟨b8, 0, none⟩)), (9, .int .i64 a), (10, .int .i64 s.1)])
      (fun s w => Inv B s.2.2 [ownSl 82 4 s.2.1 (A5 f.xs n r a ++ B5 f.xs n r a s.1).length ((A5 f.xs n r a ++ B5 f.xs n r a s.1).flatMap Stp.enc), box b8 [.bool (standsR r 0), .bool (standsR r 1), .bool (standsR r 2)] 143, box b3 p.enc 25] w ∧ s.1 ≤ 5 ∧ B.h.le s.2.2) (fun s => 5 - s.1)
      ⟨(0, va, ha), ⟨rfl, rfl, rfl, rfl, rfl, rfl, rfl, trivial⟩, by simpa [B5] using I, by omega, la⟩ ?_
    rintro ⟨b, vb, hb⟩ e w ⟨I, kb, lb⟩
    dsimp only at I kb lb ⊢
    refine WP.seq ?_
    refine WP.seq ?_
    refine WP.region ?_
    refine Ops.y (v := .int .i64 _) (Y.move rfl) ?_
    refine Ops.y (v := .bool (decide _)) (Y.lei rfl rfl) ?_
    refine Ops.nil ?_
    refine WP.cond_dec rfl (fun h7 => ?_) (fun h7 => ?_)
    · have kb' : b < 5 := by omega
      refine WP.skip ?_
      refine WP.seq ?_
      refine WP.block ?_
      refine WP.seq ?_
      refine WP.region ?_
      refine Ops.y (v := .int .i64 _) (Y.assign rfl) ?_
      refine Ops.nil ?_
      refine WP.block ?_
      refine WP.loopE (σ := Nat × Value × Heap) (fun s => [(1, f.val), (2, .int .i64 n), (3, .pointer (some ⟨b3, 0, none⟩)), (7, s.2.1), (8, .pointer (some ⟨b8, 0, none⟩)), (9, .int .i64 a), (10, .int .i64 b), (11, .int .i64 s.1)])
        (fun s w => Inv B s.2.2 [ownSl 82 4 s.2.1 (A5 f.xs n r a ++ B5 f.xs n r a b ++ C5 f.xs n r a b s.1).length ((A5 f.xs n r a ++ B5 f.xs n r a b ++ C5 f.xs n r a b s.1).flatMap Stp.enc), box b8 [.bool (standsR r 0), .bool (standsR r 1), .bool (standsR r 2)] 143, box b3 p.enc 25] w ∧ s.1 ≤ 5 ∧ B.h.le s.2.2) (fun s => 5 - s.1)
        ⟨(0, vb, hb), ⟨rfl, rfl, rfl, rfl, rfl, rfl, rfl, rfl, trivial⟩, by simpa [C5] using I, by omega, lb⟩ ?_
      rintro ⟨c, vc, hc⟩ e w ⟨I, kc, lc⟩
      dsimp only at I kc lc ⊢
      refine WP.seq ?_
      refine WP.seq ?_
      refine WP.region ?_
      refine Ops.y (v := .int .i64 _) (Y.move rfl) ?_
      refine Ops.y (v := .bool (decide _)) (Y.lei rfl rfl) ?_
      refine Ops.nil ?_
      refine WP.cond_dec rfl (fun h10 => ?_) (fun h10 => ?_)
      · have kc' : c < 5 := by omega
        obtain ⟨q0, hq0⟩ : ∃ q, (decide ((a : Int) = 0) || standsR r 0) = q := ⟨_, rfl⟩
        obtain ⟨q1, hq1⟩ : ∃ q, (decide ((b : Int) = 0) || standsR r 1) = q := ⟨_, rfl⟩
        obtain ⟨q2, hq2⟩ : ∃ q, (decide ((c : Int) = 0) || standsR r 2) = q := ⟨_, rfl⟩
        have hst : stdOk r ⟨a, b, c⟩ = (q0 && q1 && q2) := by unfold stdOk; rw [hq0, hq1, hq2]
        have la1 := A5_le f.xs n r a
        have lb1 := B5_le f.xs n r a b
        have lc1 := C5_le f.xs n r a b c
        have l125 : (A5 f.xs n r a ++ B5 f.xs n r a b ++ C5 f.xs n r a b c).length ≤ 1000 := by simp only [List.length_append]; omega
        have lsn : (A5 f.xs n r a ++ B5 f.xs n r a b ++ C5 f.xs n r a b c ++ [(⟨n, ⟨a, b, c⟩⟩ : Stp)]).length = (A5 f.xs n r a ++ B5 f.xs n r a b ++ C5 f.xs n r a b c).length + 1 := by rw [List.length_append]; rfl
        refine WP.skip ?_
        refine WP.seq ?_
        refine WP.block ?_
        refine WP.seq ?_
        refine WP.seq ?_
        refine WP.cutK (σ := Unit) (fun _ => [(1, f.val), (2, .int .i64 n), (3, .pointer (some ⟨b3, 0, none⟩)), (7, vc), (8, .pointer (some ⟨b8, 0, none⟩)), (9, .int .i64 a), (10, .int .i64 b), (11, .int .i64 c), (57, .bool (!(q0 && q1 && q2)))]) (fun _ w => Inv B hc [ownSl 82 4 vc (A5 f.xs n r a ++ B5 f.xs n r a b ++ C5 f.xs n r a b c).length ((A5 f.xs n r a ++ B5 f.xs n r a b ++ C5 f.xs n r a b c).flatMap Stp.enc), box b8 [.bool (standsR r 0), .bool (standsR r 1), .bool (standsR r 2)] 143, box b3 p.enc 25] w) ?_ ?_
        · rcases stdTri a (standsR r 0) q0 hq0 with ⟨ha, rfl⟩ | ⟨ha, sa, rfl⟩ | ⟨ha, sa, rfl⟩ <;> rcases stdTri b (standsR r 1) q1 hq1 with ⟨hb, rfl⟩ | ⟨hb, sb, rfl⟩ | ⟨hb, sb, rfl⟩ <;> rcases stdTri c (standsR r 2) q2 hq2 with ⟨hc, rfl⟩ | ⟨hc, sc, rfl⟩ | ⟨hc, sc, rfl⟩
          all_goals refine WP.region ?_
          all_goals refine Ops.y (v := .int .i64 _) (Y.move rfl) ?_
          all_goals first | refine Ops.y (v := .bool true) (Y.dec_t (Y.gti rfl rfl) (by assumption)) ?_ | refine Ops.y (v := .bool false) (Y.dec_f (Y.gti rfl rfl) (by assumption)) ?_
          all_goals refine Ops.y (v := .bool _) (Y.move rfl) ?_
          all_goals first | refine Ops.gf rfl ?_ | refine Ops.ygt rfl (v := .pointer (some ⟨_, _, none⟩)) (Y.idxa Tryz.underlying143 Tryz.sizeOf4 rfl rfl (by decide) (by decide)) ?_
          all_goals first | refine Ops.gf rfl ?_ | refine Ops.ygt rfl (v := .bool true) (Y.b (Y.loadv ty_4 rfl (I.rdbox 1 rfl 0 1) rfl rfl) (by assumption)) ?_ | refine Ops.ygt rfl (v := .bool false) (Y.b (Y.loadv ty_4 rfl (I.rdbox 1 rfl 0 1) rfl rfl) (by assumption)) ?_
          all_goals first | refine Ops.gf rfl ?_ | refine Ops.ygt rfl (v := .bool true) (Y.b (Y.not rfl) rfl) ?_ | refine Ops.ygt rfl (v := .bool false) (Y.b (Y.not rfl) rfl) ?_
          all_goals first | refine Ops.y (v := .bool _) (Y.pick_t rfl rfl) ?_ | refine Ops.y (v := .bool _) (Y.pick_f rfl rfl) ?_
          all_goals refine Ops.y (v := .bool _) (Y.move rfl) ?_
          all_goals first | refine Ops.gf rfl ?_ | refine Ops.ygt rfl (v := .int .i64 _) (Y.move rfl) ?_
          all_goals first | refine Ops.gf rfl ?_ | refine Ops.ygt rfl (v := .bool true) (Y.dec_t (Y.gti rfl rfl) (by assumption)) ?_ | refine Ops.ygt rfl (v := .bool false) (Y.dec_f (Y.gti rfl rfl) (by assumption)) ?_
          all_goals first | refine Ops.gf rfl ?_ | refine Ops.ygt rfl (v := .bool _) (Y.move rfl) ?_
          all_goals first | refine Ops.gf rfl ?_ | refine Ops.ygt rfl (v := .pointer (some ⟨_, _, none⟩)) (Y.idxa Tryz.underlying143 Tryz.sizeOf4 rfl rfl (by decide) (by decide)) ?_
          all_goals first | refine Ops.gf rfl ?_ | refine Ops.ygt rfl (v := .bool true) (Y.b (Y.loadv ty_4 rfl (I.rdbox 1 rfl 1 1) rfl rfl) (by assumption)) ?_ | refine Ops.ygt rfl (v := .bool false) (Y.b (Y.loadv ty_4 rfl (I.rdbox 1 rfl 1 1) rfl rfl) (by assumption)) ?_
          all_goals first | refine Ops.gf rfl ?_ | refine Ops.ygt rfl (v := .bool true) (Y.b (Y.not rfl) rfl) ?_ | refine Ops.ygt rfl (v := .bool false) (Y.b (Y.not rfl) rfl) ?_
          all_goals first | refine Ops.gf rfl ?_ | refine Ops.ygt rfl (v := .bool _) (Y.pick_t rfl rfl) ?_ | refine Ops.ygt rfl (v := .bool _) (Y.pick_f rfl rfl) ?_
          all_goals first | refine Ops.y (v := .bool _) (Y.pick_t rfl rfl) ?_ | refine Ops.y (v := .bool _) (Y.pick_f rfl rfl) ?_
          all_goals refine Ops.y (v := .bool _) (Y.move rfl) ?_
          all_goals first | refine Ops.gf rfl ?_ | refine Ops.ygt rfl (v := .int .i64 _) (Y.move rfl) ?_
          all_goals first | refine Ops.gf rfl ?_ | refine Ops.ygt rfl (v := .bool true) (Y.dec_t (Y.gti rfl rfl) (by assumption)) ?_ | refine Ops.ygt rfl (v := .bool false) (Y.dec_f (Y.gti rfl rfl) (by assumption)) ?_
          all_goals first | refine Ops.gf rfl ?_ | refine Ops.ygt rfl (v := .bool _) (Y.move rfl) ?_
          all_goals first | refine Ops.gf rfl ?_ | refine Ops.ygt rfl (v := .pointer (some ⟨_, _, none⟩)) (Y.idxa Tryz.underlying143 Tryz.sizeOf4 rfl rfl (by decide) (by decide)) ?_
          all_goals first | refine Ops.gf rfl ?_ | refine Ops.ygt rfl (v := .bool true) (Y.b (Y.loadv ty_4 rfl (I.rdbox 1 rfl 2 1) rfl rfl) (by assumption)) ?_ | refine Ops.ygt rfl (v := .bool false) (Y.b (Y.loadv ty_4 rfl (I.rdbox 1 rfl 2 1) rfl rfl) (by assumption)) ?_
          all_goals first | refine Ops.gf rfl ?_ | refine Ops.ygt rfl (v := .bool true) (Y.b (Y.not rfl) rfl) ?_ | refine Ops.ygt rfl (v := .bool false) (Y.b (Y.not rfl) rfl) ?_
          all_goals first | refine Ops.gf rfl ?_ | refine Ops.ygt rfl (v := .bool _) (Y.pick_t rfl rfl) ?_ | refine Ops.ygt rfl (v := .bool _) (Y.pick_f rfl rfl) ?_
          all_goals first | refine Ops.y (v := .bool _) (Y.pick_t rfl rfl) ?_ | refine Ops.y (v := .bool _) (Y.pick_f rfl rfl) ?_
          all_goals refine Ops.nil ?_
          all_goals exact ⟨(), ⟨rfl, rfl, rfl, rfl, rfl, rfl, rfl, rfl, rfl, trivial⟩, I⟩
        rintro _ e w I
        cases hso : (q0 && q1 && q2)
        · refine WP.cond_t rfl ?_
          have hsv : stepV f.xs n r ⟨a, b, c⟩ = [] := by unfold stepV; rw [hst, hso]; rfl
          refine WP.exit ?_
          refine WP.region ?_
          refine Ops.y (v := .int .i64 _) (Y.move rfl) ?_
          refine Ops.y (v := .int .i64 _) (Y.addi rfl rfl ⟨by omega, by omega⟩) ?_
          refine Ops.y (v := .int .i64 _) (Y.assign rfl) ?_
          refine Ops.nil ?_
          exact ⟨(c + 1, vc, hc), ⟨⟨rfl, rfl, rfl, rfl, rfl, rfl, rfl, rfl, trivial⟩, by dsimp only; rw [C5_succ, hsv, List.append_nil]; exact I, by dsimp only; omega, lc⟩, by dsimp only; omega⟩
        refine WP.cond_f rfl ?_
        have hvs : VsOk ⟨a, b, c⟩ := ⟨⟨by dsimp only; omega, by dsimp only; omega⟩, ⟨by dsimp only; omega, by dsimp only; omega⟩, ⟨by dsimp only; omega, by dsimp only; omega⟩⟩
        refine WP.skip ?_
        refine WP.seq ?_
        refine WP.region ?_
        refine Ops.y (v := .int .i64 _) (Y.move rfl) ?_
        refine Ops.y (v := .int .i64 _) (Y.move rfl) ?_
        refine Ops.y (v := .int .i64 _) (Y.move rfl) ?_
        refine Ops.y (v := .agg #[.int .i64 _, .int .i64 _, .int .i64 _]) (Y.builda Tryz.underlying80 Tryz.zeroValue80 Tryz.sizeOf3 rfl rfl) ?_
        refine Ops.go (O.alloc I Tryz.zeroValue80 rfl ?_)
        intro b12 w I
        refine Ops.go (O.store (v := .agg #[_, _, _]) I ty_80 0 rfl rfl rfl rfl rfl rfl (Nat.le_of_ble_eq_true rfl) rfl ?_)
        intro w I
        refine Ops.nil ?_
        cases hh : holdsB f.xs r ⟨a, b, c⟩
        · have hsv : stepV f.xs n r ⟨a, b, c⟩ = [] := by unfold stepV; rw [hh, Bool.and_false]; rfl
          refine WP.seq ?_
          refine WP.region ?_
          refine Ops.y (v := .agg #[_, _]) (Y.loadv ty_25 rfl (I.rdbox 3 rfl 0 2) rfl rfl) ?_
          refine Ops.y (v := .slice _ _ _) (Y.move rfl) ?_
          refine Ops.y (v := .int .i64 _) (Y.move rfl) ?_
          refine Ops.y (v := .agg #[_, _, _]) (Y.loadv ty_80 rfl (I.rdbox 0 rfl 0 3) rfl rfl) ?_
          refine Ops.go (O.callv I Tryz.call78 ((show holdsF p.preds.xs f.xs r ⟨a, b, c⟩ = (false, default) from by unfold holdsF; rw [hh]; rfl) ▸ rholds_ok _ I.base_ok p (hp.le lc) f (hf.le lc) n r h0 hr ok okf ⟨a, b, c⟩ hvs) rfl ?_)
          intro w I
          refine Ops.y (v := .tuple #[_, _]) (Y.move rfl) ?_
          refine Ops.y (v := .bool _) (Y.extract rfl rfl) ?_
          refine Ops.y (v := .agg #[_, _, _, _]) (Y.extract rfl rfl) ?_
          refine Ops.go (O.alloc I Tryz.zeroValue52 rfl ?_)
          intro b14 w I
          refine Ops.y (v := .bool _) (Y.assign rfl) ?_
          refine Ops.go (O.store (v := .agg #[_, _, _, _]) I ty_52 0 rfl rfl rfl rfl rfl rfl (Nat.le_of_ble_eq_true rfl) rfl ?_)
          intro w I
          refine Ops.nil ?_
          refine WP.seq ?_
          refine WP.region ?_
          refine Ops.y (v := .bool _) (Y.move rfl) ?_
          refine Ops.nil ?_
          refine WP.cond_f rfl ?_
          refine WP.skip ?_
          refine WP.region ?_
          refine Ops.y (v := .int .i64 _) (Y.move rfl) ?_
          refine Ops.y (v := .int .i64 _) (Y.addi rfl rfl ⟨by omega, by omega⟩) ?_
          refine Ops.y (v := .int .i64 _) (Y.assign rfl) ?_
          refine Ops.nil ?_
          exact ⟨(c + 1, vc, hc), ⟨⟨rfl, rfl, rfl, rfl, rfl, rfl, rfl, rfl, trivial⟩, by dsimp only; rw [C5_succ, hsv, List.append_nil]; exact I.drop.drop, by dsimp only; omega, lc⟩, by dsimp only; omega⟩
        · have hsv : stepV f.xs n r ⟨a, b, c⟩ = [⟨n, ⟨a, b, c⟩⟩] := by unfold stepV; rw [hst, hso, hh]; rfl
          obtain ⟨y, hy⟩ : ∃ y, holdsF p.preds.xs f.xs r ⟨a, b, c⟩ = (true, y) := ⟨_, by unfold holdsF; rw [hh]; rfl⟩
          refine WP.seq ?_
          refine WP.region ?_
          refine Ops.y (v := .agg #[_, _]) (Y.loadv ty_25 rfl (I.rdbox 3 rfl 0 2) rfl rfl) ?_
          refine Ops.y (v := .slice _ _ _) (Y.move rfl) ?_
          refine Ops.y (v := .int .i64 _) (Y.move rfl) ?_
          refine Ops.y (v := .agg #[_, _, _]) (Y.loadv ty_80 rfl (I.rdbox 0 rfl 0 3) rfl rfl) ?_
          refine Ops.go (O.callv I Tryz.call78 (hy ▸ rholds_ok _ I.base_ok p (hp.le lc) f (hf.le lc) n r h0 hr ok okf ⟨a, b, c⟩ hvs) rfl ?_)
          intro w I
          refine Ops.y (v := .tuple #[_, _]) (Y.move rfl) ?_
          refine Ops.y (v := .bool _) (Y.extract rfl rfl) ?_
          refine Ops.y (v := .agg #[_, _, _, _]) (Y.extract rfl rfl) ?_
          refine Ops.go (O.alloc I Tryz.zeroValue52 rfl ?_)
          intro b14 w I
          refine Ops.y (v := .bool _) (Y.assign rfl) ?_
          refine Ops.go (O.store (v := .agg #[_, _, _, _]) I ty_52 0 rfl rfl rfl rfl rfl rfl (Nat.le_of_ble_eq_true rfl) rfl ?_)
          intro w I
          refine Ops.nil ?_
          refine WP.seq ?_
          refine WP.region ?_
          refine Ops.y (v := .bool _) (Y.move rfl) ?_
          refine Ops.nil ?_
          refine WP.cond_t rfl ?_
          refine WP.region ?_
          refine Ops.y (v := vc) (Y.move rfl) ?_
          refine Ops.y (v := .int .i64 _) (Y.move rfl) ?_
          refine Ops.y (v := .agg #[_, _, _]) (Y.loadv ty_80 rfl (I.rdbox 1 rfl 0 3) rfl rfl) ?_
          refine Ops.y (v := .agg #[.int .i64 _, .int .i64 _, .int .i64 _, .int .i64 _]) (Y.build pl_82 Tryz.zeroValue82 rfl rfl) ?_
          refine Ops.go (O.mksl (xs := [⟨n, ⟨a, b, c⟩⟩]) (enc := Stp.enc) I Tryz.underlying36 Tryz.sizeOf82 Tryz.zeroValue82 rfl (Nat.le_of_ble_eq_true rfl) rfl rfl (by decide) (fun _ => rfl) ?_)
          intro b75 h75 w I le75 sl75
          refine Ops.go (O.append I Tryz.underlying36 et_82 2 rfl rfl rfl (I.rd (sl75 0 _ rfl).2) rfl rfl (by decide) ((by omega)) (by omega) ?_)
          intro b76 c76 w I
          refine Ops.y (v := .slice _ _ _) (Y.assign rfl) ?_
          refine Ops.nil ?_
          refine WP.region ?_
          refine Ops.y (v := .int .i64 _) (Y.move rfl) ?_
          refine Ops.y (v := .int .i64 _) (Y.addi rfl rfl ⟨by omega, by omega⟩) ?_
          refine Ops.y (v := .int .i64 _) (Y.assign rfl) ?_
          refine Ops.nil ?_
          exact ⟨(c + 1, .slice (some ⟨b76, 0, none⟩) ((A5 f.xs n r a ++ B5 f.xs n r a b ++ C5 f.xs n r a b c).length + 1) c76, h75), ⟨⟨rfl, rfl, rfl, rfl, rfl, rfl, rfl, rfl, trivial⟩, by dsimp only; rw [C5_succ, hsv, ← List.append_assoc, snocS, lsn]; exact I.drop.drop, by dsimp only; omega, lc.trans le75⟩, by dsimp only; omega⟩
      · obtain rfl : c = 5 := by omega
        refine WP.exit ?_
        refine WP.region ?_
        refine Ops.y (v := .int .i64 _) (Y.move rfl) ?_
        refine Ops.y (v := .int .i64 _) (Y.addi rfl rfl ⟨by omega, by omega⟩) ?_
        refine Ops.y (v := .int .i64 _) (Y.assign rfl) ?_
        refine Ops.nil ?_
        exact ⟨(b + 1, vc, hc), ⟨⟨rfl, rfl, rfl, rfl, rfl, rfl, rfl, trivial⟩, by dsimp only; rw [B5_succ, ← List.append_assoc]; exact I, by dsimp only; omega, lc⟩, by dsimp only; omega⟩
    · obtain rfl : b = 5 := by omega
      refine WP.exit ?_
      refine WP.region ?_
      refine Ops.y (v := .int .i64 _) (Y.move rfl) ?_
      refine Ops.y (v := .int .i64 _) (Y.addi rfl rfl ⟨by omega, by omega⟩) ?_
      refine Ops.y (v := .int .i64 _) (Y.assign rfl) ?_
      refine Ops.nil ?_
      exact ⟨(a + 1, vb, hb), ⟨⟨rfl, rfl, rfl, rfl, rfl, rfl, trivial⟩, by dsimp only; rw [A5_succ]; exact I, by dsimp only; omega, lb⟩, by dsimp only; omega⟩
  · obtain rfl : a = 5 := by omega
    rw [← steps_A5] at I
    have hsl : (stepsF f.xs n r).length ≤ 140737488355328 := by rw [steps_A5]; have := A5_le f.xs n r 5; omega
    obtain ⟨h8, s8, le8, rfl, hx8, in8, I⟩ := I.settleSl (fun _ => rfl) rfl
    refine WP.exit ?_
    refine WP.seq ?_
    refine WP.region ?_
    refine Ops.y (v := .slice _ _ _) (Y.move rfl) ?_
    refine Ops.y (v := .slice _ _ _) (Y.assign rfl) ?_
    refine Ops.nil ?_
    refine WP.ret ?_
    repeat (first | refine thenE_ret ?_ | refine blockE_ret ?_)
    exact retQ.mk (vs := [.slice _ _ _]) rfl ⟨rfl, trivial⟩ I.ext_of (⟨s8, rfl, hx8, in8, by rw [hx8]; exact hsl⟩)
end Go.TF
end
section
/- Ranging over an iterator: what is known may grow from round to round. -/
namespace Go.TF
open Go Go.RowKit

/-- What a round owes at its end. -/
def roundQH (B : Base) (hg : Heap) {σ : Type} (U : σ → List SA) (T : List SA) (Jn : σ → Heap → Prop) (Jx : Jmp → σ → Heap → Prop) : Exit → Env → World → Prop
  | .normal, _, W => ∃ h2 s X, hg.le h2 ∧ Inv B h2 (X ++ (U s ++ T)) W ∧ Jn s h2
  | .ret, _, W => ∃ h2 s X, hg.le h2 ∧ Inv B h2 (X ++ (U s ++ T)) W ∧ Jx .ret s h2
  | .exit id, _, W => ∃ h2 s X, hg.le h2 ∧ Inv B h2 (X ++ (U s ++ T)) W ∧ Jx (.exit id) s h2
  | .goto t, _, W => ∃ h2 s X, hg.le h2 ∧ Inv B h2 (X ++ (U s ++ T)) W ∧ Jx (.goto t) s h2
  | _, _, _ => False
theorem WPD.rangeFuncH {α σ : Type} {P : Program} {N : Nat} {e : Env} {w : World} {Q : Exit → Env → World → List Deferred → Prop} {B : Base} {h : Heap} {ms : List Nat} {g : Operand} {ps : Array Tmp} {assign body : Code} {gf : FuncId} {lb : List Value}
    {encs : α → List Value} {xs : List α} (U : σ → List SA) (Jc : Nat → σ → Heap → Prop) (Jx : Jmp → σ → Heap → Prop) (mono : ∀ k s h h', h.le h' → Jc k s h → Jc k s h') (s0 : σ) (I : Inv B h (U s0 ++ ms.map markSA) w) (j0 : Jc 0 s0 h)
    (hg : ev e g = .func (.func gf) #[] lb.toArray) (eg : Enters P gf) (it : Iter P gf lb encs xs h) (hps : ∀ x, (encs x).length = ps.size) (hpN : ps.toList.all (· < N) = true) (hsa : slotsOk N assign = true) (hsb : slotsOk N body = true)
    (round : ∀ (l : Nat) (r : Loop) (ms' : List Nat) (hg : Heap) (k : Nat) (x : α) (s : σ) (W : World), xs[k]? = some x → h.le hg → Inv B hg (U s ++ (loopSA l r :: ms'.map markSA)) W → Jc k s hg →
      WPI P N l assign (argE e (ps.toList.zip (encs x))) W (thenE (fun e1 W1 => ∃ h1 X, hg.le h1 ∧ Inv B h1 (X ++ (U s ++ (loopSA l r :: ms'.map markSA))) W1 ∧
        ∀ r' W2, Inv B h1 (X ++ (U s ++ (loopSA l r' :: ms'.map markSA))) W2 → WPI P N l body e1 W2 (roundQH B h1 U (loopSA l r' :: ms'.map markSA) (Jc (k + 1)) Jx)) (fun _ _ _ => False)))
    (hdone : ∀ D h2 s W, h.le h2 → Inv B h2 (U s ++ (D :: ms).map markSA) W → Jc xs.length s h2 → Q .normal e W ((D :: ms).map mark))
    (hstop : ∀ D c h2 s W, h.le h2 → Inv B h2 (U s ++ (D :: ms).map markSA) W → Jx c s h2 → Q c.ex e W ((D :: ms).map mark)) :
    WPD P N (ms.map mark) (.rangeFunc g ps assign body) e w Q := by
  intro _ a h1 h2 h3
  subst h3
  refine (wpIn_wide (n := 1)).1 (wpIn_rangeFunc ?_)
  intro fn _
  obtain ⟨rec, hrec⟩ : ∃ rec : LoopState → Option Code → Loop, rec = fun st pe => { state := st, pending := pe, fn, tmps := a.tmps, params := ps, assign, body, defers := w.heap.size } := ⟨_, rfl⟩
  obtain ⟨l, hl⟩ : ∃ l, l = w.heap.size + 1 := ⟨_, rfl⟩
  obtain ⟨W1, hW1⟩ : ∃ W1, (w.alloc (.deferred (some []))).alloc (.loop (rec .ready none)) = W1 := ⟨_, rfl⟩
  have I1 : Inv B h (U s0 ++ (loopSA l (rec .ready none) :: (w.heap.size :: ms).map markSA)) W1 := by
    have J1 : Inv B h (markSA w.heap.size :: (U s0 ++ ms.map markSA)) (w.alloc (.deferred (some []))) := I.gain (Grow.alloc w _) (World.alloc_heap_new w _) (fun b hb => by simp [markSA] at hb; subst hb; simp)
    have J2 : Inv B h (loopSA l (rec .ready none) :: (markSA w.heap.size :: (U s0 ++ ms.map markSA))) W1 := by
      rw [← hW1]
      refine J1.gain (Grow.alloc _ _) ?_ (fun b hb => ?_)
      · have := World.alloc_heap_new (w.alloc (.deferred (some []))) (.loop (rec .ready none))
        rw [World.size_alloc] at this
        rw [hl]; exact this
      · simp [loopSA] at hb; subst hb; rw [hl]; simp
    refine J2.perm ?_
    refine List.perm_middle.trans ?_
    refine List.Perm.cons _ ?_
    exact List.perm_middle
  refine ⟨l, [mark w.heap.size], W1, { target := .fn (.func gf) lb.toArray, args := #[.func (.yield l) #[] #[]] }, W1, gf, #[.func (.yield l) #[] #[]] ++ lb.toArray, W1, ?_, ?_, fun _ _ => trivial, ?_, (fun hd => by cases hd), ?_⟩
  · rw [← hW1, hrec, hl]; exact run_enterLoop_outer _ _ _ _ _
  · rw [eval_env]
    have hg' : ev (env a) g = .func (.func gf) #[] lb.toArray := hg
    simp only [resolve, hg']
    simp [go_sem]
    rfl
  · simp [invoke, go_sem]; exact eg _ _
  · refine callsIn_wide.2 ?_
    refine (it l (fun hg k W => h.le hg ∧ ∃ s, Inv B hg (U s ++ (loopSA l (rec .ready none) :: (w.heap.size :: ms).map markSA)) W ∧ Jc k s hg)
      (fun W => ∃ c hg s, h.le hg ∧ Inv B hg (U s ++ (loopSA l (rec .done (some c.code)) :: (w.heap.size :: ms).map markSA)) W ∧ Jx c s hg) h W1 (Heap.le.refl h) ⟨Heap.le.refl h, s0, I1, j0⟩
      (fun hg k W ⟨_, s, I, _⟩ => I.base_ok) (fun hg k W hg' W' ⟨g1, s, I, hj⟩ X => ⟨g1.trans X.ext, s, I.called X, mono _ _ _ _ X.ext hj⟩) ?_).mono ?_
    · rintro hg' k x W g0 hx ⟨g1, s, IW, hj⟩
      have hL := IW.getLoop
      have hy := run_yield (P := P) (args := (encs x).toArray) hL (by rw [hrec]; simpa using hps x)
      refine ⟨_, _, _, _, hy, roundIn_of_wpIn trivial ?_⟩
      rw [hrec]
      have hfold : (ps.zip (encs x).toArray).foldl (fun tmps (t, a) => tmps.setIfInBounds t a) a.tmps = (ps.toList.zip (encs x)).foldl (fun t p => t.setIfInBounds p.1 p.2) a.tmps := by
        rw [← Array.foldl_toList]; simp
      have hE := env_args (N := N) (ps.toList.zip (encs x)) a.tmps h1 (fun p hp => by
        have := (List.all_eq_true.1 hpN) p.1 (List.of_mem_zip hp).1
        simpa using this)
      have henv : env { tmps := a.tmps, defers := [] } = env a := rfl
      rw [henv] at hE
      have hR := round l (rec .ready none) (w.heap.size :: ms) hg' k x s W hx g1 IW hj hsa { tmps := (ps.toList.zip (encs x)).foldl (fun t p => t.setIfInBounds p.1 p.2) a.tmps, defers := [] } hE.2 rfl hE.1
      simp only [hfold]
      refine wpIn_mono hR ?_
      rintro x1 a1 w1 ⟨k1, k2, k3⟩
      cases x1 <;> simp only [thenE] at k3 <;> first | exact k3.elim | skip
      obtain ⟨hg1, X, gl1, IX, hb⟩ := k3
      have IX' : Inv B hg1 ((X ++ U s) ++ (loopSA l (rec .ready none) :: (w.heap.size :: ms).map markSA)) w1 := by rw [List.append_assoc]; exact IX
      refine ⟨_, run_beginRound IX'.getLoop (by rw [hrec]), ?_⟩
      have I2 := IX'.setLoop { rec .ready none with state := .busy }
      rw [List.append_assoc] at I2
      refine wpIn_mono (hb _ _ I2 hsb a1 k1 k2 rfl) ?_
      have fin : ∀ (jump : Option Code) (h2 : Heap) (s2 : σ) (X2 : List SA) (W3 : World), Inv B h2 (X2 ++ (U s2 ++ (loopSA l { rec .ready none with state := .busy } :: (w.heap.size :: ms).map markSA))) W3 →
          ∃ W4, (Instr.endRound l jump).run P W3 = .ok (.bool jump.isNone) W4 ∧ Inv B h2 (U s2 ++ (loopSA l (rec (if jump.isNone then .ready else .done) jump) :: (w.heap.size :: ms).map markSA)) W4 := fun jump h2 s2 X2 W3 I3 => by
        have I3' : Inv B h2 (U s2 ++ (loopSA l { rec .ready none with state := .busy } :: (w.heap.size :: ms).map markSA)) W3 := I3.weak (List.sublist_append_right _ _)
        have := run_endRound (P := P) jump I3'.getLoop
        refine ⟨_, this, ?_⟩
        have I4 := I3'.setLoop (rec (if jump.isNone then .ready else .done) jump)
        rw [hrec] at I4 ⊢
        exact I4
      rintro x2 a2 w2 ⟨q1, q2, q3⟩
      cases x2 <;> simp only [roundQH] at q3 <;> simp only [roundPost] <;> first | exact q3.elim | skip
      · obtain ⟨h2, s2, X2, gl2, I3, hj2⟩ := q3
        obtain ⟨W4, hr, I4⟩ := fin none h2 s2 X2 _ I3
        exact ⟨_, _, hr, .inl ⟨rfl, h2, gl1.trans gl2, (g1.trans gl1).trans gl2, s2, (by rw [hrec] at I4; exact I4), hj2⟩⟩
      · rename_i id
        obtain ⟨h2, s2, X2, gl2, I3, hj2⟩ := q3
        obtain ⟨W4, hr, I4⟩ := fin (some (.exit id)) h2 s2 X2 _ I3
        exact ⟨_, _, hr, .inr ⟨rfl, .exit id, h2, s2, (g1.trans gl1).trans gl2, (by rw [hrec] at I4; exact I4), hj2⟩⟩
      · rename_i t
        obtain ⟨h2, s2, X2, gl2, I3, hj2⟩ := q3
        obtain ⟨W4, hr, I4⟩ := fin (some (.goto t)) h2 s2 X2 _ I3
        exact ⟨_, _, hr, .inr ⟨rfl, .goto t, h2, s2, (g1.trans gl1).trans gl2, (by rw [hrec] at I4; exact I4), hj2⟩⟩
      · obtain ⟨h2, s2, X2, gl2, I3, hj2⟩ := q3
        obtain ⟨W4, hr, I4⟩ := fin (some .ret) h2 s2 X2 _ I3
        exact ⟨_, _, hr, .inr ⟨rfl, .ret, h2, s2, (g1.trans gl1).trans gl2, (by rw [hrec] at I4; exact I4), hj2⟩⟩
    · rintro ed W2 ⟨⟨v, rfl⟩, (⟨hg', gl, g1, s, I2, hj⟩ | ⟨c, hg', s, g1, I2, hj⟩)⟩
      · refine ⟨none, _, by have := run_endLoop (P := P) I2.getLoop (by rw [hrec]; simp); rw [hrec] at this; exact this, ?_⟩
        have I3 := (I2.setLoop { rec .ready none with state := .exhausted }).outLoop
        refine ⟨h1, ?_⟩
        have hq := hdone w.heap.size hg' s _ g1 (by rw [hrec] at I3; exact I3) hj
        have hq' : Q .normal (env a) (W2.putObj l (.loop { rec .ready none with state := .exhausted })) (mark w.heap.size :: a.defers) := by rw [h2]; rw [hrec]; exact hq
        rw [hrec] at hq'
        exact hq'
      · refine ⟨some c.code, _, by have := run_endLoop (P := P) I2.getLoop (by rw [hrec]; simp); rw [hrec] at this; exact this, ?_⟩
        have I3 := (I2.setLoop { rec .done (some c.code) with state := .exhausted }).outLoop
        have hq := hstop w.heap.size c hg' s _ g1 (by rw [hrec] at I3; exact I3) hj
        have hq' : Q c.ex (env a) (W2.putObj l (.loop { rec .done (some c.code) with state := .exhausted })) (mark w.heap.size :: a.defers) := by rw [h2]; rw [hrec]; exact hq
        rw [hrec] at hq'
        cases c with
        | ret => exact wpIn_ret ⟨h1, hq'⟩
        | exit id => exact wpIn_exit ⟨h1, hq'⟩
        | goto t => exact wpIn_goto ⟨h1, hq'⟩

theorem WPD.regionQ {P : Program} {N : Nat} {D : List Deferred} {e : Env} {w : World} {Q : Exit → Env → World → List Deferred → Prop} {id : Nat} {ops : Array Oper} {B : Base} {h : Heap} {M : List SA} (hm : Mixed P) (I : Inv B h M w) (hB : Region.lexB .any ops = true)
    (k : OpsQ P ops (Inv B h M) ops.toList e (fun e' => ∀ w', Inv B h M w' → Q .normal e' w' D)) : WPD P N D (.region id ops true) e w Q := WPD.of (WP.regionQ hm I hB k)
theorem O.yx {P : Program} {o : Oper} {e : Env} {w : World} {B : Base} {h : Heap} {M : List SA} {Φ : Sp} {v : Value} (I : Inv B h M w) (hy : Y P o e w v) (hv : Φ v h) : Op1 P o e w (fun u w' => ∃ h2, h.le h2 ∧ Inv B h2 M w' ∧ Φ u h2) := by
  unfold Op1; rw [hy]; exact ⟨h, Heap.le.refl _, I, hv⟩
theorem O.yd {P : Program} {o : Oper} {e : Env} {w : World} {B : Base} {h : Heap} {M : List SA} {v v' : Value} (I : Inv B h M w) (hy : Y P o e w v) (hv : v = v') : Op1 P o e w (fun u w' => u = v' ∧ Inv B h M w') := by
  unfold Op1; rw [hy]; exact ⟨hv, I⟩
end Go.TF
end
section
/- Strata, StrataOf, NeedsOf. -/
namespace Go.TF
open Go Go.RowKit Go.Proofs
set_option maxRecDepth 20000

theorem heads_in {p : Prg} (h : rulesErr p.preds.xs p.rules.xs = 0) : ∀ r ∈ p.rules.xs, 0 ≤ r.head.pred ∧ r.head.pred < p.preds.xs.length := fun r hr => checkAtom_in' (checkRule_ok (rulesErr_zero.1 h r hr)).1
theorem StrataOf_ok (B : Base) (hB : B.ok) (p : Prg) (hp : p.In B.h) (h0 : checkProg p = 0) : Fn Tryz.prog 75 [p.val] B (fun v h => ∃ s : Sl Int, Least (usesL p.rules.xs) p.preds.xs.length s.xs ∧ s.Is 1 iEnc h ∧ v = s.val) := by
  obtain ⟨k1, k2, k3, M, hM⟩ := checkProg_ok h0
  refine Fn.of Tryz.func75 rfl Tryz.ntmps75 (by kernel_rfl) (by simp) ?_
  intro e
  have I := Inv.start hB
  refine WP.seq ?_
  refine WP.region ?_
  refine Ops.go (O.box (v := .agg #[_, _]) I rfl rfl ?_)
  intro b1 w I
  refine Ops.y (v := .slice _ _ _) (Y.assign rfl) ?_
  refine Ops.nil ?_
  refine WP.seq ?_
  refine WP.region ?_
  refine Ops.y (v := .agg #[_, _]) (Y.loadv ty_25 rfl (I.rdbox 0 rfl 0 2) rfl rfl) ?_
  refine Ops.go (O.call I Tryz.call74 (strata_ok _ I.base_ok p hp (inR_of k3) k1 k2 (fun r hr => (checkRule_ok (rulesErr_zero.1 k3 r hr)).2.1)) rfl ?_)
  rintro v14 h3 w I le3 hL
  rcases hL with ⟨s, hS, hI, rfl⟩ | ⟨hno, rfl⟩
  rotate_left
  exact absurd hM (hno M)
  refine Ops.y (v := .tuple #[_, _]) (Y.move rfl) ?_
  refine Ops.y (v := .slice _ _ _) (Y.extract rfl rfl) ?_
  refine Ops.y (v := .bool _) (Y.extract rfl rfl) ?_
  refine Ops.y (v := .slice _ _ _) (Y.assign rfl) ?_
  refine Ops.y (v := .bool _) (Y.assign rfl) ?_
  refine Ops.nil ?_
  refine WP.seq ?_
  refine WP.region ?_
  refine Ops.y (v := .slice _ _ _) (Y.move rfl) ?_
  refine Ops.y (v := .slice _ _ _) (Y.assign rfl) ?_
  refine Ops.nil ?_
  refine WP.ret ?_
  repeat (first | refine thenE_ret ?_ | refine blockE_ret ?_)
  exact retQ.mk (vs := [.slice _ _ _]) rfl ⟨rfl, trivial⟩ I.ext_of (⟨s, hS, hI, rfl⟩)
theorem boxIsB {b : Nat} {L : List Bool} {T : TypeId} {h : Heap} {c : Nat} (hb : h b = some (.cells (L.map vB).toArray T (0, 0))) (hs : L.length ≤ 140737488355328) : (⟨some ⟨b, 0, none⟩, c, L⟩ : Sl Bool).Is 1 bEnc h :=
  ⟨fun i x hx => ⟨rfl, fun j v hv => by
    cases j with
    | zero => simp at hv; subst hv; simp only [Heap.cell, Sl.blk, Sl.off, Option.getD_some, hb]; simp [hx]
    | succ j => simp at hv⟩, hs⟩
theorem bv_some {L : List Bool} {n : Nat} (hl : L.length = n) {i : Int} (h0 : 0 ≤ i) (h1 : i < n) : L[i.toNat]? = some (bv L i) := by
  have : i.toNat < L.length := by omega
  simp [bv, List.getD_eq_getElem?_getD, this]
set_option maxHeartbeats 4000000 in
theorem NeedsOf_ok (B : Base) (hB : B.ok) (p : Prg) (hp : p.In B.h) (pr : Int) (h0 : checkProg p = 0) (q0 : 0 ≤ pr) (q1 : pr < p.preds.xs.length) :
    Fn Tryz.prog 120 [p.val, .int .i64 pr] B (fun v h => ∃ s : Sl Bool, NeedsR (usesL p.rules.xs) p.preds.xs.length pr s.xs ∧ s.Is 1 bEnc h ∧ v = s.val) := by
  obtain ⟨k1, k2, k3, M, hM⟩ := checkProg_ok h0
  have hr := inR_of k3
  refine Fn.of Tryz.func120 rfl Tryz.ntmps120 (by kernel_rfl) (by simp) ?_
  intro e
  have I := Inv.start hB
  refine WP.seq ?_
  refine WP.region ?_
  refine Ops.go (O.box (v := .agg #[_, _]) I rfl rfl ?_)
  intro b2 w I
  refine Ops.y (v := .slice _ _ _) (Y.assign rfl) ?_
  refine Ops.nil ?_
  refine WP.seq ?_
  refine WP.region ?_
  refine Ops.y (v := .pointer (some ⟨_, _, none⟩)) (Y.fa0 fa_25_0 rfl) ?_
  refine Ops.y (v := .slice _ _ _) (Y.loadv ty_22 rfl (I.rdbox 0 rfl 0 1) rfl rfl) ?_
  refine Ops.y (v := .int .i64 _) (Y.lens Tryz.underlying22 rfl) ?_
  refine Ops.go (O.make1 (n := p.preds.xs.length) (zc := (vB false)) I Tryz.underlying149 et_4 rfl rfl rfl (by omega) (by omega) ?_)
  intro b12 w I
  refine Ops.y (v := .slice _ _ _) (Y.assign rfl) ?_
  refine Ops.nil ?_
  rw [← List.map_replicate (f := vB)] at I
  refine WP.seq ?_
  refine WP.region ?_
  refine Ops.y (v := .slice _ _ _) (Y.move rfl) ?_
  refine Ops.y (v := .int .i64 _) (Y.move rfl) ?_
  refine Ops.y (v := .pointer (some ⟨_, _, none⟩)) (Y.idx Tryz.underlying149 Tryz.sizeOf4 rfl rfl q0 q1) ?_
  refine Ops.go (O.store1 I ty_4 0 rfl rfl (i := pr.toNat) (v := true) (by omega) (by simp; omega) rfl rfl rfl ?_)
  intro w I
  refine Ops.nil ?_
  refine WP.seq ?_
  refine WP.seq ?_
  refine WP.region ?_
  refine Ops.y (v := .int .i64 _) (Y.assign rfl) ?_
  refine Ops.nil ?_
  have hst : ∀ i : Int, 0 ≤ i → i < p.preds.xs.length → bv ((List.replicate p.preds.xs.length false).set pr.toNat true) i = true → Reach (usesL p.rules.xs) pr i := fun i i0 i1 h => by
    rw [bv_set q0 (by simpa using q1) _ _ i0] at h
    split at h
    · rename_i e; rw [e]; exact .refl
    · rw [bv_none] at h; cases h
  refine WP.block ?_
  refine WP.loopE (σ := Nat × List Bool) (fun s => [(2, .pointer (some ⟨b2, 0, none⟩)), (5, .slice (some ⟨b12, 0, none⟩) p.preds.xs.length p.preds.xs.length), (6, .int .i64 s.1)])
    (fun s w => Inv B B.h [box b12 (s.2.map vB) 4, box b2 p.enc 25] w ∧ s.1 ≤ p.preds.xs.length ∧ s.2.length = p.preds.xs.length ∧ (∀ i : Int, 0 ≤ i → i < p.preds.xs.length → bv s.2 i = true → Reach (usesL p.rules.xs) pr i) ∧ bv s.2 pr = true ∧ (ClosedN (usesL p.rules.xs) s.2 ∨ s.1 + 1 ≤ trues s.2))
    (fun s => p.preds.xs.length - s.1) ⟨(0, (List.replicate p.preds.xs.length false).set pr.toNat true), ⟨rfl, rfl, rfl, trivial⟩, I, Nat.zero_le _, by simp, hst, by rw [bv_set q0 (by simpa using q1) _ _ q0, if_pos rfl], .inr (by rw [trues_set _ _ (by simp; omega) (by simp), trues_none]; omega)⟩ ?_
  rintro ⟨rd, N⟩ e w ⟨I, hrd, hlen, hsnd, hhas, hor⟩
  dsimp only at I hrd hlen hsnd hhas hor ⊢
  refine WP.seq ?_
  refine WP.seq ?_
  refine WP.region ?_
  refine Ops.y (v := .int .i64 _) (Y.move rfl) ?_
  refine Ops.y (v := .pointer (some ⟨_, _, none⟩)) (Y.fa0 fa_25_0 rfl) ?_
  refine Ops.y (v := .slice _ _ _) (Y.loadv ty_22 rfl (I.rdbox 1 rfl 0 1) rfl rfl) ?_
  refine Ops.y (v := .int .i64 _) (Y.lens Tryz.underlying22 rfl) ?_
  refine Ops.y (v := .bool (decide _)) (Y.lti rfl rfl) ?_
  refine Ops.nil ?_
  refine WP.cond_dec rfl (fun h4 => ?_) (fun h4 => ?_)
  · refine WP.skip ?_
    refine WP.seq ?_
    refine WP.block ?_
    refine WP.seq ?_
    refine WP.region ?_
    refine Ops.y (v := .int .i64 _) (Y.assign rfl) ?_
    refine Ops.nil ?_
    refine WP.block ?_
    refine WP.loopE (σ := Nat × List Bool) (fun s => [(2, .pointer (some ⟨b2, 0, none⟩)), (5, .slice (some ⟨b12, 0, none⟩) p.preds.xs.length p.preds.xs.length), (6, .int .i64 rd), (7, .int .i64 s.1)])
      (fun s w => Inv B B.h [box b12 (s.2.map vB) 4, box b2 p.enc 25] w ∧ s.1 ≤ p.rules.xs.length ∧ PassN (usesL p.rules.xs) p.preds.xs.length pr N s.2 (usesL (p.rules.xs.take s.1)))
      (fun s => p.rules.xs.length - s.1) ⟨(0, N), ⟨rfl, rfl, rfl, rfl, trivial⟩, I, Nat.zero_le _, hlen, hsnd, hhas, .inl ⟨rfl, fun c hc => by simp [usesL] at hc⟩, fun _ => rfl⟩ ?_
    rintro ⟨m, N1⟩ e w ⟨I, hm, pa⟩
    dsimp only at I hm pa ⊢
    refine WP.seq ?_
    refine WP.seq ?_
    refine WP.region ?_
    refine Ops.y (v := .int .i64 _) (Y.move rfl) ?_
    refine Ops.y (v := .pointer (some ⟨_, _, none⟩)) (Y.fa fa_25_1 rfl) ?_
    refine Ops.y (v := .slice _ _ _) (Y.loadv ty_23 rfl (I.rdbox 1 rfl 1 1) rfl rfl) ?_
    refine Ops.y (v := .int .i64 _) (Y.lens Tryz.underlying23 rfl) ?_
    refine Ops.y (v := .bool (decide _)) (Y.lti rfl rfl) ?_
    refine Ops.nil ?_
    refine WP.cond_dec rfl (fun h7 => ?_) (fun h7 => ?_)
    · have hm' : m < p.rules.xs.length := by omega
      have E1 := hp.rules.is.at hm'
      have hh := heads_in k3 _ (List.getElem_mem hm')
      have hbd2 := (hp.rules.each _ (List.getElem_mem hm')).body
      have hbs := hbd2.is.small
      refine WP.skip ?_
      refine WP.seq ?_
      refine WP.block ?_
      refine WP.seq ?_
      refine WP.region ?_
      refine Ops.y (v := .int .i64 _) (Y.assign rfl) ?_
      refine Ops.nil ?_
      refine WP.block ?_
      refine WP.loopE (σ := Nat × List Bool) (fun s => [(2, .pointer (some ⟨b2, 0, none⟩)), (5, .slice (some ⟨b12, 0, none⟩) p.preds.xs.length p.preds.xs.length), (6, .int .i64 rd), (7, .int .i64 m), (8, .int .i64 s.1)])
        (fun s w => Inv B B.h [box b12 (s.2.map vB) 4, box b2 p.enc 25] w ∧ s.1 ≤ p.rules.xs[m].body.xs.length ∧ PassN (usesL p.rules.xs) p.preds.xs.length pr N s.2 (usesL (p.rules.xs.take m) ++ (p.rules.xs[m].body.xs.take s.1).map fun x => (p.rules.xs[m].head.pred, x)))
        (fun s => p.rules.xs[m].body.xs.length - s.1) ⟨(0, N1), ⟨rfl, rfl, rfl, rfl, rfl, trivial⟩, I, Nat.zero_le _, by simpa using pa⟩ ?_
      rintro ⟨k, N2⟩ e w ⟨I, hk, pa2⟩
      dsimp only at I hk pa2 ⊢
      by_cases hkl : (k : Int) < p.rules.xs[m].body.xs.length
      · have hk' : k < p.rules.xs[m].body.xs.length := by omega
        have E2 := hbd2.is.at hk'
        have hmem := usesL_mem hm' hk'
        have hb := hr.b _ hmem
        dsimp only at hb
        cases hhd : bv N2 p.rules.xs[m].head.pred
        · refine WP.seq ?_
          refine WP.seq ?_
          refine WP.region ?_
          refine Ops.y (v := .int .i64 _) (Y.move rfl) ?_
          refine Ops.y (v := .pointer (some ⟨_, _, none⟩)) (Y.fa fa_25_1 rfl) ?_
          refine Ops.y (v := .slice _ _ _) (Y.loadv ty_23 rfl (I.rdbox 1 rfl 1 1) rfl rfl) ?_
          refine Ops.y (v := .int .i64 _) (Y.move rfl) ?_
          refine Ops.y (v := .pointer (some ⟨_, _, none⟩)) (Y.idxEl E1 Tryz.underlying23 Tryz.sizeOf68 rfl rfl (Int.natCast_nonneg _) rfl) ?_
          refine Ops.y (v := .pointer (some ⟨_, _, none⟩)) (Y.fa fa_68_3 rfl) ?_
          refine Ops.y (v := .slice _ _ _) (Y.loadv ty_66 rfl (I.rd (E1.rd.part 4 1)) rfl rfl) ?_
          refine Ops.y (v := .int .i64 _) (Y.lens Tryz.underlying66 rfl) ?_
          refine Ops.y (v := .bool true) (Y.dec_t (Y.lti rfl rfl) (hkl)) ?_
          refine Ops.y (v := .bool _) (Y.move rfl) ?_
          refine Ops.ygt rfl (v := .slice _ _ _) (Y.move rfl) ?_
          refine Ops.ygt rfl (v := .pointer (some ⟨_, _, none⟩)) (Y.fa fa_25_1 rfl) ?_
          refine Ops.ygt rfl (v := .slice _ _ _) (Y.loadv ty_23 rfl (I.rdbox 1 rfl 1 1) rfl rfl) ?_
          refine Ops.ygt rfl (v := .int .i64 _) (Y.move rfl) ?_
          refine Ops.ygt rfl (v := .pointer (some ⟨_, _, none⟩)) (Y.idxEl E1 Tryz.underlying23 Tryz.sizeOf68 rfl rfl (Int.natCast_nonneg _) rfl) ?_
          refine Ops.ygt rfl (v := .pointer (some ⟨_, _, none⟩)) (Y.fa0 fa_68_0 rfl) ?_
          refine Ops.ygt rfl (v := .pointer (some ⟨_, _, none⟩)) (Y.fa0 fa_65_0 rfl) ?_
          refine Ops.ygt rfl (v := .int .i64 _) (Y.loadv ty_3 rfl (I.rd (E1.rd.part 0 1)) rfl rfl) ?_
          refine Ops.ygt rfl (v := .pointer (some ⟨_, _, none⟩)) (Y.idx Tryz.underlying149 Tryz.sizeOf4 rfl rfl hh.1 hh.2) ?_
          refine Ops.ygt rfl (v := .bool false) (Y.b (Y.loadv ty_4 rfl (I.rdL 0 rfl (by omega) (bv_some pa2.len hh.1 hh.2)) rfl rfl) (hhd)) ?_
          refine Ops.y (v := .bool _) (Y.pick_t rfl rfl) ?_
          refine Ops.nil ?_
          refine WP.cond_f rfl ?_
          refine WP.exit ?_
          refine WP.region ?_
          refine Ops.y (v := .int .i64 _) (Y.move rfl) ?_
          refine Ops.y (v := .int .i64 _) (Y.addi rfl rfl ⟨by omega, by omega⟩) ?_
          refine Ops.y (v := .int .i64 _) (Y.assign rfl) ?_
          refine Ops.nil ?_
          refine ⟨(m + 1, N2), ⟨⟨rfl, rfl, rfl, rfl, trivial⟩, I, hm', ?_⟩, by dsimp only; omega⟩
          dsimp only
          rw [usesL_take hm', ← List.take_append_drop k p.rules.xs[m].body.xs, List.map_append, ← List.append_assoc]
          refine PassN.skip (by simpa using pa2) fun c hc => ?_
          obtain ⟨x, _, rfl⟩ := List.mem_map.1 hc
          exact hhd
        · refine WP.seq ?_
          refine WP.seq ?_
          refine WP.region ?_
          refine Ops.y (v := .int .i64 _) (Y.move rfl) ?_
          refine Ops.y (v := .pointer (some ⟨_, _, none⟩)) (Y.fa fa_25_1 rfl) ?_
          refine Ops.y (v := .slice _ _ _) (Y.loadv ty_23 rfl (I.rdbox 1 rfl 1 1) rfl rfl) ?_
          refine Ops.y (v := .int .i64 _) (Y.move rfl) ?_
          refine Ops.y (v := .pointer (some ⟨_, _, none⟩)) (Y.idxEl E1 Tryz.underlying23 Tryz.sizeOf68 rfl rfl (Int.natCast_nonneg _) rfl) ?_
          refine Ops.y (v := .pointer (some ⟨_, _, none⟩)) (Y.fa fa_68_3 rfl) ?_
          refine Ops.y (v := .slice _ _ _) (Y.loadv ty_66 rfl (I.rd (E1.rd.part 4 1)) rfl rfl) ?_
          refine Ops.y (v := .int .i64 _) (Y.lens Tryz.underlying66 rfl) ?_
          refine Ops.y (v := .bool true) (Y.dec_t (Y.lti rfl rfl) (hkl)) ?_
          refine Ops.y (v := .bool _) (Y.move rfl) ?_
          refine Ops.ygt rfl (v := .slice _ _ _) (Y.move rfl) ?_
          refine Ops.ygt rfl (v := .pointer (some ⟨_, _, none⟩)) (Y.fa fa_25_1 rfl) ?_
          refine Ops.ygt rfl (v := .slice _ _ _) (Y.loadv ty_23 rfl (I.rdbox 1 rfl 1 1) rfl rfl) ?_
          refine Ops.ygt rfl (v := .int .i64 _) (Y.move rfl) ?_
          refine Ops.ygt rfl (v := .pointer (some ⟨_, _, none⟩)) (Y.idxEl E1 Tryz.underlying23 Tryz.sizeOf68 rfl rfl (Int.natCast_nonneg _) rfl) ?_
          refine Ops.ygt rfl (v := .pointer (some ⟨_, _, none⟩)) (Y.fa0 fa_68_0 rfl) ?_
          refine Ops.ygt rfl (v := .pointer (some ⟨_, _, none⟩)) (Y.fa0 fa_65_0 rfl) ?_
          refine Ops.ygt rfl (v := .int .i64 _) (Y.loadv ty_3 rfl (I.rd (E1.rd.part 0 1)) rfl rfl) ?_
          refine Ops.ygt rfl (v := .pointer (some ⟨_, _, none⟩)) (Y.idx Tryz.underlying149 Tryz.sizeOf4 rfl rfl hh.1 hh.2) ?_
          refine Ops.ygt rfl (v := .bool true) (Y.b (Y.loadv ty_4 rfl (I.rdL 0 rfl (by omega) (bv_some pa2.len hh.1 hh.2)) rfl rfl) (hhd)) ?_
          refine Ops.y (v := .bool _) (Y.pick_t rfl rfl) ?_
          refine Ops.nil ?_
          refine WP.cond_t rfl ?_
          refine WP.skip ?_
          refine WP.seq ?_
          refine WP.block ?_
          refine WP.region ?_
          refine Ops.y (v := .slice _ _ _) (Y.move rfl) ?_
          refine Ops.y (v := .pointer (some ⟨_, _, none⟩)) (Y.fa fa_25_1 rfl) ?_
          refine Ops.y (v := .slice _ _ _) (Y.loadv ty_23 rfl (I.rdbox 1 rfl 1 1) rfl rfl) ?_
          refine Ops.y (v := .int .i64 _) (Y.move rfl) ?_
          refine Ops.y (v := .pointer (some ⟨_, _, none⟩)) (Y.idxEl E1 Tryz.underlying23 Tryz.sizeOf68 rfl rfl (Int.natCast_nonneg _) rfl) ?_
          refine Ops.y (v := .pointer (some ⟨_, _, none⟩)) (Y.fa fa_68_3 rfl) ?_
          refine Ops.y (v := .slice _ _ _) (Y.loadv ty_66 rfl (I.rd (E1.rd.part 4 1)) rfl rfl) ?_
          refine Ops.y (v := .int .i64 _) (Y.move rfl) ?_
          refine Ops.y (v := .pointer (some ⟨_, _, none⟩)) (Y.idxEl E2 Tryz.underlying66 Tryz.sizeOf131 rfl rfl (Int.natCast_nonneg _) rfl) ?_
          refine Ops.y (v := .pointer (some ⟨_, _, none⟩)) (Y.fa fa_131_1 rfl) ?_
          refine Ops.y (v := .pointer (some ⟨_, _, none⟩)) (Y.fa0 fa_65_0 rfl) ?_
          refine Ops.y (v := .int .i64 _) (Y.loadv ty_3 rfl (I.rd (E2.rd.part 1 1)) rfl rfl) ?_
          refine Ops.y (v := .pointer (some ⟨_, _, none⟩)) (Y.idx Tryz.underlying149 Tryz.sizeOf4 rfl rfl hb.1 hb.2) ?_
          refine Ops.go (O.store1 I ty_4 0 rfl rfl (i := p.rules.xs[m].body.xs[k].atom.pred.toNat) (v := true) (by omega) (by rw [pa2.len]; omega) rfl rfl rfl ?_)
          intro w I
          refine Ops.nil ?_
          refine WP.region ?_
          refine Ops.y (v := .int .i64 _) (Y.move rfl) ?_
          refine Ops.y (v := .int .i64 _) (Y.addi rfl rfl ⟨by omega, by omega⟩) ?_
          refine Ops.y (v := .int .i64 _) (Y.assign rfl) ?_
          refine Ops.nil ?_
          exact ⟨(k + 1, N2.set p.rules.xs[m].body.xs[k].atom.pred.toNat true), ⟨⟨rfl, rfl, rfl, rfl, rfl, trivial⟩, I, hk', by rw [map_take _ hk', ← List.append_assoc]; exact pa2.put hr q0 hmem hhd⟩, by dsimp only; omega⟩
      · refine WP.seq ?_
        refine WP.seq ?_
        refine WP.region ?_
        refine Ops.y (v := .int .i64 _) (Y.move rfl) ?_
        refine Ops.y (v := .pointer (some ⟨_, _, none⟩)) (Y.fa fa_25_1 rfl) ?_
        refine Ops.y (v := .slice _ _ _) (Y.loadv ty_23 rfl (I.rdbox 1 rfl 1 1) rfl rfl) ?_
        refine Ops.y (v := .int .i64 _) (Y.move rfl) ?_
        refine Ops.y (v := .pointer (some ⟨_, _, none⟩)) (Y.idxEl E1 Tryz.underlying23 Tryz.sizeOf68 rfl rfl (Int.natCast_nonneg _) rfl) ?_
        refine Ops.y (v := .pointer (some ⟨_, _, none⟩)) (Y.fa fa_68_3 rfl) ?_
        refine Ops.y (v := .slice _ _ _) (Y.loadv ty_66 rfl (I.rd (E1.rd.part 4 1)) rfl rfl) ?_
        refine Ops.y (v := .int .i64 _) (Y.lens Tryz.underlying66 rfl) ?_
        refine Ops.y (v := .bool false) (Y.dec_f (Y.lti rfl rfl) (hkl)) ?_
        refine Ops.y (v := .bool _) (Y.move rfl) ?_
        refine Ops.gf rfl ?_
        refine Ops.gf rfl ?_
        refine Ops.gf rfl ?_
        refine Ops.gf rfl ?_
        refine Ops.gf rfl ?_
        refine Ops.gf rfl ?_
        refine Ops.gf rfl ?_
        refine Ops.gf rfl ?_
        refine Ops.gf rfl ?_
        refine Ops.gf rfl ?_
        refine Ops.y (v := .bool _) (Y.pick_f rfl rfl) ?_
        refine Ops.nil ?_
        refine WP.cond_f rfl ?_
        refine WP.exit ?_
        refine WP.region ?_
        refine Ops.y (v := .int .i64 _) (Y.move rfl) ?_
        refine Ops.y (v := .int .i64 _) (Y.addi rfl rfl ⟨by omega, by omega⟩) ?_
        refine Ops.y (v := .int .i64 _) (Y.assign rfl) ?_
        refine Ops.nil ?_
        have hke : k = p.rules.xs[m].body.xs.length := by omega
        exact ⟨(m + 1, N2), ⟨⟨rfl, rfl, rfl, rfl, trivial⟩, I, hm', by rw [usesL_take' hm', ← hke]; exact pa2⟩, by dsimp only; omega⟩
    · have hme : m = p.rules.xs.length := by omega
      rw [hme, List.take_length] at pa
      refine WP.exit ?_
      refine WP.region ?_
      refine Ops.y (v := .int .i64 _) (Y.move rfl) ?_
      refine Ops.y (v := .int .i64 _) (Y.addi rfl rfl ⟨by omega, by omega⟩) ?_
      refine Ops.y (v := .int .i64 _) (Y.assign rfl) ?_
      refine Ops.nil ?_
      refine ⟨(rd + 1, N1), ⟨⟨rfl, rfl, rfl, trivial⟩, I, by dsimp only; omega, pa.len, pa.snd, pa.has, ?_⟩, by dsimp only; omega⟩
      dsimp only
      rcases pa.or with ⟨e, hs⟩ | h
      · exact .inl (by rw [e]; exact hs)
      · rcases hor with hc | ht
        · have := pa.closed hc; subst this; omega
        · exact .inr (by omega)
  · have hcl : ClosedN (usesL p.rules.xs) N := by
      rcases hor with h | h
      · exact h
      · have := trues_le N; omega
    refine WP.exit ?_
    refine WP.seq ?_
    refine WP.region ?_
    refine Ops.y (v := .slice _ _ _) (Y.move rfl) ?_
    refine Ops.y (v := .slice _ _ _) (Y.assign rfl) ?_
    refine Ops.nil ?_
    have hbo := I.at 0 rfl
    obtain ⟨h5, le5, hb5, I⟩ := I.settle
    refine WP.ret ?_
    repeat (first | refine thenE_ret ?_ | refine blockE_ret ?_)
    exact retQ.mk (vs := [.slice _ _ _]) rfl ⟨rfl, trivial⟩ I.ext_of (⟨⟨some ⟨b12, 0, none⟩, p.preds.xs.length, N⟩, NeedsR.of hlen hsnd hhas hcl, boxIsB ((hb5 b12 (by simp [box])).trans hbo) (by rw [hlen]; omega), by simp [tup, Sl.val, hlen]⟩)
end Go.TF
end
section
/- A round: asked, which rules, what they tell; put one behind the other. -/
namespace Go.TF
open Go Go.RowKit Go.Proofs
set_option maxRecDepth 20000

noncomputable def askR (p : Prg) (f : List Fct) : Int := if checkProg p ≠ 0 then checkProg p else checkFacts p.preds.xs f
theorem askR_iff {p : Prg} {f : List Fct} : askR p f = 0 ↔ checkProg p = 0 ∧ FOk p.preds.xs f := by
  unfold askR
  constructor
  · intro h
    split at h
    · rename_i h1; exact absurd h h1
    · rename_i h1; exact ⟨Decidable.not_not.1 h1, checkFacts_ok.1 h⟩
  · rintro ⟨h1, h2⟩
    rw [if_neg (by omega)]; exact checkFacts_ok.2 h2
theorem rules_rok {p : Prg} (h : checkProg p = 0) {f : List Fct} (okf : FOk p.preds.xs f) : ∀ r ∈ p.rules.xs, ROk p.preds.xs r := fun r hr =>
  rok_of okf.len okf.preds (rulesErr_zero.1 (checkProg_ok h).2.2.1 r hr)
theorem RoundError_ok (B : Base) (hB : B.ok) (p : Prg) (hp : p.In B.h) (hnm : p.Nm) (f : Sl Fct) (hf : Fcts f B.h) : Fn Tryz.prog 34 [p.val, f.val] B (fun v _ => v = .int .i64 (askR p f.xs)) := by
  refine Fn.of Tryz.func34 rfl Tryz.ntmps34 (by kernel_rfl) (by simp) ?_
  intro e
  have I := Inv.start hB
  refine WP.seq ?_
  refine WP.region ?_
  refine Ops.go (O.box (v := .agg #[_, _]) I rfl rfl ?_)
  intro b2 w I
  refine Ops.y (v := .int .i64 _) (Y.assign rfl) ?_
  refine Ops.nil ?_
  refine WP.seq ?_
  refine WP.seq ?_
  refine WP.region ?_
  refine Ops.y (v := .agg #[_, _]) (Y.loadv ty_25 rfl (I.rdbox 0 rfl 0 2) rfl rfl) ?_
  refine Ops.go (O.callv I Tryz.call18 (CheckProg_ok _ I.base_ok p hp hnm) rfl ?_)
  intro w I
  refine Ops.y (v := .int .i64 _) (Y.assign rfl) ?_
  refine Ops.nil ?_
  refine WP.seq ?_
  refine WP.region ?_
  refine Ops.y (v := .int .i64 _) (Y.move rfl) ?_
  refine Ops.y (v := .bool (decide _)) (Y.nei rfl rfl) ?_
  refine Ops.nil ?_
  refine WP.cond_dec rfl (fun h1 => ?_) (fun h1 => ?_)
  · refine WP.seq ?_
    refine WP.region ?_
    refine Ops.y (v := .int .i64 _) (Y.move rfl) ?_
    refine Ops.y (v := .int .i64 _) (Y.assign rfl) ?_
    refine Ops.nil ?_
    refine WP.ret ?_
    repeat (first | refine thenE_ret ?_ | refine blockE_ret ?_)
    exact retQ.mk (vs := [.int .i64 _]) rfl ⟨rfl, trivial⟩ I.ext_of (by simp only [tup, askR]; rw [if_pos h1])
  refine WP.skip ?_
  refine WP.seq ?_
  refine WP.region ?_
  refine Ops.y (v := .pointer (some ⟨_, _, none⟩)) (Y.fa0 fa_25_0 rfl) ?_
  refine Ops.y (v := .slice _ _ _) (Y.loadv ty_22 rfl (I.rdbox 0 rfl 0 1) rfl rfl) ?_
  refine Ops.y (v := .slice _ _ _) (Y.move rfl) ?_
  refine Ops.go (O.callv I Tryz.call89 (RCheckFacts_ok _ I.base_ok p.preds hp.preds f hf) rfl ?_)
  intro w I
  refine Ops.y (v := .int .i64 _) (Y.assign rfl) ?_
  refine Ops.nil ?_
  refine WP.ret ?_
  repeat (first | refine thenE_ret ?_ | refine blockE_ret ?_)
  exact retQ.mk (vs := [.int .i64 _]) rfl ⟨rfl, trivial⟩ I.ext_of (by simp only [tup, askR]; rw [if_neg h1])
/-- A test of a rule's number, as a function that keeps cs. -/
def OfC (P : Program) (g : FuncId) (cs : List Value) (h : Heap) (len : Nat) (q : Nat → Bool) : Prop :=
  Enters P g ∧ ∀ B : Base, B.ok → h.le B.h → ∀ n : Nat, n < len → Fn P g ([.int .i64 n] ++ cs) B (fun v _ => v = .bool (q n))
theorem OfC.le {P : Program} {g : FuncId} {cs : List Value} {h h' : Heap} {len : Nat} {q : Nat → Bool} (o : OfC P g cs h len q) (hl : h.le h') : OfC P g cs h' len q := ⟨o.1, fun B hB hle => o.2 B hB (hl.trans hle)⟩
theorem ROf_ok (B : Base) (hB : B.ok) (p : Prg) (s : Sl Int) (st : Int) : Fn Tryz.prog 65 [p.val, s.val, .int .i64 st] B (fun v h => ∃ b4 b3 b5, v = .func (.func 132) #[] #[.pointer (some ⟨b4, 0, none⟩), .pointer (some ⟨b3, 0, none⟩), .pointer (some ⟨b5, 0, none⟩)] ∧ Known h b4 [s.val] ∧ Known h b3 p.enc ∧ Known h b5 [.int .i64 st]) := by
  refine Fn.of Tryz.func65 rfl Tryz.ntmps65 (by kernel_rfl) (by simp) ?_
  intro e
  have I := Inv.start hB
  refine WP.seq ?_
  refine WP.region ?_
  refine Ops.go (O.box (v := .agg #[_, _]) I rfl rfl ?_)
  intro b3 w I
  refine Ops.go (O.box (v := .slice _ _ _) I rfl rfl ?_)
  intro b4 w I
  refine Ops.go (O.box (v := .int .i64 _) I rfl rfl ?_)
  intro b5 w I
  refine Ops.y (v := .nilFunc) (Y.assign rfl) ?_
  refine Ops.nil ?_
  refine WP.seq ?_
  refine WP.region ?_
  refine Ops.y (v := .func _ _ _) (Y.mkfunc rfl rfl) ?_
  refine Ops.y (v := .func _ _ _) (Y.assign rfl) ?_
  refine Ops.nil ?_
  obtain ⟨h5, le5, k5, I⟩ := I.settleBox
  obtain ⟨h4, le4, k4, I⟩ := I.settleBox
  obtain ⟨h3, le3, k3, I⟩ := I.settleBox
  refine WP.ret ?_
  repeat (first | refine thenE_ret ?_ | refine blockE_ret ?_)
  exact retQ.mk (vs := [.func _ _ _]) rfl ⟨rfl, trivial⟩ I.ext_of (⟨b4, b3, b5, rfl, k4.le le3, k3, k5.le (le4.trans le3)⟩)
theorem ROf1_ok (p : Prg) (s : Sl Int) (st : Int) (b4 b3 b5 : Nat) {h : Heap} (k4 : Known h b4 [s.val]) (k3 : Known h b3 p.enc) (k5 : Known h b5 [.int .i64 st]) (hp : p.In h) (hs : s.Is 1 iEnc h) (hl : s.xs.length = p.preds.xs.length) (hin : ∀ r ∈ p.rules.xs, 0 ≤ r.head.pred ∧ r.head.pred < p.preds.xs.length) :
    OfC Tryz.prog 132 [.pointer (some ⟨b4, 0, none⟩), .pointer (some ⟨b3, 0, none⟩), .pointer (some ⟨b5, 0, none⟩)] h p.rules.xs.length (ofQ p s.xs st) := by
  refine ⟨Tryz.call132, fun B hB hle n hn => ?_⟩
  have k4 := k4.le hle
  have k3 := k3.le hle
  have k5 := k5.le hle
  have hp := hp.le hle
  have Er := hp.rules.is.at hn
  obtain ⟨i0, i1⟩ := hin _ (List.getElem_mem hn)
  have El1 := (hs.le hle).el.el (lv_some hl i0 i1)
  have hq : ofQ p s.xs st n = decide (lv s.xs p.rules.xs[n].head.pred = st) := by unfold ofQ; rw [List.getD_eq_getElem?_getD, List.getElem?_eq_getElem hn]; rfl
  show Fn Tryz.prog 132 [.int .i64 n, .pointer (some ⟨b4, 0, none⟩), .pointer (some ⟨b3, 0, none⟩), .pointer (some ⟨b5, 0, none⟩)] B _
  refine Fn.of Tryz.func132 rfl Tryz.ntmps132 (by kernel_rfl) (by simp) ?_
  intro e
  have I := Inv.start hB
  refine WP.seq ?_
  refine WP.region ?_
  refine Ops.y (v := .bool _) (Y.assign rfl) ?_
  refine Ops.nil ?_
  refine WP.seq ?_
  refine WP.regionQ mixed I (by kernel_rfl) ?_
  refine OpsQ.y (v := .slice _ _ _) (fun w I => Y.loadv ty_45 rfl (I.rd (k4.rd.part 0 1)) rfl rfl) ?_
  refine OpsQ.y (v := .pointer (some ⟨_, _, none⟩)) (fun w I => Y.fa fa_25_1 rfl) ?_
  refine OpsQ.y (v := .slice _ _ _) (fun w I => Y.loadv ty_23 rfl (I.rd (k3.rd.part 1 1)) rfl rfl) ?_
  refine OpsQ.y (v := .int .i64 _) (fun w I => Y.move rfl) ?_
  refine OpsQ.y (v := .pointer (some ⟨_, _, none⟩)) (fun w I => Y.idxEl Er Tryz.underlying23 Tryz.sizeOf68 rfl rfl (Int.natCast_nonneg _) rfl) ?_
  refine OpsQ.y (v := .pointer (some ⟨_, _, none⟩)) (fun w I => Y.fa0 fa_68_0 rfl) ?_
  refine OpsQ.y (v := .pointer (some ⟨_, _, none⟩)) (fun w I => Y.fa0 fa_65_0 rfl) ?_
  refine OpsQ.y (v := .int .i64 _) (fun w I => Y.loadv ty_3 rfl (I.rd (Er.rd.part 0 1)) rfl rfl) ?_
  refine OpsQ.y (v := .pointer (some ⟨_, _, none⟩)) (fun w I => Y.idxEl El1 Tryz.underlying45 Tryz.sizeOf3 rfl rfl i0 rfl) ?_
  refine OpsQ.y (v := .int .i64 _) (fun w I => Y.loadv ty_3 rfl (I.rd (El1.rd.part 0 1)) rfl rfl) ?_
  refine OpsQ.y (v := .int .i64 _) (fun w I => Y.loadv ty_3 rfl (I.rd (k5.rd.part 0 1)) rfl rfl) ?_
  refine OpsQ.y (v := .bool (decide _)) (fun w I => Y.eqi rfl rfl) ?_
  refine OpsQ.y (v := .bool _) (fun w I => Y.assign rfl) ?_
  refine OpsQ.nil ?_
  intro w I
  refine WP.ret ?_
  repeat (first | refine thenE_ret ?_ | refine blockE_ret ?_)
  exact retQ.mk (vs := [.bool _]) rfl ⟨rfl, trivial⟩ I.ext_of (by simp only [tup]; rw [hq])
theorem Told_ok (B : Base) (hB : B.ok) (p : Prg) (f : Sl Fct) (g : FuncId) (cs : List Value) : Fn Tryz.prog 64 [p.val, f.val, .func (.func g) #[] cs.toArray] B (fun v h => ∃ b3 b5 b4, v = .func (.func 130) #[] #[.pointer (some ⟨b3, 0, none⟩), .pointer (some ⟨b5, 0, none⟩), .pointer (some ⟨b4, 0, none⟩)] ∧ Known h b3 p.enc ∧ Known h b5 [.func (.func g) #[] cs.toArray] ∧ Known h b4 [f.val]) := by
  refine Fn.of Tryz.func64 rfl Tryz.ntmps64 (by kernel_rfl) (by simp) ?_
  intro e
  have I := Inv.start hB
  refine WP.seq ?_
  refine WP.region ?_
  refine Ops.go (O.box (v := .agg #[_, _]) I rfl rfl ?_)
  intro b3 w I
  refine Ops.go (O.box (v := .slice _ _ _) I rfl rfl ?_)
  intro b4 w I
  refine Ops.go (O.box (v := .func _ _ _) I rfl rfl ?_)
  intro b5 w I
  refine Ops.y (v := .nilFunc) (Y.assign rfl) ?_
  refine Ops.nil ?_
  refine WP.seq ?_
  refine WP.region ?_
  refine Ops.y (v := .func _ _ _) (Y.mkfunc rfl rfl) ?_
  refine Ops.y (v := .func _ _ _) (Y.assign rfl) ?_
  refine Ops.nil ?_
  obtain ⟨h5, le5, k5, I⟩ := I.settleBox
  obtain ⟨h4, le4, k4, I⟩ := I.settleBox
  obtain ⟨h3, le3, k3, I⟩ := I.settleBox
  refine WP.ret ?_
  repeat (first | refine thenE_ret ?_ | refine blockE_ret ?_)
  exact retQ.mk (vs := [.func _ _ _]) rfl ⟨rfl, trivial⟩ I.ext_of (⟨b3, b5, b4, rfl, k3, k5.le (le4.trans le3), k4.le le3⟩)
def tEnc (t : Stp × Fct) : List Value := [t.1.val, t.2.val]
set_option maxHeartbeats 4000000 in
theorem Told1_iter (p : Prg) (f : Sl Fct) (g : FuncId) (cs : List Value) (q : Nat → Bool) (bp bo bf : Nat) (h : Heap) (kp : Known h bp p.enc) (ko : Known h bo [.func (.func g) #[] cs.toArray]) (kf : Known h bf [f.val]) (hp : p.In h) (hf : Fcts f h)
    (hpr : checkProg p = 0) (okf : FOk p.preds.xs f.xs) (ho : OfC Tryz.prog g cs h p.rules.xs.length q) :
    Iter Tryz.prog 130 [.pointer (some ⟨bp, 0, none⟩), .pointer (some ⟨bo, 0, none⟩), .pointer (some ⟨bf, 0, none⟩)] tEnc (toldL p.preds.xs f.xs p.rules.xs q) h := by
  intro l J Jx hg W hle j0 hok hext hround
  have hsm := hp.rules.is.small
  refine Calls.ofWP (args := [.func (.yield l) #[] #[], .pointer (some ⟨bp, 0, none⟩), .pointer (some ⟨bo, 0, none⟩), .pointer (some ⟨bf, 0, none⟩)]) Tryz.func130 rfl Tryz.ntmps130 (by kernel_rfl) (by simp) ?_
  intro e
  have I := Inv.start (hok _ _ _ j0)
  have kp0 := kp.le hle
  refine WP.seq ?_
  refine WP.region ?_
  refine Ops.y (v := .pointer (some ⟨_, _, none⟩)) (Y.fa fa_25_1 rfl) ?_
  refine Ops.y (v := .slice _ _ _) (Y.loadv ty_23 rfl (I.rd (kp0.rd.part 1 1)) rfl rfl) ?_
  refine Ops.y (v := .int .i64 _) (Y.lens Tryz.underlying23 rfl) ?_
  refine Ops.y (v := .int .i64 _) (Y.move rfl) ?_
  refine Ops.nil ?_
  refine WP.block ?_
  refine WP.loopE (σ := Nat) (fun n => [(0, .func (.yield l) #[] #[]), (1, .pointer (some ⟨bp, 0, none⟩)), (2, .pointer (some ⟨bo, 0, none⟩)), (3, .pointer (some ⟨bf, 0, none⟩)), (12, .int .i64 p.rules.xs.length), (13, .int .i64 n)])
    (fun n w => n ≤ p.rules.xs.length ∧ ∃ h1, hg.le h1 ∧ J h1 (toldK p.preds.xs f.xs p.rules.xs q n).length w) (fun n => p.rules.xs.length - n)
    ⟨0, ⟨rfl, rfl, rfl, rfl, rfl, rfl, trivial⟩, Nat.zero_le _, hg, Heap.le.refl _, j0⟩ ?_
  rintro n e w ⟨hn, h1, gl1, j1⟩
  have I := Inv.start (hok _ _ _ j1)
  have l1 := hle.trans gl1
  have kp := kp.le l1
  have ko := ko.le l1
  have kf := kf.le l1
  have hp := hp.le l1
  have hf := hf.le l1
  refine WP.seq ?_
  refine WP.region ?_
  refine Ops.y (v := .bool (decide _)) (Y.lti rfl rfl) ?_
  refine Ops.nil ?_
  refine WP.seq ?_
  refine WP.cond_dec rfl (fun hc => ?_) (fun hc => ?_)
  · have hn' : n < p.rules.xs.length := by omega
    have hr : p.rules.xs[n]? = some p.rules.xs[n] := List.getElem?_eq_getElem hn'
    have hr' : p.rules.xs[(n : Int).toNat]? = some p.rules.xs[n] := by rw [Int.toNat_natCast]; exact hr
    have ok := rules_rok hpr okf _ (List.getElem_mem hn')
    have hgd : p.rules.xs.getD n default = p.rules.xs[n] := by rw [List.getD_eq_getElem?_getD, hr]; rfl
    refine WP.skip ?_
    refine WP.seq ?_
    refine WP.block ?_
    refine WP.seq ?_
    refine WP.region ?_
    refine Ops.y (v := .int .i64 _) (Y.move rfl) ?_
    refine Ops.y (v := .int .i64 _) (Y.assign rfl) ?_
    refine Ops.nil ?_
    refine WP.seq ?_
    refine WP.seq ?_
    refine WP.region ?_
    refine Ops.y (v := .func _ _ _) (Y.loadv ty_102 rfl (I.rd (ko.rd.part 0 1)) rfl rfl) ?_
    refine Ops.y (v := .int .i64 _) (Y.move rfl) ?_
    refine Ops.go (O.callcv I ho.1 (fs := []) (cs := cs) rfl (ho.2 _ I.base_ok l1 n hn') rfl ?_)
    intro w I
    refine Ops.y (v := .bool _) (Y.not rfl) ?_
    refine Ops.nil ?_
    refine WP.cond rfl (fun h3 => ?_) (fun h3 => ?_)
    · have hq : q n = false := by simpa using h3
      have hN : toldN p.preds.xs f.xs p.rules.xs q n = [] := by unfold toldN; rw [hq]; rfl
      refine WP.exit ?_
      refine WP.region ?_
      refine Ops.y (v := .int .i64 _) (Y.addi rfl rfl ⟨by omega, by omega⟩) ?_
      refine Ops.y (v := .int .i64 _) (Y.move rfl) ?_
      refine Ops.nil ?_
      exact ⟨n + 1, ⟨⟨rfl, rfl, rfl, rfl, rfl, rfl, trivial⟩, by omega, h1, gl1, by rw [toldK_succ, hN, List.append_nil]; exact hext _ _ _ _ _ j1 I.ext_of⟩, by omega⟩
    have hq : q n = true := by simpa using h3
    have hN : toldN p.preds.xs f.xs p.rules.xs q n = (stepsF f.xs n p.rules.xs[n]).map fun s => (s, headF p.preds.xs f.xs p.rules.xs[n] s.vars) := by unfold toldN; rw [hq, if_pos rfl, hgd]
    refine WP.skip ?_
    refine WP.seq ?_
    refine WP.region ?_
    refine Ops.y (v := .agg #[_, _]) (Y.loadv ty_25 rfl (I.rd (kp.rd.part 0 2)) rfl rfl) ?_
    refine Ops.y (v := .slice _ _ _) (Y.loadv ty_26 rfl (I.rd (kf.rd.part 0 1)) rfl rfl) ?_
    refine Ops.y (v := .int .i64 _) (Y.move rfl) ?_
    refine Ops.go (O.call I Tryz.call131 (Steps_ok _ I.base_ok p hp f hf n p.rules.xs[n] (by omega) hr' ok okf) rfl ?_)
    rintro _ h2 w I le2 ⟨s, rfl, hs, is⟩
    refine Ops.y (v := .int .i64 _) (Y.lens Tryz.underlying36 rfl) ?_
    refine Ops.y (v := .int .i64 _) (Y.move rfl) ?_
    refine Ops.nil ?_
    have kp := kp.le le2
    have ko := ko.le le2
    have kf := kf.le le2
    have hp := hp.le le2
    have hf := hf.le le2
    have hss := is.small
    refine WP.block ?_
    refine WP.loopE (σ := Nat) (fun k => [(0, .func (.yield l) #[] #[]), (1, .pointer (some ⟨bp, 0, none⟩)), (2, .pointer (some ⟨bo, 0, none⟩)), (3, .pointer (some ⟨bf, 0, none⟩)), (12, .int .i64 p.rules.xs.length), (13, .int .i64 n), (5, .int .i64 n), (23, s.val), (24, .int .i64 s.xs.length), (25, .int .i64 k)])
      (fun k w => k ≤ s.xs.length ∧ ∃ h3, h2.le h3 ∧ J h3 ((toldK p.preds.xs f.xs p.rules.xs q n).length + k) w) (fun k => s.xs.length - k)
      ⟨0, ⟨rfl, rfl, rfl, rfl, rfl, rfl, rfl, rfl, rfl, rfl, trivial⟩, Nat.zero_le _, h2, Heap.le.refl _, hext _ _ _ _ _ j1 I.ext_of⟩ ?_
    rintro k e w ⟨hk, h3, gl3, j3⟩
    have I := Inv.start (hok _ _ _ j3)
    have kp := kp.le gl3
    have ko := ko.le gl3
    have kf := kf.le gl3
    have hp := hp.le gl3
    have hf := hf.le gl3
    refine WP.seq ?_
    refine WP.region ?_
    refine Ops.y (v := .bool (decide _)) (Y.lti rfl rfl) ?_
    refine Ops.nil ?_
    refine WP.seq ?_
    refine WP.cond_dec rfl (fun h5 => ?_) (fun h5 => ?_)
    · have hk' : k < s.xs.length := by omega
      have E := (is.le gl3).at hk'
      have hmem : s.xs[k] ∈ stepsF f.xs n p.rules.xs[n] := hs ▸ List.getElem_mem hk'
      obtain ⟨_, hvs, hhf⟩ := steps_holds hmem
      obtain ⟨y, hy⟩ : ∃ y, headF p.preds.xs f.xs p.rules.xs[n] s.xs[k].vars = y := ⟨_, rfl⟩
      have hyF : holdsF p.preds.xs f.xs p.rules.xs[n] s.xs[k].vars = (true, y) := by unfold holdsF; rw [if_pos hhf, hy]
      have hget : (toldN p.preds.xs f.xs p.rules.xs q n)[k]? = some (s.xs[k], y) := by rw [hN, List.getElem?_map, ← hs, List.getElem?_eq_getElem hk', ← hy]; rfl
      refine WP.skip ?_
      refine WP.seq ?_
      refine WP.block ?_
      refine WP.seq ?_
      refine WP.region ?_
      refine Ops.y (v := .pointer (some ⟨_, _, none⟩)) (Y.idxEl E Tryz.underlying36 Tryz.sizeOf82 rfl rfl (Int.natCast_nonneg _) rfl) ?_
      refine Ops.y (v := .agg #[_, _, _, _]) (Y.loadv ty_82 rfl (I.rd (E.rd.part 0 4)) rfl rfl) ?_
      refine Ops.go (O.alloc I Tryz.zeroValue82 rfl ?_)
      intro b7 w I
      refine Ops.go (O.store (v := .agg #[_, _, _, _]) I ty_82 0 rfl rfl rfl rfl rfl rfl (Nat.le_of_ble_eq_true rfl) rfl ?_)
      intro w I
      refine Ops.nil ?_
      refine WP.seq ?_
      refine WP.region ?_
      refine Ops.y (v := .agg #[_, _]) (Y.loadv ty_25 rfl (I.rd (kp.rd.part 0 2)) rfl rfl) ?_
      refine Ops.y (v := .slice _ _ _) (Y.loadv ty_26 rfl (I.rd (kf.rd.part 0 1)) rfl rfl) ?_
      refine Ops.y (v := .int .i64 _) (Y.move rfl) ?_
      refine Ops.y (v := .pointer (some ⟨_, _, none⟩)) (Y.fa fa_82_1 rfl) ?_
      refine Ops.y (v := .agg #[_, _, _]) (Y.loadv ty_80 rfl (I.rdbox 0 rfl 1 3) rfl rfl) ?_
      refine Ops.go (O.callv I Tryz.call84 (FOf_at _ I.base_ok p hp f hf n p.rules.xs[n] (by omega) hr' ok okf s.xs[k].vars hvs (true, y) hyF) rfl ?_)
      intro w I
      refine Ops.y (v := .tuple #[_, _]) (Y.move rfl) ?_
      refine Ops.y (v := .bool _) (Y.extract rfl rfl) ?_
      refine Ops.y (v := .agg #[_, _, _, _]) (Y.extract rfl rfl) ?_
      refine Ops.go (O.alloc I Tryz.zeroValue52 rfl ?_)
      intro b9 w I
      refine Ops.y (v := .bool _) (Y.assign rfl) ?_
      refine Ops.go (O.store (v := .agg #[_, _, _, _]) I ty_52 0 rfl rfl rfl rfl rfl rfl (Nat.le_of_ble_eq_true rfl) rfl ?_)
      intro w I
      refine Ops.nil ?_
      refine WP.seq ?_
      refine WP.regionX (by kernel_rfl) ?_
      refine OpsX.y (v := .func _ _ _) (Y.move rfl) ?_
      refine OpsX.y (v := .agg #[_, _, _, _]) (Y.loadv ty_82 rfl (I.rdbox 1 rfl 0 4) rfl rfl) ?_
      refine OpsX.y (v := .agg #[_, _, _, _]) (Y.loadv ty_52 rfl (I.rdbox 0 rfl 0 4) rfl rfl) ?_
      refine OpsX.yield rfl rfl (hround h3 _ _ _ (gl1.trans (le2.trans gl3)) (toldK_get hn' hget) (hext _ _ _ _ _ j3 I.ext_of)) ?_
      rintro ed w (⟨rfl, h4, gl4, j4⟩ | ⟨rfl, jx⟩)
      · refine ⟨_, rfl, ?_⟩
        refine OpsX.y (v := .bool _) (Y.not rfl) ?_
        refine OpsX.nil ?_
        refine WP.cond_f rfl ?_
        refine WP.skip ?_
        refine WP.region ?_
        refine Ops.y (v := .int .i64 _) (Y.addi rfl rfl ⟨by omega, by omega⟩) ?_
        refine Ops.y (v := .int .i64 _) (Y.move rfl) ?_
        refine Ops.nil ?_
        exact ⟨k + 1, ⟨⟨rfl, rfl, rfl, rfl, rfl, rfl, rfl, rfl, rfl, rfl, trivial⟩, by omega, h4, gl3.trans gl4, j4⟩, by omega⟩
      · refine ⟨_, rfl, ?_⟩
        refine OpsX.y (v := .bool _) (Y.not rfl) ?_
        refine OpsX.nil ?_
        refine WP.cond_t rfl ?_
        refine WP.ret ?_
        repeat (first | refine thenE_ret ?_ | refine blockE_ret ?_)
        exact ⟨.inl rfl, [], trivial, ⟨_, rfl⟩, .inr jx⟩
    obtain rfl : k = s.xs.length := by omega
    refine WP.exit ?_
    refine WP.region ?_
    refine Ops.y (v := .int .i64 _) (Y.addi rfl rfl ⟨by omega, by omega⟩) ?_
    refine Ops.y (v := .int .i64 _) (Y.move rfl) ?_
    refine Ops.nil ?_
    exact ⟨n + 1, ⟨⟨rfl, rfl, rfl, rfl, rfl, rfl, trivial⟩, by omega, h3, gl1.trans (le2.trans gl3), by rw [toldK_succ, hN, List.length_append, List.length_map, ← hs]; exact j3⟩, by omega⟩
  obtain rfl : n = p.rules.xs.length := by omega
  refine WP.exit ?_
  exact ⟨.inr rfl, [], trivial, ⟨_, rfl⟩, .inl ⟨h1, gl1, j1⟩⟩
end Go.TF
end
section
/- Turn, Once, Closed. -/
namespace Go.TF
open Go Go.RowKit Go.Proofs
set_option maxRecDepth 20000

set_option maxHeartbeats 4000000 in
theorem Turn_own (B : Base) (hB : B.ok) (p : Prg) (hp : p.In B.h) (hpr : checkProg p = 0) (f : Sl Fct) (hf : Fcts f B.h) (okf : FOk p.preds.xs f.xs) (g : FuncId) (cs : List Value) (q : Nat → Bool) (ho : OfC Tryz.prog g cs B.h p.rules.xs.length q) :
    Fn Tryz.prog 95 [p.val, f.val, .func (.func g) #[] cs.toArray] B (PutO B.h (turnL p.preds.xs f.xs (toldL p.preds.xs f.xs p.rules.xs q))) := by
  have h125 := okf.le125
  refine Fn.ofD Tryz.func95 rfl Tryz.ntmps95 (by kernel_rfl) (by simp) ?_
  intro e
  have I := Inv.start hB
  refine WPD.seq ?_
  refine WPD.region ?_
  refine Ops.go (O.box (v := .agg #[_, _]) I rfl rfl ?_)
  intro b3 w I
  refine Ops.y (v := .slice _ _ _) (Y.assign rfl) ?_
  refine Ops.y (v := .bool _) (Y.assign rfl) ?_
  refine Ops.nil ?_
  refine WPD.seq ?_
  refine WPD.region ?_
  refine Ops.go (O.mkE (α := Fct) Fct.enc I Tryz.underlying26 Tryz.sizeOf52 ?_)
  intro s13 h13 w I le13 e13 c13 a13 o13
  refine Ops.y (v := .slice _ _ _) (Y.move rfl) ?_
  refine Ops.go (O.appendE (α := Fct) I Tryz.underlying26 et_52 (fun _ => rfl) o13 le13 e13 c13 a13 (hf.el.le le13) rfl rfl (by omega) (by omega) ?_)
  intro rr h2 w I le2 hrx o2 r0
  refine Ops.go (O.alloc I Tryz.zeroValue26 rfl ?_)
  intro b8 w I
  refine Ops.go (O.alloc I Tryz.zeroValue4 rfl ?_)
  intro b9 w I
  refine Ops.go (O.store (v := rr.val) I ty_26 1 rfl rfl rfl rfl rfl rfl (Nat.le_of_ble_eq_true rfl) rfl ?_)
  intro w I
  refine Ops.go (O.store (v := .bool _) I ty_4 0 rfl rfl rfl rfl rfl rfl (Nat.le_of_ble_eq_true rfl) rfl ?_)
  intro w I
  refine Ops.nil ?_
  have gl2 := le13.trans le2
  have irr : Fcts rr h2 := ⟨o2.in (fun _ => rfl), by rw [hrx]; omega⟩
  refine WPD.seq ?_
  refine WPD.seq ?_
  refine WPD.region ?_
  refine Ops.y (v := .agg #[_, _]) (Y.loadv ty_25 rfl (I.rdbox 2 rfl 0 2) rfl rfl) ?_
  refine Ops.y (v := .slice _ _ _) (Y.move rfl) ?_
  refine Ops.y (v := .func _ _ _) (Y.move rfl) ?_
  refine Ops.go (O.call I Tryz.call64 (Told_ok _ I.base_ok p f g cs) rfl ?_)
  rintro _ h3 w I le3 ⟨bp, bo, bf, rfl, kp, ko, kf⟩
  refine Ops.nil ?_
  have gl3 := gl2.trans le3
  refine WPD.block ?_
  refine WPD.rangeFuncH (ms := []) (σ := Sl Fct × Bool) (fun s => [box b9 [.bool s.2] 4, box b8 [s.1.val] 26, box b3 p.enc 25]) (fun k s h => (s.1.xs, s.2) = turnL p.preds.xs f.xs ((toldL p.preds.xs f.xs p.rules.xs q).take k) ∧ Fcts s.1 h ∧ OwnH 52 4 s.1 Fct.enc B.h h) (fun _ _ _ => False) (fun _ _ _ _ hl hj => ⟨hj.1, hj.2.1.le hl, hj.2.2.le hl⟩) (rr, false) I ⟨by rw [List.take_zero, hrx]; rfl, irr.le le3, o2.le le3⟩ rfl Tryz.call130
    (Told1_iter p f g cs q bp bo bf h3 kp ko kf (hp.le gl3) (hf.le gl3) hpr okf (ho.le gl3)) (fun _ => rfl) (by kernel_rfl) (by kernel_rfl) (by kernel_rfl) ?_ ?_ ?_
  · rintro l r ms' hg k t ⟨u, ch⟩ W hx gl I ⟨hj, iu, ou⟩
    dsimp only at hj iu ou
    have hk := (List.getElem?_eq_some_iff.1 hx).1
    have hxk := (List.getElem?_eq_some_iff.1 hx).2
    have hfine := told_fine (q := q) (rules_rok hpr okf) okf t (List.mem_of_getElem? hx)
    have oku : FOk p.preds.xs u.xs := by
      have := turn_fok okf (ts := (toldL p.preds.xs f.xs p.rules.xs q).take k) fun x hx => told_fine (rules_rok hpr okf) okf x (List.mem_of_mem_take hx)
      rw [← hj] at this; exact this
    have hnx : putS p.preds.xs (u.xs, ch) t.2 = turnL p.preds.xs f.xs ((toldL p.preds.xs f.xs p.rules.xs q).take (k + 1)) := by rw [turnL_take hk, ← hj, hxk]
    refine WPI.region (by kernel_rfl) ?_
    refine Ops.go (O.alloc I Tryz.zeroValue52 rfl ?_)
    intro b11 w I
    refine Ops.go (O.store (v := .agg #[_, _, _, _]) I ty_52 0 rfl rfl rfl rfl rfl rfl (Nat.le_of_ble_eq_true rfl) rfl ?_)
    intro w I
    refine Ops.nil ?_
    refine ⟨hg, [box b11 t.2.enc 52], Heap.le.refl _, I, fun r' W2 I => ?_⟩
    refine WPI.block ?_
    refine WPI.seq ?_
    refine WPI.region (by kernel_rfl) ?_
    refine Ops.y (v := .bool _) (Y.assign rfl) ?_
    refine Ops.nil ?_
    refine WPI.seq ?_
    refine WPI.region (by kernel_rfl) ?_
    refine Ops.y (v := .pointer (some ⟨_, _, none⟩)) (Y.fa0 fa_25_0 rfl) ?_
    refine Ops.y (v := .slice _ _ _) (Y.loadv ty_22 rfl (I.rdbox 3 rfl 0 1) rfl rfl) ?_
    refine Ops.y (v := .slice _ _ _) (Y.loadv ty_26 rfl (I.rdbox 2 rfl 0 1) rfl rfl) ?_
    refine Ops.y (v := .agg #[_, _, _, _]) (Y.loadv ty_52 rfl (I.rdbox 0 rfl 0 4) rfl rfl) ?_
    refine Ops.go (O.call I Tryz.call67 (Put_own _ I.base_ok p.preds (hp.preds.le (gl3.trans gl)) u iu oku t.2 hfine) rfl ?_)
    rintro _ h5 w I le5 ⟨u2, rfl, hu2, iu2, ou2⟩
    refine Ops.y (v := .tuple #[_, _]) (Y.move rfl) ?_
    refine Ops.y (v := .slice _ _ _) (Y.extract rfl rfl) ?_
    refine Ops.y (v := .bool _) (Y.extract rfl rfl) ?_
    refine Ops.go (O.store (v := .slice _ _ _) I ty_26 2 rfl rfl rfl rfl rfl rfl (Nat.le_of_ble_eq_true rfl) rfl ?_)
    intro w I
    refine Ops.y (v := .bool _) (Y.assign rfl) ?_
    refine Ops.nil ?_
    cases ch
    · refine WPI.region (by kernel_rfl) ?_
      refine Ops.y (v := .bool false) (Y.b (Y.loadv ty_4 rfl (I.rdbox 1 rfl 0 1) rfl rfl) (rfl)) ?_
      refine Ops.y (v := .bool _) (Y.move rfl) ?_
      refine Ops.ygt rfl (v := .bool _) (Y.move rfl) ?_
      refine Ops.y (v := .bool _) (Y.pick_f rfl rfl) ?_
      refine Ops.go (O.store (v := .bool _) I ty_4 1 rfl rfl rfl rfl rfl rfl (Nat.le_of_ble_eq_true rfl) rfl ?_)
      intro w I
      refine Ops.nil ?_
      exact ⟨h5, (u2, _), [box b11 t.2.enc 52], le5, I, by rw [← hnx, hu2]; rfl, iu2, ou2.older (gl3.trans gl)⟩
    · refine WPI.region (by kernel_rfl) ?_
      refine Ops.y (v := .bool true) (Y.b (Y.loadv ty_4 rfl (I.rdbox 1 rfl 0 1) rfl rfl) (rfl)) ?_
      refine Ops.y (v := .bool _) (Y.move rfl) ?_
      refine Ops.gf rfl ?_
      refine Ops.y (v := .bool _) (Y.pick_t rfl rfl) ?_
      refine Ops.go (O.store (v := .bool _) I ty_4 1 rfl rfl rfl rfl rfl rfl (Nat.le_of_ble_eq_true rfl) rfl ?_)
      intro w I
      refine Ops.nil ?_
      exact ⟨h5, (u2, _), [box b11 t.2.enc 52], le5, I, by rw [← hnx, hu2]; rfl, iu2, ou2.older (gl3.trans gl)⟩
  · rintro D h4 ⟨u, ch⟩ W gl I ⟨hj, iu, ou⟩
    dsimp only at hj iu ou
    rw [List.take_length] at hj
    refine WPD.seq ?_
    refine WPD.regionQ mixed I (by kernel_rfl) ?_
    refine OpsQ.y (v := .slice _ _ _) (fun w I => Y.loadv ty_26 rfl (I.rdbox 1 rfl 0 1) rfl rfl) ?_
    refine OpsQ.y (v := .bool _) (fun w I => Y.loadv ty_4 rfl (I.rdbox 0 rfl 0 1) rfl rfl) ?_
    refine OpsQ.y (v := .slice _ _ _) (fun w I => Y.assign rfl) ?_
    refine OpsQ.y (v := .bool _) (fun w I => Y.assign rfl) ?_
    refine OpsQ.nil ?_
    intro w I
    refine WPD.ret ?_
    repeat (first | refine thenD_ret ?_ | refine blockD_ret ?_)
    show doneQ _ _ _ _ _ _ _ _
    exact ⟨.inl rfl, [D], _, h4, [u.val, .bool ch], rfl, I, fun w2 I2 => ⟨rfl, rfl, trivial⟩, ⟨u, by rw [← hj]; rfl, by rw [← hj], iu, ou⟩⟩
  · rintro D c h4 s W gl I hx
    exact hx.elim
theorem lv_eq_of_least {cs : List (Int × Ltl)} {n : Nat} {L M : List Int} (h1 : Least cs n L) (h2 : Least cs n M) : L = M :=
  lv_ext (h1.sol.len.trans h2.sol.len.symm) fun i => Int.le_antisymm (h1.least M h2.sol i) (h2.least L h1.sol i)
open Classical in
noncomputable def strataM (p : Prg) : List Int := if h : ∃ M, Least (usesL p.rules.xs) p.preds.xs.length M then Classical.choose h else []
theorem strataM_eq {p : Prg} {M : List Int} (h : Least (usesL p.rules.xs) p.preds.xs.length M) : strataM p = M := by
  have he : ∃ M, Least (usesL p.rules.xs) p.preds.xs.length M := ⟨M, h⟩
  unfold strataM
  rw [dif_pos he]
  exact lv_eq_of_least (Classical.choose_spec he) h
theorem PutP.mono {r : List Fct × Bool} : MonoS (PutP r) := fun _ _ _ hl ⟨s, a, b, c⟩ => ⟨s, a, b, c.le hl⟩
def ROfS (p : Prg) (M : List Int) (st : Int) : Sp := fun v h => ∃ cs, v = .func (.func 132) #[] (List.toArray cs) ∧ OfC Tryz.prog 132 cs h p.rules.xs.length (ofQ p M st)
theorem ROfS.mono {p : Prg} {M : List Int} {st : Int} : MonoS (ROfS p M st) := fun _ _ _ hl ⟨cs, a, b⟩ => ⟨cs, a, b.le hl⟩
theorem fnil {h : Heap} : Fcts ⟨none, 0, []⟩ h := ⟨fun i x hx => by simp at hx, by simp⟩
/-! ### Closed -/
end Go.TF
end
