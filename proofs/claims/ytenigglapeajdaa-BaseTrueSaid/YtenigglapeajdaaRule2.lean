/- The contracts of package rule, on: Vars, Atoms. -/
import Derived.Test.YtenigglapeajdaaRule
import Derived.Test.YtenigglapeajdaaSpRule2
namespace Go.TF
open Go Go.RowKit Go.Proofs
set_option maxRecDepth 10000

theorem Vars_ok (B : Base) (hB : B.ok) (l : Sl Atm) (hl : l.Is 2 Atm.enc B.h) (he : ∀ a ∈ l.xs, a.In B.h) (hn : l.xs.length ≤ 4) :
    FnM Try.prog 81 [l.val] B (fun v _ M => ∃ b es, v = .map (some b) ∧ M = [imap b es] ∧ CountOf es (cntA l.xs)) := by
  refine FnM.of Try.func81 rfl Try.ntmps81 (by kernel_rfl) (by simp) ?_
  intro e
  have I := Inv.start hB
  refine WP.seq ?_
  refine WP.region ?_
  refine Ops.y (v := .map _) (Y.assign rfl) ?_
  refine Ops.nil ?_
  refine WP.seq ?_
  refine WP.region ?_
  refine Ops.go (O.mkmap I ?_)
  intro b8 w I
  refine Ops.y (v := .map _) (Y.assign rfl) ?_
  refine Ops.nil ?_
  refine WP.seq ?_
  refine WP.seq ?_
  refine WP.region ?_
  refine Ops.y (v := .slice _ _ _) (Y.move rfl) ?_
  refine Ops.y (v := .int .i64 _) (Y.lens Try.underlying108 rfl) ?_
  refine Ops.y (v := .int .i64 _) (Y.move rfl) ?_
  refine Ops.nil ?_
  refine WP.block ?_
  refine WP.loopE (σ := Nat × List (Int × Int)) (fun s => [(3, .map (some b8)), (9, l.val), (10, .int .i64 l.xs.length), (11, .int .i64 s.1)]) (fun s w => Inv B B.h [imap b8 s.2] w ∧ s.1 ≤ l.xs.length ∧ CountOf s.2 (cntA (l.xs.take s.1))) (fun s => l.xs.length - s.1)
    ⟨(0, []), ⟨rfl, rfl, rfl, rfl, trivial⟩, I, Nat.zero_le _, CountOf.nil⟩ ?_
  rintro ⟨k, es⟩ e w ⟨I, hk, hc⟩
  dsimp only at I hk hc ⊢
  refine WP.seq ?_
  refine WP.region ?_
  refine Ops.y (v := .bool (decide _)) (Y.lti rfl rfl) ?_
  refine Ops.nil ?_
  refine WP.seq ?_
  refine WP.cond_dec rfl (fun h => ?_) (fun h => ?_)
  · have hk' : k < l.xs.length := by omega
    have E1 := hl.at hk'
    have ha := he _ (List.getElem_mem hk')
    have hsm : l.xs[k].args.xs.length ≤ 140737488355328 := Sl.Is.small ha
    refine WP.skip ?_
    refine WP.seq ?_
    refine WP.block ?_
    refine WP.seq ?_
    refine WP.region ?_
    refine Ops.y (v := .pointer (some ⟨_, _, none⟩)) (Y.idxEl E1 Try.underlying108 Try.sizeOf56 rfl rfl (Int.natCast_nonneg _) rfl) ?_
    refine Ops.y (v := .agg #[_, _]) (Y.loadv ty_56 rfl (I.rd (E1.rd.part 0 2)) rfl rfl) ?_
    refine Ops.go (O.alloc I Try.zeroValue56 rfl ?_)
    intro b5 w I
    refine Ops.go (O.store (v := .agg #[_, _]) I ty_56 0 rfl rfl rfl rfl rfl rfl (Nat.le_of_ble_eq_true rfl) rfl ?_)
    intro w I
    refine Ops.nil ?_
    refine WP.seq ?_
    refine WP.region ?_
    refine Ops.y (v := .pointer (some ⟨_, _, none⟩)) (Y.fa fa_56_1 rfl) ?_
    refine Ops.y (v := .slice _ _ _) (Y.loadv ty_54 rfl (I.rdbox 0 rfl 1 1) rfl rfl) ?_
    refine Ops.y (v := .int .i64 _) (Y.lens Try.underlying54 rfl) ?_
    refine Ops.y (v := .int .i64 _) (Y.move rfl) ?_
    refine Ops.nil ?_
    refine WP.block ?_
    refine WP.loopE (σ := Nat × List (Int × Int)) (fun s => [(3, .map (some b8)), (9, l.val), (10, .int .i64 l.xs.length), (11, .int .i64 k), (16, l.xs[k].args.val), (17, .int .i64 l.xs[k].args.xs.length), (18, .int .i64 s.1)]) (fun s w => Inv B B.h [imap b8 s.2] w ∧ s.1 ≤ l.xs[k].args.xs.length ∧ CountOf s.2 (fun v => cntA (l.xs.take k) v + cntT (l.xs[k].args.xs.take s.1) v)) (fun s => l.xs[k].args.xs.length - s.1)
      ⟨(0, es), ⟨rfl, rfl, rfl, rfl, rfl, rfl, rfl, trivial⟩, I.drop, Nat.zero_le _, hc⟩ ?_
    rintro ⟨j, es⟩ e w ⟨I, hj, hc⟩
    dsimp only at I hj hc ⊢
    refine WP.seq ?_
    refine WP.region ?_
    refine Ops.y (v := .bool (decide _)) (Y.lti rfl rfl) ?_
    refine Ops.nil ?_
    refine WP.seq ?_
    refine WP.cond_dec rfl (fun h2 => ?_) (fun h2 => ?_)
    · have hj' : j < l.xs[k].args.xs.length := by omega
      have E2 := Sl.Is.at ha hj'
      have hcg := hc.get l.xs[k].args.xs[j].n
      have hb1 := cntA_le (l := l.xs.take k) (m := 140737488355328) (fun a hm => Sl.Is.small (he a (List.mem_of_mem_take hm))) l.xs[k].args.xs[j].n
      have hb2 := cntT_le (l.xs[k].args.xs.take j) l.xs[k].args.xs[j].n
      simp only [List.length_take] at hb1 hb2
      have hb3 : min k l.xs.length * 140737488355328 ≤ 4 * 140737488355328 := Nat.mul_le_mul_right _ (by omega)
      refine WP.skip ?_
      refine WP.seq ?_
      refine WP.block ?_
      refine WP.seq ?_
      refine WP.region ?_
      refine Ops.y (v := .pointer (some ⟨_, _, none⟩)) (Y.idxEl E2 Try.underlying54 Try.sizeOf91 rfl rfl (Int.natCast_nonneg _) rfl) ?_
      refine Ops.y (v := .agg #[_, _]) (Y.loadv ty_91 rfl (I.rd (E2.rd.part 0 2)) rfl rfl) ?_
      refine Ops.go (O.alloc I Try.zeroValue91 rfl ?_)
      intro b7 w I
      refine Ops.go (O.store (v := .agg #[_, _]) I ty_91 0 rfl rfl rfl rfl rfl rfl (Nat.le_of_ble_eq_true rfl) rfl ?_)
      intro w I
      refine Ops.nil ?_
      refine WP.seq ?_
      refine WP.region ?_
      refine Ops.y (v := .pointer (some ⟨_, _, none⟩)) (Y.fa0 fa_91_0 rfl) ?_
      refine Ops.y (v := .bool _) (Y.loadv ty_4 rfl (I.rdbox 0 rfl 0 1) rfl rfl) ?_
      refine Ops.nil ?_
      refine WP.cutL (σ := List (Int × Int)) (fun _ => [(3, .map (some b8)), (9, l.val), (10, .int .i64 l.xs.length), (11, .int .i64 k), (16, l.xs[k].args.val), (17, .int .i64 l.xs[k].args.xs.length), (18, .int .i64 j)]) (fun es w => Inv B B.h [imap b8 es] w ∧ CountOf es (fun v => cntA (l.xs.take k) v + cntT (l.xs[k].args.xs.take (j + 1)) v)) ?_ ?_
      · refine WP.cond rfl (fun hv => ?_) (fun hv => ?_)
        · refine WP.region ?_
          refine Ops.y (v := .map _) (Y.move rfl) ?_
          refine Ops.y (v := .pointer (some ⟨_, _, none⟩)) (Y.fa fa_91_1 rfl) ?_
          refine Ops.y (v := .int .i64 _) (Y.loadv ty_3 rfl (I.rdbox 0 rfl 1 1) rfl rfl) ?_
          refine Ops.y (v := .int .i64 _) (Y.lookup I Try.underlying111 Try.underlying3 Try.zeroValue3 1 rfl rfl rfl) ?_
          refine Ops.y (v := .int .i64 _) (Y.addi rfl rfl ⟨by omega, by omega⟩) ?_
          refine Ops.go (O.mapset I Try.underlying111 Try.underlying3 1 rfl rfl rfl rfl ?_)
          intro w I
          refine Ops.nil ?_
          exact ⟨_, ⟨rfl, rfl, rfl, rfl, rfl, rfl, rfl, trivial⟩, I.drop, hc.put _ fun v => by rw [cntT_take hj']; simp only [hv, true_and]; by_cases e : v = l.xs[k].args.xs[j].n <;> simp [e, Ne.symm] <;> omega⟩
        refine WP.skip ?_
        exact ⟨es, ⟨rfl, rfl, rfl, rfl, rfl, rfl, rfl, trivial⟩, I.drop, hc.same fun v => by rw [cntT_take hj']; simp [hv]⟩
      rintro es e w ⟨I, hc⟩
      refine WP.region ?_
      refine Ops.y (v := .int .i64 _) (Y.addi rfl rfl ⟨by omega, by omega⟩) ?_
      refine Ops.y (v := .int .i64 _) (Y.move rfl) ?_
      refine Ops.nil ?_
      exact ⟨(j + 1, es), ⟨⟨rfl, rfl, rfl, rfl, rfl, rfl, rfl, trivial⟩, I, by dsimp only; omega, hc⟩, by dsimp only; omega⟩
    refine WP.exit ?_
    refine WP.region ?_
    refine Ops.y (v := .int .i64 _) (Y.addi rfl rfl ⟨by omega, by omega⟩) ?_
    refine Ops.y (v := .int .i64 _) (Y.move rfl) ?_
    refine Ops.nil ?_
    have hj0 : j = l.xs[k].args.xs.length := by omega
    exact ⟨(k + 1, es), ⟨⟨rfl, rfl, rfl, rfl, trivial⟩, I, by dsimp only; omega, fun v => by rw [cntA_take hk']; have := hc v; rw [hj0, List.take_length] at this; exact this⟩, by dsimp only; omega⟩
  refine WP.exit ?_
  refine WP.seq ?_
  refine WP.region ?_
  refine Ops.y (v := .map _) (Y.move rfl) ?_
  refine Ops.y (v := .map _) (Y.assign rfl) ?_
  refine Ops.nil ?_
  have hk0 : k = l.xs.length := by omega
  refine WP.ret ?_
  repeat (first | refine thenE_ret ?_ | refine blockE_ret ?_)
  exact retM.mk (vs := [_]) rfl ⟨rfl, trivial⟩ (I) (⟨b8, es, rfl, rfl, by rw [hk0, List.take_length] at hc; exact hc⟩)
/-- What Atoms hands on. -/
def AtomsR (b : Sl Ltl) (v : Value) (_ : Heap) (M : List SA) : Prop := ∃ u1 u2, v = .tuple #[u1, u2] ∧ M = [ownSl 56 2 u1 (negs b.xs).length ((negs b.xs).flatMap Atm.enc), ownSl 56 2 u2 (poss b.xs).length ((poss b.xs).flatMap Atm.enc)]
theorem Atoms_ok (B : Base) (hB : B.ok) (r : Rul) (hr : Ltls r.body B.h) (hn : r.body.xs.length ≤ 3) : FnM Try.prog 80 [r.val] B (AtomsR r.body) := by
  refine FnM.of Try.func80 rfl Try.ntmps80 (by kernel_rfl) (by simp) ?_
  intro e
  have I := Inv.start hB
  refine WP.seq ?_
  refine WP.region ?_
  refine Ops.go (O.box (v := .agg #[_, _, _, _, _]) I rfl rfl ?_)
  intro b1 w I
  refine Ops.y (v := .slice _ _ _) (Y.assign rfl) ?_
  refine Ops.y (v := .slice _ _ _) (Y.assign rfl) ?_
  refine Ops.nil ?_
  refine WP.seq ?_
  refine WP.seq ?_
  refine WP.region ?_
  refine Ops.y (v := .pointer (some ⟨_, _, none⟩)) (Y.fa fa_59_3 rfl) ?_
  refine Ops.y (v := .slice _ _ _) (Y.loadv ty_57 rfl (I.rdbox 0 rfl 4 1) rfl rfl) ?_
  refine Ops.y (v := .int .i64 _) (Y.lens Try.underlying57 rfl) ?_
  refine Ops.y (v := .int .i64 _) (Y.move rfl) ?_
  refine Ops.nil ?_
  refine WP.block ?_
  have In1 := I.nilSl 56 2
  have In2 := In1.nilSl 56 2
  refine WP.loopE (σ := Nat × Value × Value × Heap) (fun s => [(1, .pointer (some ⟨b1, 0, none⟩)), (2, s.2.1), (3, s.2.2.1), (7, r.body.val), (8, .int .i64 r.body.xs.length), (9, .int .i64 s.1)])
    (fun s w => Inv B s.2.2.2 [ownSl 56 2 s.2.1 (negs (r.body.xs.take s.1)).length ((negs (r.body.xs.take s.1)).flatMap Atm.enc), ownSl 56 2 s.2.2.1 (poss (r.body.xs.take s.1)).length ((poss (r.body.xs.take s.1)).flatMap Atm.enc)] w ∧ s.1 ≤ r.body.xs.length ∧ B.h.le s.2.2.2) (fun s => r.body.xs.length - s.1)
    ⟨(0, .slice none 0 0, .slice none 0 0, B.h), ⟨rfl, rfl, rfl, rfl, rfl, rfl, trivial⟩, In2.weak (by simp [negs, poss]), Nat.zero_le _, Heap.le.refl _⟩ ?_
  rintro ⟨k, u1, u2, h⟩ e w ⟨I, hk, hle⟩
  dsimp only at I hk hle ⊢
  refine WP.seq ?_
  refine WP.region ?_
  refine Ops.y (v := .bool (decide _)) (Y.lti rfl rfl) ?_
  refine Ops.nil ?_
  refine WP.seq ?_
  refine WP.cond_dec rfl (fun h1 => ?_) (fun h1 => ?_)
  · have hk' : k < r.body.xs.length := by omega
    have E1 := (hr.is.at hk').le hle
    have l1 := negs_le (r.body.xs.take k)
    have l2 := poss_le (r.body.xs.take k)
    simp only [List.length_take] at l1 l2
    refine WP.skip ?_
    refine WP.seq ?_
    refine WP.block ?_
    refine WP.seq ?_
    refine WP.region ?_
    refine Ops.y (v := .pointer (some ⟨_, _, none⟩)) (Y.idxEl E1 Try.underlying57 Try.sizeOf66 rfl rfl (Int.natCast_nonneg _) rfl) ?_
    refine Ops.y (v := .agg #[_, _, _]) (Y.loadv ty_66 rfl (I.rd (E1.rd.part 0 3)) rfl rfl) ?_
    refine Ops.go (O.alloc I Try.zeroValue66 rfl ?_)
    intro b5 w I
    refine Ops.go (O.store (v := .agg #[_, _, _]) I ty_66 0 rfl rfl rfl rfl rfl rfl (Nat.le_of_ble_eq_true rfl) rfl ?_)
    intro w I
    refine Ops.nil ?_
    refine WP.seq ?_
    refine WP.region ?_
    refine Ops.y (v := .pointer (some ⟨_, _, none⟩)) (Y.fa0 fa_66_0 rfl) ?_
    refine Ops.y (v := .bool _) (Y.loadv ty_4 rfl (I.rdbox 0 rfl 0 1) rfl rfl) ?_
    refine Ops.nil ?_
    refine WP.cond rfl (fun hv => ?_) (fun hv => ?_)
    · refine WP.region ?_
      refine Ops.y (v := u1) (Y.move rfl) ?_
      refine Ops.y (v := .pointer (some ⟨_, _, none⟩)) (Y.fa fa_66_1 rfl) ?_
      refine Ops.y (v := .agg #[_, _]) (Y.loadv ty_56 rfl (I.rdbox 0 rfl 1 2) rfl rfl) ?_
      refine Ops.go (O.mksl (xs := [r.body.xs[k].atom]) (enc := Atm.enc) I Try.underlying108 Try.sizeOf56 Try.zeroValue56 rfl (Nat.le_of_ble_eq_true rfl) rfl rfl (by decide) (fun _ => rfl) ?_)
      intro b18 h18 w I le18 sl18
      refine Ops.go (O.append I Try.underlying108 et_56 1 rfl rfl rfl (I.rd (sl18 0 _ rfl).2) rfl rfl (by decide) (by omega) (by omega) ?_)
      intro b19 c19 w I
      refine Ops.y (v := .slice _ _ _) (Y.assign rfl) ?_
      refine Ops.nil ?_
      refine WP.region ?_
      refine Ops.y (v := .int .i64 _) (Y.addi rfl rfl ⟨by omega, by omega⟩) ?_
      refine Ops.y (v := .int .i64 _) (Y.move rfl) ?_
      refine Ops.nil ?_
      refine ⟨(k + 1, _, u2, h18), ⟨⟨rfl, rfl, rfl, rfl, rfl, rfl, trivial⟩, ?_, by dsimp only; omega, hle.trans le18⟩, by dsimp only; omega⟩
      have J := I.drop
      simpa [negs_take hk', poss_take hk', hv] using J
    refine WP.region ?_
    refine Ops.y (v := u2) (Y.move rfl) ?_
    refine Ops.y (v := .pointer (some ⟨_, _, none⟩)) (Y.fa fa_66_1 rfl) ?_
    refine Ops.y (v := .agg #[_, _]) (Y.loadv ty_56 rfl (I.rdbox 0 rfl 1 2) rfl rfl) ?_
    refine Ops.go (O.mksl (xs := [r.body.xs[k].atom]) (enc := Atm.enc) I Try.underlying108 Try.sizeOf56 Try.zeroValue56 rfl (Nat.le_of_ble_eq_true rfl) rfl rfl (by decide) (fun _ => rfl) ?_)
    intro b23 h23 w I le23 sl23
    refine Ops.go (O.append I Try.underlying108 et_56 2 rfl rfl rfl (I.rd (sl23 0 _ rfl).2) rfl rfl (by decide) (by omega) (by omega) ?_)
    intro b24 c24 w I
    refine Ops.y (v := .slice _ _ _) (Y.assign rfl) ?_
    refine Ops.nil ?_
    refine WP.region ?_
    refine Ops.y (v := .int .i64 _) (Y.addi rfl rfl ⟨by omega, by omega⟩) ?_
    refine Ops.y (v := .int .i64 _) (Y.move rfl) ?_
    refine Ops.nil ?_
    refine ⟨(k + 1, u1, _, h23), ⟨⟨rfl, rfl, rfl, rfl, rfl, rfl, trivial⟩, ?_, by dsimp only; omega, hle.trans le23⟩, by dsimp only; omega⟩
    have J := I.drop
    simpa [negs_take hk', poss_take hk', hv] using J
  refine WP.exit ?_
  refine WP.seq ?_
  refine WP.region ?_
  refine Ops.y (v := u1) (Y.move rfl) ?_
  refine Ops.y (v := u2) (Y.move rfl) ?_
  refine Ops.y (v := u1) (Y.assign rfl) ?_
  refine Ops.y (v := u2) (Y.assign rfl) ?_
  refine Ops.nil ?_
  have hk0 : k = r.body.xs.length := by omega
  refine WP.ret ?_
  repeat (first | refine thenE_ret ?_ | refine blockE_ret ?_)
  exact retM.mk (vs := [u1, u2]) rfl ⟨rfl, rfl, trivial⟩ (I) (⟨_, _, rfl, by rw [hk0, List.take_length]⟩)
end Go.TF
