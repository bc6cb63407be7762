/- Texts Prog3 Lat Prog4 Lat2 Rule Rule2 Rule3 Prog5. -/
import Derived.Test.YtljkkojkfddpeaaGreatDoorU4
import Derived.Test.YtljkkojkfddpeaaGreatDoorU3
import Derived.Test.YtljkkojkfddpeaaGreatDoorU2
section
/- strata, of the document: the same strata. -/
namespace Go.TF
open Go Go.RowKit Go.Proofs
set_option maxRecDepth 20000

theorem usesL_take' {rs : List Rul} {m : Nat} (hm : m < rs.length) : usesL (rs.take (m + 1)) = usesL (rs.take m) ++ (rs[m].body.xs.take rs[m].body.xs.length).map fun x => (rs[m].head.pred, x) := by
  rw [List.take_length]; exact usesL_take hm
theorem usesL_mem {rs : List Rul} {m : Nat} (hm : m < rs.length) {k : Nat} (hk : k < rs[m].body.xs.length) : (rs[m].head.pred, rs[m].body.xs[k]) ∈ usesL rs := List.mem_of_getElem? (usesL_get hm hk)
theorem map_take {α β : Type} (f : α → β) {l : List α} {k : Nat} (hk : k < l.length) : (l.take (k + 1)).map f = (l.take k).map f ++ [f l[k]] := by
  rw [List.take_succ_eq_append_getElem hk, List.map_append]; rfl
set_option maxHeartbeats 4000000 in
theorem strata_ok (B : Base) (hB : B.ok) (p : Prg) (hp : p.In B.h) (hr : InR (usesL p.rules.xs) p.preds.xs.length) (hn5 : p.preds.xs.length ≤ 5) (hr8 : p.rules.xs.length ≤ 8) (hb3 : ∀ r ∈ p.rules.xs, r.body.xs.length ≤ 3) :
    Fn Tryz.prog 44 [p.val] B (fun v h => LevP (usesL p.rules.xs) p.preds.xs.length v h) := by
  obtain ⟨sq, hsq⟩ : ∃ sq : Int, sq = (p.preds.xs.length : Int) * p.preds.xs.length := ⟨_, rfl⟩
  have hsq0 : 0 ≤ sq ∧ sq ≤ 25 := by
    rw [hsq]
    have h5 : (p.preds.xs.length : Int) ≤ 5 := by omega
    exact ⟨Int.mul_nonneg (by omega) (by omega), by have := Int.mul_le_mul h5 h5 (by omega) (by omega); omega⟩
  have hsqN : ((p.preds.xs.length * p.preds.xs.length : Nat) : Int) = sq := by rw [hsq]; exact Int.natCast_mul _ _
  refine Fn.of Tryz.func44 rfl Tryz.ntmps44 (by kernel_rfl) (by simp) ?_
  intro e
  have I := Inv.start hB
  refine WP.seq ?_
  refine WP.region ?_
  refine Ops.go (O.box (v := .agg #[_, _]) I rfl rfl ?_)
  intro b1 w I
  refine Ops.y (v := .slice _ _ _) (Y.assign rfl) ?_
  refine Ops.y (v := .bool _) (Y.assign rfl) ?_
  refine Ops.nil ?_
  refine WP.seq ?_
  refine WP.region ?_
  refine Ops.y (v := .pointer (some ⟨_, _, none⟩)) (Y.fa0 fa_25_0 rfl) ?_
  refine Ops.y (v := .slice _ _ _) (Y.loadv ty_22 rfl (I.rdbox 0 rfl 0 1) rfl rfl) ?_
  refine Ops.y (v := .int .i64 _) (Y.lens Tryz.underlying22 rfl) ?_
  refine Ops.go (O.make1 (n := p.preds.xs.length) (zc := (vI 0)) I Tryz.underlying78 et_3 rfl rfl rfl (by omega) (by omega) ?_)
  intro b14 w I
  refine Ops.y (v := .slice _ _ _) (Y.assign rfl) ?_
  refine Ops.nil ?_
  refine WP.seq ?_
  refine WP.seq ?_
  refine WP.region ?_
  refine Ops.y (v := .int .i64 _) (Y.assign rfl) ?_
  refine Ops.nil ?_
  rw [← List.map_replicate (f := vI)] at I
  refine WP.block ?_
  refine WP.loopE (σ := Nat × List Int) (fun s => [(1, .pointer (some ⟨b1, 0, none⟩)), (2, .slice none 0 0), (3, .bool false), (4, .slice (some ⟨b14, 0, none⟩) p.preds.xs.length p.preds.xs.length), (5, .int .i64 s.1)])
    (fun s w => Inv B B.h [box b14 (s.2.map vI) 3, box b1 p.enc 25] w ∧ Good (usesL p.rules.xs) p.preds.xs.length s.2 ∧ (∀ i, lv s.2 i ≤ 24 * s.1) ∧ ((∃ M, Sol (usesL p.rules.xs) p.preds.xs.length M) → pot p.preds.xs.length s.2 + s.1 ≤ p.preds.xs.length * p.preds.xs.length) ∧ s.1 ≤ sq + 2)
    (fun s => (sq + 3 - s.1).toNat) ⟨(0, List.replicate p.preds.xs.length 0), ⟨rfl, rfl, rfl, rfl, rfl, trivial⟩, I, Good.zero _ _, fun i => by rw [lv_zero]; omega, fun _ => by rw [pot_zero]; omega, by omega⟩ ?_
  rintro ⟨rd, L⟩ e w ⟨I, g, hbd, hpot, hrd⟩
  dsimp only at I g hbd hpot hrd ⊢
  refine WP.seq ?_
  refine WP.seq ?_
  refine WP.region ?_
  refine Ops.y (v := .int .i64 _) (Y.move rfl) ?_
  refine Ops.y (v := .pointer (some ⟨_, _, none⟩)) (Y.fa0 fa_25_0 rfl) ?_
  refine Ops.y (v := .slice _ _ _) (Y.loadv ty_22 rfl (I.rdbox 1 rfl 0 1) rfl rfl) ?_
  refine Ops.y (v := .int .i64 _) (Y.lens Tryz.underlying22 rfl) ?_
  refine Ops.y (v := .pointer (some ⟨_, _, none⟩)) (Y.fa0 fa_25_0 rfl) ?_
  refine Ops.y (v := .slice _ _ _) (Y.loadv ty_22 rfl (I.rdbox 1 rfl 0 1) rfl rfl) ?_
  refine Ops.y (v := .int .i64 _) (Y.lens Tryz.underlying22 rfl) ?_
  refine Ops.y (v := .int .i64 _) (Y.muli rfl rfl (by rw [← hsq]; exact ⟨by omega, by omega⟩)) ?_
  refine Ops.y (v := .int .i64 _) (Y.addi rfl rfl (by rw [← hsq]; exact ⟨by omega, by omega⟩)) ?_
  refine Ops.y (v := .bool (decide _)) (Y.lei rfl rfl) ?_
  refine Ops.nil ?_
  refine WP.cond_dec rfl (fun h3 => ?_) (fun h3 => ?_)
  · rw [← hsq] at h3
    refine WP.skip ?_
    refine WP.seq ?_
    refine WP.block ?_
    refine WP.seq ?_
    refine WP.region ?_
    refine Ops.y (v := .bool _) (Y.assign rfl) ?_
    refine Ops.nil ?_
    refine WP.seq ?_
    refine WP.seq ?_
    refine WP.region ?_
    refine Ops.y (v := .int .i64 _) (Y.assign rfl) ?_
    refine Ops.nil ?_
    refine WP.block ?_
    refine WP.loopE (σ := Nat × Bool × List Int) (fun s => [(1, .pointer (some ⟨b1, 0, none⟩)), (2, .slice none 0 0), (3, .bool false), (4, .slice (some ⟨b14, 0, none⟩) p.preds.xs.length p.preds.xs.length), (5, .int .i64 rd), (6, .bool s.2.1), (7, .int .i64 s.1)])
      (fun s w => Inv B B.h [box b14 (s.2.2.map vI) 3, box b1 p.enc 25] w ∧ s.1 ≤ p.rules.xs.length ∧ Pass (usesL p.rules.xs) p.preds.xs.length L s.2.1 s.2.2 (usesL (p.rules.xs.take s.1)) ∧ ∀ i, lv s.2.2 i ≤ 24 * rd + 3 * s.1)
      (fun s => p.rules.xs.length - s.1) ⟨(0, true, L), ⟨rfl, rfl, rfl, rfl, rfl, rfl, rfl, trivial⟩, I, Nat.zero_le _, Pass.start g, fun i => by have := hbd i; dsimp only; omega⟩ ?_
    rintro ⟨m, same, L1⟩ e w ⟨I, hm, pa, hb1⟩
    dsimp only at I hm pa hb1 ⊢
    refine WP.seq ?_
    refine WP.seq ?_
    refine WP.region ?_
    refine Ops.y (v := .int .i64 _) (Y.move rfl) ?_
    refine Ops.y (v := .pointer (some ⟨_, _, none⟩)) (Y.fa fa_25_1 rfl) ?_
    refine Ops.y (v := .slice _ _ _) (Y.loadv ty_23 rfl (I.rdbox 1 rfl 1 1) rfl rfl) ?_
    refine Ops.y (v := .int .i64 _) (Y.lens Tryz.underlying23 rfl) ?_
    refine Ops.y (v := .bool (decide _)) (Y.lti rfl rfl) ?_
    refine Ops.nil ?_
    refine WP.cond_dec rfl (fun h7 => ?_) (fun h7 => ?_)
    · have hm' : m < p.rules.xs.length := by omega
      have E1 := hp.rules.is.at hm'
      have hbd2 := (hp.rules.each _ (List.getElem_mem hm')).body
      have hb3' := hb3 _ (List.getElem_mem hm')
      refine WP.skip ?_
      refine WP.seq ?_
      refine WP.block ?_
      refine WP.seq ?_
      refine WP.region ?_
      refine Ops.y (v := .pointer (some ⟨_, _, none⟩)) (Y.fa fa_25_1 rfl) ?_
      refine Ops.y (v := .slice _ _ _) (Y.loadv ty_23 rfl (I.rdbox 1 rfl 1 1) rfl rfl) ?_
      refine Ops.y (v := .int .i64 _) (Y.move rfl) ?_
      refine Ops.y (v := .pointer (some ⟨_, _, none⟩)) (Y.idxEl E1 Tryz.underlying23 Tryz.sizeOf64 rfl rfl (Int.natCast_nonneg _) rfl) ?_
      refine Ops.y (v := .agg #[_, _, _, _, _]) (Y.loadv ty_64 rfl (I.rd (E1.rd.part 0 5)) rfl rfl) ?_
      refine Ops.go (O.alloc I Tryz.zeroValue64 rfl ?_)
      intro b8 w I
      refine Ops.go (O.store (v := .agg #[_, _, _, _, _]) I ty_64 0 rfl rfl rfl rfl rfl rfl (Nat.le_of_ble_eq_true rfl) rfl ?_)
      intro w I
      refine Ops.nil ?_
      refine WP.seq ?_
      refine WP.region ?_
      refine Ops.y (v := .int .i64 _) (Y.assign rfl) ?_
      refine Ops.nil ?_
      refine WP.block ?_
      refine WP.loopE (σ := Nat × Bool × List Int) (fun s => [(1, .pointer (some ⟨b1, 0, none⟩)), (2, .slice none 0 0), (3, .bool false), (4, .slice (some ⟨b14, 0, none⟩) p.preds.xs.length p.preds.xs.length), (5, .int .i64 rd), (6, .bool s.2.1), (7, .int .i64 m), (8, .pointer (some ⟨b8, 0, none⟩)), (9, .int .i64 s.1)])
        (fun s w => Inv B B.h [box b8 p.rules.xs[m].enc 64, box b14 (s.2.2.map vI) 3, box b1 p.enc 25] w ∧ s.1 ≤ p.rules.xs[m].body.xs.length ∧ Pass (usesL p.rules.xs) p.preds.xs.length L s.2.1 s.2.2 (usesL (p.rules.xs.take m) ++ (p.rules.xs[m].body.xs.take s.1).map fun x => (p.rules.xs[m].head.pred, x)) ∧ ∀ i, lv s.2.2 i ≤ 24 * rd + 3 * m + s.1)
        (fun s => p.rules.xs[m].body.xs.length - s.1) ⟨(0, same, L1), ⟨rfl, rfl, rfl, rfl, rfl, rfl, rfl, rfl, rfl, trivial⟩, I, Nat.zero_le _, by simpa using pa, fun i => by have := hb1 i; dsimp only; omega⟩ ?_
      rintro ⟨k, same2, L2⟩ e w ⟨I, hk, pa2, hb2⟩
      dsimp only at I hk pa2 hb2 ⊢
      refine WP.seq ?_
      refine WP.seq ?_
      refine WP.region ?_
      refine Ops.y (v := .int .i64 _) (Y.move rfl) ?_
      refine Ops.y (v := .pointer (some ⟨_, _, none⟩)) (Y.fa fa_64_3 rfl) ?_
      refine Ops.y (v := .slice _ _ _) (Y.loadv ty_62 rfl (I.rdbox 0 rfl 4 1) rfl rfl) ?_
      refine Ops.y (v := .int .i64 _) (Y.lens Tryz.underlying62 rfl) ?_
      refine Ops.y (v := .bool (decide _)) (Y.lti rfl rfl) ?_
      refine Ops.nil ?_
      refine WP.cond_dec rfl (fun h11 => ?_) (fun h11 => ?_)
      · have hk' : k < p.rules.xs[m].body.xs.length := by omega
        have E2 := hbd2.is.at hk'
        have hmem := usesL_mem hm' hk'
        have hh := hr.h _ hmem
        have hb := hr.b _ hmem
        dsimp only at hh hb
        have g2 := pa2.good
        have hlb := hb2 p.rules.xs[m].body.xs[k].atom.pred
        have hpb := g2.pos p.rules.xs[m].body.xs[k].atom.pred
        have hng := ng_le p.rules.xs[m].body.xs[k]
        have hlst : lst L2 (p.rules.xs[m].head.pred, p.rules.xs[m].body.xs[k]) = lv L2 p.rules.xs[m].body.xs[k].atom.pred + ng p.rules.xs[m].body.xs[k] := rfl
        refine WP.skip ?_
        refine WP.seq ?_
        refine WP.block ?_
        refine WP.seq ?_
        refine WP.region ?_
        refine Ops.y (v := .slice _ _ _) (Y.move rfl) ?_
        refine Ops.y (v := .pointer (some ⟨_, _, none⟩)) (Y.fa fa_64_3 rfl) ?_
        refine Ops.y (v := .slice _ _ _) (Y.loadv ty_62 rfl (I.rdbox 0 rfl 4 1) rfl rfl) ?_
        refine Ops.y (v := .int .i64 _) (Y.move rfl) ?_
        refine Ops.y (v := .pointer (some ⟨_, _, none⟩)) (Y.idxEl E2 Tryz.underlying62 Tryz.sizeOf68 rfl rfl (Int.natCast_nonneg _) rfl) ?_
        refine Ops.y (v := .pointer (some ⟨_, _, none⟩)) (Y.fa fa_68_1 rfl) ?_
        refine Ops.y (v := .pointer (some ⟨_, _, none⟩)) (Y.fa0 fa_61_0 rfl) ?_
        refine Ops.y (v := .int .i64 _) (Y.loadv ty_3 rfl (I.rd (E2.rd.part 1 1)) rfl rfl) ?_
        refine Ops.y (v := .pointer (some ⟨_, _, none⟩)) (Y.idx Tryz.underlying78 Tryz.sizeOf3 rfl rfl hb.1 hb.2) ?_
        refine Ops.y (v := .int .i64 _) (Y.loadv ty_3 rfl (I.rdL 1 rfl (by omega) (lv_some g2.len hb.1 hb.2)) rfl rfl) ?_
        refine Ops.y (v := .int .i64 _) (Y.assign rfl) ?_
        refine Ops.nil ?_
        refine WP.seq ?_
        refine WP.cutL (σ := Unit) (fun _ => [(1, .pointer (some ⟨b1, 0, none⟩)), (2, .slice none 0 0), (3, .bool false), (4, .slice (some ⟨b14, 0, none⟩) p.preds.xs.length p.preds.xs.length), (5, .int .i64 rd), (6, .bool same2), (7, .int .i64 m), (8, .pointer (some ⟨b8, 0, none⟩)), (9, .int .i64 k), (10, .int .i64 (lst L2 (p.rules.xs[m].head.pred, p.rules.xs[m].body.xs[k])))])
          (fun _ w => Inv B B.h [box b8 p.rules.xs[m].enc 64, box b14 (L2.map vI) 3, box b1 p.enc 25] w) ?_ ?_
        · refine WP.seq ?_
          refine WP.region ?_
          refine Ops.y (v := .pointer (some ⟨_, _, none⟩)) (Y.fa fa_64_3 rfl) ?_
          refine Ops.y (v := .slice _ _ _) (Y.loadv ty_62 rfl (I.rdbox 0 rfl 4 1) rfl rfl) ?_
          refine Ops.y (v := .int .i64 _) (Y.move rfl) ?_
          refine Ops.y (v := .pointer (some ⟨_, _, none⟩)) (Y.idxEl E2 Tryz.underlying62 Tryz.sizeOf68 rfl rfl (Int.natCast_nonneg _) rfl) ?_
          refine Ops.y (v := .pointer (some ⟨_, _, none⟩)) (Y.fa0 fa_68_0 rfl) ?_
          refine Ops.y (v := .bool _) (Y.loadv ty_4 rfl (I.rd (E2.rd.part 0 1)) rfl rfl) ?_
          refine Ops.nil ?_
          refine WP.cond rfl (fun hneg => ?_) (fun hneg => ?_)
          · refine WP.region ?_
            refine Ops.y (v := .int .i64 _) (Y.move rfl) ?_
            refine Ops.y (v := .int .i64 _) (Y.addi rfl rfl ⟨by omega, by omega⟩) ?_
            refine Ops.y (v := .int .i64 _) (Y.assign rfl) ?_
            refine Ops.nil ?_
            exact ⟨(), ⟨rfl, rfl, rfl, rfl, rfl, rfl, rfl, rfl, rfl, by simp only [lst, ng, hneg]; rfl, trivial⟩, I⟩
          · refine WP.skip ?_
            exact ⟨(), ⟨rfl, rfl, rfl, rfl, rfl, rfl, rfl, rfl, rfl, by simp only [lst, ng, hneg, Bool.false_eq_true, if_false, Int.add_zero]; rfl, trivial⟩, I⟩
        rintro _ e w I
        refine WP.seq ?_
        refine WP.region ?_
        refine Ops.y (v := .slice _ _ _) (Y.move rfl) ?_
        refine Ops.y (v := .pointer (some ⟨_, _, none⟩)) (Y.fa0 fa_64_0 rfl) ?_
        refine Ops.y (v := .pointer (some ⟨_, _, none⟩)) (Y.fa0 fa_61_0 rfl) ?_
        refine Ops.y (v := .int .i64 _) (Y.loadv ty_3 rfl (I.rdbox 0 rfl 0 1) rfl rfl) ?_
        refine Ops.y (v := .pointer (some ⟨_, _, none⟩)) (Y.idx Tryz.underlying78 Tryz.sizeOf3 rfl rfl hh.1 hh.2) ?_
        refine Ops.y (v := .int .i64 _) (Y.loadv ty_3 rfl (I.rdL 1 rfl (by omega) (lv_some g2.len hh.1 hh.2)) rfl rfl) ?_
        refine Ops.y (v := .int .i64 _) (Y.move rfl) ?_
        refine Ops.y (v := .bool (decide _)) (Y.lti rfl rfl) ?_
        refine Ops.nil ?_
        refine WP.cond_dec rfl (fun h16 => ?_) (fun h16 => ?_)
        · refine WP.seq ?_
          refine WP.region ?_
          refine Ops.y (v := .slice _ _ _) (Y.move rfl) ?_
          refine Ops.y (v := .pointer (some ⟨_, _, none⟩)) (Y.fa0 fa_64_0 rfl) ?_
          refine Ops.y (v := .pointer (some ⟨_, _, none⟩)) (Y.fa0 fa_61_0 rfl) ?_
          refine Ops.y (v := .int .i64 _) (Y.loadv ty_3 rfl (I.rdbox 0 rfl 0 1) rfl rfl) ?_
          refine Ops.y (v := .int .i64 _) (Y.move rfl) ?_
          refine Ops.y (v := .pointer (some ⟨_, _, none⟩)) (Y.idx Tryz.underlying78 Tryz.sizeOf3 rfl rfl hh.1 hh.2) ?_
          refine Ops.go (O.store1 I ty_3 1 rfl rfl (i := p.rules.xs[m].head.pred.toNat) (by omega) (by rw [g2.len]; omega) rfl rfl rfl ?_)
          intro w I
          refine Ops.nil ?_
          refine WP.region ?_
          refine Ops.y (v := .bool _) (Y.assign rfl) ?_
          refine Ops.nil ?_
          refine WP.region ?_
          refine Ops.y (v := .int .i64 _) (Y.move rfl) ?_
          refine Ops.y (v := .int .i64 _) (Y.addi rfl rfl ⟨by omega, by omega⟩) ?_
          refine Ops.y (v := .int .i64 _) (Y.assign rfl) ?_
          refine Ops.nil ?_
          exact ⟨(k + 1, false, L2.set p.rules.xs[m].head.pred.toNat (lst L2 (p.rules.xs[m].head.pred, p.rules.xs[m].body.xs[k]))), ⟨⟨rfl, rfl, rfl, rfl, rfl, rfl, rfl, rfl, rfl, trivial⟩, I, hk', by rw [map_take _ hk', ← List.append_assoc]; exact pa2.raise hr hmem h16, fun i => by have := bound_raise hr g2.len hb2 hmem i; dsimp only at this ⊢; omega⟩, by dsimp only; omega⟩
        · refine WP.skip ?_
          refine WP.region ?_
          refine Ops.y (v := .int .i64 _) (Y.move rfl) ?_
          refine Ops.y (v := .int .i64 _) (Y.addi rfl rfl ⟨by omega, by omega⟩) ?_
          refine Ops.y (v := .int .i64 _) (Y.assign rfl) ?_
          refine Ops.nil ?_
          exact ⟨(k + 1, same2, L2), ⟨⟨rfl, rfl, rfl, rfl, rfl, rfl, rfl, rfl, rfl, trivial⟩, I, hk', by rw [map_take _ hk', ← List.append_assoc]; exact pa2.keep h16, fun i => by have := hb2 i; dsimp only at this ⊢; omega⟩, by dsimp only; omega⟩
      · refine WP.exit ?_
        refine WP.region ?_
        refine Ops.y (v := .int .i64 _) (Y.move rfl) ?_
        refine Ops.y (v := .int .i64 _) (Y.addi rfl rfl ⟨by omega, by omega⟩) ?_
        refine Ops.y (v := .int .i64 _) (Y.assign rfl) ?_
        refine Ops.nil ?_
        have hke : k = p.rules.xs[m].body.xs.length := by omega
        exact ⟨(m + 1, same2, L2), ⟨⟨rfl, rfl, rfl, rfl, rfl, rfl, rfl, trivial⟩, I.drop, hm', by rw [usesL_take' hm', ← hke]; exact pa2, fun i => by have := hb2 i; dsimp only at this ⊢; omega⟩, by dsimp only; omega⟩
    · have hme : m = p.rules.xs.length := by omega
      rw [hme, List.take_length] at pa
      refine WP.exit ?_
      refine WP.seq ?_
      refine WP.region ?_
      refine Ops.y (v := .bool _) (Y.move rfl) ?_
      refine Ops.nil ?_
      refine WP.cond rfl (fun hs => ?_) (fun hs => ?_)
      · refine WP.seq ?_
        refine WP.region ?_
        refine Ops.y (v := .slice _ _ _) (Y.move rfl) ?_
        refine Ops.y (v := .slice _ _ _) (Y.assign rfl) ?_
        refine Ops.y (v := .bool _) (Y.assign rfl) ?_
        refine Ops.nil ?_
        obtain ⟨hL, hsat⟩ := pa.t hs
        have hbo := I.at 0 rfl
        obtain ⟨h4, le4, hb4, I⟩ := I.settle
        refine WP.ret ?_
        repeat (first | refine thenE_ret ?_ | refine blockE_ret ?_)
        exact retQ.mk (vs := [.slice _ _ _, .bool _]) rfl ⟨rfl, rfl, trivial⟩ I.ext_of (.inl ⟨⟨some ⟨b14, 0, none⟩, p.preds.xs.length, L1⟩, pa.good.done (by rw [hL]; exact hsat), boxIs ((hb4 b14 (by simp [box])).trans hbo) (by rw [pa.good.len]; omega), by simp [tup, Sl.val, pa.good.len]⟩)
      · refine WP.skip ?_
        refine WP.region ?_
        refine Ops.y (v := .int .i64 _) (Y.move rfl) ?_
        refine Ops.y (v := .int .i64 _) (Y.addi rfl rfl ⟨by omega, by omega⟩) ?_
        refine Ops.y (v := .int .i64 _) (Y.assign rfl) ?_
        refine Ops.nil ?_
        refine ⟨(rd + 1, L1), ⟨⟨rfl, rfl, rfl, rfl, rfl, trivial⟩, I, pa.good, fun i => by have := hb1 i; dsimp only at this ⊢; omega, fun hsol => by have h5 := pa.f hs hsol; have h6 := hpot hsol; dsimp only; omega, by dsimp only; omega⟩, by dsimp only; omega⟩
  · rw [← hsq] at h3
    refine WP.exit ?_
    refine WP.seq ?_
    refine WP.region ?_
    refine Ops.y (v := .slice _ _ _) (Y.assign rfl) ?_
    refine Ops.y (v := .bool _) (Y.assign rfl) ?_
    refine Ops.nil ?_
    refine WP.ret ?_
    repeat (first | refine thenE_ret ?_ | refine blockE_ret ?_)
    exact retQ.mk (vs := [.slice _ _ _, .bool _]) rfl ⟨rfl, rfl, trivial⟩ I.ext_of (.inr ⟨fun M hM => by have := hpot ⟨M, hM⟩; omega, rfl⟩)
end Go.TF
end
section
/- The contracts of package lat and of the references beside it: each call returns what the plain functions compute. -/
namespace Go.TF
open Go Go.RowKit Go.Proofs
set_option maxHeartbeats 1000000
set_option maxRecDepth 10000

theorem within_ok (B : Base) (hB : B.ok) (n lo hi : Int) : Fn Tryz.prog 42 [.int .i64 n, .int .i64 lo, .int .i64 hi] B (fun v _ => v = .bool (decide (within n lo hi))) := by
  by_cases h1 : lo ≤ n
  · refine Fn.of Tryz.func42 rfl Tryz.ntmps42 (by kernel_rfl) (by simp) ?_
    intro e
    have I := Inv.start hB
    refine WP.seq ?_
    refine WP.region ?_
    refine Ops.y (v := .bool _) (Y.assign rfl) ?_
    refine Ops.nil ?_
    refine WP.seq ?_
    refine WP.region ?_
    refine Ops.y (v := .int .i64 _) (Y.move rfl) ?_
    refine Ops.y (v := .int .i64 _) (Y.move rfl) ?_
    refine Ops.y (v := .bool true) (Y.dec_t (Y.gei rfl rfl) (h1)) ?_
    refine Ops.y (v := .bool _) (Y.move rfl) ?_
    refine Ops.ygt rfl (v := .int .i64 _) (Y.move rfl) ?_
    refine Ops.ygt rfl (v := .int .i64 _) (Y.move rfl) ?_
    refine Ops.ygt rfl (v := .bool (decide _)) (Y.lei rfl rfl) ?_
    refine Ops.y (v := .bool _) (Y.pick_t rfl rfl) ?_
    refine Ops.y (v := .bool _) (Y.assign rfl) ?_
    refine Ops.nil ?_
    refine WP.ret ?_
    repeat (first | refine thenE_ret ?_ | refine blockE_ret ?_)
    exact retQ.mk (vs := [.bool _]) rfl ⟨rfl, trivial⟩ I.ext_of (by simp [tup, within, h1])
  · refine Fn.of Tryz.func42 rfl Tryz.ntmps42 (by kernel_rfl) (by simp) ?_
    intro e
    have I := Inv.start hB
    refine WP.seq ?_
    refine WP.region ?_
    refine Ops.y (v := .bool _) (Y.assign rfl) ?_
    refine Ops.nil ?_
    refine WP.seq ?_
    refine WP.region ?_
    refine Ops.y (v := .int .i64 _) (Y.move rfl) ?_
    refine Ops.y (v := .int .i64 _) (Y.move rfl) ?_
    refine Ops.y (v := .bool false) (Y.dec_f (Y.gei rfl rfl) (h1)) ?_
    refine Ops.y (v := .bool _) (Y.move rfl) ?_
    refine Ops.gf rfl ?_
    refine Ops.gf rfl ?_
    refine Ops.gf rfl ?_
    refine Ops.y (v := .bool _) (Y.pick_f rfl rfl) ?_
    refine Ops.y (v := .bool _) (Y.assign rfl) ?_
    refine Ops.nil ?_
    refine WP.ret ?_
    repeat (first | refine thenE_ret ?_ | refine blockE_ret ?_)
    exact retQ.mk (vs := [.bool _]) rfl ⟨rfl, trivial⟩ I.ext_of (by simp [tup, within, h1])
theorem Check_ok (B : Base) (hB : B.ok) (kind v : Int) : Fn Tryz.prog 156 [.int .i64 kind, .int .i64 v] B (fun r _ => r = .int .i64 (checkVal kind v)) := by
  refine Fn.of Tryz.func156 rfl Tryz.ntmps156 (by kernel_rfl) (by simp) ?_
  intro e
  have I := Inv.start hB
  refine WP.seq ?_
  refine WP.region ?_
  refine Ops.y (v := .int .i64 _) (Y.assign rfl) ?_
  refine Ops.nil ?_
  refine WP.seq ?_
  refine WP.region ?_
  refine Ops.y (v := .int .i64 _) (Y.assign rfl) ?_
  refine Ops.nil ?_
  refine WP.seq ?_
  refine WP.seq ?_
  refine WP.region ?_
  refine Ops.y (v := .int .i64 _) (Y.move rfl) ?_
  refine Ops.nil ?_
  refine WP.cutK (σ := Unit) (fun _ => [(1, .int .i64 v), (5, .int .i64 (if kind = 0 then 0 else 15))]) (fun _ w' => Inv B B.h [] w' ∧ 0 ≤ kind ∧ kind ≤ 3) ?_ ?_
  · refine WP.block ?_
    refine WP.seq ?_
    refine WP.region ?_
    refine Ops.y (v := .bool (decide _)) (Y.eqi rfl rfl) ?_
    refine Ops.y (v := .bool _) (Y.assign rfl) ?_
    refine Ops.nil ?_
    refine WP.cond_dec rfl (fun h0 => ?_) (fun h0 => ?_)
    · refine WP.region ?_
      refine Ops.y (v := .int .i64 _) (Y.assign rfl) ?_
      refine Ops.nil ?_
      exact ⟨(), ⟨rfl, by show Value.int .i64 0 = _; simp [h0], trivial⟩, I, by omega, by omega⟩
    have hz : (if kind = 0 then (0 : Int) else 15) = 15 := by simp [h0]
    refine WP.seq ?_
    refine WP.seq ?_
    refine WP.region ?_
    refine Ops.y (v := .bool (decide _)) (Y.eqi rfl rfl) ?_
    refine Ops.y (v := .bool _) (Y.assign rfl) ?_
    refine Ops.nil ?_
    refine WP.cond_dec rfl (fun h1 => ?_) (fun h1 => ?_)
    · refine WP.skip ?_
      refine WP.cond_decT rfl (h1) ?_
      refine WP.skip ?_
      exact ⟨(), ⟨rfl, by rw [hz]; rfl, trivial⟩, I, by omega, by omega⟩
    refine WP.seq ?_
    refine WP.region ?_
    refine Ops.y (v := .bool (decide _)) (Y.eqi rfl rfl) ?_
    refine Ops.y (v := .bool _) (Y.assign rfl) ?_
    refine Ops.nil ?_
    refine WP.cond_dec rfl (fun h2 => ?_) (fun h2 => ?_)
    · refine WP.skip ?_
      refine WP.cond_decT rfl (h2) ?_
      refine WP.skip ?_
      exact ⟨(), ⟨rfl, by rw [hz]; rfl, trivial⟩, I, by omega, by omega⟩
    refine WP.region ?_
    refine Ops.y (v := .bool (decide _)) (Y.eqi rfl rfl) ?_
    refine Ops.y (v := .bool _) (Y.assign rfl) ?_
    refine Ops.nil ?_
    refine WP.cond_dec rfl (fun h3 => ?_) (fun h3 => ?_)
    · refine WP.skip ?_
      exact ⟨(), ⟨rfl, by rw [hz]; rfl, trivial⟩, I, by omega, by omega⟩
    refine WP.seq ?_
    refine WP.region ?_
    refine Ops.y (v := .int .i64 _) (Y.assign rfl) ?_
    refine Ops.nil ?_
    refine WP.ret ?_
    repeat (first | refine thenE_ret ?_ | refine blockE_ret ?_)
    exact retQ.mk (vs := [.int .i64 _]) rfl ⟨rfl, trivial⟩ I.ext_of (by simp [tup, checkVal]; omega)
  rintro _ e w ⟨I, hk0, hk3⟩
  by_cases hv : v < 0
  · refine WP.seq ?_
    refine WP.seq ?_
    refine WP.region ?_
    refine Ops.y (v := .int .i64 _) (Y.move rfl) ?_
    refine Ops.y (v := .bool true) (Y.dec_t (Y.lti rfl rfl) (hv)) ?_
    refine Ops.y (v := .bool _) (Y.move rfl) ?_
    refine Ops.gf rfl ?_
    refine Ops.gf rfl ?_
    refine Ops.gf rfl ?_
    refine Ops.y (v := .bool _) (Y.pick_t rfl rfl) ?_
    refine Ops.nil ?_
    refine WP.cond_t rfl ?_
    refine WP.seq ?_
    refine WP.region ?_
    refine Ops.y (v := .int .i64 _) (Y.assign rfl) ?_
    refine Ops.nil ?_
    refine WP.ret ?_
    repeat (first | refine thenE_ret ?_ | refine blockE_ret ?_)
    exact retQ.mk (vs := [.int .i64 _]) rfl ⟨rfl, trivial⟩ I.ext_of (by simp [tup, checkVal]; omega)
  refine WP.seq ?_
  refine WP.seq ?_
  refine WP.region ?_
  refine Ops.y (v := .int .i64 _) (Y.move rfl) ?_
  refine Ops.y (v := .bool false) (Y.dec_f (Y.lti rfl rfl) (hv)) ?_
  refine Ops.y (v := .bool _) (Y.move rfl) ?_
  refine Ops.ygt rfl (v := .int .i64 _) (Y.move rfl) ?_
  refine Ops.ygt rfl (v := .int .i64 _) (Y.move rfl) ?_
  refine Ops.ygt rfl (v := .bool (decide _)) (Y.gti rfl rfl) ?_
  refine Ops.y (v := .bool _) (Y.pick_f rfl rfl) ?_
  refine Ops.nil ?_
  refine WP.cond_dec rfl (fun h2 => ?_) (fun h2 => ?_)
  · refine WP.seq ?_
    refine WP.region ?_
    refine Ops.y (v := .int .i64 _) (Y.assign rfl) ?_
    refine Ops.nil ?_
    refine WP.ret ?_
    repeat (first | refine thenE_ret ?_ | refine blockE_ret ?_)
    exact retQ.mk (vs := [.int .i64 _]) rfl ⟨rfl, trivial⟩ I.ext_of (by simp only [tup, checkVal]; split at h2 <;> simp <;> omega)
  refine WP.skip ?_
  refine WP.seq ?_
  refine WP.region ?_
  refine Ops.y (v := .int .i64 _) (Y.assign rfl) ?_
  refine Ops.nil ?_
  refine WP.ret ?_
  repeat (first | refine thenE_ret ?_ | refine blockE_ret ?_)
  exact retQ.mk (vs := [.int .i64 _]) rfl ⟨rfl, trivial⟩ I.ext_of (by simp only [tup, checkVal]; split at h2 <;> simp <;> omega)
end Go.TF
end
section
/- Names; sameness of lists; predicates that programs are checked by. -/
namespace Go.TF
open Go Go.RowKit Go.Proofs
set_option maxRecDepth 20000

theorem bget {s : ByteArray} {k : Nat} (h : k < s.size) : s[((k : Int)).toNat]? = some (s[k]'h) := by simp [h]
theorem low_iff (b : UInt8) : lowB b = true ↔ 97 ≤ b.toNat ∧ b.toNat ≤ 122 := by simp [lowB]
theorem all_low {s : ByteArray} (h : ∀ j, ∀ hj : j < s.size, lowB (s[j]'hj) = true) : s.data.toList.all lowB = true := by
  rw [List.all_eq_true]
  intro b hb
  obtain ⟨j, hj, rfl⟩ := List.getElem_of_mem hb
  exact h j (by simpa using hj)
theorem not_low {s : ByteArray} {j : Nat} (hj : j < s.size) (h : lowB (s[j]'hj) ≠ true) : s.data.toList.all lowB = false := by
  rw [List.all_eq_false]
  exact ⟨s[j]'hj, List.mem_iff_getElem.2 ⟨j, by simpa using hj, rfl⟩, h⟩
theorem IsName_ok (B : Base) (hB : B.ok) (s : ByteArray) (hs : s.size ≤ 140737488355328) : Fn Tryz.prog 41 [.string s] B (fun v _ => v = .bool (isName s)) := by
  refine Fn.of Tryz.func41 rfl Tryz.ntmps41 (by kernel_rfl) (by simp) ?_
  intro e
  have I := Inv.start hB
  refine WP.seq ?_
  refine WP.region ?_
  refine Ops.y (v := .bool _) (Y.assign rfl) ?_
  refine Ops.nil ?_
  refine WP.seq ?_
  refine WP.seq ?_
  refine WP.region ?_
  refine Ops.y (v := .int .i64 _) (Y.assign rfl) ?_
  refine Ops.nil ?_
  refine WP.block ?_
  refine WP.loopE (σ := Nat) (fun k => [(0, .string s), (3, .int .i64 k)]) (fun k w => Inv B B.h [] w ∧ k ≤ s.size ∧ ∀ j, j < k → ∀ hj : j < s.size, lowB (s[j]'hj) = true) (fun k => s.size - k)
    ⟨0, ⟨rfl, rfl, trivial⟩, I, Nat.zero_le _, fun j hj => by omega⟩ ?_
  rintro k e w ⟨I, hk, hn⟩
  refine WP.seq ?_
  refine WP.seq ?_
  refine WP.region ?_
  refine Ops.y (v := .int .i64 _) (Y.move rfl) ?_
  refine Ops.y (v := .string _) (Y.move rfl) ?_
  refine Ops.y (v := .int .i64 _) (Y.lenstr Tryz.underlying9 rfl) ?_
  refine Ops.y (v := .bool (decide _)) (Y.lti rfl rfl) ?_
  refine Ops.nil ?_
  refine WP.cond_dec rfl (fun h => ?_) (fun h => ?_)
  · have hk' : k < s.size := by omega
    refine WP.skip ?_
    refine WP.seq ?_
    refine WP.block ?_
    refine WP.seq ?_
    by_cases o0 : ((s[k]'hk').toNat : Int) < 97
    · refine WP.region ?_
      refine Ops.y (v := .string _) (Y.move rfl) ?_
      refine Ops.y (v := .int .i64 _) (Y.move rfl) ?_
      refine Ops.y (v := .int .u8 _) (Y.idxs Tryz.underlying9 rfl rfl (Int.natCast_nonneg _) (bget hk')) ?_
      refine Ops.y (v := .bool true) (Y.dec_t (Y.lti rfl rfl) (o0)) ?_
      refine Ops.y (v := .bool _) (Y.move rfl) ?_
      refine Ops.gf rfl ?_
      refine Ops.gf rfl ?_
      refine Ops.gf rfl ?_
      refine Ops.gf rfl ?_
      refine Ops.y (v := .bool _) (Y.pick_t rfl rfl) ?_
      refine Ops.nil ?_
      refine WP.cond_t rfl ?_
      refine WP.seq ?_
      refine WP.region ?_
      refine Ops.y (v := .bool _) (Y.assign rfl) ?_
      refine Ops.nil ?_
      refine WP.ret ?_
      repeat (first | refine thenE_ret ?_ | refine blockE_ret ?_)
      exact retQ.mk (vs := [.bool _]) rfl ⟨rfl, trivial⟩ I.ext_of (by simp only [tup, isName]; rw [not_low hk' (fun hl => by have := (low_iff _).1 hl; omega), Bool.and_false])
    by_cases o1 : 122 < ((s[k]'hk').toNat : Int)
    · refine WP.region ?_
      refine Ops.y (v := .string _) (Y.move rfl) ?_
      refine Ops.y (v := .int .i64 _) (Y.move rfl) ?_
      refine Ops.y (v := .int .u8 _) (Y.idxs Tryz.underlying9 rfl rfl (Int.natCast_nonneg _) (bget hk')) ?_
      refine Ops.y (v := .bool false) (Y.dec_f (Y.lti rfl rfl) (o0)) ?_
      refine Ops.y (v := .bool _) (Y.move rfl) ?_
      refine Ops.ygt rfl (v := .string _) (Y.move rfl) ?_
      refine Ops.ygt rfl (v := .int .i64 _) (Y.move rfl) ?_
      refine Ops.ygt rfl (v := .int .u8 _) (Y.idxs Tryz.underlying9 rfl rfl (Int.natCast_nonneg _) (bget hk')) ?_
      refine Ops.ygt rfl (v := .bool true) (Y.dec_t (Y.gti rfl rfl) (o1)) ?_
      refine Ops.y (v := .bool _) (Y.pick_f rfl rfl) ?_
      refine Ops.nil ?_
      refine WP.cond_t rfl ?_
      refine WP.seq ?_
      refine WP.region ?_
      refine Ops.y (v := .bool _) (Y.assign rfl) ?_
      refine Ops.nil ?_
      refine WP.ret ?_
      repeat (first | refine thenE_ret ?_ | refine blockE_ret ?_)
      exact retQ.mk (vs := [.bool _]) rfl ⟨rfl, trivial⟩ I.ext_of (by simp only [tup, isName]; rw [not_low hk' (fun hl => by have := (low_iff _).1 hl; omega), Bool.and_false])
    refine WP.region ?_
    refine Ops.y (v := .string _) (Y.move rfl) ?_
    refine Ops.y (v := .int .i64 _) (Y.move rfl) ?_
    refine Ops.y (v := .int .u8 _) (Y.idxs Tryz.underlying9 rfl rfl (Int.natCast_nonneg _) (bget hk')) ?_
    refine Ops.y (v := .bool false) (Y.dec_f (Y.lti rfl rfl) (o0)) ?_
    refine Ops.y (v := .bool _) (Y.move rfl) ?_
    refine Ops.ygt rfl (v := .string _) (Y.move rfl) ?_
    refine Ops.ygt rfl (v := .int .i64 _) (Y.move rfl) ?_
    refine Ops.ygt rfl (v := .int .u8 _) (Y.idxs Tryz.underlying9 rfl rfl (Int.natCast_nonneg _) (bget hk')) ?_
    refine Ops.ygt rfl (v := .bool false) (Y.dec_f (Y.gti rfl rfl) (o1)) ?_
    refine Ops.y (v := .bool _) (Y.pick_f rfl rfl) ?_
    refine Ops.nil ?_
    refine WP.cond_f rfl ?_
    refine WP.skip ?_
    refine WP.region ?_
    refine Ops.y (v := .int .i64 _) (Y.move rfl) ?_
    refine Ops.y (v := .int .i64 _) (Y.addi rfl rfl ⟨by omega, by omega⟩) ?_
    refine Ops.y (v := .int .i64 _) (Y.assign rfl) ?_
    refine Ops.nil ?_
    exact ⟨k + 1, ⟨⟨rfl, rfl, trivial⟩, I, hk', fun j hj hj' => by
      rcases Nat.lt_succ_iff_lt_or_eq.1 hj with h' | rfl
      · exact hn j h' hj'
      · exact (low_iff _).2 (by omega)⟩, by omega⟩
  refine WP.exit ?_
  refine WP.seq ?_
  refine WP.region ?_
  refine Ops.y (v := .string _) (Y.move rfl) ?_
  refine Ops.y (v := .int .i64 _) (Y.lenstr Tryz.underlying9 rfl) ?_
  refine Ops.go (O.callv I Tryz.call42 (within_ok _ I.base_ok _ _ _) rfl ?_)
  intro w I
  refine Ops.y (v := .bool _) (Y.assign rfl) ?_
  refine Ops.nil ?_
  refine WP.ret ?_
  repeat (first | refine thenE_ret ?_ | refine blockE_ret ?_)
  exact retQ.mk (vs := [.bool _]) rfl ⟨rfl, trivial⟩ I.ext_of (by simp only [tup, isName, within]; rw [all_low (fun j hj => hn j (by omega) hj), Bool.and_true, ← Bool.decide_and]; congr 2; apply propext; omega)
theorem Name1_ok (B : Base) (hB : B.ok) (r : Int) : Fn Tryz.prog 116 [.int .i32 r] B (fun v _ => v = .bool (decide (r < 97 ∨ 122 < r))) := by
  by_cases h : r < 97
  · refine Fn.of Tryz.func116 rfl Tryz.ntmps116 (by kernel_rfl) (by simp) ?_
    intro e
    have I := Inv.start hB
    refine WP.seq ?_
    refine WP.region ?_
    refine Ops.y (v := .bool _) (Y.assign rfl) ?_
    refine Ops.nil ?_
    refine WP.seq ?_
    refine WP.region ?_
    refine Ops.y (v := .int .i32 _) (Y.move rfl) ?_
    refine Ops.y (v := .bool true) (Y.dec_t (Y.lti rfl rfl) (h)) ?_
    refine Ops.y (v := .bool _) (Y.move rfl) ?_
    refine Ops.gf rfl ?_
    refine Ops.gf rfl ?_
    refine Ops.y (v := .bool _) (Y.pick_t rfl rfl) ?_
    refine Ops.y (v := .bool _) (Y.assign rfl) ?_
    refine Ops.nil ?_
    refine WP.ret ?_
    repeat (first | refine thenE_ret ?_ | refine blockE_ret ?_)
    exact retQ.mk (vs := [.bool _]) rfl ⟨rfl, trivial⟩ I.ext_of (by simp only [tup]; rw [decide_eq_true (Or.inl h)])
  · refine Fn.of Tryz.func116 rfl Tryz.ntmps116 (by kernel_rfl) (by simp) ?_
    intro e
    have I := Inv.start hB
    refine WP.seq ?_
    refine WP.region ?_
    refine Ops.y (v := .bool _) (Y.assign rfl) ?_
    refine Ops.nil ?_
    refine WP.seq ?_
    refine WP.region ?_
    refine Ops.y (v := .int .i32 _) (Y.move rfl) ?_
    refine Ops.y (v := .bool false) (Y.dec_f (Y.lti rfl rfl) (h)) ?_
    refine Ops.y (v := .bool _) (Y.move rfl) ?_
    refine Ops.ygt rfl (v := .int .i32 _) (Y.move rfl) ?_
    refine Ops.ygt rfl (v := .bool (decide _)) (Y.gti rfl rfl) ?_
    refine Ops.y (v := .bool _) (Y.pick_f rfl rfl) ?_
    refine Ops.y (v := .bool _) (Y.assign rfl) ?_
    refine Ops.nil ?_
    refine WP.ret ?_
    repeat (first | refine thenE_ret ?_ | refine blockE_ret ?_)
    exact retQ.mk (vs := [.bool _]) rfl ⟨rfl, trivial⟩ I.ext_of (by simp only [tup]; congr 1; rw [decide_eq_decide]; omega)
/-- What indexFunc hands back: not negative, just if a byte is no low letter. -/
def IdxP (s : ByteArray) (v : Value) : Prop := ∃ r : Int, v = .int .i64 r ∧ decide (0 ≤ r) = !(s.data.toList.all lowB)
theorem indexFunc_ok (B : Base) (hB : B.ok) (s : ByteArray) : Fn Tryz.prog 198 [.string s, .func (.func 116) #[] #[], .bool true] B (fun v _ => IdxP s v) := by
  refine Fn.of Tryz.func198 rfl Tryz.ntmps198 (by kernel_rfl) (by simp) ?_
  intro e
  have I := Inv.start hB
  refine WP.seq ?_
  refine WP.region ?_
  refine Ops.y (v := .int .i64 _) (Y.assign rfl) ?_
  refine Ops.nil ?_
  refine WP.seq ?_
  refine WP.seq ?_
  refine WP.region ?_
  refine Ops.y (v := .string _) (Y.move rfl) ?_
  refine Ops.go (O.ranges I Tryz.underlying9 rfl ?_)
  intro b10 w I
  refine Ops.nil ?_
  refine WP.block ?_
  refine WP.loopE (σ := Nat) (fun _ => [(0, .string s), (1, .func (.func 116) #[] #[]), (2, .bool true), (10, .pointer (some ⟨b10, 0, none⟩))]) (fun k w => Inv B B.h [sit b10 s k] w ∧ k ≤ s.size ∧ ∀ j, j < k → ∀ hj : j < s.size, lowB (s[j]'hj) = true) (fun k => s.size - k)
    ⟨0, ⟨rfl, rfl, rfl, rfl, trivial⟩, I, Nat.zero_le _, fun j hj => by omega⟩ ?_
  rintro k e w ⟨I, hk, hn⟩
  refine WP.seq ?_
  refine WP.region ?_
  refine Ops.go (O.nexts I 0 rfl rfl ?_ ?_)
  · intro hend
    refine Ops.y (v := .bool _) (Y.extract rfl rfl) ?_
    refine Ops.nil ?_
    refine WP.seq ?_
    refine WP.cond_f rfl ?_
    refine WP.exit ?_
    refine WP.seq ?_
    refine WP.region ?_
    refine Ops.y (v := .int .i64 _) (Y.assign rfl) ?_
    refine Ops.nil ?_
    refine WP.ret ?_
    repeat (first | refine thenE_ret ?_ | refine blockE_ret ?_)
    exact retQ.mk (vs := [.int .i64 _]) rfl ⟨rfl, trivial⟩ I.ext_of (⟨-1, rfl, by rw [all_low (fun j hj => hn j (by omega) hj)]; rfl⟩)
  · intro hlt w I
    refine Ops.y (v := .bool _) (Y.extract rfl rfl) ?_
    refine Ops.nil ?_
    refine WP.seq ?_
    refine WP.cond_t rfl ?_
    refine WP.skip ?_
    refine WP.block ?_
    refine WP.seq ?_
    refine WP.region ?_
    refine Ops.y (v := .int .i64 _) (Y.extract rfl rfl) ?_
    refine Ops.y (v := .int .i32 _) (Y.extract rfl rfl) ?_
    refine Ops.y (v := .int .i64 _) (Y.assign rfl) ?_
    refine Ops.y (v := .int .i32 _) (Y.assign rfl) ?_
    refine Ops.nil ?_
    by_cases ha : (s[k]'hlt).toNat < 128
    · rw [decode_ascii s k hlt ha] at I ⊢
      by_cases hlow : lowB (s[k]'hlt) = true
      · have hl := (low_iff _).1 hlow
        refine WP.seq ?_
        refine WP.region ?_
        refine Ops.y (v := .func _ _ _) (Y.move rfl) ?_
        refine Ops.y (v := .int .i32 _) (Y.move rfl) ?_
        refine Ops.go (O.callcv I Tryz.call116 (fs := []) (cs := []) rfl (Name1_ok _ I.base_ok _) rfl ?_)
        intro w I
        refine Ops.y (v := .bool _) (Y.move rfl) ?_
        refine Ops.y (v := .bool false) (Y.dec_f (Y.eqb Tryz.underlying4 rfl rfl) ((by rw [decide_eq_false (by omega)]; decide))) ?_
        refine Ops.nil ?_
        refine WP.cond_f rfl ?_
        refine WP.skip ?_
        exact ⟨k + 1, ⟨⟨rfl, rfl, rfl, rfl, trivial⟩, I, hlt, fun j hj hj' => by
          rcases Nat.lt_succ_iff_lt_or_eq.1 hj with h' | rfl
          · exact hn j h' hj'
          · exact hlow⟩, by omega⟩
      · have hl : ¬ (97 ≤ (s[k]'hlt).toNat ∧ (s[k]'hlt).toNat ≤ 122) := fun h => hlow ((low_iff _).2 h)
        refine WP.seq ?_
        refine WP.region ?_
        refine Ops.y (v := .func _ _ _) (Y.move rfl) ?_
        refine Ops.y (v := .int .i32 _) (Y.move rfl) ?_
        refine Ops.go (O.callcv I Tryz.call116 (fs := []) (cs := []) rfl (Name1_ok _ I.base_ok _) rfl ?_)
        intro w I
        refine Ops.y (v := .bool _) (Y.move rfl) ?_
        refine Ops.y (v := .bool true) (Y.dec_t (Y.eqb Tryz.underlying4 rfl rfl) ((by rw [decide_eq_true (by omega)]))) ?_
        refine Ops.nil ?_
        refine WP.cond_t rfl ?_
        refine WP.seq ?_
        refine WP.region ?_
        refine Ops.y (v := .int .i64 _) (Y.move rfl) ?_
        refine Ops.y (v := .int .i64 _) (Y.assign rfl) ?_
        refine Ops.nil ?_
        refine WP.ret ?_
        repeat (first | refine thenE_ret ?_ | refine blockE_ret ?_)
        exact retQ.mk (vs := [.int .i64 _]) rfl ⟨rfl, trivial⟩ I.ext_of (⟨k, rfl, by rw [not_low hlt hlow]; simp⟩)
    · have hd := decode_high s k hlt (by omega)
      refine WP.seq ?_
      refine WP.region ?_
      refine Ops.y (v := .func _ _ _) (Y.move rfl) ?_
      refine Ops.y (v := .int .i32 _) (Y.move rfl) ?_
      refine Ops.go (O.callcv I Tryz.call116 (fs := []) (cs := []) rfl (Name1_ok _ I.base_ok _) rfl ?_)
      intro w I
      refine Ops.y (v := .bool _) (Y.move rfl) ?_
      refine Ops.y (v := .bool true) (Y.dec_t (Y.eqb Tryz.underlying4 rfl rfl) ((by rw [decide_eq_true (by omega)]))) ?_
      refine Ops.nil ?_
      refine WP.cond_t rfl ?_
      refine WP.seq ?_
      refine WP.region ?_
      refine Ops.y (v := .int .i64 _) (Y.move rfl) ?_
      refine Ops.y (v := .int .i64 _) (Y.assign rfl) ?_
      refine Ops.nil ?_
      refine WP.ret ?_
      repeat (first | refine thenE_ret ?_ | refine blockE_ret ?_)
      exact retQ.mk (vs := [.int .i64 _]) rfl ⟨rfl, trivial⟩ I.ext_of (⟨k, rfl, by rw [not_low hlt (fun h => by have := (low_iff _).1 h; omega)]; simp⟩)
theorem SIndexFunc_ok (B : Base) (hB : B.ok) (s : ByteArray) : Fn Tryz.prog 160 [.string s, .func (.func 116) #[] #[]] B (fun v _ => IdxP s v) := by
  refine Fn.of Tryz.func160 rfl Tryz.ntmps160 (by kernel_rfl) (by simp) ?_
  intro e
  have I := Inv.start hB
  refine WP.seq ?_
  refine WP.region ?_
  refine Ops.y (v := .int .i64 _) (Y.assign rfl) ?_
  refine Ops.nil ?_
  refine WP.seq ?_
  refine WP.region ?_
  refine Ops.y (v := .string _) (Y.move rfl) ?_
  refine Ops.y (v := .func _ _ _) (Y.move rfl) ?_
  refine Ops.go (O.call I Tryz.call198 (indexFunc_ok _ I.base_ok s) rfl ?_)
  rintro _ h2 w I le2 ⟨r, rfl, hr⟩
  refine Ops.y (v := .int .i64 _) (Y.assign rfl) ?_
  refine Ops.nil ?_
  refine WP.ret ?_
  repeat (first | refine thenE_ret ?_ | refine blockE_ret ?_)
  exact retQ.mk (vs := [.int .i64 _]) rfl ⟨rfl, trivial⟩ I.ext_of (⟨r, rfl, hr⟩)
theorem SContainsFunc_ok (B : Base) (hB : B.ok) (s : ByteArray) : Fn Tryz.prog 115 [.string s, .func (.func 116) #[] #[]] B (fun v _ => v = .bool !(s.data.toList.all lowB)) := by
  refine Fn.of Tryz.func115 rfl Tryz.ntmps115 (by kernel_rfl) (by simp) ?_
  intro e
  have I := Inv.start hB
  refine WP.seq ?_
  refine WP.region ?_
  refine Ops.y (v := .bool _) (Y.assign rfl) ?_
  refine Ops.nil ?_
  refine WP.seq ?_
  refine WP.region ?_
  refine Ops.y (v := .string _) (Y.move rfl) ?_
  refine Ops.y (v := .func _ _ _) (Y.move rfl) ?_
  refine Ops.go (O.call I Tryz.call160 (SIndexFunc_ok _ I.base_ok s) rfl ?_)
  rintro _ h2 w I le2 ⟨r, rfl, hr⟩
  refine Ops.y (v := .bool (decide _)) (Y.gei rfl rfl) ?_
  refine Ops.y (v := .bool _) (Y.assign rfl) ?_
  refine Ops.nil ?_
  refine WP.ret ?_
  repeat (first | refine thenE_ret ?_ | refine blockE_ret ?_)
  exact retQ.mk (vs := [.bool _]) rfl ⟨rfl, trivial⟩ I.ext_of (by simp only [tup]; rw [hr])
theorem Name_ok (B : Base) (hB : B.ok) (s : ByteArray) (hs : s.size ≤ 140737488355328) : Fn Tryz.prog 57 [.string s] B (fun v _ => v = .bool (isName s)) := by
  by_cases h1 : (0 : Int) < s.size
  · by_cases h2 : (s.size : Int) ≤ 8
    · refine Fn.of Tryz.func57 rfl Tryz.ntmps57 (by kernel_rfl) (by simp) ?_
      intro e
      have I := Inv.start hB
      refine WP.seq ?_
      refine WP.region ?_
      refine Ops.y (v := .bool _) (Y.assign rfl) ?_
      refine Ops.nil ?_
      refine WP.seq ?_
      refine WP.region ?_
      refine Ops.y (v := .string _) (Y.move rfl) ?_
      refine Ops.y (v := .int .i64 _) (Y.lenstr Tryz.underlying9 rfl) ?_
      refine Ops.y (v := .bool true) (Y.dec_t (Y.gti rfl rfl) (h1)) ?_
      refine Ops.y (v := .bool _) (Y.move rfl) ?_
      refine Ops.ygt rfl (v := .string _) (Y.move rfl) ?_
      refine Ops.ygt rfl (v := .int .i64 _) (Y.lenstr Tryz.underlying9 rfl) ?_
      refine Ops.ygt rfl (v := .bool true) (Y.dec_t (Y.lei rfl rfl) (h2)) ?_
      refine Ops.y (v := .bool _) (Y.pick_t rfl rfl) ?_
      refine Ops.y (v := .bool _) (Y.move rfl) ?_
      refine Ops.ygt rfl (v := .string _) (Y.move rfl) ?_
      refine Ops.gt rfl (O.callv I Tryz.call115 (SContainsFunc_ok _ I.base_ok s) rfl ?_)
      intro w I
      refine Ops.ygt rfl (v := .bool _) (Y.not rfl) ?_
      refine Ops.y (v := .bool _) (Y.pick_t rfl rfl) ?_
      refine Ops.y (v := .bool _) (Y.assign rfl) ?_
      refine Ops.nil ?_
      refine WP.ret ?_
      repeat (first | refine thenE_ret ?_ | refine blockE_ret ?_)
      exact retQ.mk (vs := [.bool _]) rfl ⟨rfl, trivial⟩ I.ext_of (by simp only [tup, isName]; rw [decide_eq_true (show 1 ≤ s.size by omega), decide_eq_true (show s.size ≤ 8 by omega)]; simp)
    · refine Fn.of Tryz.func57 rfl Tryz.ntmps57 (by kernel_rfl) (by simp) ?_
      intro e
      have I := Inv.start hB
      refine WP.seq ?_
      refine WP.region ?_
      refine Ops.y (v := .bool _) (Y.assign rfl) ?_
      refine Ops.nil ?_
      refine WP.seq ?_
      refine WP.region ?_
      refine Ops.y (v := .string _) (Y.move rfl) ?_
      refine Ops.y (v := .int .i64 _) (Y.lenstr Tryz.underlying9 rfl) ?_
      refine Ops.y (v := .bool true) (Y.dec_t (Y.gti rfl rfl) (h1)) ?_
      refine Ops.y (v := .bool _) (Y.move rfl) ?_
      refine Ops.ygt rfl (v := .string _) (Y.move rfl) ?_
      refine Ops.ygt rfl (v := .int .i64 _) (Y.lenstr Tryz.underlying9 rfl) ?_
      refine Ops.ygt rfl (v := .bool false) (Y.dec_f (Y.lei rfl rfl) (h2)) ?_
      refine Ops.y (v := .bool _) (Y.pick_t rfl rfl) ?_
      refine Ops.y (v := .bool _) (Y.move rfl) ?_
      refine Ops.gf rfl ?_
      refine Ops.gf rfl ?_
      refine Ops.gf rfl ?_
      refine Ops.y (v := .bool _) (Y.pick_f rfl rfl) ?_
      refine Ops.y (v := .bool _) (Y.assign rfl) ?_
      refine Ops.nil ?_
      refine WP.ret ?_
      repeat (first | refine thenE_ret ?_ | refine blockE_ret ?_)
      exact retQ.mk (vs := [.bool _]) rfl ⟨rfl, trivial⟩ I.ext_of (by simp only [tup, isName]; rw [decide_eq_false (show ¬ s.size ≤ 8 by omega)]; simp)
  · refine Fn.of Tryz.func57 rfl Tryz.ntmps57 (by kernel_rfl) (by simp) ?_
    intro e
    have I := Inv.start hB
    refine WP.seq ?_
    refine WP.region ?_
    refine Ops.y (v := .bool _) (Y.assign rfl) ?_
    refine Ops.nil ?_
    refine WP.seq ?_
    refine WP.region ?_
    refine Ops.y (v := .string _) (Y.move rfl) ?_
    refine Ops.y (v := .int .i64 _) (Y.lenstr Tryz.underlying9 rfl) ?_
    refine Ops.y (v := .bool false) (Y.dec_f (Y.gti rfl rfl) (h1)) ?_
    refine Ops.y (v := .bool _) (Y.move rfl) ?_
    refine Ops.gf rfl ?_
    refine Ops.gf rfl ?_
    refine Ops.gf rfl ?_
    refine Ops.y (v := .bool _) (Y.pick_f rfl rfl) ?_
    refine Ops.y (v := .bool _) (Y.move rfl) ?_
    refine Ops.gf rfl ?_
    refine Ops.gf rfl ?_
    refine Ops.gf rfl ?_
    refine Ops.y (v := .bool _) (Y.pick_f rfl rfl) ?_
    refine Ops.y (v := .bool _) (Y.assign rfl) ?_
    refine Ops.nil ?_
    refine WP.ret ?_
    repeat (first | refine thenE_ret ?_ | refine blockE_ret ?_)
    exact retQ.mk (vs := [.bool _]) rfl ⟨rfl, trivial⟩ I.ext_of (by simp only [tup, isName]; rw [decide_eq_false (show ¬ 1 ≤ s.size by omega)]; simp)
end Go.TF
end
section
/- Join, Lift, Leq and the references: contracts. -/
namespace Go.TF
open Go Go.RowKit Go.Proofs
set_option maxRecDepth 10000
end Go.TF
end
section
/- The contracts of package rule and of the references beside it. -/
namespace Go.TF
open Go Go.RowKit Go.Proofs
set_option maxRecDepth 10000

theorem term_ok (B : Base) (hB : B.ok) (t : Trm) : Fn Tryz.prog 201 [t.val] B (fun v _ => v = .bool (termOk t)) := by
  refine Fn.of Tryz.func201 rfl Tryz.ntmps201 (by kernel_rfl) (by simp) ?_
  intro e
  have I := Inv.start hB
  refine WP.seq ?_
  refine WP.region ?_
  refine Ops.go (O.box (v := .agg #[_, _]) I rfl rfl ?_)
  intro b1 w I
  refine Ops.y (v := .bool _) (Y.assign rfl) ?_
  refine Ops.nil ?_
  refine WP.seq ?_
  refine WP.seq ?_
  refine WP.region ?_
  refine Ops.y (v := .pointer (some ⟨_, _, none⟩)) (Y.fa0 fa_109_0 rfl) ?_
  refine Ops.y (v := .bool _) (Y.loadv ty_4 rfl (I.rdbox 0 rfl 0 1) rfl rfl) ?_
  refine Ops.nil ?_
  by_cases h1 : 0 ≤ t.n
  · refine WP.cond rfl (fun hv => ?_) (fun hv => ?_)
    · refine WP.seq ?_
      refine WP.region ?_
      refine Ops.y (v := .pointer (some ⟨_, _, none⟩)) (Y.fa fa_109_1 rfl) ?_
      refine Ops.y (v := .int .i64 _) (Y.loadv ty_3 rfl (I.rdbox 0 rfl 1 1) rfl rfl) ?_
      refine Ops.y (v := .bool true) (Y.dec_t (Y.gei rfl rfl) (h1)) ?_
      refine Ops.y (v := .bool _) (Y.move rfl) ?_
      refine Ops.ygt rfl (v := .pointer (some ⟨_, _, none⟩)) (Y.fa fa_109_1 rfl) ?_
      refine Ops.ygt rfl (v := .int .i64 _) (Y.loadv ty_3 rfl (I.rdbox 0 rfl 1 1) rfl rfl) ?_
      refine Ops.ygt rfl (v := .bool (decide _)) (Y.lti rfl rfl) ?_
      refine Ops.y (v := .bool _) (Y.pick_t rfl rfl) ?_
      refine Ops.y (v := .bool _) (Y.assign rfl) ?_
      refine Ops.nil ?_
      refine WP.ret ?_
      repeat (first | refine thenE_ret ?_ | refine blockE_ret ?_)
      exact retQ.mk (vs := [.bool _]) rfl ⟨rfl, trivial⟩ I.ext_of (by simp [tup, termOk, hv, h1])
    refine WP.skip ?_
    refine WP.seq ?_
    refine WP.region ?_
    refine Ops.y (v := .pointer (some ⟨_, _, none⟩)) (Y.fa fa_109_1 rfl) ?_
    refine Ops.y (v := .int .i64 _) (Y.loadv ty_3 rfl (I.rdbox 0 rfl 1 1) rfl rfl) ?_
    refine Ops.y (v := .bool true) (Y.dec_t (Y.gei rfl rfl) (h1)) ?_
    refine Ops.y (v := .bool _) (Y.move rfl) ?_
    refine Ops.ygt rfl (v := .pointer (some ⟨_, _, none⟩)) (Y.fa fa_109_1 rfl) ?_
    refine Ops.ygt rfl (v := .int .i64 _) (Y.loadv ty_3 rfl (I.rdbox 0 rfl 1 1) rfl rfl) ?_
    refine Ops.ygt rfl (v := .bool (decide _)) (Y.lei rfl rfl) ?_
    refine Ops.y (v := .bool _) (Y.pick_t rfl rfl) ?_
    refine Ops.y (v := .bool _) (Y.assign rfl) ?_
    refine Ops.nil ?_
    refine WP.ret ?_
    repeat (first | refine thenE_ret ?_ | refine blockE_ret ?_)
    exact retQ.mk (vs := [.bool _]) rfl ⟨rfl, trivial⟩ I.ext_of (by simp [tup, termOk, hv, h1])
  · refine WP.cond rfl (fun hv => ?_) (fun hv => ?_)
    · refine WP.seq ?_
      refine WP.region ?_
      refine Ops.y (v := .pointer (some ⟨_, _, none⟩)) (Y.fa fa_109_1 rfl) ?_
      refine Ops.y (v := .int .i64 _) (Y.loadv ty_3 rfl (I.rdbox 0 rfl 1 1) rfl rfl) ?_
      refine Ops.y (v := .bool false) (Y.dec_f (Y.gei rfl rfl) (h1)) ?_
      refine Ops.y (v := .bool _) (Y.move rfl) ?_
      refine Ops.gf rfl ?_
      refine Ops.gf rfl ?_
      refine Ops.gf rfl ?_
      refine Ops.y (v := .bool _) (Y.pick_f rfl rfl) ?_
      refine Ops.y (v := .bool _) (Y.assign rfl) ?_
      refine Ops.nil ?_
      refine WP.ret ?_
      repeat (first | refine thenE_ret ?_ | refine blockE_ret ?_)
      exact retQ.mk (vs := [.bool _]) rfl ⟨rfl, trivial⟩ I.ext_of (by simp [tup, termOk, hv, h1])
    refine WP.skip ?_
    refine WP.seq ?_
    refine WP.region ?_
    refine Ops.y (v := .pointer (some ⟨_, _, none⟩)) (Y.fa fa_109_1 rfl) ?_
    refine Ops.y (v := .int .i64 _) (Y.loadv ty_3 rfl (I.rdbox 0 rfl 1 1) rfl rfl) ?_
    refine Ops.y (v := .bool false) (Y.dec_f (Y.gei rfl rfl) (h1)) ?_
    refine Ops.y (v := .bool _) (Y.move rfl) ?_
    refine Ops.gf rfl ?_
    refine Ops.gf rfl ?_
    refine Ops.gf rfl ?_
    refine Ops.y (v := .bool _) (Y.pick_f rfl rfl) ?_
    refine Ops.y (v := .bool _) (Y.assign rfl) ?_
    refine Ops.nil ?_
    refine WP.ret ?_
    repeat (first | refine thenE_ret ?_ | refine blockE_ret ?_)
    exact retQ.mk (vs := [.bool _]) rfl ⟨rfl, trivial⟩ I.ext_of (by simp [tup, termOk, hv, h1])
theorem args1_ok (B : Base) (hB : B.ok) (t : Trm) : Fn Tryz.prog 200 [t.val] B (fun v _ => v = .bool !(termOk t)) := by
  refine Fn.of Tryz.func200 rfl Tryz.ntmps200 (by kernel_rfl) (by simp) ?_
  intro e
  have I := Inv.start hB
  refine WP.seq ?_
  refine WP.region ?_
  refine Ops.go (O.box (v := .agg #[_, _]) I rfl rfl ?_)
  intro b1 w I
  refine Ops.y (v := .bool _) (Y.assign rfl) ?_
  refine Ops.nil ?_
  refine WP.seq ?_
  refine WP.region ?_
  refine Ops.y (v := .agg #[_, _]) (Y.loadv ty_109 rfl (I.rdbox 0 rfl 0 2) rfl rfl) ?_
  refine Ops.go (O.callv I Tryz.call201 (term_ok _ I.base_ok t) rfl ?_)
  intro w I
  refine Ops.y (v := .bool _) (Y.not rfl) ?_
  refine Ops.y (v := .bool _) (Y.assign rfl) ?_
  refine Ops.nil ?_
  refine WP.ret ?_
  repeat (first | refine thenE_ret ?_ | refine blockE_ret ?_)
  exact retQ.mk (vs := [.bool _]) rfl ⟨rfl, trivial⟩ I.ext_of (rfl)
theorem args_ok (B : Base) (hB : B.ok) (l : Sl Trm) (hl : Trms l B.h) : Fn Tryz.prog 161 [l.val] B (fun v _ => v = .int .i64 (argsErr l.xs)) := by
  refine Fn.of Tryz.func161 rfl Tryz.ntmps161 (by kernel_rfl) (by simp) ?_
  intro e
  have I := Inv.start hB
  refine WP.seq ?_
  refine WP.region ?_
  refine Ops.y (v := .int .i64 _) (Y.assign rfl) ?_
  refine Ops.nil ?_
  refine WP.seq ?_
  refine WP.seq ?_
  refine WP.region ?_
  refine Ops.y (v := .slice _ _ _) (Y.move rfl) ?_
  refine Ops.go (O.callv I Tryz.call199 (ContainsFuncTrm_ok _ I.base_ok l hl 200 Tryz.call200 [] [] (fun t => !termOk t) (fun B' hB' _ t _ => args1_ok B' hB' t)) rfl ?_)
  intro w I
  refine Ops.nil ?_
  refine WP.cond rfl (fun h => ?_) (fun h => ?_)
  · refine WP.seq ?_
    refine WP.region ?_
    refine Ops.y (v := .int .i64 _) (Y.assign rfl) ?_
    refine Ops.nil ?_
    refine WP.ret ?_
    repeat (first | refine thenE_ret ?_ | refine blockE_ret ?_)
    exact retQ.mk (vs := [.int .i64 _]) rfl ⟨rfl, trivial⟩ I.ext_of (by simp only [tup, argsErr]; rw [if_neg]; intro h2; simp only [List.any_eq_true, List.all_eq_true] at h h2; obtain ⟨x, hx, h3⟩ := h; simp [h2 x hx] at h3)
  refine WP.skip ?_
  refine WP.seq ?_
  refine WP.region ?_
  refine Ops.y (v := .int .i64 _) (Y.assign rfl) ?_
  refine Ops.nil ?_
  refine WP.ret ?_
  repeat (first | refine thenE_ret ?_ | refine blockE_ret ?_)
  exact retQ.mk (vs := [.int .i64 _]) rfl ⟨rfl, trivial⟩ I.ext_of (by simp only [tup, argsErr]; rw [if_pos]; simp only [List.any_eq_false, List.all_eq_true] at h ⊢; intro x hx; simpa using h x hx)
theorem argsError_ok (B : Base) (hB : B.ok) (l : Sl Trm) (hl : Trms l B.h) : Fn Tryz.prog 153 [l.val] B (fun v _ => v = .int .i64 (argsErr l.xs)) := by
  refine Fn.of Tryz.func153 rfl Tryz.ntmps153 (by kernel_rfl) (by simp) ?_
  intro e
  have I := Inv.start hB
  refine WP.seq ?_
  refine WP.region ?_
  refine Ops.y (v := .int .i64 _) (Y.assign rfl) ?_
  refine Ops.nil ?_
  refine WP.seq ?_
  refine WP.seq ?_
  refine WP.region ?_
  refine Ops.y (v := .int .i64 _) (Y.assign rfl) ?_
  refine Ops.nil ?_
  refine WP.block ?_
  refine WP.loopE (σ := Nat) (fun k => [(0, l.val), (3, .int .i64 k)]) (fun k w => Inv B B.h [] w ∧ k ≤ l.xs.length ∧ ∀ j (hj : j < k) (hj' : j < l.xs.length), termOk l.xs[j] = true) (fun k => l.xs.length - k)
    ⟨0, ⟨rfl, rfl, trivial⟩, I, Nat.zero_le _, fun j hj => (by omega)⟩ ?_
  rintro k e w ⟨I, hk, hn⟩
  have hsm := hl.small
  refine WP.seq ?_
  refine WP.seq ?_
  refine WP.region ?_
  refine Ops.y (v := .int .i64 _) (Y.move rfl) ?_
  refine Ops.y (v := .slice _ _ _) (Y.move rfl) ?_
  refine Ops.y (v := .int .i64 _) (Y.lens Tryz.underlying59 rfl) ?_
  refine Ops.y (v := .bool (decide _)) (Y.lti rfl rfl) ?_
  refine Ops.nil ?_
  refine WP.cond_dec rfl (fun h => ?_) (fun h => ?_)
  · have hk' : k < l.xs.length := by omega
    have E1 := hl.at hk'
    refine WP.skip ?_
    refine WP.seq ?_
    refine WP.block ?_
    refine WP.seq ?_
    refine WP.region ?_
    refine Ops.y (v := .int .i64 _) (Y.assign rfl) ?_
    refine Ops.nil ?_
    refine WP.seq ?_
    refine WP.seq ?_
    refine WP.region ?_
    refine Ops.y (v := .slice _ _ _) (Y.move rfl) ?_
    refine Ops.y (v := .int .i64 _) (Y.move rfl) ?_
    refine Ops.y (v := .pointer (some ⟨_, _, none⟩)) (Y.idxEl E1 Tryz.underlying59 Tryz.sizeOf109 rfl rfl (Int.natCast_nonneg _) rfl) ?_
    refine Ops.y (v := .pointer (some ⟨_, _, none⟩)) (Y.fa0 fa_109_0 rfl) ?_
    refine Ops.y (v := .bool _) (Y.loadv ty_4 rfl (I.rd (E1.rd.part 0 1)) rfl rfl) ?_
    refine Ops.nil ?_
    refine WP.cutK (σ := Unit) (fun _ => [(0, l.val), (3, .int .i64 k), (4, .int .i64 (if l.xs[k].var then 2 else 4))]) (fun _ w => Inv B B.h [] w) ?_ ?_
    · refine WP.cond rfl (fun hv => ?_) (fun hv => ?_)
      · refine WP.region ?_
        refine Ops.y (v := .int .i64 _) (Y.assign rfl) ?_
        refine Ops.nil ?_
        exact ⟨(), ⟨rfl, rfl, by simp [hv]; rfl, trivial⟩, I⟩
      refine WP.skip ?_
      exact ⟨(), ⟨rfl, rfl, by simp [hv]; rfl, trivial⟩, I⟩
    rintro _ e w I
    refine WP.seq ?_
    refine WP.region ?_
    refine Ops.y (v := .slice _ _ _) (Y.move rfl) ?_
    refine Ops.y (v := .int .i64 _) (Y.move rfl) ?_
    refine Ops.y (v := .pointer (some ⟨_, _, none⟩)) (Y.idxEl E1 Tryz.underlying59 Tryz.sizeOf109 rfl rfl (Int.natCast_nonneg _) rfl) ?_
    refine Ops.y (v := .pointer (some ⟨_, _, none⟩)) (Y.fa fa_109_1 rfl) ?_
    refine Ops.y (v := .int .i64 _) (Y.loadv ty_3 rfl (I.rd (E1.rd.part 1 1)) rfl rfl) ?_
    refine Ops.y (v := .int .i64 _) (Y.move rfl) ?_
    refine Ops.go (O.callv I Tryz.call42 (within_ok _ I.base_ok _ _ _) rfl ?_)
    intro w I
    refine Ops.y (v := .bool (decide _)) (Y.notd rfl) ?_
    refine Ops.nil ?_
    refine WP.cond_dec rfl (fun hw => ?_) (fun hw => ?_)
    · refine WP.seq ?_
      refine WP.region ?_
      refine Ops.y (v := .int .i64 _) (Y.assign rfl) ?_
      refine Ops.nil ?_
      refine WP.ret ?_
      repeat (first | refine thenE_ret ?_ | refine blockE_ret ?_)
      exact retQ.mk (vs := [.int .i64 _]) rfl ⟨rfl, trivial⟩ I.ext_of (by simp only [tup, argsErr]; rw [if_neg]; intro h2; exact hw ((termOk_iff _).1 (List.all_eq_true.1 h2 _ (List.getElem_mem hk'))))
    refine WP.skip ?_
    refine WP.region ?_
    refine Ops.y (v := .int .i64 _) (Y.move rfl) ?_
    refine Ops.y (v := .int .i64 _) (Y.addi rfl rfl ⟨by omega, by omega⟩) ?_
    refine Ops.y (v := .int .i64 _) (Y.assign rfl) ?_
    refine Ops.nil ?_
    exact ⟨k + 1, ⟨⟨rfl, rfl, trivial⟩, I, by omega, fun j hj hj' => by
      rcases Nat.lt_succ_iff_lt_or_eq.1 hj with h' | h'
      · exact hn j h' hj'
      · subst h'; exact (termOk_iff _).2 (Decidable.not_not.1 hw)⟩, by omega⟩
  refine WP.exit ?_
  refine WP.seq ?_
  refine WP.region ?_
  refine Ops.y (v := .int .i64 _) (Y.assign rfl) ?_
  refine Ops.nil ?_
  refine WP.ret ?_
  repeat (first | refine thenE_ret ?_ | refine blockE_ret ?_)
  exact retQ.mk (vs := [.int .i64 _]) rfl ⟨rfl, trivial⟩ I.ext_of (by simp only [tup, argsErr]; rw [if_pos]; rw [List.all_eq_true]; intro x hx; obtain ⟨j, hj, rfl⟩ := List.getElem_of_mem hx; exact hn j (by omega) hj)
theorem Atom_ok (B : Base) (hB : B.ok) (l : Sl Prd) (hl : Prds l B.h) (a : Atm) (ha : a.In B.h) : Fn Tryz.prog 117 [l.val, a.val] B (fun v _ => v = .int .i64 (checkAtom l.xs a)) := by
  refine Fn.of Tryz.func117 rfl Tryz.ntmps117 (by kernel_rfl) (by simp) ?_
  intro e
  have I := Inv.start hB
  refine WP.seq ?_
  refine WP.region ?_
  refine Ops.go (O.box (v := .agg #[_, _]) I rfl rfl ?_)
  intro b3 w I
  refine Ops.y (v := .int .i64 _) (Y.assign rfl) ?_
  refine Ops.nil ?_
  have hsm := hl.small
  by_cases h1 : a.pred < 0
  · refine WP.seq ?_
    refine WP.seq ?_
    refine WP.region ?_
    refine Ops.y (v := .pointer (some ⟨_, _, none⟩)) (Y.fa0 fa_61_0 rfl) ?_
    refine Ops.y (v := .int .i64 _) (Y.loadv ty_3 rfl (I.rdbox 0 rfl 0 1) rfl rfl) ?_
    refine Ops.y (v := .bool true) (Y.dec_t (Y.lti rfl rfl) (h1)) ?_
    refine Ops.y (v := .bool _) (Y.move rfl) ?_
    refine Ops.gf rfl ?_
    refine Ops.gf rfl ?_
    refine Ops.gf rfl ?_
    refine Ops.gf rfl ?_
    refine Ops.gf rfl ?_
    refine Ops.y (v := .bool _) (Y.pick_t rfl rfl) ?_
    refine Ops.nil ?_
    refine WP.cond_t rfl ?_
    refine WP.seq ?_
    refine WP.region ?_
    refine Ops.y (v := .int .i64 _) (Y.assign rfl) ?_
    refine Ops.nil ?_
    refine WP.ret ?_
    repeat (first | refine thenE_ret ?_ | refine blockE_ret ?_)
    exact retQ.mk (vs := [.int .i64 _]) rfl ⟨rfl, trivial⟩ I.ext_of (by simp [tup, checkAtom, h1])
  refine WP.seq ?_
  refine WP.seq ?_
  refine WP.region ?_
  refine Ops.y (v := .pointer (some ⟨_, _, none⟩)) (Y.fa0 fa_61_0 rfl) ?_
  refine Ops.y (v := .int .i64 _) (Y.loadv ty_3 rfl (I.rdbox 0 rfl 0 1) rfl rfl) ?_
  refine Ops.y (v := .bool false) (Y.dec_f (Y.lti rfl rfl) (h1)) ?_
  refine Ops.y (v := .bool _) (Y.move rfl) ?_
  refine Ops.ygt rfl (v := .pointer (some ⟨_, _, none⟩)) (Y.fa0 fa_61_0 rfl) ?_
  refine Ops.ygt rfl (v := .int .i64 _) (Y.loadv ty_3 rfl (I.rdbox 0 rfl 0 1) rfl rfl) ?_
  refine Ops.ygt rfl (v := .slice _ _ _) (Y.move rfl) ?_
  refine Ops.ygt rfl (v := .int .i64 _) (Y.lens Tryz.underlying22 rfl) ?_
  refine Ops.ygt rfl (v := .bool (decide _)) (Y.gei rfl rfl) ?_
  refine Ops.y (v := .bool _) (Y.pick_f rfl rfl) ?_
  refine Ops.nil ?_
  refine WP.cond_dec rfl (fun h2 => ?_) (fun h2 => ?_)
  · refine WP.seq ?_
    refine WP.region ?_
    refine Ops.y (v := .int .i64 _) (Y.assign rfl) ?_
    refine Ops.nil ?_
    refine WP.ret ?_
    repeat (first | refine thenE_ret ?_ | refine blockE_ret ?_)
    exact retQ.mk (vs := [.int .i64 _]) rfl ⟨rfl, trivial⟩ I.ext_of (by simp [tup, checkAtom, h2])
  have hp : 0 ≤ a.pred := by omega
  have E1 := hl.at (i := a.pred.toNat) (by omega)
  have hE : predOf l.xs a.pred = l.xs[a.pred.toNat]'(by omega) := by have := predOf_get hp (by omega : a.pred < l.xs.length); rw [List.getElem?_eq_getElem (by omega)] at this; exact (Option.some.inj this).symm
  refine WP.skip ?_
  refine WP.seq ?_
  refine WP.seq ?_
  refine WP.regionQ mixed I (by kernel_rfl) ?_
  refine OpsQ.y (v := .pointer (some ⟨_, _, none⟩)) (fun w I => Y.fa fa_61_1 rfl) ?_
  refine OpsQ.y (v := .slice _ _ _) (fun w I => Y.loadv ty_59 rfl (I.rdbox 0 rfl 1 1) rfl rfl) ?_
  refine OpsQ.y (v := .int .i64 _) (fun w I => Y.lens Tryz.underlying59 rfl) ?_
  refine OpsQ.y (v := .slice _ _ _) (fun w I => Y.move rfl) ?_
  refine OpsQ.y (v := .pointer (some ⟨_, _, none⟩)) (fun w I => Y.fa0 fa_61_0 rfl) ?_
  refine OpsQ.y (v := .int .i64 _) (fun w I => Y.loadv ty_3 rfl (I.rdbox 0 rfl 0 1) rfl rfl) ?_
  refine OpsQ.y (v := .pointer (some ⟨_, _, none⟩)) (fun w I => Y.idxEl E1 Tryz.underlying22 Tryz.sizeOf53 rfl rfl hp rfl) ?_
  refine OpsQ.y (v := .pointer (some ⟨_, _, none⟩)) (fun w I => Y.fa fa_53_1 rfl) ?_
  refine OpsQ.y (v := .int .i64 _) (fun w I => Y.loadv ty_3 rfl (I.rd (E1.rd.part 1 1)) rfl rfl) ?_
  refine OpsQ.y (v := .bool (decide _)) (fun w I => Y.nei rfl rfl) ?_
  refine OpsQ.nil ?_
  intro w I
  refine WP.cond_dec rfl (fun h3 => ?_) (fun h3 => ?_)
  · refine WP.seq ?_
    refine WP.region ?_
    refine Ops.y (v := .int .i64 _) (Y.assign rfl) ?_
    refine Ops.nil ?_
    refine WP.ret ?_
    repeat (first | refine thenE_ret ?_ | refine blockE_ret ?_)
    exact retQ.mk (vs := [.int .i64 _]) rfl ⟨rfl, trivial⟩ I.ext_of (by simp only [tup, checkAtom, hE]; rw [if_neg (by omega), if_pos h3])
  refine WP.skip ?_
  refine WP.seq ?_
  refine WP.region ?_
  refine Ops.y (v := .pointer (some ⟨_, _, none⟩)) (Y.fa fa_61_1 rfl) ?_
  refine Ops.y (v := .slice _ _ _) (Y.loadv ty_59 rfl (I.rdbox 0 rfl 1 1) rfl rfl) ?_
  refine Ops.go (O.callv I Tryz.call161 (args_ok _ I.base_ok a.args ha) rfl ?_)
  intro w I
  refine Ops.y (v := .int .i64 _) (Y.assign rfl) ?_
  refine Ops.nil ?_
  refine WP.ret ?_
  repeat (first | refine thenE_ret ?_ | refine blockE_ret ?_)
  exact retQ.mk (vs := [.int .i64 _]) rfl ⟨rfl, trivial⟩ I.ext_of (by simp only [tup, checkAtom, hE]; rw [if_neg (by omega), if_neg h3])
theorem CheckAtom_ok (B : Base) (hB : B.ok) (l : Sl Prd) (hl : Prds l B.h) (a : Atm) (ha : a.In B.h) : Fn Tryz.prog 105 [l.val, a.val] B (fun v _ => v = .int .i64 (checkAtom l.xs a)) := by
  have hsm := hl.small
  refine Fn.of Tryz.func105 rfl Tryz.ntmps105 (by kernel_rfl) (by simp) ?_
  intro e
  have I := Inv.start hB
  refine WP.seq ?_
  refine WP.region ?_
  refine Ops.go (O.box (v := .agg #[_, _]) I rfl rfl ?_)
  intro b3 w I
  refine Ops.y (v := .int .i64 _) (Y.assign rfl) ?_
  refine Ops.nil ?_
  refine WP.seq ?_
  refine WP.seq ?_
  refine WP.region ?_
  refine Ops.y (v := .pointer (some ⟨_, _, none⟩)) (Y.fa0 fa_61_0 rfl) ?_
  refine Ops.y (v := .int .i64 _) (Y.loadv ty_3 rfl (I.rdbox 0 rfl 0 1) rfl rfl) ?_
  refine Ops.y (v := .slice _ _ _) (Y.move rfl) ?_
  refine Ops.y (v := .int .i64 _) (Y.lens Tryz.underlying22 rfl) ?_
  refine Ops.y (v := .int .i64 _) (Y.subi rfl rfl ⟨by omega, by omega⟩) ?_
  refine Ops.go (O.callv I Tryz.call42 (within_ok _ I.base_ok _ _ _) rfl ?_)
  intro w I
  refine Ops.y (v := .bool (decide _)) (Y.notd rfl) ?_
  refine Ops.nil ?_
  refine WP.cond_dec rfl (fun h1 => ?_) (fun h1 => ?_)
  · refine WP.seq ?_
    refine WP.region ?_
    refine Ops.y (v := .int .i64 _) (Y.assign rfl) ?_
    refine Ops.nil ?_
    refine WP.ret ?_
    repeat (first | refine thenE_ret ?_ | refine blockE_ret ?_)
    exact retQ.mk (vs := [.int .i64 _]) rfl ⟨rfl, trivial⟩ I.ext_of (by simp only [tup, checkAtom, within] at *; rw [if_pos (by omega)])
  have h1' : ¬ (a.pred < 0 ∨ (l.xs.length : Int) ≤ a.pred) := by simp only [within, Decidable.not_not] at h1; omega
  have hp : 0 ≤ a.pred := by omega
  have E1 := hl.at (i := a.pred.toNat) (by omega)
  have hE : predOf l.xs a.pred = l.xs[a.pred.toNat]'(by omega) := by have := predOf_get hp (by omega : a.pred < l.xs.length); rw [List.getElem?_eq_getElem (by omega)] at this; exact (Option.some.inj this).symm
  refine WP.skip ?_
  refine WP.seq ?_
  refine WP.seq ?_
  refine WP.regionQ mixed I (by kernel_rfl) ?_
  refine OpsQ.y (v := .pointer (some ⟨_, _, none⟩)) (fun w I => Y.fa fa_61_1 rfl) ?_
  refine OpsQ.y (v := .slice _ _ _) (fun w I => Y.loadv ty_59 rfl (I.rdbox 0 rfl 1 1) rfl rfl) ?_
  refine OpsQ.y (v := .int .i64 _) (fun w I => Y.lens Tryz.underlying59 rfl) ?_
  refine OpsQ.y (v := .slice _ _ _) (fun w I => Y.move rfl) ?_
  refine OpsQ.y (v := .pointer (some ⟨_, _, none⟩)) (fun w I => Y.fa0 fa_61_0 rfl) ?_
  refine OpsQ.y (v := .int .i64 _) (fun w I => Y.loadv ty_3 rfl (I.rdbox 0 rfl 0 1) rfl rfl) ?_
  refine OpsQ.y (v := .pointer (some ⟨_, _, none⟩)) (fun w I => Y.idxEl E1 Tryz.underlying22 Tryz.sizeOf53 rfl rfl hp rfl) ?_
  refine OpsQ.y (v := .pointer (some ⟨_, _, none⟩)) (fun w I => Y.fa fa_53_1 rfl) ?_
  refine OpsQ.y (v := .int .i64 _) (fun w I => Y.loadv ty_3 rfl (I.rd (E1.rd.part 1 1)) rfl rfl) ?_
  refine OpsQ.y (v := .bool (decide _)) (fun w I => Y.nei rfl rfl) ?_
  refine OpsQ.nil ?_
  intro w I
  refine WP.cond_dec rfl (fun h3 => ?_) (fun h3 => ?_)
  · refine WP.seq ?_
    refine WP.region ?_
    refine Ops.y (v := .int .i64 _) (Y.assign rfl) ?_
    refine Ops.nil ?_
    refine WP.ret ?_
    repeat (first | refine thenE_ret ?_ | refine blockE_ret ?_)
    exact retQ.mk (vs := [.int .i64 _]) rfl ⟨rfl, trivial⟩ I.ext_of (by simp only [tup, checkAtom, hE]; rw [if_neg h1', if_pos h3])
  refine WP.skip ?_
  refine WP.seq ?_
  refine WP.region ?_
  refine Ops.y (v := .pointer (some ⟨_, _, none⟩)) (Y.fa fa_61_1 rfl) ?_
  refine Ops.y (v := .slice _ _ _) (Y.loadv ty_59 rfl (I.rdbox 0 rfl 1 1) rfl rfl) ?_
  refine Ops.go (O.callv I Tryz.call153 (argsError_ok _ I.base_ok a.args ha) rfl ?_)
  intro w I
  refine Ops.y (v := .int .i64 _) (Y.assign rfl) ?_
  refine Ops.nil ?_
  refine WP.ret ?_
  repeat (first | refine thenE_ret ?_ | refine blockE_ret ?_)
  exact retQ.mk (vs := [.int .i64 _]) rfl ⟨rfl, trivial⟩ I.ext_of (by simp only [tup, checkAtom, hE]; rw [if_neg h1', if_neg h3])
theorem standsR_ok (B : Base) (hB : B.ok) (a : Atm) (ha : a.In B.h) (v : Int) : Fn Tryz.prog 106 [a.val, .int .i64 v] B (fun r _ => r = .bool (standsIn a v)) := by
  have hsm : a.args.xs.length ≤ 140737488355328 := Sl.Is.small ha
  refine Fn.of Tryz.func106 rfl Tryz.ntmps106 (by kernel_rfl) (by simp) ?_
  intro e
  have I := Inv.start hB
  refine WP.seq ?_
  refine WP.region ?_
  refine Ops.go (O.box (v := .agg #[_, _]) I rfl rfl ?_)
  intro b2 w I
  refine Ops.y (v := .bool _) (Y.assign rfl) ?_
  refine Ops.nil ?_
  refine WP.seq ?_
  refine WP.seq ?_
  refine WP.region ?_
  refine Ops.y (v := .int .i64 _) (Y.assign rfl) ?_
  refine Ops.nil ?_
  refine WP.block ?_
  refine WP.loopE (σ := Nat) (fun k => [(1, .int .i64 v), (2, .pointer (some ⟨b2, 0, none⟩)), (5, .int .i64 k)]) (fun k w => Inv B B.h [box b2 a.enc 61] w ∧ k ≤ a.args.xs.length ∧ ∀ j (hj : j < k) (hj' : j < a.args.xs.length), (a.args.xs[j].var && decide (a.args.xs[j].n = v)) = false) (fun k => a.args.xs.length - k)
    ⟨0, ⟨rfl, rfl, rfl, trivial⟩, I, Nat.zero_le _, fun j hj => (by omega)⟩ ?_
  rintro k e w ⟨I, hk, hn⟩
  refine WP.seq ?_
  refine WP.seq ?_
  refine WP.region ?_
  refine Ops.y (v := .int .i64 _) (Y.move rfl) ?_
  refine Ops.y (v := .pointer (some ⟨_, _, none⟩)) (Y.fa fa_61_1 rfl) ?_
  refine Ops.y (v := .slice _ _ _) (Y.loadv ty_59 rfl (I.rdbox 0 rfl 1 1) rfl rfl) ?_
  refine Ops.y (v := .int .i64 _) (Y.lens Tryz.underlying59 rfl) ?_
  refine Ops.y (v := .bool (decide _)) (Y.lti rfl rfl) ?_
  refine Ops.nil ?_
  refine WP.cond_dec rfl (fun h => ?_) (fun h => ?_)
  · have hk' : k < a.args.xs.length := by omega
    have E1 := Sl.Is.at ha hk'
    have step : (a.args.xs[k].var && decide (a.args.xs[k].n = v)) = false → ∀ j (hj : j < k + 1) (hj' : j < a.args.xs.length), (a.args.xs[j].var && decide (a.args.xs[j].n = v)) = false := fun hb j hj hj' => by
      rcases Nat.lt_succ_iff_lt_or_eq.1 hj with h' | h'
      · exact hn j h' hj'
      · subst h'; exact hb
    by_cases hv : a.args.xs[k].var = true
    · refine WP.skip ?_
      refine WP.seq ?_
      refine WP.block ?_
      refine WP.seq ?_
      refine WP.region ?_
      refine Ops.y (v := .pointer (some ⟨_, _, none⟩)) (Y.fa fa_61_1 rfl) ?_
      refine Ops.y (v := .slice _ _ _) (Y.loadv ty_59 rfl (I.rdbox 0 rfl 1 1) rfl rfl) ?_
      refine Ops.y (v := .int .i64 _) (Y.move rfl) ?_
      refine Ops.y (v := .pointer (some ⟨_, _, none⟩)) (Y.idxEl E1 Tryz.underlying59 Tryz.sizeOf109 rfl rfl (Int.natCast_nonneg _) rfl) ?_
      refine Ops.y (v := .pointer (some ⟨_, _, none⟩)) (Y.fa0 fa_109_0 rfl) ?_
      refine Ops.y (v := .bool true) (Y.b (Y.loadv ty_4 rfl (I.rd (E1.rd.part 0 1)) rfl rfl) (hv)) ?_
      refine Ops.y (v := .bool _) (Y.move rfl) ?_
      refine Ops.ygt rfl (v := .pointer (some ⟨_, _, none⟩)) (Y.fa fa_61_1 rfl) ?_
      refine Ops.ygt rfl (v := .slice _ _ _) (Y.loadv ty_59 rfl (I.rdbox 0 rfl 1 1) rfl rfl) ?_
      refine Ops.ygt rfl (v := .int .i64 _) (Y.move rfl) ?_
      refine Ops.ygt rfl (v := .pointer (some ⟨_, _, none⟩)) (Y.idxEl E1 Tryz.underlying59 Tryz.sizeOf109 rfl rfl (Int.natCast_nonneg _) rfl) ?_
      refine Ops.ygt rfl (v := .pointer (some ⟨_, _, none⟩)) (Y.fa fa_109_1 rfl) ?_
      refine Ops.ygt rfl (v := .int .i64 _) (Y.loadv ty_3 rfl (I.rd (E1.rd.part 1 1)) rfl rfl) ?_
      refine Ops.ygt rfl (v := .int .i64 _) (Y.move rfl) ?_
      refine Ops.ygt rfl (v := .bool (decide _)) (Y.eqi rfl rfl) ?_
      refine Ops.y (v := .bool _) (Y.pick_t rfl rfl) ?_
      refine Ops.nil ?_
      refine WP.cond_dec rfl (fun hb => ?_) (fun hb => ?_)
      · refine WP.seq ?_
        refine WP.region ?_
        refine Ops.y (v := .bool _) (Y.assign rfl) ?_
        refine Ops.nil ?_
        refine WP.ret ?_
        repeat (first | refine thenE_ret ?_ | refine blockE_ret ?_)
        exact retQ.mk (vs := [.bool _]) rfl ⟨rfl, trivial⟩ I.ext_of (by simp only [tup, standsIn]; rw [List.any_eq_true.2 ⟨_, List.getElem_mem hk', by simp [hv, hb]⟩])
      refine WP.skip ?_
      refine WP.region ?_
      refine Ops.y (v := .int .i64 _) (Y.move rfl) ?_
      refine Ops.y (v := .int .i64 _) (Y.addi rfl rfl ⟨by omega, by omega⟩) ?_
      refine Ops.y (v := .int .i64 _) (Y.assign rfl) ?_
      refine Ops.nil ?_
      exact ⟨k + 1, ⟨⟨rfl, rfl, rfl, trivial⟩, I, by omega, step (by simp [hb])⟩, by omega⟩
    · refine WP.skip ?_
      refine WP.seq ?_
      refine WP.block ?_
      refine WP.seq ?_
      refine WP.region ?_
      refine Ops.y (v := .pointer (some ⟨_, _, none⟩)) (Y.fa fa_61_1 rfl) ?_
      refine Ops.y (v := .slice _ _ _) (Y.loadv ty_59 rfl (I.rdbox 0 rfl 1 1) rfl rfl) ?_
      refine Ops.y (v := .int .i64 _) (Y.move rfl) ?_
      refine Ops.y (v := .pointer (some ⟨_, _, none⟩)) (Y.idxEl E1 Tryz.underlying59 Tryz.sizeOf109 rfl rfl (Int.natCast_nonneg _) rfl) ?_
      refine Ops.y (v := .pointer (some ⟨_, _, none⟩)) (Y.fa0 fa_109_0 rfl) ?_
      refine Ops.y (v := .bool false) (Y.b (Y.loadv ty_4 rfl (I.rd (E1.rd.part 0 1)) rfl rfl) ((by simpa using hv))) ?_
      refine Ops.y (v := .bool _) (Y.move rfl) ?_
      refine Ops.gf rfl ?_
      refine Ops.gf rfl ?_
      refine Ops.gf rfl ?_
      refine Ops.gf rfl ?_
      refine Ops.gf rfl ?_
      refine Ops.gf rfl ?_
      refine Ops.gf rfl ?_
      refine Ops.gf rfl ?_
      refine Ops.y (v := .bool _) (Y.pick_f rfl rfl) ?_
      refine Ops.nil ?_
      refine WP.cond_f rfl ?_
      refine WP.skip ?_
      refine WP.region ?_
      refine Ops.y (v := .int .i64 _) (Y.move rfl) ?_
      refine Ops.y (v := .int .i64 _) (Y.addi rfl rfl ⟨by omega, by omega⟩) ?_
      refine Ops.y (v := .int .i64 _) (Y.assign rfl) ?_
      refine Ops.nil ?_
      exact ⟨k + 1, ⟨⟨rfl, rfl, rfl, trivial⟩, I, by omega, step (by simp [hv])⟩, by omega⟩
  refine WP.exit ?_
  refine WP.seq ?_
  refine WP.region ?_
  refine Ops.y (v := .bool _) (Y.assign rfl) ?_
  refine Ops.nil ?_
  refine WP.ret ?_
  repeat (first | refine thenE_ret ?_ | refine blockE_ret ?_)
  exact retQ.mk (vs := [.bool _]) rfl ⟨rfl, trivial⟩ I.ext_of (by simp only [tup, standsIn]; rw [List.any_eq_false.2]; intro x hx; obtain ⟨j, hj, rfl⟩ := List.getElem_of_mem hx; simpa using hn j (by omega) hj)
theorem boundR_ok (B : Base) (hB : B.ok) (r : Rul) (hr : Ltls r.body B.h) (v : Int) : Fn Tryz.prog 107 [r.val, .int .i64 v] B (fun x _ => x = .bool (boundIn r v)) := by
  have hsm := hr.is.small
  refine Fn.of Tryz.func107 rfl Tryz.ntmps107 (by kernel_rfl) (by simp) ?_
  intro e
  have I := Inv.start hB
  refine WP.seq ?_
  refine WP.region ?_
  refine Ops.go (O.box (v := .agg #[_, _, _, _, _]) I rfl rfl ?_)
  intro b2 w I
  refine Ops.y (v := .bool _) (Y.assign rfl) ?_
  refine Ops.nil ?_
  refine WP.seq ?_
  refine WP.seq ?_
  refine WP.region ?_
  refine Ops.y (v := .int .i64 _) (Y.assign rfl) ?_
  refine Ops.nil ?_
  refine WP.block ?_
  refine WP.loopE (σ := Nat) (fun k => [(1, .int .i64 v), (2, .pointer (some ⟨b2, 0, none⟩)), (5, .int .i64 k)]) (fun k w => Inv B B.h [box b2 r.enc 64] w ∧ k ≤ r.body.xs.length ∧ ∀ j (hj : j < k) (hj' : j < r.body.xs.length), (!r.body.xs[j].neg && standsIn r.body.xs[j].atom v) = false) (fun k => r.body.xs.length - k)
    ⟨0, ⟨rfl, rfl, rfl, trivial⟩, I, Nat.zero_le _, fun j hj => (by omega)⟩ ?_
  rintro k e w ⟨I, hk, hn⟩
  refine WP.seq ?_
  refine WP.seq ?_
  refine WP.region ?_
  refine Ops.y (v := .int .i64 _) (Y.move rfl) ?_
  refine Ops.y (v := .pointer (some ⟨_, _, none⟩)) (Y.fa fa_64_3 rfl) ?_
  refine Ops.y (v := .slice _ _ _) (Y.loadv ty_62 rfl (I.rdbox 0 rfl 4 1) rfl rfl) ?_
  refine Ops.y (v := .int .i64 _) (Y.lens Tryz.underlying62 rfl) ?_
  refine Ops.y (v := .bool (decide _)) (Y.lti rfl rfl) ?_
  refine Ops.nil ?_
  refine WP.cond_dec rfl (fun h => ?_) (fun h => ?_)
  · have hk' : k < r.body.xs.length := by omega
    have E1 := hr.is.at hk'
    have step : (!r.body.xs[k].neg && standsIn r.body.xs[k].atom v) = false → ∀ j (hj : j < k + 1) (hj' : j < r.body.xs.length), (!r.body.xs[j].neg && standsIn r.body.xs[j].atom v) = false := fun hb j hj hj' => by
      rcases Nat.lt_succ_iff_lt_or_eq.1 hj with h' | h'
      · exact hn j h' hj'
      · subst h'; exact hb
    cases hv : r.body.xs[k].neg
    · refine WP.skip ?_
      refine WP.seq ?_
      refine WP.block ?_
      refine WP.seq ?_
      refine WP.region ?_
      refine Ops.y (v := .pointer (some ⟨_, _, none⟩)) (Y.fa fa_64_3 rfl) ?_
      refine Ops.y (v := .slice _ _ _) (Y.loadv ty_62 rfl (I.rdbox 0 rfl 4 1) rfl rfl) ?_
      refine Ops.y (v := .int .i64 _) (Y.move rfl) ?_
      refine Ops.y (v := .pointer (some ⟨_, _, none⟩)) (Y.idxEl E1 Tryz.underlying62 Tryz.sizeOf68 rfl rfl (Int.natCast_nonneg _) rfl) ?_
      refine Ops.y (v := .pointer (some ⟨_, _, none⟩)) (Y.fa0 fa_68_0 rfl) ?_
      refine Ops.y (v := .bool false) (Y.b (Y.loadv ty_4 rfl (I.rd (E1.rd.part 0 1)) rfl rfl) (hv)) ?_
      refine Ops.y (v := .bool true) (Y.not (b := false) rfl) ?_
      refine Ops.y (v := .bool _) (Y.move rfl) ?_
      refine Ops.ygt rfl (v := .pointer (some ⟨_, _, none⟩)) (Y.fa fa_64_3 rfl) ?_
      refine Ops.ygt rfl (v := .slice _ _ _) (Y.loadv ty_62 rfl (I.rdbox 0 rfl 4 1) rfl rfl) ?_
      refine Ops.ygt rfl (v := .int .i64 _) (Y.move rfl) ?_
      refine Ops.ygt rfl (v := .pointer (some ⟨_, _, none⟩)) (Y.idxEl E1 Tryz.underlying62 Tryz.sizeOf68 rfl rfl (Int.natCast_nonneg _) rfl) ?_
      refine Ops.ygt rfl (v := .pointer (some ⟨_, _, none⟩)) (Y.fa fa_68_1 rfl) ?_
      refine Ops.ygt rfl (v := .agg #[_, _]) (Y.loadv ty_61 rfl (I.rd (E1.rd.part 1 2)) rfl rfl) ?_
      refine Ops.ygt rfl (v := .int .i64 _) (Y.move rfl) ?_
      refine Ops.gt rfl (O.callv I Tryz.call106 (standsR_ok _ I.base_ok r.body.xs[k].atom (hr.each _ (List.getElem_mem hk')) v) rfl ?_)
      intro w I
      refine Ops.y (v := .bool _) (Y.pick_t rfl rfl) ?_
      refine Ops.nil ?_
      refine WP.cond rfl (fun hb => ?_) (fun hb => ?_)
      · refine WP.seq ?_
        refine WP.region ?_
        refine Ops.y (v := .bool _) (Y.assign rfl) ?_
        refine Ops.nil ?_
        refine WP.ret ?_
        repeat (first | refine thenE_ret ?_ | refine blockE_ret ?_)
        exact retQ.mk (vs := [.bool _]) rfl ⟨rfl, trivial⟩ I.ext_of (by simp only [tup, boundIn]; rw [List.any_eq_true.2 ⟨_, List.getElem_mem hk', by simp [hv, hb]⟩])
      refine WP.skip ?_
      refine WP.region ?_
      refine Ops.y (v := .int .i64 _) (Y.move rfl) ?_
      refine Ops.y (v := .int .i64 _) (Y.addi rfl rfl ⟨by omega, by omega⟩) ?_
      refine Ops.y (v := .int .i64 _) (Y.assign rfl) ?_
      refine Ops.nil ?_
      exact ⟨k + 1, ⟨⟨rfl, rfl, rfl, trivial⟩, I, by omega, step (by simp [hb])⟩, by omega⟩
    · refine WP.skip ?_
      refine WP.seq ?_
      refine WP.block ?_
      refine WP.seq ?_
      refine WP.region ?_
      refine Ops.y (v := .pointer (some ⟨_, _, none⟩)) (Y.fa fa_64_3 rfl) ?_
      refine Ops.y (v := .slice _ _ _) (Y.loadv ty_62 rfl (I.rdbox 0 rfl 4 1) rfl rfl) ?_
      refine Ops.y (v := .int .i64 _) (Y.move rfl) ?_
      refine Ops.y (v := .pointer (some ⟨_, _, none⟩)) (Y.idxEl E1 Tryz.underlying62 Tryz.sizeOf68 rfl rfl (Int.natCast_nonneg _) rfl) ?_
      refine Ops.y (v := .pointer (some ⟨_, _, none⟩)) (Y.fa0 fa_68_0 rfl) ?_
      refine Ops.y (v := .bool true) (Y.b (Y.loadv ty_4 rfl (I.rd (E1.rd.part 0 1)) rfl rfl) (hv)) ?_
      refine Ops.y (v := .bool false) (Y.not (b := true) rfl) ?_
      refine Ops.y (v := .bool _) (Y.move rfl) ?_
      refine Ops.gf rfl ?_
      refine Ops.gf rfl ?_
      refine Ops.gf rfl ?_
      refine Ops.gf rfl ?_
      refine Ops.gf rfl ?_
      refine Ops.gf rfl ?_
      refine Ops.gf rfl ?_
      refine Ops.gf rfl ?_
      refine Ops.y (v := .bool _) (Y.pick_f rfl rfl) ?_
      refine Ops.nil ?_
      refine WP.cond_f rfl ?_
      refine WP.skip ?_
      refine WP.region ?_
      refine Ops.y (v := .int .i64 _) (Y.move rfl) ?_
      refine Ops.y (v := .int .i64 _) (Y.addi rfl rfl ⟨by omega, by omega⟩) ?_
      refine Ops.y (v := .int .i64 _) (Y.assign rfl) ?_
      refine Ops.nil ?_
      exact ⟨k + 1, ⟨⟨rfl, rfl, rfl, trivial⟩, I, by omega, step (by simp [hv])⟩, by omega⟩
  refine WP.exit ?_
  refine WP.seq ?_
  refine WP.region ?_
  refine Ops.y (v := .bool _) (Y.assign rfl) ?_
  refine Ops.nil ?_
  refine WP.ret ?_
  repeat (first | refine thenE_ret ?_ | refine blockE_ret ?_)
  exact retQ.mk (vs := [.bool _]) rfl ⟨rfl, trivial⟩ I.ext_of (by simp only [tup, boundIn]; rw [List.any_eq_false.2]; intro x hx; obtain ⟨j, hj, rfl⟩ := List.getElem_of_mem hx; simpa using hn j (by omega) hj)
end Go.TF
end
section
/- The contracts of package rule, on: Vars, Atoms. -/
namespace Go.TF
open Go Go.RowKit Go.Proofs
set_option maxRecDepth 10000

theorem Vars_ok (B : Base) (hB : B.ok) (l : Sl Atm) (hl : l.Is 2 Atm.enc B.h) (he : ∀ a ∈ l.xs, a.In B.h) (hn : l.xs.length ≤ 4) :
    FnM Tryz.prog 119 [l.val] B (fun v _ M => ∃ b es, v = .map (some b) ∧ M = [imap b es] ∧ CountOf es (cntA l.xs)) := by
  refine FnM.of Tryz.func119 rfl Tryz.ntmps119 (by kernel_rfl) (by simp) ?_
  intro e
  have I := Inv.start hB
  refine WP.seq ?_
  refine WP.region ?_
  refine Ops.y (v := .map _) (Y.assign rfl) ?_
  refine Ops.nil ?_
  refine WP.seq ?_
  refine WP.region ?_
  refine Ops.go (O.mkmap I ?_)
  intro b8 w I
  refine Ops.y (v := .map _) (Y.assign rfl) ?_
  refine Ops.nil ?_
  refine WP.seq ?_
  refine WP.seq ?_
  refine WP.region ?_
  refine Ops.y (v := .slice _ _ _) (Y.move rfl) ?_
  refine Ops.y (v := .int .i64 _) (Y.lens Tryz.underlying154 rfl) ?_
  refine Ops.y (v := .int .i64 _) (Y.move rfl) ?_
  refine Ops.nil ?_
  refine WP.block ?_
  refine WP.loopE (σ := Nat × List (Int × Int)) (fun s => [(3, .map (some b8)), (9, l.val), (10, .int .i64 l.xs.length), (11, .int .i64 s.1)]) (fun s w => Inv B B.h [imap b8 s.2] w ∧ s.1 ≤ l.xs.length ∧ CountOf s.2 (cntA (l.xs.take s.1))) (fun s => l.xs.length - s.1)
    ⟨(0, []), ⟨rfl, rfl, rfl, rfl, trivial⟩, I, Nat.zero_le _, CountOf.nil⟩ ?_
  rintro ⟨k, es⟩ e w ⟨I, hk, hc⟩
  dsimp only at I hk hc ⊢
  refine WP.seq ?_
  refine WP.region ?_
  refine Ops.y (v := .bool (decide _)) (Y.lti rfl rfl) ?_
  refine Ops.nil ?_
  refine WP.seq ?_
  refine WP.cond_dec rfl (fun h => ?_) (fun h => ?_)
  · have hk' : k < l.xs.length := by omega
    have E1 := hl.at hk'
    have ha := he _ (List.getElem_mem hk')
    have hsm : l.xs[k].args.xs.length ≤ 140737488355328 := Sl.Is.small ha
    refine WP.skip ?_
    refine WP.seq ?_
    refine WP.block ?_
    refine WP.seq ?_
    refine WP.region ?_
    refine Ops.y (v := .pointer (some ⟨_, _, none⟩)) (Y.idxEl E1 Tryz.underlying154 Tryz.sizeOf61 rfl rfl (Int.natCast_nonneg _) rfl) ?_
    refine Ops.y (v := .agg #[_, _]) (Y.loadv ty_61 rfl (I.rd (E1.rd.part 0 2)) rfl rfl) ?_
    refine Ops.go (O.alloc I Tryz.zeroValue61 rfl ?_)
    intro b5 w I
    refine Ops.go (O.store (v := .agg #[_, _]) I ty_61 0 rfl rfl rfl rfl rfl rfl (Nat.le_of_ble_eq_true rfl) rfl ?_)
    intro w I
    refine Ops.nil ?_
    refine WP.seq ?_
    refine WP.region ?_
    refine Ops.y (v := .pointer (some ⟨_, _, none⟩)) (Y.fa fa_61_1 rfl) ?_
    refine Ops.y (v := .slice _ _ _) (Y.loadv ty_59 rfl (I.rdbox 0 rfl 1 1) rfl rfl) ?_
    refine Ops.y (v := .int .i64 _) (Y.lens Tryz.underlying59 rfl) ?_
    refine Ops.y (v := .int .i64 _) (Y.move rfl) ?_
    refine Ops.nil ?_
    refine WP.block ?_
    refine WP.loopE (σ := Nat × List (Int × Int)) (fun s => [(3, .map (some b8)), (9, l.val), (10, .int .i64 l.xs.length), (11, .int .i64 k), (16, l.xs[k].args.val), (17, .int .i64 l.xs[k].args.xs.length), (18, .int .i64 s.1)]) (fun s w => Inv B B.h [imap b8 s.2] w ∧ s.1 ≤ l.xs[k].args.xs.length ∧ CountOf s.2 (fun v => cntA (l.xs.take k) v + cntT (l.xs[k].args.xs.take s.1) v)) (fun s => l.xs[k].args.xs.length - s.1)
      ⟨(0, es), ⟨rfl, rfl, rfl, rfl, rfl, rfl, rfl, trivial⟩, I.drop, Nat.zero_le _, hc⟩ ?_
    rintro ⟨j, es⟩ e w ⟨I, hj, hc⟩
    dsimp only at I hj hc ⊢
    refine WP.seq ?_
    refine WP.region ?_
    refine Ops.y (v := .bool (decide _)) (Y.lti rfl rfl) ?_
    refine Ops.nil ?_
    refine WP.seq ?_
    refine WP.cond_dec rfl (fun h2 => ?_) (fun h2 => ?_)
    · have hj' : j < l.xs[k].args.xs.length := by omega
      have E2 := Sl.Is.at ha hj'
      have hcg := hc.get l.xs[k].args.xs[j].n
      have hb1 := cntA_le (l := l.xs.take k) (m := 140737488355328) (fun a hm => Sl.Is.small (he a (List.mem_of_mem_take hm))) l.xs[k].args.xs[j].n
      have hb2 := cntT_le (l.xs[k].args.xs.take j) l.xs[k].args.xs[j].n
      simp only [List.length_take] at hb1 hb2
      have hb3 : min k l.xs.length * 140737488355328 ≤ 4 * 140737488355328 := Nat.mul_le_mul_right _ (by omega)
      refine WP.skip ?_
      refine WP.seq ?_
      refine WP.block ?_
      refine WP.seq ?_
      refine WP.region ?_
      refine Ops.y (v := .pointer (some ⟨_, _, none⟩)) (Y.idxEl E2 Tryz.underlying59 Tryz.sizeOf109 rfl rfl (Int.natCast_nonneg _) rfl) ?_
      refine Ops.y (v := .agg #[_, _]) (Y.loadv ty_109 rfl (I.rd (E2.rd.part 0 2)) rfl rfl) ?_
      refine Ops.go (O.alloc I Tryz.zeroValue109 rfl ?_)
      intro b7 w I
      refine Ops.go (O.store (v := .agg #[_, _]) I ty_109 0 rfl rfl rfl rfl rfl rfl (Nat.le_of_ble_eq_true rfl) rfl ?_)
      intro w I
      refine Ops.nil ?_
      refine WP.seq ?_
      refine WP.region ?_
      refine Ops.y (v := .pointer (some ⟨_, _, none⟩)) (Y.fa0 fa_109_0 rfl) ?_
      refine Ops.y (v := .bool _) (Y.loadv ty_4 rfl (I.rdbox 0 rfl 0 1) rfl rfl) ?_
      refine Ops.nil ?_
      refine WP.cutL (σ := List (Int × Int)) (fun _ => [(3, .map (some b8)), (9, l.val), (10, .int .i64 l.xs.length), (11, .int .i64 k), (16, l.xs[k].args.val), (17, .int .i64 l.xs[k].args.xs.length), (18, .int .i64 j)]) (fun es w => Inv B B.h [imap b8 es] w ∧ CountOf es (fun v => cntA (l.xs.take k) v + cntT (l.xs[k].args.xs.take (j + 1)) v)) ?_ ?_
      · refine WP.cond rfl (fun hv => ?_) (fun hv => ?_)
        · refine WP.region ?_
          refine Ops.y (v := .map _) (Y.move rfl) ?_
          refine Ops.y (v := .pointer (some ⟨_, _, none⟩)) (Y.fa fa_109_1 rfl) ?_
          refine Ops.y (v := .int .i64 _) (Y.loadv ty_3 rfl (I.rdbox 0 rfl 1 1) rfl rfl) ?_
          refine Ops.y (v := .int .i64 _) (Y.lookup I Tryz.underlying157 Tryz.underlying3 Tryz.zeroValue3 1 rfl rfl rfl) ?_
          refine Ops.y (v := .int .i64 _) (Y.addi rfl rfl ⟨by omega, by omega⟩) ?_
          refine Ops.go (O.mapset I Tryz.underlying157 Tryz.underlying3 1 rfl rfl rfl rfl ?_)
          intro w I
          refine Ops.nil ?_
          exact ⟨_, ⟨rfl, rfl, rfl, rfl, rfl, rfl, rfl, trivial⟩, I.drop, hc.put _ fun v => by rw [cntT_take hj']; simp only [hv, true_and]; by_cases e : v = l.xs[k].args.xs[j].n <;> simp [e, Ne.symm] <;> omega⟩
        refine WP.skip ?_
        exact ⟨es, ⟨rfl, rfl, rfl, rfl, rfl, rfl, rfl, trivial⟩, I.drop, hc.same fun v => by rw [cntT_take hj']; simp [hv]⟩
      rintro es e w ⟨I, hc⟩
      refine WP.region ?_
      refine Ops.y (v := .int .i64 _) (Y.addi rfl rfl ⟨by omega, by omega⟩) ?_
      refine Ops.y (v := .int .i64 _) (Y.move rfl) ?_
      refine Ops.nil ?_
      exact ⟨(j + 1, es), ⟨⟨rfl, rfl, rfl, rfl, rfl, rfl, rfl, trivial⟩, I, by dsimp only; omega, hc⟩, by dsimp only; omega⟩
    refine WP.exit ?_
    refine WP.region ?_
    refine Ops.y (v := .int .i64 _) (Y.addi rfl rfl ⟨by omega, by omega⟩) ?_
    refine Ops.y (v := .int .i64 _) (Y.move rfl) ?_
    refine Ops.nil ?_
    have hj0 : j = l.xs[k].args.xs.length := by omega
    exact ⟨(k + 1, es), ⟨⟨rfl, rfl, rfl, rfl, trivial⟩, I, by dsimp only; omega, fun v => by rw [cntA_take hk']; have := hc v; rw [hj0, List.take_length] at this; exact this⟩, by dsimp only; omega⟩
  refine WP.exit ?_
  refine WP.seq ?_
  refine WP.region ?_
  refine Ops.y (v := .map _) (Y.move rfl) ?_
  refine Ops.y (v := .map _) (Y.assign rfl) ?_
  refine Ops.nil ?_
  have hk0 : k = l.xs.length := by omega
  refine WP.ret ?_
  repeat (first | refine thenE_ret ?_ | refine blockE_ret ?_)
  exact retM.mk (vs := [_]) rfl ⟨rfl, trivial⟩ (I) (⟨b8, es, rfl, rfl, by rw [hk0, List.take_length] at hc; exact hc⟩)
/-- What Atoms hands on. -/
def AtomsR (b : Sl Ltl) (v : Value) (_ : Heap) (M : List SA) : Prop := ∃ u1 u2, v = .tuple #[u1, u2] ∧ M = [ownSl 61 2 u1 (negs b.xs).length ((negs b.xs).flatMap Atm.enc), ownSl 61 2 u2 (poss b.xs).length ((poss b.xs).flatMap Atm.enc)]
theorem Atoms_ok (B : Base) (hB : B.ok) (r : Rul) (hr : Ltls r.body B.h) (hn : r.body.xs.length ≤ 3) : FnM Tryz.prog 118 [r.val] B (AtomsR r.body) := by
  refine FnM.of Tryz.func118 rfl Tryz.ntmps118 (by kernel_rfl) (by simp) ?_
  intro e
  have I := Inv.start hB
  refine WP.seq ?_
  refine WP.region ?_
  refine Ops.go (O.box (v := .agg #[_, _, _, _, _]) I rfl rfl ?_)
  intro b1 w I
  refine Ops.y (v := .slice _ _ _) (Y.assign rfl) ?_
  refine Ops.y (v := .slice _ _ _) (Y.assign rfl) ?_
  refine Ops.nil ?_
  refine WP.seq ?_
  refine WP.seq ?_
  refine WP.region ?_
  refine Ops.y (v := .pointer (some ⟨_, _, none⟩)) (Y.fa fa_64_3 rfl) ?_
  refine Ops.y (v := .slice _ _ _) (Y.loadv ty_62 rfl (I.rdbox 0 rfl 4 1) rfl rfl) ?_
  refine Ops.y (v := .int .i64 _) (Y.lens Tryz.underlying62 rfl) ?_
  refine Ops.y (v := .int .i64 _) (Y.move rfl) ?_
  refine Ops.nil ?_
  refine WP.block ?_
  have In1 := I.nilSl 61 2
  have In2 := In1.nilSl 61 2
  refine WP.loopE (σ := Nat × Value × Value × Heap) (fun s => [(1, .pointer (some ⟨b1, 0, none⟩)), (2, s.2.1), (3, s.2.2.1), (7, r.body.val), (8, .int .i64 r.body.xs.length), (9, .int .i64 s.1)])
    (fun s w => Inv B s.2.2.2 [ownSl 61 2 s.2.1 (negs (r.body.xs.take s.1)).length ((negs (r.body.xs.take s.1)).flatMap Atm.enc), ownSl 61 2 s.2.2.1 (poss (r.body.xs.take s.1)).length ((poss (r.body.xs.take s.1)).flatMap Atm.enc)] w ∧ s.1 ≤ r.body.xs.length ∧ B.h.le s.2.2.2) (fun s => r.body.xs.length - s.1)
    ⟨(0, .slice none 0 0, .slice none 0 0, B.h), ⟨rfl, rfl, rfl, rfl, rfl, rfl, trivial⟩, In2.weak (by simp [negs, poss]), Nat.zero_le _, Heap.le.refl _⟩ ?_
  rintro ⟨k, u1, u2, h⟩ e w ⟨I, hk, hle⟩
  dsimp only at I hk hle ⊢
  refine WP.seq ?_
  refine WP.region ?_
  refine Ops.y (v := .bool (decide _)) (Y.lti rfl rfl) ?_
  refine Ops.nil ?_
  refine WP.seq ?_
  refine WP.cond_dec rfl (fun h1 => ?_) (fun h1 => ?_)
  · have hk' : k < r.body.xs.length := by omega
    have E1 := (hr.is.at hk').le hle
    have l1 := negs_le (r.body.xs.take k)
    have l2 := poss_le (r.body.xs.take k)
    simp only [List.length_take] at l1 l2
    refine WP.skip ?_
    refine WP.seq ?_
    refine WP.block ?_
    refine WP.seq ?_
    refine WP.region ?_
    refine Ops.y (v := .pointer (some ⟨_, _, none⟩)) (Y.idxEl E1 Tryz.underlying62 Tryz.sizeOf68 rfl rfl (Int.natCast_nonneg _) rfl) ?_
    refine Ops.y (v := .agg #[_, _, _]) (Y.loadv ty_68 rfl (I.rd (E1.rd.part 0 3)) rfl rfl) ?_
    refine Ops.go (O.alloc I Tryz.zeroValue68 rfl ?_)
    intro b5 w I
    refine Ops.go (O.store (v := .agg #[_, _, _]) I ty_68 0 rfl rfl rfl rfl rfl rfl (Nat.le_of_ble_eq_true rfl) rfl ?_)
    intro w I
    refine Ops.nil ?_
    refine WP.seq ?_
    refine WP.region ?_
    refine Ops.y (v := .pointer (some ⟨_, _, none⟩)) (Y.fa0 fa_68_0 rfl) ?_
    refine Ops.y (v := .bool _) (Y.loadv ty_4 rfl (I.rdbox 0 rfl 0 1) rfl rfl) ?_
    refine Ops.nil ?_
    refine WP.cond rfl (fun hv => ?_) (fun hv => ?_)
    · refine WP.region ?_
      refine Ops.y (v := u1) (Y.move rfl) ?_
      refine Ops.y (v := .pointer (some ⟨_, _, none⟩)) (Y.fa fa_68_1 rfl) ?_
      refine Ops.y (v := .agg #[_, _]) (Y.loadv ty_61 rfl (I.rdbox 0 rfl 1 2) rfl rfl) ?_
      refine Ops.go (O.mksl (xs := [r.body.xs[k].atom]) (enc := Atm.enc) I Tryz.underlying154 Tryz.sizeOf61 Tryz.zeroValue61 rfl (Nat.le_of_ble_eq_true rfl) rfl rfl (by decide) (fun _ => rfl) ?_)
      intro b18 h18 w I le18 sl18
      refine Ops.go (O.append I Tryz.underlying154 et_61 1 rfl rfl rfl (I.rd (sl18 0 _ rfl).2) rfl rfl (by decide) (by omega) (by omega) ?_)
      intro b19 c19 w I
      refine Ops.y (v := .slice _ _ _) (Y.assign rfl) ?_
      refine Ops.nil ?_
      refine WP.region ?_
      refine Ops.y (v := .int .i64 _) (Y.addi rfl rfl ⟨by omega, by omega⟩) ?_
      refine Ops.y (v := .int .i64 _) (Y.move rfl) ?_
      refine Ops.nil ?_
      refine ⟨(k + 1, _, u2, h18), ⟨⟨rfl, rfl, rfl, rfl, rfl, rfl, trivial⟩, ?_, by dsimp only; omega, hle.trans le18⟩, by dsimp only; omega⟩
      have J := I.drop
      simpa [negs_take hk', poss_take hk', hv] using J
    refine WP.region ?_
    refine Ops.y (v := u2) (Y.move rfl) ?_
    refine Ops.y (v := .pointer (some ⟨_, _, none⟩)) (Y.fa fa_68_1 rfl) ?_
    refine Ops.y (v := .agg #[_, _]) (Y.loadv ty_61 rfl (I.rdbox 0 rfl 1 2) rfl rfl) ?_
    refine Ops.go (O.mksl (xs := [r.body.xs[k].atom]) (enc := Atm.enc) I Tryz.underlying154 Tryz.sizeOf61 Tryz.zeroValue61 rfl (Nat.le_of_ble_eq_true rfl) rfl rfl (by decide) (fun _ => rfl) ?_)
    intro b23 h23 w I le23 sl23
    refine Ops.go (O.append I Tryz.underlying154 et_61 2 rfl rfl rfl (I.rd (sl23 0 _ rfl).2) rfl rfl (by decide) (by omega) (by omega) ?_)
    intro b24 c24 w I
    refine Ops.y (v := .slice _ _ _) (Y.assign rfl) ?_
    refine Ops.nil ?_
    refine WP.region ?_
    refine Ops.y (v := .int .i64 _) (Y.addi rfl rfl ⟨by omega, by omega⟩) ?_
    refine Ops.y (v := .int .i64 _) (Y.move rfl) ?_
    refine Ops.nil ?_
    refine ⟨(k + 1, u1, _, h23), ⟨⟨rfl, rfl, rfl, rfl, rfl, rfl, trivial⟩, ?_, by dsimp only; omega, hle.trans le23⟩, by dsimp only; omega⟩
    have J := I.drop
    simpa [negs_take hk', poss_take hk', hv] using J
  refine WP.exit ?_
  refine WP.seq ?_
  refine WP.region ?_
  refine Ops.y (v := u1) (Y.move rfl) ?_
  refine Ops.y (v := u2) (Y.move rfl) ?_
  refine Ops.y (v := u1) (Y.assign rfl) ?_
  refine Ops.y (v := u2) (Y.assign rfl) ?_
  refine Ops.nil ?_
  have hk0 : k = r.body.xs.length := by omega
  refine WP.ret ?_
  repeat (first | refine thenE_ret ?_ | refine blockE_ret ?_)
  exact retM.mk (vs := [u1, u2]) rfl ⟨rfl, rfl, trivial⟩ (I) (⟨_, _, rfl, by rw [hk0, List.take_length]⟩)
end Go.TF
end
section
/- The contract of rule.Check. -/
namespace Go.TF
open Go Go.RowKit Go.Proofs
set_option maxRecDepth 10000

theorem checkAtom_in {l : List Prd} {a : Atm} (h : checkAtom l a = 0) : 0 ≤ a.pred ∧ a.pred < l.length := by
  unfold checkAtom at h
  split at h
  · cases h
  · omega
theorem free_any {l : List Prd} {r : Rul} {v : Int} (h : freeVar r v = true) (h0 : checkAtom l r.head = 0) (h1 : bodyErr l r.body.xs = 0) : (freeVar r 0 || freeVar r 1 || freeVar r 2) = true := by
  have hv : v = 0 ∨ v = 1 ∨ v = 2 := by
    have := h
    simp only [freeVar, Bool.and_eq_true, Bool.or_eq_true, List.any_eq_true] at this
    rcases this.1 with hs | ⟨x, hx, hs⟩
    · exact standsIn_small h0 hs
    · exact standsIn_small (bodyErr_ne.1 h1 x hx) hs
  rcases hv with rfl | rfl | rfl <;> simp [h]
theorem free_none {r : Rul} (h : ∀ v, cntA (negs r.body.xs ++ [r.head]) v ≠ 0 → cntA (poss r.body.xs) v ≠ 0) : (freeVar r 0 || freeVar r 1 || freeVar r 2) = false := by
  have : ∀ v, freeVar r v = false := fun v => by
    cases hf : freeVar r v
    · rfl
    · have := freeVar_iff.1 hf; exact absurd this.2 (h v this.1)
  simp [this]
theorem litOf_get {r : Rul} {k : Int} (h0 : 0 ≤ k) (h1 : k < r.body.xs.length) : litOf r k = r.body.xs[k.toNat]'(by omega) := by
  simp [litOf, List.getD_eq_getElem?_getD, show k.toNat < r.body.xs.length by omega]
theorem predOf_getE {l : List Prd} {p : Int} (h0 : 0 ≤ p) (h1 : p < l.length) : predOf l p = l[p.toNat]'(by omega) := by
  simp [predOf, List.getD_eq_getElem?_getD, show p.toNat < l.length by omega]
set_option maxHeartbeats 1000000 in
theorem RCheck_ok (B : Base) (hB : B.ok) (l : Sl Prd) (hl : Prds l B.h) (r : Rul) (hr : r.In B.h) : Fn Tryz.prog 61 [l.val, r.val] B (fun v _ => v = .int .i64 (checkRule l.xs r)) := by
  have hsm := hl.small
  have hsb := hr.body.is.small
  refine Fn.of Tryz.func61 rfl Tryz.ntmps61 (by kernel_rfl) (by simp) ?_
  intro e
  have I := Inv.start hB
  refine WP.seq ?_
  refine WP.region ?_
  refine Ops.go (O.box (v := .agg #[_, _, _, _, _]) I rfl rfl ?_)
  intro b3 w I
  refine Ops.y (v := .int .i64 _) (Y.assign rfl) ?_
  refine Ops.nil ?_
  refine WP.seq ?_
  refine WP.seq ?_
  refine WP.region ?_
  refine Ops.y (v := .slice _ _ _) (Y.move rfl) ?_
  refine Ops.y (v := .pointer (some ⟨_, _, none⟩)) (Y.fa0 fa_64_0 rfl) ?_
  refine Ops.y (v := .agg #[_, _]) (Y.loadv ty_61 rfl (I.rdbox 0 rfl 0 2) rfl rfl) ?_
  refine Ops.go (O.callv I Tryz.call117 (Atom_ok _ I.base_ok l hl r.head hr.head) rfl ?_)
  intro w I
  refine Ops.y (v := .int .i64 _) (Y.assign rfl) ?_
  refine Ops.nil ?_
  refine WP.seq ?_
  refine WP.region ?_
  refine Ops.y (v := .int .i64 _) (Y.move rfl) ?_
  refine Ops.y (v := .bool (decide _)) (Y.nei rfl rfl) ?_
  refine Ops.nil ?_
  refine WP.cond_dec rfl (fun h1 => ?_) (fun h1 => ?_)
  · refine WP.seq ?_
    refine WP.region ?_
    refine Ops.y (v := .int .i64 _) (Y.move rfl) ?_
    refine Ops.y (v := .int .i64 _) (Y.assign rfl) ?_
    refine Ops.nil ?_
    refine WP.ret ?_
    repeat (first | refine thenE_ret ?_ | refine blockE_ret ?_)
    exact retQ.mk (vs := [.int .i64 _]) rfl ⟨rfl, trivial⟩ I.ext_of (by simp only [tup, checkRule]; rw [if_pos h1])
  have h1 := Decidable.not_not.1 h1
  have hh := checkAtom_in h1
  refine WP.skip ?_
  refine WP.seq ?_
  refine WP.seq ?_
  refine WP.region ?_
  refine Ops.y (v := .pointer (some ⟨_, _, none⟩)) (Y.fa fa_64_3 rfl) ?_
  refine Ops.y (v := .slice _ _ _) (Y.loadv ty_62 rfl (I.rdbox 0 rfl 4 1) rfl rfl) ?_
  refine Ops.y (v := .int .i64 _) (Y.lens Tryz.underlying62 rfl) ?_
  refine Ops.y (v := .bool (decide _)) (Y.gti rfl rfl) ?_
  refine Ops.nil ?_
  refine WP.cond_dec rfl (fun h2 => ?_) (fun h2 => ?_)
  · refine WP.seq ?_
    refine WP.region ?_
    refine Ops.y (v := .int .i64 _) (Y.assign rfl) ?_
    refine Ops.nil ?_
    refine WP.ret ?_
    repeat (first | refine thenE_ret ?_ | refine blockE_ret ?_)
    exact retQ.mk (vs := [.int .i64 _]) rfl ⟨rfl, trivial⟩ I.ext_of (by simp only [tup, checkRule]; rw [if_neg (by simp [h1]), if_pos (by omega)])
  refine WP.skip ?_
  refine WP.seq ?_
  refine WP.seq ?_
  refine WP.region ?_
  refine Ops.y (v := .pointer (some ⟨_, _, none⟩)) (Y.fa fa_64_3 rfl) ?_
  refine Ops.y (v := .slice _ _ _) (Y.loadv ty_62 rfl (I.rdbox 0 rfl 4 1) rfl rfl) ?_
  refine Ops.y (v := .int .i64 _) (Y.lens Tryz.underlying62 rfl) ?_
  refine Ops.y (v := .int .i64 _) (Y.move rfl) ?_
  refine Ops.nil ?_
  refine WP.block ?_
  refine WP.loopE (σ := Nat) (fun k => [(0, l.val), (3, .pointer (some ⟨b3, 0, none⟩)), (26, r.body.val), (27, .int .i64 r.body.xs.length), (28, .int .i64 k)]) (fun k w => Inv B B.h [box b3 r.enc 64] w ∧ k ≤ r.body.xs.length ∧ ∀ j, j < k → ∀ hj' : j < r.body.xs.length, checkAtom l.xs r.body.xs[j].atom = 0) (fun k => r.body.xs.length - k)
    ⟨0, ⟨rfl, rfl, rfl, rfl, rfl, trivial⟩, I, Nat.zero_le _, fun j hj => (by omega)⟩ ?_
  rintro k e w ⟨I, hk, hn⟩
  refine WP.seq ?_
  refine WP.region ?_
  refine Ops.y (v := .bool (decide _)) (Y.lti rfl rfl) ?_
  refine Ops.nil ?_
  refine WP.seq ?_
  refine WP.cond_dec rfl (fun h3 => ?_) (fun h3 => ?_)
  · have hk' : k < r.body.xs.length := by omega
    have E1 := hr.body.is.at hk'
    refine WP.skip ?_
    refine WP.seq ?_
    refine WP.block ?_
    refine WP.seq ?_
    refine WP.region ?_
    refine Ops.y (v := .pointer (some ⟨_, _, none⟩)) (Y.idxEl E1 Tryz.underlying62 Tryz.sizeOf68 rfl rfl (Int.natCast_nonneg _) rfl) ?_
    refine Ops.y (v := .agg #[_, _, _]) (Y.loadv ty_68 rfl (I.rd (E1.rd.part 0 3)) rfl rfl) ?_
    refine Ops.go (O.alloc I Tryz.zeroValue68 rfl ?_)
    intro b7 w I
    refine Ops.go (O.store (v := .agg #[_, _, _]) I ty_68 0 rfl rfl rfl rfl rfl rfl (Nat.le_of_ble_eq_true rfl) rfl ?_)
    intro w I
    refine Ops.nil ?_
    refine WP.seq ?_
    refine WP.region ?_
    refine Ops.y (v := .slice _ _ _) (Y.move rfl) ?_
    refine Ops.y (v := .pointer (some ⟨_, _, none⟩)) (Y.fa fa_68_1 rfl) ?_
    refine Ops.y (v := .agg #[_, _]) (Y.loadv ty_61 rfl (I.rdbox 0 rfl 1 2) rfl rfl) ?_
    refine Ops.go (O.callv I Tryz.call117 (Atom_ok _ I.base_ok l hl r.body.xs[k].atom (hr.body.each _ (List.getElem_mem hk'))) rfl ?_)
    intro w I
    refine Ops.y (v := .int .i64 _) (Y.assign rfl) ?_
    refine Ops.nil ?_
    refine WP.seq ?_
    refine WP.region ?_
    refine Ops.y (v := .int .i64 _) (Y.move rfl) ?_
    refine Ops.y (v := .bool (decide _)) (Y.nei rfl rfl) ?_
    refine Ops.nil ?_
    refine WP.cond_dec rfl (fun h4 => ?_) (fun h4 => ?_)
    · refine WP.seq ?_
      refine WP.region ?_
      refine Ops.y (v := .int .i64 _) (Y.move rfl) ?_
      refine Ops.y (v := .int .i64 _) (Y.assign rfl) ?_
      refine Ops.nil ?_
      refine WP.ret ?_
      repeat (first | refine thenE_ret ?_ | refine blockE_ret ?_)
      exact retQ.mk (vs := [.int .i64 _]) rfl ⟨rfl, trivial⟩ I.ext_of (by simp only [tup, checkRule]; rw [if_neg (by simp [h1]), if_neg (by omega), if_pos (by rw [bodyErr_at hk' hn h4]; exact h4), bodyErr_at hk' hn h4])
    refine WP.skip ?_
    refine WP.region ?_
    refine Ops.y (v := .int .i64 _) (Y.addi rfl rfl ⟨by omega, by omega⟩) ?_
    refine Ops.y (v := .int .i64 _) (Y.move rfl) ?_
    refine Ops.nil ?_
    exact ⟨k + 1, ⟨⟨rfl, rfl, rfl, rfl, rfl, trivial⟩, I.drop, by omega, fun j hj hj' => by
      rcases Nat.lt_succ_iff_lt_or_eq.1 hj with h' | h'
      · exact hn j h' hj'
      · subst h'; exact Decidable.not_not.1 h4⟩, by omega⟩
  have hb0 : bodyErr l.xs r.body.xs = 0 := bodyErr_ne.2 fun x hx => by obtain ⟨j, hj, rfl⟩ := List.getElem_of_mem hx; exact hn j (by omega) hj
  have hb3 : r.body.xs.length ≤ 3 := by omega
  have n1 := negs_le r.body.xs
  have n2 := poss_le r.body.xs
  clear hn hk h3
  refine WP.exit ?_
  refine WP.seq ?_
  refine WP.region ?_
  refine Ops.y (v := .agg #[_, _, _, _, _]) (Y.loadv ty_64 rfl (I.rdbox 0 rfl 0 5) rfl rfl) ?_
  refine Ops.go (O.callM I Tryz.call118 (Atoms_ok _ I.base_ok r hr.body hb3) rfl ?_)
  rintro _ h1' _ w I le1 ⟨u1, u2, rfl, rfl⟩
  try simp only [List.cons_append, List.nil_append] at I
  refine Ops.y (v := .tuple #[_, _]) (Y.move rfl) ?_
  refine Ops.y (v := u1) (Y.extract rfl rfl) ?_
  refine Ops.y (v := u2) (Y.extract rfl rfl) ?_
  refine Ops.y (v := u1) (Y.assign rfl) ?_
  refine Ops.y (v := u2) (Y.assign rfl) ?_
  refine Ops.nil ?_
  have If := I.front 1 rfl
  obtain ⟨h2', sI, le2, hv2, hx2, hs2, I2⟩ := If.settleSl (fun _ => rfl) rfl
  simp only [List.eraseIdx_cons_succ, List.eraseIdx_zero, List.tail_cons] at I2
  clear If
  subst hv2
  have I := I2
  have le12 := le1.trans le2
  have q1 : ∀ a ∈ sI.xs, a.In h2' := fun a ha => by
    rw [hx2] at ha
    obtain ⟨x, hx, _, rfl⟩ := mem_poss.1 ha
    exact (hr.body.each x hx).le le12
  refine WP.seq ?_
  refine WP.region ?_
  refine Ops.y (v := .slice _ _ _) (Y.move rfl) ?_
  refine Ops.go (O.callM I Tryz.call119 (Vars_ok _ I.base_ok sI ⟨hs2, by rw [hx2]; omega⟩ q1 (by rw [hx2]; omega)) rfl ?_)
  rintro _ h3' _ w I le3 ⟨bm, es, rfl, rfl, hc⟩
  try simp only [List.cons_append, List.nil_append] at I
  refine Ops.y (v := .map _) (Y.assign rfl) ?_
  refine Ops.nil ?_
  refine WP.seq ?_
  refine WP.seq ?_
  refine WP.region ?_
  refine Ops.y (v := u1) (Y.move rfl) ?_
  refine Ops.y (v := .pointer (some ⟨_, _, none⟩)) (Y.fa0 fa_64_0 rfl) ?_
  refine Ops.y (v := .agg #[_, _]) (Y.loadv ty_61 rfl (I.rdbox 2 rfl 0 2) rfl rfl) ?_
  refine Ops.go (O.mksl (xs := [r.head]) (enc := Atm.enc) I Tryz.underlying154 Tryz.sizeOf61 Tryz.zeroValue61 rfl (Nat.le_of_ble_eq_true rfl) rfl rfl (by decide) (fun _ => rfl) ?_)
  intro b50 h50 w I le50 sl50
  refine Ops.go (O.append I Tryz.underlying154 et_61 1 rfl rfl rfl (I.rd (sl50 0 _ rfl).2) rfl rfl (by decide) (by omega) (by omega) ?_)
  intro b51 c51 w I
  have If := I.front 1 rfl
  have e0 : (negs r.body.xs).flatMap Atm.enc ++ Atm.enc r.head = (negs r.body.xs ++ [r.head]).flatMap Atm.enc := by simp
  rw [e0] at If
  obtain ⟨h5, sN, le5, hv5, hx5, hs5, I⟩ := If.settleSl (fun _ => rfl) (by simp)
  have le25 : B.h.le h5 := le12.trans (le3.trans (le50.trans le5))
  have V := Vars_ok _ I.base_ok sN ⟨hs5, by rw [hx5, List.length_append, List.length_singleton]; omega⟩ (fun a ha => by rw [hx5] at ha; rcases List.mem_append.1 ha with ha | ha; (obtain ⟨x, hx, _, rfl⟩ := mem_negs.1 ha; exact (hr.body.each x hx).le le25); (rw [List.mem_singleton.1 ha]; exact hr.head.le le25)) (by rw [hx5, List.length_append, List.length_singleton]; omega)
  rw [hv5] at V
  refine Ops.go (O.callM I Tryz.call119 (V) rfl ?_)
  rintro _ h6 _ w I le6 ⟨bn, en, rfl, rfl, hcn⟩
  try simp only [List.cons_append, List.nil_append] at I
  obtain ⟨h7, ents, clock, le7, hm7, hi7, I⟩ := I.settleMap
  refine Ops.go (O.range I Tryz.underlying157 rfl hm7 ?_)
  intro b53 w I
  refine Ops.nil ?_
  have hle : B.h.le h7 := le25.trans (le6.trans le7)
  rw [hx5] at hcn
  rw [hx2] at hc
  refine WP.block ?_
  refine WP.loopE (σ := List Nat) (fun _ => [(0, l.val), (3, .pointer (some ⟨b3, 0, none⟩)), (11, .map (some bm)), (53, .pointer (some ⟨b53, 0, none⟩))]) (fun done w => Inv B h7 [mit b53 bn clock done, imap bm es, box b3 r.enc 64] w ∧ ∀ q ∈ ents, q.born ∈ done → ∀ v, q.key = .int .i64 v → cntA (poss r.body.xs) v ≠ 0) (fun done => (ents.filter fun q => decide (q.born ∉ done)).length)
    ⟨[], ⟨rfl, rfl, rfl, rfl, trivial⟩, I, fun q _ hq => by cases hq⟩ ?_
  rintro done e w ⟨I, hd⟩
  refine WP.seq ?_
  refine WP.region ?_
  refine Ops.go (O.next I 0 rfl rfl hm7 hi7 ?_ ?_)
  · intro hall
    refine Ops.y (v := .bool _) (Y.extract rfl rfl) ?_
    refine Ops.nil ?_
    refine WP.seq ?_
    refine WP.cond_f rfl ?_
    have hfr : (freeVar r 0 || freeVar r 1 || freeVar r 2) = false := free_none fun v hv => by
      have h8 := hcn v
      rw [if_neg hv] at h8
      obtain ⟨q, hq, hk⟩ := ents_has hi7 (ilook_some_mem h8)
      exact hd q hq (hall q hq) v hk
    clear hd hall
    have I := I.drop.drop
    refine WP.exit ?_
    refine WP.seq ?_
    refine WP.seq ?_
    by_cases o0 : r.src < -1
    · refine WP.region ?_
      refine Ops.y (v := .pointer (some ⟨_, _, none⟩)) (Y.fa fa_64_1 rfl) ?_
      refine Ops.y (v := .int .i64 _) (Y.loadv ty_3 rfl (I.rdbox 0 rfl 2 1) rfl rfl) ?_
      refine Ops.y (v := .bool true) (Y.dec_t (Y.lti rfl rfl) (o0)) ?_
      refine Ops.y (v := .bool _) (Y.move rfl) ?_
      refine Ops.gf rfl ?_
      refine Ops.gf rfl ?_
      refine Ops.gf rfl ?_
      refine Ops.gf rfl ?_
      refine Ops.gf rfl ?_
      refine Ops.gf rfl ?_
      refine Ops.y (v := .bool _) (Y.pick_t rfl rfl) ?_
      refine Ops.nil ?_
      refine WP.cond_t rfl ?_
      refine WP.seq ?_
      refine WP.region ?_
      refine Ops.y (v := .int .i64 _) (Y.assign rfl) ?_
      refine Ops.nil ?_
      refine WP.ret ?_
      repeat (first | refine thenE_ret ?_ | refine blockE_ret ?_)
      exact retQ.mk (vs := [.int .i64 _]) rfl ⟨rfl, trivial⟩ I.ext_of (by simp only [tup, checkRule]; rw [if_neg (by simp [h1]), if_neg (by omega), if_neg (by simp [hb0]), hfr, if_neg (by simp), if_pos (by omega)])
    by_cases o1 : (r.body.xs.length : Int) ≤ r.src
    · refine WP.region ?_
      refine Ops.y (v := .pointer (some ⟨_, _, none⟩)) (Y.fa fa_64_1 rfl) ?_
      refine Ops.y (v := .int .i64 _) (Y.loadv ty_3 rfl (I.rdbox 0 rfl 2 1) rfl rfl) ?_
      refine Ops.y (v := .bool false) (Y.dec_f (Y.lti rfl rfl) (o0)) ?_
      refine Ops.y (v := .bool _) (Y.move rfl) ?_
      refine Ops.ygt rfl (v := .pointer (some ⟨_, _, none⟩)) (Y.fa fa_64_1 rfl) ?_
      refine Ops.ygt rfl (v := .int .i64 _) (Y.loadv ty_3 rfl (I.rdbox 0 rfl 2 1) rfl rfl) ?_
      refine Ops.ygt rfl (v := .pointer (some ⟨_, _, none⟩)) (Y.fa fa_64_3 rfl) ?_
      refine Ops.ygt rfl (v := .slice _ _ _) (Y.loadv ty_62 rfl (I.rdbox 0 rfl 4 1) rfl rfl) ?_
      refine Ops.ygt rfl (v := .int .i64 _) (Y.lens Tryz.underlying62 rfl) ?_
      refine Ops.ygt rfl (v := .bool true) (Y.dec_t (Y.gei rfl rfl) (o1)) ?_
      refine Ops.y (v := .bool _) (Y.pick_f rfl rfl) ?_
      refine Ops.nil ?_
      refine WP.cond_t rfl ?_
      refine WP.seq ?_
      refine WP.region ?_
      refine Ops.y (v := .int .i64 _) (Y.assign rfl) ?_
      refine Ops.nil ?_
      refine WP.ret ?_
      repeat (first | refine thenE_ret ?_ | refine blockE_ret ?_)
      exact retQ.mk (vs := [.int .i64 _]) rfl ⟨rfl, trivial⟩ I.ext_of (by simp only [tup, checkRule]; rw [if_neg (by simp [h1]), if_neg (by omega), if_neg (by simp [hb0]), hfr, if_neg (by simp), if_pos (by omega)])
    refine WP.region ?_
    refine Ops.y (v := .pointer (some ⟨_, _, none⟩)) (Y.fa fa_64_1 rfl) ?_
    refine Ops.y (v := .int .i64 _) (Y.loadv ty_3 rfl (I.rdbox 0 rfl 2 1) rfl rfl) ?_
    refine Ops.y (v := .bool false) (Y.dec_f (Y.lti rfl rfl) (o0)) ?_
    refine Ops.y (v := .bool _) (Y.move rfl) ?_
    refine Ops.ygt rfl (v := .pointer (some ⟨_, _, none⟩)) (Y.fa fa_64_1 rfl) ?_
    refine Ops.ygt rfl (v := .int .i64 _) (Y.loadv ty_3 rfl (I.rdbox 0 rfl 2 1) rfl rfl) ?_
    refine Ops.ygt rfl (v := .pointer (some ⟨_, _, none⟩)) (Y.fa fa_64_3 rfl) ?_
    refine Ops.ygt rfl (v := .slice _ _ _) (Y.loadv ty_62 rfl (I.rdbox 0 rfl 4 1) rfl rfl) ?_
    refine Ops.ygt rfl (v := .int .i64 _) (Y.lens Tryz.underlying62 rfl) ?_
    refine Ops.ygt rfl (v := .bool false) (Y.dec_f (Y.gei rfl rfl) (o1)) ?_
    refine Ops.y (v := .bool _) (Y.pick_f rfl rfl) ?_
    refine Ops.nil ?_
    refine WP.cond_f rfl ?_
    have hle' := hle
    have EH := (hl.at (i := r.head.pred.toNat) (by omega)).le hle
    have eH := predOf_getE hh.1 hh.2
    refine WP.skip ?_
    refine WP.seq ?_
    refine WP.region ?_
    refine Ops.y (v := .slice _ _ _) (Y.move rfl) ?_
    refine Ops.y (v := .pointer (some ⟨_, _, none⟩)) (Y.fa0 fa_64_0 rfl) ?_
    refine Ops.y (v := .pointer (some ⟨_, _, none⟩)) (Y.fa0 fa_61_0 rfl) ?_
    refine Ops.y (v := .int .i64 _) (Y.loadv ty_3 rfl (I.rdbox 0 rfl 0 1) rfl rfl) ?_
    refine Ops.y (v := .pointer (some ⟨_, _, none⟩)) (Y.idxEl EH Tryz.underlying22 Tryz.sizeOf53 rfl rfl hh.1 rfl) ?_
    refine Ops.y (v := .pointer (some ⟨_, _, none⟩)) (Y.fa fa_53_2 rfl) ?_
    refine Ops.y (v := .int .i64 _) (Y.loadv ty_3 rfl (I.rd (EH.rd.part 2 1)) rfl rfl) ?_
    refine Ops.y (v := .int .i64 _) (Y.assign rfl) ?_
    refine Ops.nil ?_
    refine WP.seq ?_
    refine WP.block ?_
    refine WP.seq ?_
    refine WP.cutL (σ := Unit) (fun _ => [(0, l.val), (3, .pointer (some ⟨b3, 0, none⟩)), (13, .int .i64 (predOf l.xs r.head.pred).kind), (80, .bool (decide ((predOf l.xs r.head.pred).kind = 0 ∧ (r.src ≠ -1 ∨ r.n ≠ 0))))]) (fun _ w => Inv B h7 [box b3 r.enc 64] w) ?_ ?_
    · rw [eH]
      by_cases c1 : (l.xs[r.head.pred.toNat]'(by omega)).kind = 0
      · by_cases c2 : r.src ≠ -1
        · refine WP.region ?_
          refine Ops.y (v := .int .i64 _) (Y.move rfl) ?_
          refine Ops.y (v := .bool true) (Y.dec_t (Y.eqi rfl rfl) (c1)) ?_
          refine Ops.y (v := .bool _) (Y.move rfl) ?_
          refine Ops.ygt rfl (v := .pointer (some ⟨_, _, none⟩)) (Y.fa fa_64_1 rfl) ?_
          refine Ops.ygt rfl (v := .int .i64 _) (Y.loadv ty_3 rfl (I.rdbox 0 rfl 2 1) rfl rfl) ?_
          refine Ops.ygt rfl (v := .bool true) (Y.dec_t (Y.nei rfl rfl) (c2)) ?_
          refine Ops.ygt rfl (v := .bool _) (Y.move rfl) ?_
          refine Ops.gf rfl ?_
          refine Ops.gf rfl ?_
          refine Ops.gf rfl ?_
          refine Ops.ygt rfl (v := .bool _) (Y.pick_t rfl rfl) ?_
          refine Ops.y (v := .bool _) (Y.pick_t rfl rfl) ?_
          refine Ops.y (v := .bool _) (Y.assign rfl) ?_
          refine Ops.nil ?_
          exact ⟨(), ⟨rfl, rfl, rfl, bT ⟨c1, .inl c2⟩, trivial⟩, I⟩
        · by_cases c3 : r.n ≠ 0
          · refine WP.region ?_
            refine Ops.y (v := .int .i64 _) (Y.move rfl) ?_
            refine Ops.y (v := .bool true) (Y.dec_t (Y.eqi rfl rfl) (c1)) ?_
            refine Ops.y (v := .bool _) (Y.move rfl) ?_
            refine Ops.ygt rfl (v := .pointer (some ⟨_, _, none⟩)) (Y.fa fa_64_1 rfl) ?_
            refine Ops.ygt rfl (v := .int .i64 _) (Y.loadv ty_3 rfl (I.rdbox 0 rfl 2 1) rfl rfl) ?_
            refine Ops.ygt rfl (v := .bool false) (Y.dec_f (Y.nei rfl rfl) (c2)) ?_
            refine Ops.ygt rfl (v := .bool _) (Y.move rfl) ?_
            refine Ops.ygt rfl (v := .pointer (some ⟨_, _, none⟩)) (Y.fa fa_64_2 rfl) ?_
            refine Ops.ygt rfl (v := .int .i64 _) (Y.loadv ty_3 rfl (I.rdbox 0 rfl 3 1) rfl rfl) ?_
            refine Ops.ygt rfl (v := .bool true) (Y.dec_t (Y.nei rfl rfl) (c3)) ?_
            refine Ops.ygt rfl (v := .bool _) (Y.pick_f rfl rfl) ?_
            refine Ops.y (v := .bool _) (Y.pick_t rfl rfl) ?_
            refine Ops.y (v := .bool _) (Y.assign rfl) ?_
            refine Ops.nil ?_
            exact ⟨(), ⟨rfl, rfl, rfl, bT ⟨c1, .inr c3⟩, trivial⟩, I⟩
          · refine WP.region ?_
            refine Ops.y (v := .int .i64 _) (Y.move rfl) ?_
            refine Ops.y (v := .bool true) (Y.dec_t (Y.eqi rfl rfl) (c1)) ?_
            refine Ops.y (v := .bool _) (Y.move rfl) ?_
            refine Ops.ygt rfl (v := .pointer (some ⟨_, _, none⟩)) (Y.fa fa_64_1 rfl) ?_
            refine Ops.ygt rfl (v := .int .i64 _) (Y.loadv ty_3 rfl (I.rdbox 0 rfl 2 1) rfl rfl) ?_
            refine Ops.ygt rfl (v := .bool false) (Y.dec_f (Y.nei rfl rfl) (c2)) ?_
            refine Ops.ygt rfl (v := .bool _) (Y.move rfl) ?_
            refine Ops.ygt rfl (v := .pointer (some ⟨_, _, none⟩)) (Y.fa fa_64_2 rfl) ?_
            refine Ops.ygt rfl (v := .int .i64 _) (Y.loadv ty_3 rfl (I.rdbox 0 rfl 3 1) rfl rfl) ?_
            refine Ops.ygt rfl (v := .bool false) (Y.dec_f (Y.nei rfl rfl) (c3)) ?_
            refine Ops.ygt rfl (v := .bool _) (Y.pick_f rfl rfl) ?_
            refine Ops.y (v := .bool _) (Y.pick_t rfl rfl) ?_
            refine Ops.y (v := .bool _) (Y.assign rfl) ?_
            refine Ops.nil ?_
            exact ⟨(), ⟨rfl, rfl, rfl, bF (fun h => h.2.elim c2 c3), trivial⟩, I⟩
      · refine WP.region ?_
        refine Ops.y (v := .int .i64 _) (Y.move rfl) ?_
        refine Ops.y (v := .bool false) (Y.dec_f (Y.eqi rfl rfl) (c1)) ?_
        refine Ops.y (v := .bool _) (Y.move rfl) ?_
        refine Ops.gf rfl ?_
        refine Ops.gf rfl ?_
        refine Ops.gf rfl ?_
        refine Ops.gf rfl ?_
        refine Ops.gf rfl ?_
        refine Ops.gf rfl ?_
        refine Ops.gf rfl ?_
        refine Ops.gf rfl ?_
        refine Ops.y (v := .bool _) (Y.pick_f rfl rfl) ?_
        refine Ops.y (v := .bool _) (Y.assign rfl) ?_
        refine Ops.nil ?_
        exact ⟨(), ⟨rfl, rfl, rfl, bF (fun h => c1 h.1), trivial⟩, I⟩
    rintro _ e w I
    refine WP.cond_dec rfl (fun d1 => ?_) (fun d1 => ?_)
    · refine WP.seq ?_
      refine WP.region ?_
      refine Ops.y (v := .int .i64 _) (Y.assign rfl) ?_
      refine Ops.nil ?_
      refine WP.ret ?_
      repeat (first | refine thenE_ret ?_ | refine blockE_ret ?_)
      exact retQ.mk (vs := [.int .i64 _]) rfl ⟨rfl, trivial⟩ I.ext_of (by simp only [tup, checkRule]; rw [if_neg (by simp [h1]), if_neg (by omega), if_neg (by simp [hb0]), hfr, if_neg (by simp), if_neg (by omega), if_pos d1])
    refine WP.seq ?_
    refine WP.cutL (σ := Unit) (fun _ => [(3, .pointer (some ⟨b3, 0, none⟩)), (93, .bool (decide (0 ≤ r.src ∧ ((litOf r r.src).neg = true ∨ (predOf l.xs (litOf r r.src).atom.pred).kind ≠ (predOf l.xs r.head.pred).kind))))]) (fun _ w => Inv B h7 [box b3 r.enc 64] w) ?_ ?_
    · by_cases c1 : 0 ≤ r.src
      · have hs1 : r.src.toNat < r.body.xs.length := by omega
        have EB := (hr.body.is.at hs1).le hle
        rw [litOf_get c1 (by omega)]
        have hap := checkAtom_in (bodyErr_ne.1 hb0 _ (List.getElem_mem hs1))
        have EP := (hl.at (i := (r.body.xs[r.src.toNat]'hs1).atom.pred.toNat) (by omega)).le hle
        rw [predOf_getE hap.1 hap.2]
        by_cases c2 : (r.body.xs[r.src.toNat]'hs1).neg = true
        · refine WP.region ?_
          refine Ops.y (v := .pointer (some ⟨_, _, none⟩)) (Y.fa fa_64_1 rfl) ?_
          refine Ops.y (v := .int .i64 _) (Y.loadv ty_3 rfl (I.rdbox 0 rfl 2 1) rfl rfl) ?_
          refine Ops.y (v := .bool true) (Y.dec_t (Y.gei rfl rfl) (c1)) ?_
          refine Ops.y (v := .bool _) (Y.move rfl) ?_
          refine Ops.ygt rfl (v := .pointer (some ⟨_, _, none⟩)) (Y.fa fa_64_3 rfl) ?_
          refine Ops.ygt rfl (v := .slice _ _ _) (Y.loadv ty_62 rfl (I.rdbox 0 rfl 4 1) rfl rfl) ?_
          refine Ops.ygt rfl (v := .pointer (some ⟨_, _, none⟩)) (Y.fa fa_64_1 rfl) ?_
          refine Ops.ygt rfl (v := .int .i64 _) (Y.loadv ty_3 rfl (I.rdbox 0 rfl 2 1) rfl rfl) ?_
          refine Ops.ygt rfl (v := .pointer (some ⟨_, _, none⟩)) (Y.idxEl EB Tryz.underlying62 Tryz.sizeOf68 rfl rfl c1 rfl) ?_
          refine Ops.ygt rfl (v := .pointer (some ⟨_, _, none⟩)) (Y.fa0 fa_68_0 rfl) ?_
          refine Ops.ygt rfl (v := .bool true) (Y.b (Y.loadv ty_4 rfl (I.rd (EB.rd.part 0 1)) rfl rfl) (c2)) ?_
          refine Ops.ygt rfl (v := .bool _) (Y.move rfl) ?_
          refine Ops.gf rfl ?_
          refine Ops.gf rfl ?_
          refine Ops.gf rfl ?_
          refine Ops.gf rfl ?_
          refine Ops.gf rfl ?_
          refine Ops.gf rfl ?_
          refine Ops.gf rfl ?_
          refine Ops.gf rfl ?_
          refine Ops.gf rfl ?_
          refine Ops.gf rfl ?_
          refine Ops.gf rfl ?_
          refine Ops.gf rfl ?_
          refine Ops.gf rfl ?_
          refine Ops.gf rfl ?_
          refine Ops.ygt rfl (v := .bool _) (Y.pick_t rfl rfl) ?_
          refine Ops.y (v := .bool _) (Y.pick_t rfl rfl) ?_
          refine Ops.y (v := .bool _) (Y.assign rfl) ?_
          refine Ops.nil ?_
          exact ⟨(), ⟨rfl, bT ⟨c1, .inl c2⟩, trivial⟩, I⟩
        · by_cases c3 : (l.xs[(r.body.xs[r.src.toNat]'hs1).atom.pred.toNat]'(by omega)).kind ≠ (predOf l.xs r.head.pred).kind
          · refine WP.region ?_
            refine Ops.y (v := .pointer (some ⟨_, _, none⟩)) (Y.fa fa_64_1 rfl) ?_
            refine Ops.y (v := .int .i64 _) (Y.loadv ty_3 rfl (I.rdbox 0 rfl 2 1) rfl rfl) ?_
            refine Ops.y (v := .bool true) (Y.dec_t (Y.gei rfl rfl) (c1)) ?_
            refine Ops.y (v := .bool _) (Y.move rfl) ?_
            refine Ops.ygt rfl (v := .pointer (some ⟨_, _, none⟩)) (Y.fa fa_64_3 rfl) ?_
            refine Ops.ygt rfl (v := .slice _ _ _) (Y.loadv ty_62 rfl (I.rdbox 0 rfl 4 1) rfl rfl) ?_
            refine Ops.ygt rfl (v := .pointer (some ⟨_, _, none⟩)) (Y.fa fa_64_1 rfl) ?_
            refine Ops.ygt rfl (v := .int .i64 _) (Y.loadv ty_3 rfl (I.rdbox 0 rfl 2 1) rfl rfl) ?_
            refine Ops.ygt rfl (v := .pointer (some ⟨_, _, none⟩)) (Y.idxEl EB Tryz.underlying62 Tryz.sizeOf68 rfl rfl c1 rfl) ?_
            refine Ops.ygt rfl (v := .pointer (some ⟨_, _, none⟩)) (Y.fa0 fa_68_0 rfl) ?_
            refine Ops.ygt rfl (v := .bool false) (Y.b (Y.loadv ty_4 rfl (I.rd (EB.rd.part 0 1)) rfl rfl) ((by simpa using c2))) ?_
            refine Ops.ygt rfl (v := .bool _) (Y.move rfl) ?_
            refine Ops.ygt rfl (v := .slice _ _ _) (Y.move rfl) ?_
            refine Ops.ygt rfl (v := .pointer (some ⟨_, _, none⟩)) (Y.fa fa_64_3 rfl) ?_
            refine Ops.ygt rfl (v := .slice _ _ _) (Y.loadv ty_62 rfl (I.rdbox 0 rfl 4 1) rfl rfl) ?_
            refine Ops.ygt rfl (v := .pointer (some ⟨_, _, none⟩)) (Y.fa fa_64_1 rfl) ?_
            refine Ops.ygt rfl (v := .int .i64 _) (Y.loadv ty_3 rfl (I.rdbox 0 rfl 2 1) rfl rfl) ?_
            refine Ops.ygt rfl (v := .pointer (some ⟨_, _, none⟩)) (Y.idxEl EB Tryz.underlying62 Tryz.sizeOf68 rfl rfl c1 rfl) ?_
            refine Ops.ygt rfl (v := .pointer (some ⟨_, _, none⟩)) (Y.fa fa_68_1 rfl) ?_
            refine Ops.ygt rfl (v := .pointer (some ⟨_, _, none⟩)) (Y.fa0 fa_61_0 rfl) ?_
            refine Ops.ygt rfl (v := .int .i64 _) (Y.loadv ty_3 rfl (I.rd (EB.rd.part 1 1)) rfl rfl) ?_
            refine Ops.ygt rfl (v := .pointer (some ⟨_, _, none⟩)) (Y.idxEl EP Tryz.underlying22 Tryz.sizeOf53 rfl rfl hap.1 rfl) ?_
            refine Ops.ygt rfl (v := .pointer (some ⟨_, _, none⟩)) (Y.fa fa_53_2 rfl) ?_
            refine Ops.ygt rfl (v := .int .i64 _) (Y.loadv ty_3 rfl (I.rd (EP.rd.part 2 1)) rfl rfl) ?_
            refine Ops.ygt rfl (v := .int .i64 _) (Y.move rfl) ?_
            refine Ops.ygt rfl (v := .bool true) (Y.dec_t (Y.nei rfl rfl) (c3)) ?_
            refine Ops.ygt rfl (v := .bool _) (Y.pick_f rfl rfl) ?_
            refine Ops.y (v := .bool _) (Y.pick_t rfl rfl) ?_
            refine Ops.y (v := .bool _) (Y.assign rfl) ?_
            refine Ops.nil ?_
            exact ⟨(), ⟨rfl, bT ⟨c1, .inr c3⟩, trivial⟩, I⟩
          · refine WP.region ?_
            refine Ops.y (v := .pointer (some ⟨_, _, none⟩)) (Y.fa fa_64_1 rfl) ?_
            refine Ops.y (v := .int .i64 _) (Y.loadv ty_3 rfl (I.rdbox 0 rfl 2 1) rfl rfl) ?_
            refine Ops.y (v := .bool true) (Y.dec_t (Y.gei rfl rfl) (c1)) ?_
            refine Ops.y (v := .bool _) (Y.move rfl) ?_
            refine Ops.ygt rfl (v := .pointer (some ⟨_, _, none⟩)) (Y.fa fa_64_3 rfl) ?_
            refine Ops.ygt rfl (v := .slice _ _ _) (Y.loadv ty_62 rfl (I.rdbox 0 rfl 4 1) rfl rfl) ?_
            refine Ops.ygt rfl (v := .pointer (some ⟨_, _, none⟩)) (Y.fa fa_64_1 rfl) ?_
            refine Ops.ygt rfl (v := .int .i64 _) (Y.loadv ty_3 rfl (I.rdbox 0 rfl 2 1) rfl rfl) ?_
            refine Ops.ygt rfl (v := .pointer (some ⟨_, _, none⟩)) (Y.idxEl EB Tryz.underlying62 Tryz.sizeOf68 rfl rfl c1 rfl) ?_
            refine Ops.ygt rfl (v := .pointer (some ⟨_, _, none⟩)) (Y.fa0 fa_68_0 rfl) ?_
            refine Ops.ygt rfl (v := .bool false) (Y.b (Y.loadv ty_4 rfl (I.rd (EB.rd.part 0 1)) rfl rfl) ((by simpa using c2))) ?_
            refine Ops.ygt rfl (v := .bool _) (Y.move rfl) ?_
            refine Ops.ygt rfl (v := .slice _ _ _) (Y.move rfl) ?_
            refine Ops.ygt rfl (v := .pointer (some ⟨_, _, none⟩)) (Y.fa fa_64_3 rfl) ?_
            refine Ops.ygt rfl (v := .slice _ _ _) (Y.loadv ty_62 rfl (I.rdbox 0 rfl 4 1) rfl rfl) ?_
            refine Ops.ygt rfl (v := .pointer (some ⟨_, _, none⟩)) (Y.fa fa_64_1 rfl) ?_
            refine Ops.ygt rfl (v := .int .i64 _) (Y.loadv ty_3 rfl (I.rdbox 0 rfl 2 1) rfl rfl) ?_
            refine Ops.ygt rfl (v := .pointer (some ⟨_, _, none⟩)) (Y.idxEl EB Tryz.underlying62 Tryz.sizeOf68 rfl rfl c1 rfl) ?_
            refine Ops.ygt rfl (v := .pointer (some ⟨_, _, none⟩)) (Y.fa fa_68_1 rfl) ?_
            refine Ops.ygt rfl (v := .pointer (some ⟨_, _, none⟩)) (Y.fa0 fa_61_0 rfl) ?_
            refine Ops.ygt rfl (v := .int .i64 _) (Y.loadv ty_3 rfl (I.rd (EB.rd.part 1 1)) rfl rfl) ?_
            refine Ops.ygt rfl (v := .pointer (some ⟨_, _, none⟩)) (Y.idxEl EP Tryz.underlying22 Tryz.sizeOf53 rfl rfl hap.1 rfl) ?_
            refine Ops.ygt rfl (v := .pointer (some ⟨_, _, none⟩)) (Y.fa fa_53_2 rfl) ?_
            refine Ops.ygt rfl (v := .int .i64 _) (Y.loadv ty_3 rfl (I.rd (EP.rd.part 2 1)) rfl rfl) ?_
            refine Ops.ygt rfl (v := .int .i64 _) (Y.move rfl) ?_
            refine Ops.ygt rfl (v := .bool false) (Y.dec_f (Y.nei rfl rfl) (c3)) ?_
            refine Ops.ygt rfl (v := .bool _) (Y.pick_f rfl rfl) ?_
            refine Ops.y (v := .bool _) (Y.pick_t rfl rfl) ?_
            refine Ops.y (v := .bool _) (Y.assign rfl) ?_
            refine Ops.nil ?_
            exact ⟨(), ⟨rfl, bF (fun h => h.2.elim c2 c3), trivial⟩, I⟩
      · refine WP.region ?_
        refine Ops.y (v := .pointer (some ⟨_, _, none⟩)) (Y.fa fa_64_1 rfl) ?_
        refine Ops.y (v := .int .i64 _) (Y.loadv ty_3 rfl (I.rdbox 0 rfl 2 1) rfl rfl) ?_
        refine Ops.y (v := .bool false) (Y.dec_f (Y.gei rfl rfl) (c1)) ?_
        refine Ops.y (v := .bool _) (Y.move rfl) ?_
        refine Ops.gf rfl ?_
        refine Ops.gf rfl ?_
        refine Ops.gf rfl ?_
        refine Ops.gf rfl ?_
        refine Ops.gf rfl ?_
        refine Ops.gf rfl ?_
        refine Ops.gf rfl ?_
        refine Ops.gf rfl ?_
        refine Ops.gf rfl ?_
        refine Ops.gf rfl ?_
        refine Ops.gf rfl ?_
        refine Ops.gf rfl ?_
        refine Ops.gf rfl ?_
        refine Ops.gf rfl ?_
        refine Ops.gf rfl ?_
        refine Ops.gf rfl ?_
        refine Ops.gf rfl ?_
        refine Ops.gf rfl ?_
        refine Ops.gf rfl ?_
        refine Ops.gf rfl ?_
        refine Ops.gf rfl ?_
        refine Ops.gf rfl ?_
        refine Ops.gf rfl ?_
        refine Ops.y (v := .bool _) (Y.pick_f rfl rfl) ?_
        refine Ops.y (v := .bool _) (Y.assign rfl) ?_
        refine Ops.nil ?_
        exact ⟨(), ⟨rfl, bF (fun h => c1 h.1), trivial⟩, I⟩
    rintro _ e w I
    refine WP.cond_dec rfl (fun d2 => ?_) (fun d2 => ?_)
    · refine WP.seq ?_
      refine WP.region ?_
      refine Ops.y (v := .int .i64 _) (Y.assign rfl) ?_
      refine Ops.nil ?_
      refine WP.ret ?_
      repeat (first | refine thenE_ret ?_ | refine blockE_ret ?_)
      exact retQ.mk (vs := [.int .i64 _]) rfl ⟨rfl, trivial⟩ I.ext_of (by simp only [tup, checkRule]; rw [if_neg (by simp [h1]), if_neg (by omega), if_neg (by simp [hb0]), hfr, if_neg (by simp), if_neg (by omega), if_neg d1, if_pos d2])
    refine WP.seq ?_
    by_cases o0 : r.n < 0
    · refine WP.region ?_
      refine Ops.y (v := .pointer (some ⟨_, _, none⟩)) (Y.fa fa_64_2 rfl) ?_
      refine Ops.y (v := .int .i64 _) (Y.loadv ty_3 rfl (I.rdbox 0 rfl 3 1) rfl rfl) ?_
      refine Ops.y (v := .bool true) (Y.dec_t (Y.lti rfl rfl) (o0)) ?_
      refine Ops.y (v := .bool _) (Y.move rfl) ?_
      refine Ops.gf rfl ?_
      refine Ops.gf rfl ?_
      refine Ops.gf rfl ?_
      refine Ops.y (v := .bool _) (Y.pick_t rfl rfl) ?_
      refine Ops.y (v := .bool _) (Y.assign rfl) ?_
      refine Ops.nil ?_
      refine WP.cond_t rfl ?_
      refine WP.seq ?_
      refine WP.region ?_
      refine Ops.y (v := .int .i64 _) (Y.assign rfl) ?_
      refine Ops.nil ?_
      refine WP.ret ?_
      repeat (first | refine thenE_ret ?_ | refine blockE_ret ?_)
      exact retQ.mk (vs := [.int .i64 _]) rfl ⟨rfl, trivial⟩ I.ext_of (by simp only [tup, checkRule]; rw [if_neg (by simp [h1]), if_neg (by omega), if_neg (by simp [hb0]), hfr, if_neg (by simp), if_neg (by omega), if_neg d1, if_neg d2, if_pos (by omega)])
    by_cases o1 : 15 < r.n
    · refine WP.region ?_
      refine Ops.y (v := .pointer (some ⟨_, _, none⟩)) (Y.fa fa_64_2 rfl) ?_
      refine Ops.y (v := .int .i64 _) (Y.loadv ty_3 rfl (I.rdbox 0 rfl 3 1) rfl rfl) ?_
      refine Ops.y (v := .bool false) (Y.dec_f (Y.lti rfl rfl) (o0)) ?_
      refine Ops.y (v := .bool _) (Y.move rfl) ?_
      refine Ops.ygt rfl (v := .pointer (some ⟨_, _, none⟩)) (Y.fa fa_64_2 rfl) ?_
      refine Ops.ygt rfl (v := .int .i64 _) (Y.loadv ty_3 rfl (I.rdbox 0 rfl 3 1) rfl rfl) ?_
      refine Ops.ygt rfl (v := .bool true) (Y.dec_t (Y.gti rfl rfl) (o1)) ?_
      refine Ops.y (v := .bool _) (Y.pick_f rfl rfl) ?_
      refine Ops.y (v := .bool _) (Y.assign rfl) ?_
      refine Ops.nil ?_
      refine WP.cond_t rfl ?_
      refine WP.seq ?_
      refine WP.region ?_
      refine Ops.y (v := .int .i64 _) (Y.assign rfl) ?_
      refine Ops.nil ?_
      refine WP.ret ?_
      repeat (first | refine thenE_ret ?_ | refine blockE_ret ?_)
      exact retQ.mk (vs := [.int .i64 _]) rfl ⟨rfl, trivial⟩ I.ext_of (by simp only [tup, checkRule]; rw [if_neg (by simp [h1]), if_neg (by omega), if_neg (by simp [hb0]), hfr, if_neg (by simp), if_neg (by omega), if_neg d1, if_neg d2, if_pos (by omega)])
    refine WP.region ?_
    refine Ops.y (v := .pointer (some ⟨_, _, none⟩)) (Y.fa fa_64_2 rfl) ?_
    refine Ops.y (v := .int .i64 _) (Y.loadv ty_3 rfl (I.rdbox 0 rfl 3 1) rfl rfl) ?_
    refine Ops.y (v := .bool false) (Y.dec_f (Y.lti rfl rfl) (o0)) ?_
    refine Ops.y (v := .bool _) (Y.move rfl) ?_
    refine Ops.ygt rfl (v := .pointer (some ⟨_, _, none⟩)) (Y.fa fa_64_2 rfl) ?_
    refine Ops.ygt rfl (v := .int .i64 _) (Y.loadv ty_3 rfl (I.rdbox 0 rfl 3 1) rfl rfl) ?_
    refine Ops.ygt rfl (v := .bool false) (Y.dec_f (Y.gti rfl rfl) (o1)) ?_
    refine Ops.y (v := .bool _) (Y.pick_f rfl rfl) ?_
    refine Ops.y (v := .bool _) (Y.assign rfl) ?_
    refine Ops.nil ?_
    refine WP.cond_f rfl ?_
    refine WP.skip ?_
    refine WP.seq ?_
    refine WP.region ?_
    refine Ops.y (v := .int .i64 _) (Y.assign rfl) ?_
    refine Ops.nil ?_
    refine WP.ret ?_
    repeat (first | refine thenE_ret ?_ | refine blockE_ret ?_)
    exact retQ.mk (vs := [.int .i64 _]) rfl ⟨rfl, trivial⟩ I.ext_of (by simp only [tup, checkRule]; rw [if_neg (by simp [h1]), if_neg (by omega), if_neg (by simp [hb0]), hfr, if_neg (by simp), if_neg (by omega), if_neg d1, if_neg d2, if_neg (by omega)])
  · intro q w hq hnd I
    refine Ops.y (v := .bool _) (Y.extract rfl rfl) ?_
    refine Ops.nil ?_
    refine WP.seq ?_
    refine WP.cond_t rfl ?_
    obtain ⟨v, x, hvx, hkq, hvq⟩ := ents_of hi7 hq
    refine WP.skip ?_
    refine WP.block ?_
    refine WP.seq ?_
    refine WP.region ?_
    refine Ops.y (v := .tuple #[.int .i64 v, .int .i64 x]) (hkq ▸ hvq ▸ Y.entry I 0 rfl rfl hm7 hi7 hq) ?_
    refine Ops.y (v := .int .i64 _) (Y.extract rfl rfl) ?_
    refine Ops.y (v := .int .i64 _) (Y.assign rfl) ?_
    refine Ops.nil ?_
    refine WP.seq ?_
    refine WP.region ?_
    refine Ops.y (v := .map _) (Y.move rfl) ?_
    refine Ops.y (v := .int .i64 _) (Y.move rfl) ?_
    refine Ops.y (v := .int .i64 _) (Y.lookup I Tryz.underlying157 Tryz.underlying3 Tryz.zeroValue3 1 rfl rfl rfl) ?_
    refine Ops.y (v := .bool (decide _)) (Y.eqi rfl rfl) ?_
    refine Ops.nil ?_
    refine WP.cond_dec rfl (fun hz => ?_) (fun hz => ?_)
    · refine WP.seq ?_
      refine WP.region ?_
      refine Ops.y (v := .int .i64 _) (Y.assign rfl) ?_
      refine Ops.nil ?_
      have hz' : cntA (poss r.body.xs) v = 0 := by rw [hc.get v] at hz; omega
      have hnz : cntA (negs r.body.xs ++ [r.head]) v ≠ 0 := fun h0 => mem_ilook hvx (by rw [hcn v, if_pos h0])
      refine WP.ret ?_
      repeat (first | refine thenE_ret ?_ | refine blockE_ret ?_)
      exact retQ.mk (vs := [.int .i64 _]) rfl ⟨rfl, trivial⟩ I.ext_of (by simp only [tup, checkRule]; rw [if_neg (by simp [h1]), if_neg (by omega), if_neg (by simp [hb0]), if_pos (free_any (freeVar_iff.2 ⟨hnz, hz'⟩) h1 hb0)])
    refine WP.skip ?_
    refine ⟨done ++ [q.born], ⟨⟨rfl, rfl, rfl, rfl, trivial⟩, I, fun q' hq' hb' v' hv' => ?_⟩, filter_shorter hq (by simp) (by simpa using hnd) (fun y _ hy => by simp at hy ⊢; exact hy.1)⟩
    rcases List.mem_append.1 hb' with h8 | h8
    · exact hd q' hq' h8 v' hv'
    · have : q' = q := nodup_inj hi7.nodup hq' hq (List.mem_singleton.1 h8)
      subst this
      rw [hkq] at hv'
      cases hv'
      rw [hc.get v] at hz
      omega
end Go.TF
end
section
/- prog.Check. -/
namespace Go.TF
open Go Go.RowKit Go.Proofs
set_option maxRecDepth 20000

theorem Check2_ok (B : Base) (hB : B.ok) (x : Prd) (hx : x.name.size ≤ 140737488355328) : Fn Tryz.prog 56 [x.val] B (fun v _ => v = .bool !(isName x.name)) := by
  refine Fn.of Tryz.func56 rfl Tryz.ntmps56 (by kernel_rfl) (by simp) ?_
  intro e
  have I := Inv.start hB
  refine WP.seq ?_
  refine WP.region ?_
  refine Ops.go (O.box (v := .agg #[_, _, _]) I rfl rfl ?_)
  intro b1 w I
  refine Ops.y (v := .bool _) (Y.assign rfl) ?_
  refine Ops.nil ?_
  refine WP.seq ?_
  refine WP.region ?_
  refine Ops.y (v := .pointer (some ⟨_, _, none⟩)) (Y.fa0 fa_53_0 rfl) ?_
  refine Ops.y (v := .string _) (Y.loadv ty_9 rfl (I.rdbox 0 rfl 0 1) rfl rfl) ?_
  refine Ops.go (O.callv I Tryz.call57 (Name_ok _ I.base_ok x.name hx) rfl ?_)
  intro w I
  refine Ops.y (v := .bool _) (Y.not rfl) ?_
  refine Ops.y (v := .bool _) (Y.assign rfl) ?_
  refine Ops.nil ?_
  refine WP.ret ?_
  repeat (first | refine thenE_ret ?_ | refine blockE_ret ?_)
  exact retQ.mk (vs := [.bool _]) rfl ⟨rfl, trivial⟩ I.ext_of (rfl)
theorem Check4_ok (B : Base) (hB : B.ok) (x : Prd) : Fn Tryz.prog 59 [x.val] B (fun v _ => v = .bool (badArity x)) := by
  by_cases h : x.arity < 0
  · refine Fn.of Tryz.func59 rfl Tryz.ntmps59 (by kernel_rfl) (by simp) ?_
    intro e
    have I := Inv.start hB
    refine WP.seq ?_
    refine WP.region ?_
    refine Ops.go (O.box (v := .agg #[_, _, _]) I rfl rfl ?_)
    intro b1 w I
    refine Ops.y (v := .bool _) (Y.assign rfl) ?_
    refine Ops.nil ?_
    refine WP.seq ?_
    refine WP.region ?_
    refine Ops.y (v := .pointer (some ⟨_, _, none⟩)) (Y.fa fa_53_1 rfl) ?_
    refine Ops.y (v := .int .i64 _) (Y.loadv ty_3 rfl (I.rdbox 0 rfl 1 1) rfl rfl) ?_
    refine Ops.y (v := .bool true) (Y.dec_t (Y.lti rfl rfl) (h)) ?_
    refine Ops.y (v := .bool _) (Y.move rfl) ?_
    refine Ops.gf rfl ?_
    refine Ops.gf rfl ?_
    refine Ops.gf rfl ?_
    refine Ops.y (v := .bool _) (Y.pick_t rfl rfl) ?_
    refine Ops.y (v := .bool _) (Y.assign rfl) ?_
    refine Ops.nil ?_
    refine WP.ret ?_
    repeat (first | refine thenE_ret ?_ | refine blockE_ret ?_)
    exact retQ.mk (vs := [.bool _]) rfl ⟨rfl, trivial⟩ I.ext_of (by simp only [tup, badArity]; rw [decide_eq_true (Or.inl h)])
  · refine Fn.of Tryz.func59 rfl Tryz.ntmps59 (by kernel_rfl) (by simp) ?_
    intro e
    have I := Inv.start hB
    refine WP.seq ?_
    refine WP.region ?_
    refine Ops.go (O.box (v := .agg #[_, _, _]) I rfl rfl ?_)
    intro b1 w I
    refine Ops.y (v := .bool _) (Y.assign rfl) ?_
    refine Ops.nil ?_
    refine WP.seq ?_
    refine WP.region ?_
    refine Ops.y (v := .pointer (some ⟨_, _, none⟩)) (Y.fa fa_53_1 rfl) ?_
    refine Ops.y (v := .int .i64 _) (Y.loadv ty_3 rfl (I.rdbox 0 rfl 1 1) rfl rfl) ?_
    refine Ops.y (v := .bool false) (Y.dec_f (Y.lti rfl rfl) (h)) ?_
    refine Ops.y (v := .bool _) (Y.move rfl) ?_
    refine Ops.ygt rfl (v := .pointer (some ⟨_, _, none⟩)) (Y.fa fa_53_1 rfl) ?_
    refine Ops.ygt rfl (v := .int .i64 _) (Y.loadv ty_3 rfl (I.rdbox 0 rfl 1 1) rfl rfl) ?_
    refine Ops.ygt rfl (v := .bool (decide _)) (Y.gti rfl rfl) ?_
    refine Ops.y (v := .bool _) (Y.pick_f rfl rfl) ?_
    refine Ops.y (v := .bool _) (Y.assign rfl) ?_
    refine Ops.nil ?_
    refine WP.ret ?_
    repeat (first | refine thenE_ret ?_ | refine blockE_ret ?_)
    exact retQ.mk (vs := [.bool _]) rfl ⟨rfl, trivial⟩ I.ext_of (by simp only [tup, badArity]; congr 1; rw [decide_eq_decide]; omega)
theorem Check5_ok (B : Base) (hB : B.ok) (x : Prd) : Fn Tryz.prog 60 [x.val] B (fun v _ => v = .bool (badKind x)) := by
  by_cases h : x.kind < 0
  · refine Fn.of Tryz.func60 rfl Tryz.ntmps60 (by kernel_rfl) (by simp) ?_
    intro e
    have I := Inv.start hB
    refine WP.seq ?_
    refine WP.region ?_
    refine Ops.go (O.box (v := .agg #[_, _, _]) I rfl rfl ?_)
    intro b1 w I
    refine Ops.y (v := .bool _) (Y.assign rfl) ?_
    refine Ops.nil ?_
    refine WP.seq ?_
    refine WP.region ?_
    refine Ops.y (v := .pointer (some ⟨_, _, none⟩)) (Y.fa fa_53_2 rfl) ?_
    refine Ops.y (v := .int .i64 _) (Y.loadv ty_3 rfl (I.rdbox 0 rfl 2 1) rfl rfl) ?_
    refine Ops.y (v := .bool true) (Y.dec_t (Y.lti rfl rfl) (h)) ?_
    refine Ops.y (v := .bool _) (Y.move rfl) ?_
    refine Ops.gf rfl ?_
    refine Ops.gf rfl ?_
    refine Ops.gf rfl ?_
    refine Ops.y (v := .bool _) (Y.pick_t rfl rfl) ?_
    refine Ops.y (v := .bool _) (Y.assign rfl) ?_
    refine Ops.nil ?_
    refine WP.ret ?_
    repeat (first | refine thenE_ret ?_ | refine blockE_ret ?_)
    exact retQ.mk (vs := [.bool _]) rfl ⟨rfl, trivial⟩ I.ext_of (by simp only [tup, badKind]; rw [decide_eq_true (Or.inl h)])
  · refine Fn.of Tryz.func60 rfl Tryz.ntmps60 (by kernel_rfl) (by simp) ?_
    intro e
    have I := Inv.start hB
    refine WP.seq ?_
    refine WP.region ?_
    refine Ops.go (O.box (v := .agg #[_, _, _]) I rfl rfl ?_)
    intro b1 w I
    refine Ops.y (v := .bool _) (Y.assign rfl) ?_
    refine Ops.nil ?_
    refine WP.seq ?_
    refine WP.region ?_
    refine Ops.y (v := .pointer (some ⟨_, _, none⟩)) (Y.fa fa_53_2 rfl) ?_
    refine Ops.y (v := .int .i64 _) (Y.loadv ty_3 rfl (I.rdbox 0 rfl 2 1) rfl rfl) ?_
    refine Ops.y (v := .bool false) (Y.dec_f (Y.lti rfl rfl) (h)) ?_
    refine Ops.y (v := .bool _) (Y.move rfl) ?_
    refine Ops.ygt rfl (v := .pointer (some ⟨_, _, none⟩)) (Y.fa fa_53_2 rfl) ?_
    refine Ops.ygt rfl (v := .int .i64 _) (Y.loadv ty_3 rfl (I.rdbox 0 rfl 2 1) rfl rfl) ?_
    refine Ops.ygt rfl (v := .bool (decide _)) (Y.gti rfl rfl) ?_
    refine Ops.y (v := .bool _) (Y.pick_f rfl rfl) ?_
    refine Ops.y (v := .bool _) (Y.assign rfl) ?_
    refine Ops.nil ?_
    refine WP.ret ?_
    repeat (first | refine thenE_ret ?_ | refine blockE_ret ?_)
    exact retQ.mk (vs := [.bool _]) rfl ⟨rfl, trivial⟩ I.ext_of (by simp only [tup, badKind]; congr 1; rw [decide_eq_decide]; omega)
theorem PChk1_ok (B : Base) (hB : B.ok) (p : Prg) (b : Nat) (hb : PBox B.h b p) (hl : Prds p.preds B.h) (f : FuncId) (ent : Enters Tryz.prog f) (fs cs : List Value) (q : Prd → Bool) (hq : PredFn Tryz.prog f fs cs B.h Prd.val p.preds.xs q) :
    Fn Tryz.prog 54 [.func (.func f) fs.toArray cs.toArray, .pointer (some ⟨b, 0, none⟩)] B (fun v _ => v = .bool (p.preds.xs.any q)) := by
  refine Fn.of Tryz.func54 rfl Tryz.ntmps54 (by kernel_rfl) (by simp) ?_
  intro e
  have I := Inv.start hB
  refine WP.seq ?_
  refine WP.region ?_
  refine Ops.y (v := .bool _) (Y.assign rfl) ?_
  refine Ops.nil ?_
  refine WP.seq ?_
  refine WP.region ?_
  refine Ops.y (v := .pointer (some ⟨_, _, none⟩)) (Y.fa0 fa_25_0 rfl) ?_
  refine Ops.y (v := .slice _ _ _) (Y.loadv ty_22 rfl (I.rd (rdHb hb 0 1)) rfl rfl) ?_
  refine Ops.y (v := .func _ _ _) (Y.move rfl) ?_
  refine Ops.go (O.callv I Tryz.call55 (ContainsFuncPrd_ok _ I.base_ok p.preds hl f ent fs cs q hq) rfl ?_)
  intro w I
  refine Ops.y (v := .bool _) (Y.assign rfl) ?_
  refine Ops.nil ?_
  refine WP.ret ?_
  repeat (first | refine thenE_ret ?_ | refine blockE_ret ?_)
  exact retQ.mk (vs := [.bool _]) rfl ⟨rfl, trivial⟩ I.ext_of (rfl)

/-! ### A predicate that keeps something -/
theorem IndexFuncPrd_S (l : Sl Prd) (h0 : Heap) (hl : l.Is 3 Prd.enc h0) (f : FuncId) (ent : Enters Tryz.prog f) (fs cs : List Value) (J : Heap → Nat → World → Prop) (q : Nat → Bool)
    (hok : ∀ hg k W, J hg k W → Base.ok ⟨W, hg⟩)
    (hp : ∀ hg k x W, h0.le hg → l.xs[k]? = some x → J hg k W → Calls Tryz.prog f (fs ++ [x.val] ++ cs).toArray W fun ed W' => ed = .returned (.bool (q k)) ∧ ∃ hg', hg.le hg' ∧ J hg' (k + 1) W') (hg : Heap) (W : World) (hle : h0.le hg) (j0 : J hg 0 W) :
    Calls Tryz.prog 114 [l.val, .func (.func f) fs.toArray cs.toArray].toArray W (fun ed W' => ∃ r : Int, ed = .returned (.int .i64 r) ∧ decide (0 ≤ r) = (List.range l.xs.length).any q ∧ ∃ hg' k, hg.le hg' ∧ J hg' k W') := by
  have hsm := hl.small
  refine Calls.ofWP (args := [l.val, .func (.func f) fs.toArray cs.toArray]) Tryz.func114 rfl Tryz.ntmps114 (by kernel_rfl) (by simp) ?_
  intro e
  refine WP.seq ?_
  refine WP.region ?_
  refine Ops.y (v := .int .i64 _) (Y.assign rfl) ?_
  refine Ops.nil ?_
  refine WP.seq ?_
  refine WP.seq ?_
  refine WP.region ?_
  refine Ops.y (v := .slice _ _ _) (Y.move rfl) ?_
  refine Ops.y (v := .int .i64 _) (Y.lens Tryz.underlying22 rfl) ?_
  refine Ops.y (v := .int .i64 _) (Y.move rfl) ?_
  refine Ops.nil ?_
  refine WP.block ?_
  refine WP.loopE (σ := Nat) (fun k => [(0, l.val), (1, .func (.func f) fs.toArray cs.toArray), (7, .int .i64 l.xs.length), (8, .int .i64 k)]) (fun k w => k ≤ l.xs.length ∧ (∀ j, j < k → q j = false) ∧ ∃ h1, hg.le h1 ∧ J h1 k w) (fun k => l.xs.length - k)
    ⟨0, ⟨rfl, rfl, rfl, rfl, trivial⟩, Nat.zero_le _, fun j hj => by omega, hg, Heap.le.refl _, j0⟩ ?_
  rintro k e w ⟨hk, hn, h1, gl1, j1⟩
  have I := Inv.start (hok _ _ _ j1)
  refine WP.seq ?_
  refine WP.region ?_
  refine Ops.y (v := .bool (decide _)) (Y.lti rfl rfl) ?_
  refine Ops.nil ?_
  refine WP.seq ?_
  refine WP.cond_dec rfl (fun h => ?_) (fun h => ?_)
  · have hk' : k < l.xs.length := by omega
    have E1 := (hl.le (hle.trans gl1)).at hk'
    refine WP.skip ?_
    refine WP.seq ?_
    refine WP.block ?_
    refine WP.seq ?_
    refine WP.region ?_
    refine Ops.y (v := .int .i64 _) (Y.move rfl) ?_
    refine Ops.y (v := .int .i64 _) (Y.assign rfl) ?_
    refine Ops.nil ?_
    refine WP.seq ?_
    refine WP.region ?_
    refine Ops.y (v := .func _ _ _) (Y.move rfl) ?_
    refine Ops.y (v := .slice _ _ _) (Y.move rfl) ?_
    refine Ops.y (v := .int .i64 _) (Y.move rfl) ?_
    refine Ops.y (v := .pointer (some ⟨_, _, none⟩)) (Y.idxEl E1 Tryz.underlying22 Tryz.sizeOf53 rfl rfl (Int.natCast_nonneg _) rfl) ?_
    refine Ops.y (v := .agg #[_, _, _]) (Y.loadv ty_53 rfl (I.rd (E1.rd.part 0 3)) rfl rfl) ?_
    refine Ops.go (O.callcs ent rfl (hp h1 k _ _ (hle.trans gl1) (List.getElem?_eq_getElem hk') j1) rfl ?_)
    rintro ed w ⟨rfl, h2, gl2, j2⟩
    refine ⟨_, rfl, ?_⟩
    refine Ops.nil ?_
    refine WP.cond rfl (fun hb => ?_) (fun hb => ?_)
    · refine WP.seq ?_
      refine WP.region ?_
      refine Ops.y (v := .int .i64 _) (Y.move rfl) ?_
      refine Ops.y (v := .int .i64 _) (Y.assign rfl) ?_
      refine Ops.nil ?_
      refine WP.ret ?_
      repeat (first | refine thenE_ret ?_ | refine blockE_ret ?_)
      exact ⟨.inl rfl, [.int .i64 k], ⟨rfl, trivial⟩, k, rfl, by rw [decide_eq_true (Int.natCast_nonneg _)]; exact (List.any_eq_true.2 ⟨k, List.mem_range.2 hk', hb⟩).symm, h2, k + 1, gl1.trans gl2, j2⟩
    refine WP.skip ?_
    refine WP.region ?_
    refine Ops.y (v := .int .i64 _) (Y.addi rfl rfl ⟨by omega, by omega⟩) ?_
    refine Ops.y (v := .int .i64 _) (Y.move rfl) ?_
    refine Ops.nil ?_
    exact ⟨k + 1, ⟨⟨rfl, rfl, rfl, rfl, trivial⟩, hk', fun j hj => by
      rcases Nat.lt_succ_iff_lt_or_eq.1 hj with h' | rfl
      · exact hn j h'
      · exact hb, h2, gl1.trans gl2, j2⟩, by omega⟩
  refine WP.exit ?_
  refine WP.seq ?_
  refine WP.region ?_
  refine Ops.y (v := .int .i64 _) (Y.assign rfl) ?_
  refine Ops.nil ?_
  refine WP.ret ?_
  repeat (first | refine thenE_ret ?_ | refine blockE_ret ?_)
  exact ⟨.inl rfl, [.int .i64 (-1)], ⟨rfl, trivial⟩, -1, rfl, by
    rw [decide_eq_false (by omega)]
    symm
    rw [List.any_eq_false]
    intro j hj
    rw [hn j (by have := List.mem_range.1 hj; omega)]; decide, h1, k, gl1, j1⟩
theorem ContainsFuncPrd_S (l : Sl Prd) (h0 : Heap) (hl : l.Is 3 Prd.enc h0) (f : FuncId) (ent : Enters Tryz.prog f) (fs cs : List Value) (J : Heap → Nat → World → Prop) (q : Nat → Bool)
    (hok : ∀ hg k W, J hg k W → Base.ok ⟨W, hg⟩)
    (hp : ∀ hg k x W, h0.le hg → l.xs[k]? = some x → J hg k W → Calls Tryz.prog f (fs ++ [x.val] ++ cs).toArray W fun ed W' => ed = .returned (.bool (q k)) ∧ ∃ hg', hg.le hg' ∧ J hg' (k + 1) W') (hg : Heap) (W : World) (hle : h0.le hg) (j0 : J hg 0 W) :
    Calls Tryz.prog 55 [l.val, .func (.func f) fs.toArray cs.toArray].toArray W (fun ed W' => ed = .returned (.bool ((List.range l.xs.length).any q)) ∧ ∃ hg' k, hg.le hg' ∧ J hg' k W') := by
  refine Calls.ofWP (args := [l.val, .func (.func f) fs.toArray cs.toArray]) Tryz.func55 rfl Tryz.ntmps55 (by kernel_rfl) (by simp) ?_
  intro e
  have I := Inv.start (hok _ _ _ j0)
  refine WP.seq ?_
  refine WP.region ?_
  refine Ops.y (v := .bool _) (Y.assign rfl) ?_
  refine Ops.nil ?_
  refine WP.seq ?_
  refine WP.region ?_
  refine Ops.y (v := .slice _ _ _) (Y.move rfl) ?_
  refine Ops.y (v := .func _ _ _) (Y.move rfl) ?_
  refine Ops.go (O.calls Tryz.call114 (IndexFuncPrd_S l h0 hl f ent fs cs J q hok hp hg _ hle j0) rfl ?_)
  rintro ed w ⟨r, rfl, hr, h2, k, gl2, j2⟩
  refine ⟨_, rfl, ?_⟩
  refine Ops.y (v := .bool (decide _)) (Y.gei rfl rfl) ?_
  refine Ops.y (v := .bool _) (Y.assign rfl) ?_
  refine Ops.nil ?_
  refine WP.ret ?_
  repeat (first | refine thenE_ret ?_ | refine blockE_ret ?_)
  exact ⟨.inl rfl, [.bool _], ⟨rfl, trivial⟩, by rw [← hr]; rfl, h2, k, gl2, j2⟩
theorem Check1_S (p : Prg) (b : Nat) (h0 : Heap) (hb : PBox h0 b p) (hl : Prds p.preds h0) (f : FuncId) (ent : Enters Tryz.prog f) (fs cs : List Value) (J : Heap → Nat → World → Prop) (q : Nat → Bool)
    (hok : ∀ hg k W, J hg k W → Base.ok ⟨W, hg⟩)
    (hp : ∀ hg k x W, h0.le hg → p.preds.xs[k]? = some x → J hg k W → Calls Tryz.prog f (fs ++ [x.val] ++ cs).toArray W fun ed W' => ed = .returned (.bool (q k)) ∧ ∃ hg', hg.le hg' ∧ J hg' (k + 1) W') (hg : Heap) (W : World) (hle : h0.le hg) (j0 : J hg 0 W) :
    Calls Tryz.prog 54 [.func (.func f) fs.toArray cs.toArray, .pointer (some ⟨b, 0, none⟩)].toArray W (fun ed W' => ed = .returned (.bool ((List.range p.preds.xs.length).any q)) ∧ ∃ hg' k, hg.le hg' ∧ J hg' k W') := by
  refine Calls.ofWP (args := [.func (.func f) fs.toArray cs.toArray, .pointer (some ⟨b, 0, none⟩)]) Tryz.func54 rfl Tryz.ntmps54 (by kernel_rfl) (by simp) ?_
  intro e
  have I := Inv.start (hok _ _ _ j0)
  refine WP.seq ?_
  refine WP.region ?_
  refine Ops.y (v := .bool _) (Y.assign rfl) ?_
  refine Ops.nil ?_
  refine WP.seq ?_
  refine WP.region ?_
  refine Ops.y (v := .pointer (some ⟨_, _, none⟩)) (Y.fa0 fa_25_0 rfl) ?_
  refine Ops.y (v := .slice _ _ _) (Y.loadv ty_22 rfl (I.rd ((rdHb hb 0 1).le hle)) rfl rfl) ?_
  refine Ops.y (v := .func _ _ _) (Y.move rfl) ?_
  refine Ops.go (O.calls Tryz.call55 (ContainsFuncPrd_S p.preds h0 hl f ent fs cs J q hok hp hg _ hle j0) rfl ?_)
  rintro ed w ⟨rfl, h2, k, gl2, j2⟩
  refine ⟨_, rfl, ?_⟩
  refine Ops.y (v := .bool _) (Y.assign rfl) ?_
  refine Ops.nil ?_
  refine WP.ret ?_
  repeat (first | refine thenE_ret ?_ | refine blockE_ret ?_)
  exact ⟨.inl rfl, [.bool _], ⟨rfl, trivial⟩, rfl, h2, k, gl2, j2⟩
theorem Check3_S (B : Base) (h : Heap) (b4 bm : Nat) (es : List (ByteArray × Int)) (W : World) (I : Inv B h [box b4 [.map (some bm)] 107, smap bm es] W) (x : Prd) (hr : I64 ((slook es x.name).getD 0 + 1)) :
    Calls Tryz.prog 58 [x.val, .pointer (some ⟨b4, 0, none⟩)].toArray W (fun ed W' => ed = .returned (.bool (decide (1 < (slook es x.name).getD 0 + 1))) ∧ Inv B h [box b4 [.map (some bm)] 107, smap bm (sset es x.name ((slook es x.name).getD 0 + 1))] W') := by
  refine Calls.ofWP (args := [x.val, .pointer (some ⟨b4, 0, none⟩)]) Tryz.func58 rfl Tryz.ntmps58 (by kernel_rfl) (by simp) ?_
  intro e
  refine WP.seq ?_
  refine WP.region ?_
  refine Ops.go (O.box (v := .agg #[_, _, _]) I rfl rfl ?_)
  intro b2 w I
  refine Ops.y (v := .bool _) (Y.assign rfl) ?_
  refine Ops.nil ?_
  refine WP.seq ?_
  refine WP.region ?_
  refine Ops.y (v := .map _) (Y.loadv ty_107 rfl (I.rdbox 1 rfl 0 1) rfl rfl) ?_
  refine Ops.y (v := .pointer (some ⟨_, _, none⟩)) (Y.fa0 fa_53_0 rfl) ?_
  refine Ops.y (v := .string _) (Y.loadv ty_9 rfl (I.rdbox 0 rfl 0 1) rfl rfl) ?_
  refine Ops.y (v := .int .i64 _) (Y.lookups I Tryz.underlying107 Tryz.underlying9 Tryz.zeroValue3 2 rfl rfl rfl) ?_
  refine Ops.y (v := .int .i64 _) (Y.addi rfl rfl hr) ?_
  refine Ops.go (O.mapsets I Tryz.underlying107 Tryz.underlying9 2 rfl rfl rfl rfl ?_)
  intro w I
  refine Ops.nil ?_
  refine WP.seq ?_
  refine WP.region ?_
  refine Ops.y (v := .map _) (Y.loadv ty_107 rfl (I.rdbox 1 rfl 0 1) rfl rfl) ?_
  refine Ops.y (v := .pointer (some ⟨_, _, none⟩)) (Y.fa0 fa_53_0 rfl) ?_
  refine Ops.y (v := .string _) (Y.loadv ty_9 rfl (I.rdbox 0 rfl 0 1) rfl rfl) ?_
  refine Ops.y (v := .int .i64 _) (Y.lookups I Tryz.underlying107 Tryz.underlying9 Tryz.zeroValue3 2 rfl rfl rfl) ?_
  refine Ops.y (v := .bool (decide _)) (Y.gti rfl rfl) ?_
  refine Ops.y (v := .bool _) (Y.assign rfl) ?_
  refine Ops.nil ?_
  refine WP.ret ?_
  repeat (first | refine thenE_ret ?_ | refine blockE_ret ?_)
  have hs : slook (sset es x.name ((slook es x.name).getD 0 + 1)) x.name = some ((slook es x.name).getD 0 + 1) := by rw [slook_sset, if_pos rfl]
  exact ⟨.inl rfl, [.bool (decide (1 < (slook es x.name).getD 0 + 1))], ⟨by rw [hs]; rfl, trivial⟩, rfl, I.drop⟩
end Go.TF
end
