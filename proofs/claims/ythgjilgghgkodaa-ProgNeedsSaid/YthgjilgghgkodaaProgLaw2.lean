/- The other two laws of programs: each returns true. -/
import Derived.Test.YthgjilgghgkodaaProgLaw
namespace Go.TF
open Go Go.RowKit Go.Proofs
set_option maxRecDepth 20000

def chooseI (c n : Int) : Int := (if c < 0 then -(c + 1) else c).tmod n
theorem chooseI_in {c n : Int} (hn : 0 < n) : 0 ≤ chooseI c n ∧ chooseI c n < n :=
  ⟨Int.tmod_nonneg _ (by split <;> omega), Int.tmod_lt_of_pos _ hn⟩
theorem choose_ok (B : Base) (hB : B.ok) (c n : Int) (hc : I64 c) (hn : 0 < n) : Fn Try.prog 43 [.int .i64 c, .int .i64 n] B (fun v _ => v = .int .i64 (chooseI c n)) := by
  unfold I64 at hc
  refine Fn.of Try.func43 rfl Try.ntmps43 (by kernel_rfl) (by simp) ?_
  intro e
  have I := Inv.start hB
  refine WP.seq ?_
  refine WP.region ?_
  refine Ops.y (v := .int .i64 _) (Y.assign rfl) ?_
  refine Ops.nil ?_
  refine WP.seq ?_
  refine WP.seq ?_
  refine WP.region ?_
  refine Ops.y (v := .int .i64 _) (Y.move rfl) ?_
  refine Ops.y (v := .bool (decide _)) (Y.lti rfl rfl) ?_
  refine Ops.nil ?_
  refine WP.cond_dec rfl (fun h => ?_) (fun h => ?_)
  · refine WP.region ?_
    refine Ops.y (v := .int .i64 _) (Y.move rfl) ?_
    refine Ops.y (v := .int .i64 _) (Y.addi rfl rfl ⟨by omega, by omega⟩) ?_
    refine Ops.y (v := .int .i64 _) (Y.negi rfl ⟨by omega, by omega⟩) ?_
    refine Ops.y (v := .int .i64 _) (Y.assign rfl) ?_
    refine Ops.nil ?_
    refine WP.seq ?_
    refine WP.region ?_
    refine Ops.y (v := .int .i64 _) (Y.move rfl) ?_
    refine Ops.y (v := .int .i64 _) (Y.move rfl) ?_
    refine Ops.y (v := .int .i64 _) (Y.remi rfl rfl (by omega)) ?_
    refine Ops.y (v := .int .i64 _) (Y.assign rfl) ?_
    refine Ops.nil ?_
    refine WP.ret ?_
    repeat (first | refine thenE_ret ?_ | refine blockE_ret ?_)
    exact retQ.mk (vs := [.int .i64 _]) rfl ⟨rfl, trivial⟩ I.ext_of (by simp only [tup, chooseI]; rw [if_pos h])
  · refine WP.skip ?_
    refine WP.seq ?_
    refine WP.region ?_
    refine Ops.y (v := .int .i64 _) (Y.move rfl) ?_
    refine Ops.y (v := .int .i64 _) (Y.move rfl) ?_
    refine Ops.y (v := .int .i64 _) (Y.remi rfl rfl (by omega)) ?_
    refine Ops.y (v := .int .i64 _) (Y.assign rfl) ?_
    refine Ops.nil ?_
    refine WP.ret ?_
    repeat (first | refine thenE_ret ?_ | refine blockE_ret ?_)
    exact retQ.mk (vs := [.int .i64 _]) rfl ⟨rfl, trivial⟩ I.ext_of (by simp only [tup, chooseI]; rw [if_neg h])
def Asked (L : List Int) (k : Int) (cs : List (Int × Ltl)) : Prop := lv L k = 0 ∨ ∃ c ∈ cs, c.1 = k ∧ lv L k = lst L c
theorem Least.asked {cs : List (Int × Ltl)} {n : Nat} {L : List Int} (hr : InR cs n) (h : Least cs n L) {k : Int} (k0 : 0 ≤ k) (k1 : k < n) : Asked L k cs := by
  refine Classical.byContradiction fun hno => ?_
  unfold Asked at hno
  have hz : lv L k ≠ 0 := fun e => hno (.inl e)
  have hc : ∀ c ∈ cs, c.1 = k → lv L k ≠ lst L c := fun c hc e e2 => hno (.inr ⟨c, hc, e, e2⟩)
  have hp := h.sol.pos k
  have hkl : k < L.length := by rw [h.sol.len]; exact k1
  have hle : ∀ i : Int, 0 ≤ i → lv (L.set k.toNat (lv L k - 1)) i ≤ lv L i := fun i h0 => by
    rw [lv_set k0 hkl _ _ h0]; split
    · rename_i e; subst e; omega
    · omega
  have hM : Sol cs n (L.set k.toNat (lv L k - 1)) := by
    refine ⟨by simp [h.sol.len], fun i => ?_, fun c hcm => ?_⟩
    · have key : ∀ i : Int, 0 ≤ i → 0 ≤ lv (L.set k.toNat (lv L k - 1)) i := fun i h0 => by
        rw [lv_set k0 hkl _ _ h0]; split
        · omega
        · exact h.sol.pos i
      by_cases h0 : 0 ≤ i
      · exact key i h0
      · rw [lv_neg _ (by omega)]; exact key 0 (Int.le_refl 0)
    · have hh := hr.h c hcm
      have hb := hr.b c hcm
      have hs := h.sol.sat c hcm
      have h2 := hle _ hb.1
      unfold SatC lst at hs ⊢
      rw [lv_set k0 hkl _ c.1 hh.1]
      split
      · rename_i e
        have := hc c hcm e
        unfold lst at this
        rw [e] at hs; omega
      · omega
  have := h.least _ hM k
  rw [lv_set k0 hkl _ _ k0, if_pos rfl] at this
  omega
theorem Least.lt {cs : List (Int × Ltl)} {n : Nat} {L : List Int} (hr : InR cs n) (h : Least cs n L) {i : Int} (h0 : 0 ≤ i) (h1 : i < n) : lv L i < n := by
  obtain ⟨M', hM', hlt⟩ := h.sol.small hr
  exact Int.lt_of_le_of_lt (h.least M' hM' i) (hlt i h0 h1)
theorem lvg {L : List Int} {i : Int} (h : i.toNat < L.length) : L[i.toNat] = lv L i := by simp [lv, List.getD_eq_getElem?_getD, h]
theorem bvg {L : List Bool} {i : Int} (h : i.toNat < L.length) : L[i.toNat] = bv L i := by simp [bv, List.getD_eq_getElem?_getD, h]
set_option maxHeartbeats 8000000 in
theorem ProgTrue_ok (B : Base) (hB : B.ok) (p : Prg) (hp : p.In B.h) (hnm : p.Nm) (pr : Int) (hpr : I64 pr) : Fn Try.prog 11 [p.val, .int .i64 pr] B (fun v _ => v = .bool true) := by
  by_cases hc : checkProg p = 0
  · obtain ⟨k1, k2, k3, M, hM⟩ := checkProg_ok hc
    have hr := inR_of k3
    refine Fn.of Try.func11 rfl Try.ntmps11 (by kernel_rfl) (by simp) ?_
    intro e
    have I := Inv.start hB
    refine WP.seq ?_
    refine WP.region ?_
    refine Ops.go (O.box (v := .agg #[_, _]) I rfl rfl ?_)
    intro b2 w I
    refine Ops.y (v := .bool _) (Y.assign rfl) ?_
    refine Ops.nil ?_
    refine WP.seq ?_
    refine WP.region ?_
    refine Ops.y (v := .agg #[_, _]) (Y.loadv ty_54 rfl (I.rdbox 0 rfl 0 2) rfl rfl) ?_
    refine Ops.go (O.call I Try.call37 (Strata_ok _ I.base_ok p hp hnm) rfl ?_)
    rintro v15 h15 w I le15 hS
    rcases hS with ⟨hx, _⟩ | ⟨_, s, hl, hs, rfl⟩
    exact absurd hc hx
    refine Ops.y (v := .tuple #[_, _]) (Y.move rfl) ?_
    refine Ops.y (v := .slice _ _ _) (Y.extract rfl rfl) ?_
    refine Ops.y (v := .int .i64 _) (Y.extract rfl rfl) ?_
    refine Ops.y (v := .slice _ _ _) (Y.assign rfl) ?_
    refine Ops.y (v := .int .i64 _) (Y.assign rfl) ?_
    refine Ops.nil ?_
    have hp := hp.le le15
    have hlen := hl.sol.len
    by_cases hn0 : (p.preds.xs.length : Int) = 0
    · refine WP.seq ?_
      refine WP.seq ?_
      refine WP.region ?_
      refine Ops.y (v := .int .i64 _) (Y.move rfl) ?_
      refine Ops.y (v := .bool false) (Y.dec_f (Y.nei rfl rfl) ((by decide))) ?_
      refine Ops.y (v := .bool _) (Y.move rfl) ?_
      refine Ops.ygt rfl (v := .pointer (some ⟨_, _, none⟩)) (Y.fa0 fa_54_0 rfl) ?_
      refine Ops.ygt rfl (v := .slice _ _ _) (Y.loadv ty_32 rfl (I.rdbox 0 rfl 0 1) rfl rfl) ?_
      refine Ops.ygt rfl (v := .int .i64 _) (Y.lens Try.underlying32 rfl) ?_
      refine Ops.ygt rfl (v := .bool true) (Y.dec_t (Y.eqi rfl rfl) (hn0)) ?_
      refine Ops.y (v := .bool _) (Y.pick_f rfl rfl) ?_
      refine Ops.nil ?_
      refine WP.cond_t rfl ?_
      refine WP.seq ?_
      refine WP.region ?_
      refine Ops.go (O.callv I Try.call32 (progBegun_ok _ I.base_ok) rfl ?_)
      intro w I
      refine Ops.y (v := .bool _) (Y.assign rfl) ?_
      refine Ops.nil ?_
      refine WP.ret ?_
      repeat (first | refine thenE_ret ?_ | refine blockE_ret ?_)
      exact retQ.mk (vs := [.bool _]) rfl ⟨rfl, trivial⟩ I.ext_of (rfl)
    refine WP.seq ?_
    refine WP.seq ?_
    refine WP.region ?_
    refine Ops.y (v := .int .i64 _) (Y.move rfl) ?_
    refine Ops.y (v := .bool false) (Y.dec_f (Y.nei rfl rfl) ((by decide))) ?_
    refine Ops.y (v := .bool _) (Y.move rfl) ?_
    refine Ops.ygt rfl (v := .pointer (some ⟨_, _, none⟩)) (Y.fa0 fa_54_0 rfl) ?_
    refine Ops.ygt rfl (v := .slice _ _ _) (Y.loadv ty_32 rfl (I.rdbox 0 rfl 0 1) rfl rfl) ?_
    refine Ops.ygt rfl (v := .int .i64 _) (Y.lens Try.underlying32 rfl) ?_
    refine Ops.ygt rfl (v := .bool false) (Y.dec_f (Y.eqi rfl rfl) (hn0)) ?_
    refine Ops.y (v := .bool _) (Y.pick_f rfl rfl) ?_
    refine Ops.nil ?_
    refine WP.cond_f rfl ?_
    refine WP.skip ?_
    refine WP.seq ?_
    refine WP.seq ?_
    refine WP.region ?_
    refine Ops.y (v := .slice _ _ _) (Y.move rfl) ?_
    refine Ops.y (v := .int .i64 _) (Y.lens Try.underlying58 rfl) ?_
    refine Ops.y (v := .pointer (some ⟨_, _, none⟩)) (Y.fa0 fa_54_0 rfl) ?_
    refine Ops.y (v := .slice _ _ _) (Y.loadv ty_32 rfl (I.rdbox 0 rfl 0 1) rfl rfl) ?_
    refine Ops.y (v := .int .i64 _) (Y.lens Try.underlying32 rfl) ?_
    refine Ops.y (v := .bool false) (Y.dec_f (Y.nei rfl rfl) ((by rw [hlen]; simp))) ?_
    refine Ops.nil ?_
    refine WP.cond_f rfl ?_
    refine WP.skip ?_
    refine WP.seq ?_
    refine WP.region ?_
    refine Ops.y (v := .int .i64 _) (Y.move rfl) ?_
    refine Ops.y (v := .pointer (some ⟨_, _, none⟩)) (Y.fa0 fa_54_0 rfl) ?_
    refine Ops.y (v := .slice _ _ _) (Y.loadv ty_32 rfl (I.rdbox 0 rfl 0 1) rfl rfl) ?_
    refine Ops.y (v := .int .i64 _) (Y.lens Try.underlying32 rfl) ?_
    refine Ops.go (O.callv I Try.call43 (choose_ok _ I.base_ok pr p.preds.xs.length hpr (by omega)) rfl ?_)
    intro w I
    refine Ops.y (v := .int .i64 _) (Y.assign rfl) ?_
    refine Ops.nil ?_
    obtain ⟨kk, hkk⟩ : ∃ kk, kk = chooseI pr p.preds.xs.length := ⟨_, rfl⟩
    have hk01 := chooseI_in (c := pr) (n := p.preds.xs.length) (by omega)
    rw [← hkk] at hk01 ⊢
    have hkl : kk.toNat < s.xs.length := by rw [hlen]; omega
    have Ek := hs.at hkl
    have hvk := lvg hkl
    refine WP.seq ?_
    refine WP.region ?_
    refine Ops.y (v := .slice _ _ _) (Y.move rfl) ?_
    refine Ops.y (v := .int .i64 _) (Y.move rfl) ?_
    refine Ops.y (v := .pointer (some ⟨_, _, none⟩)) (Y.idxEl Ek Try.underlying58 Try.sizeOf3 rfl rfl hk01.1 rfl) ?_
    refine Ops.y (v := .int .i64 _) (Y.loadv ty_3 rfl (I.rd (Ek.rd.part 0 1)) rfl rfl) ?_
    refine Ops.y (v := .bool (decide _)) (Y.eqi rfl rfl) ?_
    refine Ops.y (v := .bool _) (Y.assign rfl) ?_
    refine Ops.nil ?_
    refine WP.seq ?_
    refine WP.seq ?_
    refine WP.region ?_
    refine Ops.y (v := .int .i64 _) (Y.assign rfl) ?_
    refine Ops.nil ?_
    refine WP.block ?_
    refine WP.loopE (σ := Nat × Bool) (fun t => [(2, .pointer (some ⟨b2, 0, none⟩)), (5, s.val), (7, .int .i64 kk), (8, .bool t.2), (9, .int .i64 t.1)])
      (fun t w => Inv B h15 [box b2 p.enc 54] w ∧ t.1 ≤ p.rules.xs.length ∧ (t.2 = true ↔ Asked s.xs kk (usesL (p.rules.xs.take t.1)))) (fun t => p.rules.xs.length - t.1)
      ⟨(0, decide (s.xs[kk.toNat] = 0)), ⟨rfl, rfl, rfl, rfl, rfl, trivial⟩, I, Nat.zero_le _, by rw [decide_eq_true_eq, hvk]; simp [Asked, usesL]⟩ ?_
    rintro ⟨m, b⟩ e w ⟨I, hm, hbq⟩
    dsimp only at I hm hbq ⊢
    refine WP.seq ?_
    refine WP.seq ?_
    refine WP.region ?_
    refine Ops.y (v := .int .i64 _) (Y.move rfl) ?_
    refine Ops.y (v := .pointer (some ⟨_, _, none⟩)) (Y.fa fa_54_1 rfl) ?_
    refine Ops.y (v := .slice _ _ _) (Y.loadv ty_52 rfl (I.rdbox 0 rfl 1 1) rfl rfl) ?_
    refine Ops.y (v := .int .i64 _) (Y.lens Try.underlying52 rfl) ?_
    refine Ops.y (v := .bool (decide _)) (Y.lti rfl rfl) ?_
    refine Ops.nil ?_
    refine WP.cond_dec rfl (fun h9 => ?_) (fun h9 => ?_)
    · have hm' : m < p.rules.xs.length := by omega
      have E1 := hp.rules.is.at hm'
      have hbd2 := (hp.rules.each _ (List.getElem_mem hm')).body
      have hbs := hbd2.is.small
      refine WP.skip ?_
      refine WP.seq ?_
      refine WP.block ?_
      refine WP.seq ?_
      refine WP.region ?_
      refine Ops.y (v := .pointer (some ⟨_, _, none⟩)) (Y.fa fa_54_1 rfl) ?_
      refine Ops.y (v := .slice _ _ _) (Y.loadv ty_52 rfl (I.rdbox 0 rfl 1 1) rfl rfl) ?_
      refine Ops.y (v := .int .i64 _) (Y.move rfl) ?_
      refine Ops.y (v := .pointer (some ⟨_, _, none⟩)) (Y.idxEl E1 Try.underlying52 Try.sizeOf38 rfl rfl (Int.natCast_nonneg _) rfl) ?_
      refine Ops.y (v := .agg #[_, _, _, _, _]) (Y.loadv ty_38 rfl (I.rd (E1.rd.part 0 5)) rfl rfl) ?_
      refine Ops.go (O.alloc I Try.zeroValue38 rfl ?_)
      intro b10 w I
      refine Ops.go (O.store (v := .agg #[_, _, _, _, _]) I ty_38 0 rfl rfl rfl rfl rfl rfl (Nat.le_of_ble_eq_true rfl) rfl ?_)
      intro w I
      refine Ops.nil ?_
      refine WP.seq ?_
      refine WP.region ?_
      refine Ops.y (v := .int .i64 _) (Y.assign rfl) ?_
      refine Ops.nil ?_
      refine WP.block ?_
      refine WP.loopE (σ := Nat × Bool) (fun t => [(2, .pointer (some ⟨b2, 0, none⟩)), (5, s.val), (7, .int .i64 kk), (8, .bool t.2), (9, .int .i64 m), (10, .pointer (some ⟨b10, 0, none⟩)), (11, .int .i64 t.1)])
        (fun t w => Inv B h15 [box b10 p.rules.xs[m].enc 38, box b2 p.enc 54] w ∧ t.1 ≤ p.rules.xs[m].body.xs.length ∧ (t.2 = true ↔ Asked s.xs kk (usesL (p.rules.xs.take m) ++ (p.rules.xs[m].body.xs.take t.1).map fun x => (p.rules.xs[m].head.pred, x)))) (fun t => p.rules.xs[m].body.xs.length - t.1)
        ⟨(0, b), ⟨rfl, rfl, rfl, rfl, rfl, rfl, rfl, trivial⟩, I, Nat.zero_le _, by simpa using hbq⟩ ?_
      rintro ⟨k, b'⟩ e w ⟨I, hk, hbq2⟩
      dsimp only at I hk hbq2 ⊢
      refine WP.seq ?_
      refine WP.seq ?_
      refine WP.region ?_
      refine Ops.y (v := .int .i64 _) (Y.move rfl) ?_
      refine Ops.y (v := .pointer (some ⟨_, _, none⟩)) (Y.fa fa_38_3 rfl) ?_
      refine Ops.y (v := .slice _ _ _) (Y.loadv ty_36 rfl (I.rdbox 0 rfl 4 1) rfl rfl) ?_
      refine Ops.y (v := .int .i64 _) (Y.lens Try.underlying36 rfl) ?_
      refine Ops.y (v := .bool (decide _)) (Y.lti rfl rfl) ?_
      refine Ops.nil ?_
      refine WP.cond_dec rfl (fun h13 => ?_) (fun h13 => ?_)
      · have hk' : k < p.rules.xs[m].body.xs.length := by omega
        have E2 := hbd2.is.at hk'
        have hmem := usesL_mem hm' hk'
        have hh := hr.h _ hmem
        have hb := hr.b _ hmem
        have hsat := hl.sol.sat _ hmem
        dsimp only at hh hb
        have hbl : p.rules.xs[m].body.xs[k].atom.pred.toNat < s.xs.length := by rw [hlen]; omega
        have hhl : p.rules.xs[m].head.pred.toNat < s.xs.length := by rw [hlen]; omega
        have Eb := hs.at hbl
        have Eh := hs.at hhl
        have hvb := lvg hbl
        have hvh := lvg hhl
        have hlb := hl.lt hr hb.1 hb.2
        have hpb := hl.sol.pos p.rules.xs[m].body.xs[k].atom.pred
        obtain ⟨c, hcd⟩ : ∃ c, c = (p.rules.xs[m].head.pred, p.rules.xs[m].body.xs[k]) := ⟨_, rfl⟩
        have hlst : lst s.xs c = lv s.xs p.rules.xs[m].body.xs[k].atom.pred + ng p.rules.xs[m].body.xs[k] := by rw [hcd]; rfl
        have hc1 : c.1 = p.rules.xs[m].head.pred := by rw [hcd]
        rw [← hcd] at hsat
        unfold SatC at hsat
        rw [hc1] at hsat
        have step : ∀ b2 : Bool, (b2 = true ↔ (b' = true ∨ (p.rules.xs[m].head.pred = kk ∧ lv s.xs kk = lst s.xs c))) → (b2 = true ↔ Asked s.xs kk (usesL (p.rules.xs.take m) ++ (p.rules.xs[m].body.xs.take (k + 1)).map fun x => (p.rules.xs[m].head.pred, x))) := fun b2 hb2 => by
          rw [hb2, hbq2, map_take _ hk', ← List.append_assoc, ← hcd]
          unfold Asked
          simp only [List.mem_append, List.mem_singleton]
          constructor
          · rintro ((h | ⟨d, hd, h⟩) | ⟨h1, h2⟩)
            · exact .inl h
            · exact .inr ⟨d, .inl hd, h⟩
            · exact .inr ⟨c, .inr rfl, hc1.trans h1, h2⟩
          · rintro (h | ⟨d, hd | rfl, h1, h2⟩)
            · exact .inl (.inl h)
            · exact .inl (.inr ⟨d, hd, h1, h2⟩)
            · exact .inr ⟨hc1.symm.trans h1, h2⟩
        refine WP.skip ?_
        refine WP.seq ?_
        refine WP.block ?_
        refine WP.seq ?_
        refine WP.region ?_
        refine Ops.y (v := .slice _ _ _) (Y.move rfl) ?_
        refine Ops.y (v := .pointer (some ⟨_, _, none⟩)) (Y.fa fa_38_3 rfl) ?_
        refine Ops.y (v := .slice _ _ _) (Y.loadv ty_36 rfl (I.rdbox 0 rfl 4 1) rfl rfl) ?_
        refine Ops.y (v := .int .i64 _) (Y.move rfl) ?_
        refine Ops.y (v := .pointer (some ⟨_, _, none⟩)) (Y.idxEl E2 Try.underlying36 Try.sizeOf71 rfl rfl (Int.natCast_nonneg _) rfl) ?_
        refine Ops.y (v := .pointer (some ⟨_, _, none⟩)) (Y.fa fa_71_1 rfl) ?_
        refine Ops.y (v := .pointer (some ⟨_, _, none⟩)) (Y.fa0 fa_35_0 rfl) ?_
        refine Ops.y (v := .int .i64 _) (Y.loadv ty_3 rfl (I.rd (E2.rd.part 1 1)) rfl rfl) ?_
        refine Ops.y (v := .pointer (some ⟨_, _, none⟩)) (Y.idxEl Eb Try.underlying58 Try.sizeOf3 rfl rfl hb.1 rfl) ?_
        refine Ops.y (v := .int .i64 _) (Y.loadv ty_3 rfl (I.rd (Eb.rd.part 0 1)) rfl rfl) ?_
        refine Ops.y (v := .int .i64 _) (Y.assign rfl) ?_
        refine Ops.nil ?_
        refine WP.seq ?_
        refine WP.cutL (σ := Unit) (fun _ => [(2, .pointer (some ⟨b2, 0, none⟩)), (5, s.val), (7, .int .i64 kk), (8, .bool b'), (9, .int .i64 m), (10, .pointer (some ⟨b10, 0, none⟩)), (11, .int .i64 k), (12, .int .i64 (lst s.xs c))])
          (fun _ w => Inv B h15 [box b10 p.rules.xs[m].enc 38, box b2 p.enc 54] w) ?_ ?_
        · refine WP.seq ?_
          refine WP.region ?_
          refine Ops.y (v := .pointer (some ⟨_, _, none⟩)) (Y.fa fa_38_3 rfl) ?_
          refine Ops.y (v := .slice _ _ _) (Y.loadv ty_36 rfl (I.rdbox 0 rfl 4 1) rfl rfl) ?_
          refine Ops.y (v := .int .i64 _) (Y.move rfl) ?_
          refine Ops.y (v := .pointer (some ⟨_, _, none⟩)) (Y.idxEl E2 Try.underlying36 Try.sizeOf71 rfl rfl (Int.natCast_nonneg _) rfl) ?_
          refine Ops.y (v := .pointer (some ⟨_, _, none⟩)) (Y.fa0 fa_71_0 rfl) ?_
          refine Ops.y (v := .bool _) (Y.loadv ty_4 rfl (I.rd (E2.rd.part 0 1)) rfl rfl) ?_
          refine Ops.nil ?_
          refine WP.cond rfl (fun hneg => ?_) (fun hneg => ?_)
          · rw [hvb]
            refine WP.region ?_
            refine Ops.y (v := .int .i64 _) (Y.move rfl) ?_
            refine Ops.y (v := .int .i64 _) (Y.addi rfl rfl ⟨by omega, by omega⟩) ?_
            refine Ops.y (v := .int .i64 _) (Y.assign rfl) ?_
            refine Ops.nil ?_
            exact ⟨(), ⟨rfl, rfl, rfl, rfl, rfl, rfl, rfl, by rw [hlst]; simp only [ng, hneg]; rfl, trivial⟩, I⟩
          · refine WP.skip ?_
            exact ⟨(), ⟨rfl, rfl, rfl, rfl, rfl, rfl, rfl, by rw [hlst, ← hvb]; simp only [ng, hneg, Bool.false_eq_true, if_false, Int.add_zero]; rfl, trivial⟩, I⟩
        rintro _ e w I
        refine WP.seq ?_
        refine WP.seq ?_
        refine WP.region ?_
        refine Ops.y (v := .slice _ _ _) (Y.move rfl) ?_
        refine Ops.y (v := .pointer (some ⟨_, _, none⟩)) (Y.fa0 fa_38_0 rfl) ?_
        refine Ops.y (v := .pointer (some ⟨_, _, none⟩)) (Y.fa0 fa_35_0 rfl) ?_
        refine Ops.y (v := .int .i64 _) (Y.loadv ty_3 rfl (I.rdbox 0 rfl 0 1) rfl rfl) ?_
        refine Ops.y (v := .pointer (some ⟨_, _, none⟩)) (Y.idxEl Eh Try.underlying58 Try.sizeOf3 rfl rfl hh.1 rfl) ?_
        refine Ops.y (v := .int .i64 _) (Y.loadv ty_3 rfl (I.rd (Eh.rd.part 0 1)) rfl rfl) ?_
        refine Ops.y (v := .int .i64 _) (Y.move rfl) ?_
        refine Ops.y (v := .bool false) (Y.dec_f (Y.lti rfl rfl) ((by rw [hvh]; omega))) ?_
        refine Ops.nil ?_
        refine WP.cond_f rfl ?_
        cases b'
        · by_cases hhk : p.rules.xs[m].head.pred = kk
          · refine WP.skip ?_
            refine WP.region ?_
            refine Ops.y (v := .bool _) (Y.move rfl) ?_
            refine Ops.y (v := .bool false) (Y.b (Y.move rfl) (rfl)) ?_
            refine Ops.ygt rfl (v := .pointer (some ⟨_, _, none⟩)) (Y.fa0 fa_38_0 rfl) ?_
            refine Ops.ygt rfl (v := .pointer (some ⟨_, _, none⟩)) (Y.fa0 fa_35_0 rfl) ?_
            refine Ops.ygt rfl (v := .int .i64 _) (Y.loadv ty_3 rfl (I.rdbox 0 rfl 0 1) rfl rfl) ?_
            refine Ops.ygt rfl (v := .int .i64 _) (Y.move rfl) ?_
            refine Ops.ygt rfl (v := .bool true) (Y.dec_t (Y.eqi rfl rfl) (hhk)) ?_
            refine Ops.ygt rfl (v := .bool _) (Y.move rfl) ?_
            refine Ops.ygt rfl (v := .slice _ _ _) (Y.move rfl) ?_
            refine Ops.ygt rfl (v := .int .i64 _) (Y.move rfl) ?_
            refine Ops.ygt rfl (v := .pointer (some ⟨_, _, none⟩)) (Y.idxEl Ek Try.underlying58 Try.sizeOf3 rfl rfl hk01.1 rfl) ?_
            refine Ops.ygt rfl (v := .int .i64 _) (Y.loadv ty_3 rfl (I.rd (Ek.rd.part 0 1)) rfl rfl) ?_
            refine Ops.ygt rfl (v := .int .i64 _) (Y.move rfl) ?_
            refine Ops.ygt rfl (v := .bool (decide _)) (Y.eqi rfl rfl) ?_
            refine Ops.ygt rfl (v := .bool _) (Y.pick_t rfl rfl) ?_
            refine Ops.y (v := .bool _) (Y.pick_f rfl rfl) ?_
            refine Ops.y (v := .bool _) (Y.assign rfl) ?_
            refine Ops.nil ?_
            refine WP.region ?_
            refine Ops.y (v := .int .i64 _) (Y.move rfl) ?_
            refine Ops.y (v := .int .i64 _) (Y.addi rfl rfl ⟨by omega, by omega⟩) ?_
            refine Ops.y (v := .int .i64 _) (Y.assign rfl) ?_
            refine Ops.nil ?_
            exact ⟨(k + 1, decide (s.xs[kk.toNat] = lst s.xs c)), ⟨⟨rfl, rfl, rfl, rfl, rfl, rfl, rfl, trivial⟩, I, hk', step _ (by rw [decide_eq_true_eq, hvk]; exact ⟨fun h => .inr ⟨hhk, h⟩, fun h => (h.resolve_left (by decide)).2⟩)⟩, by dsimp only; omega⟩
          · refine WP.skip ?_
            refine WP.region ?_
            refine Ops.y (v := .bool _) (Y.move rfl) ?_
            refine Ops.y (v := .bool false) (Y.b (Y.move rfl) (rfl)) ?_
            refine Ops.ygt rfl (v := .pointer (some ⟨_, _, none⟩)) (Y.fa0 fa_38_0 rfl) ?_
            refine Ops.ygt rfl (v := .pointer (some ⟨_, _, none⟩)) (Y.fa0 fa_35_0 rfl) ?_
            refine Ops.ygt rfl (v := .int .i64 _) (Y.loadv ty_3 rfl (I.rdbox 0 rfl 0 1) rfl rfl) ?_
            refine Ops.ygt rfl (v := .int .i64 _) (Y.move rfl) ?_
            refine Ops.ygt rfl (v := .bool false) (Y.dec_f (Y.eqi rfl rfl) (hhk)) ?_
            refine Ops.ygt rfl (v := .bool _) (Y.move rfl) ?_
            refine Ops.gf rfl ?_
            refine Ops.gf rfl ?_
            refine Ops.gf rfl ?_
            refine Ops.gf rfl ?_
            refine Ops.gf rfl ?_
            refine Ops.gf rfl ?_
            refine Ops.ygt rfl (v := .bool _) (Y.pick_f rfl rfl) ?_
            refine Ops.y (v := .bool _) (Y.pick_f rfl rfl) ?_
            refine Ops.y (v := .bool _) (Y.assign rfl) ?_
            refine Ops.nil ?_
            refine WP.region ?_
            refine Ops.y (v := .int .i64 _) (Y.move rfl) ?_
            refine Ops.y (v := .int .i64 _) (Y.addi rfl rfl ⟨by omega, by omega⟩) ?_
            refine Ops.y (v := .int .i64 _) (Y.assign rfl) ?_
            refine Ops.nil ?_
            exact ⟨(k + 1, false), ⟨⟨rfl, rfl, rfl, rfl, rfl, rfl, rfl, trivial⟩, I, hk', step _ ⟨fun h => (by cases h), fun h => (hhk (h.resolve_left (by decide)).1).elim⟩⟩, by dsimp only; omega⟩
        · refine WP.skip ?_
          refine WP.region ?_
          refine Ops.y (v := .bool _) (Y.move rfl) ?_
          refine Ops.y (v := .bool true) (Y.b (Y.move rfl) (rfl)) ?_
          refine Ops.gf rfl ?_
          refine Ops.gf rfl ?_
          refine Ops.gf rfl ?_
          refine Ops.gf rfl ?_
          refine Ops.gf rfl ?_
          refine Ops.gf rfl ?_
          refine Ops.gf rfl ?_
          refine Ops.gf rfl ?_
          refine Ops.gf rfl ?_
          refine Ops.gf rfl ?_
          refine Ops.gf rfl ?_
          refine Ops.gf rfl ?_
          refine Ops.gf rfl ?_
          refine Ops.y (v := .bool _) (Y.pick_t rfl rfl) ?_
          refine Ops.y (v := .bool _) (Y.assign rfl) ?_
          refine Ops.nil ?_
          refine WP.region ?_
          refine Ops.y (v := .int .i64 _) (Y.move rfl) ?_
          refine Ops.y (v := .int .i64 _) (Y.addi rfl rfl ⟨by omega, by omega⟩) ?_
          refine Ops.y (v := .int .i64 _) (Y.assign rfl) ?_
          refine Ops.nil ?_
          exact ⟨(k + 1, true), ⟨⟨rfl, rfl, rfl, rfl, rfl, rfl, rfl, trivial⟩, I, hk', step _ ⟨fun _ => .inl rfl, fun _ => rfl⟩⟩, by dsimp only; omega⟩
      · refine WP.exit ?_
        refine WP.region ?_
        refine Ops.y (v := .int .i64 _) (Y.move rfl) ?_
        refine Ops.y (v := .int .i64 _) (Y.addi rfl rfl ⟨by omega, by omega⟩) ?_
        refine Ops.y (v := .int .i64 _) (Y.assign rfl) ?_
        refine Ops.nil ?_
        have hke : k = p.rules.xs[m].body.xs.length := by omega
        exact ⟨(m + 1, b'), ⟨⟨rfl, rfl, rfl, rfl, rfl, trivial⟩, I.drop, hm', by rw [usesL_take' hm', ← hke]; exact hbq2⟩, by dsimp only; omega⟩
    · have hme : m = p.rules.xs.length := by omega
      rw [hme, List.take_length] at hbq
      obtain rfl : b = true := hbq.2 (hl.asked hr hk01.1 hk01.2)
      refine WP.exit ?_
      refine WP.seq ?_
      refine WP.regionQ mixed I (by kernel_rfl) ?_
      refine OpsQ.c (fun w I => QC.callv I Try.call32 (progBegun_ok _ I.base_ok) rfl) ?_
      refine OpsQ.y (v := .bool _) (fun w I => Y.move rfl) ?_
      refine OpsQ.ygt rfl (v := .bool true) (fun w I => Y.b (Y.move rfl) (rfl)) ?_
      refine OpsQ.y (v := .bool _) (fun w I => Y.pick_t rfl rfl) ?_
      refine OpsQ.y (v := .bool _) (fun w I => Y.move rfl) ?_
      refine OpsQ.ygt rfl (v := .slice _ _ _) (fun w I => Y.move rfl) ?_
      refine OpsQ.ygt rfl (v := .int .i64 _) (fun w I => Y.move rfl) ?_
      refine OpsQ.ygt rfl (v := .pointer (some ⟨_, _, none⟩)) (fun w I => Y.idxEl Ek Try.underlying58 Try.sizeOf3 rfl rfl hk01.1 rfl) ?_
      refine OpsQ.ygt rfl (v := .int .i64 _) (fun w I => Y.loadv ty_3 rfl (I.rd (Ek.rd.part 0 1)) rfl rfl) ?_
      refine OpsQ.ygt rfl (v := .bool true) (fun w I => Y.dec_t (Y.gei rfl rfl) ((by rw [hvk]; exact hl.sol.pos kk))) ?_
      refine OpsQ.y (v := .bool _) (fun w I => Y.pick_t rfl rfl) ?_
      refine OpsQ.y (v := .bool _) (fun w I => Y.move rfl) ?_
      refine OpsQ.ygt rfl (v := .slice _ _ _) (fun w I => Y.move rfl) ?_
      refine OpsQ.ygt rfl (v := .int .i64 _) (fun w I => Y.move rfl) ?_
      refine OpsQ.ygt rfl (v := .pointer (some ⟨_, _, none⟩)) (fun w I => Y.idxEl Ek Try.underlying58 Try.sizeOf3 rfl rfl hk01.1 rfl) ?_
      refine OpsQ.ygt rfl (v := .int .i64 _) (fun w I => Y.loadv ty_3 rfl (I.rd (Ek.rd.part 0 1)) rfl rfl) ?_
      refine OpsQ.ygt rfl (v := .pointer (some ⟨_, _, none⟩)) (fun w I => Y.fa0 fa_54_0 rfl) ?_
      refine OpsQ.ygt rfl (v := .slice _ _ _) (fun w I => Y.loadv ty_32 rfl (I.rdbox 0 rfl 0 1) rfl rfl) ?_
      refine OpsQ.ygt rfl (v := .int .i64 _) (fun w I => Y.lens Try.underlying32 rfl) ?_
      refine OpsQ.ygt rfl (v := .bool true) (fun w I => Y.dec_t (Y.lti rfl rfl) ((by rw [hvk]; exact hl.lt hr hk01.1 hk01.2))) ?_
      refine OpsQ.y (v := .bool _) (fun w I => Y.pick_t rfl rfl) ?_
      refine OpsQ.y (v := .bool _) (fun w I => Y.assign rfl) ?_
      refine OpsQ.nil ?_
      intro w I
      refine WP.ret ?_
      repeat (first | refine thenE_ret ?_ | refine blockE_ret ?_)
      exact retQ.mk (vs := [.bool _]) rfl ⟨rfl, trivial⟩ I.ext_of (rfl)
  · refine Fn.of Try.func11 rfl Try.ntmps11 (by kernel_rfl) (by simp) ?_
    intro e
    have I := Inv.start hB
    refine WP.seq ?_
    refine WP.region ?_
    refine Ops.go (O.box (v := .agg #[_, _]) I rfl rfl ?_)
    intro b2 w I
    refine Ops.y (v := .bool _) (Y.assign rfl) ?_
    refine Ops.nil ?_
    refine WP.seq ?_
    refine WP.region ?_
    refine Ops.y (v := .agg #[_, _]) (Y.loadv ty_54 rfl (I.rdbox 0 rfl 0 2) rfl rfl) ?_
    refine Ops.go (O.call I Try.call37 (Strata_ok _ I.base_ok p hp hnm) rfl ?_)
    rintro v15 h15 w I le15 hS
    rcases hS with ⟨_, rfl⟩ | ⟨hx, _⟩
    rotate_left
    exact absurd hx hc
    refine Ops.y (v := .tuple #[_, _]) (Y.move rfl) ?_
    refine Ops.y (v := .slice _ _ _) (Y.extract rfl rfl) ?_
    refine Ops.y (v := .int .i64 _) (Y.extract rfl rfl) ?_
    refine Ops.y (v := .slice _ _ _) (Y.assign rfl) ?_
    refine Ops.y (v := .int .i64 _) (Y.assign rfl) ?_
    refine Ops.nil ?_
    refine WP.seq ?_
    refine WP.seq ?_
    refine WP.region ?_
    refine Ops.y (v := .int .i64 _) (Y.move rfl) ?_
    refine Ops.y (v := .bool true) (Y.dec_t (Y.nei rfl rfl) (hc)) ?_
    refine Ops.y (v := .bool _) (Y.move rfl) ?_
    refine Ops.gf rfl ?_
    refine Ops.gf rfl ?_
    refine Ops.gf rfl ?_
    refine Ops.gf rfl ?_
    refine Ops.y (v := .bool _) (Y.pick_t rfl rfl) ?_
    refine Ops.nil ?_
    refine WP.cond_t rfl ?_
    refine WP.seq ?_
    refine WP.region ?_
    refine Ops.go (O.callv I Try.call32 (progBegun_ok _ I.base_ok) rfl ?_)
    intro w I
    refine Ops.y (v := .bool _) (Y.assign rfl) ?_
    refine Ops.nil ?_
    refine WP.ret ?_
    repeat (first | refine thenE_ret ?_ | refine blockE_ret ?_)
    exact retQ.mk (vs := [.bool _]) rfl ⟨rfl, trivial⟩ I.ext_of (rfl)
theorem Reach.trans {cs : List (Int × Ltl)} {a b c : Int} (h : Reach cs a b) (k : Reach cs b c) : Reach cs a c := by
  induction k with
  | refl => exact h
  | step _ hu ih => exact .step ih hu
set_option maxHeartbeats 8000000 in
theorem ProgNeeds_ok (B : Base) (hB : B.ok) (p : Prg) (hp : p.In B.h) (hnm : p.Nm) (a b : Int) (ha : I64 a) (hb : I64 b) : Fn Try.prog 12 [p.val, .int .i64 a, .int .i64 b] B (fun v _ => v = .bool true) := by
  have hsp := hp.preds.small
  refine Fn.of Try.func12 rfl Try.ntmps12 (by kernel_rfl) (by simp) ?_
  intro e
  have I := Inv.start hB
  refine WP.seq ?_
  refine WP.region ?_
  refine Ops.go (O.box (v := .agg #[_, _]) I rfl rfl ?_)
  intro b3 w I
  refine Ops.y (v := .bool _) (Y.assign rfl) ?_
  refine Ops.nil ?_
  refine WP.seq ?_
  refine WP.seq ?_
  by_cases o0 : checkProg p ≠ 0
  · refine WP.region ?_
    refine Ops.y (v := .agg #[_, _]) (Y.loadv ty_54 rfl (I.rdbox 0 rfl 0 2) rfl rfl) ?_
    refine Ops.go (O.callv I Try.call33 (PCheck_ok _ I.base_ok p hp hnm) rfl ?_)
    intro w I
    refine Ops.y (v := .bool true) (Y.dec_t (Y.nei rfl rfl) (o0)) ?_
    refine Ops.y (v := .bool _) (Y.move rfl) ?_
    refine Ops.gf rfl ?_
    refine Ops.gf rfl ?_
    refine Ops.gf rfl ?_
    refine Ops.gf rfl ?_
    refine Ops.y (v := .bool _) (Y.pick_t rfl rfl) ?_
    refine Ops.nil ?_
    refine WP.cond_t rfl ?_
    refine WP.seq ?_
    refine WP.region ?_
    refine Ops.go (O.callv I Try.call32 (progBegun_ok _ I.base_ok) rfl ?_)
    intro w I
    refine Ops.y (v := .bool _) (Y.assign rfl) ?_
    refine Ops.nil ?_
    refine WP.ret ?_
    repeat (first | refine thenE_ret ?_ | refine blockE_ret ?_)
    exact retQ.mk (vs := [.bool _]) rfl ⟨rfl, trivial⟩ I.ext_of (rfl)
  by_cases o1 : (p.preds.xs.length : Int) = 0
  · refine WP.region ?_
    refine Ops.y (v := .agg #[_, _]) (Y.loadv ty_54 rfl (I.rdbox 0 rfl 0 2) rfl rfl) ?_
    refine Ops.go (O.callv I Try.call33 (PCheck_ok _ I.base_ok p hp hnm) rfl ?_)
    intro w I
    refine Ops.y (v := .bool false) (Y.dec_f (Y.nei rfl rfl) (o0)) ?_
    refine Ops.y (v := .bool _) (Y.move rfl) ?_
    refine Ops.ygt rfl (v := .pointer (some ⟨_, _, none⟩)) (Y.fa0 fa_54_0 rfl) ?_
    refine Ops.ygt rfl (v := .slice _ _ _) (Y.loadv ty_32 rfl (I.rdbox 0 rfl 0 1) rfl rfl) ?_
    refine Ops.ygt rfl (v := .int .i64 _) (Y.lens Try.underlying32 rfl) ?_
    refine Ops.ygt rfl (v := .bool true) (Y.dec_t (Y.eqi rfl rfl) (o1)) ?_
    refine Ops.y (v := .bool _) (Y.pick_f rfl rfl) ?_
    refine Ops.nil ?_
    refine WP.cond_t rfl ?_
    refine WP.seq ?_
    refine WP.region ?_
    refine Ops.go (O.callv I Try.call32 (progBegun_ok _ I.base_ok) rfl ?_)
    intro w I
    refine Ops.y (v := .bool _) (Y.assign rfl) ?_
    refine Ops.nil ?_
    refine WP.ret ?_
    repeat (first | refine thenE_ret ?_ | refine blockE_ret ?_)
    exact retQ.mk (vs := [.bool _]) rfl ⟨rfl, trivial⟩ I.ext_of (rfl)
  refine WP.region ?_
  refine Ops.y (v := .agg #[_, _]) (Y.loadv ty_54 rfl (I.rdbox 0 rfl 0 2) rfl rfl) ?_
  refine Ops.go (O.callv I Try.call33 (PCheck_ok _ I.base_ok p hp hnm) rfl ?_)
  intro w I
  refine Ops.y (v := .bool false) (Y.dec_f (Y.nei rfl rfl) (o0)) ?_
  refine Ops.y (v := .bool _) (Y.move rfl) ?_
  refine Ops.ygt rfl (v := .pointer (some ⟨_, _, none⟩)) (Y.fa0 fa_54_0 rfl) ?_
  refine Ops.ygt rfl (v := .slice _ _ _) (Y.loadv ty_32 rfl (I.rdbox 0 rfl 0 1) rfl rfl) ?_
  refine Ops.ygt rfl (v := .int .i64 _) (Y.lens Try.underlying32 rfl) ?_
  refine Ops.ygt rfl (v := .bool false) (Y.dec_f (Y.eqi rfl rfl) (o1)) ?_
  refine Ops.y (v := .bool _) (Y.pick_f rfl rfl) ?_
  refine Ops.nil ?_
  refine WP.cond_f rfl ?_
  have hc : checkProg p = 0 := Decidable.not_not.1 o0
  refine WP.skip ?_
  refine WP.seq ?_
  refine WP.regionQ mixed I (by kernel_rfl) ?_
  refine OpsQ.y (v := .int .i64 _) (fun w I => Y.move rfl) ?_
  refine OpsQ.y (v := .pointer (some ⟨_, _, none⟩)) (fun w I => Y.fa0 fa_54_0 rfl) ?_
  refine OpsQ.y (v := .slice _ _ _) (fun w I => Y.loadv ty_32 rfl (I.rdbox 0 rfl 0 1) rfl rfl) ?_
  refine OpsQ.y (v := .int .i64 _) (fun w I => Y.lens Try.underlying32 rfl) ?_
  refine OpsQ.c (fun w I => QC.callv I Try.call43 (choose_ok _ I.base_ok a p.preds.xs.length ha (by omega)) rfl) ?_
  refine OpsQ.y (v := .int .i64 _) (fun w I => Y.move rfl) ?_
  refine OpsQ.y (v := .pointer (some ⟨_, _, none⟩)) (fun w I => Y.fa0 fa_54_0 rfl) ?_
  refine OpsQ.y (v := .slice _ _ _) (fun w I => Y.loadv ty_32 rfl (I.rdbox 0 rfl 0 1) rfl rfl) ?_
  refine OpsQ.y (v := .int .i64 _) (fun w I => Y.lens Try.underlying32 rfl) ?_
  refine OpsQ.c (fun w I => QC.callv I Try.call43 (choose_ok _ I.base_ok b p.preds.xs.length hb (by omega)) rfl) ?_
  refine OpsQ.y (v := .int .i64 _) (fun w I => Y.assign rfl) ?_
  refine OpsQ.y (v := .int .i64 _) (fun w I => Y.assign rfl) ?_
  refine OpsQ.nil ?_
  intro w I
  obtain ⟨i, hi⟩ : ∃ i, i = chooseI a p.preds.xs.length := ⟨_, rfl⟩
  obtain ⟨k, hk⟩ : ∃ k, k = chooseI b p.preds.xs.length := ⟨_, rfl⟩
  have hi01 := chooseI_in (c := a) (n := p.preds.xs.length) (by omega)
  have hk01 := chooseI_in (c := b) (n := p.preds.xs.length) (by omega)
  rw [← hi] at hi01 ⊢
  rw [← hk] at hk01 ⊢
  refine WP.seq ?_
  refine WP.region ?_
  refine Ops.y (v := .agg #[_, _]) (Y.loadv ty_54 rfl (I.rdbox 0 rfl 0 2) rfl rfl) ?_
  refine Ops.y (v := .int .i64 _) (Y.move rfl) ?_
  refine Ops.go (O.call I Try.call38 (Needs_ok _ I.base_ok p hp hnm i) rfl ?_)
  rintro v37 h37 w I le37 hN
  rcases hN with ⟨hx, _⟩ | ⟨_, hx, _⟩ | ⟨_, _, x, hx, hxi, rfl⟩
  exact absurd hc hx
  omega
  refine Ops.y (v := .tuple #[_, _]) (Y.move rfl) ?_
  refine Ops.y (v := .slice _ _ _) (Y.extract rfl rfl) ?_
  refine Ops.y (v := .int .i64 _) (Y.extract rfl rfl) ?_
  refine Ops.y (v := .slice _ _ _) (Y.assign rfl) ?_
  refine Ops.y (v := .int .i64 _) (Y.assign rfl) ?_
  refine Ops.nil ?_
  refine WP.seq ?_
  refine WP.region ?_
  refine Ops.y (v := .agg #[_, _]) (Y.loadv ty_54 rfl (I.rdbox 0 rfl 0 2) rfl rfl) ?_
  refine Ops.y (v := .int .i64 _) (Y.move rfl) ?_
  refine Ops.go (O.call I Try.call38 (Needs_ok _ I.base_ok p (hp.le le37) hnm k) rfl ?_)
  rintro v43 h43 w I le43 hN
  rcases hN with ⟨hx, _⟩ | ⟨_, hx, _⟩ | ⟨_, _, y, hy, hyi, rfl⟩
  exact absurd hc hx
  omega
  refine Ops.y (v := .tuple #[_, _]) (Y.move rfl) ?_
  refine Ops.y (v := .slice _ _ _) (Y.extract rfl rfl) ?_
  refine Ops.y (v := .int .i64 _) (Y.extract rfl rfl) ?_
  refine Ops.y (v := .slice _ _ _) (Y.assign rfl) ?_
  refine Ops.y (v := .int .i64 _) (Y.assign rfl) ?_
  refine Ops.nil ?_
  have hxi := hxi.le le43
  have hxl := hx.len
  have hyl := hy.len
  have hil : i.toNat < x.xs.length := by rw [hxl]; omega
  have hkl : k.toNat < x.xs.length := by rw [hxl]; omega
  have Ei := hxi.at hil
  have Ek := hxi.at hkl
  refine WP.seq ?_
  refine WP.seq ?_
  refine WP.region ?_
  refine Ops.y (v := .int .i64 _) (Y.move rfl) ?_
  refine Ops.y (v := .bool false) (Y.dec_f (Y.nei rfl rfl) ((by decide))) ?_
  refine Ops.y (v := .bool _) (Y.move rfl) ?_
  refine Ops.ygt rfl (v := .int .i64 _) (Y.move rfl) ?_
  refine Ops.ygt rfl (v := .bool false) (Y.dec_f (Y.nei rfl rfl) ((by decide))) ?_
  refine Ops.y (v := .bool _) (Y.pick_f rfl rfl) ?_
  refine Ops.y (v := .bool _) (Y.move rfl) ?_
  refine Ops.ygt rfl (v := .slice _ _ _) (Y.move rfl) ?_
  refine Ops.ygt rfl (v := .int .i64 _) (Y.lens Try.underlying61 rfl) ?_
  refine Ops.ygt rfl (v := .pointer (some ⟨_, _, none⟩)) (Y.fa0 fa_54_0 rfl) ?_
  refine Ops.ygt rfl (v := .slice _ _ _) (Y.loadv ty_32 rfl (I.rdbox 0 rfl 0 1) rfl rfl) ?_
  refine Ops.ygt rfl (v := .int .i64 _) (Y.lens Try.underlying32 rfl) ?_
  refine Ops.ygt rfl (v := .bool false) (Y.dec_f (Y.nei rfl rfl) ((by rw [hxl]; simp))) ?_
  refine Ops.y (v := .bool _) (Y.pick_f rfl rfl) ?_
  refine Ops.y (v := .bool _) (Y.move rfl) ?_
  refine Ops.ygt rfl (v := .slice _ _ _) (Y.move rfl) ?_
  refine Ops.ygt rfl (v := .int .i64 _) (Y.lens Try.underlying61 rfl) ?_
  refine Ops.ygt rfl (v := .pointer (some ⟨_, _, none⟩)) (Y.fa0 fa_54_0 rfl) ?_
  refine Ops.ygt rfl (v := .slice _ _ _) (Y.loadv ty_32 rfl (I.rdbox 0 rfl 0 1) rfl rfl) ?_
  refine Ops.ygt rfl (v := .int .i64 _) (Y.lens Try.underlying32 rfl) ?_
  refine Ops.ygt rfl (v := .bool false) (Y.dec_f (Y.nei rfl rfl) ((by rw [hyl]; simp))) ?_
  refine Ops.y (v := .bool _) (Y.pick_f rfl rfl) ?_
  refine Ops.y (v := .bool _) (Y.move rfl) ?_
  refine Ops.ygt rfl (v := .slice _ _ _) (Y.move rfl) ?_
  refine Ops.ygt rfl (v := .int .i64 _) (Y.move rfl) ?_
  refine Ops.ygt rfl (v := .pointer (some ⟨_, _, none⟩)) (Y.idxEl Ei Try.underlying61 Try.sizeOf4 rfl rfl hi01.1 rfl) ?_
  refine Ops.ygt rfl (v := .bool true) (Y.b (Y.loadv ty_4 rfl (I.rd (Ei.rd.part 0 1)) rfl rfl) ((by rw [bvg hil]; exact (hx.iff i hi01.1 hi01.2).2 .refl))) ?_
  refine Ops.ygt rfl (v := .bool false) (Y.not (b := true) rfl) ?_
  refine Ops.y (v := .bool _) (Y.pick_f rfl rfl) ?_
  refine Ops.nil ?_
  refine WP.cond_f rfl ?_
  refine WP.skip ?_
  refine WP.seq ?_
  refine WP.seq ?_
  refine WP.region ?_
  refine Ops.y (v := .int .i64 _) (Y.assign rfl) ?_
  refine Ops.nil ?_
  refine WP.block ?_
  refine WP.loopE (σ := Nat) (fun n => [(7, .int .i64 i), (8, .int .i64 k), (9, x.val), (11, y.val), (13, .int .i64 n)]) (fun n w => Inv B h43 [] w ∧ n ≤ y.xs.length) (fun n => y.xs.length - n)
    ⟨0, ⟨rfl, rfl, rfl, rfl, rfl, trivial⟩, I.clear, Nat.zero_le _⟩ ?_
  rintro n e w ⟨I, hn⟩
  by_cases hlt : (n : Int) < y.xs.length
  · have hn' : n < y.xs.length := by omega
    have hnx : n < x.xs.length := by rw [hxl, ← hyl]; exact hn'
    have Ey := hyi.at hn'
    have Ex := hxi.at hnx
    cases hxk : x.xs[k.toNat]
    · refine WP.seq ?_
      refine WP.seq ?_
      refine WP.region ?_
      refine Ops.y (v := .int .i64 _) (Y.move rfl) ?_
      refine Ops.y (v := .slice _ _ _) (Y.move rfl) ?_
      refine Ops.y (v := .int .i64 _) (Y.lens Try.underlying61 rfl) ?_
      refine Ops.y (v := .bool true) (Y.dec_t (Y.lti rfl rfl) (hlt)) ?_
      refine Ops.y (v := .bool _) (Y.move rfl) ?_
      refine Ops.ygt rfl (v := .slice _ _ _) (Y.move rfl) ?_
      refine Ops.ygt rfl (v := .int .i64 _) (Y.move rfl) ?_
      refine Ops.ygt rfl (v := .pointer (some ⟨_, _, none⟩)) (Y.idxEl Ek Try.underlying61 Try.sizeOf4 rfl rfl hk01.1 rfl) ?_
      refine Ops.ygt rfl (v := .bool false) (Y.b (Y.loadv ty_4 rfl (I.rd (Ek.rd.part 0 1)) rfl rfl) (hxk)) ?_
      refine Ops.y (v := .bool _) (Y.pick_t rfl rfl) ?_
      refine Ops.nil ?_
      refine WP.cond_f rfl ?_
      refine WP.exit ?_
      refine WP.seq ?_
      refine WP.region ?_
      refine Ops.go (O.callv I Try.call32 (progBegun_ok _ I.base_ok) rfl ?_)
      intro w I
      refine Ops.y (v := .bool _) (Y.assign rfl) ?_
      refine Ops.nil ?_
      refine WP.ret ?_
      repeat (first | refine thenE_ret ?_ | refine blockE_ret ?_)
      exact retQ.mk (vs := [.bool _]) rfl ⟨rfl, trivial⟩ I.ext_of (rfl)
    · refine WP.seq ?_
      refine WP.seq ?_
      refine WP.region ?_
      refine Ops.y (v := .int .i64 _) (Y.move rfl) ?_
      refine Ops.y (v := .slice _ _ _) (Y.move rfl) ?_
      refine Ops.y (v := .int .i64 _) (Y.lens Try.underlying61 rfl) ?_
      refine Ops.y (v := .bool true) (Y.dec_t (Y.lti rfl rfl) (hlt)) ?_
      refine Ops.y (v := .bool _) (Y.move rfl) ?_
      refine Ops.ygt rfl (v := .slice _ _ _) (Y.move rfl) ?_
      refine Ops.ygt rfl (v := .int .i64 _) (Y.move rfl) ?_
      refine Ops.ygt rfl (v := .pointer (some ⟨_, _, none⟩)) (Y.idxEl Ek Try.underlying61 Try.sizeOf4 rfl rfl hk01.1 rfl) ?_
      refine Ops.ygt rfl (v := .bool true) (Y.b (Y.loadv ty_4 rfl (I.rd (Ek.rd.part 0 1)) rfl rfl) (hxk)) ?_
      refine Ops.y (v := .bool _) (Y.pick_t rfl rfl) ?_
      refine Ops.nil ?_
      refine WP.cond_t rfl ?_
      cases hyn : y.xs[n]
      · refine WP.skip ?_
        refine WP.seq ?_
        refine WP.block ?_
        refine WP.seq ?_
        refine WP.region ?_
        refine Ops.y (v := .slice _ _ _) (Y.move rfl) ?_
        refine Ops.y (v := .int .i64 _) (Y.move rfl) ?_
        refine Ops.y (v := .pointer (some ⟨_, _, none⟩)) (Y.idxEl Ey Try.underlying61 Try.sizeOf4 rfl rfl (Int.natCast_nonneg _) rfl) ?_
        refine Ops.y (v := .bool false) (Y.b (Y.loadv ty_4 rfl (I.rd (Ey.rd.part 0 1)) rfl rfl) (hyn)) ?_
        refine Ops.y (v := .bool _) (Y.move rfl) ?_
        refine Ops.gf rfl ?_
        refine Ops.gf rfl ?_
        refine Ops.gf rfl ?_
        refine Ops.gf rfl ?_
        refine Ops.gf rfl ?_
        refine Ops.y (v := .bool _) (Y.pick_f rfl rfl) ?_
        refine Ops.nil ?_
        refine WP.cond_f rfl ?_
        refine WP.skip ?_
        refine WP.region ?_
        refine Ops.y (v := .int .i64 _) (Y.move rfl) ?_
        refine Ops.y (v := .int .i64 _) (Y.addi rfl rfl ⟨by omega, by omega⟩) ?_
        refine Ops.y (v := .int .i64 _) (Y.assign rfl) ?_
        refine Ops.nil ?_
        exact ⟨n + 1, ⟨⟨rfl, rfl, rfl, rfl, rfl, trivial⟩, I, hn'⟩, by omega⟩
      · have hxn : x.xs[n] = true := by
          have e1 : x.xs[n] = bv x.xs n := by simp [bv, List.getD_eq_getElem?_getD, hnx]
          have e2 : y.xs[n] = bv y.xs n := by simp [bv, List.getD_eq_getElem?_getD, hn']
          rw [e1]
          have hnn : (n : Int) < p.preds.xs.length := by rw [← hyl]; exact hlt
          have r1 := (hx.iff k hk01.1 hk01.2).1 (by rw [← bvg hkl]; exact hxk)
          have r2 := (hy.iff n (by omega) hnn).1 (by rw [← e2]; exact hyn)
          exact (hx.iff n (by omega) hnn).2 (r1.trans r2)
        refine WP.skip ?_
        refine WP.seq ?_
        refine WP.block ?_
        refine WP.seq ?_
        refine WP.region ?_
        refine Ops.y (v := .slice _ _ _) (Y.move rfl) ?_
        refine Ops.y (v := .int .i64 _) (Y.move rfl) ?_
        refine Ops.y (v := .pointer (some ⟨_, _, none⟩)) (Y.idxEl Ey Try.underlying61 Try.sizeOf4 rfl rfl (Int.natCast_nonneg _) rfl) ?_
        refine Ops.y (v := .bool true) (Y.b (Y.loadv ty_4 rfl (I.rd (Ey.rd.part 0 1)) rfl rfl) (hyn)) ?_
        refine Ops.y (v := .bool _) (Y.move rfl) ?_
        refine Ops.ygt rfl (v := .slice _ _ _) (Y.move rfl) ?_
        refine Ops.ygt rfl (v := .int .i64 _) (Y.move rfl) ?_
        refine Ops.ygt rfl (v := .pointer (some ⟨_, _, none⟩)) (Y.idxEl Ex Try.underlying61 Try.sizeOf4 rfl rfl (Int.natCast_nonneg _) rfl) ?_
        refine Ops.ygt rfl (v := .bool true) (Y.b (Y.loadv ty_4 rfl (I.rd (Ex.rd.part 0 1)) rfl rfl) (hxn)) ?_
        refine Ops.ygt rfl (v := .bool false) (Y.not (b := true) rfl) ?_
        refine Ops.y (v := .bool _) (Y.pick_t rfl rfl) ?_
        refine Ops.nil ?_
        refine WP.cond_f rfl ?_
        refine WP.skip ?_
        refine WP.region ?_
        refine Ops.y (v := .int .i64 _) (Y.move rfl) ?_
        refine Ops.y (v := .int .i64 _) (Y.addi rfl rfl ⟨by omega, by omega⟩) ?_
        refine Ops.y (v := .int .i64 _) (Y.assign rfl) ?_
        refine Ops.nil ?_
        exact ⟨n + 1, ⟨⟨rfl, rfl, rfl, rfl, rfl, trivial⟩, I, hn'⟩, by omega⟩
  · refine WP.seq ?_
    refine WP.seq ?_
    refine WP.region ?_
    refine Ops.y (v := .int .i64 _) (Y.move rfl) ?_
    refine Ops.y (v := .slice _ _ _) (Y.move rfl) ?_
    refine Ops.y (v := .int .i64 _) (Y.lens Try.underlying61 rfl) ?_
    refine Ops.y (v := .bool false) (Y.dec_f (Y.lti rfl rfl) (hlt)) ?_
    refine Ops.y (v := .bool _) (Y.move rfl) ?_
    refine Ops.gf rfl ?_
    refine Ops.gf rfl ?_
    refine Ops.gf rfl ?_
    refine Ops.gf rfl ?_
    refine Ops.y (v := .bool _) (Y.pick_f rfl rfl) ?_
    refine Ops.nil ?_
    refine WP.cond_f rfl ?_
    refine WP.exit ?_
    refine WP.seq ?_
    refine WP.region ?_
    refine Ops.go (O.callv I Try.call32 (progBegun_ok _ I.base_ok) rfl ?_)
    intro w I
    refine Ops.y (v := .bool _) (Y.assign rfl) ?_
    refine Ops.nil ?_
    refine WP.ret ?_
    repeat (first | refine thenE_ret ?_ | refine blockE_ret ?_)
    exact retQ.mk (vs := [.bool _]) rfl ⟨rfl, trivial⟩ I.ext_of (rfl)
end Go.TF
