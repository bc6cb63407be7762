/- Texts ProgLaw2 Nai2 Nai3. -/
import Derived.Test.YtgblgeddpegplaaGreatU9
import Derived.Test.YtgblgeddpegplaaGreatU8
section
/- The other two laws of programs: each returns true. -/
namespace Go.TF
open Go Go.RowKit Go.Proofs
set_option maxRecDepth 20000

def chooseI (c n : Int) : Int := (if c < 0 then -(c + 1) else c).tmod n
theorem chooseI_in {c n : Int} (hn : 0 < n) : 0 ≤ chooseI c n ∧ chooseI c n < n :=
  ⟨Int.tmod_nonneg _ (by split <;> omega), Int.tmod_lt_of_pos _ hn⟩
theorem choose_ok (B : Base) (hB : B.ok) (c n : Int) (hc : I64 c) (hn : 0 < n) : Fn Tryz.prog 46 [.int .i64 c, .int .i64 n] B (fun v _ => v = .int .i64 (chooseI c n)) := by
  unfold I64 at hc
  refine Fn.of Tryz.func46 rfl Tryz.ntmps46 (by kernel_rfl) (by simp) ?_
  intro e
  have I := Inv.start hB
  refine WP.seq ?_
  refine WP.region ?_
  refine Ops.y (v := .int .i64 _) (Y.assign rfl) ?_
  refine Ops.nil ?_
  refine WP.seq ?_
  refine WP.seq ?_
  refine WP.region ?_
  refine Ops.y (v := .int .i64 _) (Y.move rfl) ?_
  refine Ops.y (v := .bool (decide _)) (Y.lti rfl rfl) ?_
  refine Ops.nil ?_
  refine WP.cond_dec rfl (fun h => ?_) (fun h => ?_)
  · refine WP.region ?_
    refine Ops.y (v := .int .i64 _) (Y.move rfl) ?_
    refine Ops.y (v := .int .i64 _) (Y.addi rfl rfl ⟨by omega, by omega⟩) ?_
    refine Ops.y (v := .int .i64 _) (Y.negi rfl ⟨by omega, by omega⟩) ?_
    refine Ops.y (v := .int .i64 _) (Y.assign rfl) ?_
    refine Ops.nil ?_
    refine WP.seq ?_
    refine WP.region ?_
    refine Ops.y (v := .int .i64 _) (Y.move rfl) ?_
    refine Ops.y (v := .int .i64 _) (Y.move rfl) ?_
    refine Ops.y (v := .int .i64 _) (Y.remi rfl rfl (by omega)) ?_
    refine Ops.y (v := .int .i64 _) (Y.assign rfl) ?_
    refine Ops.nil ?_
    refine WP.ret ?_
    repeat (first | refine thenE_ret ?_ | refine blockE_ret ?_)
    exact retQ.mk (vs := [.int .i64 _]) rfl ⟨rfl, trivial⟩ I.ext_of (by simp only [tup, chooseI]; rw [if_pos h])
  · refine WP.skip ?_
    refine WP.seq ?_
    refine WP.region ?_
    refine Ops.y (v := .int .i64 _) (Y.move rfl) ?_
    refine Ops.y (v := .int .i64 _) (Y.move rfl) ?_
    refine Ops.y (v := .int .i64 _) (Y.remi rfl rfl (by omega)) ?_
    refine Ops.y (v := .int .i64 _) (Y.assign rfl) ?_
    refine Ops.nil ?_
    refine WP.ret ?_
    repeat (first | refine thenE_ret ?_ | refine blockE_ret ?_)
    exact retQ.mk (vs := [.int .i64 _]) rfl ⟨rfl, trivial⟩ I.ext_of (by simp only [tup, chooseI]; rw [if_neg h])
def Asked (L : List Int) (k : Int) (cs : List (Int × Ltl)) : Prop := lv L k = 0 ∨ ∃ c ∈ cs, c.1 = k ∧ lv L k = lst L c
theorem Least.asked {cs : List (Int × Ltl)} {n : Nat} {L : List Int} (hr : InR cs n) (h : Least cs n L) {k : Int} (k0 : 0 ≤ k) (k1 : k < n) : Asked L k cs := by
  refine Classical.byContradiction fun hno => ?_
  unfold Asked at hno
  have hz : lv L k ≠ 0 := fun e => hno (.inl e)
  have hc : ∀ c ∈ cs, c.1 = k → lv L k ≠ lst L c := fun c hc e e2 => hno (.inr ⟨c, hc, e, e2⟩)
  have hp := h.sol.pos k
  have hkl : k < L.length := by rw [h.sol.len]; exact k1
  have hle : ∀ i : Int, 0 ≤ i → lv (L.set k.toNat (lv L k - 1)) i ≤ lv L i := fun i h0 => by
    rw [lv_set k0 hkl _ _ h0]; split
    · rename_i e; subst e; omega
    · omega
  have hM : Sol cs n (L.set k.toNat (lv L k - 1)) := by
    refine ⟨by simp [h.sol.len], fun i => ?_, fun c hcm => ?_⟩
    · have key : ∀ i : Int, 0 ≤ i → 0 ≤ lv (L.set k.toNat (lv L k - 1)) i := fun i h0 => by
        rw [lv_set k0 hkl _ _ h0]; split
        · omega
        · exact h.sol.pos i
      by_cases h0 : 0 ≤ i
      · exact key i h0
      · rw [lv_neg _ (by omega)]; exact key 0 (Int.le_refl 0)
    · have hh := hr.h c hcm
      have hb := hr.b c hcm
      have hs := h.sol.sat c hcm
      have h2 := hle _ hb.1
      unfold SatC lst at hs ⊢
      rw [lv_set k0 hkl _ c.1 hh.1]
      split
      · rename_i e
        have := hc c hcm e
        unfold lst at this
        rw [e] at hs; omega
      · omega
  have := h.least _ hM k
  rw [lv_set k0 hkl _ _ k0, if_pos rfl] at this
  omega
theorem Least.lt {cs : List (Int × Ltl)} {n : Nat} {L : List Int} (hr : InR cs n) (h : Least cs n L) {i : Int} (h0 : 0 ≤ i) (h1 : i < n) : lv L i < n := by
  obtain ⟨M', hM', hlt⟩ := h.sol.small hr
  exact Int.lt_of_le_of_lt (h.least M' hM' i) (hlt i h0 h1)
theorem Reach.trans {cs : List (Int × Ltl)} {a b c : Int} (h : Reach cs a b) (k : Reach cs b c) : Reach cs a c := by
  induction k with
  | refl => exact h
  | step _ hu ih => exact .step ih hu
end Go.TF
end
section
/- The roads' model; what must be in any case of the model. -/
namespace Go.TF
open Go Go.RowKit Go.Proofs
set_option maxRecDepth 20000

def rdM0 : List Fct := ((cloF (turnT roadsC [0, 0, 1] 0) 8 []).getD ([], 0)).1
def rdM : List Fct := ((cloF (turnT roadsC [0, 0, 1] 1) 8 rdM0).getD ([], 0)).1
theorem rdM0_clo : cloF (turnT roadsC [0, 0, 1] 0) 8 [] = some (rdM0, 4) := by kernel_rfl
theorem rdM_clo : cloF (turnT roadsC [0, 0, 1] 1) 8 rdM0 = some (rdM, 1) := by kernel_rfl
section
variable {p : Prg} {h : Heap} (hp : RoadsAt p h)
include hp
theorem rd_ofQs (st : Int) (n : Nat) (hn : n < 7) : ofQ p [0, 0, 1] st n = ofQ roadsC [0, 0, 1] st n := by
  have h1 : (p.rules.xs.map Rul.er).getD n default = roadsC.rules.xs.getD n default := by rw [rd_rules hp]
  have h2 : n < p.rules.xs.length := by rw [rd_len hp]; exact hn
  rw [List.getD_eq_getElem?_getD, List.getElem?_map, List.getElem?_eq_getElem h2] at h1
  unfold ofQ
  rw [← h1, List.getD_eq_getElem?_getD, List.getElem?_eq_getElem h2]
  rfl
theorem rd_told (st : Int) (f : List Fct) : toldL p.preds.xs f p.rules.xs (ofQ p [0, 0, 1] st) = toldL roadsC.preds.xs f roadsC.rules.xs (ofQ roadsC [0, 0, 1] st) := by
  rw [rd_preds hp, ← rd_rules hp, toldL_er]
  exact toldK_congr fun n hn => rd_ofQs hp st n (by rw [rd_len hp] at hn; exact hn)
theorem rd_turn (st : Int) : turnT p [0, 0, 1] st = turnT roadsC [0, 0, 1] st := by
  funext f
  unfold turnT
  rw [rd_told hp, rd_preds hp]
theorem rd_mod : ModK p (strataM p) (numS (strataM p)) rdM [4, 1] := by
  rw [rd_strata hp, show numS [0, 0, 1] = 2 by decide]
  refine ⟨rdM0, [4], 1, ⟨[], [], 4, ⟨rfl, rfl⟩, ?_, rfl⟩, ?_, rfl⟩
  · rw [rd_turn hp]; exact cloF_clo rdM0_clo
  · rw [rd_turn hp]; exact cloF_clo rdM_clo
end
/-- The roads' model. -/
theorem rd_Model (B : Base) (hB : B.ok) (p : Prg) (hp : RoadsAt p B.h) : Fn Tryz.prog 28 [p.val] B (fun v h => ∃ s : Sl Fct, v = .tuple #[s.val, .int .i64 0] ∧ s.xs = rdM ∧ Fcts s h) :=
  (Model_ok B hB p hp.is hp.nm).mono fun v h' _ hv => by
    rcases hv with ⟨h1, _⟩ | ⟨_, s, rs, rfl, hs, hm⟩
    · exact absurd hp.check h1
    · exact ⟨s, rfl, ((rd_mod hp).uniq hm).1, hs⟩
theorem rd_Rounds (B : Base) (hB : B.ok) (p : Prg) (hp : RoadsAt p B.h) : Fn Tryz.prog 29 [p.val] B (fun v h => ∃ s : Sl Int, v = .tuple #[s.val, .int .i64 0] ∧ s.xs = [4, 1] ∧ s.Is 1 iEnc h) :=
  (Rounds_ok B hB p hp.is hp.nm).mono fun v h' _ hv => by
    rcases hv with ⟨h1, _⟩ | ⟨_, s, f, rfl, hs, hm⟩
    · exact absurd hp.check h1
    · exact ⟨s, rfl, ((rd_mod hp).uniq hm).2, hs⟩
theorem rd_find1 {p : Prg} {h : Heap} (hp : RoadsAt p h) : findOf p.preds.xs rdM ⟨1, 3, 2, 0⟩ = (3, true, 0) := by rw [rd_preds hp]; kernel_rfl
theorem rd_find2 {p : Prg} {h : Heap} (hp : RoadsAt p h) : (findOf p.preds.xs rdM ⟨2, 3, 0, 0⟩) = (0, true, 0) := by rw [rd_preds hp]; kernel_rfl
theorem rd_find3 {p : Prg} {h : Heap} (hp : RoadsAt p h) : (findOf p.preds.xs rdM ⟨2, 0, 0, 0⟩) = (0, false, 0) := by rw [rd_preds hp]; kernel_rfl
theorem SameInts_at (B : Base) (hB : B.ok) (a b : Sl Int) (ha : a.Is 1 iEnc B.h) (hb : b.Is 1 iEnc B.h) (h : a.xs = b.xs) : Fn Tryz.prog 33 [a.val, b.val] B (fun v _ => v = .bool true) := by
  have := SameInts_ok B hB a b ha hb
  rwa [decide_eq_true h] at this
set_option maxHeartbeats 4000000 in
theorem naiveBegun_ok (B : Base) (hB : B.ok) : Fn Tryz.prog 32 [] B (fun v _ => v = .bool true) := by
  refine Fn.of Tryz.func32 rfl Tryz.ntmps32 (by kernel_rfl) (by simp) ?_
  intro e
  have I := Inv.start hB
  refine WP.seq ?_
  refine WP.region ?_
  refine Ops.y (v := .bool _) (Y.assign rfl) ?_
  refine Ops.nil ?_
  refine WP.seq ?_
  refine WP.region ?_
  refine Ops.go (O.call I Tryz.call81 (roads_ok _ I.base_ok) rfl ?_)
  rintro _ h1 w I le1 ⟨p1, rfl, hp1⟩
  refine Ops.go (O.call I Tryz.call28 (rd_Model _ I.base_ok p1 hp1) rfl ?_)
  rintro _ h2 w I le2 ⟨m, rfl, em, im⟩
  refine Ops.y (v := .tuple #[_, _]) (Y.move rfl) ?_
  refine Ops.y (v := .slice _ _ _) (Y.extract rfl rfl) ?_
  refine Ops.y (v := .int .i64 _) (Y.extract rfl rfl) ?_
  refine Ops.y (v := .slice _ _ _) (Y.assign rfl) ?_
  refine Ops.y (v := .int .i64 _) (Y.assign rfl) ?_
  refine Ops.nil ?_
  refine WP.seq ?_
  refine WP.region ?_
  refine Ops.go (O.call I Tryz.call81 (roads_ok _ I.base_ok) rfl ?_)
  rintro _ h3 w I le3 ⟨p2, rfl, hp2⟩
  refine Ops.go (O.call I Tryz.call29 (rd_Rounds _ I.base_ok p2 hp2) rfl ?_)
  rintro _ h4 w I le4 ⟨r, rfl, er, ir⟩
  refine Ops.y (v := .tuple #[_, _]) (Y.move rfl) ?_
  refine Ops.y (v := .slice _ _ _) (Y.extract rfl rfl) ?_
  refine Ops.y (v := .int .i64 _) (Y.extract rfl rfl) ?_
  refine Ops.y (v := .slice _ _ _) (Y.assign rfl) ?_
  refine Ops.y (v := .int .i64 _) (Y.assign rfl) ?_
  refine Ops.nil ?_
  have im := (im.le le3).le le4
  refine WP.seq ?_
  refine WP.region ?_
  refine Ops.go (O.call I Tryz.call81 (roads_ok _ I.base_ok) rfl ?_)
  rintro _ h5 w I le5 ⟨p3, rfl, hp3⟩
  refine Ops.y (v := .slice _ _ _) (Y.field fd_25_0 ty_22 rfl rfl rfl rfl) ?_
  refine Ops.y (v := .slice _ _ _) (Y.move rfl) ?_
  refine Ops.y (v := .agg #[.int .i64 _, .int .i64 _, .int .i64 _, .int .i64 _]) (Y.build pl_52 Tryz.zeroValue52 rfl rfl) ?_
  refine Ops.go (O.callv I Tryz.call88 (Find_at _ I.base_ok p3.preds hp3.is.preds m (im.le le5) ⟨1, 3, 2, 0⟩ (3, true, 0) (by rw [em]; exact rd_find1 hp3)) rfl ?_)
  intro w I
  refine Ops.y (v := .tuple #[_, _, _]) (Y.move rfl) ?_
  refine Ops.y (v := .int .i64 _) (Y.extract rfl rfl) ?_
  refine Ops.y (v := .bool _) (Y.extract rfl rfl) ?_
  refine Ops.y (v := .int .i64 _) (Y.extract rfl rfl) ?_
  refine Ops.y (v := .int .i64 _) (Y.assign rfl) ?_
  refine Ops.y (v := .bool _) (Y.assign rfl) ?_
  refine Ops.y (v := .int .i64 _) (Y.assign rfl) ?_
  refine Ops.nil ?_
  refine WP.seq ?_
  refine WP.region ?_
  refine Ops.go (O.call I Tryz.call81 (roads_ok _ I.base_ok) rfl ?_)
  rintro _ h6 w I le6 ⟨p4, rfl, hp4⟩
  refine Ops.y (v := .slice _ _ _) (Y.field fd_25_0 ty_22 rfl rfl rfl rfl) ?_
  refine Ops.y (v := .slice _ _ _) (Y.move rfl) ?_
  refine Ops.y (v := .agg #[.int .i64 _, .int .i64 _, .int .i64 _, .int .i64 _]) (Y.build pl_52 Tryz.zeroValue52 rfl rfl) ?_
  refine Ops.go (O.callv I Tryz.call88 (Find_at _ I.base_ok p4.preds hp4.is.preds m ((im.le le5).le le6) ⟨2, 3, 0, 0⟩ (0, true, 0) (by rw [em]; exact rd_find2 hp4)) rfl ?_)
  intro w I
  refine Ops.y (v := .tuple #[_, _, _]) (Y.move rfl) ?_
  refine Ops.y (v := .int .i64 _) (Y.extract rfl rfl) ?_
  refine Ops.y (v := .bool _) (Y.extract rfl rfl) ?_
  refine Ops.y (v := .int .i64 _) (Y.extract rfl rfl) ?_
  refine Ops.y (v := .int .i64 _) (Y.assign rfl) ?_
  refine Ops.y (v := .bool _) (Y.assign rfl) ?_
  refine Ops.y (v := .int .i64 _) (Y.assign rfl) ?_
  refine Ops.nil ?_
  refine WP.seq ?_
  refine WP.region ?_
  refine Ops.go (O.call I Tryz.call81 (roads_ok _ I.base_ok) rfl ?_)
  rintro _ h7 w I le7 ⟨p5, rfl, hp5⟩
  refine Ops.y (v := .slice _ _ _) (Y.field fd_25_0 ty_22 rfl rfl rfl rfl) ?_
  refine Ops.y (v := .slice _ _ _) (Y.move rfl) ?_
  refine Ops.y (v := .agg #[.int .i64 _, .int .i64 _, .int .i64 _, .int .i64 _]) (Y.build pl_52 Tryz.zeroValue52 rfl rfl) ?_
  refine Ops.go (O.callv I Tryz.call88 (Find_at _ I.base_ok p5.preds hp5.is.preds m (((im.le le5).le le6).le le7) ⟨2, 0, 0, 0⟩ (0, false, 0) (by rw [em]; exact rd_find3 hp5)) rfl ?_)
  intro w I
  refine Ops.y (v := .tuple #[_, _, _]) (Y.move rfl) ?_
  refine Ops.y (v := .int .i64 _) (Y.extract rfl rfl) ?_
  refine Ops.y (v := .bool _) (Y.extract rfl rfl) ?_
  refine Ops.y (v := .int .i64 _) (Y.extract rfl rfl) ?_
  refine Ops.y (v := .int .i64 _) (Y.assign rfl) ?_
  refine Ops.y (v := .bool _) (Y.assign rfl) ?_
  refine Ops.y (v := .int .i64 _) (Y.assign rfl) ?_
  refine Ops.nil ?_
  have n1 : m.xs.length = 17 := by rw [em]; kernel_rfl
  have ir := ((ir.le le5).le le6).le le7
  refine WP.seq ?_
  refine WP.region ?_
  refine Ops.y (v := .int .i64 _) (Y.move rfl) ?_
  refine Ops.y (v := .bool true) (Y.dec_t (Y.eqi rfl rfl) (rfl)) ?_
  refine Ops.y (v := .bool _) (Y.move rfl) ?_
  refine Ops.ygt rfl (v := .int .i64 _) (Y.move rfl) ?_
  refine Ops.ygt rfl (v := .bool true) (Y.dec_t (Y.eqi rfl rfl) (rfl)) ?_
  refine Ops.y (v := .bool _) (Y.pick_t rfl rfl) ?_
  refine Ops.y (v := .bool _) (Y.move rfl) ?_
  refine Ops.ygt rfl (v := .int .i64 _) (Y.move rfl) ?_
  refine Ops.ygt rfl (v := .bool true) (Y.dec_t (Y.eqi rfl rfl) (rfl)) ?_
  refine Ops.y (v := .bool _) (Y.pick_t rfl rfl) ?_
  refine Ops.y (v := .bool _) (Y.move rfl) ?_
  refine Ops.ygt rfl (v := .int .i64 _) (Y.move rfl) ?_
  refine Ops.ygt rfl (v := .bool true) (Y.dec_t (Y.eqi rfl rfl) (rfl)) ?_
  refine Ops.y (v := .bool _) (Y.pick_t rfl rfl) ?_
  refine Ops.y (v := .bool _) (Y.move rfl) ?_
  refine Ops.ygt rfl (v := .int .i64 _) (Y.move rfl) ?_
  refine Ops.ygt rfl (v := .bool true) (Y.dec_t (Y.eqi rfl rfl) (rfl)) ?_
  refine Ops.y (v := .bool _) (Y.pick_t rfl rfl) ?_
  refine Ops.y (v := .bool _) (Y.move rfl) ?_
  refine Ops.ygt rfl (v := .slice _ _ _) (Y.move rfl) ?_
  refine Ops.ygt rfl (v := .int .i64 _) (Y.lens Tryz.underlying26 rfl) ?_
  refine Ops.ygt rfl (v := .bool true) (Y.dec_t (Y.eqi rfl rfl) ((by rw [n1]; rfl))) ?_
  refine Ops.y (v := .bool _) (Y.pick_t rfl rfl) ?_
  refine Ops.y (v := .bool _) (Y.move rfl) ?_
  refine Ops.ygt rfl (v := .int .i64 _) (Y.move rfl) ?_
  refine Ops.ygt rfl (v := .bool true) (Y.dec_t (Y.eqi rfl rfl) (rfl)) ?_
  refine Ops.y (v := .bool _) (Y.pick_t rfl rfl) ?_
  refine Ops.y (v := .bool _) (Y.move rfl) ?_
  refine Ops.ygt rfl (v := .bool _) (Y.move rfl) ?_
  refine Ops.y (v := .bool _) (Y.pick_t rfl rfl) ?_
  refine Ops.y (v := .bool _) (Y.move rfl) ?_
  refine Ops.ygt rfl (v := .bool _) (Y.move rfl) ?_
  refine Ops.y (v := .bool _) (Y.pick_t rfl rfl) ?_
  refine Ops.y (v := .bool _) (Y.move rfl) ?_
  refine Ops.ygt rfl (v := .bool _) (Y.move rfl) ?_
  refine Ops.ygt rfl (v := .bool true) (Y.b (Y.not rfl) (rfl)) ?_
  refine Ops.y (v := .bool _) (Y.pick_t rfl rfl) ?_
  refine Ops.y (v := .bool _) (Y.move rfl) ?_
  refine Ops.ygt rfl (v := .slice _ _ _) (Y.move rfl) ?_
  refine Ops.gt rfl (O.mksl (xs := [(4 : Int), 1]) (enc := iEnc) I Tryz.underlying45 Tryz.sizeOf3 Tryz.zeroValue3 rfl (Nat.le_of_ble_eq_true rfl) rfl rfl (by decide) (fun _ => rfl) ?_)
  intro b90 h90 w I le90 sl90
  refine Ops.gt rfl (O.callv I Tryz.call33 (SameInts_at _ I.base_ok r ⟨some ⟨b90, 0, none⟩, 2, [4, 1]⟩ (ir.le le90) ⟨sl90, by simp⟩ er) rfl ?_)
  intro w I
  refine Ops.y (v := .bool _) (Y.pick_t rfl rfl) ?_
  refine Ops.y (v := .bool _) (Y.assign rfl) ?_
  refine Ops.nil ?_
  refine WP.ret ?_
  repeat (first | refine thenE_ret ?_ | refine blockE_ret ?_)
  exact retQ.mk (vs := [.bool _]) rfl ⟨rfl, trivial⟩ I.ext_of (rfl)
set_option maxHeartbeats 4000000 in
theorem NaiveTells_ok (B : Base) (hB : B.ok) (p : Prg) (hp : p.In B.h) (hnm : p.Nm) : Fn Tryz.prog 6 [p.val] B (fun v _ => v = .bool true) := by
  refine Fn.of Tryz.func6 rfl Tryz.ntmps6 (by kernel_rfl) (by simp) ?_
  intro e
  have I := Inv.start hB
  refine WP.seq ?_
  refine WP.region ?_
  refine Ops.go (O.box (v := .agg #[_, _]) I rfl rfl ?_)
  intro b1 w I
  refine Ops.y (v := .bool _) (Y.assign rfl) ?_
  refine Ops.nil ?_
  by_cases hpr : checkProg p = 0
  · refine WP.seq ?_
    refine WP.region ?_
    refine Ops.y (v := .agg #[_, _]) (Y.loadv ty_25 rfl (I.rdbox 0 rfl 0 2) rfl rfl) ?_
    refine Ops.go (O.call I Tryz.call28 (Model_ok _ I.base_ok p hp hnm) rfl ?_)
    rintro v12 h1 w I le1 hv
    rcases hv with ⟨h, _⟩ | ⟨_, s, rs, rfl, hs, hm⟩
    exact absurd hpr h
    refine Ops.y (v := .tuple #[_, _]) (Y.move rfl) ?_
    refine Ops.y (v := .slice _ _ _) (Y.extract rfl rfl) ?_
    refine Ops.y (v := .int .i64 _) (Y.extract rfl rfl) ?_
    refine Ops.y (v := .slice _ _ _) (Y.assign rfl) ?_
    refine Ops.y (v := .int .i64 _) (Y.assign rfl) ?_
    refine Ops.nil ?_
    have hp := hp.le le1
    refine WP.seq ?_
    refine WP.region ?_
    refine Ops.y (v := .agg #[_, _]) (Y.loadv ty_25 rfl (I.rdbox 0 rfl 0 2) rfl rfl) ?_
    refine Ops.go (O.call I Tryz.call29 (Rounds_ok _ I.base_ok p hp hnm) rfl ?_)
    rintro v17 h2 w I le2 hv
    rcases hv with ⟨h, _⟩ | ⟨_, r, f, rfl, hr, hm2⟩
    exact absurd hpr h
    refine Ops.y (v := .tuple #[_, _]) (Y.move rfl) ?_
    refine Ops.y (v := .slice _ _ _) (Y.extract rfl rfl) ?_
    refine Ops.y (v := .int .i64 _) (Y.extract rfl rfl) ?_
    refine Ops.y (v := .slice _ _ _) (Y.assign rfl) ?_
    refine Ops.y (v := .int .i64 _) (Y.assign rfl) ?_
    refine Ops.nil ?_
    have hp := hp.le le2
    refine WP.seq ?_
    refine WP.region ?_
    refine Ops.y (v := .agg #[_, _]) (Y.loadv ty_25 rfl (I.rdbox 0 rfl 0 2) rfl rfl) ?_
    refine Ops.go (O.callv I Tryz.call18 (CheckProg_ok _ I.base_ok p hp hnm) rfl ?_)
    intro w I
    refine Ops.y (v := .int .i64 _) (Y.assign rfl) ?_
    refine Ops.nil ?_
    refine WP.seq ?_
    refine WP.region ?_
    refine Ops.y (v := .slice _ _ _) (Y.assign rfl) ?_
    refine Ops.nil ?_
    refine WP.seq ?_
    refine WP.region ?_
    refine Ops.y (v := .slice _ _ _) (Y.assign rfl) ?_
    refine Ops.nil ?_
    refine WP.seq ?_
    refine WP.seq ?_
    refine WP.region ?_
    refine Ops.y (v := .int .i64 _) (Y.move rfl) ?_
    refine Ops.y (v := .bool (decide _)) (Y.eqi rfl rfl) ?_
    refine Ops.nil ?_
    refine WP.cond_decT rfl (hpr) ?_
    refine WP.regionF mixed I 6 (by kernel_rfl) ?_
    refine OpsF.y_ (v := .agg #[_, _]) (fun _ => runs_none _) (fun _ w us hl I => Y.loadv ty_25 rfl (I.rdbox 0 rfl 0 2) rfl rfl) ?_
    refine OpsF.x_ (Φ := MofP p) MofP.mono (fun _ => runs_none _) ?_ ?_
    · intro _ w hl I
      try unfold AllL
      refine O.call I Tryz.call30 (ModelOf_ok _ I.base_ok p (hp.le hl) hpr) rfl ?_
      rintro _ h5 w I hl' hx
      exact ⟨_, hl', I, hx⟩
    refine OpsF.y_ (v := .agg #[_, _]) (fun _ => runs_none _) (fun _ w us hl I => Y.loadv ty_25 rfl (I.rdbox 0 rfl 0 2) rfl rfl) ?_
    refine OpsF.x_ (Φ := RofP p) RofP.mono (fun _ => runs_none _) ?_ ?_
    · intro _ w hl I u25 q25
      try unfold AllL
      refine O.call I Tryz.call31 (RoundsOf_ok _ I.base_ok p (hp.le hl) hpr) rfl ?_
      rintro _ h5 w I hl' hx
      exact ⟨_, hl', I, hx⟩
    refine OpsF.x_ (Φ := MofP p) MofP.mono (fun _ => runs_none _) ?_ ?_
    · intro _ w hl I u25 q25 u27 q27
      exact O.yx I (Y.assign rfl) (q25 rfl)
    refine OpsF.x_ (Φ := RofP p) RofP.mono (fun _ => runs_none _) ?_ ?_
    · intro _ w hl I u25 q25 u27 q27 u8 q8
      exact O.yx I (Y.assign rfl) (q27 rfl)
    refine OpsF.nil ?_
    intro _ w hl I u25 q25 u27 q27 u8 q8 u9 q9
    refine Ops.nil ?_
    obtain ⟨s2, rs2, rfl, hs2, hm3⟩ := q8 rfl
    obtain ⟨r2, f2, rfl, hr2, hm4⟩ := q9 rfl
    refine WP.seq ?_
    refine WP.region ?_
    refine Ops.go (O.callv I Tryz.call32 (naiveBegun_ok _ I.base_ok) rfl ?_)
    intro w I
    refine Ops.y (v := .bool _) (Y.move rfl) ?_
    refine Ops.ygt rfl (v := .slice _ _ _) (Y.move rfl) ?_
    refine Ops.ygt rfl (v := .slice _ _ _) (Y.move rfl) ?_
    refine Ops.gt rfl (O.callv I Tryz.call21 (SameFacts_at _ I.base_ok s s2 ((hs.le le2).le hl) hs2 (hm3.uniq hm).1) rfl ?_)
    intro w I
    refine Ops.y (v := .bool _) (Y.pick_t rfl rfl) ?_
    refine Ops.y (v := .bool _) (Y.move rfl) ?_
    refine Ops.ygt rfl (v := .int .i64 _) (Y.move rfl) ?_
    refine Ops.ygt rfl (v := .int .i64 _) (Y.move rfl) ?_
    refine Ops.ygt rfl (v := .bool true) (Y.dec_t (Y.eqi rfl rfl) (hpr.symm)) ?_
    refine Ops.y (v := .bool _) (Y.pick_t rfl rfl) ?_
    refine Ops.y (v := .bool _) (Y.move rfl) ?_
    refine Ops.ygt rfl (v := .slice _ _ _) (Y.move rfl) ?_
    refine Ops.ygt rfl (v := .slice _ _ _) (Y.move rfl) ?_
    refine Ops.gt rfl (O.callv I Tryz.call33 (SameInts_at _ I.base_ok r r2 (hr.le hl) hr2 (hm4.uniq hm2).2) rfl ?_)
    intro w I
    refine Ops.y (v := .bool _) (Y.pick_t rfl rfl) ?_
    refine Ops.y (v := .bool _) (Y.move rfl) ?_
    refine Ops.ygt rfl (v := .int .i64 _) (Y.move rfl) ?_
    refine Ops.ygt rfl (v := .int .i64 _) (Y.move rfl) ?_
    refine Ops.ygt rfl (v := .bool true) (Y.dec_t (Y.eqi rfl rfl) (hpr.symm)) ?_
    refine Ops.y (v := .bool _) (Y.pick_t rfl rfl) ?_
    refine Ops.y (v := .bool _) (Y.assign rfl) ?_
    refine Ops.nil ?_
    refine WP.ret ?_
    repeat (first | refine thenE_ret ?_ | refine blockE_ret ?_)
    exact retQ.mk (vs := [.bool _]) rfl ⟨rfl, trivial⟩ I.ext_of (rfl)
  · refine WP.seq ?_
    refine WP.region ?_
    refine Ops.y (v := .agg #[_, _]) (Y.loadv ty_25 rfl (I.rdbox 0 rfl 0 2) rfl rfl) ?_
    refine Ops.go (O.call I Tryz.call28 (Model_ok _ I.base_ok p hp hnm) rfl ?_)
    rintro v12 h1 w I le1 hv
    rcases hv with ⟨_, rfl⟩ | ⟨h, _⟩
    rotate_left
    exact absurd h hpr
    refine Ops.y (v := .tuple #[_, _]) (Y.move rfl) ?_
    refine Ops.y (v := .slice _ _ _) (Y.extract rfl rfl) ?_
    refine Ops.y (v := .int .i64 _) (Y.extract rfl rfl) ?_
    refine Ops.y (v := .slice _ _ _) (Y.assign rfl) ?_
    refine Ops.y (v := .int .i64 _) (Y.assign rfl) ?_
    refine Ops.nil ?_
    have hp := hp.le le1
    refine WP.seq ?_
    refine WP.region ?_
    refine Ops.y (v := .agg #[_, _]) (Y.loadv ty_25 rfl (I.rdbox 0 rfl 0 2) rfl rfl) ?_
    refine Ops.go (O.call I Tryz.call29 (Rounds_ok _ I.base_ok p hp hnm) rfl ?_)
    rintro v17 h2 w I le2 hv
    rcases hv with ⟨_, rfl⟩ | ⟨h, _⟩
    rotate_left
    exact absurd h hpr
    refine Ops.y (v := .tuple #[_, _]) (Y.move rfl) ?_
    refine Ops.y (v := .slice _ _ _) (Y.extract rfl rfl) ?_
    refine Ops.y (v := .int .i64 _) (Y.extract rfl rfl) ?_
    refine Ops.y (v := .slice _ _ _) (Y.assign rfl) ?_
    refine Ops.y (v := .int .i64 _) (Y.assign rfl) ?_
    refine Ops.nil ?_
    have hp := hp.le le2
    refine WP.seq ?_
    refine WP.region ?_
    refine Ops.y (v := .agg #[_, _]) (Y.loadv ty_25 rfl (I.rdbox 0 rfl 0 2) rfl rfl) ?_
    refine Ops.go (O.callv I Tryz.call18 (CheckProg_ok _ I.base_ok p hp hnm) rfl ?_)
    intro w I
    refine Ops.y (v := .int .i64 _) (Y.assign rfl) ?_
    refine Ops.nil ?_
    refine WP.seq ?_
    refine WP.region ?_
    refine Ops.y (v := .slice _ _ _) (Y.assign rfl) ?_
    refine Ops.nil ?_
    refine WP.seq ?_
    refine WP.region ?_
    refine Ops.y (v := .slice _ _ _) (Y.assign rfl) ?_
    refine Ops.nil ?_
    refine WP.seq ?_
    refine WP.seq ?_
    refine WP.region ?_
    refine Ops.y (v := .int .i64 _) (Y.move rfl) ?_
    refine Ops.y (v := .bool (decide _)) (Y.eqi rfl rfl) ?_
    refine Ops.nil ?_
    refine WP.cond_decF rfl (hpr) ?_
    refine WP.skip ?_
    refine WP.seq ?_
    refine WP.region ?_
    refine Ops.go (O.callv I Tryz.call32 (naiveBegun_ok _ I.base_ok) rfl ?_)
    intro w I
    refine Ops.y (v := .bool _) (Y.move rfl) ?_
    refine Ops.ygt rfl (v := .slice _ _ _) (Y.move rfl) ?_
    refine Ops.ygt rfl (v := .slice _ _ _) (Y.move rfl) ?_
    refine Ops.gt rfl (O.callv I Tryz.call21 (SameFacts_at _ I.base_ok ⟨none, 0, []⟩ ⟨none, 0, []⟩ fnil fnil rfl) rfl ?_)
    intro w I
    refine Ops.y (v := .bool _) (Y.pick_t rfl rfl) ?_
    refine Ops.y (v := .bool _) (Y.move rfl) ?_
    refine Ops.ygt rfl (v := .int .i64 _) (Y.move rfl) ?_
    refine Ops.ygt rfl (v := .int .i64 _) (Y.move rfl) ?_
    refine Ops.ygt rfl (v := .bool true) (Y.dec_t (Y.eqi rfl rfl) (rfl)) ?_
    refine Ops.y (v := .bool _) (Y.pick_t rfl rfl) ?_
    refine Ops.y (v := .bool _) (Y.move rfl) ?_
    refine Ops.ygt rfl (v := .slice _ _ _) (Y.move rfl) ?_
    refine Ops.ygt rfl (v := .slice _ _ _) (Y.move rfl) ?_
    refine Ops.gt rfl (O.callv I Tryz.call33 (SameInts_at _ I.base_ok ⟨none, 0, []⟩ ⟨none, 0, []⟩ nilIs nilIs rfl) rfl ?_)
    intro w I
    refine Ops.y (v := .bool _) (Y.pick_t rfl rfl) ?_
    refine Ops.y (v := .bool _) (Y.move rfl) ?_
    refine Ops.ygt rfl (v := .int .i64 _) (Y.move rfl) ?_
    refine Ops.ygt rfl (v := .int .i64 _) (Y.move rfl) ?_
    refine Ops.ygt rfl (v := .bool true) (Y.dec_t (Y.eqi rfl rfl) (rfl)) ?_
    refine Ops.y (v := .bool _) (Y.pick_t rfl rfl) ?_
    refine Ops.y (v := .bool _) (Y.assign rfl) ?_
    refine Ops.nil ?_
    refine WP.ret ?_
    repeat (first | refine thenE_ret ?_ | refine blockE_ret ?_)
    exact retQ.mk (vs := [.bool _]) rfl ⟨rfl, trivial⟩ I.ext_of (rfl)
end Go.TF
end
section
/- The laws of the model: closed, told, least. -/
namespace Go.TF
open Go Go.RowKit Go.Proofs
set_option maxRecDepth 20000

theorem ask_fok {p : Prg} {f : List Fct} (hpr : checkProg p = 0) (okf : FOk p.preds.xs f) : askR p f = 0 := askR_iff.2 ⟨hpr, okf⟩
theorem closedB_iff {p : Prg} {f : List Fct} : closedB p f = true ↔ ∀ t ∈ toldL p.preds.xs f p.rules.xs (fun _ => true), underF p.preds.xs [t.2] f = true := by unfold closedB; rw [List.all_eq_true]
set_option maxHeartbeats 4000000 in
theorem NaiveLeast_ok (B : Base) (hB : B.ok) (p : Prg) (hp : p.In B.h) (hnm : p.Nm) (f : Sl Fct) (hf : Fcts f B.h) : Fn Tryz.prog 9 [p.val, f.val] B (fun v _ => v = .bool true) := by
  refine Fn.of Tryz.func9 rfl Tryz.ntmps9 (by kernel_rfl) (by simp) ?_
  intro e
  have I := Inv.start hB
  refine WP.seq ?_
  refine WP.region ?_
  refine Ops.go (O.box (v := .agg #[_, _]) I rfl rfl ?_)
  intro b2 w I
  refine Ops.y (v := .bool _) (Y.assign rfl) ?_
  refine Ops.nil ?_
  by_cases hpr : checkProg p ≠ 0
  · refine WP.seq ?_
    refine WP.region ?_
    refine Ops.y (v := .agg #[_, _]) (Y.loadv ty_25 rfl (I.rdbox 0 rfl 0 2) rfl rfl) ?_
    refine Ops.go (O.call I Tryz.call28 (Model_ok _ I.base_ok p hp hnm) rfl ?_)
    rintro v13 h1 w I le1 hv
    rcases hv with ⟨_, rfl⟩ | ⟨h, _⟩
    rotate_left
    exact absurd h hpr
    refine Ops.y (v := .tuple #[_, _]) (Y.move rfl) ?_
    refine Ops.y (v := .slice _ _ _) (Y.extract rfl rfl) ?_
    refine Ops.y (v := .int .i64 _) (Y.extract rfl rfl) ?_
    refine Ops.y (v := .slice _ _ _) (Y.assign rfl) ?_
    refine Ops.y (v := .int .i64 _) (Y.assign rfl) ?_
    refine Ops.nil ?_
    refine WP.seq ?_
    refine WP.region ?_
    refine Ops.y (v := .agg #[_, _]) (Y.loadv ty_25 rfl (I.rdbox 0 rfl 0 2) rfl rfl) ?_
    refine Ops.y (v := .slice _ _ _) (Y.move rfl) ?_
    refine Ops.go (O.callv I Tryz.call44 (Closed_ok _ I.base_ok p (hp.le le1) hnm f (hf.le le1)) rfl ?_)
    intro w I
    refine Ops.y (v := .tuple #[_, _]) (Y.move rfl) ?_
    refine Ops.y (v := .bool _) (Y.extract rfl rfl) ?_
    refine Ops.y (v := .int .i64 _) (Y.extract rfl rfl) ?_
    refine Ops.y (v := .bool _) (Y.assign rfl) ?_
    refine Ops.y (v := .int .i64 _) (Y.assign rfl) ?_
    refine Ops.nil ?_
    refine WP.seq ?_
    refine WP.seq ?_
    refine WP.region ?_
    refine Ops.y (v := .int .i64 _) (Y.move rfl) ?_
    refine Ops.y (v := .bool true) (Y.dec_t (Y.nei rfl rfl) (hpr)) ?_
    refine Ops.y (v := .bool _) (Y.move rfl) ?_
    refine Ops.gf rfl ?_
    refine Ops.gf rfl ?_
    refine Ops.y (v := .bool _) (Y.pick_t rfl rfl) ?_
    refine Ops.y (v := .bool _) (Y.move rfl) ?_
    refine Ops.gf rfl ?_
    refine Ops.gf rfl ?_
    refine Ops.y (v := .bool _) (Y.pick_t rfl rfl) ?_
    refine Ops.y (v := .bool _) (Y.move rfl) ?_
    refine Ops.gf rfl ?_
    refine Ops.gf rfl ?_
    refine Ops.gf rfl ?_
    refine Ops.y (v := .bool _) (Y.pick_t rfl rfl) ?_
    refine Ops.nil ?_
    refine WP.cond_t rfl ?_
    refine WP.seq ?_
    refine WP.region ?_
    refine Ops.go (O.callv I Tryz.call32 (naiveBegun_ok _ I.base_ok) rfl ?_)
    intro w I
    refine Ops.y (v := .bool _) (Y.assign rfl) ?_
    refine Ops.nil ?_
    refine WP.ret ?_
    repeat (first | refine thenE_ret ?_ | refine blockE_ret ?_)
    exact retQ.mk (vs := [.bool _]) rfl ⟨rfl, trivial⟩ I.ext_of (rfl)
  have hpr := Decidable.not_not.1 hpr
  refine WP.seq ?_
  refine WP.region ?_
  refine Ops.y (v := .agg #[_, _]) (Y.loadv ty_25 rfl (I.rdbox 0 rfl 0 2) rfl rfl) ?_
  refine Ops.go (O.call I Tryz.call28 (Model_ok _ I.base_ok p hp hnm) rfl ?_)
  rintro v13 h1 w I le1 hv
  rcases hv with ⟨h, _⟩ | ⟨_, s, rs, rfl, hs, hm⟩
  exact absurd hpr h
  refine Ops.y (v := .tuple #[_, _]) (Y.move rfl) ?_
  refine Ops.y (v := .slice _ _ _) (Y.extract rfl rfl) ?_
  refine Ops.y (v := .int .i64 _) (Y.extract rfl rfl) ?_
  refine Ops.y (v := .slice _ _ _) (Y.assign rfl) ?_
  refine Ops.y (v := .int .i64 _) (Y.assign rfl) ?_
  refine Ops.nil ?_
  have hp := hp.le le1
  have hf := hf.le le1
  refine WP.seq ?_
  refine WP.region ?_
  refine Ops.y (v := .agg #[_, _]) (Y.loadv ty_25 rfl (I.rdbox 0 rfl 0 2) rfl rfl) ?_
  refine Ops.y (v := .slice _ _ _) (Y.move rfl) ?_
  refine Ops.go (O.callv I Tryz.call44 (Closed_ok _ I.base_ok p hp hnm f hf) rfl ?_)
  intro w I
  refine Ops.y (v := .tuple #[_, _]) (Y.move rfl) ?_
  refine Ops.y (v := .bool _) (Y.extract rfl rfl) ?_
  refine Ops.y (v := .int .i64 _) (Y.extract rfl rfl) ?_
  refine Ops.y (v := .bool _) (Y.assign rfl) ?_
  refine Ops.y (v := .int .i64 _) (Y.assign rfl) ?_
  refine Ops.nil ?_
  by_cases ha : askR p f.xs ≠ 0
  · refine WP.seq ?_
    refine WP.seq ?_
    refine WP.region ?_
    refine Ops.y (v := .int .i64 _) (Y.move rfl) ?_
    refine Ops.y (v := .bool false) (Y.dec_f (Y.nei rfl rfl) ((fun h => h rfl))) ?_
    refine Ops.y (v := .bool _) (Y.move rfl) ?_
    refine Ops.ygt rfl (v := .int .i64 _) (Y.move rfl) ?_
    refine Ops.ygt rfl (v := .bool true) (Y.dec_t (Y.nei rfl rfl) ((by rw [closed_err]; exact ha))) ?_
    refine Ops.y (v := .bool _) (Y.pick_f rfl rfl) ?_
    refine Ops.y (v := .bool _) (Y.move rfl) ?_
    refine Ops.gf rfl ?_
    refine Ops.gf rfl ?_
    refine Ops.y (v := .bool _) (Y.pick_t rfl rfl) ?_
    refine Ops.y (v := .bool _) (Y.move rfl) ?_
    refine Ops.gf rfl ?_
    refine Ops.gf rfl ?_
    refine Ops.gf rfl ?_
    refine Ops.y (v := .bool _) (Y.pick_t rfl rfl) ?_
    refine Ops.nil ?_
    refine WP.cond_t rfl ?_
    refine WP.seq ?_
    refine WP.region ?_
    refine Ops.go (O.callv I Tryz.call32 (naiveBegun_ok _ I.base_ok) rfl ?_)
    intro w I
    refine Ops.y (v := .bool _) (Y.assign rfl) ?_
    refine Ops.nil ?_
    refine WP.ret ?_
    repeat (first | refine thenE_ret ?_ | refine blockE_ret ?_)
    exact retQ.mk (vs := [.bool _]) rfl ⟨rfl, trivial⟩ I.ext_of (rfl)
  have ha := Decidable.not_not.1 ha
  have ec := closed_of ha
  obtain ⟨_, okf⟩ := askR_iff.1 ha
  cases hcl : closedB p f.xs
  · refine WP.seq ?_
    refine WP.seq ?_
    refine WP.region ?_
    refine Ops.y (v := .int .i64 _) (Y.move rfl) ?_
    refine Ops.y (v := .bool false) (Y.dec_f (Y.nei rfl rfl) ((fun h => h rfl))) ?_
    refine Ops.y (v := .bool _) (Y.move rfl) ?_
    refine Ops.ygt rfl (v := .int .i64 _) (Y.move rfl) ?_
    refine Ops.ygt rfl (v := .bool false) (Y.dec_f (Y.nei rfl rfl) ((by rw [ec]; exact fun h => h rfl))) ?_
    refine Ops.y (v := .bool _) (Y.pick_f rfl rfl) ?_
    refine Ops.y (v := .bool _) (Y.move rfl) ?_
    refine Ops.ygt rfl (v := .bool _) (Y.move rfl) ?_
    refine Ops.ygt rfl (v := .bool true) (Y.b (Y.not rfl) ((by rw [ec, hcl]; rfl))) ?_
    refine Ops.y (v := .bool _) (Y.pick_f rfl rfl) ?_
    refine Ops.y (v := .bool _) (Y.move rfl) ?_
    refine Ops.gf rfl ?_
    refine Ops.gf rfl ?_
    refine Ops.gf rfl ?_
    refine Ops.y (v := .bool _) (Y.pick_t rfl rfl) ?_
    refine Ops.nil ?_
    refine WP.cond_t rfl ?_
    refine WP.seq ?_
    refine WP.region ?_
    refine Ops.go (O.callv I Tryz.call32 (naiveBegun_ok _ I.base_ok) rfl ?_)
    intro w I
    refine Ops.y (v := .bool _) (Y.assign rfl) ?_
    refine Ops.nil ?_
    refine WP.ret ?_
    repeat (first | refine thenE_ret ?_ | refine blockE_ret ?_)
    exact retQ.mk (vs := [.bool _]) rfl ⟨rfl, trivial⟩ I.ext_of (rfl)
  cases hpo : posP p
  · refine WP.seq ?_
    refine WP.seq ?_
    refine WP.region ?_
    refine Ops.y (v := .int .i64 _) (Y.move rfl) ?_
    refine Ops.y (v := .bool false) (Y.dec_f (Y.nei rfl rfl) ((fun h => h rfl))) ?_
    refine Ops.y (v := .bool _) (Y.move rfl) ?_
    refine Ops.ygt rfl (v := .int .i64 _) (Y.move rfl) ?_
    refine Ops.ygt rfl (v := .bool false) (Y.dec_f (Y.nei rfl rfl) ((by rw [ec]; exact fun h => h rfl))) ?_
    refine Ops.y (v := .bool _) (Y.pick_f rfl rfl) ?_
    refine Ops.y (v := .bool _) (Y.move rfl) ?_
    refine Ops.ygt rfl (v := .bool _) (Y.move rfl) ?_
    refine Ops.ygt rfl (v := .bool false) (Y.b (Y.not rfl) ((by rw [ec, hcl]; rfl))) ?_
    refine Ops.y (v := .bool _) (Y.pick_f rfl rfl) ?_
    refine Ops.y (v := .bool _) (Y.move rfl) ?_
    refine Ops.ygt rfl (v := .agg #[_, _]) (Y.loadv ty_25 rfl (I.rdbox 0 rfl 0 2) rfl rfl) ?_
    refine Ops.gt rfl (O.callv I Tryz.call49 (hpo ▸ positive_ok _ I.base_ok p hp) rfl ?_)
    intro w I
    refine Ops.ygt rfl (v := .bool true) (Y.b (Y.not rfl) (rfl)) ?_
    refine Ops.y (v := .bool _) (Y.pick_f rfl rfl) ?_
    refine Ops.nil ?_
    refine WP.cond_t rfl ?_
    refine WP.seq ?_
    refine WP.region ?_
    refine Ops.go (O.callv I Tryz.call32 (naiveBegun_ok _ I.base_ok) rfl ?_)
    intro w I
    refine Ops.y (v := .bool _) (Y.assign rfl) ?_
    refine Ops.nil ?_
    refine WP.ret ?_
    repeat (first | refine thenE_ret ?_ | refine blockE_ret ?_)
    exact retQ.mk (vs := [.bool _]) rfl ⟨rfl, trivial⟩ I.ext_of (rfl)
  refine WP.seq ?_
  refine WP.seq ?_
  refine WP.region ?_
  refine Ops.y (v := .int .i64 _) (Y.move rfl) ?_
  refine Ops.y (v := .bool false) (Y.dec_f (Y.nei rfl rfl) ((fun h => h rfl))) ?_
  refine Ops.y (v := .bool _) (Y.move rfl) ?_
  refine Ops.ygt rfl (v := .int .i64 _) (Y.move rfl) ?_
  refine Ops.ygt rfl (v := .bool false) (Y.dec_f (Y.nei rfl rfl) ((by rw [ec]; exact fun h => h rfl))) ?_
  refine Ops.y (v := .bool _) (Y.pick_f rfl rfl) ?_
  refine Ops.y (v := .bool _) (Y.move rfl) ?_
  refine Ops.ygt rfl (v := .bool _) (Y.move rfl) ?_
  refine Ops.ygt rfl (v := .bool false) (Y.b (Y.not rfl) ((by rw [ec, hcl]; rfl))) ?_
  refine Ops.y (v := .bool _) (Y.pick_f rfl rfl) ?_
  refine Ops.y (v := .bool _) (Y.move rfl) ?_
  refine Ops.ygt rfl (v := .agg #[_, _]) (Y.loadv ty_25 rfl (I.rdbox 0 rfl 0 2) rfl rfl) ?_
  refine Ops.gt rfl (O.callv I Tryz.call49 (hpo ▸ positive_ok _ I.base_ok p hp) rfl ?_)
  intro w I
  refine Ops.ygt rfl (v := .bool false) (Y.b (Y.not rfl) (rfl)) ?_
  refine Ops.y (v := .bool _) (Y.pick_f rfl rfl) ?_
  refine Ops.nil ?_
  refine WP.cond_f rfl ?_
  obtain ⟨okm, hu⟩ := modK_least (chk_rok hpr) (chk_nil hpr) okf hpo (closedB_iff.1 hcl) hm
  refine WP.skip ?_
  refine WP.seq ?_
  refine WP.region ?_
  refine Ops.y (v := .pointer (some ⟨_, _, none⟩)) (Y.fa0 fa_25_0 rfl) ?_
  refine Ops.y (v := .slice _ _ _) (Y.loadv ty_22 rfl (I.rdbox 0 rfl 0 1) rfl rfl) ?_
  refine Ops.y (v := .slice _ _ _) (Y.move rfl) ?_
  refine Ops.y (v := .slice _ _ _) (Y.move rfl) ?_
  refine Ops.go (O.callv I Tryz.call50 (Under_at _ I.base_ok p.preds hp.preds s f hs hf (true, 0) (by rw [underOf_of okm okf, hu])) rfl ?_)
  intro w I
  refine Ops.y (v := .tuple #[_, _]) (Y.move rfl) ?_
  refine Ops.y (v := .bool _) (Y.extract rfl rfl) ?_
  refine Ops.y (v := .int .i64 _) (Y.extract rfl rfl) ?_
  refine Ops.y (v := .bool _) (Y.assign rfl) ?_
  refine Ops.y (v := .int .i64 _) (Y.assign rfl) ?_
  refine Ops.nil ?_
  refine WP.seq ?_
  refine WP.region ?_
  refine Ops.go (O.callv I Tryz.call32 (naiveBegun_ok _ I.base_ok) rfl ?_)
  intro w I
  refine Ops.y (v := .bool _) (Y.move rfl) ?_
  refine Ops.ygt rfl (v := .int .i64 _) (Y.move rfl) ?_
  refine Ops.ygt rfl (v := .bool true) (Y.dec_t (Y.eqi rfl rfl) (rfl)) ?_
  refine Ops.y (v := .bool _) (Y.pick_t rfl rfl) ?_
  refine Ops.y (v := .bool _) (Y.move rfl) ?_
  refine Ops.ygt rfl (v := .bool _) (Y.move rfl) ?_
  refine Ops.y (v := .bool _) (Y.pick_t rfl rfl) ?_
  refine Ops.y (v := .bool _) (Y.assign rfl) ?_
  refine Ops.nil ?_
  refine WP.ret ?_
  repeat (first | refine thenE_ret ?_ | refine blockE_ret ?_)
  exact retQ.mk (vs := [.bool _]) rfl ⟨rfl, trivial⟩ I.ext_of (rfl)
theorem holdsOf_hit {p : Prg} {f : List Fct} {n : Nat} {r : Rul} {x : Vrs} (hpr : checkProg p = 0) (okf : FOk p.preds.xs f) (hr : p.rules.xs[n]? = some r) (hx : VsOk x) (hh : holdsB f r x = true) : holdsOf p f n x = (true, headF p.preds.xs f r x, 0) := by
  have hlt := (List.getElem?_eq_some_iff.1 hr).1
  have ha : askedOf p f n = 0 := by
    unfold askedOf
    rw [if_neg (by rw [hpr]; decide), if_neg (by rw [checkFacts_ok.2 okf]; decide), if_neg (by omega)]
  have hF : holdsF p.preds.xs f r x = (true, headF p.preds.xs f r x) := by unfold holdsF; rw [if_pos hh]
  have hra : ruleAt p n = r := ruleAt_eq (by rw [Int.toNat_natCast]; exact hr)
  unfold holdsOf
  rw [if_neg (by rw [ha]; decide), if_pos (vsB_iff.2 hx), hra, hF]
theorem HoldsOf_at (B : Base) (hB : B.ok) (p : Prg) (hp : p.In B.h) (hnm : p.Nm) (f : Sl Fct) (hf : Fcts f B.h) (n : Int) (x : Vrs) (r : Bool × Fct × Int) (h : holdsOf p f.xs n x = r) : Fn Tryz.prog 48 [p.val, f.val, .int .i64 n, x.val] B (fun v _ => v = vHold r) := h ▸ HoldsOf_ok B hB p hp hnm f hf n x
def Hit (p : Prg) (f : List Fct) (x : Fct) (n j : Nat) : Prop := ∃ r s, p.rules.xs[n]? = some r ∧ r.head.pred = x.pred ∧ (stepsF f n r)[j]? = some s ∧ (headF p.preds.xs f r s.vars).a = x.a ∧ (headF p.preds.xs f r s.vars).b = x.b
set_option maxHeartbeats 8000000 in
theorem NaiveClosed_ok (B : Base) (hB : B.ok) (p : Prg) (hp : p.In B.h) (hnm : p.Nm) (c : Int) (hc : I64 c) : Fn Tryz.prog 8 [p.val, .int .i64 c] B (fun v _ => v = .bool true) := by
  have hsr := hp.rules.is.small
  refine Fn.of Tryz.func8 rfl Tryz.ntmps8 (by kernel_rfl) (by simp) ?_
  intro e
  have I := Inv.start hB
  refine WP.seq ?_
  refine WP.region ?_
  refine Ops.go (O.box (v := .agg #[_, _]) I rfl rfl ?_)
  intro b2 w I
  refine Ops.y (v := .bool _) (Y.assign rfl) ?_
  refine Ops.nil ?_
  by_cases hpr : checkProg p ≠ 0
  · refine WP.seq ?_
    refine WP.region ?_
    refine Ops.y (v := .agg #[_, _]) (Y.loadv ty_25 rfl (I.rdbox 0 rfl 0 2) rfl rfl) ?_
    refine Ops.go (O.call I Tryz.call28 (Model_ok _ I.base_ok p hp hnm) rfl ?_)
    rintro v13 h1 w I le1 hv
    rcases hv with ⟨_, rfl⟩ | ⟨h, _⟩
    rotate_left
    exact absurd h hpr
    refine Ops.y (v := .tuple #[_, _]) (Y.move rfl) ?_
    refine Ops.y (v := .slice _ _ _) (Y.extract rfl rfl) ?_
    refine Ops.y (v := .int .i64 _) (Y.extract rfl rfl) ?_
    refine Ops.y (v := .slice _ _ _) (Y.assign rfl) ?_
    refine Ops.y (v := .int .i64 _) (Y.assign rfl) ?_
    refine Ops.nil ?_
    refine WP.seq ?_
    refine WP.seq ?_
    refine WP.region ?_
    refine Ops.y (v := .int .i64 _) (Y.move rfl) ?_
    refine Ops.y (v := .bool (decide _)) (Y.nei rfl rfl) ?_
    refine Ops.nil ?_
    refine WP.cond_decT rfl (hpr) ?_
    refine WP.seq ?_
    refine WP.region ?_
    refine Ops.go (O.callv I Tryz.call32 (naiveBegun_ok _ I.base_ok) rfl ?_)
    intro w I
    refine Ops.y (v := .bool _) (Y.assign rfl) ?_
    refine Ops.nil ?_
    refine WP.ret ?_
    repeat (first | refine thenE_ret ?_ | refine blockE_ret ?_)
    exact retQ.mk (vs := [.bool _]) rfl ⟨rfl, trivial⟩ I.ext_of (rfl)
  have hpr := Decidable.not_not.1 hpr
  refine WP.seq ?_
  refine WP.region ?_
  refine Ops.y (v := .agg #[_, _]) (Y.loadv ty_25 rfl (I.rdbox 0 rfl 0 2) rfl rfl) ?_
  refine Ops.go (O.call I Tryz.call28 (Model_ok _ I.base_ok p hp hnm) rfl ?_)
  rintro v13 h1 w I le1 hv
  rcases hv with ⟨h, _⟩ | ⟨_, f, rs, rfl, hf, hm⟩
  exact absurd hpr h
  refine Ops.y (v := .tuple #[_, _]) (Y.move rfl) ?_
  refine Ops.y (v := .slice _ _ _) (Y.extract rfl rfl) ?_
  refine Ops.y (v := .int .i64 _) (Y.extract rfl rfl) ?_
  refine Ops.y (v := .slice _ _ _) (Y.assign rfl) ?_
  refine Ops.y (v := .int .i64 _) (Y.assign rfl) ?_
  refine Ops.nil ?_
  have hp := hp.le le1
  obtain ⟨j, hcl⟩ := mod_closed hpr (strataM_least hpr) hm
  have okf := j.fok
  have h125 := okf.le125
  refine WP.seq ?_
  refine WP.seq ?_
  refine WP.region ?_
  refine Ops.y (v := .int .i64 _) (Y.move rfl) ?_
  refine Ops.y (v := .bool (decide _)) (Y.nei rfl rfl) ?_
  refine Ops.nil ?_
  refine WP.cond_decF rfl ((fun h => h rfl)) ?_
  refine WP.skip ?_
  refine WP.seq ?_
  refine WP.region ?_
  refine Ops.y (v := .agg #[_, _]) (Y.loadv ty_25 rfl (I.rdbox 0 rfl 0 2) rfl rfl) ?_
  refine Ops.y (v := .slice _ _ _) (Y.move rfl) ?_
  refine Ops.go (O.callv I Tryz.call44 (Closed_at _ I.base_ok p hp hnm f hf (true, 0) (by rw [closed_of (ask_fok hpr okf), closedB_iff.2 hcl])) rfl ?_)
  intro w I
  refine Ops.y (v := .tuple #[_, _]) (Y.move rfl) ?_
  refine Ops.y (v := .bool _) (Y.extract rfl rfl) ?_
  refine Ops.y (v := .int .i64 _) (Y.extract rfl rfl) ?_
  refine Ops.y (v := .bool _) (Y.assign rfl) ?_
  refine Ops.y (v := .int .i64 _) (Y.assign rfl) ?_
  refine Ops.nil ?_
  refine WP.seq ?_
  refine WP.seq ?_
  refine WP.region ?_
  refine Ops.y (v := .int .i64 _) (Y.move rfl) ?_
  refine Ops.y (v := .bool false) (Y.dec_f (Y.nei rfl rfl) ((fun h => h rfl))) ?_
  refine Ops.y (v := .bool _) (Y.move rfl) ?_
  refine Ops.ygt rfl (v := .bool _) (Y.move rfl) ?_
  refine Ops.ygt rfl (v := .bool false) (Y.b (Y.not rfl) (rfl)) ?_
  refine Ops.y (v := .bool _) (Y.pick_f rfl rfl) ?_
  refine Ops.y (v := .bool _) (Y.move rfl) ?_
  refine Ops.ygt rfl (v := .pointer (some ⟨_, _, none⟩)) (Y.fa0 fa_25_0 rfl) ?_
  refine Ops.ygt rfl (v := .slice _ _ _) (Y.loadv ty_22 rfl (I.rdbox 0 rfl 0 1) rfl rfl) ?_
  refine Ops.ygt rfl (v := .slice _ _ _) (Y.move rfl) ?_
  refine Ops.gt rfl (O.callv I Tryz.call45 (Check_at _ I.base_ok p.preds hp.preds f hf 0 (checkFacts_ok.2 okf)) rfl ?_)
  intro w I
  refine Ops.ygt rfl (v := .bool false) (Y.dec_f (Y.nei rfl rfl) ((fun h => h rfl))) ?_
  refine Ops.y (v := .bool _) (Y.pick_f rfl rfl) ?_
  refine Ops.nil ?_
  refine WP.cond_f rfl ?_
  refine WP.skip ?_
  refine WP.seq ?_
  refine WP.seq ?_
  refine WP.region ?_
  refine Ops.y (v := .slice _ _ _) (Y.move rfl) ?_
  refine Ops.y (v := .int .i64 _) (Y.lens Tryz.underlying26 rfl) ?_
  refine Ops.y (v := .bool (decide _)) (Y.eqi rfl rfl) ?_
  refine Ops.nil ?_
  refine WP.cond_dec rfl (fun h7 => ?_) (fun h7 => ?_)
  · refine WP.seq ?_
    refine WP.region ?_
    refine Ops.go (O.callv I Tryz.call32 (naiveBegun_ok _ I.base_ok) rfl ?_)
    intro w I
    refine Ops.y (v := .bool _) (Y.assign rfl) ?_
    refine Ops.nil ?_
    refine WP.ret ?_
    repeat (first | refine thenE_ret ?_ | refine blockE_ret ?_)
    exact retQ.mk (vs := [.bool _]) rfl ⟨rfl, trivial⟩ I.ext_of (rfl)
  have hn0 : (0 : Int) < f.xs.length := by omega
  obtain ⟨c0, c1⟩ := chooseI_in (c := c) hn0
  have hci : (chooseI c f.xs.length).toNat < f.xs.length := by omega
  obtain ⟨x, hx⟩ : ∃ x, f.xs[(chooseI c f.xs.length).toNat]? = some x := ⟨_, List.getElem?_eq_getElem hci⟩
  have Ex := hf.el.el hx
  refine WP.skip ?_
  refine WP.seq ?_
  refine WP.region ?_
  refine Ops.y (v := .slice _ _ _) (Y.move rfl) ?_
  refine Ops.y (v := .int .i64 _) (Y.move rfl) ?_
  refine Ops.y (v := .slice _ _ _) (Y.move rfl) ?_
  refine Ops.y (v := .int .i64 _) (Y.lens Tryz.underlying26 rfl) ?_
  refine Ops.go (O.callv I Tryz.call46 (choose_ok _ I.base_ok c f.xs.length hc hn0) rfl ?_)
  intro w I
  refine Ops.y (v := .pointer (some ⟨_, _, none⟩)) (Y.idxEl Ex Tryz.underlying26 Tryz.sizeOf52 rfl rfl c0 rfl) ?_
  refine Ops.y (v := .agg #[_, _, _, _]) (Y.loadv ty_52 rfl (I.rd (Ex.rd.part 0 4)) rfl rfl) ?_
  refine Ops.go (O.alloc I Tryz.zeroValue52 rfl ?_)
  intro b9 w I
  refine Ops.go (O.store (v := x.val) I ty_52 0 rfl rfl rfl rfl rfl rfl (Nat.le_of_ble_eq_true rfl) rfl ?_)
  intro w I
  refine Ops.nil ?_
  refine WP.seq ?_
  refine WP.region ?_
  refine Ops.y (v := .bool _) (Y.assign rfl) ?_
  refine Ops.nil ?_
  refine WP.seq ?_
  refine WP.seq ?_
  refine WP.region ?_
  refine Ops.y (v := .int .i64 _) (Y.assign rfl) ?_
  refine Ops.nil ?_
  refine WP.block ?_
  refine WP.loopE (σ := Nat × Bool × Heap) (fun s => [(2, .pointer (some ⟨b2, 0, none⟩)), (5, f.val), (9, .pointer (some ⟨b9, 0, none⟩)), (10, .bool s.2.1), (11, .int .i64 s.1)])
    (fun s w => Inv B s.2.2 [box b9 x.enc 52, box b2 p.enc 25] w ∧ s.1 ≤ p.rules.xs.length ∧ h1.le s.2.2 ∧ ∀ n i, n < s.1 → Hit p f.xs x n i → s.2.1 = true) (fun s => p.rules.xs.length - s.1)
    ⟨(0, false, h1), ⟨rfl, rfl, rfl, rfl, rfl, trivial⟩, I, Nat.zero_le _, Heap.le.refl _, fun n i hn => by dsimp only at hn; omega⟩ ?_
  rintro ⟨n, td, hh⟩ e w ⟨I, hn, gl, hit⟩
  dsimp only at I hn gl hit ⊢
  have hp := hp.le gl
  have hf := hf.le gl
  refine WP.seq ?_
  refine WP.seq ?_
  refine WP.region ?_
  refine Ops.y (v := .int .i64 _) (Y.move rfl) ?_
  refine Ops.y (v := .pointer (some ⟨_, _, none⟩)) (Y.fa fa_25_1 rfl) ?_
  refine Ops.y (v := .slice _ _ _) (Y.loadv ty_23 rfl (I.rdbox 1 rfl 1 1) rfl rfl) ?_
  refine Ops.y (v := .int .i64 _) (Y.lens Tryz.underlying23 rfl) ?_
  refine Ops.y (v := .bool (decide _)) (Y.lti rfl rfl) ?_
  refine Ops.nil ?_
  refine WP.cond_dec rfl (fun h12 => ?_) (fun h12 => ?_)
  · have hn' : n < p.rules.xs.length := by omega
    have hr : p.rules.xs[n]? = some p.rules.xs[n] := List.getElem?_eq_getElem hn'
    have hr' : p.rules.xs[(n : Int).toNat]? = some p.rules.xs[n] := by rw [Int.toNat_natCast]; exact hr
    have ok := rules_rok hpr okf _ (List.getElem_mem hn')
    refine WP.skip ?_
    refine WP.seq ?_
    refine WP.block ?_
    refine WP.seq ?_
    refine WP.region ?_
    refine Ops.y (v := .agg #[_, _]) (Y.loadv ty_25 rfl (I.rdbox 1 rfl 0 2) rfl rfl) ?_
    refine Ops.y (v := .slice _ _ _) (Y.move rfl) ?_
    refine Ops.y (v := .int .i64 _) (Y.move rfl) ?_
    refine Ops.go (O.call I Tryz.call47 (AllOf_ok _ I.base_ok p hp f hf n p.rules.xs[n] (by omega) hr' ok okf) rfl ?_)
    rintro _ h8 w I le8 ⟨sl, rfl, hsl, isl⟩
    refine Ops.y (v := .slice _ _ _) (Y.assign rfl) ?_
    refine Ops.nil ?_
    have hp := hp.le le8
    have hf := hf.le le8
    have hss := isl.small
    refine WP.seq ?_
    refine WP.region ?_
    refine Ops.y (v := .int .i64 _) (Y.assign rfl) ?_
    refine Ops.nil ?_
    refine WP.block ?_
    refine WP.loopE (σ := Nat × Bool × Heap) (fun s => [(2, .pointer (some ⟨b2, 0, none⟩)), (5, f.val), (9, .pointer (some ⟨b9, 0, none⟩)), (10, .bool s.2.1), (11, .int .i64 n), (12, sl.val), (13, .int .i64 s.1)])
      (fun s w => Inv B s.2.2 [box b9 x.enc 52, box b2 p.enc 25] w ∧ s.1 ≤ sl.xs.length ∧ h8.le s.2.2 ∧ (td = true → s.2.1 = true) ∧ ∀ i, i < s.1 → Hit p f.xs x n i → s.2.1 = true) (fun s => sl.xs.length - s.1)
      ⟨(0, td, h8), ⟨rfl, rfl, rfl, rfl, rfl, rfl, rfl, trivial⟩, I, Nat.zero_le _, Heap.le.refl _, fun h => h, fun i hi => by dsimp only at hi; omega⟩ ?_
    rintro ⟨k, t2, h9⟩ e w ⟨I, hk, gl9, ht2, hit2⟩
    dsimp only at I hk gl9 ht2 hit2 ⊢
    have hp := hp.le gl9
    have hf := hf.le gl9
    have Er := hp.rules.is.at hn'
    refine WP.seq ?_
    refine WP.seq ?_
    have out : ∀ (hnot : ¬ ((k : Int) < sl.xs.length ∧ p.rules.xs[n].head.pred = x.pred)), ∀ i, Hit p f.xs x n i → t2 = true := fun hnot i hi => by
      obtain ⟨r, s, g1, g2, g3, g4⟩ := hi
      rw [hr] at g1; injection g1 with g1; subst g1
      have hil := (List.getElem?_eq_some_iff.1 g3).1
      rw [← hsl] at hil
      exact hit2 i (by have : ¬ (k : Int) < sl.xs.length := fun h => hnot ⟨h, g2⟩; omega) ⟨_, s, hr, g2, g3, g4⟩
    by_cases hkl : (k : Int) < sl.xs.length
    · have hk' : k < sl.xs.length := by omega
      by_cases hpd : p.rules.xs[n].head.pred = x.pred
      · have E := (isl.le gl9).at hk'
        have hmem : sl.xs[k] ∈ stepsF f.xs n p.rules.xs[n] := hsl ▸ List.getElem_mem hk'
        have hget : (stepsF f.xs n p.rules.xs[n])[k]? = some sl.xs[k] := by rw [← hsl]; exact List.getElem?_eq_getElem hk'
        obtain ⟨_, hvs, hhf⟩ := steps_holds hmem
        obtain ⟨y, hy⟩ : ∃ y, headF p.preds.xs f.xs p.rules.xs[n] sl.xs[k].vars = y := ⟨_, rfl⟩
        have hyH : holdsOf p f.xs n sl.xs[k].vars = (true, y, 0) := by rw [← hy]; exact holdsOf_hit hpr okf hr hvs hhf
        refine WP.regionQ mixed I (by kernel_rfl) ?_
        refine OpsQ.y (v := .int .i64 _) (fun w I => Y.move rfl) ?_
        refine OpsQ.y (v := .slice _ _ _) (fun w I => Y.move rfl) ?_
        refine OpsQ.y (v := .int .i64 _) (fun w I => Y.lens Tryz.underlying36 rfl) ?_
        refine OpsQ.y (v := .bool true) (fun w I => Y.dec_t (Y.lti rfl rfl) (hkl)) ?_
        refine OpsQ.y (v := .bool _) (fun w I => Y.move rfl) ?_
        refine OpsQ.ygt rfl (v := .pointer (some ⟨_, _, none⟩)) (fun w I => Y.fa fa_25_1 rfl) ?_
        refine OpsQ.ygt rfl (v := .slice _ _ _) (fun w I => Y.loadv ty_23 rfl (I.rdbox 1 rfl 1 1) rfl rfl) ?_
        refine OpsQ.ygt rfl (v := .int .i64 _) (fun w I => Y.move rfl) ?_
        refine OpsQ.ygt rfl (v := .pointer (some ⟨_, _, none⟩)) (fun w I => Y.idxEl Er Tryz.underlying23 Tryz.sizeOf68 rfl rfl (Int.natCast_nonneg _) rfl) ?_
        refine OpsQ.ygt rfl (v := .pointer (some ⟨_, _, none⟩)) (fun w I => Y.fa0 fa_68_0 rfl) ?_
        refine OpsQ.ygt rfl (v := .pointer (some ⟨_, _, none⟩)) (fun w I => Y.fa0 fa_65_0 rfl) ?_
        refine OpsQ.ygt rfl (v := .int .i64 _) (fun w I => Y.loadv ty_3 rfl (I.rd (Er.rd.part 0 1)) rfl rfl) ?_
        refine OpsQ.ygt rfl (v := .pointer (some ⟨_, _, none⟩)) (fun w I => Y.fa0 fa_52_0 rfl) ?_
        refine OpsQ.ygt rfl (v := .int .i64 _) (fun w I => Y.loadv ty_3 rfl (I.rdbox 0 rfl 0 1) rfl rfl) ?_
        refine OpsQ.ygt rfl (v := .bool true) (fun w I => Y.dec_t (Y.eqi rfl rfl) (hpd)) ?_
        refine OpsQ.y (v := .bool _) (fun w I => Y.pick_t rfl rfl) ?_
        refine OpsQ.nil ?_
        intro w I
        refine WP.cond_t rfl ?_
        refine WP.skip ?_
        refine WP.seq ?_
        refine WP.block ?_
        refine WP.seq ?_
        refine WP.regionG mixed RBx.pre ⟨h9, none, none⟩ (J := JBx B [box b9 x.enc 52, box b2 p.enc 25] 52 [.int .i64 0, .int .i64 0, .int .i64 0, .int .i64 0] y.enc 13 99 15) ⟨rfl, rfl, fun h => (by cases h), I.drew⟩ 17 (by kernel_rfl) ?_
        refine OpsG.y_ (v := .agg #[_, _]) (fun _ => runsG_none _) RBx.pre (JBx.set (by decide)) (fun _ s w us hl hj => have I := hj.base; have hl := hl.h; Y.loadv ty_25 rfl (I.rdbox 1 rfl 0 2) rfl rfl) ?_
        refine OpsG.y_ (v := .slice _ _ _) (fun _ => runsG_none _) RBx.pre (JBx.set (by decide)) (fun _ s w us hl hj => have I := hj.base; have hl := hl.h; Y.move rfl) ?_
        refine OpsG.y_ (v := .int .i64 _) (fun _ => runsG_none _) RBx.pre (JBx.set (by decide)) (fun _ s w us hl hj => have I := hj.base; have hl := hl.h; Y.move rfl) ?_
        refine OpsG.y_ (v := .slice _ _ _) (fun _ => runsG_none _) RBx.pre (JBx.set (by decide)) (fun _ s w us hl hj => have I := hj.base; have hl := hl.h; Y.move rfl) ?_
        refine OpsG.y_ (v := .int .i64 _) (fun _ => runsG_none _) RBx.pre (JBx.set (by decide)) (fun _ s w us hl hj => have I := hj.base; have hl := hl.h; Y.move rfl) ?_
        refine OpsG.y_ (v := .pointer (some ⟨_, _, none⟩)) (fun _ => runsG_none _) RBx.pre (JBx.set (by decide)) (fun _ s w us hl hj => have I := hj.base; have hl := hl.h; Y.idxEl E Tryz.underlying36 Tryz.sizeOf82 rfl rfl (Int.natCast_nonneg _) rfl) ?_
        refine OpsG.y_ (v := .pointer (some ⟨_, _, none⟩)) (fun _ => runsG_none _) RBx.pre (JBx.set (by decide)) (fun _ s w us hl hj => have I := hj.base; have hl := hl.h; Y.fa fa_82_1 rfl) ?_
        refine OpsG.y_ (v := .agg #[_, _, _]) (fun _ => runsG_none _) RBx.pre (JBx.set (by decide)) (fun _ s w us hl hj => have I := hj.base; have hl := hl.h; Y.loadv ty_80 rfl (I.rd ((E.rd.part 1 3).le hl)) rfl rfl) ?_
        refine OpsG.c_ (by decide) (fun _ s w us hl hj => have I := hj.inv; have hl := hl.h; O.callv I Tryz.call48 (HoldsOf_at _ I.base_ok p (hp.le hl) hnm f (hf.le hl) n sl.xs[k].vars (true, y, 0) hyH) rfl (fun w' I' => ⟨rfl, ⟨hj.h7, hj.h8, hj.ord, I'⟩⟩)) ?_
        refine OpsG.y_ (v := .tuple #[_, _, _]) (fun _ => runsG_none _) RBx.pre (JBx.set (by decide)) (fun _ s w us hl hj => have I := hj.base; have hl := hl.h; Y.move rfl) ?_
        refine OpsG.y_ (v := .bool _) (fun _ => runsG_none _) RBx.pre (JBx.set (by decide)) (fun _ s w us hl hj => have I := hj.base; have hl := hl.h; Y.extract rfl rfl) ?_
        refine OpsG.y_ (v := .agg #[_, _, _, _]) (fun _ => runsG_none _) RBx.pre (JBx.set (by decide)) (fun _ s w us hl hj => have I := hj.base; have hl := hl.h; Y.extract rfl rfl) ?_
        refine OpsG.y_ (v := .int .i64 _) (fun _ => runsG_none _) RBx.pre (JBx.set (by decide)) (fun _ s w us hl hj => have I := hj.base; have hl := hl.h; Y.extract rfl rfl) ?_
        refine OpsG.make7 Tryz.zeroValue52 rfl (by decide) (by decide) ?_
        refine OpsG.y_ (v := .bool _) (fun _ => runsG_none _) RBx.pre (JBx.set (by decide)) (fun _ s w us hl hj => have I := hj.base; have hl := hl.h; Y.assign rfl) ?_
        refine OpsG.store7 ty_52 rfl rfl (fun s => by intro u15 q15; exact ⟨q15 rfl, rfl⟩) rfl rfl (by decide) (by decide) ?_
        refine OpsG.y_ (v := .int .i64 _) (fun _ => runsG_none _) RBx.pre (JBx.set (by decide)) (fun _ s w us hl hj => have I := hj.base; have hl := hl.h; Y.assign rfl) ?_
        refine OpsG.nil ?_
        intro D s' w hD hl hj' u15 q15
        refine Ops.nil ?_
        obtain ⟨b15, rfl, h15⟩ := q15 rfl
        have I := hj'.inv
        rw [h15, hD 15 (by omega)] at I
        have hl := hl.h
        generalize s'.o8 = o8 at I
        generalize s'.h = h12 at I hl
        have I : Inv B h12 [box b15 y.enc 52, box b9 x.enc 52, box b2 p.enc 25] w := by
          cases o8 with
          | none => exact I
          | some b8 => exact I.weak (List.Sublist.cons_cons _ (List.sublist_cons_self _ _))
        have nothit : (headF p.preds.xs f.xs p.rules.xs[n] sl.xs[k].vars).a ≠ x.a ∨ (headF p.preds.xs f.xs p.rules.xs[n] sl.xs[k].vars).b ≠ x.b → ∀ i, i < k + 1 → Hit p f.xs x n i → t2 = true := fun hor i hi hH => by
          rcases Nat.lt_succ_iff_lt_or_eq.1 hi with h | rfl
          · exact hit2 i h hH
          · obtain ⟨r, s, g1, g2, g3, g4, g5⟩ := hH
            rw [hr] at g1; injection g1 with g1; subst g1
            rw [hget] at g3; injection g3 with g3; subst g3
            rcases hor with h | h
            · exact absurd g4 h
            · exact absurd g5 h
        cases ht : t2
        · by_cases hA : y.a = x.a
          · by_cases hB' : y.b = x.b
            · refine WP.region ?_
              refine Ops.y (v := .bool _) (Y.move rfl) ?_
              refine Ops.y (v := .bool false) (Y.b (Y.move rfl) (rfl)) ?_
              refine Ops.ygt rfl (v := .pointer (some ⟨_, _, none⟩)) (Y.fa fa_52_1 rfl) ?_
              refine Ops.ygt rfl (v := .int .i64 _) (Y.loadv ty_3 rfl (I.rdbox 0 rfl 1 1) rfl rfl) ?_
              refine Ops.ygt rfl (v := .pointer (some ⟨_, _, none⟩)) (Y.fa fa_52_1 rfl) ?_
              refine Ops.ygt rfl (v := .int .i64 _) (Y.loadv ty_3 rfl (I.rdbox 1 rfl 1 1) rfl rfl) ?_
              refine Ops.ygt rfl (v := .bool true) (Y.dec_t (Y.eqi rfl rfl) (hA)) ?_
              refine Ops.ygt rfl (v := .bool _) (Y.move rfl) ?_
              refine Ops.ygt rfl (v := .pointer (some ⟨_, _, none⟩)) (Y.fa fa_52_2 rfl) ?_
              refine Ops.ygt rfl (v := .int .i64 _) (Y.loadv ty_3 rfl (I.rdbox 0 rfl 2 1) rfl rfl) ?_
              refine Ops.ygt rfl (v := .pointer (some ⟨_, _, none⟩)) (Y.fa fa_52_2 rfl) ?_
              refine Ops.ygt rfl (v := .int .i64 _) (Y.loadv ty_3 rfl (I.rdbox 1 rfl 2 1) rfl rfl) ?_
              refine Ops.ygt rfl (v := .bool true) (Y.dec_t (Y.eqi rfl rfl) (hB')) ?_
              refine Ops.ygt rfl (v := .bool _) (Y.pick_t rfl rfl) ?_
              refine Ops.y (v := .bool _) (Y.pick_f rfl rfl) ?_
              refine Ops.y (v := .bool _) (Y.assign rfl) ?_
              refine Ops.nil ?_
              refine WP.region ?_
              refine Ops.y (v := .int .i64 _) (Y.move rfl) ?_
              refine Ops.y (v := .int .i64 _) (Y.addi rfl rfl ⟨by omega, by omega⟩) ?_
              refine Ops.y (v := .int .i64 _) (Y.assign rfl) ?_
              refine Ops.nil ?_
              exact ⟨(k + 1, true, h12), ⟨⟨rfl, rfl, rfl, rfl, rfl, rfl, rfl, trivial⟩, I.drop, by dsimp only; omega, gl9.trans hl, fun _ => rfl, fun _ _ _ => rfl⟩, by dsimp only; omega⟩
            · refine WP.region ?_
              refine Ops.y (v := .bool _) (Y.move rfl) ?_
              refine Ops.y (v := .bool false) (Y.b (Y.move rfl) (rfl)) ?_
              refine Ops.ygt rfl (v := .pointer (some ⟨_, _, none⟩)) (Y.fa fa_52_1 rfl) ?_
              refine Ops.ygt rfl (v := .int .i64 _) (Y.loadv ty_3 rfl (I.rdbox 0 rfl 1 1) rfl rfl) ?_
              refine Ops.ygt rfl (v := .pointer (some ⟨_, _, none⟩)) (Y.fa fa_52_1 rfl) ?_
              refine Ops.ygt rfl (v := .int .i64 _) (Y.loadv ty_3 rfl (I.rdbox 1 rfl 1 1) rfl rfl) ?_
              refine Ops.ygt rfl (v := .bool true) (Y.dec_t (Y.eqi rfl rfl) (hA)) ?_
              refine Ops.ygt rfl (v := .bool _) (Y.move rfl) ?_
              refine Ops.ygt rfl (v := .pointer (some ⟨_, _, none⟩)) (Y.fa fa_52_2 rfl) ?_
              refine Ops.ygt rfl (v := .int .i64 _) (Y.loadv ty_3 rfl (I.rdbox 0 rfl 2 1) rfl rfl) ?_
              refine Ops.ygt rfl (v := .pointer (some ⟨_, _, none⟩)) (Y.fa fa_52_2 rfl) ?_
              refine Ops.ygt rfl (v := .int .i64 _) (Y.loadv ty_3 rfl (I.rdbox 1 rfl 2 1) rfl rfl) ?_
              refine Ops.ygt rfl (v := .bool false) (Y.dec_f (Y.eqi rfl rfl) (hB')) ?_
              refine Ops.ygt rfl (v := .bool _) (Y.pick_t rfl rfl) ?_
              refine Ops.y (v := .bool _) (Y.pick_f rfl rfl) ?_
              refine Ops.y (v := .bool _) (Y.assign rfl) ?_
              refine Ops.nil ?_
              refine WP.region ?_
              refine Ops.y (v := .int .i64 _) (Y.move rfl) ?_
              refine Ops.y (v := .int .i64 _) (Y.addi rfl rfl ⟨by omega, by omega⟩) ?_
              refine Ops.y (v := .int .i64 _) (Y.assign rfl) ?_
              refine Ops.nil ?_
              exact ⟨(k + 1, t2, h12), ⟨⟨rfl, rfl, rfl, by dsimp only; rw [ht]; rfl, rfl, rfl, rfl, trivial⟩, I.drop, by dsimp only; omega, gl9.trans hl, ht2, nothit (.inr (by rw [hy]; exact hB'))⟩, by dsimp only; omega⟩
          · refine WP.region ?_
            refine Ops.y (v := .bool _) (Y.move rfl) ?_
            refine Ops.y (v := .bool false) (Y.b (Y.move rfl) (rfl)) ?_
            refine Ops.ygt rfl (v := .pointer (some ⟨_, _, none⟩)) (Y.fa fa_52_1 rfl) ?_
            refine Ops.ygt rfl (v := .int .i64 _) (Y.loadv ty_3 rfl (I.rdbox 0 rfl 1 1) rfl rfl) ?_
            refine Ops.ygt rfl (v := .pointer (some ⟨_, _, none⟩)) (Y.fa fa_52_1 rfl) ?_
            refine Ops.ygt rfl (v := .int .i64 _) (Y.loadv ty_3 rfl (I.rdbox 1 rfl 1 1) rfl rfl) ?_
            refine Ops.ygt rfl (v := .bool false) (Y.dec_f (Y.eqi rfl rfl) (hA)) ?_
            refine Ops.ygt rfl (v := .bool _) (Y.move rfl) ?_
            refine Ops.gf rfl ?_
            refine Ops.gf rfl ?_
            refine Ops.gf rfl ?_
            refine Ops.gf rfl ?_
            refine Ops.gf rfl ?_
            refine Ops.ygt rfl (v := .bool _) (Y.pick_f rfl rfl) ?_
            refine Ops.y (v := .bool _) (Y.pick_f rfl rfl) ?_
            refine Ops.y (v := .bool _) (Y.assign rfl) ?_
            refine Ops.nil ?_
            refine WP.region ?_
            refine Ops.y (v := .int .i64 _) (Y.move rfl) ?_
            refine Ops.y (v := .int .i64 _) (Y.addi rfl rfl ⟨by omega, by omega⟩) ?_
            refine Ops.y (v := .int .i64 _) (Y.assign rfl) ?_
            refine Ops.nil ?_
            exact ⟨(k + 1, t2, h12), ⟨⟨rfl, rfl, rfl, by dsimp only; rw [ht]; rfl, rfl, rfl, rfl, trivial⟩, I.drop, by dsimp only; omega, gl9.trans hl, ht2, nothit (.inl (by rw [hy]; exact hA))⟩, by dsimp only; omega⟩
        · refine WP.region ?_
          refine Ops.y (v := .bool _) (Y.move rfl) ?_
          refine Ops.y (v := .bool true) (Y.b (Y.move rfl) (rfl)) ?_
          refine Ops.gf rfl ?_
          refine Ops.gf rfl ?_
          refine Ops.gf rfl ?_
          refine Ops.gf rfl ?_
          refine Ops.gf rfl ?_
          refine Ops.gf rfl ?_
          refine Ops.gf rfl ?_
          refine Ops.gf rfl ?_
          refine Ops.gf rfl ?_
          refine Ops.gf rfl ?_
          refine Ops.gf rfl ?_
          refine Ops.gf rfl ?_
          refine Ops.y (v := .bool _) (Y.pick_t rfl rfl) ?_
          refine Ops.y (v := .bool _) (Y.assign rfl) ?_
          refine Ops.nil ?_
          refine WP.region ?_
          refine Ops.y (v := .int .i64 _) (Y.move rfl) ?_
          refine Ops.y (v := .int .i64 _) (Y.addi rfl rfl ⟨by omega, by omega⟩) ?_
          refine Ops.y (v := .int .i64 _) (Y.assign rfl) ?_
          refine Ops.nil ?_
          exact ⟨(k + 1, true, h12), ⟨⟨rfl, rfl, rfl, rfl, rfl, rfl, rfl, trivial⟩, I.drop, by dsimp only; omega, gl9.trans hl, fun _ => rfl, fun _ _ _ => rfl⟩, by dsimp only; omega⟩
      · refine WP.regionQ mixed I (by kernel_rfl) ?_
        refine OpsQ.y (v := .int .i64 _) (fun w I => Y.move rfl) ?_
        refine OpsQ.y (v := .slice _ _ _) (fun w I => Y.move rfl) ?_
        refine OpsQ.y (v := .int .i64 _) (fun w I => Y.lens Tryz.underlying36 rfl) ?_
        refine OpsQ.y (v := .bool true) (fun w I => Y.dec_t (Y.lti rfl rfl) (hkl)) ?_
        refine OpsQ.y (v := .bool _) (fun w I => Y.move rfl) ?_
        refine OpsQ.ygt rfl (v := .pointer (some ⟨_, _, none⟩)) (fun w I => Y.fa fa_25_1 rfl) ?_
        refine OpsQ.ygt rfl (v := .slice _ _ _) (fun w I => Y.loadv ty_23 rfl (I.rdbox 1 rfl 1 1) rfl rfl) ?_
        refine OpsQ.ygt rfl (v := .int .i64 _) (fun w I => Y.move rfl) ?_
        refine OpsQ.ygt rfl (v := .pointer (some ⟨_, _, none⟩)) (fun w I => Y.idxEl Er Tryz.underlying23 Tryz.sizeOf68 rfl rfl (Int.natCast_nonneg _) rfl) ?_
        refine OpsQ.ygt rfl (v := .pointer (some ⟨_, _, none⟩)) (fun w I => Y.fa0 fa_68_0 rfl) ?_
        refine OpsQ.ygt rfl (v := .pointer (some ⟨_, _, none⟩)) (fun w I => Y.fa0 fa_65_0 rfl) ?_
        refine OpsQ.ygt rfl (v := .int .i64 _) (fun w I => Y.loadv ty_3 rfl (I.rd (Er.rd.part 0 1)) rfl rfl) ?_
        refine OpsQ.ygt rfl (v := .pointer (some ⟨_, _, none⟩)) (fun w I => Y.fa0 fa_52_0 rfl) ?_
        refine OpsQ.ygt rfl (v := .int .i64 _) (fun w I => Y.loadv ty_3 rfl (I.rdbox 0 rfl 0 1) rfl rfl) ?_
        refine OpsQ.ygt rfl (v := .bool false) (fun w I => Y.dec_f (Y.eqi rfl rfl) (hpd)) ?_
        refine OpsQ.y (v := .bool _) (fun w I => Y.pick_t rfl rfl) ?_
        refine OpsQ.nil ?_
        intro w I
        refine WP.cond_f rfl ?_
        refine WP.exit ?_
        refine WP.region ?_
        refine Ops.y (v := .int .i64 _) (Y.move rfl) ?_
        refine Ops.y (v := .int .i64 _) (Y.addi rfl rfl ⟨by omega, by omega⟩) ?_
        refine Ops.y (v := .int .i64 _) (Y.assign rfl) ?_
        refine Ops.nil ?_
        exact ⟨(n + 1, t2, h9), ⟨⟨rfl, rfl, rfl, rfl, rfl, trivial⟩, I, by dsimp only; omega, (gl.trans le8).trans gl9, fun m i hm hH => by
          dsimp only at hm ⊢
          rcases Nat.lt_succ_iff_lt_or_eq.1 hm with h | rfl
          · exact ht2 (hit m i h hH)
          · exact out (fun h => hpd h.2) i hH⟩, by dsimp only; omega⟩
    · refine WP.regionQ mixed I (by kernel_rfl) ?_
      refine OpsQ.y (v := .int .i64 _) (fun w I => Y.move rfl) ?_
      refine OpsQ.y (v := .slice _ _ _) (fun w I => Y.move rfl) ?_
      refine OpsQ.y (v := .int .i64 _) (fun w I => Y.lens Tryz.underlying36 rfl) ?_
      refine OpsQ.y (v := .bool false) (fun w I => Y.dec_f (Y.lti rfl rfl) (hkl)) ?_
      refine OpsQ.y (v := .bool _) (fun w I => Y.move rfl) ?_
      refine OpsQ.gf rfl ?_
      refine OpsQ.gf rfl ?_
      refine OpsQ.gf rfl ?_
      refine OpsQ.gf rfl ?_
      refine OpsQ.gf rfl ?_
      refine OpsQ.gf rfl ?_
      refine OpsQ.gf rfl ?_
      refine OpsQ.gf rfl ?_
      refine OpsQ.gf rfl ?_
      refine OpsQ.gf rfl ?_
      refine OpsQ.y (v := .bool _) (fun w I => Y.pick_f rfl rfl) ?_
      refine OpsQ.nil ?_
      intro w I
      refine WP.cond_f rfl ?_
      refine WP.exit ?_
      refine WP.region ?_
      refine Ops.y (v := .int .i64 _) (Y.move rfl) ?_
      refine Ops.y (v := .int .i64 _) (Y.addi rfl rfl ⟨by omega, by omega⟩) ?_
      refine Ops.y (v := .int .i64 _) (Y.assign rfl) ?_
      refine Ops.nil ?_
      exact ⟨(n + 1, t2, h9), ⟨⟨rfl, rfl, rfl, rfl, rfl, trivial⟩, I, by dsimp only; omega, (gl.trans le8).trans gl9, fun m i hm hH => by
        dsimp only at hm ⊢
        rcases Nat.lt_succ_iff_lt_or_eq.1 hm with h | rfl
        · exact ht2 (hit m i h hH)
        · exact out (fun h => hkl h.1) i hH⟩, by dsimp only; omega⟩
  obtain rfl : n = p.rules.xs.length := by omega
  have htd : td = true := by
    have hxm := List.mem_of_getElem? hx
    obtain ⟨m, r, v, g1, g2, g3, g4, g5⟩ := j.told x hxm
    have hrm := List.mem_of_getElem? g1
    have ok := rules_rok hpr okf _ hrm
    obtain ⟨e1, e2, e3⟩ := (fine_pf okf.len (headF_fine ok okf g2 g4)).inj (fine_pf okf.len (okf.fine x hxm)) g5
    have hmem : (⟨(m : Int), v⟩ : Stp) ∈ stepsF f.xs m r := by
      unfold stepsF
      exact List.mem_map.2 ⟨v, List.mem_filter.2 ⟨mem_vecs.2 g2, by rw [g3, g4]; rfl⟩, rfl⟩
    obtain ⟨i, hi, hie⟩ := List.getElem_of_mem hmem
    exact hit m i (List.getElem?_eq_some_iff.1 g1).1 ⟨r, ⟨(m : Int), v⟩, g1, e1, by rw [List.getElem?_eq_getElem hi, hie], e2, e3⟩
  subst htd
  refine WP.exit ?_
  refine WP.seq ?_
  refine WP.region ?_
  refine Ops.go (O.callv I Tryz.call32 (naiveBegun_ok _ I.base_ok) rfl ?_)
  intro w I
  refine Ops.y (v := .bool _) (Y.move rfl) ?_
  refine Ops.ygt rfl (v := .bool _) (Y.move rfl) ?_
  refine Ops.y (v := .bool _) (Y.pick_t rfl rfl) ?_
  refine Ops.y (v := .bool _) (Y.assign rfl) ?_
  refine Ops.nil ?_
  refine WP.ret ?_
  repeat (first | refine thenE_ret ?_ | refine blockE_ret ?_)
  exact retQ.mk (vs := [.bool _]) rfl ⟨rfl, trivial⟩ I.ext_of (rfl)
end Go.TF
end
