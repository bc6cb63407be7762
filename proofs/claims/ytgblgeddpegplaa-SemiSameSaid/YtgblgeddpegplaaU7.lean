/- Texts Nai1 Semi1 Base20 Semi2 Prog9 RoadsM Prog10 ProgLaw ProgLaw2 Nai2 Semi3. -/
import Derived.Test.YtgblgeddpegplaaU6
import Derived.Test.YtgblgeddpegplaaU5
import Derived.Test.YtgblgeddpegplaaU2
import Derived.Test.YtgblgeddpegplaaU3
section
/- Naive: how many strata; rounds of each until none changes anything; and the document's. -/
namespace Go.TF
open Go Go.RowKit Go.Proofs
set_option maxRecDepth 20000

theorem mostL_take {L : List Int} {k : Nat} (hk : k < L.length) : mostL (L.take (k + 1)) = max (mostL (L.take k)) L[k] := by
  unfold mostL; rw [List.take_succ_eq_append_getElem hk, List.foldl_append]; rfl
theorem mostL_small {L : List Int} (h : ∀ x ∈ L, 0 ≤ x ∧ x ≤ 5) : mostL L ≤ 5 := by
  rcases mostL_of L with e | e
  · omega
  · exact (h _ e).2
theorem numS_eq (L : List Int) : ((numS L : Nat) : Int) = mostL L + 1 := by have := mostL_ge L; unfold numS; omega
theorem least_small {p : Prg} {L : List Int} (h : checkProg p = 0) (hL : Least (usesL p.rules.xs) p.preds.xs.length L) : ∀ x ∈ L, 0 ≤ x ∧ x ≤ 5 := fun x hx => by
  obtain ⟨k1, _, k3, _, _⟩ := checkProg_ok h
  obtain ⟨j, hj, rfl⟩ := List.getElem_of_mem hx
  have hl := hL.sol.len
  have h1 := hL.sol.pos j
  have h2 := least_lt (inR_of k3) hL (i := (j : Int)) (by omega) (by omega)
  rw [lv_get hj] at h1 h2
  omega
theorem NStrata_ok (B : Base) (hB : B.ok) (s : Sl Int) (hs : s.Is 1 iEnc B.h) (hb : ∀ x ∈ s.xs, 0 ≤ x ∧ x ≤ 5) : Fn Try.prog 31 [s.val] B (fun v _ => v = .int .i64 (numS s.xs : Nat)) := by
  have hsm := hs.small
  refine Fn.of Try.func31 rfl Try.ntmps31 (by kernel_rfl) (by simp) ?_
  intro e
  have I := Inv.start hB
  refine WP.seq ?_
  refine WP.region ?_
  refine Ops.y (v := .int .i64 _) (Y.assign rfl) ?_
  refine Ops.nil ?_
  refine WP.seq ?_
  refine WP.region ?_
  refine Ops.y (v := .int .i64 _) (Y.assign rfl) ?_
  refine Ops.nil ?_
  refine WP.seq ?_
  refine WP.seq ?_
  refine WP.region ?_
  refine Ops.y (v := .slice _ _ _) (Y.move rfl) ?_
  refine Ops.y (v := .int .i64 _) (Y.lens Try.underlying40 rfl) ?_
  refine Ops.y (v := .int .i64 _) (Y.move rfl) ?_
  refine Ops.nil ?_
  refine WP.block ?_
  refine WP.loopE (σ := Nat) (fun k => [(3, .int .i64 (mostL (s.xs.take k) + 1)), (6, s.val), (7, .int .i64 s.xs.length), (8, .int .i64 k)]) (fun k w => Inv B B.h [] w ∧ k ≤ s.xs.length) (fun k => s.xs.length - k)
    ⟨0, ⟨rfl, rfl, rfl, rfl, trivial⟩, I, Nat.zero_le _⟩ ?_
  rintro k e w ⟨I, hk⟩
  refine WP.seq ?_
  refine WP.region ?_
  refine Ops.y (v := .bool (decide _)) (Y.lti rfl rfl) ?_
  refine Ops.nil ?_
  refine WP.seq ?_
  refine WP.cond_dec rfl (fun h3 => ?_) (fun h3 => ?_)
  · have hk' : k < s.xs.length := by omega
    have E := hs.at hk'
    have hx := hb _ (List.getElem_mem hk')
    refine WP.skip ?_
    refine WP.seq ?_
    refine WP.block ?_
    refine WP.seq ?_
    refine WP.region ?_
    refine Ops.y (v := .pointer (some ⟨_, _, none⟩)) (Y.idxEl E Try.underlying40 Try.sizeOf3 rfl rfl (Int.natCast_nonneg _) rfl) ?_
    refine Ops.y (v := .int .i64 _) (Y.loadv ty_3 rfl (I.rd (E.rd.part 0 1)) rfl rfl) ?_
    refine Ops.y (v := .int .i64 _) (Y.assign rfl) ?_
    refine Ops.nil ?_
    refine WP.region ?_
    refine Ops.y (v := .int .i64 _) (Y.move rfl) ?_
    refine Ops.y (v := .int .i64 _) (Y.move rfl) ?_
    refine Ops.y (v := .int .i64 _) (Y.addi rfl rfl ⟨by omega, by omega⟩) ?_
    refine Ops.y (v := .int .i64 _) (Y.max2 rfl rfl) ?_
    refine Ops.y (v := .int .i64 _) (Y.assign rfl) ?_
    refine Ops.nil ?_
    refine WP.region ?_
    refine Ops.y (v := .int .i64 _) (Y.addi rfl rfl ⟨by omega, by omega⟩) ?_
    refine Ops.y (v := .int .i64 _) (Y.move rfl) ?_
    refine Ops.nil ?_
    exact ⟨k + 1, ⟨⟨congrArg (Value.int .i64) (by rw [mostL_take hk']; omega), rfl, rfl, rfl, trivial⟩, I, by omega⟩, by omega⟩
  obtain rfl : k = s.xs.length := by omega
  refine WP.exit ?_
  refine WP.seq ?_
  refine WP.region ?_
  refine Ops.y (v := .int .i64 _) (Y.move rfl) ?_
  refine Ops.y (v := .int .i64 _) (Y.assign rfl) ?_
  refine Ops.nil ?_
  refine WP.ret ?_
  repeat (first | refine thenE_ret ?_ | refine blockE_ret ?_)
  exact retQ.mk (vs := [.int .i64 _]) rfl ⟨rfl, trivial⟩ I.ext_of (by simp only [tup]; rw [List.take_length, numS_eq])
def RecP (p : Prg) (v : Value) (h : Heap) : Prop := ∃ (s : Sl Fct) (r : Sl Int), v = .tuple #[s.val, r.val] ∧ Fcts s h ∧ r.Is 1 iEnc h ∧ ModK p (strataM p) (numS (strataM p)) s.xs r.xs
def RecO (h0 : Heap) (p : Prg) (v : Value) (h : Heap) : Prop := ∃ (s : Sl Fct) (r : Sl Int), v = .tuple #[s.val, r.val] ∧ Fcts s h ∧ r.Is 1 iEnc h ∧ ModK p (strataM p) (numS (strataM p)) s.xs r.xs ∧ OwnH 72 4 s Fct.enc h0 h
theorem RecO.rec {h0 h : Heap} {p : Prg} {v : Value} (x : RecO h0 p v h) : RecP p v h := by obtain ⟨s, r, a, b, c, d, _⟩ := x; exact ⟨s, r, a, b, c, d⟩
theorem PutO.mono {h0 : Heap} {r : List Fct × Bool} : MonoS (PutO h0 r) := fun _ _ _ hl ⟨s, a, b, c, d⟩ => ⟨s, a, b, c.le hl, d.le hl⟩
def SlO (h0 : Heap) (xs : List Fct) : Sp := fun v h => ∃ s : Sl Fct, v = s.val ∧ s.xs = xs ∧ Fcts s h ∧ OwnH 72 4 s Fct.enc h0 h
theorem SlO.mono {h0 : Heap} {xs : List Fct} : MonoS (SlO h0 xs) := fun _ _ _ hl ⟨s, a, b, c, d⟩ => ⟨s, a, b, c.le hl, d.le hl⟩
theorem put_mid {a : List Int} {t : List Int} {x y : Int} {k : Nat} (h : a.length = k) : (a ++ x :: t).set k y = a ++ y :: t := by subst h; simp
theorem get_mid {a : List Int} {t : List Int} {x : Int} {k : Nat} (h : a.length = k) : (a ++ x :: t)[k]? = some x := by subst h; simp
set_option maxHeartbeats 4000000 in
theorem Reckon_own (B : Base) (hB : B.ok) (p : Prg) (hp : p.In B.h) (hpr : checkProg p = 0) : Fn Try.prog 40 [p.val] B (RecO B.h p) := by
  obtain ⟨k1, k2, k3, _, _⟩ := checkProg_ok hpr
  have rk := chk_rok hpr
  have ok0 := chk_nil hpr
  refine Fn.of Try.func40 rfl Try.ntmps40 (by kernel_rfl) (by simp) ?_
  intro e
  have I := Inv.start hB
  refine WP.seq ?_
  refine WP.region ?_
  refine Ops.go (O.box (v := .agg #[_, _]) I rfl rfl ?_)
  intro b1 w I
  refine Ops.y (v := .slice _ _ _) (Y.assign rfl) ?_
  refine Ops.y (v := .slice _ _ _) (Y.assign rfl) ?_
  refine Ops.nil ?_
  refine WP.seq ?_
  refine WP.region ?_
  refine Ops.y (v := .agg #[_, _]) (Y.loadv ty_25 rfl (I.rdbox 0 rfl 0 2) rfl rfl) ?_
  refine Ops.go (O.call I Try.call50 (Levels_ok _ I.base_ok p hp (inR_of k3) k1) rfl ?_)
  rintro v13 h1 w I le1 hL
  rcases hL with ⟨s, hS, hI, rfl⟩ | ⟨hno, rfl⟩
  rotate_left
  exact absurd (strataM_least hpr).sol (hno _)
  refine Ops.y (v := .tuple #[_, _]) (Y.move rfl) ?_
  refine Ops.y (v := .slice _ _ _) (Y.extract rfl rfl) ?_
  refine Ops.y (v := .bool _) (Y.extract rfl rfl) ?_
  refine Ops.y (v := .slice _ _ _) (Y.assign rfl) ?_
  refine Ops.y (v := .bool _) (Y.assign rfl) ?_
  refine Ops.nil ?_
  have hS : Least (usesL p.rules.xs) p.preds.xs.length s.xs := hS
  have eM := strataM_eq hS
  have hb5 := least_small hpr hS
  have hN5 := mostL_small hb5
  have hNe := numS_eq s.xs
  obtain ⟨N, hN⟩ : ∃ N, numS s.xs = N := ⟨_, rfl⟩
  refine WP.seq ?_
  refine WP.region ?_
  refine Ops.y (v := .slice _ _ _) (Y.assign rfl) ?_
  refine Ops.nil ?_
  refine WP.seq ?_
  refine WP.region ?_
  refine Ops.y (v := .slice _ _ _) (Y.move rfl) ?_
  refine Ops.go (O.callv I Try.call31 (hN ▸ NStrata_ok _ I.base_ok s hI hb5) rfl ?_)
  intro w I
  refine Ops.go (O.make1 (n := N) (zc := (vI 0)) I Try.underlying40 et_3 rfl rfl rfl (by omega) (by omega) ?_)
  intro b18 w I
  refine Ops.y (v := .slice _ _ _) (Y.assign rfl) ?_
  refine Ops.nil ?_
  rw [← List.map_replicate (f := vI)] at I
  refine WP.seq ?_
  refine WP.seq ?_
  refine WP.region ?_
  refine Ops.y (v := .slice _ _ _) (Y.move rfl) ?_
  refine Ops.y (v := .int .i64 _) (Y.lens Try.underlying40 rfl) ?_
  refine Ops.y (v := .int .i64 _) (Y.move rfl) ?_
  refine Ops.nil ?_
  refine WP.block ?_
  refine WP.loopE (σ := Nat × Sl Fct × List Int × Heap) (fun s' => [(1, .pointer (some ⟨b1, 0, none⟩)), (4, s.val), (6, s'.2.1.val), (7, .slice (some ⟨b18, 0, none⟩) N N), (20, .int .i64 N), (21, .int .i64 s'.1)])
    (fun s' w => Inv B s'.2.2.2 [box b18 ((s'.2.2.1 ++ List.replicate (N - s'.1) 0).map vI) 3, box b1 p.enc 25] w ∧ s'.1 ≤ N ∧ h1.le s'.2.2.2 ∧ ModK p s.xs s'.1 s'.2.1.xs s'.2.2.1 ∧ Fcts s'.2.1 s'.2.2.2 ∧ OwnH 72 4 s'.2.1 Fct.enc B.h s'.2.2.2) (fun s' => N - s'.1)
    ⟨(0, ⟨none, 0, []⟩, [], h1), ⟨rfl, rfl, rfl, rfl, rfl, rfl, trivial⟩, I, Nat.zero_le _, Heap.le.refl _, ⟨rfl, rfl⟩, fnil, .inl rfl⟩ ?_
  rintro ⟨k, f, r0, hh⟩ e w ⟨I, hk, gl, hm, hf, ho⟩
  dsimp only at I hk gl hm hf ho ⊢
  have hrl := hm.len
  refine WP.seq ?_
  refine WP.region ?_
  refine Ops.y (v := .bool (decide _)) (Y.lti rfl rfl) ?_
  refine Ops.nil ?_
  refine WP.seq ?_
  refine WP.cond_dec rfl (fun h5 => ?_) (fun h5 => ?_)
  · have hk' : k < N := by omega
    have j0 := modK_mj rk hS.sol ok0 hm
    refine WP.skip ?_
    refine WP.seq ?_
    refine WP.block ?_
    refine WP.seq ?_
    refine WP.region ?_
    refine Ops.y (v := .int .i64 _) (Y.move rfl) ?_
    refine Ops.y (v := .int .i64 _) (Y.assign rfl) ?_
    refine Ops.nil ?_
    rw [show N - k = (N - k - 1) + 1 by omega, List.replicate_succ] at I
    refine WP.block ?_
    refine WP.loopE (σ := Nat × Sl Fct × Heap) (fun s' => [(1, .pointer (some ⟨b1, 0, none⟩)), (4, s.val), (6, s'.2.1.val), (7, .slice (some ⟨b18, 0, none⟩) N N), (8, .int .i64 k), (20, .int .i64 N), (21, .int .i64 k)])
      (fun s' w => Inv B s'.2.2 [box b18 ((r0 ++ (s'.1 : Int) :: List.replicate (N - k - 1) 0).map vI) 3, box b1 p.enc 25] w ∧ h1.le s'.2.2 ∧ FOk p.preds.xs s'.2.1.xs ∧ CloB (turnT p s.xs k) f.xs s'.1 s'.2.1.xs ∧ Fcts s'.2.1 s'.2.2 ∧ s'.1 ≤ potF p.preds.xs s'.2.1.xs ∧ OwnH 72 4 s'.2.1 Fct.enc B.h s'.2.2) (fun s' => 2001 - potF p.preds.xs s'.2.1.xs)
      ⟨(0, f, hh), ⟨rfl, rfl, rfl, rfl, rfl, rfl, rfl, trivial⟩, I, gl, j0.fok, CloB.zero, hf, Nat.zero_le _, ho⟩ ?_
    rintro ⟨m, u, h2⟩ e w ⟨I, gl2, okf, cb, hu, hmp, hou⟩
    dsimp only at I gl2 okf cb hu hmp hou ⊢
    have hp2 := hp.le (le1.trans gl2)
    have hI2 := hI.le gl2
    have hpl := potF_le p.preds.xs u.xs
    have tf := told_fine (q := ofQ p s.xs k) rk okf
    obtain ⟨tr, htr⟩ : ∃ t, turnL p.preds.xs u.xs (toldL p.preds.xs u.xs p.rules.xs (ofQ p s.xs k)) = t := ⟨_, rfl⟩
    have htT : turnT p s.xs k u.xs = tr := htr
    refine WP.block ?_
    refine WP.seq ?_
    refine WP.regionF mixed I 12 (by kernel_rfl) ?_
    refine OpsF.y_ (v := .agg #[_, _]) (fun _ => runs_none _) (fun _ w us hl I => Y.loadv ty_25 rfl (I.rdbox 1 rfl 0 2) rfl rfl) ?_
    refine OpsF.y_ (v := .slice _ _ _) (fun _ => runs_none _) (fun _ w us hl I => Y.move rfl) ?_
    refine OpsF.y_ (v := .agg #[_, _]) (fun _ => runs_none _) (fun _ w us hl I => Y.loadv ty_25 rfl (I.rdbox 1 rfl 0 2) rfl rfl) ?_
    refine OpsF.y_ (v := .slice _ _ _) (fun _ => runs_none _) (fun _ w us hl I => Y.move rfl) ?_
    refine OpsF.y_ (v := .int .i64 _) (fun _ => runs_none _) (fun _ w us hl I => Y.move rfl) ?_
    refine OpsF.x_ (Φ := ROfS p s.xs k) ROfS.mono (fun _ => runs_none _) ?_ ?_
    · intro _ w hl I
      try unfold AllL
      refine O.call I Try.call34 (ROf_ok _ I.base_ok p s k) rfl ?_
      rintro _ h5 w I hl' ⟨b4, b3, b5, rfl, k4, k3', k5⟩
      exact ⟨_, hl', I, ⟨_, rfl, ROf1_ok p s k b4 b3 b5 k4 k3' k5 ((hp2.le hl).le hl') ((hI2.le hl).le hl') hS.sol.len (heads_in k3)⟩⟩
    refine OpsF.x_ (Φ := PutO B.h tr) PutO.mono (fun _ => runs_none _) ?_ ?_
    · intro _ w hl I u30 q30
      obtain ⟨cs, rfl, hoc⟩ := q30 rfl
      try unfold AllL
      refine O.call I Try.call72 (htr ▸ Turn_own _ I.base_ok p (hp2.le hl) hpr u (hu.le hl) okf 63 cs _ hoc) rfl ?_
      rintro _ h6 w I hl' ⟨s9, a9, b9, c9, d9⟩
      exact ⟨_, hl', I, ⟨s9, a9, b9, c9, d9.older (((le1.trans gl2).trans hl))⟩⟩
    refine OpsF.x_ (Φ := PutO B.h tr) PutO.mono (fun _ => runs_none _) ?_ ?_
    · intro _ w hl I u30 q30 u31 q31
      exact O.yx I (Y.move rfl) (q31 rfl)
    refine OpsF.x_ (Φ := SlO B.h tr.1) SlO.mono (fun _ => runs_none _) ?_ ?_
    · intro _ w hl I u30 q30 u31 q31 u24 q24
      obtain ⟨s6, rfl, e6, i6, o6⟩ := q24 rfl
      exact O.yx I (Y.extract rfl rfl) (⟨s6, rfl, e6, i6, o6⟩)
    refine OpsF.d_ (v := .bool tr.2) (fun _ => runs_none _) ?_ ?_
    · intro _ w hl I u30 q30 u31 q31 u24 q24 u32 q32
      obtain ⟨s6, rfl, e6, i6, o6⟩ := q24 rfl
      exact O.yd I (Y.extract rfl rfl) (rfl)
    refine OpsF.x_ (Φ := SlO B.h tr.1) SlO.mono (fun _ => runs_none _) ?_ ?_
    · intro _ w hl I u30 q30 u31 q31 u24 q24 u32 q32
      exact O.yx I (Y.assign rfl) (q32 rfl)
    refine OpsF.y_ (v := .bool _) (fun _ => runs_none _) (fun _ w us hl I => Y.assign rfl) ?_
    refine OpsF.nil ?_
    intro _ w hl I u30 q30 u31 q31 u24 q24 u32 q32 u9 q9
    refine Ops.nil ?_
    obtain ⟨s6, rfl, hs6, is6, os6⟩ := q9 rfl
    have hf6 : Fcts s6 _ := is6
    have okg : FOk p.preds.xs s6.xs := by rw [hs6, ← htr]; exact turn_fok okf tf
    refine WP.seq ?_
    refine WP.seq ?_
    refine WP.region ?_
    refine Ops.y (v := .bool _) (Y.move rfl) ?_
    refine Ops.y (v := .bool _) (Y.not rfl) ?_
    refine Ops.nil ?_
    refine WP.cond rfl (fun h8 => ?_) (fun h8 => ?_)
    · have h8 : tr.2 = false := by simpa using h8
      refine WP.exit ?_
      refine WP.region ?_
      refine Ops.y (v := .int .i64 _) (Y.addi rfl rfl ⟨by omega, by omega⟩) ?_
      refine Ops.y (v := .int .i64 _) (Y.move rfl) ?_
      refine Ops.nil ?_
      exact ⟨(k + 1, u, r0 ++ [(m : Int)], _), ⟨⟨rfl, rfl, rfl, rfl, rfl, rfl, trivial⟩, by rw [List.append_assoc, List.singleton_append, show N - (k + 1) = N - k - 1 by omega]; exact I, by dsimp only; omega, gl2.trans hl, ⟨f.xs, r0, m, hm, cb.done (by rw [htT]; exact h8), rfl⟩, hu.le hl, hou.le hl⟩, by dsimp only; omega⟩
    have h8 : tr.2 = true := by simpa using h8
    have hne : s6.xs ≠ u.xs := by
      have := turn_chg okf tf
      rw [htr, h8] at this
      rw [hs6]; exact of_decide_eq_true this.symm
    have hlt := potF_lt okf okg (by rw [hs6, ← htr]; exact turn_above okf tf) hne
    have hpl2 := potF_le p.preds.xs s6.xs
    refine WP.skip ?_
    refine WP.seq ?_
    refine WP.region ?_
    refine Ops.y (v := .slice _ _ _) (Y.move rfl) ?_
    refine Ops.y (v := .slice _ _ _) (Y.assign rfl) ?_
    refine Ops.nil ?_
    refine WP.region ?_
    refine Ops.y (v := .slice _ _ _) (Y.move rfl) ?_
    refine Ops.y (v := .int .i64 _) (Y.move rfl) ?_
    refine Ops.y (v := .pointer (some ⟨_, _, none⟩)) (Y.idx Try.underlying40 Try.sizeOf3 rfl rfl (by omega) (by omega)) ?_
    refine Ops.y (v := .int .i64 _) (Y.loadv ty_3 rfl (I.rdL 0 rfl (by omega) (get_mid hrl)) rfl rfl) ?_
    refine Ops.y (v := .int .i64 _) (Y.addi rfl rfl ⟨by omega, by omega⟩) ?_
    refine Ops.y (v := .pointer (some ⟨_, _, none⟩)) (Y.idx Try.underlying40 Try.sizeOf3 rfl rfl (by omega) (by omega)) ?_
    refine Ops.go (O.store1 I ty_3 0 rfl rfl (i := k) (v := (m : Int) + 1) (by omega) (by simp; omega) rfl rfl rfl ?_)
    intro w I
    refine Ops.nil ?_
    rw [put_mid hrl] at I
    exact ⟨(m + 1, s6, _), ⟨⟨rfl, rfl, rfl, rfl, rfl, rfl, rfl, trivial⟩, I, gl2.trans hl, okg, by have := cb.next (by rw [htT]; exact h8); rw [htT, ← hs6] at this; exact this, is6, by dsimp only; omega, os6⟩, by dsimp only; omega⟩
  obtain rfl : k = N := by omega
  rw [Nat.sub_self, List.replicate_zero, List.append_nil] at I
  have hbo := I.at 0 rfl
  obtain ⟨h4, le4, hb4, I⟩ := (I.front 0 rfl).settle
  refine WP.exit ?_
  refine WP.seq ?_
  refine WP.region ?_
  refine Ops.y (v := .slice _ _ _) (Y.move rfl) ?_
  refine Ops.y (v := .slice _ _ _) (Y.move rfl) ?_
  refine Ops.y (v := .slice _ _ _) (Y.assign rfl) ?_
  refine Ops.y (v := .slice _ _ _) (Y.assign rfl) ?_
  refine Ops.nil ?_
  refine WP.ret ?_
  repeat (first | refine thenE_ret ?_ | refine blockE_ret ?_)
  exact retQ.mk (vs := [.slice _ _ _, .slice _ _ _]) rfl ⟨rfl, rfl, trivial⟩ I.ext_of (⟨f, ⟨some ⟨b18, 0, none⟩, k, r0⟩, by simp only [tup, Sl.val, hrl], hf.le le4, boxIs ((hb4 b18 (by simp [box])).trans hbo) (by rw [hrl]; omega), by rw [eM, hN]; exact hm, ho.le le4⟩)
theorem Reckon_ok (B : Base) (hB : B.ok) (p : Prg) (hp : p.In B.h) (hpr : checkProg p = 0) : Fn Try.prog 40 [p.val] B (RecP p) := (Reckon_own B hB p hp hpr).mono fun _ _ _ h => h.rec
def ModP (p : Prg) (v : Value) (h : Heap) : Prop := (checkProg p ≠ 0 ∧ v = .tuple #[.slice none 0 0, .int .i64 (checkProg p)]) ∨ (checkProg p = 0 ∧ ∃ (s : Sl Fct) (rs : List Int), v = .tuple #[s.val, .int .i64 0] ∧ Fcts s h ∧ ModK p (strataM p) (numS (strataM p)) s.xs rs)
theorem Model_ok (B : Base) (hB : B.ok) (p : Prg) (hp : p.In B.h) (hnm : p.Nm) : Fn Try.prog 13 [p.val] B (ModP p) := by
  refine Fn.of Try.func13 rfl Try.ntmps13 (by kernel_rfl) (by simp) ?_
  intro e
  have I := Inv.start hB
  refine WP.seq ?_
  refine WP.region ?_
  refine Ops.go (O.box (v := .agg #[_, _]) I rfl rfl ?_)
  intro b1 w I
  refine Ops.y (v := .slice _ _ _) (Y.assign rfl) ?_
  refine Ops.y (v := .int .i64 _) (Y.assign rfl) ?_
  refine Ops.nil ?_
  refine WP.seq ?_
  refine WP.seq ?_
  refine WP.region ?_
  refine Ops.y (v := .agg #[_, _]) (Y.loadv ty_25 rfl (I.rdbox 0 rfl 0 2) rfl rfl) ?_
  refine Ops.go (O.callv I Try.call20 (PCheck_ok _ I.base_ok p hp hnm) rfl ?_)
  intro w I
  refine Ops.y (v := .int .i64 _) (Y.assign rfl) ?_
  refine Ops.nil ?_
  refine WP.seq ?_
  refine WP.region ?_
  refine Ops.y (v := .int .i64 _) (Y.move rfl) ?_
  refine Ops.y (v := .bool (decide _)) (Y.nei rfl rfl) ?_
  refine Ops.nil ?_
  refine WP.cond_dec rfl (fun h => ?_) (fun h => ?_)
  · refine WP.seq ?_
    refine WP.region ?_
    refine Ops.y (v := .int .i64 _) (Y.move rfl) ?_
    refine Ops.y (v := .slice _ _ _) (Y.assign rfl) ?_
    refine Ops.y (v := .int .i64 _) (Y.assign rfl) ?_
    refine Ops.nil ?_
    refine WP.ret ?_
    repeat (first | refine thenE_ret ?_ | refine blockE_ret ?_)
    exact retQ.mk (vs := [.slice _ _ _, .int .i64 _]) rfl ⟨rfl, rfl, trivial⟩ I.ext_of (.inl ⟨h, rfl⟩)
  have hpr := Decidable.not_not.1 h
  refine WP.skip ?_
  refine WP.seq ?_
  refine WP.region ?_
  refine Ops.y (v := .agg #[_, _]) (Y.loadv ty_25 rfl (I.rdbox 0 rfl 0 2) rfl rfl) ?_
  refine Ops.go (O.call I Try.call40 (Reckon_ok _ I.base_ok p hp hpr) rfl ?_)
  rintro _ h3 w I le3 ⟨s, r, rfl, hs, hr, hm⟩
  refine Ops.y (v := .tuple #[_, _]) (Y.move rfl) ?_
  refine Ops.y (v := .slice _ _ _) (Y.extract rfl rfl) ?_
  refine Ops.y (v := .slice _ _ _) (Y.extract rfl rfl) ?_
  refine Ops.y (v := .slice _ _ _) (Y.assign rfl) ?_
  refine Ops.y (v := .slice _ _ _) (Y.assign rfl) ?_
  refine Ops.nil ?_
  refine WP.seq ?_
  refine WP.region ?_
  refine Ops.y (v := .slice _ _ _) (Y.move rfl) ?_
  refine Ops.y (v := .slice _ _ _) (Y.assign rfl) ?_
  refine Ops.y (v := .int .i64 _) (Y.assign rfl) ?_
  refine Ops.nil ?_
  refine WP.ret ?_
  repeat (first | refine thenE_ret ?_ | refine blockE_ret ?_)
  exact retQ.mk (vs := [.slice _ _ _, .int .i64 _]) rfl ⟨rfl, rfl, trivial⟩ I.ext_of (.inr ⟨hpr, s, r.xs, rfl, hs, hm⟩)
def MofP (p : Prg) (v : Value) (h : Heap) : Prop := ∃ (s : Sl Fct) (rs : List Int), v = s.val ∧ Fcts s h ∧ ModK p (strataM p) (numS (strataM p)) s.xs rs
def RofP (p : Prg) (v : Value) (h : Heap) : Prop := ∃ (r : Sl Int) (f : List Fct), v = r.val ∧ r.Is 1 iEnc h ∧ ModK p (strataM p) (numS (strataM p)) f r.xs
theorem MofP.mono {p : Prg} : MonoS (MofP p) := fun _ _ _ hl ⟨s, r, a, b, c⟩ => ⟨s, r, a, b.le hl, c⟩
theorem RofP.mono {p : Prg} : MonoS (RofP p) := fun _ _ _ hl ⟨s, r, a, b, c⟩ => ⟨s, r, a, b.le hl, c⟩
end Go.TF
end
section
/- Semi: is a literal of a step new; what is new of facts; the rounds. -/
namespace Go.TF
open Go Go.RowKit Go.Proofs
set_option maxRecDepth 20000

def newQ (M : List Int) (st : Int) (fr : List Fct) (x : Vrs) (l : Ltl) : Bool := !l.neg && decide (lv M l.atom.pred = st) && isF fr (groundF l.atom x)
@[reducible] def newsE (p : Prg) (s : Sl Int) (st : Int) (f : Sl Fct) : List Value := [p.preds.val, p.rules.val, s.val, .int .i64 st, f.val]
structure NewsAt (p : Prg) (s : Sl Int) (st : Int) (f : Sl Fct) (bn : Nat) (h : Heap) : Prop where
  at_ : Known h bn (newsE p s st f)
  p : p.In h
  s : s.Is 1 iEnc h
  f : Fcts f h
theorem NewsAt.le {p : Prg} {s : Sl Int} {st : Int} {f : Sl Fct} {bn : Nat} {h h' : Heap} (x : NewsAt p s st f bn h) (hl : h.le h') : NewsAt p s st f bn h' := ⟨x.at_.le hl, x.p.le hl, x.s.le hl, x.f.le hl⟩
theorem newsOf1_ok (p : Prg) (s : Sl Int) (st : Int) (f : Sl Fct) (bn b2 b3 : Nat) (x : Stp) (r : Rul) {h : Heap} (n : NewsAt p s st f bn h) (k2 : Known h b2 [.pointer (some ⟨bn, 0, none⟩)]) (k3 : Known h b3 x.enc) (hr : r ∈ p.rules.xs) (ok : ROk p.preds.xs r) (okf : FOk p.preds.xs f.xs) (hx : VsOk x.vars) (hl : s.xs.length = p.preds.xs.length) :
    PredFn Try.prog 65 [] [.pointer (some ⟨b2, 0, none⟩), .pointer (some ⟨b3, 0, none⟩)] h Ltl.val r.body.xs (newQ s.xs st f.xs x.vars) := by
  intro B hB hle l hlm
  have n := n.le hle
  have k2 := k2.le hle
  have k3 := k3.le hle
  have hla := (n.p.rules.each _ hr).body.each l hlm
  have ao := aok_of ok.preds (ok.body l hlm)
  have El1 := n.s.el.el (lv_some hl ao.pred.1 ao.pred.2)
  have pf := ao.pf ok.five hx 0
  show Fn Try.prog 65 [l.val, .pointer (some ⟨b2, 0, none⟩), .pointer (some ⟨b3, 0, none⟩)] B _
  refine Fn.of Try.func65 rfl Try.ntmps65 (by kernel_rfl) (by simp) ?_
  intro e
  have I := Inv.start hB
  refine WP.seq ?_
  refine WP.region ?_
  refine Ops.go (O.box (v := .agg #[_, _, _]) I rfl rfl ?_)
  intro b3 w I
  refine Ops.y (v := .bool _) (Y.assign rfl) ?_
  refine Ops.nil ?_
  cases hn : l.neg
  · by_cases hs : lv s.xs l.atom.pred = st
    · refine WP.seq ?_
      refine WP.seq ?_
      refine WP.regionQ mixed I (by kernel_rfl) ?_
      refine OpsQ.y (v := .pointer (some ⟨_, _, none⟩)) (fun w I => Y.fa0 fa_65_0 rfl) ?_
      refine OpsQ.y (v := .bool false) (fun w I => Y.b (Y.loadv ty_4 rfl (I.rdbox 0 rfl 0 1) rfl rfl) (hn)) ?_
      refine OpsQ.y (v := .bool _) (fun w I => Y.move rfl) ?_
      refine OpsQ.ygt rfl (v := .pointer (some ⟨_, _, none⟩)) (fun w I => Y.loadv ty_67 rfl (I.rd (k2.rd.part 0 1)) rfl rfl) ?_
      refine OpsQ.ygt rfl (v := .pointer (some ⟨_, _, none⟩)) (fun w I => Y.nilp rfl) ?_
      refine OpsQ.ygt rfl (v := .pointer (some ⟨_, _, none⟩)) (fun w I => Y.fa fa_69_1 rfl) ?_
      refine OpsQ.ygt rfl (v := .slice _ _ _) (fun w I => Y.loadv ty_40 rfl (I.rd (n.at_.rd.part 2 1)) rfl rfl) ?_
      refine OpsQ.ygt rfl (v := .pointer (some ⟨_, _, none⟩)) (fun w I => Y.fa fa_65_1 rfl) ?_
      refine OpsQ.ygt rfl (v := .pointer (some ⟨_, _, none⟩)) (fun w I => Y.fa0 fa_46_0 rfl) ?_
      refine OpsQ.ygt rfl (v := .int .i64 _) (fun w I => Y.loadv ty_3 rfl (I.rdbox 0 rfl 1 1) rfl rfl) ?_
      refine OpsQ.ygt rfl (v := .pointer (some ⟨_, _, none⟩)) (fun w I => Y.idxEl El1 Try.underlying40 Try.sizeOf3 rfl rfl ao.pred.1 rfl) ?_
      refine OpsQ.ygt rfl (v := .int .i64 _) (fun w I => Y.loadv ty_3 rfl (I.rd (El1.rd.part 0 1)) rfl rfl) ?_
      refine OpsQ.ygt rfl (v := .pointer (some ⟨_, _, none⟩)) (fun w I => Y.loadv ty_67 rfl (I.rd (k2.rd.part 0 1)) rfl rfl) ?_
      refine OpsQ.ygt rfl (v := .pointer (some ⟨_, _, none⟩)) (fun w I => Y.nilp rfl) ?_
      refine OpsQ.ygt rfl (v := .pointer (some ⟨_, _, none⟩)) (fun w I => Y.fa fa_69_2 rfl) ?_
      refine OpsQ.ygt rfl (v := .int .i64 _) (fun w I => Y.loadv ty_3 rfl (I.rd (n.at_.rd.part 3 1)) rfl rfl) ?_
      refine OpsQ.ygt rfl (v := .bool false) (fun w I => Y.dec_f (Y.nei rfl rfl) ((fun h => h hs))) ?_
      refine OpsQ.y (v := .bool _) (fun w I => Y.pick_f rfl rfl) ?_
      refine OpsQ.nil ?_
      intro w I
      refine WP.cond_f rfl ?_
      refine WP.skip ?_
      refine WP.seq ?_
      refine WP.regionQ mixed I (by kernel_rfl) ?_
      refine OpsQ.y (v := .pointer (some ⟨_, _, none⟩)) (fun w I => Y.loadv ty_67 rfl (I.rd (k2.rd.part 0 1)) rfl rfl) ?_
      refine OpsQ.y (v := .pointer (some ⟨_, _, none⟩)) (fun w I => Y.nilp rfl) ?_
      refine OpsQ.y (v := .pointer (some ⟨_, _, none⟩)) (fun w I => Y.fa fa_69_3 rfl) ?_
      refine OpsQ.y (v := .slice _ _ _) (fun w I => Y.loadv ty_33 rfl (I.rd (n.at_.rd.part 4 1)) rfl rfl) ?_
      refine OpsQ.y (v := .pointer (some ⟨_, _, none⟩)) (fun w I => Y.fa fa_65_1 rfl) ?_
      refine OpsQ.y (v := .agg #[_, _]) (fun w I => Y.loadv ty_46 rfl (I.rdbox 0 rfl 1 2) rfl rfl) ?_
      refine OpsQ.y (v := .pointer (some ⟨_, _, none⟩)) (fun w I => Y.fa fa_79_1 rfl) ?_
      refine OpsQ.y (v := .agg #[_, _, _]) (fun w I => Y.loadv ty_77 rfl (I.rd (k3.rd.part 1 3)) rfl rfl) ?_
      refine OpsQ.c (fun w I => QC.callv I Try.call66 (Of_ok _ I.base_ok l.atom hla x.vars ao.len ao.err) rfl) ?_
      refine OpsQ.c (fun w I => QC.callv I Try.call39 (Seek_ok _ I.base_ok f n.f (fun y hy => okf.pf y hy) okf.srt (groundF l.atom x.vars) pf) rfl) ?_
      refine OpsQ.y (v := .tuple #[_, _]) (fun w I => Y.move rfl) ?_
      refine OpsQ.y (v := .int .i64 _) (fun w I => Y.extract rfl rfl) ?_
      refine OpsQ.y (v := .bool _) (fun w I => Y.extract rfl rfl) ?_
      refine OpsQ.y (v := .int .i64 _) (fun w I => Y.assign rfl) ?_
      refine OpsQ.y (v := .bool _) (fun w I => Y.assign rfl) ?_
      refine OpsQ.nil ?_
      intro w I
      refine WP.seq ?_
      refine WP.region ?_
      refine Ops.y (v := .bool _) (Y.move rfl) ?_
      refine Ops.y (v := .bool _) (Y.assign rfl) ?_
      refine Ops.nil ?_
      refine WP.ret ?_
      repeat (first | refine thenE_ret ?_ | refine blockE_ret ?_)
      exact retQ.mk (vs := [.bool _]) rfl ⟨rfl, trivial⟩ I.ext_of (by simp only [tup, newQ]; rw [hn, decide_eq_true hs]; rfl)
    · refine WP.seq ?_
      refine WP.seq ?_
      refine WP.regionQ mixed I (by kernel_rfl) ?_
      refine OpsQ.y (v := .pointer (some ⟨_, _, none⟩)) (fun w I => Y.fa0 fa_65_0 rfl) ?_
      refine OpsQ.y (v := .bool false) (fun w I => Y.b (Y.loadv ty_4 rfl (I.rdbox 0 rfl 0 1) rfl rfl) (hn)) ?_
      refine OpsQ.y (v := .bool _) (fun w I => Y.move rfl) ?_
      refine OpsQ.ygt rfl (v := .pointer (some ⟨_, _, none⟩)) (fun w I => Y.loadv ty_67 rfl (I.rd (k2.rd.part 0 1)) rfl rfl) ?_
      refine OpsQ.ygt rfl (v := .pointer (some ⟨_, _, none⟩)) (fun w I => Y.nilp rfl) ?_
      refine OpsQ.ygt rfl (v := .pointer (some ⟨_, _, none⟩)) (fun w I => Y.fa fa_69_1 rfl) ?_
      refine OpsQ.ygt rfl (v := .slice _ _ _) (fun w I => Y.loadv ty_40 rfl (I.rd (n.at_.rd.part 2 1)) rfl rfl) ?_
      refine OpsQ.ygt rfl (v := .pointer (some ⟨_, _, none⟩)) (fun w I => Y.fa fa_65_1 rfl) ?_
      refine OpsQ.ygt rfl (v := .pointer (some ⟨_, _, none⟩)) (fun w I => Y.fa0 fa_46_0 rfl) ?_
      refine OpsQ.ygt rfl (v := .int .i64 _) (fun w I => Y.loadv ty_3 rfl (I.rdbox 0 rfl 1 1) rfl rfl) ?_
      refine OpsQ.ygt rfl (v := .pointer (some ⟨_, _, none⟩)) (fun w I => Y.idxEl El1 Try.underlying40 Try.sizeOf3 rfl rfl ao.pred.1 rfl) ?_
      refine OpsQ.ygt rfl (v := .int .i64 _) (fun w I => Y.loadv ty_3 rfl (I.rd (El1.rd.part 0 1)) rfl rfl) ?_
      refine OpsQ.ygt rfl (v := .pointer (some ⟨_, _, none⟩)) (fun w I => Y.loadv ty_67 rfl (I.rd (k2.rd.part 0 1)) rfl rfl) ?_
      refine OpsQ.ygt rfl (v := .pointer (some ⟨_, _, none⟩)) (fun w I => Y.nilp rfl) ?_
      refine OpsQ.ygt rfl (v := .pointer (some ⟨_, _, none⟩)) (fun w I => Y.fa fa_69_2 rfl) ?_
      refine OpsQ.ygt rfl (v := .int .i64 _) (fun w I => Y.loadv ty_3 rfl (I.rd (n.at_.rd.part 3 1)) rfl rfl) ?_
      refine OpsQ.ygt rfl (v := .bool true) (fun w I => Y.dec_t (Y.nei rfl rfl) (hs)) ?_
      refine OpsQ.y (v := .bool _) (fun w I => Y.pick_f rfl rfl) ?_
      refine OpsQ.nil ?_
      intro w I
      refine WP.cond_t rfl ?_
      refine WP.seq ?_
      refine WP.region ?_
      refine Ops.y (v := .bool _) (Y.assign rfl) ?_
      refine Ops.nil ?_
      refine WP.ret ?_
      repeat (first | refine thenE_ret ?_ | refine blockE_ret ?_)
      exact retQ.mk (vs := [.bool _]) rfl ⟨rfl, trivial⟩ I.ext_of (by simp only [tup, newQ]; rw [hn, decide_eq_false hs]; rfl)
  · refine WP.seq ?_
    refine WP.seq ?_
    refine WP.regionQ mixed I (by kernel_rfl) ?_
    refine OpsQ.y (v := .pointer (some ⟨_, _, none⟩)) (fun w I => Y.fa0 fa_65_0 rfl) ?_
    refine OpsQ.y (v := .bool true) (fun w I => Y.b (Y.loadv ty_4 rfl (I.rdbox 0 rfl 0 1) rfl rfl) (hn)) ?_
    refine OpsQ.y (v := .bool _) (fun w I => Y.move rfl) ?_
    refine OpsQ.gf rfl ?_
    refine OpsQ.gf rfl ?_
    refine OpsQ.gf rfl ?_
    refine OpsQ.gf rfl ?_
    refine OpsQ.gf rfl ?_
    refine OpsQ.gf rfl ?_
    refine OpsQ.gf rfl ?_
    refine OpsQ.gf rfl ?_
    refine OpsQ.gf rfl ?_
    refine OpsQ.gf rfl ?_
    refine OpsQ.gf rfl ?_
    refine OpsQ.gf rfl ?_
    refine OpsQ.gf rfl ?_
    refine OpsQ.gf rfl ?_
    refine OpsQ.y (v := .bool _) (fun w I => Y.pick_t rfl rfl) ?_
    refine OpsQ.nil ?_
    intro w I
    refine WP.cond_t rfl ?_
    refine WP.seq ?_
    refine WP.region ?_
    refine Ops.y (v := .bool _) (Y.assign rfl) ?_
    refine Ops.nil ?_
    refine WP.ret ?_
    repeat (first | refine thenE_ret ?_ | refine blockE_ret ?_)
    exact retQ.mk (vs := [.bool _]) rfl ⟨rfl, trivial⟩ I.ext_of (by simp only [tup, newQ]; rw [hn]; rfl)
theorem newsOf_ok (B : Base) (hB : B.ok) (p : Prg) (s : Sl Int) (st : Int) (f : Sl Fct) (bn : Nat) (n : NewsAt p s st f bn B.h) (x : Stp) (r : Rul) (h0 : 0 ≤ x.rule) (hr : p.rules.xs[x.rule.toNat]? = some r) (ok : ROk p.preds.xs r) (okf : FOk p.preds.xs f.xs) (hx : VsOk x.vars) (hl : s.xs.length = p.preds.xs.length) :
    Fn Try.prog 35 [.pointer (some ⟨bn, 0, none⟩), x.val] B (fun v _ => v = .bool (newB p s.xs st f.xs x)) := by
  have hrm := List.mem_of_getElem? hr
  refine Fn.of Try.func35 rfl Try.ntmps35 (by kernel_rfl) (by simp) ?_
  intro e
  have I := Inv.start hB
  refine WP.seq ?_
  refine WP.region ?_
  refine Ops.go (O.box (v := .pointer (some ⟨_, _, none⟩)) I rfl rfl ?_)
  intro b2 w I
  refine Ops.go (O.box (v := .agg #[_, _, _, _]) I rfl rfl ?_)
  intro b3 w I
  refine Ops.y (v := .bool _) (Y.assign rfl) ?_
  refine Ops.nil ?_
  obtain ⟨h3, le3, k3, I⟩ := I.settleBox
  obtain ⟨h2, le2, k2, I⟩ := I.settleBox
  have n := n.le (le3.trans le2)
  have k3 := k3.le le2
  have Er := n.p.rules.is.el.el hr
  have ir := n.p.rules.each _ hrm
  refine WP.seq ?_
  refine WP.regionQ mixed I (by kernel_rfl) ?_
  refine OpsQ.y (v := .pointer (some ⟨_, _, none⟩)) (fun w I => Y.loadv ty_67 rfl (I.rd (k2.rd.part 0 1)) rfl rfl) ?_
  refine OpsQ.y (v := .pointer (some ⟨_, _, none⟩)) (fun w I => Y.nilp rfl) ?_
  refine OpsQ.y (v := .pointer (some ⟨_, _, none⟩)) (fun w I => Y.fa0 fa_69_0 rfl) ?_
  refine OpsQ.y (v := .pointer (some ⟨_, _, none⟩)) (fun w I => Y.fa fa_25_1 rfl) ?_
  refine OpsQ.y (v := .slice _ _ _) (fun w I => Y.loadv ty_23 rfl (I.rd (n.at_.rd.part 1 1)) rfl rfl) ?_
  refine OpsQ.y (v := .pointer (some ⟨_, _, none⟩)) (fun w I => Y.fa0 fa_79_0 rfl) ?_
  refine OpsQ.y (v := .int .i64 _) (fun w I => Y.loadv ty_3 rfl (I.rd (k3.rd.part 0 1)) rfl rfl) ?_
  refine OpsQ.y (v := .pointer (some ⟨_, _, none⟩)) (fun w I => Y.idxEl Er Try.underlying23 Try.sizeOf49 rfl rfl h0 rfl) ?_
  refine OpsQ.y (v := .pointer (some ⟨_, _, none⟩)) (fun w I => Y.fa fa_49_3 rfl) ?_
  refine OpsQ.y (v := .slice _ _ _) (fun w I => Y.loadv ty_47 rfl (I.rd (Er.rd.part 4 1)) rfl rfl) ?_
  refine OpsQ.y (v := .func _ _ _) (fun w I => Y.mkfunc rfl rfl) ?_
  refine OpsQ.c (fun w I => QC.callv I Try.call64 (ContainsFuncLtl_ok _ I.base_ok r.body ir.body.is 65 Try.call65 [] [.pointer (some ⟨b2, 0, none⟩), .pointer (some ⟨b3, 0, none⟩)] (newQ s.xs st f.xs x.vars) (newsOf1_ok p s st f bn b2 b3 x r n k2 k3 hrm ok okf hx hl)) rfl) ?_
  refine OpsQ.y (v := .bool _) (fun w I => Y.assign rfl) ?_
  refine OpsQ.nil ?_
  intro w I
  refine WP.ret ?_
  repeat (first | refine thenE_ret ?_ | refine blockE_ret ?_)
  exact retQ.mk (vs := [.bool _]) rfl ⟨rfl, trivial⟩ I.ext_of (by simp only [tup, newB]; rw [List.getD_eq_getElem?_getD, hr]; rfl)
/-- Is a fact there as it is? -/
def sameQ (f : List Fct) (x : Fct) : Bool := decide (lkF f (placeF x) = some x.v)
theorem keep_fresh (f g : List Fct) : keepL (sameQ f) g = freshF f g := by unfold keepL freshF sameQ; simp only [decide_not, ne_eq]
theorem semiM1_ok (l : List Prd) (f : Sl Fct) (b : Nat) (g : List Fct) {h : Heap} (kb : Known h b [f.val]) (hf : Fcts f h) (okf : FOk l f.xs) (okg : ∀ x ∈ g, factFine l x = true) :
    PredFn Try.prog 38 [] [.pointer (some ⟨b, 0, none⟩)] h Fct.val g (sameQ f.xs) := by
  intro B hB hle x hx
  have kb := kb.le hle
  have hf := hf.le hle
  have px := fine_pf okf.len (okg x hx)
  have hiff := isF_iff (x := x) okf.srt
  show Fn Try.prog 38 [x.val, .pointer (some ⟨b, 0, none⟩)] B _
  refine Fn.of Try.func38 rfl Try.ntmps38 (by kernel_rfl) (by simp) ?_
  intro e
  have I := Inv.start hB
  refine WP.seq ?_
  refine WP.region ?_
  refine Ops.go (O.box (v := .agg #[_, _, _, _]) I rfl rfl ?_)
  intro b2 w I
  refine Ops.y (v := .bool _) (Y.assign rfl) ?_
  refine Ops.nil ?_
  refine WP.seq ?_
  refine WP.region ?_
  refine Ops.y (v := .slice _ _ _) (Y.loadv ty_33 rfl (I.rd (kb.rd.part 0 1)) rfl rfl) ?_
  refine Ops.y (v := .agg #[_, _, _, _]) (Y.loadv ty_72 rfl (I.rdbox 0 rfl 0 4) rfl rfl) ?_
  refine Ops.go (O.callv I Try.call39 (Seek_ok _ I.base_ok f hf (fun y hy => okf.pf y hy) okf.srt x px) rfl ?_)
  intro w I
  refine Ops.y (v := .tuple #[_, _]) (Y.move rfl) ?_
  refine Ops.y (v := .int .i64 _) (Y.extract rfl rfl) ?_
  refine Ops.y (v := .bool _) (Y.extract rfl rfl) ?_
  refine Ops.y (v := .int .i64 _) (Y.assign rfl) ?_
  refine Ops.y (v := .bool _) (Y.assign rfl) ?_
  refine Ops.nil ?_
  cases hi : isF f.xs x
  · refine WP.seq ?_
    refine WP.regionQ mixed I (by kernel_rfl) ?_
    refine OpsQ.y (v := .bool _) (fun w I => Y.move rfl) ?_
    refine OpsQ.y (v := .bool false) (fun w I => Y.b (Y.move rfl) (rfl)) ?_
    refine OpsQ.gf rfl ?_
    refine OpsQ.gf rfl ?_
    refine OpsQ.gf rfl ?_
    refine OpsQ.gf rfl ?_
    refine OpsQ.gf rfl ?_
    refine OpsQ.gf rfl ?_
    refine OpsQ.y (v := .bool _) (fun w I => Y.pick_f rfl rfl) ?_
    refine OpsQ.y (v := .bool _) (fun w I => Y.assign rfl) ?_
    refine OpsQ.nil ?_
    intro w I
    refine WP.ret ?_
    repeat (first | refine thenE_ret ?_ | refine blockE_ret ?_)
    exact retQ.mk (vs := [.bool _]) rfl ⟨rfl, trivial⟩ I.ext_of (by simp only [tup, sameQ]; rw [decide_eq_false]; intro e; unfold isF at hi; rw [e] at hi; cases hi)
  · obtain ⟨hlt, he⟩ := hiff.1 hi
    have E1 := hf.at hlt
    have hlk := lkF_pos okf.srt hlt he
    have pinj := (okf.pf _ (List.getElem_mem hlt)).inj px he
    by_cases hv : f.xs[posF f.xs x].v = x.v
    · refine WP.seq ?_
      refine WP.regionQ mixed I (by kernel_rfl) ?_
      refine OpsQ.y (v := .bool _) (fun w I => Y.move rfl) ?_
      refine OpsQ.y (v := .bool true) (fun w I => Y.b (Y.move rfl) (rfl)) ?_
      refine OpsQ.ygt rfl (v := .slice _ _ _) (fun w I => Y.loadv ty_33 rfl (I.rd (kb.rd.part 0 1)) rfl rfl) ?_
      refine OpsQ.ygt rfl (v := .int .i64 _) (fun w I => Y.move rfl) ?_
      refine OpsQ.ygt rfl (v := .pointer (some ⟨_, _, none⟩)) (fun w I => Y.idxEl E1 Try.underlying33 Try.sizeOf72 rfl rfl (Int.natCast_nonneg _) rfl) ?_
      refine OpsQ.ygt rfl (v := .agg #[_, _, _, _]) (fun w I => Y.loadv ty_72 rfl (I.rd (E1.rd.part 0 4)) rfl rfl) ?_
      refine OpsQ.ygt rfl (v := .agg #[_, _, _, _]) (fun w I => Y.loadv ty_72 rfl (I.rdbox 0 rfl 0 4) rfl rfl) ?_
      refine OpsQ.ygt rfl (v := .bool true) (fun w I => Y.b (Y.eqst Try.eqGuardType72 (eq_72 _ _ _ _ _ _ _ _) rfl rfl) ((by rw [pinj.1, pinj.2.1, pinj.2.2, hv]; simp))) ?_
      refine OpsQ.y (v := .bool _) (fun w I => Y.pick_t rfl rfl) ?_
      refine OpsQ.y (v := .bool _) (fun w I => Y.assign rfl) ?_
      refine OpsQ.nil ?_
      intro w I
      refine WP.ret ?_
      repeat (first | refine thenE_ret ?_ | refine blockE_ret ?_)
      exact retQ.mk (vs := [.bool _]) rfl ⟨rfl, trivial⟩ I.ext_of (by simp only [tup, sameQ]; rw [decide_eq_true (by rw [hlk, hv])])
    · refine WP.seq ?_
      refine WP.regionQ mixed I (by kernel_rfl) ?_
      refine OpsQ.y (v := .bool _) (fun w I => Y.move rfl) ?_
      refine OpsQ.y (v := .bool true) (fun w I => Y.b (Y.move rfl) (rfl)) ?_
      refine OpsQ.ygt rfl (v := .slice _ _ _) (fun w I => Y.loadv ty_33 rfl (I.rd (kb.rd.part 0 1)) rfl rfl) ?_
      refine OpsQ.ygt rfl (v := .int .i64 _) (fun w I => Y.move rfl) ?_
      refine OpsQ.ygt rfl (v := .pointer (some ⟨_, _, none⟩)) (fun w I => Y.idxEl E1 Try.underlying33 Try.sizeOf72 rfl rfl (Int.natCast_nonneg _) rfl) ?_
      refine OpsQ.ygt rfl (v := .agg #[_, _, _, _]) (fun w I => Y.loadv ty_72 rfl (I.rd (E1.rd.part 0 4)) rfl rfl) ?_
      refine OpsQ.ygt rfl (v := .agg #[_, _, _, _]) (fun w I => Y.loadv ty_72 rfl (I.rdbox 0 rfl 0 4) rfl rfl) ?_
      refine OpsQ.ygt rfl (v := .bool false) (fun w I => Y.b (Y.eqst Try.eqGuardType72 (eq_72 _ _ _ _ _ _ _ _) rfl rfl) ((by rw [beq_eq_false_iff_ne.2 hv]; simp))) ?_
      refine OpsQ.y (v := .bool _) (fun w I => Y.pick_t rfl rfl) ?_
      refine OpsQ.y (v := .bool _) (fun w I => Y.assign rfl) ?_
      refine OpsQ.nil ?_
      intro w I
      refine WP.ret ?_
      repeat (first | refine thenE_ret ?_ | refine blockE_ret ?_)
      exact retQ.mk (vs := [.bool _]) rfl ⟨rfl, trivial⟩ I.ext_of (by simp only [tup, sameQ]; rw [decide_eq_false (by rw [hlk]; intro e; exact hv (Option.some.inj e))])
end Go.TF
end
section
/- A region in which a slice is made, and then turned into another, while what is loaded may be loaded ahead or behind. -/
namespace Go.TF
open Go Go.RowKit

structure DlS where
  h : Heap
  o2 : Option Value
  o4 : Option Value
def pcD (T k n m : Nat) (c2 c4 : List Value) (o2 o4 : Option Value) : List SA := match o4 with
  | some v => [ownSl T k v m c4]
  | none => match o2 with
    | some v => [ownSl T k v n c2]
    | none => []
structure JDl (B : Base) (M : List SA) (T k n m : Nat) (c2 c4 : List Value) (i2 i4 : Nat) (D : Nat → Bool) (s : DlS) (w : World) : Prop where
  h2 : s.o2.isSome = D i2
  h4 : s.o4.isSome = D i4
  ord : D i4 = true → D i2 = true
  inv : Inv B s.h (pcD T k n m c2 c4 s.o2 s.o4 ++ M) w
structure RDl (s s' : DlS) : Prop where
  h : s.h.le s'.h
  h2 : ∀ v, s.o2 = some v → s'.o2 = some v
  h4 : ∀ v, s.o4 = some v → s'.o4 = some v
theorem RDl.pre : Pre RDl := ⟨fun _ => ⟨Heap.le.refl _, fun _ h => h, fun _ h => h⟩, fun _ _ _ h k => ⟨h.h.trans k.h, fun b e => k.h2 b (h.h2 b e), fun b e => k.h4 b (h.h4 b e)⟩⟩
def AtD2 (u : Value) (s : DlS) : Prop := s.o2 = some u
def AtD4 (u : Value) (s : DlS) : Prop := s.o4 = some u
theorem AtD2.mono : MonoG RDl AtD2 := fun _ _ _ r h => r.h2 _ h
theorem AtD4.mono : MonoG RDl AtD4 := fun _ _ _ r h => r.h4 _ h
section
variable {P : Program} {o : Oper} {e : Env} {B : Base} {M : List SA} {T k n m : Nat} {c2 c4 : List Value} {i2 i4 i : Nat} {D : Nat → Bool} {s : DlS} {w : World}
theorem JDl.base (j : JDl B M T k n m c2 c4 i2 i4 D s w) : Inv B s.h M w := j.inv.weak (List.sublist_append_right _ _)
theorem JDl.set (h : i2 ≠ i ∧ i4 ≠ i) : ∀ D s w, JDl B M T k n m c2 c4 i2 i4 D s w → JDl B M T k n m c2 c4 i2 i4 (setD D i) s w := fun D s w j => by
  have e : ∀ x, x ≠ i → setD D i x = D x := fun x hx => by simp [setD, hx]
  exact ⟨by rw [e _ h.1]; exact j.h2, by rw [e _ h.2]; exact j.h4, by rw [e _ h.1, e _ h.2]; exact j.ord, j.inv⟩
theorem JDl.first (j : JDl B M T k n m c2 c4 i2 i4 D s w) (hD : D i2 = false) (h24 : i4 ≠ i2) (hop : Inv B s.h M w → Op1 P o e w fun u w' => ∃ h', s.h.le h' ∧ Inv B h' (ownSl T k u n c2 :: M) w') :
    Op1 P o e w fun u w' => ∃ s', RDl s s' ∧ JDl B M T k n m c2 c4 i2 i4 (setD D i2) s' w' ∧ AtD2 u s' := by
  have h2 : s.o2 = none := by have := j.h2; rw [hD] at this; cases h : s.o2 <;> simp_all
  have hD4 : D i4 = false := by
    cases h : D i4
    · rfl
    · rw [j.ord h] at hD; cases hD
  have h4 : s.o4 = none := by have := j.h4; rw [hD4] at this; cases h : s.o4 <;> simp_all
  refine (hop j.base).mono fun u w' ⟨h', hl, I⟩ => ⟨⟨h', some u, none⟩, ⟨hl, fun v hv => (by rw [h2] at hv; cases hv), fun v hv => (by rw [h4] at hv; cases hv)⟩, ⟨?_, ?_, fun hh => ?_, I⟩, rfl⟩
  · simp [setD]
  · rw [show setD D i2 i4 = D i4 by simp [setD, h24], hD4]; rfl
  · simp [setD]
theorem JDl.second (j : JDl B M T k n m c2 c4 i2 i4 D s w) (hD : D i4 = false) (h24 : i2 ≠ i4) {u2 : Value} (hu : AtD2 u2 s) (hop : Inv B s.h (ownSl T k u2 n c2 :: M) w → Op1 P o e w fun u w' => ∃ h', s.h.le h' ∧ Inv B h' (ownSl T k u m c4 :: M) w') :
    Op1 P o e w fun u w' => ∃ s', RDl s s' ∧ JDl B M T k n m c2 c4 i2 i4 (setD D i4) s' w' ∧ AtD4 u s' := by
  have h4 : s.o4 = none := by have := j.h4; rw [hD] at this; cases h : s.o4 <;> simp_all
  have h2 : s.o2 = some u2 := hu
  have I := j.inv
  rw [h4, h2] at I
  have hD2 : D i2 = true := by rw [← j.h2, h2]; rfl
  refine (hop I).mono fun u w' ⟨h', hl, I⟩ => ⟨⟨h', some u2, some u⟩, ⟨hl, fun v hv => (by rw [h2] at hv; exact hv), fun v hv => (by rw [h4] at hv; cases hv)⟩, ⟨?_, ?_, fun _ => ?_, I⟩, rfl⟩
  · rw [show setD D i4 i2 = D i2 by simp [setD, h24], hD2]; rfl
  · simp [setD]
  · rw [show setD D i4 i2 = D i2 by simp [setD, h24], hD2]
end
theorem WPD.regionG {σ : Type} {P : Program} {N : Nat} {D : List Deferred} {e : Env} {w : World} {Q : Exit → Env → World → List Deferred → Prop} {id : Nat} {ops : Array Oper} {J : (Nat → Bool) → σ → World → Prop} {R : σ → σ → Prop} (hm : Mixed P) (hR : Pre R) (s0 : σ) (I : J (fun _ => false) s0 w.drew) (m : Nat) (hB : flowB ops m = true)
    (k : OpsG P ops J R s0 0 [] (ops.toList.take m) e (fun L e' => ∀ D' h1 w1, (∀ j, j < m → D' j = true) → R s0 h1 → J D' h1 w1 → AllG (fun _ => true) h1 L e' fun e'' => Ops P ops (ops.toList.drop m) e'' w1 (fun e3 w3 => Q .normal e3 w3 D))) : WPD P N D (.region id ops true) e w Q := WPD.of (WP.regionG hm hR s0 I m hB k)
end Go.TF
end
section
/- Semi: the model, only what is new being used. -/
namespace Go.TF
open Go Go.RowKit Go.Proofs
set_option maxRecDepth 20000

def ToldS (p : Prg) (f : List Fct) (q : Nat → Bool) : Sp := fun v h => ∃ bp bo bf, v = .func (.func 60) #[] #[.pointer (some ⟨bp, 0, none⟩), .pointer (some ⟨bo, 0, none⟩), .pointer (some ⟨bf, 0, none⟩)] ∧
  Iter Try.prog 60 [.pointer (some ⟨bp, 0, none⟩), .pointer (some ⟨bo, 0, none⟩), .pointer (some ⟨bf, 0, none⟩)] tEnc (toldL p.preds.xs f p.rules.xs q) h
theorem ToldS.mono {p : Prg} {f : List Fct} {q : Nat → Bool} : MonoS (ToldS p f q) := fun _ _ _ hl ⟨a, b, c, e, it⟩ => ⟨a, b, c, e, it.le hl⟩
theorem told_len {l : List Prd} {f : List Fct} {rs : List Rul} {q : Nat → Bool} (h8 : rs.length ≤ 8) : (toldL l f rs q).length ≤ 1000 := by
  have key : ∀ k, (toldK l f rs q k).length ≤ k * 125 := fun k => by
    induction k with
    | zero => simp [toldK]
    | succ k ih =>
      rw [toldK_succ, List.length_append]
      have : (toldN l f rs q k).length ≤ 125 := by
        unfold toldN
        split
        · rw [List.length_map]
          unfold stepsF
          rw [List.length_map]
          exact Nat.le_trans (List.length_filter_le ..) (by decide +kernel)
        · simp
      omega
  have h1 := key rs.length
  show (toldK l f rs q rs.length).length ≤ 1000
  omega
def SemP (p : Prg) (v : Value) (h : Heap) : Prop := (checkProg p ≠ 0 ∧ v = .tuple #[.slice none 0 0, .int .i64 0, .int .i64 (checkProg p)]) ∨ (checkProg p = 0 ∧ ∃ (s : Sl Fct) (c : Nat), v = .tuple #[s.val, .int .i64 c, .int .i64 0] ∧ Fcts s h ∧ SemK p (strataM p) (numS (strataM p)) s.xs c)
def SJ (p : Prg) (M : List Int) (st : Int) (f0 : List Fct) (c : Nat) (b : Bool) (fr f : List Fct) : Prop := (b = true ∨ fr ≠ []) ∧ SCloB p M st f0 c b fr f ∨ b = false ∧ fr = [] ∧ SClo p M st true [] f0 f c
/-- What is put of what is told so far. -/
def someL (p : Prg) (M : List Int) (st : Int) (b : Bool) (fr f : List Fct) (k : Nat) : List (Stp × Fct) := ((toldL p.preds.xs f p.rules.xs (ofQ p M st)).take k).filter (semiQ p M st b fr)
theorem someL_succ {p : Prg} {M : List Int} {st : Int} {b : Bool} {fr f : List Fct} {k : Nat} (hk : k < (toldL p.preds.xs f p.rules.xs (ofQ p M st)).length) :
    someL p M st b fr f (k + 1) = someL p M st b fr f k ++ if semiQ p M st b fr (toldL p.preds.xs f p.rules.xs (ofQ p M st))[k] = true then [(toldL p.preds.xs f p.rules.xs (ofQ p M st))[k]] else [] := by
  unfold someL
  rw [List.take_succ_eq_append_getElem hk, List.filter_append]
  cases h : semiQ p M st b fr (toldL p.preds.xs f p.rules.xs (ofQ p M st))[k] <;> simp [h]
theorem someL_all {p : Prg} {M : List Int} {st : Int} {b : Bool} {fr f : List Fct} : someL p M st b fr f (toldL p.preds.xs f p.rules.xs (ofQ p M st)).length = semiL p M st b fr f := by
  unfold someL semiL; rw [List.take_length]
theorem someL_len {p : Prg} {M : List Int} {st : Int} {b : Bool} {fr f : List Fct} {k : Nat} (h8 : p.rules.xs.length ≤ 8) : (someL p M st b fr f k).length ≤ 1000 := by
  unfold someL
  refine Nat.le_trans (List.length_filter_le ..) ?_
  rw [List.length_take]
  have := told_len (l := p.preds.xs) (f := f) (q := ofQ p M st) h8
  omega
structure SmS where
  b11 : Nat
  first : Bool
  fr : Sl Fct
  f : Sl Fct
  c : Nat
  ms : List Nat
  h : Heap
set_option maxHeartbeats 16000000 in
theorem SemiModel_ok (B : Base) (hB : B.ok) (p : Prg) (hp : p.In B.h) (hnm : p.Nm) : Fn Try.prog 12 [p.val] B (SemP p) := by
  refine Fn.ofD Try.func12 rfl Try.ntmps12 (by kernel_rfl) (by simp) ?_
  intro e
  have I := Inv.start hB
  refine WPD.seq ?_
  refine WPD.region ?_
  refine Ops.go (O.box (v := .agg #[_, _]) I rfl rfl ?_)
  intro b1 w I
  refine Ops.y (v := .slice _ _ _) (Y.assign rfl) ?_
  refine Ops.y (v := .int .i64 _) (Y.assign rfl) ?_
  refine Ops.y (v := .int .i64 _) (Y.assign rfl) ?_
  refine Ops.nil ?_
  by_cases hpr : checkProg p ≠ 0
  · refine WPD.seq ?_
    refine WPD.region ?_
    refine Ops.y (v := .agg #[_, _]) (Y.loadv ty_25 rfl (I.rdbox 0 rfl 0 2) rfl rfl) ?_
    refine Ops.go (O.call I Try.call30 (Strata_ok _ I.base_ok p hp hnm) rfl ?_)
    rintro v h1 w I le1 hS
    rcases hS with ⟨_, rfl⟩ | ⟨h0, _⟩
    rotate_left
    exact absurd h0 hpr
    refine Ops.y (v := .tuple #[_, _]) (Y.move rfl) ?_
    refine Ops.y (v := .slice _ _ _) (Y.extract rfl rfl) ?_
    refine Ops.y (v := .int .i64 _) (Y.extract rfl rfl) ?_
    refine Ops.y (v := .slice _ _ _) (Y.assign rfl) ?_
    refine Ops.y (v := .int .i64 _) (Y.assign rfl) ?_
    refine Ops.nil ?_
    refine WPD.seq ?_
    refine WPD.seq ?_
    refine WPD.region ?_
    refine Ops.y (v := .int .i64 _) (Y.move rfl) ?_
    refine Ops.y (v := .bool (decide _)) (Y.nei rfl rfl) ?_
    refine Ops.nil ?_
    refine WPD.cond_decT rfl (hpr) ?_
    refine WPD.seq ?_
    refine WPD.region ?_
    refine Ops.y (v := .int .i64 _) (Y.move rfl) ?_
    refine Ops.y (v := .slice _ _ _) (Y.assign rfl) ?_
    refine Ops.y (v := .int .i64 _) (Y.assign rfl) ?_
    refine Ops.y (v := .int .i64 _) (Y.assign rfl) ?_
    refine Ops.nil ?_
    refine WPD.ret ?_
    repeat (first | refine thenD_ret ?_ | refine blockD_ret ?_)
    show doneQ _ _ _ _ _ _ _ _
    exact ⟨.inl rfl, [], _, _, [.slice none 0 0, .int .i64 0, .int .i64 (checkProg p)], rfl, by rw [List.map_nil, List.append_nil]; exact I, fun w2 I2 => ⟨rfl, rfl, rfl, trivial⟩, .inl ⟨hpr, rfl⟩⟩
  have hpr := Decidable.not_not.1 hpr
  obtain ⟨k1, k2, k3, _, _⟩ := checkProg_ok hpr
  have rk := chk_rok hpr
  have ok0 := chk_nil hpr
  refine WPD.seq ?_
  refine WPD.region ?_
  refine Ops.y (v := .agg #[_, _]) (Y.loadv ty_25 rfl (I.rdbox 0 rfl 0 2) rfl rfl) ?_
  refine Ops.go (O.call I Try.call30 (Strata_ok _ I.base_ok p hp hnm) rfl ?_)
  rintro v h1 w I le1 hS
  rcases hS with ⟨h0, _⟩ | ⟨_, s, hS, hI, rfl⟩
  exact absurd hpr h0
  refine Ops.y (v := .tuple #[_, _]) (Y.move rfl) ?_
  refine Ops.y (v := .slice _ _ _) (Y.extract rfl rfl) ?_
  refine Ops.y (v := .int .i64 _) (Y.extract rfl rfl) ?_
  refine Ops.y (v := .slice _ _ _) (Y.assign rfl) ?_
  refine Ops.y (v := .int .i64 _) (Y.assign rfl) ?_
  refine Ops.nil ?_
  have eM := strataM_eq hS
  have hsl : s.xs.length = p.preds.xs.length := hS.sol.len
  have hb5 := least_small hpr hS
  have hN5 := mostL_small hb5
  have hNe := numS_eq s.xs
  obtain ⟨N, hN⟩ : ∃ N, numS s.xs = N := ⟨_, rfl⟩
  refine WPD.seq ?_
  refine WPD.seq ?_
  refine WPD.region ?_
  refine Ops.y (v := .int .i64 _) (Y.move rfl) ?_
  refine Ops.y (v := .bool (decide _)) (Y.nei rfl rfl) ?_
  refine Ops.nil ?_
  refine WPD.cond_decF rfl ((fun h => h rfl)) ?_
  refine WPD.skip ?_
  refine WPD.seq ?_
  refine WPD.region ?_
  refine Ops.go (O.alloc I Try.zeroValue33 rfl ?_)
  intro b7 w I
  refine Ops.nil ?_
  refine WPD.seq ?_
  refine WPD.region ?_
  refine Ops.go (O.alloc I Try.zeroValue3 rfl ?_)
  intro b8 w I
  refine Ops.go (O.store (v := .int .i64 _) I ty_3 0 rfl rfl rfl rfl rfl rfl (Nat.le_of_ble_eq_true rfl) rfl ?_)
  intro w I
  refine Ops.nil ?_
  refine WPD.seq ?_
  refine WPD.seq ?_
  refine WPD.region ?_
  refine Ops.y (v := .slice _ _ _) (Y.move rfl) ?_
  refine Ops.go (O.callv I Try.call31 (hN ▸ NStrata_ok _ I.base_ok s hI hb5) rfl ?_)
  intro w I
  refine Ops.y (v := .int .i64 _) (Y.move rfl) ?_
  refine Ops.nil ?_
  refine WPD.block ?_
  refine WPD.loop (σ := SmS × Nat) (fun s' => [(1, .pointer (some ⟨b1, 0, none⟩)), (5, s.val), (7, .pointer (some ⟨b7, 0, none⟩)), (8, .pointer (some ⟨b8, 0, none⟩)), (24, .int .i64 N), (25, .int .i64 s'.2)]) (fun s' => s'.1.ms.map mark)
    (fun s' w => Inv B s'.1.h ([box b8 [.int .i64 s'.1.c] 3, box b1 p.enc 25, box b7 [s'.1.f.val] 33] ++ s'.1.ms.map markSA) w ∧ s'.2 ≤ N ∧ h1.le s'.1.h ∧ FOk p.preds.xs s'.1.f.xs ∧ SemK p s.xs s'.2 s'.1.f.xs s'.1.c ∧ Fcts s'.1.f s'.1.h ∧ s'.1.c ≤ 1000 * (potF p.preds.xs s'.1.f.xs + s'.2)) (fun s' => N - s'.2)
    ⟨(⟨0, true, ⟨none, 0, []⟩, ⟨none, 0, []⟩, 0, [], h1⟩, 0), ⟨rfl, rfl, rfl, rfl, rfl, rfl, trivial⟩, rfl, I.perm (by simp only [List.map_nil, List.append_nil]; exact List.Perm.cons _ (List.Perm.swap _ _ _)), Nat.zero_le _, Heap.le.refl _, ok0, ⟨rfl, rfl⟩, fnil, Nat.zero_le _⟩ ?_
  rintro ⟨⟨_, _, _, f0, c0, ms, hh⟩, k⟩ e w ⟨I, hk, gl, okf0, hm, hf0, hc0⟩
  dsimp only at I hk gl okf0 hm hf0 hc0 ⊢
  refine WPD.seq ?_
  refine WPD.region ?_
  refine Ops.y (v := .bool (decide _)) (Y.lti rfl rfl) ?_
  refine Ops.nil ?_
  refine WPD.seq ?_
  refine WPD.cond_dec rfl (fun h7 => ?_) (fun h7 => ?_)
  · have hk' : k < N := by omega
    refine WPD.skip ?_
    refine WPD.seq ?_
    refine WPD.block ?_
    refine WPD.seq ?_
    refine WPD.region ?_
    refine Ops.y (v := .int .i64 _) (Y.move rfl) ?_
    refine Ops.y (v := .int .i64 _) (Y.assign rfl) ?_
    refine Ops.nil ?_
    refine WPD.seq ?_
    refine WPD.region ?_
    refine Ops.y (v := .agg #[_, _]) (Y.loadv ty_25 rfl (I.rdbox 1 rfl 0 2) rfl rfl) ?_
    refine Ops.y (v := .slice _ _ _) (Y.move rfl) ?_
    refine Ops.y (v := .int .i64 _) (Y.move rfl) ?_
    refine Ops.y (v := .agg #[.slice _ _ _, .slice _ _ _, .slice _ _ _, .int .i64 _, .slice _ _ _]) (Y.build pl_69 Try.zeroValue69 rfl rfl) ?_
    refine Ops.go (O.box (v := .agg #[_, _, _, _, _]) I rfl rfl ?_)
    intro b32 w I
    refine Ops.go (O.alloc I Try.zeroValue67 rfl ?_)
    intro b10 w I
    refine Ops.go (O.store (v := .pointer (some ⟨_, _, none⟩)) I ty_67 0 rfl rfl rfl rfl rfl rfl (Nat.le_of_ble_eq_true rfl) rfl ?_)
    intro w I
    refine Ops.nil ?_
    refine WPD.seq ?_
    refine WPD.region ?_
    refine Ops.go (O.alloc I Try.zeroValue4 rfl ?_)
    intro b11 w I
    refine Ops.go (O.store (v := .bool _) I ty_4 0 rfl rfl rfl rfl rfl rfl (Nat.le_of_ble_eq_true rfl) rfl ?_)
    intro w I
    refine Ops.nil ?_
    have hp1 := hp.le (le1.trans gl)
    refine WPD.block ?_
    refine WPD.loop (σ := SmS) (fun s' => [(1, .pointer (some ⟨b1, 0, none⟩)), (5, s.val), (7, .pointer (some ⟨b7, 0, none⟩)), (8, .pointer (some ⟨b8, 0, none⟩)), (9, .int .i64 k), (10, .pointer (some ⟨b10, 0, none⟩)), (11, .pointer (some ⟨s'.b11, 0, none⟩)), (24, .int .i64 N), (25, .int .i64 k)]) (fun s' => s'.ms.map mark)
      (fun s' w => Inv B s'.h ([box s'.b11 [.bool s'.first] 4, box b10 [.pointer (some ⟨b32, 0, none⟩)] 67, box b32 (newsE p s k s'.fr) 69, box b8 [.int .i64 s'.c] 3, box b1 p.enc 25, box b7 [s'.f.val] 33] ++ s'.ms.map markSA) w ∧ h1.le s'.h ∧ FOk p.preds.xs s'.f.xs ∧ FOk p.preds.xs s'.fr.xs ∧ SJ p s.xs k f0.xs (s'.c - c0) s'.first s'.fr.xs s'.f.xs ∧ c0 ≤ s'.c ∧ Fcts s'.f s'.h ∧ Fcts s'.fr s'.h ∧ s'.c ≤ 1000 * (potF p.preds.xs s'.f.xs + k + if s'.first = true ∨ s'.fr.xs ≠ [] then 0 else 1))
      (fun s' => 2 * (2001 - potF p.preds.xs s'.f.xs) + if s'.first = true ∨ s'.fr.xs ≠ [] then 1 else 0)
      ⟨⟨b11, true, ⟨none, 0, []⟩, f0, c0, ms, hh⟩, ⟨rfl, rfl, rfl, rfl, rfl, rfl, rfl, rfl, rfl, trivial⟩, rfl, I, gl, okf0, ok0, by rw [Nat.sub_self]; exact .inl ⟨.inl rfl, SCloB.zero⟩, Nat.le_refl _, hf0, fnil, by rw [if_pos (.inl rfl)]; exact hc0⟩ ?_
    rintro ⟨b11, first, fr, f, c, ms, h2⟩ e w ⟨I, gl2, okf, okfr, sj, hcc, hf, hfr, hcb⟩
    dsimp only at I gl2 okf okfr sj hcc hf hfr hcb ⊢
    have hp2 := hp.le (le1.trans gl2)
    have hI2 := hI.le gl2
    have h125 := okf.le125
    have hpl := potF_le p.preds.xs f.xs
    refine WPD.seq ?_
    refine WPD.seq ?_
    refine WPD.cutK (σ := Unit) (fun _ => [(1, .pointer (some ⟨b1, 0, none⟩)), (5, s.val), (7, .pointer (some ⟨b7, 0, none⟩)), (8, .pointer (some ⟨b8, 0, none⟩)), (9, .int .i64 k), (10, .pointer (some ⟨b10, 0, none⟩)), (11, .pointer (some ⟨b11, 0, none⟩)), (24, .int .i64 N), (25, .int .i64 k), (41, .bool (decide (first = true ∨ fr.xs ≠ [])))])
      (fun _ w => Inv B h2 ([box b11 [.bool first] 4, box b10 [.pointer (some ⟨b32, 0, none⟩)] 67, box b32 (newsE p s k fr) 69, box b8 [.int .i64 c] 3, box b1 p.enc 25, box b7 [f.val] 33] ++ ms.map markSA) w) (fun _ => ms.map mark) ?_ ?_
    · cases hfi : first
      · by_cases hfe : fr.xs = []
        · rw [hfi] at I
          refine WPD.region ?_
          refine Ops.y (v := .bool false) (Y.b (Y.loadv ty_4 rfl (I.rdbox 0 rfl 0 1) rfl rfl) (rfl)) ?_
          refine Ops.y (v := .bool _) (Y.move rfl) ?_
          refine Ops.ygt rfl (v := .pointer (some ⟨_, _, none⟩)) (Y.loadv ty_67 rfl (I.rdbox 1 rfl 0 1) rfl rfl) ?_
          refine Ops.ygt rfl (v := .pointer (some ⟨_, _, none⟩)) (Y.nilp rfl) ?_
          refine Ops.ygt rfl (v := .pointer (some ⟨_, _, none⟩)) (Y.fa fa_69_3 rfl) ?_
          refine Ops.ygt rfl (v := .slice _ _ _) (Y.loadv ty_33 rfl (I.rdbox 2 rfl 4 1) rfl rfl) ?_
          refine Ops.ygt rfl (v := .int .i64 _) (Y.lens Try.underlying33 rfl) ?_
          refine Ops.ygt rfl (v := .bool false) (Y.dec_f (Y.gti rfl rfl) ((by rw [hfe]; decide))) ?_
          refine Ops.y (v := .bool _) (Y.pick_f rfl rfl) ?_
          refine Ops.nil ?_
          exact ⟨(), ⟨rfl, rfl, rfl, rfl, rfl, rfl, rfl, rfl, rfl, congrArg Value.bool (decide_eq_false (by rw [hfe]; simp)).symm, trivial⟩, rfl, I⟩
        · rw [hfi] at I
          have : (fr.xs.length : Int) > 0 := by have := List.length_pos_iff.2 hfe; omega
          refine WPD.region ?_
          refine Ops.y (v := .bool false) (Y.b (Y.loadv ty_4 rfl (I.rdbox 0 rfl 0 1) rfl rfl) (rfl)) ?_
          refine Ops.y (v := .bool _) (Y.move rfl) ?_
          refine Ops.ygt rfl (v := .pointer (some ⟨_, _, none⟩)) (Y.loadv ty_67 rfl (I.rdbox 1 rfl 0 1) rfl rfl) ?_
          refine Ops.ygt rfl (v := .pointer (some ⟨_, _, none⟩)) (Y.nilp rfl) ?_
          refine Ops.ygt rfl (v := .pointer (some ⟨_, _, none⟩)) (Y.fa fa_69_3 rfl) ?_
          refine Ops.ygt rfl (v := .slice _ _ _) (Y.loadv ty_33 rfl (I.rdbox 2 rfl 4 1) rfl rfl) ?_
          refine Ops.ygt rfl (v := .int .i64 _) (Y.lens Try.underlying33 rfl) ?_
          refine Ops.ygt rfl (v := .bool true) (Y.dec_t (Y.gti rfl rfl) (this)) ?_
          refine Ops.y (v := .bool _) (Y.pick_f rfl rfl) ?_
          refine Ops.nil ?_
          exact ⟨(), ⟨rfl, rfl, rfl, rfl, rfl, rfl, rfl, rfl, rfl, congrArg Value.bool (decide_eq_true (.inr hfe)).symm, trivial⟩, rfl, I⟩
      · rw [hfi] at I
        refine WPD.region ?_
        refine Ops.y (v := .bool true) (Y.b (Y.loadv ty_4 rfl (I.rdbox 0 rfl 0 1) rfl rfl) (rfl)) ?_
        refine Ops.y (v := .bool _) (Y.move rfl) ?_
        refine Ops.gf rfl ?_
        refine Ops.gf rfl ?_
        refine Ops.gf rfl ?_
        refine Ops.gf rfl ?_
        refine Ops.gf rfl ?_
        refine Ops.gf rfl ?_
        refine Ops.y (v := .bool _) (Y.pick_t rfl rfl) ?_
        refine Ops.nil ?_
        exact ⟨(), ⟨rfl, rfl, rfl, rfl, rfl, rfl, rfl, rfl, rfl, congrArg Value.bool (decide_eq_true (.inl rfl)).symm, trivial⟩, rfl, I⟩
    rintro _ e w I
    refine WPD.cond_dec rfl (fun h11 => ?_) (fun h11 => ?_)
    · rw [if_pos h11] at hcb
      have hscb : SCloB p s.xs k f0.xs (c - c0) first fr.xs f.xs := by
        rcases sj with ⟨_, h⟩ | ⟨a1, a2, _⟩
        · exact h
        · rcases h11 with h | h
          · rw [a1] at h; cases h
          · exact absurd a2 h
      obtain ⟨ts, hts⟩ : ∃ t, toldL p.preds.xs f.xs p.rules.xs (ofQ p s.xs k) = t := ⟨_, rfl⟩
      have tf : ∀ t ∈ ts, factFine p.preds.xs t.2 = true := by rw [← hts]; exact told_fine rk okf
      have hsomef : ∀ j, ∀ t ∈ someL p s.xs k first fr.xs f.xs j, factFine p.preds.xs t.2 = true := fun j t ht => tf t (hts ▸ List.mem_of_mem_take (List.mem_filter.1 ht).1)
      refine WPD.skip ?_
      refine WPD.seq ?_
      refine WPD.block ?_
      refine WPD.seq ?_
      refine WPD.region ?_
      refine Ops.y (v := .slice _ _ _) (Y.loadv ty_33 rfl (I.rdbox 5 rfl 0 1) rfl rfl) ?_
      refine Ops.go (O.call I Try.call32 (CloneFct_ok _ I.base_ok f hf (by omega)) rfl ?_)
      rintro _ h3 w I le3 ⟨g0, rfl, eg, og, g0s⟩
      refine Ops.go (O.alloc I Try.zeroValue33 rfl ?_)
      intro b12 w I
      refine Ops.go (O.store (v := .slice _ _ _) I ty_33 0 rfl rfl rfl rfl rfl rfl (Nat.le_of_ble_eq_true rfl) rfl ?_)
      intro w I
      refine Ops.nil ?_
      have hp3 := hp2.le le3
      have hI3 := hI2.le le3
      have hf3 := hf.le le3
      refine WPD.seq ?_
      refine WPD.seq ?_
      refine WPD.regionF mixed I 7 (by kernel_rfl) ?_
      refine OpsF.y_ (v := .agg #[_, _]) (fun _ => runs_none _) (fun _ w us hl I => Y.loadv ty_25 rfl (I.rdbox 5 rfl 0 2) rfl rfl) ?_
      refine OpsF.y_ (v := .slice _ _ _) (fun _ => runs_none _) (fun _ w us hl I => Y.loadv ty_33 rfl (I.rdbox 6 rfl 0 1) rfl rfl) ?_
      refine OpsF.y_ (v := .agg #[_, _]) (fun _ => runs_none _) (fun _ w us hl I => Y.loadv ty_25 rfl (I.rdbox 5 rfl 0 2) rfl rfl) ?_
      refine OpsF.y_ (v := .slice _ _ _) (fun _ => runs_none _) (fun _ w us hl I => Y.move rfl) ?_
      refine OpsF.y_ (v := .int .i64 _) (fun _ => runs_none _) (fun _ w us hl I => Y.move rfl) ?_
      refine OpsF.x_ (Φ := ROfS p s.xs k) ROfS.mono (fun _ => runs_none _) ?_ ?_
      · intro _ w hl I
        try unfold AllL
        refine O.call I Try.call34 (ROf_ok _ I.base_ok p s k) rfl ?_
        rintro _ h5 w I hl' ⟨b4, b3, b5, rfl, k4, k3', k5⟩
        exact ⟨_, hl', I, ⟨_, rfl, ROf1_ok p s k b4 b3 b5 k4 k3' k5 ((hp3.le hl).le hl') ((hI3.le hl).le hl') hS.sol.len (heads_in k3)⟩⟩
      refine OpsF.x_ (Φ := ToldS p f.xs (ofQ p s.xs k)) ToldS.mono (fun _ => runs_none _) ?_ ?_
      · intro _ w hl I u49 q49
        obtain ⟨cs, rfl, hoc⟩ := q49 rfl
        try unfold AllL
        refine O.call I Try.call33 (Told_ok _ I.base_ok p f 63 cs) rfl ?_
        rintro _ h6 w I hl' ⟨bp, bo, bf, rfl, kp, ko, kf⟩
        exact ⟨_, hl', I, ⟨bp, bo, bf, rfl, Told1_iter p f 63 cs (ofQ p s.xs k) bp bo bf h6 kp ko kf ((hp3.le hl).le hl') ((hf3.le hl).le hl') hpr okf (hoc.le hl')⟩⟩
      refine OpsF.nil ?_
      intro _ w hl I u49 q49 u50 q50
      refine Ops.nil ?_
      obtain ⟨bp, bo, bf, rfl, it⟩ := q50 rfl
      rw [hts] at it
      rename_i h4 _ _
      have le4 := le3.trans hl
      refine WPD.block ?_
      refine WPD.rangeFuncH (ms := ms) (σ := Sl Fct × Nat) (fun s' => [box b12 [s'.1.val] 33, box b11 [.bool first] 4, box b10 [.pointer (some ⟨b32, 0, none⟩)] 67, box b32 (newsE p s k fr) 69, box b8 [.int .i64 s'.2] 3, box b1 p.enc 25, box b7 [f.val] 33])
        (fun j s' h => s'.1.xs = (turnL p.preds.xs f.xs (someL p s.xs k first fr.xs f.xs j)).1 ∧ s'.2 = c + (someL p s.xs k first fr.xs f.xs j).length ∧ Fcts s'.1 h) (fun _ _ _ => False) (fun _ _ _ _ hl hj => ⟨hj.1, hj.2.1, hj.2.2.le hl⟩) (g0, c) I ⟨eg, rfl, Sl.Is.le ⟨og.in Fct_len, by rw [eg]; omega⟩ hl⟩ rfl Try.call60
        it (fun _ => rfl) (by kernel_rfl) (by kernel_rfl) (by kernel_rfl) ?_ ?_ ?_
      · rintro l r ms' hg j t ⟨u, ch⟩ W hx gl I ⟨hj, hc, iu⟩
        dsimp only at hj hc iu
        have hjl := (List.getElem?_eq_some_iff.1 hx).1
        have hxj := (List.getElem?_eq_some_iff.1 hx).2
        have htm := List.mem_of_getElem? hx
        have hfine := tf t htm
        have hlen := someL_len (M := s.xs) (st := k) (b := first) (fr := fr.xs) (f := f.xs) (k := j) k2
        have oku : FOk p.preds.xs u.xs := by rw [hj]; exact turn_fok okf (hsomef j)
        obtain ⟨n, r1, hr1, hq1, hst1, he1⟩ := mem_told.1 (hts ▸ htm : t ∈ toldL p.preds.xs f.xs p.rules.xs (ofQ p s.xs k))
        obtain ⟨e1, hvs, hhf⟩ := steps_holds hst1
        have hsome : someL p s.xs k first fr.xs f.xs (j + 1) = someL p s.xs k first fr.xs f.xs j ++ if semiQ p s.xs k first fr.xs t = true then [t] else [] := by
          have hjl' : j < (toldL p.preds.xs f.xs p.rules.xs (ofQ p s.xs k)).length := by rw [hts]; exact hjl
          have := someL_succ (p := p) (M := s.xs) (st := k) (b := first) (fr := fr.xs) (f := f.xs) hjl'
          have e : (toldL p.preds.xs f.xs p.rules.xs (ofQ p s.xs k))[j] = t := by simp only [hts]; exact hxj
          rw [e] at this; exact this
        have gl4 := le4.trans gl
        refine WPI.seq ?_
        refine WPI.region (by kernel_rfl) ?_
        refine Ops.go (O.alloc I Try.zeroValue79 rfl ?_)
        intro b13 w I
        refine Ops.go (O.store (v := .agg #[_, _, _, _]) I ty_79 0 rfl rfl rfl rfl rfl rfl (Nat.le_of_ble_eq_true rfl) rfl ?_)
        intro w I
        refine Ops.nil ?_
        refine WPI.region (by kernel_rfl) ?_
        refine Ops.go (O.alloc I Try.zeroValue72 rfl ?_)
        intro b14 w I
        refine Ops.go (O.store (v := .agg #[_, _, _, _]) I ty_72 0 rfl rfl rfl rfl rfl rfl (Nat.le_of_ble_eq_true rfl) rfl ?_)
        intro w I
        refine Ops.nil ?_
        refine ⟨hg, [box b14 t.2.enc 72, box b13 t.1.enc 79], Heap.le.refl _, I, fun r' W2 I => ?_⟩
        obtain ⟨hv, lev, _, kb, J, _, _⟩ := (I.front 5 rfl).lend
        have hno := newsOf_ok ⟨W2, hv⟩ J.base_ok p s k fr b32 ⟨kb, hp2.le (gl4.trans lev), hI2.le (gl4.trans lev), hfr.le (gl4.trans lev)⟩ t.1 r1 (by omega) (by rw [e1, Int.toNat_natCast]; exact hr1) (rk r1 (List.mem_of_getElem? hr1)) okfr hvs hsl
        have hpp := hp2.preds.le gl4
        cases hq : semiQ p s.xs k first fr.xs t
        · rw [hq] at hsome
          simp only [Bool.false_eq_true, if_false, List.append_nil] at hsome
          unfold semiQ at hq
          rw [Bool.or_eq_false_iff] at hq
          obtain ⟨hq0, hq2⟩ := hq
          subst hq0
          rw [hq2] at hno
          refine WPI.block ?_
          refine WPI.seq ?_
          refine WPI.region (by kernel_rfl) ?_
          refine Ops.y (v := .bool false) (Y.b (Y.loadv ty_4 rfl (I.rdbox 3 rfl 0 1) rfl rfl) (rfl)) ?_
          refine Ops.y (v := .bool _) (Y.move rfl) ?_
          refine Ops.ygt rfl (v := .pointer (some ⟨_, _, none⟩)) (Y.loadv ty_67 rfl (I.rdbox 4 rfl 0 1) rfl rfl) ?_
          refine Ops.ygt rfl (v := .agg #[_, _, _, _]) (Y.loadv ty_79 rfl (I.rdbox 1 rfl 0 4) rfl rfl) ?_
          refine Ops.gt rfl (O.callvH I Try.call35 (hno) rfl ?_)
          intro w I
          refine Ops.y (v := .bool _) (Y.pick_f rfl rfl) ?_
          refine Ops.nil ?_
          refine WPI.cond_f rfl ?_
          refine WPI.skip ?_
          exact ⟨hg, (u, ch), [box b14 t.2.enc 72, box b13 t.1.enc 79], Heap.le.refl _, I, by rw [hsome]; exact hj, by rw [hsome]; exact hc, iu⟩
        · rw [hq, if_pos rfl] at hsome
          have fin : ∀ u2 : Sl Fct, u2.xs = (addF (predOf p.preds.xs t.2.pred).kind u.xs t.2).1 → u2.xs = (turnL p.preds.xs f.xs (someL p s.xs k first fr.xs f.xs (j + 1))).1 := fun u2 h => by
            rw [hsome, turnL_snoc, h, hj]; rfl
          have fin2 : ch + 1 = c + (someL p s.xs k first fr.xs f.xs (j + 1)).length := by rw [hsome, List.length_append, List.length_singleton]; omega
          cases hfi : first
          · subst hfi
            have hq2 : newB p s.xs k fr.xs t.1 = true := by simpa [semiQ] using hq
            rw [hq2] at hno
            refine WPI.block ?_
            refine WPI.seq ?_
            refine WPI.region (by kernel_rfl) ?_
            refine Ops.y (v := .bool false) (Y.b (Y.loadv ty_4 rfl (I.rdbox 3 rfl 0 1) rfl rfl) (rfl)) ?_
            refine Ops.y (v := .bool _) (Y.move rfl) ?_
            refine Ops.ygt rfl (v := .pointer (some ⟨_, _, none⟩)) (Y.loadv ty_67 rfl (I.rdbox 4 rfl 0 1) rfl rfl) ?_
            refine Ops.ygt rfl (v := .agg #[_, _, _, _]) (Y.loadv ty_79 rfl (I.rdbox 1 rfl 0 4) rfl rfl) ?_
            refine Ops.gt rfl (O.callvH I Try.call35 (hno) rfl ?_)
            intro w I
            refine Ops.y (v := .bool _) (Y.pick_f rfl rfl) ?_
            refine Ops.nil ?_
            refine WPI.cond_t rfl ?_
            refine WPI.seq ?_
            refine WPI.region (by kernel_rfl) ?_
            refine Ops.y (v := .int .i64 _) (Y.loadv ty_3 rfl (I.rdbox 6 rfl 0 1) rfl rfl) ?_
            refine Ops.y (v := .int .i64 _) (Y.addi rfl rfl ⟨by omega, by omega⟩) ?_
            refine Ops.go (O.store (v := .int .i64 _) I ty_3 6 rfl rfl rfl rfl rfl rfl (Nat.le_of_ble_eq_true rfl) rfl ?_)
            intro w I
            refine Ops.nil ?_
            refine WPI.region (by kernel_rfl) ?_
            refine Ops.y (v := .pointer (some ⟨_, _, none⟩)) (Y.fa0 fa_25_0 rfl) ?_
            refine Ops.y (v := .slice _ _ _) (Y.loadv ty_22 rfl (I.rdbox 7 rfl 0 1) rfl rfl) ?_
            refine Ops.y (v := .slice _ _ _) (Y.loadv ty_33 rfl (I.rdbox 2 rfl 0 1) rfl rfl) ?_
            refine Ops.y (v := .agg #[_, _, _, _]) (Y.loadv ty_72 rfl (I.rdbox 0 rfl 0 4) rfl rfl) ?_
            refine Ops.go (O.call I Try.call36 (Put_ok _ I.base_ok p.preds hpp u iu oku t.2 hfine) rfl ?_)
            rintro _ h5 w I le5 ⟨u2, rfl, hu2, iu2⟩
            refine Ops.y (v := .tuple #[_, _]) (Y.move rfl) ?_
            refine Ops.y (v := .slice _ _ _) (Y.extract rfl rfl) ?_
            refine Ops.y (v := .bool _) (Y.extract rfl rfl) ?_
            refine Ops.go (O.store (v := .slice _ _ _) I ty_33 2 rfl rfl rfl rfl rfl rfl (Nat.le_of_ble_eq_true rfl) rfl ?_)
            intro w I
            refine Ops.nil ?_
            exact ⟨h5, (u2, ch + 1), [box b14 t.2.enc 72, box b13 t.1.enc 79], le5, I, fin u2 hu2, fin2, iu2⟩
          · subst hfi
            refine WPI.block ?_
            refine WPI.seq ?_
            refine WPI.region (by kernel_rfl) ?_
            refine Ops.y (v := .bool true) (Y.b (Y.loadv ty_4 rfl (I.rdbox 3 rfl 0 1) rfl rfl) (rfl)) ?_
            refine Ops.y (v := .bool _) (Y.move rfl) ?_
            refine Ops.gf rfl ?_
            refine Ops.gf rfl ?_
            refine Ops.gf rfl ?_
            refine Ops.y (v := .bool _) (Y.pick_t rfl rfl) ?_
            refine Ops.nil ?_
            refine WPI.cond_t rfl ?_
            refine WPI.seq ?_
            refine WPI.region (by kernel_rfl) ?_
            refine Ops.y (v := .int .i64 _) (Y.loadv ty_3 rfl (I.rdbox 6 rfl 0 1) rfl rfl) ?_
            refine Ops.y (v := .int .i64 _) (Y.addi rfl rfl ⟨by omega, by omega⟩) ?_
            refine Ops.go (O.store (v := .int .i64 _) I ty_3 6 rfl rfl rfl rfl rfl rfl (Nat.le_of_ble_eq_true rfl) rfl ?_)
            intro w I
            refine Ops.nil ?_
            refine WPI.region (by kernel_rfl) ?_
            refine Ops.y (v := .pointer (some ⟨_, _, none⟩)) (Y.fa0 fa_25_0 rfl) ?_
            refine Ops.y (v := .slice _ _ _) (Y.loadv ty_22 rfl (I.rdbox 7 rfl 0 1) rfl rfl) ?_
            refine Ops.y (v := .slice _ _ _) (Y.loadv ty_33 rfl (I.rdbox 2 rfl 0 1) rfl rfl) ?_
            refine Ops.y (v := .agg #[_, _, _, _]) (Y.loadv ty_72 rfl (I.rdbox 0 rfl 0 4) rfl rfl) ?_
            refine Ops.go (O.call I Try.call36 (Put_ok _ I.base_ok p.preds hpp u iu oku t.2 hfine) rfl ?_)
            rintro _ h5 w I le5 ⟨u2, rfl, hu2, iu2⟩
            refine Ops.y (v := .tuple #[_, _]) (Y.move rfl) ?_
            refine Ops.y (v := .slice _ _ _) (Y.extract rfl rfl) ?_
            refine Ops.y (v := .bool _) (Y.extract rfl rfl) ?_
            refine Ops.go (O.store (v := .slice _ _ _) I ty_33 2 rfl rfl rfl rfl rfl rfl (Nat.le_of_ble_eq_true rfl) rfl ?_)
            intro w I
            refine Ops.nil ?_
            exact ⟨h5, (u2, ch + 1), [box b14 t.2.enc 72, box b13 t.1.enc 79], le5, I, fin u2 hu2, fin2, iu2⟩
      · rintro Dm h5 ⟨u, ch⟩ W gl I ⟨hj, hc, iu⟩
        dsimp only at hj hc iu
        rw [← hts, someL_all] at hj hc
        have hjT : semiT p s.xs k first fr.xs f.xs = u.xs := hj.symm
        have hsl2 : (semiL p s.xs k first fr.xs f.xs).length ≤ 1000 := Nat.le_trans (List.length_filter_le ..) (told_len k2)
        have sf : ∀ t ∈ semiL p s.xs k first fr.xs f.xs, factFine p.preds.xs t.2 = true := fun t ht => tf t (hts ▸ (List.mem_filter.1 ht).1)
        have ru := run_up (semiL p s.xs k first fr.xs f.xs) (f.xs, false) okf sf
        have oku : FOk p.preds.xs u.xs := by rw [hj]; exact ru.fok
        have hup : underF p.preds.xs f.xs u.xs = true := by rw [hj]; exact ru.up
        have hu125 := oku.le125
        have gl5 := le4.trans gl
        obtain ⟨h6, le6, hb7, kb7, I, hn7, hB7⟩ := (I.front 6 rfl).lend
        have hBh6 := I.ext
        refine WPD.seq ?_
        refine WPD.regionG mixed RDl.pre ⟨h6, none, none⟩ (J := JDl B ([box b12 [u.val] 33, box b11 [.bool first] 4, box b10 [.pointer (some ⟨b32, 0, none⟩)] 67, box b32 (newsE p s k fr) 69, box b8 [.int .i64 ch] 3, box b1 p.enc 25] ++ (Dm :: ms).map markSA) 72 4 u.xs.length (keepL (sameQ f.xs) u.xs).length (u.xs.flatMap Fct.enc) ((keepL (sameQ f.xs) u.xs).flatMap Fct.enc) 2 4) ⟨rfl, rfl, fun h => (by cases h), I.drew⟩ 5 (by kernel_rfl) ?_
        refine OpsG.y_ (v := .pointer (some ⟨_, _, none⟩)) (fun _ => runsG_none _) RDl.pre (JDl.set (by decide)) (fun _ s w us hl hj => have I := hj.base; have hl := hl.h; Y.loadv ty_67 rfl (I.rdbox 2 rfl 0 1) rfl rfl) ?_
        refine OpsG.y_ (v := .slice _ _ _) (fun _ => runsG_none _) RDl.pre (JDl.set (by decide)) (fun _ s w us hl hj => have I := hj.base; have hl := hl.h; Y.loadv ty_33 rfl (I.rdbox 0 rfl 0 1) rfl rfl) ?_
        refine OpsG.x_ AtD2.mono (fun _ => runsG_none _) (fun D' z w hDk hl hj => ?_) ?_
        · refine AllG.all fun us => ?_
          refine hj.first hDk (by decide) fun I => ?_
          refine O.call I Try.call32 (CloneFct_ok _ I.base_ok u ((iu.le le6).le hl.h) (by omega)) rfl ?_
          rintro _ h7 w I hl' ⟨gs, rfl, eg, og, gs0⟩
          obtain ⟨h8, I, mono8, keep8⟩ := I.unsettle og (hBh6.trans hl.h)
          exact ⟨h8, mono8 _ hl' (Heap.le.refl _), by rw [eg] at I; exact I⟩
        refine OpsG.y_ (v := .func (.func 38) #[] #[.pointer (some ⟨b7, 0, none⟩)]) (fun _ => runsG_none _) RDl.pre (JDl.set (by decide)) (fun _ s w us hl hj => have I := hj.base; have hl := hl.h; Y.mkfunc rfl rfl) ?_
        refine OpsG.x_ AtD4.mono (fun _ => runsG_none _) (fun D' z w hDk hl hj => ?_) ?_
        · intro u71 q71
          refine hj.second hDk (by decide) (q71 rfl) fun I => ?_
          refine O.calls Try.call37 (DeleteFct_v I rfl (by omega) 38 Try.call38 [] [.pointer (some ⟨b7, 0, none⟩)] (sameQ f.xs) (semiM1_ok p.preds.xs f b7 u.xs (kb7.le hl.h) (((hf.le gl5).le le6).le hl.h) okf oku.fine)) rfl ?_
          rintro ed w ⟨v7, m7, rfl, rfl, I⟩
          refine ⟨_, rfl, ?_⟩
          exact ⟨z.h, Heap.le.refl _, I⟩
        refine OpsG.nil ?_
        intro D z w hD hl hj u71 q71 u73 q73
        have I := hj.inv
        have q73 : z.o4 = some u73 := q73 rfl
        rw [q73] at I
        obtain ⟨h9, I, mono9, hn9⟩ := I.unbox (hl.h _ _ hb7) hB7
        obtain ⟨h10, fs, le10, rfl, hfs, infs, I⟩ := (I.front 1 rfl).settleSl Fct_len rfl
        have I := I.perm perm_last6
        refine Ops.y (v := .pointer (some ⟨_, _, none⟩)) (Y.nilp rfl) ?_
        refine Ops.y (v := .pointer (some ⟨_, _, none⟩)) (Y.fa fa_69_3 rfl) ?_
        refine Ops.go (O.store (v := .slice _ _ _) I ty_33 3 rfl rfl rfl rfl rfl rfl (Nat.le_of_ble_eq_true rfl) rfl ?_)
        intro w I
        refine Ops.nil ?_
        have gl10 : h5.le h10 := (mono9 h5 (le6.trans hl.h) hn7).trans le10
        have efr : fs.xs = freshF f.xs u.xs := by rw [hfs, keep_fresh]
        have hfl : fs.xs.length ≤ u.xs.length := by rw [efr]; exact List.length_filter_le ..
        have okfs : FOk p.preds.xs fs.xs := by rw [efr]; exact ⟨oku.len, oku.preds, fun x hx => oku.fine x (List.mem_filter.1 hx).1, oku.srt.sublist List.filter_sublist⟩
        have hcc' : ch - c0 = (c - c0) + (semiL p s.xs k first fr.xs f.xs).length := by omega
        have hpu := potF_le p.preds.xs u.xs
        refine WPD.region ?_
        refine Ops.y (v := .slice _ _ _) (Y.loadv ty_33 rfl (I.rdbox 0 rfl 0 1) rfl rfl) ?_
        refine Ops.go (O.store (v := .slice _ _ _) I ty_33 6 rfl rfl rfl rfl rfl rfl (Nat.le_of_ble_eq_true rfl) rfl ?_)
        intro w I
        refine Ops.nil ?_
        refine WPD.seq ?_
        refine WPD.seq ?_
        refine WPD.region ?_
        refine Ops.y (v := .bool _) (Y.loadv ty_4 rfl (I.rdbox 1 rfl 0 1) rfl rfl) ?_
        refine Ops.nil ?_
        refine WPD.region ?_
        refine Ops.go (O.alloc I Try.zeroValue4 rfl ?_)
        intro b11 w I
        refine Ops.go (O.store (v := .bool _) I ty_4 0 rfl rfl rfl rfl rfl rfl (Nat.le_of_ble_eq_true rfl) rfl ?_)
        intro w I
        refine Ops.nil ?_
        refine WPD.region ?_
        refine Ops.go (O.store (v := .bool _) I ty_4 0 rfl rfl rfl rfl rfl rfl (Nat.le_of_ble_eq_true rfl) rfl ?_)
        intro w I
        refine Ops.nil ?_
        have hend : SJ p s.xs k f0.xs (ch - c0) false fs.xs u.xs ∧ (ch ≤ 1000 * (potF p.preds.xs u.xs + k + if False ∨ fs.xs ≠ [] then 0 else 1)) ∧ 2 * (2001 - potF p.preds.xs u.xs) + (if False ∨ fs.xs ≠ [] then 1 else 0) < 2 * (2001 - potF p.preds.xs f.xs) + 1 := by
          by_cases hfe : freshF f.xs u.xs = []
          · have huf : u.xs = f.xs := fresh_nil okf oku hup hfe
            have hno : ¬ (False ∨ fs.xs ≠ []) := by rw [efr, hfe]; simp
            refine ⟨.inr ⟨rfl, by rw [efr, hfe], by rw [hcc']; exact hscb.done hjT rfl hfe⟩, ?_, ?_⟩
            · rw [if_neg hno, huf]; omega
            · rw [if_neg hno, huf]; omega
          · have hne : u.xs ≠ f.xs := fun e => hfe (by rw [e]; exact fresh_self okf)
            have hlt := potF_lt okf oku hup hne
            have hyes : False ∨ fs.xs ≠ [] := .inr (by rw [efr]; exact hfe)
            refine ⟨.inl ⟨.inr (by rw [efr]; exact hfe), by rw [hcc', efr]; exact hscb.next hjT rfl hfe⟩, ?_, ?_⟩
            · rw [if_pos hyes]; omega
            · rw [if_pos hyes]; omega
        obtain ⟨he1, he2, he3⟩ := hend
        refine ⟨⟨b11, false, fs, u, ch, Dm :: ms, h10⟩, ⟨⟨rfl, rfl, rfl, rfl, rfl, rfl, rfl, rfl, rfl, trivial⟩, rfl, I.weak (.cons_cons _ (.cons _ (.cons _ (List.Sublist.refl _)))), gl2.trans (gl5.trans gl10), oku, okfs, he1, by dsimp only; omega, iu.le gl10, ⟨infs, by dsimp only; omega⟩, ?_⟩, ?_⟩
        · dsimp only; simp only [Bool.false_eq_true]; exact he2
        · dsimp only; rw [if_pos h11]; simp only [Bool.false_eq_true]; exact he3
      · rintro D c h4 _ W gl I hx
        exact hx.elim
    · have h12 : first = false ∧ fr.xs = [] := by
        rw [not_or, Bool.not_eq_true, Decidable.not_not] at h11; exact h11
      rw [if_neg h11] at hcb
      obtain ⟨hfi, hfe⟩ := h12
      have hcl : SClo p s.xs k true [] f0.xs f.xs (c - c0) := by
        rcases sj with ⟨h, _⟩ | ⟨_, _, h⟩
        · exact absurd h h11
        · exact h
      refine WPD.exit ?_
      refine WPD.region ?_
      refine Ops.y (v := .int .i64 _) (Y.addi rfl rfl ⟨by omega, by omega⟩) ?_
      refine Ops.y (v := .int .i64 _) (Y.move rfl) ?_
      refine Ops.nil ?_
      exact ⟨(⟨0, true, ⟨none, 0, []⟩, f, c, ms, h2⟩, k + 1), ⟨⟨rfl, rfl, rfl, rfl, rfl, rfl, trivial⟩, rfl, I.weak (.cons _ (.cons _ (.cons _ (List.Sublist.refl _)))), by dsimp only; omega, gl2, okf, ⟨f0.xs, c0, c - c0, hm, hcl, by dsimp only; omega⟩, hf, by dsimp only; omega⟩, by dsimp only; omega⟩
  obtain rfl : k = N := by omega
  refine WPD.exit ?_
  refine WPD.seq ?_
  refine WPD.regionQ mixed I (by kernel_rfl) ?_
  refine OpsQ.y (v := .slice _ _ _) (fun w I => Y.loadv ty_33 rfl (I.rdbox 2 rfl 0 1) rfl rfl) ?_
  refine OpsQ.y (v := .int .i64 _) (fun w I => Y.loadv ty_3 rfl (I.rdbox 0 rfl 0 1) rfl rfl) ?_
  refine OpsQ.y (v := .slice _ _ _) (fun w I => Y.assign rfl) ?_
  refine OpsQ.y (v := .int .i64 _) (fun w I => Y.assign rfl) ?_
  refine OpsQ.y (v := .int .i64 _) (fun w I => Y.assign rfl) ?_
  refine OpsQ.nil ?_
  intro w I
  refine WPD.ret ?_
  repeat (first | refine thenD_ret ?_ | refine blockD_ret ?_)
  show doneQ _ _ _ _ _ _ _ _
  exact ⟨.inl rfl, ms, [box b8 [.int .i64 c0] 3, box b1 p.enc 25, box b7 [f0.val] 33], hh, [f0.val, .int .i64 c0, .int .i64 0], rfl, I, fun w2 I2 => ⟨rfl, rfl, rfl, trivial⟩, .inr ⟨hpr, f0, c0, rfl, hf0, by rw [eM, hN]; exact hm⟩⟩
end Go.TF
end
section
/- Needs: who is needed, by a queue. -/
namespace Go.TF
open Go Go.RowKit Go.Proofs
set_option maxRecDepth 20000

structure NdS where
  g : Nat
  o : Nat
  c : Nat
  q : List Int
  N : List Bool
  ms : List Nat
@[reducible] def NdU (b8 bo b2 : Nat) (p : Prg) (g o c : Nat) (q : List Int) (N : List Bool) : List SA := [box b8 [.slice (some ⟨g, o, none⟩) (q.map vI).length c] 40, ownQ 3 g o c (q.map vI), box bo (N.map vB) 4, box b2 p.enc 25]
structure NdJ (B : Base) (b8 bo b2 : Nat) (p : Prg) (pr : Int) (s : NdS) (w : World) : Prop where
  inv : ∃ h1, B.h.le h1 ∧ Inv B h1 (NdU b8 bo b2 p s.g s.o s.c s.q s.N ++ s.ms.map markSA) w
  len : s.N.length = p.preds.xs.length
  snd : ∀ i : Int, 0 ≤ i → i < p.preds.xs.length → bv s.N i = true → Reach (usesL p.rules.xs) pr i
  qin : ∀ x ∈ s.q, (0 ≤ x ∧ x < p.preds.xs.length) ∧ Reach (usesL p.rules.xs) pr x
  clo : ∀ c ∈ usesL p.rules.xs, bv s.N c.1 = true → bv s.N c.2.atom.pred = true ∨ c.2.atom.pred ∈ s.q
  has : bv s.N pr = true ∨ pr ∈ s.q
  small : s.q.length ≤ 1 + 24 * trues s.N
end Go.TF
end
section
/- The roads, their arrays the caller's own. -/
namespace Go.TF
open Go Go.RowKit Go.Proofs
set_option maxRecDepth 20000

def prC : List Prd := [⟨bEdge, 2, 0⟩, ⟨bFar, 2, 2⟩, ⟨bLone, 1, 0⟩]
structure RoadsM (v : Value) (h : Heap) (M : List SA) (bp br : Nat) (r0 r1 r2 r3 r4 r5 r6 : Rul) : Prop where
  val : v = .agg #[.slice (some ⟨bp, 0, none⟩) 3 3, .slice (some ⟨br, 0, none⟩) 7 7]
  own : M = [box br ([r0, r1, r2, r3, r4, r5, r6].flatMap Rul.enc) 49, box bp (prC.flatMap Prd.enc) 56]
  is : ∀ x ∈ [r0, r1, r2, r3, r4, r5, r6], x.In h
  cap : ∀ x ∈ [r0, r1, r2, r3, r4, r5, r6], x.body.xs.length ≤ x.body.cap
  er : [r0, r1, r2, r3, r4, r5, r6].map Rul.er = roadsC.rules.xs
end Go.TF
end
section
/- What the laws of programs begin with. -/
namespace Go.TF
open Go Go.RowKit Go.Proofs
set_option maxRecDepth 20000

def LtlS (x : Ltl) : Sp := fun u h => ∃ y : Ltl, u = y.val ∧ y.er = x ∧ y.In h
theorem LtlS.mono {x : Ltl} : MonoS (LtlS x) := fun _ _ _ hl ⟨s, a, b, c⟩ => ⟨s, a, b, c.le hl⟩
def LtlsS (xs : List Ltl) : Sp := fun u h => ∃ s : Sl Ltl, u = s.val ∧ s.xs.map Ltl.er = xs ∧ Ltls s h ∧ s.at_ = some ⟨s.blk, s.off, none⟩
theorem LtlsS.mono {xs : List Ltl} : MonoS (LtlsS xs) := fun _ _ _ hl ⟨s, a, b, c, d⟩ => ⟨s, a, b, c.le hl, d⟩
def LtlsF (xs : List Ltl) : Sp := fun u h => ∃ s : Sl Ltl, u = s.val ∧ s.xs.map Ltl.er = xs ∧ Ltls s h ∧ s.at_ = some ⟨s.blk, s.off, none⟩ ∧ s.cap = s.xs.length
theorem LtlsF.mono {xs : List Ltl} : MonoS (LtlsF xs) := fun _ _ _ hl ⟨s, a, b, c, d⟩ => ⟨s, a, b, c.le hl, d⟩
theorem RoadsAt.nm {p : Prg} {h : Heap} (x : RoadsAt p h) : p.Nm := by
  unfold Prg.Nm
  rw [x.preds]
  decide
theorem RoadsAt.check {p : Prg} {h : Heap} (x : RoadsAt p h) : checkProg p = 0 := by rw [← checkProg_er, x.er, roads_check]
theorem RoadsAt.uses {p : Prg} {h : Heap} (x : RoadsAt p h) : (usesL p.rules.xs).map cEr = usesL roadsC.rules.xs := by
  rw [← usesL_er]
  have := congrArg (fun q : Prg => q.rules.xs) x.er
  exact congrArg usesL this
theorem RoadsAt.len {p : Prg} {h : Heap} (x : RoadsAt p h) : p.preds.xs.length = 3 := by rw [x.preds]; rfl
end Go.TF
end
section
/- The laws of programs: each returns true. -/
namespace Go.TF
open Go Go.RowKit Go.Proofs
set_option maxRecDepth 20000

theorem PrgOk.nm {p : Prg} {h : Heap} (x : PrgOk p h) : p.Nm := fun y hy => by
  have := (x.preds.each y hy).name
  have h2 : reachBytes ≤ 140737488355328 := by decide
  omega
end Go.TF
end
section
/- The other two laws of programs: each returns true. -/
namespace Go.TF
open Go Go.RowKit Go.Proofs
set_option maxRecDepth 20000

def Asked (L : List Int) (k : Int) (cs : List (Int × Ltl)) : Prop := lv L k = 0 ∨ ∃ c ∈ cs, c.1 = k ∧ lv L k = lst L c
theorem Least.asked {cs : List (Int × Ltl)} {n : Nat} {L : List Int} (hr : InR cs n) (h : Least cs n L) {k : Int} (k0 : 0 ≤ k) (k1 : k < n) : Asked L k cs := by
  refine Classical.byContradiction fun hno => ?_
  unfold Asked at hno
  have hz : lv L k ≠ 0 := fun e => hno (.inl e)
  have hc : ∀ c ∈ cs, c.1 = k → lv L k ≠ lst L c := fun c hc e e2 => hno (.inr ⟨c, hc, e, e2⟩)
  have hp := h.sol.pos k
  have hkl : k < L.length := by rw [h.sol.len]; exact k1
  have hle : ∀ i : Int, 0 ≤ i → lv (L.set k.toNat (lv L k - 1)) i ≤ lv L i := fun i h0 => by
    rw [lv_set k0 hkl _ _ h0]; split
    · rename_i e; subst e; omega
    · omega
  have hM : Sol cs n (L.set k.toNat (lv L k - 1)) := by
    refine ⟨by simp [h.sol.len], fun i => ?_, fun c hcm => ?_⟩
    · have key : ∀ i : Int, 0 ≤ i → 0 ≤ lv (L.set k.toNat (lv L k - 1)) i := fun i h0 => by
        rw [lv_set k0 hkl _ _ h0]; split
        · omega
        · exact h.sol.pos i
      by_cases h0 : 0 ≤ i
      · exact key i h0
      · rw [lv_neg _ (by omega)]; exact key 0 (Int.le_refl 0)
    · have hh := hr.h c hcm
      have hb := hr.b c hcm
      have hs := h.sol.sat c hcm
      have h2 := hle _ hb.1
      unfold SatC lst at hs ⊢
      rw [lv_set k0 hkl _ c.1 hh.1]
      split
      · rename_i e
        have := hc c hcm e
        unfold lst at this
        rw [e] at hs; omega
      · omega
  have := h.least _ hM k
  rw [lv_set k0 hkl _ _ k0, if_pos rfl] at this
  omega
theorem Least.lt {cs : List (Int × Ltl)} {n : Nat} {L : List Int} (hr : InR cs n) (h : Least cs n L) {i : Int} (h0 : 0 ≤ i) (h1 : i < n) : lv L i < n := by
  obtain ⟨M', hM', hlt⟩ := h.sol.small hr
  exact Int.lt_of_le_of_lt (h.least M' hM' i) (hlt i h0 h1)
theorem Reach.trans {cs : List (Int × Ltl)} {a b c : Int} (h : Reach cs a b) (k : Reach cs b c) : Reach cs a c := by
  induction k with
  | refl => exact h
  | step _ hu ih => exact .step ih hu
end Go.TF
end
section
/- The roads' model; what must be in any case of the model. -/
namespace Go.TF
open Go Go.RowKit Go.Proofs
set_option maxRecDepth 20000

def rdM0 : List Fct := ((cloF (turnT roadsC [0, 0, 1] 0) 8 []).getD ([], 0)).1
def rdM : List Fct := ((cloF (turnT roadsC [0, 0, 1] 1) 8 rdM0).getD ([], 0)).1
section
variable {p : Prg} {h : Heap} (hp : RoadsAt p h)
include hp
theorem rd_ofQs (st : Int) (n : Nat) (hn : n < 7) : ofQ p [0, 0, 1] st n = ofQ roadsC [0, 0, 1] st n := by
  have h1 : (p.rules.xs.map Rul.er).getD n default = roadsC.rules.xs.getD n default := by rw [rd_rules hp]
  have h2 : n < p.rules.xs.length := by rw [rd_len hp]; exact hn
  rw [List.getD_eq_getElem?_getD, List.getElem?_map, List.getElem?_eq_getElem h2] at h1
  unfold ofQ
  rw [← h1, List.getD_eq_getElem?_getD, List.getElem?_eq_getElem h2]
  rfl
theorem rd_told (st : Int) (f : List Fct) : toldL p.preds.xs f p.rules.xs (ofQ p [0, 0, 1] st) = toldL roadsC.preds.xs f roadsC.rules.xs (ofQ roadsC [0, 0, 1] st) := by
  rw [rd_preds hp, ← rd_rules hp, toldL_er]
  exact toldK_congr fun n hn => rd_ofQs hp st n (by rw [rd_len hp] at hn; exact hn)
theorem rd_getR (n : Nat) : (p.rules.xs.getD n default).er = roadsC.rules.xs.getD n default := by
  rw [← rd_rules hp, List.getD_eq_getElem?_getD, List.getD_eq_getElem?_getD, List.getElem?_map]
  cases p.rules.xs[n]? <;> rfl
end
end Go.TF
end
section
/- The roads' model by what is new; what must be in any case; the same follows. -/
namespace Go.TF
open Go Go.RowKit Go.Proofs
set_option maxRecDepth 20000

def sclF (p : Prg) (M : List Int) (st : Int) : Nat → Bool → List Fct → List Fct → Option (List Fct × Nat)
  | 0, _, _, _ => none
  | k + 1, b, fr, f => if (freshF f (semiT p M st b fr f)).isEmpty = true then some (semiT p M st b fr f, (semiL p M st b fr f).length) else (sclF p M st k false (freshF f (semiT p M st b fr f)) (semiT p M st b fr f)).map fun r => (r.1, (semiL p M st b fr f).length + r.2)
theorem sclF_sclo {p : Prg} {M : List Int} {st : Int} : ∀ {k : Nat} {b : Bool} {fr f r : List Fct} {n : Nat}, sclF p M st k b fr f = some (r, n) → SClo p M st b fr f r n
  | 0, _, _, _, _, _, h => by cases h
  | k + 1, b, fr, f, r, n, h => by
    rw [sclF] at h
    split at h
    · rename_i h2
      injection h with h
      injection h with h3 h4
      exact .stop h3 h4 (by rw [h3] at h2; exact List.isEmpty_iff.1 h2)
    · rename_i h2
      cases hc : sclF p M st k false (freshF f (semiT p M st b fr f)) (semiT p M st b fr f) with
      | none => rw [hc] at h; cases h
      | some x =>
        rw [hc] at h
        simp only [Option.map_some, Option.some.injEq, Prod.mk.injEq] at h
        obtain ⟨rfl, rfl⟩ := h
        exact .step rfl rfl (fun e => h2 (by rw [e]; rfl)) (sclF_sclo hc)
def rdC0 : Nat := ((sclF roadsC [0, 0, 1] 0 8 true [] []).getD ([], 0)).2
def rdC1 : Nat := ((sclF roadsC [0, 0, 1] 1 8 true [] rdM0).getD ([], 0)).2
theorem rdS0 : sclF roadsC [0, 0, 1] 0 8 true [] [] = some (rdM0, rdC0) := by kernel_rfl
theorem rdS1 : sclF roadsC [0, 0, 1] 1 8 true [] rdM0 = some (rdM, rdC1) := by kernel_rfl
theorem rdC_sum : rdC0 + rdC1 = 21 := by kernel_rfl
section
variable {p : Prg} {h : Heap} (hp : RoadsAt p h)
include hp
theorem rd_newB (M : List Int) (st : Int) (fr : List Fct) (s : Stp) : newB p M st fr s = newB roadsC M st fr s := by
  unfold newB
  rw [← rd_getR hp]
  exact (any_er _ (fun x => rfl) _).symm
theorem rd_semL (st : Int) (b : Bool) (fr f : List Fct) : semiL p [0, 0, 1] st b fr f = semiL roadsC [0, 0, 1] st b fr f := by
  unfold semiL
  rw [rd_told hp]
  congr 1
  funext t
  unfold semiQ
  rw [rd_newB hp]
theorem rd_semT (st : Int) (b : Bool) (fr f : List Fct) : semiT p [0, 0, 1] st b fr f = semiT roadsC [0, 0, 1] st b fr f := by
  unfold semiT
  rw [rd_semL hp, rd_preds hp]
theorem rd_sclF (st : Int) : ∀ (k : Nat) (b : Bool) (fr f : List Fct), sclF p [0, 0, 1] st k b fr f = sclF roadsC [0, 0, 1] st k b fr f
  | 0, _, _, _ => rfl
  | k + 1, b, fr, f => by
    rw [sclF, sclF, rd_semT hp, rd_semL hp, rd_sclF st k]
theorem rd_sem : SemK p (strataM p) (numS (strataM p)) rdM 21 := by
  rw [rd_strata hp, show numS [0, 0, 1] = 2 by decide]
  refine ⟨rdM0, rdC0, rdC1, ⟨[], 0, rdC0, ⟨rfl, rfl⟩, ?_, (Nat.zero_add _).symm⟩, ?_, rdC_sum.symm⟩
  · exact sclF_sclo (by rw [← rdS0]; exact rd_sclF hp 0 8 true [] [])
  · exact sclF_sclo (by rw [← rdS1]; exact rd_sclF hp 1 8 true [] rdM0)
end
theorem rd_Semi (B : Base) (hB : B.ok) (p : Prg) (hp : RoadsAt p B.h) : Fn Try.prog 12 [p.val] B (fun v h => ∃ s : Sl Fct, v = .tuple #[s.val, .int .i64 21, .int .i64 0] ∧ s.xs = rdM ∧ Fcts s h) :=
  (SemiModel_ok B hB p hp.is hp.nm).mono fun v h' _ hv => by
    rcases hv with ⟨h1, _⟩ | ⟨_, s, c, rfl, hs, hm⟩
    · exact absurd hp.check h1
    · obtain ⟨e1, e2⟩ := (rd_sem hp).uniq hm
      exact ⟨s, by rw [e2]; rfl, e1, hs⟩
theorem semiBegun_ok (B : Base) (hB : B.ok) : Fn Try.prog 14 [] B (fun v _ => v = .bool true) := by
  refine Fn.of Try.func14 rfl Try.ntmps14 (by kernel_rfl) (by simp) ?_
  intro e
  have I := Inv.start hB
  refine WP.seq ?_
  refine WP.region ?_
  refine Ops.y (v := .bool _) (Y.assign rfl) ?_
  refine Ops.nil ?_
  refine WP.seq ?_
  refine WP.region ?_
  refine Ops.go (O.call I Try.call28 (roads_ok _ I.base_ok) rfl ?_)
  rintro _ h1 w I le1 ⟨p1, rfl, hp1⟩
  refine Ops.go (O.call I Try.call12 (rd_Semi _ I.base_ok p1 hp1) rfl ?_)
  rintro _ h2 w I le2 ⟨m, rfl, em, im⟩
  refine Ops.y (v := .tuple #[_, _, _]) (Y.move rfl) ?_
  refine Ops.y (v := .slice _ _ _) (Y.extract rfl rfl) ?_
  refine Ops.y (v := .int .i64 _) (Y.extract rfl rfl) ?_
  refine Ops.y (v := .int .i64 _) (Y.extract rfl rfl) ?_
  refine Ops.y (v := .slice _ _ _) (Y.assign rfl) ?_
  refine Ops.y (v := .int .i64 _) (Y.assign rfl) ?_
  refine Ops.y (v := .int .i64 _) (Y.assign rfl) ?_
  refine Ops.nil ?_
  have n1 : m.xs.length = 17 := by rw [em]; kernel_rfl
  refine WP.seq ?_
  refine WP.region ?_
  refine Ops.y (v := .int .i64 _) (Y.move rfl) ?_
  refine Ops.y (v := .bool true) (Y.dec_t (Y.eqi rfl rfl) (rfl)) ?_
  refine Ops.y (v := .bool _) (Y.move rfl) ?_
  refine Ops.ygt rfl (v := .slice _ _ _) (Y.move rfl) ?_
  refine Ops.ygt rfl (v := .int .i64 _) (Y.lens Try.underlying33 rfl) ?_
  refine Ops.ygt rfl (v := .bool true) (Y.dec_t (Y.eqi rfl rfl) ((by rw [n1]; rfl))) ?_
  refine Ops.y (v := .bool _) (Y.pick_t rfl rfl) ?_
  refine Ops.y (v := .bool _) (Y.move rfl) ?_
  refine Ops.ygt rfl (v := .int .i64 _) (Y.move rfl) ?_
  refine Ops.ygt rfl (v := .bool true) (Y.dec_t (Y.eqi rfl rfl) (rfl)) ?_
  refine Ops.y (v := .bool _) (Y.pick_t rfl rfl) ?_
  refine Ops.y (v := .bool _) (Y.assign rfl) ?_
  refine Ops.nil ?_
  refine WP.ret ?_
  repeat (first | refine thenE_ret ?_ | refine blockE_ret ?_)
  exact retQ.mk (vs := [.bool _]) rfl ⟨rfl, trivial⟩ I.ext_of (rfl)
theorem SemiSame_ok (B : Base) (hB : B.ok) (p : Prg) (hp : p.In B.h) (hnm : p.Nm) : Fn Try.prog 4 [p.val] B (fun v _ => v = .bool true) := by
  refine Fn.of Try.func4 rfl Try.ntmps4 (by kernel_rfl) (by simp) ?_
  intro e
  have I := Inv.start hB
  refine WP.seq ?_
  refine WP.region ?_
  refine Ops.go (O.box (v := .agg #[_, _]) I rfl rfl ?_)
  intro b1 w I
  refine Ops.y (v := .bool _) (Y.assign rfl) ?_
  refine Ops.nil ?_
  by_cases hpr : checkProg p = 0
  · refine WP.seq ?_
    refine WP.region ?_
    refine Ops.y (v := .agg #[_, _]) (Y.loadv ty_25 rfl (I.rdbox 0 rfl 0 2) rfl rfl) ?_
    refine Ops.go (O.call I Try.call12 (SemiModel_ok _ I.base_ok p hp hnm) rfl ?_)
    rintro v12 h1 w I le1 hv
    rcases hv with ⟨h, _⟩ | ⟨_, s, c, rfl, hs, hm⟩
    exact absurd hpr h
    refine Ops.y (v := .tuple #[_, _, _]) (Y.move rfl) ?_
    refine Ops.y (v := .slice _ _ _) (Y.extract rfl rfl) ?_
    refine Ops.y (v := .int .i64 _) (Y.extract rfl rfl) ?_
    refine Ops.y (v := .int .i64 _) (Y.extract rfl rfl) ?_
    refine Ops.y (v := .slice _ _ _) (Y.assign rfl) ?_
    refine Ops.y (v := .int .i64 _) (Y.assign rfl) ?_
    refine Ops.y (v := .int .i64 _) (Y.assign rfl) ?_
    refine Ops.nil ?_
    have hp := hp.le le1
    refine WP.seq ?_
    refine WP.region ?_
    refine Ops.y (v := .agg #[_, _]) (Y.loadv ty_25 rfl (I.rdbox 0 rfl 0 2) rfl rfl) ?_
    refine Ops.go (O.call I Try.call13 (Model_ok _ I.base_ok p hp hnm) rfl ?_)
    rintro v17 h2 w I le2 hv
    rcases hv with ⟨h, _⟩ | ⟨_, s2, rs, rfl, hs2, hm2⟩
    exact absurd hpr h
    refine Ops.y (v := .tuple #[_, _]) (Y.move rfl) ?_
    refine Ops.y (v := .slice _ _ _) (Y.extract rfl rfl) ?_
    refine Ops.y (v := .int .i64 _) (Y.extract rfl rfl) ?_
    refine Ops.y (v := .slice _ _ _) (Y.assign rfl) ?_
    refine Ops.y (v := .int .i64 _) (Y.assign rfl) ?_
    refine Ops.nil ?_
    obtain ⟨⟨rs', hm3⟩, hle⟩ := semK_modK (chk_rok hpr) (strataM_least hpr).sol (chk_nil hpr) hm
    refine WP.seq ?_
    refine WP.region ?_
    refine Ops.go (O.callv I Try.call14 (semiBegun_ok _ I.base_ok) rfl ?_)
    intro w I
    refine Ops.y (v := .bool _) (Y.move rfl) ?_
    refine Ops.ygt rfl (v := .int .i64 _) (Y.move rfl) ?_
    refine Ops.ygt rfl (v := .int .i64 _) (Y.move rfl) ?_
    refine Ops.ygt rfl (v := .bool true) (Y.dec_t (Y.eqi rfl rfl) (rfl)) ?_
    refine Ops.y (v := .bool _) (Y.pick_t rfl rfl) ?_
    refine Ops.y (v := .bool _) (Y.move rfl) ?_
    refine Ops.ygt rfl (v := .slice _ _ _) (Y.move rfl) ?_
    refine Ops.ygt rfl (v := .slice _ _ _) (Y.move rfl) ?_
    refine Ops.gt rfl (O.callv I Try.call15 (SameFacts_at _ I.base_ok s s2 (hs.le le2) hs2 (hm2.uniq hm3).1) rfl ?_)
    intro w I
    refine Ops.y (v := .bool _) (Y.pick_t rfl rfl) ?_
    refine Ops.y (v := .bool _) (Y.move rfl) ?_
    refine Ops.ygt rfl (v := .int .i64 _) (Y.move rfl) ?_
    refine Ops.ygt rfl (v := .slice _ _ _) (Y.move rfl) ?_
    refine Ops.ygt rfl (v := .int .i64 _) (Y.lens Try.underlying33 rfl) ?_
    refine Ops.ygt rfl (v := .bool true) (Y.dec_t (Y.gei rfl rfl) ((by omega))) ?_
    refine Ops.y (v := .bool _) (Y.pick_t rfl rfl) ?_
    refine Ops.y (v := .bool _) (Y.assign rfl) ?_
    refine Ops.nil ?_
    refine WP.ret ?_
    repeat (first | refine thenE_ret ?_ | refine blockE_ret ?_)
    exact retQ.mk (vs := [.bool _]) rfl ⟨rfl, trivial⟩ I.ext_of (rfl)
  · refine WP.seq ?_
    refine WP.region ?_
    refine Ops.y (v := .agg #[_, _]) (Y.loadv ty_25 rfl (I.rdbox 0 rfl 0 2) rfl rfl) ?_
    refine Ops.go (O.call I Try.call12 (SemiModel_ok _ I.base_ok p hp hnm) rfl ?_)
    rintro v12 h1 w I le1 hv
    rcases hv with ⟨_, rfl⟩ | ⟨h, _⟩
    rotate_left
    exact absurd h hpr
    refine Ops.y (v := .tuple #[_, _, _]) (Y.move rfl) ?_
    refine Ops.y (v := .slice _ _ _) (Y.extract rfl rfl) ?_
    refine Ops.y (v := .int .i64 _) (Y.extract rfl rfl) ?_
    refine Ops.y (v := .int .i64 _) (Y.extract rfl rfl) ?_
    refine Ops.y (v := .slice _ _ _) (Y.assign rfl) ?_
    refine Ops.y (v := .int .i64 _) (Y.assign rfl) ?_
    refine Ops.y (v := .int .i64 _) (Y.assign rfl) ?_
    refine Ops.nil ?_
    have hp := hp.le le1
    refine WP.seq ?_
    refine WP.region ?_
    refine Ops.y (v := .agg #[_, _]) (Y.loadv ty_25 rfl (I.rdbox 0 rfl 0 2) rfl rfl) ?_
    refine Ops.go (O.call I Try.call13 (Model_ok _ I.base_ok p hp hnm) rfl ?_)
    rintro v17 h2 w I le2 hv
    rcases hv with ⟨_, rfl⟩ | ⟨h, _⟩
    rotate_left
    exact absurd h hpr
    refine Ops.y (v := .tuple #[_, _]) (Y.move rfl) ?_
    refine Ops.y (v := .slice _ _ _) (Y.extract rfl rfl) ?_
    refine Ops.y (v := .int .i64 _) (Y.extract rfl rfl) ?_
    refine Ops.y (v := .slice _ _ _) (Y.assign rfl) ?_
    refine Ops.y (v := .int .i64 _) (Y.assign rfl) ?_
    refine Ops.nil ?_
    refine WP.seq ?_
    refine WP.region ?_
    refine Ops.go (O.callv I Try.call14 (semiBegun_ok _ I.base_ok) rfl ?_)
    intro w I
    refine Ops.y (v := .bool _) (Y.move rfl) ?_
    refine Ops.ygt rfl (v := .int .i64 _) (Y.move rfl) ?_
    refine Ops.ygt rfl (v := .int .i64 _) (Y.move rfl) ?_
    refine Ops.ygt rfl (v := .bool true) (Y.dec_t (Y.eqi rfl rfl) (rfl)) ?_
    refine Ops.y (v := .bool _) (Y.pick_t rfl rfl) ?_
    refine Ops.y (v := .bool _) (Y.move rfl) ?_
    refine Ops.ygt rfl (v := .slice _ _ _) (Y.move rfl) ?_
    refine Ops.ygt rfl (v := .slice _ _ _) (Y.move rfl) ?_
    refine Ops.gt rfl (O.callv I Try.call15 (SameFacts_at _ I.base_ok ⟨none, 0, []⟩ ⟨none, 0, []⟩ fnil fnil rfl) rfl ?_)
    intro w I
    refine Ops.y (v := .bool _) (Y.pick_t rfl rfl) ?_
    refine Ops.y (v := .bool _) (Y.move rfl) ?_
    refine Ops.ygt rfl (v := .int .i64 _) (Y.move rfl) ?_
    refine Ops.ygt rfl (v := .slice _ _ _) (Y.move rfl) ?_
    refine Ops.ygt rfl (v := .int .i64 _) (Y.lens Try.underlying33 rfl) ?_
    refine Ops.ygt rfl (v := .bool true) (Y.dec_t (Y.gei rfl rfl) ((by decide))) ?_
    refine Ops.y (v := .bool _) (Y.pick_t rfl rfl) ?_
    refine Ops.y (v := .bool _) (Y.assign rfl) ?_
    refine Ops.nil ?_
    refine WP.ret ?_
    repeat (first | refine thenE_ret ?_ | refine blockE_ret ?_)
    exact retQ.mk (vs := [.bool _]) rfl ⟨rfl, trivial⟩ I.ext_of (rfl)
end Go.TF
end
