/- Texts SlDel Base20 Base21 Prog9 Ask2 RoadsM Prog10 ProgLaw ProgLaw2 Nai2 Ask3. -/
import Derived.Test.YtgblgeddpegplaaGreatU9
import Derived.Test.YtgblgeddpegplaaGreatU8
import Derived.Test.YtgblgeddpegplaaGreatU4
import Derived.Test.YtgblgeddpegplaaGreatU7
section
/- slices.DeleteFunc at this program's types, of a slice of the call's own. -/
namespace Go.TF
open Go Go.RowKit Go.Proofs
set_option maxRecDepth 20000

theorem Fct_len (x : Fct) : x.enc.length = 4 := rfl
set_option maxHeartbeats 8000000 in
theorem DeleteFct_ok {B : Base} {h : Heap} {M : List SA} {w : World} {a : Option Addr} {c m : Nat} {xs : List Fct} (I : Inv B h (ownSl 52 4 (.slice a m c) m (xs.flatMap Fct.enc) :: M) w) (hm : m = xs.length) (hsz : m ≤ 1000000000)
    (f : FuncId) (ent : Enters Tryz.prog f) (fs cs : List Value) (p : Fct → Bool) (hp : PredFn Tryz.prog f fs cs h Fct.val xs p) :
    Calls Tryz.prog 68 [.slice a m c, .func (.func f) fs.toArray cs.toArray].toArray w
      (fun ed w' => ∃ v m', ed = .returned v ∧ m' = (keepL p xs).length ∧ Inv B h (ownSl 52 4 v m' ((keepL p xs).flatMap Fct.enc) :: M) w') := by
  obtain ⟨hv, s, hle, hsv, hsx, hin, Iv⟩ := I.settleSl Fct_len hm
  have hi := IndexFuncFct_ok ⟨w, hv⟩ Iv.base_ok s ⟨hin, by rw [hsx]; omega⟩ f ent fs cs p (by rw [hsx]; exact fun B' ok hl x hx => hp B' ok (hle.trans hl) x hx)
  rw [hsv, hsx] at hi
  rcases idxOf_cases p xs with ⟨hx, hno⟩ | ⟨k0, hk0, hx, hpk, hkt⟩
  · rw [hx] at hi
    refine Calls.ofWP (args := [.slice a m c, .func (.func f) fs.toArray cs.toArray]) Tryz.func68 rfl Tryz.ntmps68 (by kernel_rfl) (by simp) ?_
    intro e
    refine WP.seq ?_
    refine WP.region ?_
    refine Ops.y (v := .slice _ _ _) (Y.assign rfl) ?_
    refine Ops.nil ?_
    refine WP.seq ?_
    refine WP.region ?_
    refine Ops.y (v := .slice _ _ _) (Y.move rfl) ?_
    refine Ops.y (v := .func _ _ _) (Y.move rfl) ?_
    refine Ops.go (O.callvH I Tryz.call138 (hi) rfl ?_)
    intro w I
    refine Ops.y (v := .int .i64 _) (Y.assign rfl) ?_
    refine Ops.nil ?_
    refine WP.seq ?_
    refine WP.seq ?_
    refine WP.region ?_
    refine Ops.y (v := .int .i64 _) (Y.move rfl) ?_
    refine Ops.y (v := .bool (decide _)) (Y.eqi rfl rfl) ?_
    refine Ops.nil ?_
    refine WP.cond_decT rfl (rfl) ?_
    refine WP.seq ?_
    refine WP.region ?_
    refine Ops.y (v := .slice _ _ _) (Y.move rfl) ?_
    refine Ops.y (v := .slice _ _ _) (Y.assign rfl) ?_
    refine Ops.nil ?_
    refine WP.ret ?_
    repeat (first | refine thenE_ret ?_ | refine blockE_ret ?_)
    exact ⟨.inl rfl, [.slice a m c], ⟨rfl, trivial⟩, _, m, rfl, by rw [keepL_all hno]; exact hm, by rw [keepL_all hno]; exact I⟩
  rw [hx] at hi
  rcases (I.at 0 rfl).2 with ⟨h0, hn⟩ | ⟨gg, cap, cur, he, _, hg, hnc, hcm, _⟩
  · injection h0 with e1 e2 e3; omega
  injection he with e1 e2 e3
  subst e1; subst e3
  simp only [maxLen] at hcm
  refine Calls.ofWP (args := [.slice (some ⟨gg, 0, none⟩) m c, .func (.func f) fs.toArray cs.toArray]) Tryz.func68 rfl Tryz.ntmps68 (by kernel_rfl) (by simp) ?_
  intro e
  refine WP.seq ?_
  refine WP.region ?_
  refine Ops.y (v := .slice _ _ _) (Y.assign rfl) ?_
  refine Ops.nil ?_
  refine WP.seq ?_
  refine WP.region ?_
  refine Ops.y (v := .slice _ _ _) (Y.move rfl) ?_
  refine Ops.y (v := .func _ _ _) (Y.move rfl) ?_
  refine Ops.go (O.callvH I Tryz.call138 (hi) rfl ?_)
  intro w I
  refine Ops.y (v := .int .i64 _) (Y.assign rfl) ?_
  refine Ops.nil ?_
  refine WP.seq ?_
  refine WP.seq ?_
  refine WP.region ?_
  refine Ops.y (v := .int .i64 _) (Y.move rfl) ?_
  refine Ops.y (v := .bool (decide _)) (Y.eqi rfl rfl) ?_
  refine Ops.nil ?_
  refine WP.cond_decF rfl ((by omega)) ?_
  refine WP.skip ?_
  refine WP.seq ?_
  refine WP.seq ?_
  refine WP.region ?_
  refine Ops.y (v := .int .i64 _) (Y.move rfl) ?_
  refine Ops.y (v := .int .i64 _) (Y.addi rfl rfl ⟨by omega, by omega⟩) ?_
  refine Ops.y (v := .int .i64 _) (Y.assign rfl) ?_
  refine Ops.nil ?_
  refine WP.cutK (σ := Nat) (fun q => [(0, .slice (some ⟨gg, 0, none⟩) m c), (5, .int .i64 q)]) (fun q w => ∃ zs : List Fct, Inv B h (ownSl 52 4 (.slice (some ⟨gg, 0, none⟩) m c) m (zs.flatMap Fct.enc) :: M) w ∧ zs.take q = keepL p xs ∧ q = (keepL p xs).length ∧ q < m) ?_ ?_
  · refine WP.block ?_
    refine WP.loopE (σ := Nat × Nat × List Fct) (fun s => [(0, .slice (some ⟨gg, 0, none⟩) m c), (1, .func (.func f) fs.toArray cs.toArray), (5, .int .i64 s.2.1), (6, .int .i64 s.1)])
      (fun s w => Inv B h (ownSl 52 4 (.slice (some ⟨gg, 0, none⟩) m c) m (s.2.2.flatMap Fct.enc) :: M) w ∧ s.1 ≤ m ∧ s.2.2.length = m ∧ s.2.1 < s.1 ∧ s.2.2.take s.2.1 = keepL p (xs.take s.1) ∧ s.2.1 = (keepL p (xs.take s.1)).length ∧ (∀ j, s.1 ≤ j → s.2.2[j]? = xs[j]?)) (fun s => m - s.1)
      ⟨(k0 + 1, k0, xs), ⟨rfl, rfl, rfl, rfl, trivial⟩, I, by dsimp only; omega, hm.symm, Nat.lt_succ_self _, by dsimp only; rw [keepL_take hk0, if_pos hpk, List.append_nil, hkt], by dsimp only; rw [keepL_take hk0, if_pos hpk, List.append_nil, hkt, List.length_take]; omega, fun _ _ => rfl⟩ ?_
    rintro ⟨j, q, zs⟩ e w ⟨I, h2, hzl, hq1, hq2, hq3, hz⟩
    dsimp only at I h2 hzl hq1 hq2 hq3 hz ⊢
    refine WP.seq ?_
    refine WP.seq ?_
    refine WP.region ?_
    refine Ops.y (v := .int .i64 _) (Y.move rfl) ?_
    refine Ops.y (v := .slice _ _ _) (Y.move rfl) ?_
    refine Ops.y (v := .int .i64 _) (Y.lens Tryz.underlying26 rfl) ?_
    refine Ops.y (v := .bool (decide _)) (Y.lti rfl rfl) ?_
    refine Ops.nil ?_
    refine WP.cond_dec rfl (fun h5 => ?_) (fun h5 => ?_)
    · have hj : j < xs.length := by omega
      have f1 : zs[j]? = some xs[j] := by rw [hz _ (Nat.le_refl _)]; exact List.getElem?_eq_getElem hj
      have hkt := keepL_take (p := p) hj
      refine WP.skip ?_
      refine WP.seq ?_
      refine WP.block ?_
      refine WP.seq ?_
      refine WP.region ?_
      refine Ops.y (v := .slice _ _ _) (Y.move rfl) ?_
      refine Ops.y (v := .int .i64 _) (Y.move rfl) ?_
      refine Ops.y (v := .pointer (some ⟨_, _, none⟩)) (Y.idx Tryz.underlying26 Tryz.sizeOf52 rfl rfl (by omega) (by omega)) ?_
      refine Ops.y (v := .agg #[_, _, _, _]) (Y.loadv ty_52 rfl (I.rdG Fct_len 0 rfl f1 (by omega)) rfl rfl) ?_
      refine Ops.go (O.alloc I Tryz.zeroValue52 rfl ?_)
      intro b7 w I
      refine Ops.go (O.store (v := xs[j].val) I ty_52 0 rfl rfl rfl rfl rfl rfl (Nat.le_of_ble_eq_true rfl) rfl ?_)
      intro w I
      refine Ops.nil ?_
      refine WP.seq ?_
      refine WP.region ?_
      refine Ops.y (v := .func _ _ _) (Y.move rfl) ?_
      refine Ops.y (v := .agg #[_, _, _, _]) (Y.loadv ty_52 rfl (I.rdbox 0 rfl 0 4) rfl rfl) ?_
      refine Ops.go (O.callcv I ent rfl (hp ⟨w, h⟩ I.base_ok (Heap.le.refl _) xs[j] (List.getElem_mem hj)) rfl ?_)
      intro w I
      refine Ops.y (v := .bool _) (Y.not rfl) ?_
      refine Ops.nil ?_
      refine WP.cond rfl (fun h8 => ?_) (fun h8 => ?_)
      · have h8 : p xs[j] = false := by simpa using h8
        rw [h8] at hkt
        refine WP.seq ?_
        refine WP.region ?_
        refine Ops.y (v := .slice _ _ _) (Y.move rfl) ?_
        refine Ops.y (v := .int .i64 _) (Y.move rfl) ?_
        refine Ops.y (v := .agg #[_, _, _, _]) (Y.loadv ty_52 rfl (I.rdbox 0 rfl 0 4) rfl rfl) ?_
        refine Ops.y (v := .pointer (some ⟨_, _, none⟩)) (Y.idx Tryz.underlying26 Tryz.sizeOf52 rfl rfl (by omega) (by omega)) ?_
        refine Ops.go (O.storeE (vs := xs[j].enc) I ty_52 et_52 1 rfl rfl rfl rfl rfl rfl (by rw [flat_len Fct_len, Fct_len]; omega) ?_)
        intro w I
        refine Ops.nil ?_
        have I : Inv B h (ownSl 52 4 (.slice (some ⟨gg, 0, none⟩) m c) m ((zs.set q xs[j]).flatMap Fct.enc) :: M) w := by
          rw [← flat_overG Fct_len _ _ _ (by omega)]
          have J := I.drop
          simp only [Int.toNat_natCast, Nat.zero_add] at J
          exact J
        refine WP.region ?_
        refine Ops.y (v := .int .i64 _) (Y.move rfl) ?_
        refine Ops.y (v := .int .i64 _) (Y.addi rfl rfl ⟨by omega, by omega⟩) ?_
        refine Ops.y (v := .int .i64 _) (Y.assign rfl) ?_
        refine Ops.nil ?_
        refine WP.region ?_
        refine Ops.y (v := .int .i64 _) (Y.move rfl) ?_
        refine Ops.y (v := .int .i64 _) (Y.addi rfl rfl ⟨by omega, by omega⟩) ?_
        refine Ops.y (v := .int .i64 _) (Y.assign rfl) ?_
        refine Ops.nil ?_
        refine ⟨(j + 1, q + 1, zs.set q xs[j]), ⟨⟨rfl, rfl, rfl, rfl, trivial⟩, I, by dsimp only; omega, by simpa using hzl, by dsimp only; omega, ?_, ?_, fun i hi => ?_⟩, by dsimp only; omega⟩
        · dsimp only
          rw [hkt, ← hq2, List.take_succ_eq_append_getElem (by simp; omega), take_setG]
          simp
        · dsimp only
          rw [hkt, List.length_append, ← hq3]; rfl
        · dsimp only at hi ⊢
          rw [List.getElem?_set_ne (by omega)]
          exact hz i (by omega)
      · have h8 : p xs[j] = true := by simpa using h8
        rw [h8, if_pos rfl, List.append_nil] at hkt
        refine WP.skip ?_
        refine WP.region ?_
        refine Ops.y (v := .int .i64 _) (Y.move rfl) ?_
        refine Ops.y (v := .int .i64 _) (Y.addi rfl rfl ⟨by omega, by omega⟩) ?_
        refine Ops.y (v := .int .i64 _) (Y.assign rfl) ?_
        refine Ops.nil ?_
        exact ⟨(j + 1, q, zs), ⟨⟨rfl, rfl, rfl, rfl, trivial⟩, I.drop, by dsimp only; omega, hzl, by dsimp only; omega, by dsimp only; rw [hkt]; exact hq2, by dsimp only; rw [hkt]; exact hq3, fun i hi => hz i (by dsimp only at hi; omega)⟩, by dsimp only; omega⟩
    · have hjm : j = xs.length := by omega
      rw [hjm, List.take_length] at hq2 hq3
      refine WP.exit ?_
      exact ⟨q, ⟨rfl, rfl, trivial⟩, zs, I, hq2, hq3, by omega⟩
  rintro q e w ⟨zs, I, hq2, hq3, hq4⟩
  have I := I.cutSl (m := q) (by omega)
  rw [flat_take Fct_len, hq2] at I
  refine WP.seq ?_
  refine WP.region ?_
  refine Ops.y (v := .slice _ _ _) (Y.move rfl) ?_
  refine Ops.y (v := .int .i64 _) (Y.move rfl) ?_
  refine Ops.y (v := .slice _ _ _) (Y.cutO (l := q) (h' := m) Tryz.underlying26 Tryz.sizeOf52 rfl (.inr ⟨_, _, rfl, rfl⟩) (.inl ⟨rfl, rfl⟩) (by omega) (by omega) (by omega)) ?_
  refine Ops.go (O.clearS I Tryz.underlying26 et_52 (by simp [Value.cells, Value.oneCell']) rfl (by omega) rfl (by omega) ?_)
  intro w I
  refine Ops.nil ?_
  refine WP.seq ?_
  refine WP.region ?_
  refine Ops.y (v := .slice _ _ _) (Y.move rfl) ?_
  refine Ops.y (v := .int .i64 _) (Y.move rfl) ?_
  refine Ops.y (v := .slice _ _ _) (Y.cutO (l := 0) (h' := q) Tryz.underlying26 Tryz.sizeOf52 rfl (.inl ⟨rfl, rfl⟩) (.inr ⟨_, _, rfl, rfl⟩) (by omega) (by omega) (by omega)) ?_
  refine Ops.y (v := .slice _ _ _) (Y.assign rfl) ?_
  refine Ops.nil ?_
  refine WP.ret ?_
  repeat (first | refine thenE_ret ?_ | refine blockE_ret ?_)
  exact ⟨.inl rfl, [.slice (some ⟨gg, 0, none⟩) q c], ⟨rfl, trivial⟩, _, q, rfl, hq3, I⟩
theorem DeleteFct_v {B : Base} {h : Heap} {M : List SA} {w : World} {v : Value} {m : Nat} {xs : List Fct} (I : Inv B h (ownSl 52 4 v m (xs.flatMap Fct.enc) :: M) w) (hm : m = xs.length) (hsz : m ≤ 1000000000)
    (f : FuncId) (ent : Enters Tryz.prog f) (fs cs : List Value) (p : Fct → Bool) (hp : PredFn Tryz.prog f fs cs h Fct.val xs p) :
    Calls Tryz.prog 68 [v, .func (.func f) fs.toArray cs.toArray].toArray w
      (fun ed w' => ∃ v m', ed = .returned v ∧ m' = (keepL p xs).length ∧ Inv B h (ownSl 52 4 v m' ((keepL p xs).flatMap Fct.enc) :: M) w') := by
  obtain ⟨_, s, _, rfl, hsx, _, _⟩ := I.settleSl Fct_len hm
  obtain rfl : m = s.xs.length := by rw [hsx]; exact hm
  exact DeleteFct_ok I hm hsz f ent fs cs p hp
theorem Rul_len (x : Rul) : x.enc.length = 5 := rfl
set_option maxHeartbeats 8000000 in
theorem DeleteRul_ok {B : Base} {h : Heap} {M : List SA} {w : World} {a : Option Addr} {c m : Nat} {xs : List Rul} (I : Inv B h (ownSl 68 5 (.slice a m c) m (xs.flatMap Rul.enc) :: M) w) (hm : m = xs.length) (hsz : m ≤ 1000000000)
    (f : FuncId) (ent : Enters Tryz.prog f) (fs cs : List Value) (p : Rul → Bool) (hp : PredFn Tryz.prog f fs cs h Rul.val xs p) :
    Calls Tryz.prog 117 [.slice a m c, .func (.func f) fs.toArray cs.toArray].toArray w
      (fun ed w' => ∃ v m', ed = .returned v ∧ m' = (keepL p xs).length ∧ Inv B h (ownSl 68 5 v m' ((keepL p xs).flatMap Rul.enc) :: M) w') := by
  obtain ⟨hv, s, hle, hsv, hsx, hin, Iv⟩ := I.settleSl Rul_len hm
  have hi := IndexFuncRul_ok ⟨w, hv⟩ Iv.base_ok s ⟨hin, by rw [hsx]; omega⟩ f ent fs cs p (by rw [hsx]; exact fun B' ok hl x hx => hp B' ok (hle.trans hl) x hx)
  rw [hsv, hsx] at hi
  rcases idxOf_cases p xs with ⟨hx, hno⟩ | ⟨k0, hk0, hx, hpk, hkt⟩
  · rw [hx] at hi
    refine Calls.ofWP (args := [.slice a m c, .func (.func f) fs.toArray cs.toArray]) Tryz.func117 rfl Tryz.ntmps117 (by kernel_rfl) (by simp) ?_
    intro e
    refine WP.seq ?_
    refine WP.region ?_
    refine Ops.y (v := .slice _ _ _) (Y.assign rfl) ?_
    refine Ops.nil ?_
    refine WP.seq ?_
    refine WP.region ?_
    refine Ops.y (v := .slice _ _ _) (Y.move rfl) ?_
    refine Ops.y (v := .func _ _ _) (Y.move rfl) ?_
    refine Ops.go (O.callvH I Tryz.call162 (hi) rfl ?_)
    intro w I
    refine Ops.y (v := .int .i64 _) (Y.assign rfl) ?_
    refine Ops.nil ?_
    refine WP.seq ?_
    refine WP.seq ?_
    refine WP.region ?_
    refine Ops.y (v := .int .i64 _) (Y.move rfl) ?_
    refine Ops.y (v := .bool (decide _)) (Y.eqi rfl rfl) ?_
    refine Ops.nil ?_
    refine WP.cond_decT rfl (rfl) ?_
    refine WP.seq ?_
    refine WP.region ?_
    refine Ops.y (v := .slice _ _ _) (Y.move rfl) ?_
    refine Ops.y (v := .slice _ _ _) (Y.assign rfl) ?_
    refine Ops.nil ?_
    refine WP.ret ?_
    repeat (first | refine thenE_ret ?_ | refine blockE_ret ?_)
    exact ⟨.inl rfl, [.slice a m c], ⟨rfl, trivial⟩, _, m, rfl, by rw [keepL_all hno]; exact hm, by rw [keepL_all hno]; exact I⟩
  rw [hx] at hi
  rcases (I.at 0 rfl).2 with ⟨h0, hn⟩ | ⟨gg, cap, cur, he, _, hg, hnc, hcm, _⟩
  · injection h0 with e1 e2 e3; omega
  injection he with e1 e2 e3
  subst e1; subst e3
  simp only [maxLen] at hcm
  refine Calls.ofWP (args := [.slice (some ⟨gg, 0, none⟩) m c, .func (.func f) fs.toArray cs.toArray]) Tryz.func117 rfl Tryz.ntmps117 (by kernel_rfl) (by simp) ?_
  intro e
  refine WP.seq ?_
  refine WP.region ?_
  refine Ops.y (v := .slice _ _ _) (Y.assign rfl) ?_
  refine Ops.nil ?_
  refine WP.seq ?_
  refine WP.region ?_
  refine Ops.y (v := .slice _ _ _) (Y.move rfl) ?_
  refine Ops.y (v := .func _ _ _) (Y.move rfl) ?_
  refine Ops.go (O.callvH I Tryz.call162 (hi) rfl ?_)
  intro w I
  refine Ops.y (v := .int .i64 _) (Y.assign rfl) ?_
  refine Ops.nil ?_
  refine WP.seq ?_
  refine WP.seq ?_
  refine WP.region ?_
  refine Ops.y (v := .int .i64 _) (Y.move rfl) ?_
  refine Ops.y (v := .bool (decide _)) (Y.eqi rfl rfl) ?_
  refine Ops.nil ?_
  refine WP.cond_decF rfl ((by omega)) ?_
  refine WP.skip ?_
  refine WP.seq ?_
  refine WP.seq ?_
  refine WP.region ?_
  refine Ops.y (v := .int .i64 _) (Y.move rfl) ?_
  refine Ops.y (v := .int .i64 _) (Y.addi rfl rfl ⟨by omega, by omega⟩) ?_
  refine Ops.y (v := .int .i64 _) (Y.assign rfl) ?_
  refine Ops.nil ?_
  refine WP.cutK (σ := Nat) (fun q => [(0, .slice (some ⟨gg, 0, none⟩) m c), (5, .int .i64 q)]) (fun q w => ∃ zs : List Rul, Inv B h (ownSl 68 5 (.slice (some ⟨gg, 0, none⟩) m c) m (zs.flatMap Rul.enc) :: M) w ∧ zs.take q = keepL p xs ∧ q = (keepL p xs).length ∧ q < m) ?_ ?_
  · refine WP.block ?_
    refine WP.loopE (σ := Nat × Nat × List Rul) (fun s => [(0, .slice (some ⟨gg, 0, none⟩) m c), (1, .func (.func f) fs.toArray cs.toArray), (5, .int .i64 s.2.1), (6, .int .i64 s.1)])
      (fun s w => Inv B h (ownSl 68 5 (.slice (some ⟨gg, 0, none⟩) m c) m (s.2.2.flatMap Rul.enc) :: M) w ∧ s.1 ≤ m ∧ s.2.2.length = m ∧ s.2.1 < s.1 ∧ s.2.2.take s.2.1 = keepL p (xs.take s.1) ∧ s.2.1 = (keepL p (xs.take s.1)).length ∧ (∀ j, s.1 ≤ j → s.2.2[j]? = xs[j]?)) (fun s => m - s.1)
      ⟨(k0 + 1, k0, xs), ⟨rfl, rfl, rfl, rfl, trivial⟩, I, by dsimp only; omega, hm.symm, Nat.lt_succ_self _, by dsimp only; rw [keepL_take hk0, if_pos hpk, List.append_nil, hkt], by dsimp only; rw [keepL_take hk0, if_pos hpk, List.append_nil, hkt, List.length_take]; omega, fun _ _ => rfl⟩ ?_
    rintro ⟨j, q, zs⟩ e w ⟨I, h2, hzl, hq1, hq2, hq3, hz⟩
    dsimp only at I h2 hzl hq1 hq2 hq3 hz ⊢
    refine WP.seq ?_
    refine WP.seq ?_
    refine WP.region ?_
    refine Ops.y (v := .int .i64 _) (Y.move rfl) ?_
    refine Ops.y (v := .slice _ _ _) (Y.move rfl) ?_
    refine Ops.y (v := .int .i64 _) (Y.lens Tryz.underlying23 rfl) ?_
    refine Ops.y (v := .bool (decide _)) (Y.lti rfl rfl) ?_
    refine Ops.nil ?_
    refine WP.cond_dec rfl (fun h5 => ?_) (fun h5 => ?_)
    · have hj : j < xs.length := by omega
      have f1 : zs[j]? = some xs[j] := by rw [hz _ (Nat.le_refl _)]; exact List.getElem?_eq_getElem hj
      have hkt := keepL_take (p := p) hj
      refine WP.skip ?_
      refine WP.seq ?_
      refine WP.block ?_
      refine WP.seq ?_
      refine WP.region ?_
      refine Ops.y (v := .slice _ _ _) (Y.move rfl) ?_
      refine Ops.y (v := .int .i64 _) (Y.move rfl) ?_
      refine Ops.y (v := .pointer (some ⟨_, _, none⟩)) (Y.idx Tryz.underlying23 Tryz.sizeOf68 rfl rfl (by omega) (by omega)) ?_
      refine Ops.y (v := .agg #[_, _, _, _, _]) (Y.loadv ty_68 rfl (I.rdG Rul_len 0 rfl f1 (by omega)) rfl rfl) ?_
      refine Ops.go (O.alloc I Tryz.zeroValue68 rfl ?_)
      intro b7 w I
      refine Ops.go (O.store (v := xs[j].val) I ty_68 0 rfl rfl rfl rfl rfl rfl (Nat.le_of_ble_eq_true rfl) rfl ?_)
      intro w I
      refine Ops.nil ?_
      refine WP.seq ?_
      refine WP.region ?_
      refine Ops.y (v := .func _ _ _) (Y.move rfl) ?_
      refine Ops.y (v := .agg #[_, _, _, _, _]) (Y.loadv ty_68 rfl (I.rdbox 0 rfl 0 5) rfl rfl) ?_
      refine Ops.go (O.callcv I ent rfl (hp ⟨w, h⟩ I.base_ok (Heap.le.refl _) xs[j] (List.getElem_mem hj)) rfl ?_)
      intro w I
      refine Ops.y (v := .bool _) (Y.not rfl) ?_
      refine Ops.nil ?_
      refine WP.cond rfl (fun h8 => ?_) (fun h8 => ?_)
      · have h8 : p xs[j] = false := by simpa using h8
        rw [h8] at hkt
        refine WP.seq ?_
        refine WP.region ?_
        refine Ops.y (v := .slice _ _ _) (Y.move rfl) ?_
        refine Ops.y (v := .int .i64 _) (Y.move rfl) ?_
        refine Ops.y (v := .agg #[_, _, _, _, _]) (Y.loadv ty_68 rfl (I.rdbox 0 rfl 0 5) rfl rfl) ?_
        refine Ops.y (v := .pointer (some ⟨_, _, none⟩)) (Y.idx Tryz.underlying23 Tryz.sizeOf68 rfl rfl (by omega) (by omega)) ?_
        refine Ops.go (O.storeE (vs := xs[j].enc) I ty_68 et_68 1 rfl rfl rfl rfl rfl rfl (by rw [flat_len Rul_len, Rul_len]; omega) ?_)
        intro w I
        refine Ops.nil ?_
        have I : Inv B h (ownSl 68 5 (.slice (some ⟨gg, 0, none⟩) m c) m ((zs.set q xs[j]).flatMap Rul.enc) :: M) w := by
          rw [← flat_overG Rul_len _ _ _ (by omega)]
          have J := I.drop
          simp only [Int.toNat_natCast, Nat.zero_add] at J
          exact J
        refine WP.region ?_
        refine Ops.y (v := .int .i64 _) (Y.move rfl) ?_
        refine Ops.y (v := .int .i64 _) (Y.addi rfl rfl ⟨by omega, by omega⟩) ?_
        refine Ops.y (v := .int .i64 _) (Y.assign rfl) ?_
        refine Ops.nil ?_
        refine WP.region ?_
        refine Ops.y (v := .int .i64 _) (Y.move rfl) ?_
        refine Ops.y (v := .int .i64 _) (Y.addi rfl rfl ⟨by omega, by omega⟩) ?_
        refine Ops.y (v := .int .i64 _) (Y.assign rfl) ?_
        refine Ops.nil ?_
        refine ⟨(j + 1, q + 1, zs.set q xs[j]), ⟨⟨rfl, rfl, rfl, rfl, trivial⟩, I, by dsimp only; omega, by simpa using hzl, by dsimp only; omega, ?_, ?_, fun i hi => ?_⟩, by dsimp only; omega⟩
        · dsimp only
          rw [hkt, ← hq2, List.take_succ_eq_append_getElem (by simp; omega), take_setG]
          simp
        · dsimp only
          rw [hkt, List.length_append, ← hq3]; rfl
        · dsimp only at hi ⊢
          rw [List.getElem?_set_ne (by omega)]
          exact hz i (by omega)
      · have h8 : p xs[j] = true := by simpa using h8
        rw [h8, if_pos rfl, List.append_nil] at hkt
        refine WP.skip ?_
        refine WP.region ?_
        refine Ops.y (v := .int .i64 _) (Y.move rfl) ?_
        refine Ops.y (v := .int .i64 _) (Y.addi rfl rfl ⟨by omega, by omega⟩) ?_
        refine Ops.y (v := .int .i64 _) (Y.assign rfl) ?_
        refine Ops.nil ?_
        exact ⟨(j + 1, q, zs), ⟨⟨rfl, rfl, rfl, rfl, trivial⟩, I.drop, by dsimp only; omega, hzl, by dsimp only; omega, by dsimp only; rw [hkt]; exact hq2, by dsimp only; rw [hkt]; exact hq3, fun i hi => hz i (by dsimp only at hi; omega)⟩, by dsimp only; omega⟩
    · have hjm : j = xs.length := by omega
      rw [hjm, List.take_length] at hq2 hq3
      refine WP.exit ?_
      exact ⟨q, ⟨rfl, rfl, trivial⟩, zs, I, hq2, hq3, by omega⟩
  rintro q e w ⟨zs, I, hq2, hq3, hq4⟩
  have I := I.cutSl (m := q) (by omega)
  rw [flat_take Rul_len, hq2] at I
  refine WP.seq ?_
  refine WP.region ?_
  refine Ops.y (v := .slice _ _ _) (Y.move rfl) ?_
  refine Ops.y (v := .int .i64 _) (Y.move rfl) ?_
  refine Ops.y (v := .slice _ _ _) (Y.cutO (l := q) (h' := m) Tryz.underlying23 Tryz.sizeOf68 rfl (.inr ⟨_, _, rfl, rfl⟩) (.inl ⟨rfl, rfl⟩) (by omega) (by omega) (by omega)) ?_
  refine Ops.go (O.clearS I Tryz.underlying23 et_68 (by simp [Value.cells, Value.oneCell']) rfl (by omega) rfl (by omega) ?_)
  intro w I
  refine Ops.nil ?_
  refine WP.seq ?_
  refine WP.region ?_
  refine Ops.y (v := .slice _ _ _) (Y.move rfl) ?_
  refine Ops.y (v := .int .i64 _) (Y.move rfl) ?_
  refine Ops.y (v := .slice _ _ _) (Y.cutO (l := 0) (h' := q) Tryz.underlying23 Tryz.sizeOf68 rfl (.inl ⟨rfl, rfl⟩) (.inr ⟨_, _, rfl, rfl⟩) (by omega) (by omega) (by omega)) ?_
  refine Ops.y (v := .slice _ _ _) (Y.assign rfl) ?_
  refine Ops.nil ?_
  refine WP.ret ?_
  repeat (first | refine thenE_ret ?_ | refine blockE_ret ?_)
  exact ⟨.inl rfl, [.slice (some ⟨gg, 0, none⟩) q c], ⟨rfl, trivial⟩, _, q, rfl, hq3, I⟩
theorem DeleteRul_v {B : Base} {h : Heap} {M : List SA} {w : World} {v : Value} {m : Nat} {xs : List Rul} (I : Inv B h (ownSl 68 5 v m (xs.flatMap Rul.enc) :: M) w) (hm : m = xs.length) (hsz : m ≤ 1000000000)
    (f : FuncId) (ent : Enters Tryz.prog f) (fs cs : List Value) (p : Rul → Bool) (hp : PredFn Tryz.prog f fs cs h Rul.val xs p) :
    Calls Tryz.prog 117 [v, .func (.func f) fs.toArray cs.toArray].toArray w
      (fun ed w' => ∃ v m', ed = .returned v ∧ m' = (keepL p xs).length ∧ Inv B h (ownSl 68 5 v m' ((keepL p xs).flatMap Rul.enc) :: M) w') := by
  obtain ⟨_, s, _, rfl, hsx, _, _⟩ := I.settleSl Rul_len hm
  obtain rfl : m = s.xs.length := by rw [hsx]; exact hm
  exact DeleteRul_ok I hm hsz f ent fs cs p hp
end Go.TF
end
section
/- A region in which a slice is made, and then turned into another, while what is loaded may be loaded ahead or behind. -/
namespace Go.TF
open Go Go.RowKit

structure DlS where
  h : Heap
  o2 : Option Value
  o4 : Option Value
def pcD (T k n m : Nat) (c2 c4 : List Value) (o2 o4 : Option Value) : List SA := match o4 with
  | some v => [ownSl T k v m c4]
  | none => match o2 with
    | some v => [ownSl T k v n c2]
    | none => []
structure JDl (B : Base) (M : List SA) (T k n m : Nat) (c2 c4 : List Value) (i2 i4 : Nat) (D : Nat → Bool) (s : DlS) (w : World) : Prop where
  h2 : s.o2.isSome = D i2
  h4 : s.o4.isSome = D i4
  ord : D i4 = true → D i2 = true
  inv : Inv B s.h (pcD T k n m c2 c4 s.o2 s.o4 ++ M) w
structure RDl (s s' : DlS) : Prop where
  h : s.h.le s'.h
  h2 : ∀ v, s.o2 = some v → s'.o2 = some v
  h4 : ∀ v, s.o4 = some v → s'.o4 = some v
theorem RDl.pre : Pre RDl := ⟨fun _ => ⟨Heap.le.refl _, fun _ h => h, fun _ h => h⟩, fun _ _ _ h k => ⟨h.h.trans k.h, fun b e => k.h2 b (h.h2 b e), fun b e => k.h4 b (h.h4 b e)⟩⟩
def AtD2 (u : Value) (s : DlS) : Prop := s.o2 = some u
def AtD4 (u : Value) (s : DlS) : Prop := s.o4 = some u
theorem AtD2.mono : MonoG RDl AtD2 := fun _ _ _ r h => r.h2 _ h
theorem AtD4.mono : MonoG RDl AtD4 := fun _ _ _ r h => r.h4 _ h
section
variable {P : Program} {o : Oper} {e : Env} {B : Base} {M : List SA} {T k n m : Nat} {c2 c4 : List Value} {i2 i4 i : Nat} {D : Nat → Bool} {s : DlS} {w : World}
theorem JDl.base (j : JDl B M T k n m c2 c4 i2 i4 D s w) : Inv B s.h M w := j.inv.weak (List.sublist_append_right _ _)
theorem JDl.set (h : i2 ≠ i ∧ i4 ≠ i) : ∀ D s w, JDl B M T k n m c2 c4 i2 i4 D s w → JDl B M T k n m c2 c4 i2 i4 (setD D i) s w := fun D s w j => by
  have e : ∀ x, x ≠ i → setD D i x = D x := fun x hx => by simp [setD, hx]
  exact ⟨by rw [e _ h.1]; exact j.h2, by rw [e _ h.2]; exact j.h4, by rw [e _ h.1, e _ h.2]; exact j.ord, j.inv⟩
theorem JDl.first (j : JDl B M T k n m c2 c4 i2 i4 D s w) (hD : D i2 = false) (h24 : i4 ≠ i2) (hop : Inv B s.h M w → Op1 P o e w fun u w' => ∃ h', s.h.le h' ∧ Inv B h' (ownSl T k u n c2 :: M) w') :
    Op1 P o e w fun u w' => ∃ s', RDl s s' ∧ JDl B M T k n m c2 c4 i2 i4 (setD D i2) s' w' ∧ AtD2 u s' := by
  have h2 : s.o2 = none := by have := j.h2; rw [hD] at this; cases h : s.o2 <;> simp_all
  have hD4 : D i4 = false := by
    cases h : D i4
    · rfl
    · rw [j.ord h] at hD; cases hD
  have h4 : s.o4 = none := by have := j.h4; rw [hD4] at this; cases h : s.o4 <;> simp_all
  refine (hop j.base).mono fun u w' ⟨h', hl, I⟩ => ⟨⟨h', some u, none⟩, ⟨hl, fun v hv => (by rw [h2] at hv; cases hv), fun v hv => (by rw [h4] at hv; cases hv)⟩, ⟨?_, ?_, fun hh => ?_, I⟩, rfl⟩
  · simp [setD]
  · rw [show setD D i2 i4 = D i4 by simp [setD, h24], hD4]; rfl
  · simp [setD]
end
theorem WPD.regionG {σ : Type} {P : Program} {N : Nat} {D : List Deferred} {e : Env} {w : World} {Q : Exit → Env → World → List Deferred → Prop} {id : Nat} {ops : Array Oper} {J : (Nat → Bool) → σ → World → Prop} {R : σ → σ → Prop} (hm : Mixed P) (hR : Pre R) (s0 : σ) (I : J (fun _ => false) s0 w.drew) (m : Nat) (hB : flowB ops m = true)
    (k : OpsG P ops J R s0 0 [] (ops.toList.take m) e (fun L e' => ∀ D' h1 w1, (∀ j, j < m → D' j = true) → R s0 h1 → J D' h1 w1 → AllG (fun _ => true) h1 L e' fun e'' => Ops P ops (ops.toList.drop m) e'' w1 (fun e3 w3 => Q .normal e3 w3 D))) : WPD P N D (.region id ops true) e w Q := WPD.of (WP.regionG hm hR s0 I m hB k)
end Go.TF
end
section
/- A region in which a literal is made and appended to what the call owns, while what is loaded may be loaded ahead or behind. -/
namespace Go.TF
open Go Go.RowKit

structure ApS where
  h : Heap
  o7 : Option (Nat × Nat)
def pcA (T k n m : Nat) (v : Value) (xs x : List Value) (o7 : Option (Nat × Nat)) : SA := match o7 with
  | none => ownSl T k v n xs
  | some y => ownSl T k (.slice (some ⟨y.1, 0, none⟩) (n + m) y.2) (n + m) (xs ++ x)
structure JAp (B : Base) (M : List SA) (T k n m : Nat) (v : Value) (xs x : List Value) (i7 : Nat) (D : Nat → Bool) (s : ApS) (w : World) : Prop where
  h7 : s.o7.isSome = D i7
  inv : Inv B s.h (pcA T k n m v xs x s.o7 :: M) w
structure RAp (s s' : ApS) : Prop where
  h : s.h.le s'.h
  h7 : ∀ y, s.o7 = some y → s'.o7 = some y
theorem RAp.pre : Pre RAp := ⟨fun _ => ⟨Heap.le.refl _, fun _ h => h⟩, fun _ _ _ h k => ⟨h.h.trans k.h, fun y e => k.h7 y (h.h7 y e)⟩⟩
def AtAp (N : Nat) (u : Value) (s : ApS) : Prop := ∃ g c, u = .slice (some ⟨g, 0, none⟩) N c ∧ s.o7 = some (g, c)
theorem AtAp.mono {N : Nat} : MonoG RAp (AtAp N) := fun _ _ _ r ⟨g, c, h1, h2⟩ => ⟨g, c, h1, r.h7 _ h2⟩
def KnA (Φ : Sp) (u : Value) (s : ApS) : Prop := Φ u s.h
theorem KnA.mono {Φ : Sp} (hm : MonoS Φ) : MonoG RAp (KnA Φ) := fun _ _ _ r h => hm _ _ _ r.h h
section
variable {P : Program} {o : Oper} {e : Env} {B : Base} {M : List SA} {T k n m : Nat} {v : Value} {xs x : List Value} {i7 i : Nat} {D : Nat → Bool} {s : ApS} {w : World}
theorem JAp.base (j : JAp B M T k n m v xs x i7 D s w) : Inv B s.h M w := j.inv.drop
theorem JAp.set (h : i7 ≠ i) : ∀ D s w, JAp B M T k n m v xs x i7 D s w → JAp B M T k n m v xs x i7 (setD D i) s w := fun D s w j => ⟨by rw [show setD D i i7 = D i7 by simp [setD, h]]; exact j.h7, j.inv⟩
/-- What makes known more, and turns nothing. -/
theorem JAp.know {Φ : Sp} (j : JAp B M T k n m v xs x i7 D s w) (h : i7 ≠ i) (hop : ∀ N, Inv B s.h N w → Op1 P o e w fun u w' => ∃ h', s.h.le h' ∧ Inv B h' N w' ∧ Φ u h') :
    Op1 P o e w fun u w' => ∃ s', RAp s s' ∧ JAp B M T k n m v xs x i7 (setD D i) s' w' ∧ KnA Φ u s' :=
  (hop _ j.inv).mono fun u w' ⟨h', hl, I, hu⟩ => ⟨⟨h', s.o7⟩, ⟨hl, fun _ e => e⟩, ⟨by rw [show setD D i i7 = D i7 by simp [setD, h]]; exact j.h7, I⟩, hu⟩
theorem JAp.app (j : JAp B M T k n m v xs x i7 D s w) (hD : D i7 = false) (hop : Inv B s.h (ownSl T k v n xs :: M) w → Op1 P o e w fun u w' => ∃ g c, u = .slice (some ⟨g, 0, none⟩) (n + m) c ∧ Inv B s.h (ownSl T k (.slice (some ⟨g, 0, none⟩) (n + m) c) (n + m) (xs ++ x) :: M) w') :
    Op1 P o e w fun u w' => ∃ s', RAp s s' ∧ JAp B M T k n m v xs x i7 (setD D i7) s' w' ∧ AtAp (n + m) u s' := by
  have h7 : s.o7 = none := by have := j.h7; rw [hD] at this; cases h : s.o7 <;> simp_all
  have I := j.inv
  rw [h7] at I
  exact (hop I).mono fun u w' ⟨g, c, e, I⟩ => ⟨⟨s.h, some (g, c)⟩, ⟨Heap.le.refl _, fun y e => (by rw [h7] at e; cases e)⟩, ⟨by simp [setD], I⟩, g, c, e, rfl⟩
end
end Go.TF
end
section
/- Needs: who is needed, by a queue. -/
namespace Go.TF
open Go Go.RowKit Go.Proofs
set_option maxRecDepth 20000

def NeeP (p : Prg) (pr : Int) (v : Value) (h : Heap) : Prop :=
  (checkProg p ≠ 0 ∧ v = .tuple #[.slice none 0 0, .int .i64 (checkProg p)]) ∨ (checkProg p = 0 ∧ (pr < 0 ∨ (p.preds.xs.length : Int) ≤ pr) ∧ v = .tuple #[.slice none 0 0, .int .i64 7]) ∨
  (checkProg p = 0 ∧ (0 ≤ pr ∧ pr < p.preds.xs.length) ∧ ∃ s : Sl Bool, NeedsR (usesL p.rules.xs) p.preds.xs.length pr s.xs ∧ s.Is 1 bEnc h ∧ v = .tuple #[s.val, .int .i64 0])
theorem usesL_len {rs : List Rul} {m : Nat} (h : ∀ r ∈ rs, r.body.xs.length ≤ m) : (usesL rs).length ≤ rs.length * m := by
  induction rs with
  | nil => simp [usesL]
  | cons r rs ih =>
    have h1 := ih fun x hx => h x (List.mem_cons_of_mem _ hx)
    have h2 := h r (List.mem_cons_self ..)
    unfold usesL at h1 ⊢
    simp only [List.flatMap_cons, List.length_append, List.length_map, List.length_cons, Nat.add_mul]; omega
/-- What x uses, among the first k uses. -/
def succs (cs : List (Int × Ltl)) (x : Int) (k : Nat) : List Int := ((cs.take k).filter fun c => decide (c.1 = x)).map fun c => c.2.atom.pred
theorem succs_at {cs : List (Int × Ltl)} {x : Int} {k : Nat} {c : Int × Ltl} (hc : cs[k]? = some c) : succs cs x (k + 1) = succs cs x k ++ if c.1 = x then [c.2.atom.pred] else [] := by
  obtain ⟨hk, rfl⟩ := List.getElem?_eq_some_iff.1 hc
  unfold succs
  rw [List.take_succ_eq_append_getElem hk, List.filter_append, List.map_append]
  congr 1
  by_cases e : cs[k].1 = x <;> simp [e]
theorem succs_len (cs : List (Int × Ltl)) (x : Int) (k : Nat) : (succs cs x k).length ≤ cs.length := by
  unfold succs
  rw [List.length_map]
  exact Nat.le_trans (List.length_filter_le ..) (by simp; omega)
theorem mem_succs {cs : List (Int × Ltl)} {x y : Int} : y ∈ succs cs x cs.length ↔ Uses cs x y := by
  unfold succs Uses
  rw [List.take_length]
  simp [and_assoc]
structure NdS where
  g : Nat
  o : Nat
  c : Nat
  q : List Int
  N : List Bool
  ms : List Nat
@[reducible] def NdU (b8 bo b2 : Nat) (p : Prg) (g o c : Nat) (q : List Int) (N : List Bool) : List SA := [box b8 [.slice (some ⟨g, o, none⟩) (q.map vI).length c] 45, ownQ 3 g o c (q.map vI), box bo (N.map vB) 4, box b2 p.enc 25]
structure NdJ (B : Base) (b8 bo b2 : Nat) (p : Prg) (pr : Int) (s : NdS) (w : World) : Prop where
  inv : ∃ h1, B.h.le h1 ∧ Inv B h1 (NdU b8 bo b2 p s.g s.o s.c s.q s.N ++ s.ms.map markSA) w
  len : s.N.length = p.preds.xs.length
  snd : ∀ i : Int, 0 ≤ i → i < p.preds.xs.length → bv s.N i = true → Reach (usesL p.rules.xs) pr i
  qin : ∀ x ∈ s.q, (0 ≤ x ∧ x < p.preds.xs.length) ∧ Reach (usesL p.rules.xs) pr x
  clo : ∀ c ∈ usesL p.rules.xs, bv s.N c.1 = true → bv s.N c.2.atom.pred = true ∨ c.2.atom.pred ∈ s.q
  has : bv s.N pr = true ∨ pr ∈ s.q
  small : s.q.length ≤ 1 + 24 * trues s.N
set_option maxHeartbeats 8000000 in
theorem Needs_ok (B : Base) (hB : B.ok) (p : Prg) (hp : p.In B.h) (hnm : p.Nm) (pr : Int) : Fn Tryz.prog 116 [p.val, .int .i64 pr] B (fun v h => NeeP p pr v h) := by
  refine Fn.ofD Tryz.func116 rfl Tryz.ntmps116 (by kernel_rfl) (by simp) ?_
  intro e
  have I := Inv.start hB
  refine WPD.seq ?_
  refine WPD.region ?_
  refine Ops.go (O.box (v := .agg #[_, _]) I rfl rfl ?_)
  intro b2 w I
  refine Ops.y (v := .slice _ _ _) (Y.assign rfl) ?_
  refine Ops.y (v := .int .i64 _) (Y.assign rfl) ?_
  refine Ops.nil ?_
  refine WPD.seq ?_
  refine WPD.seq ?_
  refine WPD.region ?_
  refine Ops.y (v := .agg #[_, _]) (Y.loadv ty_25 rfl (I.rdbox 0 rfl 0 2) rfl rfl) ?_
  refine Ops.go (O.callv I Tryz.call56 (PCheck_ok _ I.base_ok p hp hnm) rfl ?_)
  intro w I
  refine Ops.y (v := .int .i64 _) (Y.assign rfl) ?_
  refine Ops.nil ?_
  refine WPD.seq ?_
  refine WPD.region ?_
  refine Ops.y (v := .int .i64 _) (Y.move rfl) ?_
  refine Ops.y (v := .bool (decide _)) (Y.nei rfl rfl) ?_
  refine Ops.nil ?_
  refine WPD.cond_dec rfl (fun h => ?_) (fun h => ?_)
  · refine WPD.seq ?_
    refine WPD.region ?_
    refine Ops.y (v := .int .i64 _) (Y.move rfl) ?_
    refine Ops.y (v := .slice _ _ _) (Y.assign rfl) ?_
    refine Ops.y (v := .int .i64 _) (Y.assign rfl) ?_
    refine Ops.nil ?_
    refine WPD.ret ?_
    repeat (first | refine thenD_ret ?_ | refine blockD_ret ?_)
    show doneQ _ _ _ _ _ _ _ _
    exact ⟨.inl rfl, [], _, _, [.slice none 0 0, .int .i64 (checkProg p)], rfl, by rw [List.map_nil, List.append_nil]; exact I, fun w2 I2 => ⟨rfl, rfl, trivial⟩, .inl ⟨h, rfl⟩⟩
  have h0 := Decidable.not_not.1 h
  obtain ⟨k1, k2, k3, M, hM⟩ := checkProg_ok h0
  have hr := inR_of k3
  have hcl : (usesL p.rules.xs).length ≤ 24 := by
    have := usesL_len (m := 3) fun r hr => (checkRule_ok (rulesErr_zero.1 k3 r hr)).2.1
    omega
  refine WPD.skip ?_
  refine WPD.seq ?_
  refine WPD.seq ?_
  by_cases o0 : pr < 0
  · refine WPD.region ?_
    refine Ops.y (v := .int .i64 _) (Y.move rfl) ?_
    refine Ops.y (v := .bool true) (Y.dec_t (Y.lti rfl rfl) (o0)) ?_
    refine Ops.y (v := .bool _) (Y.move rfl) ?_
    refine Ops.gf rfl ?_
    refine Ops.gf rfl ?_
    refine Ops.gf rfl ?_
    refine Ops.gf rfl ?_
    refine Ops.gf rfl ?_
    refine Ops.y (v := .bool _) (Y.pick_t rfl rfl) ?_
    refine Ops.nil ?_
    refine WPD.cond_t rfl ?_
    refine WPD.seq ?_
    refine WPD.region ?_
    refine Ops.y (v := .slice _ _ _) (Y.assign rfl) ?_
    refine Ops.y (v := .int .i64 _) (Y.assign rfl) ?_
    refine Ops.nil ?_
    refine WPD.ret ?_
    repeat (first | refine thenD_ret ?_ | refine blockD_ret ?_)
    show doneQ _ _ _ _ _ _ _ _
    exact ⟨.inl rfl, [], _, _, [.slice none 0 0, .int .i64 7], rfl, by rw [List.map_nil, List.append_nil]; exact I, fun w2 I2 => ⟨rfl, rfl, trivial⟩, .inr (.inl ⟨h0, by omega, rfl⟩)⟩
  by_cases o1 : (p.preds.xs.length : Int) ≤ pr
  · refine WPD.region ?_
    refine Ops.y (v := .int .i64 _) (Y.move rfl) ?_
    refine Ops.y (v := .bool false) (Y.dec_f (Y.lti rfl rfl) (o0)) ?_
    refine Ops.y (v := .bool _) (Y.move rfl) ?_
    refine Ops.ygt rfl (v := .int .i64 _) (Y.move rfl) ?_
    refine Ops.ygt rfl (v := .pointer (some ⟨_, _, none⟩)) (Y.fa0 fa_25_0 rfl) ?_
    refine Ops.ygt rfl (v := .slice _ _ _) (Y.loadv ty_22 rfl (I.rdbox 0 rfl 0 1) rfl rfl) ?_
    refine Ops.ygt rfl (v := .int .i64 _) (Y.lens Tryz.underlying22 rfl) ?_
    refine Ops.ygt rfl (v := .bool true) (Y.dec_t (Y.gei rfl rfl) (o1)) ?_
    refine Ops.y (v := .bool _) (Y.pick_f rfl rfl) ?_
    refine Ops.nil ?_
    refine WPD.cond_t rfl ?_
    refine WPD.seq ?_
    refine WPD.region ?_
    refine Ops.y (v := .slice _ _ _) (Y.assign rfl) ?_
    refine Ops.y (v := .int .i64 _) (Y.assign rfl) ?_
    refine Ops.nil ?_
    refine WPD.ret ?_
    repeat (first | refine thenD_ret ?_ | refine blockD_ret ?_)
    show doneQ _ _ _ _ _ _ _ _
    exact ⟨.inl rfl, [], _, _, [.slice none 0 0, .int .i64 7], rfl, by rw [List.map_nil, List.append_nil]; exact I, fun w2 I2 => ⟨rfl, rfl, trivial⟩, .inr (.inl ⟨h0, by omega, rfl⟩)⟩
  refine WPD.region ?_
  refine Ops.y (v := .int .i64 _) (Y.move rfl) ?_
  refine Ops.y (v := .bool false) (Y.dec_f (Y.lti rfl rfl) (o0)) ?_
  refine Ops.y (v := .bool _) (Y.move rfl) ?_
  refine Ops.ygt rfl (v := .int .i64 _) (Y.move rfl) ?_
  refine Ops.ygt rfl (v := .pointer (some ⟨_, _, none⟩)) (Y.fa0 fa_25_0 rfl) ?_
  refine Ops.ygt rfl (v := .slice _ _ _) (Y.loadv ty_22 rfl (I.rdbox 0 rfl 0 1) rfl rfl) ?_
  refine Ops.ygt rfl (v := .int .i64 _) (Y.lens Tryz.underlying22 rfl) ?_
  refine Ops.ygt rfl (v := .bool false) (Y.dec_f (Y.gei rfl rfl) (o1)) ?_
  refine Ops.y (v := .bool _) (Y.pick_f rfl rfl) ?_
  refine Ops.nil ?_
  refine WPD.cond_f rfl ?_
  have q0 : 0 ≤ pr := by omega
  have q1 : pr < p.preds.xs.length := by omega
  refine WPD.skip ?_
  refine WPD.seq ?_
  refine WPD.region ?_
  refine Ops.y (v := .pointer (some ⟨_, _, none⟩)) (Y.fa0 fa_25_0 rfl) ?_
  refine Ops.y (v := .slice _ _ _) (Y.loadv ty_22 rfl (I.rdbox 0 rfl 0 1) rfl rfl) ?_
  refine Ops.y (v := .int .i64 _) (Y.lens Tryz.underlying22 rfl) ?_
  refine Ops.go (O.make1 (n := p.preds.xs.length) (zc := (vB false)) I Tryz.underlying149 et_4 rfl rfl rfl (by omega) (by omega) ?_)
  intro b29 w I
  refine Ops.y (v := .slice _ _ _) (Y.assign rfl) ?_
  refine Ops.nil ?_
  rw [← List.map_replicate (f := vB)] at I
  refine WPD.seq ?_
  refine WPD.region ?_
  refine Ops.y (v := .int .i64 _) (Y.move rfl) ?_
  refine Ops.go (O.mkbox (cs := [vI pr]) I Tryz.underlying45 Tryz.sizeOf3 Tryz.zeroValue3 (by decide) (by decide) rfl rfl ?_)
  intro b31 w I
  refine Ops.go (O.alloc I Tryz.zeroValue45 rfl ?_)
  intro b8 w I
  refine Ops.go (O.store (v := .slice _ _ _) I ty_45 0 rfl rfl rfl rfl rfl rfl (Nat.le_of_ble_eq_true rfl) rfl ?_)
  intro w I
  refine Ops.nil ?_
  have I := I.toQ 1 rfl
  refine WPD.seq ?_
  refine WPD.block ?_
  refine WPD.loop (σ := NdS) (fun s => [(2, .pointer (some ⟨b2, 0, none⟩)), (7, .slice (some ⟨b29, 0, none⟩) p.preds.xs.length p.preds.xs.length), (8, .pointer (some ⟨b8, 0, none⟩))]) (fun s => s.ms.map mark) (NdJ B b8 b29 b2 p pr) (fun s => 25 * (p.preds.xs.length - trues s.N) + s.q.length)
    ⟨⟨b31, 0, 1, [pr], List.replicate p.preds.xs.length false, []⟩, ⟨rfl, rfl, rfl, trivial⟩, rfl, ⟨⟨B.h, Heap.le.refl _, by rw [List.map_nil, List.append_nil]; exact I⟩, by simp, (fun i _ _ h => by rw [bv_none] at h; cases h), (fun x hx => by
      rw [List.mem_singleton.1 hx]; exact ⟨⟨q0, q1⟩, .refl⟩), (fun c _ h => by rw [bv_none] at h; cases h), .inr (List.mem_singleton.2 rfl), by simp⟩⟩ ?_
  rintro ⟨g, o, c, q, N, ms⟩ e w ⟨⟨h1, gl1, I⟩, hlen, hsnd, hqin, hclo, hhas, hsmall⟩
  dsimp only at I hlen hsnd hqin hclo hhas hsmall ⊢
  have htr := trues_le N
  refine WPD.seq ?_
  refine WPD.seq ?_
  refine WPD.region ?_
  refine Ops.y (v := .slice _ _ _) (Y.loadv ty_45 rfl (I.rdbox 0 rfl 0 1) rfl rfl) ?_
  refine Ops.y (v := .int .i64 _) (Y.lens Tryz.underlying45 rfl) ?_
  refine Ops.y (v := .bool (decide _)) (Y.gti rfl rfl) ?_
  refine Ops.nil ?_
  refine WPD.cond_dec rfl (fun h8 => ?_) (fun h8 => ?_)
  · cases q with
    | nil => exact absurd h8 (by simp)
    | cons x q =>
    obtain ⟨⟨x0, x1⟩, hxr⟩ := hqin x (List.mem_cons_self ..)
    have hqc : (q.map vI).length + 1 ≤ c := by obtain ⟨_, _, hc, _⟩ := I.at 1 rfl; simpa using hc
    refine WPD.skip ?_
    refine WPD.block ?_
    refine WPD.seq ?_
    refine WPD.region ?_
    refine Ops.y (v := .slice _ _ _) (Y.loadv ty_45 rfl (I.rdbox 0 rfl 0 1) rfl rfl) ?_
    refine Ops.y (v := .pointer (some ⟨_, _, none⟩)) (Y.idx Tryz.underlying45 Tryz.sizeOf3 rfl rfl (Int.le_refl _) h8) ?_
    refine Ops.y (v := .int .i64 _) (Y.loadv ty_3 rfl (I.rdQ 1 rfl (i := 0) rfl) rfl rfl) ?_
    refine Ops.go (O.alloc I Tryz.zeroValue3 rfl ?_)
    intro b9 w I
    refine Ops.go (O.store (v := .int .i64 _) I ty_3 0 rfl rfl rfl rfl rfl rfl (Nat.le_of_ble_eq_true rfl) rfl ?_)
    intro w I
    refine Ops.nil ?_
    refine WPD.seq ?_
    refine WPD.region ?_
    refine Ops.y (v := .slice _ _ _) (Y.loadv ty_45 rfl (I.rdbox 1 rfl 0 1) rfl rfl) ?_
    refine Ops.y (v := .slice _ _ _) (Y.cutQ Tryz.underlying45 Tryz.sizeOf3 rfl hqc rfl rfl) ?_
    have I := I.popQ 2 rfl
    refine Ops.go (O.store (v := .slice _ _ _) I ty_45 1 rfl rfl rfl rfl rfl rfl (Nat.le_of_ble_eq_true rfl) rfl ?_)
    intro w I
    refine Ops.nil ?_
    cases ht : bv N x
    case true =>
      refine WPD.seq ?_
      refine WPD.seq ?_
      refine WPD.region ?_
      refine Ops.y (v := .slice _ _ _) (Y.move rfl) ?_
      refine Ops.y (v := .int .i64 _) (Y.loadv ty_3 rfl (I.rdbox 0 rfl 0 1) rfl rfl) ?_
      refine Ops.y (v := .pointer (some ⟨_, _, none⟩)) (Y.idx Tryz.underlying149 Tryz.sizeOf4 rfl rfl x0 x1) ?_
      refine Ops.y (v := .bool true) (Y.b (Y.loadv ty_4 rfl (I.rdL 3 rfl (by omega) (bv_some hlen x0 x1)) rfl rfl) (ht)) ?_
      refine Ops.nil ?_
      refine WPD.cond_t rfl ?_
      refine WPD.exit ?_
      exact ⟨⟨g, if c = 1 then o else o + 1, c - 1, q, N, ms⟩, ⟨⟨rfl, rfl, rfl, trivial⟩, rfl, ⟨⟨h1, gl1, I.drop⟩, hlen, hsnd, fun y hy => hqin y (List.mem_cons_of_mem _ hy), fun d hd hb => by
        rcases hclo d hd hb with h | h
        · exact .inl h
        · rcases List.mem_cons.1 h with e | h
          · exact .inl (by rw [e]; exact ht)
          · exact .inr h, by
        rcases hhas with h | h
        · exact .inl h
        · rcases List.mem_cons.1 h with e | h
          · exact .inl (by rw [e]; exact ht)
          · exact .inr h, by simp only [List.length_cons] at hsmall; dsimp only; omega⟩⟩, by simp only [List.length_cons]; omega⟩
    refine WPD.seq ?_
    refine WPD.seq ?_
    refine WPD.region ?_
    refine Ops.y (v := .slice _ _ _) (Y.move rfl) ?_
    refine Ops.y (v := .int .i64 _) (Y.loadv ty_3 rfl (I.rdbox 0 rfl 0 1) rfl rfl) ?_
    refine Ops.y (v := .pointer (some ⟨_, _, none⟩)) (Y.idx Tryz.underlying149 Tryz.sizeOf4 rfl rfl x0 x1) ?_
    refine Ops.y (v := .bool false) (Y.b (Y.loadv ty_4 rfl (I.rdL 3 rfl (by omega) (bv_some hlen x0 x1)) rfl rfl) (ht)) ?_
    refine Ops.nil ?_
    refine WPD.cond_f rfl ?_
    refine WPD.skip ?_
    refine WPD.seq ?_
    refine WPD.region ?_
    refine Ops.y (v := .slice _ _ _) (Y.move rfl) ?_
    refine Ops.y (v := .int .i64 _) (Y.loadv ty_3 rfl (I.rdbox 0 rfl 0 1) rfl rfl) ?_
    refine Ops.y (v := .pointer (some ⟨_, _, none⟩)) (Y.idx Tryz.underlying149 Tryz.sizeOf4 rfl rfl x0 x1) ?_
    refine Ops.go (O.store1 I ty_4 3 rfl rfl (i := x.toNat) (v := true) (by omega) (by rw [hlen]; omega) rfl rfl rfl ?_)
    intro w I
    refine Ops.nil ?_
    refine WPD.seq ?_
    refine WPD.region ?_
    refine Ops.y (v := .agg #[_, _]) (Y.loadv ty_25 rfl (I.rdbox 4 rfl 0 2) rfl rfl) ?_
    refine Ops.go (O.call I Tryz.call151 (uses_ok _ I.base_ok p) rfl ?_)
    rintro _ h2 w I le2 ⟨bp, rfl, hbp⟩
    refine Ops.nil ?_
    have hxi : x.toNat < N.length := by rw [hlen]; omega
    have hNx : N[x.toNat] = false := by have : N[x.toNat] = bv N x := by simp [bv, List.getD_eq_getElem?_getD, hxi]
                                        rw [this, ht]
    have htr2 := trues_set N x.toNat hxi hNx
    have htr3 := trues_le (N.set x.toNat true)
    rw [List.length_set, hlen] at htr3
    simp only [List.length_cons] at hsmall
    refine WPD.block ?_
    refine WPD.rangeFunc (σ := NdS) (fun s => box b9 [vI x] 3 :: NdU b8 b29 b2 p s.g s.o s.c s.q (N.set x.toNat true)) (fun k s => s.q = q ++ succs (usesL p.rules.xs) x k) (fun _ _ => False) ⟨g, if c = 1 then o else o + 1, c - 1, q, N, ms⟩ I (by simp [succs]) rfl Tryz.call179
      (uses1_iter p bp h2 hbp (hp.rules.le (gl1.trans le2))) (fun _ => rfl) (by kernel_rfl) (by kernel_rfl) (by kernel_rfl) ?_ ?_ ?_
    · rintro l r ms' hg k d ⟨g', o', c', q', N', ms2⟩ W hx gl I hq
      dsimp only at I hq ⊢
      have hd := List.mem_of_getElem? hx
      have hql : q'.length ≤ 300 := by have := succs_len (usesL p.rules.xs) x k; rw [hq, List.length_append]; omega
      refine WPI.seq ?_
      refine WPI.region (by kernel_rfl) ?_
      refine Ops.y (v := .int .i64 _) (Y.assign rfl) ?_
      refine Ops.nil ?_
      refine WPI.region (by kernel_rfl) ?_
      refine Ops.go (O.alloc I Tryz.zeroValue131 rfl ?_)
      intro b11 w I
      refine Ops.go (O.store (v := .agg #[_, _, _]) I ty_131 0 rfl rfl rfl rfl rfl rfl (Nat.le_of_ble_eq_true rfl) rfl ?_)
      intro w I
      refine Ops.nil ?_
      refine ⟨hg, [box b11 d.2.enc 131], Heap.le.refl _, I, fun r' W2 I => ?_⟩
      refine WPI.block ?_
      refine WPI.seq ?_
      refine WPI.region (by kernel_rfl) ?_
      refine Ops.y (v := .int .i64 _) (Y.move rfl) ?_
      refine Ops.y (v := .int .i64 _) (Y.loadv ty_3 rfl (I.rdbox 1 rfl 0 1) rfl rfl) ?_
      refine Ops.y (v := .bool (decide _)) (Y.eqi rfl rfl) ?_
      refine Ops.nil ?_
      refine WPI.cond_dec rfl (fun h16 => ?_) (fun h16 => ?_)
      · refine WPI.region (by kernel_rfl) ?_
        refine Ops.y (v := .slice _ _ _) (Y.loadv ty_45 rfl (I.rdbox 2 rfl 0 1) rfl rfl) ?_
        refine Ops.y (v := .pointer (some ⟨_, _, none⟩)) (Y.fa fa_131_1 rfl) ?_
        refine Ops.y (v := .pointer (some ⟨_, _, none⟩)) (Y.fa0 fa_65_0 rfl) ?_
        refine Ops.y (v := .int .i64 _) (Y.loadv ty_3 rfl (I.rdbox 0 rfl 1 1) rfl rfl) ?_
        refine Ops.go (O.mksl (xs := [d.2.atom.pred]) (enc := iEnc) I Tryz.underlying45 Tryz.sizeOf3 Tryz.zeroValue3 rfl (Nat.le_of_ble_eq_true rfl) rfl rfl (by decide) (fun _ => rfl) ?_)
        intro b58 h58 w I le58 sl58
        refine Ops.go (O.appendQ (v := vI d.2.atom.pred) I Tryz.underlying45 et_3 3 rfl rfl rfl (I.rd (sl58 0 _ rfl).2) rfl (by simp; omega) (by simp; omega) ?_)
        intro g2 o2 c2 w I
        refine Ops.go (O.store (v := .slice _ _ _) I ty_45 2 rfl rfl rfl rfl rfl rfl (Nat.le_of_ble_eq_true rfl) rfl ?_)
        intro w I
        refine Ops.nil ?_
        have e1 : q'.map vI ++ [vI d.2.atom.pred] = (q' ++ [d.2.atom.pred]).map vI := by simp
        have e2 : (q'.map vI).length + 1 = ((q' ++ [d.2.atom.pred]).map vI).length := by simp
        rw [e1, e2] at I
        exact ⟨h58, ⟨g2, o2, c2, q' ++ [d.2.atom.pred], N', ms2⟩, [box b11 d.2.enc 131], le58, I, by dsimp only; rw [succs_at hx, if_pos h16, hq, List.append_assoc]⟩
      · refine WPI.skip ?_
        exact ⟨hg, ⟨g', o', c', q', N', ms2⟩, [box b11 d.2.enc 131], Heap.le.refl _, I, by dsimp only; rw [succs_at hx, if_neg h16, hq, List.append_nil]⟩
    · rintro D h3 ⟨g', o', c', q', N', ms2⟩ W gl I hq
      dsimp only at I hq
      have hsl := succs_len (usesL p.rules.xs) x (usesL p.rules.xs).length
      have hql : q'.length = q.length + (succs (usesL p.rules.xs) x (usesL p.rules.xs).length).length := by rw [hq, List.length_append]
      have hxl : x < N.length := by rw [hlen]; exact x1
      refine ⟨⟨g', o', c', q', N.set x.toNat true, D :: ms⟩, ⟨⟨rfl, rfl, rfl, trivial⟩, rfl, ⟨⟨h3, (gl1.trans le2).trans gl, I.drop⟩, by simp [hlen], fun i i0 i1 h => ?_, fun y hy => ?_, fun d hd hb => ?_, ?_, by dsimp only; omega⟩⟩, by dsimp only; simp only [List.length_cons]; omega⟩
      · dsimp only at h
        rw [bv_set x0 hxl _ _ i0] at h
        split at h
        · rename_i e; rw [e]; exact hxr
        · exact hsnd i i0 i1 h
      · dsimp only at hy
        rw [hq] at hy
        rcases List.mem_append.1 hy with h | h
        · exact hqin y (List.mem_cons_of_mem _ h)
        · have hu := mem_succs.1 h
          refine ⟨?_, .step hxr hu⟩
          obtain ⟨d, hd, _, rfl⟩ := hu
          exact hr.b d hd
      · dsimp only at hb ⊢
        have hdh := hr.h d hd
        have hdb := hr.b d hd
        rw [bv_set x0 hxl _ _ hdh.1] at hb
        rw [bv_set x0 hxl _ _ hdb.1, hq]
        split at hb
        · rename_i e
          exact .inr (List.mem_append_right _ (mem_succs.2 ⟨d, hd, e, rfl⟩))
        · rcases hclo d hd hb with h | h
          · left; split
            · rfl
            · exact h
          · rcases List.mem_cons.1 h with e | h
            · left; rw [if_pos e]
            · exact .inr (List.mem_append_left _ h)
      · dsimp only
        rw [bv_set x0 hxl _ _ q0, hq]
        rcases hhas with h | h
        · left; split
          · rfl
          · exact h
        · rcases List.mem_cons.1 h with e | h
          · left; rw [if_pos e]
          · exact .inr (List.mem_append_left _ h)
    · rintro D c h3 s W gl I hx
      exact hx.elim
  · have hq : q = [] := by simpa using h8
    subst hq
    refine WPD.exit ?_
    refine WPD.seq ?_
    refine WPD.region ?_
    refine Ops.y (v := .slice _ _ _) (Y.move rfl) ?_
    refine Ops.y (v := .slice _ _ _) (Y.assign rfl) ?_
    refine Ops.y (v := .int .i64 _) (Y.assign rfl) ?_
    refine Ops.nil ?_
    refine WPD.ret ?_
    repeat (first | refine thenD_ret ?_ | refine blockD_ret ?_)
    show doneQ _ _ _ _ _ _ _ _
    have hbo := I.at 2 rfl
    obtain ⟨h4, le4, hb4, I⟩ := (I.front 2 rfl).settle
    have hhas' : bv N pr = true := hhas.resolve_right (by simp)
    exact ⟨.inl rfl, ms, [box b8 [.slice (some ⟨g, o, none⟩) (([] : List Int).map vI).length c] 45, ownQ 3 g o c (([] : List Int).map vI), box b2 p.enc 25], h4,
      [.slice (some ⟨b29, 0, none⟩) p.preds.xs.length p.preds.xs.length, .int .i64 0], rfl, I, fun w2 I2 => ⟨rfl, rfl, trivial⟩,
      .inr (.inr ⟨h0, ⟨q0, q1⟩, ⟨some ⟨b29, 0, none⟩, p.preds.xs.length, N⟩, NeedsR.of hlen hsnd hhas' (fun d hd hb => (hclo d hd hb).resolve_right (by simp)), boxIsB ((hb4 b29 (by simp [box])).trans hbo) (by rw [hlen]; omega), by simp [tup, Sl.val, hlen]⟩)⟩
end Go.TF
end
section
/- Match and Only: the program's answers and the document's. -/
namespace Go.TF
open Go Go.RowKit Go.Proofs
set_option maxRecDepth 20000

theorem keep_filter {α : Type} (p : α → Bool) (xs : List α) : keepL (fun x => !p x) xs = xs.filter p := by unfold keepL; simp
theorem matchM1_ok (a : Atm) (b : Nat) (g : List Fct) {h : Heap} (kb : Known h b a.enc) (ha : a.In h) (h2 : a.args.xs.length ≤ 2) : PredFn Tryz.prog 111 [] [.pointer (some ⟨b, 0, none⟩)] h Fct.val g (fun x => !fitB a x) := by
  intro B hB hle x _
  have kb := kb.le hle
  have ha := ha.le hle
  show Fn Tryz.prog 111 [x.val, .pointer (some ⟨b, 0, none⟩)] B _
  refine Fn.of Tryz.func111 rfl Tryz.ntmps111 (by kernel_rfl) (by simp) ?_
  intro e
  have I := Inv.start hB
  refine WP.seq ?_
  refine WP.region ?_
  refine Ops.go (O.box (v := .agg #[_, _, _, _]) I rfl rfl ?_)
  intro b2 w I
  refine Ops.y (v := .bool _) (Y.assign rfl) ?_
  refine Ops.nil ?_
  refine WP.seq ?_
  refine WP.region ?_
  refine Ops.y (v := .agg #[_, _]) (Y.loadv ty_65 rfl (I.rd (kb.rd.part 0 2)) rfl rfl) ?_
  refine Ops.y (v := .agg #[_, _, _, _]) (Y.loadv ty_52 rfl (I.rdbox 0 rfl 0 4) rfl rfl) ?_
  refine Ops.go (O.callv I Tryz.call112 (Fits_ok _ I.base_ok a ha h2 x) rfl ?_)
  intro w I
  refine Ops.y (v := .bool _) (Y.not rfl) ?_
  refine Ops.y (v := .bool _) (Y.assign rfl) ?_
  refine Ops.nil ?_
  refine WP.ret ?_
  repeat (first | refine thenE_ret ?_ | refine blockE_ret ?_)
  exact retQ.mk (vs := [.bool _]) rfl ⟨rfl, trivial⟩ I.ext_of (rfl)
def MatP (r : List Fct × Int) (v : Value) (h : Heap) : Prop := ∃ s : Sl Fct, v = .tuple #[s.val, .int .i64 r.2] ∧ s.xs = r.1 ∧ Fcts s h
set_option maxHeartbeats 4000000 in
theorem Match_ok (B : Base) (hB : B.ok) (p : Prg) (hp : p.In B.h) (hnm : p.Nm) (f : Sl Fct) (hf : Fcts f B.h) (a : Atm) (ha : a.In B.h) : Fn Tryz.prog 51 [p.val, f.val, a.val] B (MatP (matchOf p f.xs a)) := by
  refine Fn.of Tryz.func51 rfl Tryz.ntmps51 (by kernel_rfl) (by simp) ?_
  intro e
  have I := Inv.start hB
  refine WP.seq ?_
  refine WP.region ?_
  refine Ops.go (O.box (v := .agg #[_, _]) I rfl rfl ?_)
  intro b3 w I
  refine Ops.go (O.box (v := .agg #[_, _]) I rfl rfl ?_)
  intro b5 w I
  refine Ops.y (v := .slice _ _ _) (Y.assign rfl) ?_
  refine Ops.y (v := .int .i64 _) (Y.assign rfl) ?_
  refine Ops.nil ?_
  refine WP.seq ?_
  refine WP.seq ?_
  refine WP.region ?_
  refine Ops.y (v := .agg #[_, _]) (Y.loadv ty_25 rfl (I.rdbox 1 rfl 0 2) rfl rfl) ?_
  refine Ops.go (O.callv I Tryz.call56 (PCheck_ok _ I.base_ok p hp hnm) rfl ?_)
  intro w I
  refine Ops.y (v := .int .i64 _) (Y.assign rfl) ?_
  refine Ops.nil ?_
  refine WP.seq ?_
  refine WP.region ?_
  refine Ops.y (v := .int .i64 _) (Y.move rfl) ?_
  refine Ops.y (v := .bool (decide _)) (Y.nei rfl rfl) ?_
  refine Ops.nil ?_
  refine WP.cond_dec rfl (fun h2 => ?_) (fun h2 => ?_)
  · refine WP.seq ?_
    refine WP.region ?_
    refine Ops.y (v := .int .i64 _) (Y.move rfl) ?_
    refine Ops.y (v := .slice _ _ _) (Y.assign rfl) ?_
    refine Ops.y (v := .int .i64 _) (Y.assign rfl) ?_
    refine Ops.nil ?_
    refine WP.ret ?_
    repeat (first | refine thenE_ret ?_ | refine blockE_ret ?_)
    exact retQ.mk (vs := [.slice _ _ _, .int .i64 _]) rfl ⟨rfl, rfl, trivial⟩ I.ext_of (by unfold matchOf askR; rw [if_pos h2, if_pos h2]; exact ⟨⟨none, 0, []⟩, rfl, rfl, nilF⟩)
  have hpr := Decidable.not_not.1 h2
  have hA : askR p f.xs = checkFacts p.preds.xs f.xs := by unfold askR; rw [if_neg h2]
  refine WP.skip ?_
  refine WP.seq ?_
  refine WP.seq ?_
  refine WP.region ?_
  refine Ops.y (v := .pointer (some ⟨_, _, none⟩)) (Y.fa0 fa_25_0 rfl) ?_
  refine Ops.y (v := .slice _ _ _) (Y.loadv ty_22 rfl (I.rdbox 1 rfl 0 1) rfl rfl) ?_
  refine Ops.y (v := .slice _ _ _) (Y.move rfl) ?_
  refine Ops.go (O.callv I Tryz.call45 (BCheck_ok _ I.base_ok p.preds hp.preds f hf) rfl ?_)
  intro w I
  refine Ops.y (v := .int .i64 _) (Y.assign rfl) ?_
  refine Ops.nil ?_
  refine WP.seq ?_
  refine WP.region ?_
  refine Ops.y (v := .int .i64 _) (Y.move rfl) ?_
  refine Ops.y (v := .bool (decide _)) (Y.nei rfl rfl) ?_
  refine Ops.nil ?_
  refine WP.cond_dec rfl (fun h5 => ?_) (fun h5 => ?_)
  · refine WP.seq ?_
    refine WP.region ?_
    refine Ops.y (v := .int .i64 _) (Y.move rfl) ?_
    refine Ops.y (v := .slice _ _ _) (Y.assign rfl) ?_
    refine Ops.y (v := .int .i64 _) (Y.assign rfl) ?_
    refine Ops.nil ?_
    refine WP.ret ?_
    repeat (first | refine thenE_ret ?_ | refine blockE_ret ?_)
    exact retQ.mk (vs := [.slice _ _ _, .int .i64 _]) rfl ⟨rfl, rfl, trivial⟩ I.ext_of (by unfold matchOf; rw [hA, if_pos h5]; exact ⟨⟨none, 0, []⟩, rfl, rfl, nilF⟩)
  have okf := checkFacts_ok.1 (Decidable.not_not.1 h5)
  have h125 := okf.le125
  refine WP.skip ?_
  refine WP.seq ?_
  refine WP.seq ?_
  refine WP.region ?_
  refine Ops.y (v := .pointer (some ⟨_, _, none⟩)) (Y.fa0 fa_25_0 rfl) ?_
  refine Ops.y (v := .slice _ _ _) (Y.loadv ty_22 rfl (I.rdbox 1 rfl 0 1) rfl rfl) ?_
  refine Ops.y (v := .agg #[_, _]) (Y.loadv ty_65 rfl (I.rdbox 0 rfl 0 2) rfl rfl) ?_
  refine Ops.go (O.callv I Tryz.call110 (Atom_ok _ I.base_ok p.preds hp.preds a ha) rfl ?_)
  intro w I
  refine Ops.y (v := .int .i64 _) (Y.assign rfl) ?_
  refine Ops.nil ?_
  refine WP.seq ?_
  refine WP.region ?_
  refine Ops.y (v := .int .i64 _) (Y.move rfl) ?_
  refine Ops.y (v := .bool (decide _)) (Y.nei rfl rfl) ?_
  refine Ops.nil ?_
  refine WP.cond_dec rfl (fun h8 => ?_) (fun h8 => ?_)
  · refine WP.seq ?_
    refine WP.region ?_
    refine Ops.y (v := .int .i64 _) (Y.move rfl) ?_
    refine Ops.y (v := .slice _ _ _) (Y.assign rfl) ?_
    refine Ops.y (v := .int .i64 _) (Y.assign rfl) ?_
    refine Ops.nil ?_
    refine WP.ret ?_
    repeat (first | refine thenE_ret ?_ | refine blockE_ret ?_)
    exact retQ.mk (vs := [.slice _ _ _, .int .i64 _]) rfl ⟨rfl, rfl, trivial⟩ I.ext_of (by unfold matchOf; rw [hA, if_neg h5, if_pos h8]; exact ⟨⟨none, 0, []⟩, rfl, rfl, nilF⟩)
  have h8' := Decidable.not_not.1 h8
  have ao := aok_of okf.preds h8'
  obtain ⟨h6, le6, _, kb5, I, _, _⟩ := I.lend
  have hB6 := I.ext
  refine WP.skip ?_
  refine WP.seq ?_
  refine WP.region ?_
  refine Ops.y (v := .slice _ _ _) (Y.move rfl) ?_
  refine Ops.go (O.call I Tryz.call63 (CloneFct_ok _ I.base_ok f (hf.le le6) (by omega)) rfl ?_)
  rintro _ h7 w I le7 ⟨gs, rfl, eg, og, _⟩
  obtain ⟨h9, I, mono9, _⟩ := I.unsettle og hB6
  rw [eg] at I
  have gl9 : h6.le h9 := mono9 _ le7 (Heap.le.refl _)
  refine Ops.y (v := .func (.func 111) #[] #[.pointer (some ⟨b5, 0, none⟩)]) (Y.mkfunc rfl rfl) ?_
  refine Ops.go (O.calls Tryz.call68 (DeleteFct_v I rfl (by omega) 111 Tryz.call111 [] [.pointer (some ⟨b5, 0, none⟩)] (fun x => !fitB a x) (matchM1_ok a b5 f.xs (kb5.le gl9) ((ha.le le6).le gl9) ao.len)) rfl ?_)
  rintro ed w ⟨v, m, rfl, rfl, I⟩
  refine ⟨_, rfl, ?_⟩
  refine Ops.y (v := v) (Y.assign rfl) ?_
  refine Ops.y (v := .int .i64 _) (Y.assign rfl) ?_
  refine Ops.nil ?_
  obtain ⟨h10, s, le10, rfl, hx, is, I⟩ := I.settleSl Fct_len rfl
  rw [keep_filter] at hx
  have hsl : s.xs.length ≤ f.xs.length := by rw [hx]; exact List.length_filter_le ..
  refine WP.ret ?_
  repeat (first | refine thenE_ret ?_ | refine blockE_ret ?_)
  exact retQ.mk (vs := [.slice _ _ _, .int .i64 _]) rfl ⟨rfl, rfl, trivial⟩ I.ext_of (by unfold matchOf; rw [hA, if_neg h5, if_neg h8]; exact ⟨s, rfl, hx, is, by omega⟩)
theorem take_filter {α : Type} (q : α → Bool) {l : List α} {k : Nat} (hk : k < l.length) : (l.take (k + 1)).filter q = (l.take k).filter q ++ if q l[k] = true then [l[k]] else [] := by
  rw [List.take_succ_eq_append_getElem hk, List.filter_append]
  congr 1
  by_cases h : q l[k] = true
  · rw [if_pos h, List.filter_cons, if_pos h]; rfl
  · rw [if_neg h, List.filter_cons, if_neg h]; rfl
set_option maxHeartbeats 4000000 in
theorem MatchOf_ok (B : Base) (hB : B.ok) (p : Prg) (hp : p.In B.h) (hnm : p.Nm) (f : Sl Fct) (hf : Fcts f B.h) (a : Atm) (ha : a.In B.h) : Fn Tryz.prog 52 [p.val, f.val, a.val] B (MatP (matchOf p f.xs a)) := by
  refine Fn.of Tryz.func52 rfl Tryz.ntmps52 (by kernel_rfl) (by simp) ?_
  intro e
  have I := Inv.start hB
  refine WP.seq ?_
  refine WP.region ?_
  refine Ops.go (O.box (v := .agg #[_, _]) I rfl rfl ?_)
  intro b3 w I
  refine Ops.go (O.box (v := .agg #[_, _]) I rfl rfl ?_)
  intro b5 w I
  refine Ops.y (v := .slice _ _ _) (Y.assign rfl) ?_
  refine Ops.y (v := .int .i64 _) (Y.assign rfl) ?_
  refine Ops.nil ?_
  refine WP.seq ?_
  refine WP.seq ?_
  refine WP.region ?_
  refine Ops.y (v := .agg #[_, _]) (Y.loadv ty_25 rfl (I.rdbox 1 rfl 0 2) rfl rfl) ?_
  refine Ops.y (v := .slice _ _ _) (Y.move rfl) ?_
  refine Ops.go (O.callv I Tryz.call34 (RoundError_ok _ I.base_ok p hp hnm f hf) rfl ?_)
  intro w I
  refine Ops.y (v := .int .i64 _) (Y.assign rfl) ?_
  refine Ops.nil ?_
  refine WP.seq ?_
  refine WP.region ?_
  refine Ops.y (v := .int .i64 _) (Y.move rfl) ?_
  refine Ops.y (v := .bool (decide _)) (Y.nei rfl rfl) ?_
  refine Ops.nil ?_
  refine WP.cond_dec rfl (fun h2 => ?_) (fun h2 => ?_)
  · refine WP.seq ?_
    refine WP.region ?_
    refine Ops.y (v := .int .i64 _) (Y.move rfl) ?_
    refine Ops.y (v := .slice _ _ _) (Y.assign rfl) ?_
    refine Ops.y (v := .int .i64 _) (Y.assign rfl) ?_
    refine Ops.nil ?_
    refine WP.ret ?_
    repeat (first | refine thenE_ret ?_ | refine blockE_ret ?_)
    exact retQ.mk (vs := [.slice _ _ _, .int .i64 _]) rfl ⟨rfl, rfl, trivial⟩ I.ext_of (by unfold matchOf; rw [if_pos h2]; exact ⟨⟨none, 0, []⟩, rfl, rfl, nilF⟩)
  obtain ⟨hpr, okf⟩ := askR_iff.1 (Decidable.not_not.1 h2)
  have h125 := okf.le125
  refine WP.skip ?_
  refine WP.seq ?_
  refine WP.seq ?_
  refine WP.region ?_
  refine Ops.y (v := .pointer (some ⟨_, _, none⟩)) (Y.fa0 fa_25_0 rfl) ?_
  refine Ops.y (v := .slice _ _ _) (Y.loadv ty_22 rfl (I.rdbox 1 rfl 0 1) rfl rfl) ?_
  refine Ops.y (v := .agg #[_, _]) (Y.loadv ty_65 rfl (I.rdbox 0 rfl 0 2) rfl rfl) ?_
  refine Ops.go (O.callv I Tryz.call113 (CheckAtom_ok _ I.base_ok p.preds hp.preds a ha) rfl ?_)
  intro w I
  refine Ops.y (v := .int .i64 _) (Y.assign rfl) ?_
  refine Ops.nil ?_
  refine WP.seq ?_
  refine WP.region ?_
  refine Ops.y (v := .int .i64 _) (Y.move rfl) ?_
  refine Ops.y (v := .bool (decide _)) (Y.nei rfl rfl) ?_
  refine Ops.nil ?_
  refine WP.cond_dec rfl (fun h5 => ?_) (fun h5 => ?_)
  · refine WP.seq ?_
    refine WP.region ?_
    refine Ops.y (v := .int .i64 _) (Y.move rfl) ?_
    refine Ops.y (v := .slice _ _ _) (Y.assign rfl) ?_
    refine Ops.y (v := .int .i64 _) (Y.assign rfl) ?_
    refine Ops.nil ?_
    refine WP.ret ?_
    repeat (first | refine thenE_ret ?_ | refine blockE_ret ?_)
    exact retQ.mk (vs := [.slice _ _ _, .int .i64 _]) rfl ⟨rfl, rfl, trivial⟩ I.ext_of (by unfold matchOf; rw [if_neg h2, if_pos h5]; exact ⟨⟨none, 0, []⟩, rfl, rfl, nilF⟩)
  have ao := aok_of okf.preds (Decidable.not_not.1 h5)
  refine WP.skip ?_
  refine WP.seq ?_
  refine WP.region ?_
  refine Ops.y (v := .slice _ _ _) (Y.assign rfl) ?_
  refine Ops.nil ?_
  refine WP.seq ?_
  refine WP.seq ?_
  refine WP.region ?_
  refine Ops.y (v := .int .i64 _) (Y.assign rfl) ?_
  refine Ops.nil ?_
  refine WP.block ?_
  refine WP.loopE (σ := Nat × Value × Heap) (fun s => [(1, f.val), (3, .pointer (some ⟨b3, 0, none⟩)), (5, .pointer (some ⟨b5, 0, none⟩)), (10, s.2.1), (11, .int .i64 s.1)])
    (fun s w => Inv B s.2.2 [ownSl 52 4 s.2.1 ((f.xs.take s.1).filter (fitB a)).length (((f.xs.take s.1).filter (fitB a)).flatMap Fct.enc), box b5 a.enc 65, box b3 p.enc 25] w ∧ s.1 ≤ f.xs.length ∧ B.h.le s.2.2) (fun s => f.xs.length - s.1)
    ⟨(0, .slice none 0 0, B.h), ⟨rfl, rfl, rfl, rfl, rfl, trivial⟩, I.nilSl 52 4, Nat.zero_le _, Heap.le.refl _⟩ ?_
  rintro ⟨k, v, hh⟩ e w ⟨I, hk, gl⟩
  dsimp only at I hk gl ⊢
  have hfl : ((f.xs.take k).filter (fitB a)).length ≤ k := Nat.le_trans (List.length_filter_le ..) (by rw [List.length_take]; omega)
  refine WP.seq ?_
  refine WP.seq ?_
  refine WP.region ?_
  refine Ops.y (v := .int .i64 _) (Y.move rfl) ?_
  refine Ops.y (v := .slice _ _ _) (Y.move rfl) ?_
  refine Ops.y (v := .int .i64 _) (Y.lens Tryz.underlying26 rfl) ?_
  refine Ops.y (v := .bool (decide _)) (Y.lti rfl rfl) ?_
  refine Ops.nil ?_
  refine WP.cond_dec rfl (fun h9 => ?_) (fun h9 => ?_)
  · have hk' : k < f.xs.length := by omega
    have E := (hf.le gl).at hk'
    have hfi := okf.fine _ (List.getElem_mem hk')
    have px := fine_pf okf.len hfi
    have hn := take_filter (fitB a) hk'
    refine WP.skip ?_
    refine WP.seq ?_
    refine WP.block ?_
    refine WP.seq ?_
    refine WP.regionQ mixed I (by kernel_rfl) ?_
    refine OpsQ.y (v := .agg #[_, _]) (fun w I => Y.loadv ty_65 rfl (I.rdbox 1 rfl 0 2) rfl rfl) ?_
    refine OpsQ.y (v := .slice _ _ _) (fun w I => Y.move rfl) ?_
    refine OpsQ.y (v := .int .i64 _) (fun w I => Y.move rfl) ?_
    refine OpsQ.y (v := .pointer (some ⟨_, _, none⟩)) (fun w I => Y.idxEl E Tryz.underlying26 Tryz.sizeOf52 rfl rfl (Int.natCast_nonneg _) rfl) ?_
    refine OpsQ.y (v := .agg #[_, _, _, _]) (fun w I => Y.loadv ty_52 rfl (I.rd (E.rd.part 0 4)) rfl rfl) ?_
    refine OpsQ.c (fun w I => QC.callv I Tryz.call114 (rfits_ok _ I.base_ok a (ha.le gl) ao.len (fun t ht hv => ao.var ht hv) f.xs[k] px.a0 px.b0) rfl) ?_
    refine OpsQ.nil ?_
    intro w I
    refine WP.cond rfl (fun h11 => ?_) (fun h11 => ?_)
    · have h11 : fitB a f.xs[k] = true := h11
      rw [if_pos h11] at hn
      refine WP.region ?_
      refine Ops.y (v := v) (Y.move rfl) ?_
      refine Ops.y (v := .slice _ _ _) (Y.move rfl) ?_
      refine Ops.y (v := .int .i64 _) (Y.move rfl) ?_
      refine Ops.y (v := .pointer (some ⟨_, _, none⟩)) (Y.idxEl E Tryz.underlying26 Tryz.sizeOf52 rfl rfl (Int.natCast_nonneg _) rfl) ?_
      refine Ops.y (v := .agg #[_, _, _, _]) (Y.loadv ty_52 rfl (I.rd (E.rd.part 0 4)) rfl rfl) ?_
      refine Ops.go (O.mksl (xs := [f.xs[k]]) (enc := Fct.enc) I Tryz.underlying26 Tryz.sizeOf52 Tryz.zeroValue52 rfl (Nat.le_of_ble_eq_true rfl) rfl rfl (by decide) (fun _ => rfl) ?_)
      intro b42 h42 w I le42 sl42
      refine Ops.go (O.append I Tryz.underlying26 et_52 0 rfl rfl rfl (I.rd (sl42 0 _ rfl).2) rfl rfl (by decide) ((by omega)) (by omega) ?_)
      intro b43 c43 w I
      refine Ops.y (v := .slice _ _ _) (Y.assign rfl) ?_
      refine Ops.nil ?_
      refine WP.region ?_
      refine Ops.y (v := .int .i64 _) (Y.move rfl) ?_
      refine Ops.y (v := .int .i64 _) (Y.addi rfl rfl ⟨by omega, by omega⟩) ?_
      refine Ops.y (v := .int .i64 _) (Y.assign rfl) ?_
      refine Ops.nil ?_
      refine ⟨(k + 1, .slice (some ⟨b43, 0, none⟩) (((f.xs.take k).filter (fitB a)).length + 1) c43, h42), ⟨⟨rfl, rfl, rfl, rfl, rfl, trivial⟩, ?_, by dsimp only; omega, gl.trans le42⟩, by dsimp only; omega⟩
      dsimp only
      rw [hn, List.length_append, List.length_singleton, List.flatMap_append, List.flatMap_singleton]
      exact I
    · have h11 : fitB a f.xs[k] = false := by simpa using h11
      rw [h11, if_neg (by decide), List.append_nil] at hn
      refine WP.skip ?_
      refine WP.region ?_
      refine Ops.y (v := .int .i64 _) (Y.move rfl) ?_
      refine Ops.y (v := .int .i64 _) (Y.addi rfl rfl ⟨by omega, by omega⟩) ?_
      refine Ops.y (v := .int .i64 _) (Y.assign rfl) ?_
      refine Ops.nil ?_
      exact ⟨(k + 1, v, hh), ⟨⟨rfl, rfl, rfl, rfl, rfl, trivial⟩, by dsimp only; rw [hn]; exact I, by dsimp only; omega, gl⟩, by dsimp only; omega⟩
  obtain rfl : k = f.xs.length := by omega
  rw [List.take_length] at I hfl
  obtain ⟨h10, s, le10, rfl, hx, is, I⟩ := I.settleSl Fct_len rfl
  refine WP.exit ?_
  refine WP.seq ?_
  refine WP.region ?_
  refine Ops.y (v := .slice _ _ _) (Y.move rfl) ?_
  refine Ops.y (v := .slice _ _ _) (Y.assign rfl) ?_
  refine Ops.y (v := .int .i64 _) (Y.assign rfl) ?_
  refine Ops.nil ?_
  refine WP.ret ?_
  repeat (first | refine thenE_ret ?_ | refine blockE_ret ?_)
  exact retQ.mk (vs := [.slice _ _ _, .int .i64 _]) rfl ⟨rfl, rfl, trivial⟩ I.ext_of (by unfold matchOf; rw [if_neg h2, if_neg h5]; exact ⟨s, rfl, hx, is, by rw [hx]; omega⟩)
/-! ### Only -/
structure OnlQ (p : Prg) (pr : Int) (l : List Fct) : Prop where
  ex : ∃ q N g rs, Only p q N ∧ bv N pr = true ∧ ModK q (strataM q) (numS (strataM q)) g rs ∧ l = g.filter fun x => decide (x.pred = pr)
theorem OnlQ.eq {p : Prg} {pr : Int} {l f : List Fct} {rs : List Int} (o : OnlQ p pr l) (m : ModK p (strataM p) (numS (strataM p)) f rs) : l = f.filter fun x => decide (x.pred = pr) := by
  obtain ⟨q, N, g, rs', on, hb, mg, rfl⟩ := o.ex
  rw [on.model m mg, List.filter_filter]
  congr 1
  funext x
  by_cases h : x.pred = pr
  · rw [decide_eq_true h, Bool.true_and]; unfold nd; rw [h, hb]
  · rw [decide_eq_false h, Bool.false_and]
noncomputable def onlE (p : Prg) (pr : Int) : Int := if checkProg p ≠ 0 then checkProg p else if pr < 0 ∨ (p.preds.xs.length : Int) ≤ pr then 7 else 0
def OnlP (p : Prg) (pr : Int) (v : Value) (h : Heap) : Prop := (onlE p pr ≠ 0 ∧ v = .tuple #[.slice none 0 0, .int .i64 (onlE p pr)]) ∨ (onlE p pr = 0 ∧ ∃ s : Sl Fct, v = .tuple #[s.val, .int .i64 0] ∧ Fcts s h ∧ OnlQ p pr s.xs)
theorem only_of {p q : Prg} {N : List Bool} {pr : Int} (hpr : checkProg p = 0) (hN : NeedsR (usesL p.rules.xs) p.preds.xs.length pr N) (hp : q.preds.xs = p.preds.xs) (hr : q.rules.xs = p.rules.xs.filter fun r => bv N r.head.pred) : Only p q N := by
  obtain ⟨k1, k2, k3, _, _⟩ := checkProg_ok hpr
  have hm : ∀ r, r ∈ q.rules.xs ↔ r ∈ p.rules.xs ∧ bv N r.head.pred = true := fun r => by rw [hr]; exact List.mem_filter
  refine ⟨hp, hm, hpr, checkProg_sub hp (by rw [hr]; exact Nat.le_trans (List.length_filter_le ..) k2) (fun r h => ((hm r).1 h).1) hpr, fun c hc hb => ?_⟩
  obtain ⟨a0, a1⟩ := (inR_of k3).h c hc
  obtain ⟨b0, b1⟩ := (inR_of k3).b c hc
  exact (hN.iff _ b0 b1).2 (.step ((hN.iff _ a0 a1).1 hb) ⟨c, hc, rfl, rfl⟩)
theorem only_in {p : Prg} {h : Heap} {N : List Bool} {pr : Int} {s : Sl Rul} (hpr : checkProg p = 0) (hN : NeedsR (usesL p.rules.xs) p.preds.xs.length pr N) (hp : p.In h) (is : s.In 5 Rul.enc h) (hx : s.xs = p.rules.xs.filter fun r => bv N r.head.pred) : Prg.In ⟨p.preds, s⟩ h ∧ Only p ⟨p.preds, s⟩ N := by
  refine ⟨⟨hp.preds, ⟨⟨is, ?_⟩, fun r hr => hp.rules.each r ?_⟩⟩, only_of hpr hN rfl hx⟩
  · have h8 := (checkProg_ok hpr).2.1
    show s.xs.length ≤ _
    have : s.xs.length ≤ p.rules.xs.length := by rw [hx]; exact List.length_filter_le ..
    omega
  · have hr : r ∈ s.xs := hr
    rw [hx] at hr
    exact (List.mem_filter.1 hr).1
theorem onlyM1_ok (b : Nat) (N : Sl Bool) (g : List Rul) {h : Heap} (kb : Known h b [N.val]) (hN : N.Is 1 bEnc h) (hg : ∀ r ∈ g, 0 ≤ r.head.pred ∧ r.head.pred < N.xs.length) : PredFn Tryz.prog 118 [] [.pointer (some ⟨b, 0, none⟩)] h Rul.val g (fun r => !bv N.xs r.head.pred) := by
  intro B hB hle r hr
  have kb := kb.le hle
  have hN := hN.le hle
  obtain ⟨i0, i1⟩ := hg r hr
  have E := hN.el.el (bv_some rfl i0 i1)
  show Fn Tryz.prog 118 [r.val, .pointer (some ⟨b, 0, none⟩)] B _
  refine Fn.of Tryz.func118 rfl Tryz.ntmps118 (by kernel_rfl) (by simp) ?_
  intro e
  have I := Inv.start hB
  refine WP.seq ?_
  refine WP.region ?_
  refine Ops.go (O.box (v := .agg #[_, _, _, _, _]) I rfl rfl ?_)
  intro b2 w I
  refine Ops.y (v := .bool _) (Y.assign rfl) ?_
  refine Ops.nil ?_
  refine WP.seq ?_
  refine WP.region ?_
  refine Ops.y (v := .slice _ _ _) (Y.loadv ty_149 rfl (I.rd (kb.rd.part 0 1)) rfl rfl) ?_
  refine Ops.y (v := .pointer (some ⟨_, _, none⟩)) (Y.fa0 fa_68_0 rfl) ?_
  refine Ops.y (v := .pointer (some ⟨_, _, none⟩)) (Y.fa0 fa_65_0 rfl) ?_
  refine Ops.y (v := .int .i64 _) (Y.loadv ty_3 rfl (I.rdbox 0 rfl 0 1) rfl rfl) ?_
  refine Ops.y (v := .pointer (some ⟨_, _, none⟩)) (Y.idxEl E Tryz.underlying149 Tryz.sizeOf4 rfl rfl i0 rfl) ?_
  refine Ops.y (v := .bool _) (Y.loadv ty_4 rfl (I.rd (E.rd.part 0 1)) rfl rfl) ?_
  refine Ops.y (v := .bool _) (Y.not rfl) ?_
  refine Ops.y (v := .bool _) (Y.assign rfl) ?_
  refine Ops.nil ?_
  refine WP.ret ?_
  repeat (first | refine thenE_ret ?_ | refine blockE_ret ?_)
  exact retQ.mk (vs := [.bool _]) rfl ⟨rfl, trivial⟩ I.ext_of (rfl)
theorem onlyM2_ok (b : Nat) (pr : Int) (g : List Fct) {h : Heap} (kb : Known h b [.int .i64 pr]) : PredFn Tryz.prog 119 [] [.pointer (some ⟨b, 0, none⟩)] h Fct.val g (fun x => !decide (x.pred = pr)) := by
  intro B hB hle x _
  have kb := kb.le hle
  show Fn Tryz.prog 119 [x.val, .pointer (some ⟨b, 0, none⟩)] B _
  refine Fn.of Tryz.func119 rfl Tryz.ntmps119 (by kernel_rfl) (by simp) ?_
  intro e
  have I := Inv.start hB
  refine WP.seq ?_
  refine WP.region ?_
  refine Ops.go (O.box (v := .agg #[_, _, _, _]) I rfl rfl ?_)
  intro b2 w I
  refine Ops.y (v := .bool _) (Y.assign rfl) ?_
  refine Ops.nil ?_
  refine WP.seq ?_
  refine WP.region ?_
  refine Ops.y (v := .pointer (some ⟨_, _, none⟩)) (Y.fa0 fa_52_0 rfl) ?_
  refine Ops.y (v := .int .i64 _) (Y.loadv ty_3 rfl (I.rdbox 0 rfl 0 1) rfl rfl) ?_
  refine Ops.y (v := .int .i64 _) (Y.loadv ty_3 rfl (I.rd (kb.rd.part 0 1)) rfl rfl) ?_
  refine Ops.y (v := .bool (decide _)) (Y.nei rfl rfl) ?_
  refine Ops.y (v := .bool _) (Y.assign rfl) ?_
  refine Ops.nil ?_
  refine WP.ret ?_
  repeat (first | refine thenE_ret ?_ | refine blockE_ret ?_)
  exact retQ.mk (vs := [.bool _]) rfl ⟨rfl, trivial⟩ I.ext_of (by simp only [tup]; exact congrArg Value.bool (by simp))
theorem needs_err {p : Prg} {pr : Int} {v : Value} {h : Heap} (he : onlE p pr ≠ 0) (hN : NeeP p pr v h) : v = .tuple #[.slice none 0 0, .int .i64 (onlE p pr)] := by
  unfold onlE at he ⊢
  rcases hN with ⟨h1, rfl⟩ | ⟨h1, h2, rfl⟩ | ⟨h1, h2, _⟩
  · rw [if_pos h1]
  · rw [if_neg (fun h => h h1), if_pos h2]
  · rw [if_neg (fun h => h h1), if_neg (by omega)] at he
    exact absurd rfl he
theorem needs_fine {p : Prg} {pr : Int} {v : Value} {h : Heap} (he : onlE p pr = 0) (hN : NeeP p pr v h) : checkProg p = 0 ∧ (0 ≤ pr ∧ pr < p.preds.xs.length) ∧ ∃ s : Sl Bool, NeedsR (usesL p.rules.xs) p.preds.xs.length pr s.xs ∧ s.Is 1 bEnc h ∧ v = .tuple #[s.val, .int .i64 0] := by
  unfold onlE at he
  rcases hN with ⟨h1, rfl⟩ | ⟨h1, h2, rfl⟩ | hN
  · rw [if_pos h1] at he; exact absurd he h1
  · rw [if_neg (fun h => h h1), if_pos h2] at he; cases he
  · exact hN
set_option maxHeartbeats 8000000 in
theorem AOnly_ok (B : Base) (hB : B.ok) (p : Prg) (hp : p.In B.h) (hnm : p.Nm) (pr : Int) : Fn Tryz.prog 54 [p.val, .int .i64 pr] B (OnlP p pr) := by
  refine Fn.of Tryz.func54 rfl Tryz.ntmps54 (by kernel_rfl) (by simp) ?_
  intro e
  have I := Inv.start hB
  refine WP.seq ?_
  refine WP.region ?_
  refine Ops.go (O.box (v := .agg #[_, _]) I rfl rfl ?_)
  intro b2 w I
  refine Ops.go (O.box (v := .int .i64 _) I rfl rfl ?_)
  intro b3 w I
  refine Ops.y (v := .slice _ _ _) (Y.assign rfl) ?_
  refine Ops.y (v := .int .i64 _) (Y.assign rfl) ?_
  refine Ops.nil ?_
  by_cases he : onlE p pr ≠ 0
  · refine WP.seq ?_
    refine WP.region ?_
    refine Ops.y (v := .agg #[_, _]) (Y.loadv ty_25 rfl (I.rdbox 1 rfl 0 2) rfl rfl) ?_
    refine Ops.y (v := .int .i64 _) (Y.loadv ty_3 rfl (I.rdbox 0 rfl 0 1) rfl rfl) ?_
    refine Ops.go (O.call I Tryz.call116 (Needs_ok _ I.base_ok p hp hnm pr) rfl ?_)
    rintro v14 h1 w I le1 hN
    obtain rfl := needs_err he hN
    refine Ops.y (v := .tuple #[_, _]) (Y.move rfl) ?_
    refine Ops.y (v := .slice _ _ _) (Y.extract rfl rfl) ?_
    refine Ops.y (v := .int .i64 _) (Y.extract rfl rfl) ?_
    refine Ops.go (O.alloc I Tryz.zeroValue149 rfl ?_)
    intro b6 w I
    refine Ops.go (O.store (v := .slice _ _ _) I ty_149 0 rfl rfl rfl rfl rfl rfl (Nat.le_of_ble_eq_true rfl) rfl ?_)
    intro w I
    refine Ops.y (v := .int .i64 _) (Y.assign rfl) ?_
    refine Ops.nil ?_
    refine WP.seq ?_
    refine WP.seq ?_
    refine WP.region ?_
    refine Ops.y (v := .int .i64 _) (Y.move rfl) ?_
    refine Ops.y (v := .bool (decide _)) (Y.nei rfl rfl) ?_
    refine Ops.nil ?_
    refine WP.cond_decT rfl (he) ?_
    refine WP.seq ?_
    refine WP.region ?_
    refine Ops.y (v := .int .i64 _) (Y.move rfl) ?_
    refine Ops.y (v := .slice _ _ _) (Y.assign rfl) ?_
    refine Ops.y (v := .int .i64 _) (Y.assign rfl) ?_
    refine Ops.nil ?_
    refine WP.ret ?_
    repeat (first | refine thenE_ret ?_ | refine blockE_ret ?_)
    exact retQ.mk (vs := [.slice _ _ _, .int .i64 _]) rfl ⟨rfl, rfl, trivial⟩ I.ext_of (.inl ⟨he, rfl⟩)
  have he := Decidable.not_not.1 he
  refine WP.seq ?_
  refine WP.region ?_
  refine Ops.y (v := .agg #[_, _]) (Y.loadv ty_25 rfl (I.rdbox 1 rfl 0 2) rfl rfl) ?_
  refine Ops.y (v := .int .i64 _) (Y.loadv ty_3 rfl (I.rdbox 0 rfl 0 1) rfl rfl) ?_
  refine Ops.go (O.call I Tryz.call116 (Needs_ok _ I.base_ok p hp hnm pr) rfl ?_)
  rintro v14 h1 w I le1 hN
  obtain ⟨hpr, ⟨q0, q1⟩, N, hR, iN, rfl⟩ := needs_fine he hN
  refine Ops.y (v := .tuple #[_, _]) (Y.move rfl) ?_
  refine Ops.y (v := .slice _ _ _) (Y.extract rfl rfl) ?_
  refine Ops.y (v := .int .i64 _) (Y.extract rfl rfl) ?_
  refine Ops.go (O.alloc I Tryz.zeroValue149 rfl ?_)
  intro b6 w I
  refine Ops.go (O.store (v := .slice _ _ _) I ty_149 0 rfl rfl rfl rfl rfl rfl (Nat.le_of_ble_eq_true rfl) rfl ?_)
  intro w I
  refine Ops.y (v := .int .i64 _) (Y.assign rfl) ?_
  refine Ops.nil ?_
  obtain ⟨n5, n8, k3, _, _⟩ := checkProg_ok hpr
  have hin := heads_in k3
  have hp1 := hp.le le1
  refine WP.seq ?_
  refine WP.seq ?_
  refine WP.region ?_
  refine Ops.y (v := .int .i64 _) (Y.move rfl) ?_
  refine Ops.y (v := .bool (decide _)) (Y.nei rfl rfl) ?_
  refine Ops.nil ?_
  refine WP.cond_decF rfl ((fun h => h rfl)) ?_
  refine WP.skip ?_
  refine WP.seq ?_
  refine WP.region ?_
  refine Ops.y (v := .agg #[_, _]) (Y.loadv ty_25 rfl (I.rdbox 2 rfl 0 2) rfl rfl) ?_
  refine Ops.go (O.alloc I Tryz.zeroValue25 rfl ?_)
  intro b8 w I
  refine Ops.go (O.store (v := .agg #[_, _]) I ty_25 0 rfl rfl rfl rfl rfl rfl (Nat.le_of_ble_eq_true rfl) rfl ?_)
  intro w I
  refine Ops.nil ?_
  obtain ⟨h6, le6, _, kb6, I, _, _⟩ := (I.front 1 rfl).lend
  obtain ⟨h7, le7, _, kb3, I, _, _⟩ := (I.front 1 rfl).lend
  have hB7 := I.ext
  have hp7 := (hp1.le le6).le le7
  have iN7 := (iN.le le6).le le7
  refine WP.seq ?_
  refine WP.region ?_
  refine Ops.y (v := .pointer (some ⟨_, _, none⟩)) (Y.fa fa_25_1 rfl) ?_
  refine Ops.y (v := .slice _ _ _) (Y.loadv ty_23 rfl (I.rdbox 1 rfl 1 1) rfl rfl) ?_
  refine Ops.go (O.call I Tryz.call99 (CloneRul_ok _ I.base_ok p.rules hp7.rules.is (by omega)) rfl ?_)
  rintro _ h8 w I le8 ⟨gs, rfl, eg, og, _⟩
  obtain ⟨h9, I, mono9, _⟩ := I.unsettle og hB7
  rw [eg] at I
  have gl9 : h7.le h9 := mono9 _ le8 (Heap.le.refl _)
  refine Ops.y (v := .func (.func 118) #[] #[.pointer (some ⟨b6, 0, none⟩)]) (Y.mkfunc rfl rfl) ?_
  refine Ops.go (O.calls Tryz.call117 (DeleteRul_v I rfl (by omega) 118 Tryz.call118 [] [.pointer (some ⟨b6, 0, none⟩)] (fun r => !bv N.xs r.head.pred) (onlyM1_ok b6 N p.rules.xs ((kb6.le le7).le gl9) (iN7.le gl9) (fun r hr => by rw [hR.len]; exact hin r hr))) rfl ?_)
  rintro ed w ⟨v5, m5, rfl, rfl, I⟩
  refine ⟨_, rfl, ?_⟩
  rw [keep_filter] at I
  refine Ops.y (v := .pointer (some ⟨_, _, none⟩)) (Y.fa fa_25_1 rfl) ?_
  obtain ⟨h10, sq, le10, rfl, hx, is, I⟩ := I.settleSl Rul_len rfl
  refine Ops.go (O.store (v := sq.val) I ty_23 0 rfl rfl rfl rfl rfl rfl (Nat.le_of_ble_eq_true rfl) rfl ?_)
  intro w I
  refine Ops.nil ?_
  have gl10 : h7.le h10 := gl9.trans le10
  obtain ⟨qi, on⟩ := only_in hpr hR (hp7.le gl10) is hx
  refine WP.seq ?_
  refine WP.region ?_
  refine Ops.y (v := .agg #[_, _]) (Y.loadv ty_25 rfl (I.rdbox 0 rfl 0 2) rfl rfl) ?_
  refine Ops.go (O.call I Tryz.call86 (Reckon_own _ I.base_ok ⟨p.preds, sq⟩ qi on.cq) rfl ?_)
  rintro _ h11 w I le11 ⟨f, r, rfl, hf, hr, hm, of⟩
  refine Ops.y (v := .tuple #[_, _]) (Y.move rfl) ?_
  refine Ops.y (v := .slice _ _ _) (Y.extract rfl rfl) ?_
  refine Ops.y (v := .slice _ _ _) (Y.extract rfl rfl) ?_
  refine Ops.y (v := .slice _ _ _) (Y.assign rfl) ?_
  refine Ops.y (v := .slice _ _ _) (Y.assign rfl) ?_
  refine Ops.nil ?_
  have okf := (modK_mj (chk_rok on.cq) (strataM_least on.cq).sol (chk_nil on.cq) hm).fok
  have h125 := okf.le125
  obtain ⟨h12, I, mono12, _⟩ := I.unsettle of (hB7.trans gl10)
  have gl12 : h7.le h12 := mono12 _ (gl10.trans le11) gl10
  refine WP.seq ?_
  refine WP.region ?_
  refine Ops.y (v := .slice _ _ _) (Y.move rfl) ?_
  refine Ops.y (v := .func (.func 119) #[] #[.pointer (some ⟨b3, 0, none⟩)]) (Y.mkfunc rfl rfl) ?_
  refine Ops.go (O.calls Tryz.call68 (DeleteFct_v I rfl (by omega) 119 Tryz.call119 [] [.pointer (some ⟨b3, 0, none⟩)] (fun x => !decide (x.pred = pr)) (onlyM2_ok b3 pr f.xs (kb3.le gl12))) rfl ?_)
  rintro ed w ⟨v7, m7, rfl, rfl, I⟩
  refine ⟨_, rfl, ?_⟩
  refine Ops.y (v := v7) (Y.assign rfl) ?_
  refine Ops.y (v := .int .i64 _) (Y.assign rfl) ?_
  refine Ops.nil ?_
  rw [keep_filter] at I
  obtain ⟨h13, s, le13, rfl, hxs, iss, I⟩ := I.settleSl Fct_len rfl
  have hsl : s.xs.length ≤ f.xs.length := by rw [hxs]; exact List.length_filter_le ..
  refine WP.ret ?_
  repeat (first | refine thenE_ret ?_ | refine blockE_ret ?_)
  exact retQ.mk (vs := [.slice _ _ _, .int .i64 _]) rfl ⟨rfl, rfl, trivial⟩ I.ext_of (.inr ⟨he, s, rfl, ⟨iss, by omega⟩, ⟨_, N.xs, f.xs, r.xs, on, (hR.iff pr q0 q1).2 .refl, hm, hxs⟩⟩)
set_option maxHeartbeats 8000000 in
theorem OnlyOf_ok (B : Base) (hB : B.ok) (p : Prg) (hp : p.In B.h) (pr : Int) (hpr : checkProg p = 0) (q0 : 0 ≤ pr) (q1 : pr < p.preds.xs.length) : Fn Tryz.prog 55 [p.val, .int .i64 pr] B (fun v h => ∃ s : Sl Fct, v = s.val ∧ Fcts s h ∧ OnlQ p pr s.xs) := by
  obtain ⟨n5, n8, k3, _, _⟩ := checkProg_ok hpr
  have hin := heads_in k3
  refine Fn.of Tryz.func55 rfl Tryz.ntmps55 (by kernel_rfl) (by simp) ?_
  intro e
  have I := Inv.start hB
  refine WP.seq ?_
  refine WP.region ?_
  refine Ops.go (O.box (v := .agg #[_, _]) I rfl rfl ?_)
  intro b2 w I
  refine Ops.y (v := .slice _ _ _) (Y.assign rfl) ?_
  refine Ops.nil ?_
  refine WP.seq ?_
  refine WP.region ?_
  refine Ops.y (v := .agg #[_, _]) (Y.loadv ty_25 rfl (I.rdbox 0 rfl 0 2) rfl rfl) ?_
  refine Ops.y (v := .int .i64 _) (Y.move rfl) ?_
  refine Ops.go (O.call I Tryz.call120 (NeedsOf_ok _ I.base_ok p hp pr hpr q0 q1) rfl ?_)
  rintro _ h1 w I le1 ⟨N, hR, iN, rfl⟩
  refine Ops.y (v := .slice _ _ _) (Y.assign rfl) ?_
  refine Ops.nil ?_
  have hp1 := hp.le le1
  refine WP.seq ?_
  refine WP.region ?_
  refine Ops.y (v := .pointer (some ⟨_, _, none⟩)) (Y.fa0 fa_25_0 rfl) ?_
  refine Ops.y (v := .slice _ _ _) (Y.loadv ty_22 rfl (I.rdbox 0 rfl 0 1) rfl rfl) ?_
  refine Ops.y (v := .agg #[.slice _ _ _, .slice _ _ _]) (Y.build pl_25 Tryz.zeroValue25 rfl rfl) ?_
  refine Ops.go (O.alloc I Tryz.zeroValue25 rfl ?_)
  intro b6 w I
  refine Ops.go (O.store (v := .agg #[_, _]) I ty_25 0 rfl rfl rfl rfl rfl rfl (Nat.le_of_ble_eq_true rfl) rfl ?_)
  intro w I
  refine Ops.nil ?_
  refine WP.seq ?_
  refine WP.seq ?_
  refine WP.region ?_
  refine Ops.y (v := .int .i64 _) (Y.assign rfl) ?_
  refine Ops.nil ?_
  refine WP.block ?_
  obtain ⟨P, hP⟩ : ∃ P : Rul → Bool, P = fun r => bv N.xs r.head.pred := ⟨_, rfl⟩
  refine WP.loopE (σ := Nat × Option Addr × Nat × Heap) (fun s => [(1, .int .i64 pr), (2, .pointer (some ⟨b2, 0, none⟩)), (5, N.val), (6, .pointer (some ⟨b6, 0, none⟩)), (7, .int .i64 s.1)])
    (fun s w => Inv B s.2.2.2 [ownSl 68 5 (.slice s.2.1 ((p.rules.xs.take s.1).filter P).length s.2.2.1) ((p.rules.xs.take s.1).filter P).length (((p.rules.xs.take s.1).filter P).flatMap Rul.enc), box b6 [p.preds.val, .slice s.2.1 ((p.rules.xs.take s.1).filter P).length s.2.2.1] 25, box b2 p.enc 25] w ∧ s.1 ≤ p.rules.xs.length ∧ h1.le s.2.2.2) (fun s => p.rules.xs.length - s.1)
    ⟨(0, none, 0, h1), ⟨rfl, rfl, rfl, rfl, rfl, trivial⟩, I.nilSl 68 5, Nat.zero_le _, Heap.le.refl _⟩ ?_
  rintro ⟨k, a, c, hh⟩ e w ⟨I, hk, gl⟩
  dsimp only at I hk gl ⊢
  have hfl : ((p.rules.xs.take k).filter P).length ≤ k := Nat.le_trans (List.length_filter_le ..) (by rw [List.length_take]; omega)
  obtain ⟨ws, hws⟩ : ∃ ws, (p.rules.xs.take k).filter P = ws := ⟨_, rfl⟩
  rw [hws] at I hfl
  refine WP.seq ?_
  refine WP.seq ?_
  refine WP.region ?_
  refine Ops.y (v := .int .i64 _) (Y.move rfl) ?_
  refine Ops.y (v := .pointer (some ⟨_, _, none⟩)) (Y.fa fa_25_1 rfl) ?_
  refine Ops.y (v := .slice _ _ _) (Y.loadv ty_23 rfl (I.rdbox 2 rfl 1 1) rfl rfl) ?_
  refine Ops.y (v := .int .i64 _) (Y.lens Tryz.underlying23 rfl) ?_
  refine Ops.y (v := .bool (decide _)) (Y.lti rfl rfl) ?_
  refine Ops.nil ?_
  refine WP.cond_dec rfl (fun h4 => ?_) (fun h4 => ?_)
  · have hk' : k < p.rules.xs.length := by omega
    have Er := (hp1.le gl).rules.is.at hk'
    obtain ⟨i0, i1⟩ := hin _ (List.getElem_mem hk')
    have El1 := (iN.le gl).el.el (bv_some hR.len i0 i1)
    have hn := take_filter P hk'
    rw [hws, hP] at hn
    refine WP.skip ?_
    refine WP.seq ?_
    refine WP.block ?_
    refine WP.seq ?_
    refine WP.region ?_
    refine Ops.y (v := .slice _ _ _) (Y.move rfl) ?_
    refine Ops.y (v := .pointer (some ⟨_, _, none⟩)) (Y.fa fa_25_1 rfl) ?_
    refine Ops.y (v := .slice _ _ _) (Y.loadv ty_23 rfl (I.rdbox 2 rfl 1 1) rfl rfl) ?_
    refine Ops.y (v := .int .i64 _) (Y.move rfl) ?_
    refine Ops.y (v := .pointer (some ⟨_, _, none⟩)) (Y.idxEl Er Tryz.underlying23 Tryz.sizeOf68 rfl rfl (Int.natCast_nonneg _) rfl) ?_
    refine Ops.y (v := .pointer (some ⟨_, _, none⟩)) (Y.fa0 fa_68_0 rfl) ?_
    refine Ops.y (v := .pointer (some ⟨_, _, none⟩)) (Y.fa0 fa_65_0 rfl) ?_
    refine Ops.y (v := .int .i64 _) (Y.loadv ty_3 rfl (I.rd (Er.rd.part 0 1)) rfl rfl) ?_
    refine Ops.y (v := .pointer (some ⟨_, _, none⟩)) (Y.idxEl El1 Tryz.underlying149 Tryz.sizeOf4 rfl rfl i0 rfl) ?_
    refine Ops.y (v := .bool _) (Y.loadv ty_4 rfl (I.rd (El1.rd.part 0 1)) rfl rfl) ?_
    refine Ops.nil ?_
    refine WP.cond rfl (fun h6 => ?_) (fun h6 => ?_)
    · rw [if_pos h6, ← hP] at hn
      refine WP.regionG mixed RAp.pre ⟨hh, none⟩ (J := JAp B [box b6 [p.preds.val, .slice a ws.length c] 25, box b2 p.enc 25] 68 5 ws.length 1 (.slice a ws.length c) (ws.flatMap Rul.enc) p.rules.xs[k].enc 8) ⟨rfl, I.drew⟩ 9 (by kernel_rfl) ?_
      refine OpsG.y_ (v := .pointer (some ⟨_, _, none⟩)) (fun _ => runsG_none _) RAp.pre (JAp.set (by decide)) (fun _ s w us hl hj => have I := hj.base; have hl := hl.h; Y.fa fa_25_1 rfl) ?_
      refine OpsG.y_ (v := .slice _ _ _) (fun _ => runsG_none _) RAp.pre (JAp.set (by decide)) (fun _ s w us hl hj => have I := hj.base; have hl := hl.h; Y.loadv ty_23 rfl (I.rdbox 0 rfl 1 1) rfl rfl) ?_
      refine OpsG.y_ (v := .pointer (some ⟨_, _, none⟩)) (fun _ => runsG_none _) RAp.pre (JAp.set (by decide)) (fun _ s w us hl hj => have I := hj.base; have hl := hl.h; Y.fa fa_25_1 rfl) ?_
      refine OpsG.y_ (v := .slice _ _ _) (fun _ => runsG_none _) RAp.pre (JAp.set (by decide)) (fun _ s w us hl hj => have I := hj.base; have hl := hl.h; Y.loadv ty_23 rfl (I.rdbox 1 rfl 1 1) rfl rfl) ?_
      refine OpsG.y_ (v := .int .i64 _) (fun _ => runsG_none _) RAp.pre (JAp.set (by decide)) (fun _ s w us hl hj => have I := hj.base; have hl := hl.h; Y.move rfl) ?_
      refine OpsG.y_ (v := .pointer (some ⟨_, _, none⟩)) (fun _ => runsG_none _) RAp.pre (JAp.set (by decide)) (fun _ s w us hl hj => have I := hj.base; have hl := hl.h; Y.idxEl Er Tryz.underlying23 Tryz.sizeOf68 rfl rfl (Int.natCast_nonneg _) rfl) ?_
      refine OpsG.y_ (v := .agg #[_, _, _, _, _]) (fun _ => runsG_none _) RAp.pre (JAp.set (by decide)) (fun _ s w us hl hj => have I := hj.base; have hl := hl.h; Y.loadv ty_68 rfl (I.rd ((Er.rd.part 0 5).le hl)) rfl rfl) ?_
      refine OpsG.x_ (Φ := KnA (LitW 68 p.rules.xs[k].enc 1)) (KnA.mono LitW.mono) (fun _ => runsG_none _) (fun D' z w hDk hl hj => AllG.all fun us => ?_) ?_
      · refine hj.know (by decide) fun N I => ?_
        exact O.mklit (cs := p.rules.xs[k].enc) I Tryz.underlying23 Tryz.sizeOf68 Tryz.zeroValue68 (by decide) (by decide) rfl rfl (fun v h w I le sl => ⟨h, le, I, sl⟩)
      refine OpsG.x_ (Φ := AtAp (ws.length + 1)) AtAp.mono (fun _ => runsG_none _) (fun D' z w hDk hl hj => ?_) ?_
      · intro u41 q41
        obtain ⟨bl, rfl, hbl⟩ := q41 rfl
        refine hj.app hDk fun I => ?_
        have kb : Known z.h bl p.rules.xs[k].enc := ⟨fun j v hv => by simp [Heap.cell, hbl, hv]⟩
        refine O.append I Tryz.underlying23 et_68 0 rfl rfl rfl (I.rd kb.rd) rfl rfl (by decide) (by omega) (by omega) ?_
        intro g c w I
        exact ⟨g, c, rfl, I⟩
      refine OpsG.nil ?_
      intro D z w hD hl hj u41 q41 u42 q42
      obtain ⟨g, c2, rfl, h7⟩ := q42 rfl
      have I := hj.inv
      rw [h7] at I
      refine Ops.y (v := .pointer (some ⟨_, _, none⟩)) (Y.fa fa_25_1 rfl) ?_
      refine Ops.go (O.store (v := .slice _ _ _) I ty_23 1 rfl rfl rfl rfl rfl rfl (Nat.le_of_ble_eq_true rfl) rfl ?_)
      intro w I
      refine Ops.nil ?_
      refine WP.region ?_
      refine Ops.y (v := .int .i64 _) (Y.move rfl) ?_
      refine Ops.y (v := .int .i64 _) (Y.addi rfl rfl ⟨by omega, by omega⟩) ?_
      refine Ops.y (v := .int .i64 _) (Y.assign rfl) ?_
      refine Ops.nil ?_
      refine ⟨(k + 1, some ⟨g, 0, none⟩, c2, z.h), ⟨⟨rfl, rfl, rfl, rfl, rfl, trivial⟩, ?_, by dsimp only; omega, gl.trans hl.h⟩, by dsimp only; omega⟩
      dsimp only
      rw [hn, List.length_append, List.length_singleton, List.flatMap_append, List.flatMap_singleton]
      exact I
    · rw [if_neg (fun h => by have h : bv N.xs p.rules.xs[k].head.pred = true := h; rw [h6] at h; cases h), List.append_nil, ← hP] at hn
      refine WP.skip ?_
      refine WP.region ?_
      refine Ops.y (v := .int .i64 _) (Y.move rfl) ?_
      refine Ops.y (v := .int .i64 _) (Y.addi rfl rfl ⟨by omega, by omega⟩) ?_
      refine Ops.y (v := .int .i64 _) (Y.assign rfl) ?_
      refine Ops.nil ?_
      exact ⟨(k + 1, a, c, hh), ⟨⟨rfl, rfl, rfl, rfl, rfl, trivial⟩, by dsimp only; rw [hn]; exact I, by dsimp only; omega, gl⟩, by dsimp only; omega⟩
  obtain rfl : k = p.rules.xs.length := by omega
  rw [List.take_length, hP] at hws
  obtain ⟨h10, sq, le10, hv, hx, is, I⟩ := I.settleSl Rul_len rfl
  have I : Inv B h10 [box b6 [p.preds.val, sq.val] 25, box b2 p.enc 25] w := by rw [hv]; exact I
  obtain ⟨qi, on⟩ := only_in hpr hR ((hp1.le gl).le le10) is (hx.trans hws.symm)
  refine WP.exit ?_
  refine WP.seq ?_
  refine WP.region ?_
  refine Ops.y (v := .slice _ _ _) (Y.assign rfl) ?_
  refine Ops.nil ?_
  refine WP.seq ?_
  refine WP.region ?_
  refine Ops.y (v := .agg #[_, _]) (Y.loadv ty_25 rfl (I.rdbox 0 rfl 0 2) rfl rfl) ?_
  refine Ops.go (O.call I Tryz.call30 (ModelOf_ok _ I.base_ok ⟨p.preds, sq⟩ qi on.cq) rfl ?_)
  rintro _ h11 w I le11 ⟨f, rs, rfl, hf, hm⟩
  refine Ops.y (v := .slice _ _ _) (Y.assign rfl) ?_
  refine Ops.nil ?_
  have okf := (modK_mj (chk_rok on.cq) (strataM_least on.cq).sol (chk_nil on.cq) hm).fok
  have h125 := okf.le125
  refine WP.seq ?_
  refine WP.seq ?_
  refine WP.region ?_
  refine Ops.y (v := .int .i64 _) (Y.assign rfl) ?_
  refine Ops.nil ?_
  refine WP.block ?_
  refine WP.loopE (σ := Nat × Value × Heap) (fun s => [(1, .int .i64 pr), (8, s.2.1), (9, f.val), (10, .int .i64 s.1)])
    (fun s w => Inv B s.2.2 [ownSl 52 4 s.2.1 ((f.xs.take s.1).filter fun x => decide (x.pred = pr)).length (((f.xs.take s.1).filter fun x => decide (x.pred = pr)).flatMap Fct.enc)] w ∧ s.1 ≤ f.xs.length ∧ h11.le s.2.2) (fun s => f.xs.length - s.1)
    ⟨(0, .slice none 0 0, h11), ⟨rfl, rfl, rfl, rfl, trivial⟩, (I.weak (List.nil_sublist _)).nilSl 52 4, Nat.zero_le _, Heap.le.refl _⟩ ?_
  rintro ⟨k, v, hh⟩ e w ⟨I, hk, gl⟩
  dsimp only at I hk gl ⊢
  have hfl : ((f.xs.take k).filter fun x => decide (x.pred = pr)).length ≤ k := Nat.le_trans (List.length_filter_le ..) (by rw [List.length_take]; omega)
  refine WP.seq ?_
  refine WP.seq ?_
  refine WP.region ?_
  refine Ops.y (v := .int .i64 _) (Y.move rfl) ?_
  refine Ops.y (v := .slice _ _ _) (Y.move rfl) ?_
  refine Ops.y (v := .int .i64 _) (Y.lens Tryz.underlying26 rfl) ?_
  refine Ops.y (v := .bool (decide _)) (Y.lti rfl rfl) ?_
  refine Ops.nil ?_
  refine WP.cond_dec rfl (fun h11 => ?_) (fun h11 => ?_)
  · have hk' : k < f.xs.length := by omega
    have E := (hf.le gl).at hk'
    have hn := take_filter (fun x : Fct => decide (x.pred = pr)) hk'
    refine WP.skip ?_
    refine WP.seq ?_
    refine WP.block ?_
    refine WP.seq ?_
    refine WP.region ?_
    refine Ops.y (v := .slice _ _ _) (Y.move rfl) ?_
    refine Ops.y (v := .int .i64 _) (Y.move rfl) ?_
    refine Ops.y (v := .pointer (some ⟨_, _, none⟩)) (Y.idxEl E Tryz.underlying26 Tryz.sizeOf52 rfl rfl (Int.natCast_nonneg _) rfl) ?_
    refine Ops.y (v := .pointer (some ⟨_, _, none⟩)) (Y.fa0 fa_52_0 rfl) ?_
    refine Ops.y (v := .int .i64 _) (Y.loadv ty_3 rfl (I.rd (E.rd.part 0 1)) rfl rfl) ?_
    refine Ops.y (v := .int .i64 _) (Y.move rfl) ?_
    refine Ops.y (v := .bool (decide _)) (Y.eqi rfl rfl) ?_
    refine Ops.nil ?_
    refine WP.cond_dec rfl (fun h13 => ?_) (fun h13 => ?_)
    · rw [if_pos (decide_eq_true h13)] at hn
      refine WP.region ?_
      refine Ops.y (v := v) (Y.move rfl) ?_
      refine Ops.y (v := .slice _ _ _) (Y.move rfl) ?_
      refine Ops.y (v := .int .i64 _) (Y.move rfl) ?_
      refine Ops.y (v := .pointer (some ⟨_, _, none⟩)) (Y.idxEl E Tryz.underlying26 Tryz.sizeOf52 rfl rfl (Int.natCast_nonneg _) rfl) ?_
      refine Ops.y (v := .agg #[_, _, _, _]) (Y.loadv ty_52 rfl (I.rd (E.rd.part 0 4)) rfl rfl) ?_
      refine Ops.go (O.mksl (xs := [f.xs[k]]) (enc := Fct.enc) I Tryz.underlying26 Tryz.sizeOf52 Tryz.zeroValue52 rfl (Nat.le_of_ble_eq_true rfl) rfl rfl (by decide) (fun _ => rfl) ?_)
      intro b64 h64 w I le64 sl64
      refine Ops.go (O.append I Tryz.underlying26 et_52 0 rfl rfl rfl (I.rd (sl64 0 _ rfl).2) rfl rfl (by decide) ((by omega)) (by omega) ?_)
      intro b65 c65 w I
      refine Ops.y (v := .slice _ _ _) (Y.assign rfl) ?_
      refine Ops.nil ?_
      refine WP.region ?_
      refine Ops.y (v := .int .i64 _) (Y.move rfl) ?_
      refine Ops.y (v := .int .i64 _) (Y.addi rfl rfl ⟨by omega, by omega⟩) ?_
      refine Ops.y (v := .int .i64 _) (Y.assign rfl) ?_
      refine Ops.nil ?_
      refine ⟨(k + 1, .slice (some ⟨b65, 0, none⟩) (((f.xs.take k).filter fun x => decide (x.pred = pr)).length + 1) c65, h64), ⟨⟨rfl, rfl, rfl, rfl, trivial⟩, ?_, by dsimp only; omega, gl.trans le64⟩, by dsimp only; omega⟩
      dsimp only
      rw [hn, List.length_append, List.length_singleton, List.flatMap_append, List.flatMap_singleton]
      exact I
    · rw [if_neg (by rw [decide_eq_false h13]; decide), List.append_nil] at hn
      refine WP.skip ?_
      refine WP.region ?_
      refine Ops.y (v := .int .i64 _) (Y.move rfl) ?_
      refine Ops.y (v := .int .i64 _) (Y.addi rfl rfl ⟨by omega, by omega⟩) ?_
      refine Ops.y (v := .int .i64 _) (Y.assign rfl) ?_
      refine Ops.nil ?_
      exact ⟨(k + 1, v, hh), ⟨⟨rfl, rfl, rfl, rfl, trivial⟩, by dsimp only; rw [hn]; exact I, by dsimp only; omega, gl⟩, by dsimp only; omega⟩
  obtain rfl : k = f.xs.length := by omega
  rw [List.take_length] at I hfl
  obtain ⟨h12, s, le12, rfl, hxs, iss, I⟩ := I.settleSl Fct_len rfl
  refine WP.exit ?_
  refine WP.seq ?_
  refine WP.region ?_
  refine Ops.y (v := .slice _ _ _) (Y.move rfl) ?_
  refine Ops.y (v := .slice _ _ _) (Y.assign rfl) ?_
  refine Ops.nil ?_
  refine WP.ret ?_
  repeat (first | refine thenE_ret ?_ | refine blockE_ret ?_)
  exact retQ.mk (vs := [.slice _ _ _]) rfl ⟨rfl, trivial⟩ I.ext_of (⟨s, rfl, ⟨iss, by rw [hxs]; omega⟩, ⟨_, N.xs, f.xs, rs, on, (hR.iff pr q0 q1).2 .refl, hm, hxs⟩⟩)
end Go.TF
end
section
/- The roads, their arrays the caller's own. -/
namespace Go.TF
open Go Go.RowKit Go.Proofs
set_option maxRecDepth 20000

def prC : List Prd := [⟨bEdge, 2, 0⟩, ⟨bFar, 2, 2⟩, ⟨bLone, 1, 0⟩]
structure RoadsM (v : Value) (h : Heap) (M : List SA) (bp br : Nat) (r0 r1 r2 r3 r4 r5 r6 : Rul) : Prop where
  val : v = .agg #[.slice (some ⟨bp, 0, none⟩) 3 3, .slice (some ⟨br, 0, none⟩) 7 7]
  own : M = [box br ([r0, r1, r2, r3, r4, r5, r6].flatMap Rul.enc) 68, box bp (prC.flatMap Prd.enc) 62]
  is : ∀ x ∈ [r0, r1, r2, r3, r4, r5, r6], x.In h
  cap : ∀ x ∈ [r0, r1, r2, r3, r4, r5, r6], x.body.xs.length ≤ x.body.cap
  er : [r0, r1, r2, r3, r4, r5, r6].map Rul.er = roadsC.rules.xs
end Go.TF
end
section
/- What the laws of programs begin with. -/
namespace Go.TF
open Go Go.RowKit Go.Proofs
set_option maxRecDepth 20000

def LtlS (x : Ltl) : Sp := fun u h => ∃ y : Ltl, u = y.val ∧ y.er = x ∧ y.In h
theorem LtlS.mono {x : Ltl} : MonoS (LtlS x) := fun _ _ _ hl ⟨s, a, b, c⟩ => ⟨s, a, b, c.le hl⟩
def LtlsS (xs : List Ltl) : Sp := fun u h => ∃ s : Sl Ltl, u = s.val ∧ s.xs.map Ltl.er = xs ∧ Ltls s h ∧ s.at_ = some ⟨s.blk, s.off, none⟩
theorem LtlsS.mono {xs : List Ltl} : MonoS (LtlsS xs) := fun _ _ _ hl ⟨s, a, b, c, d⟩ => ⟨s, a, b, c.le hl, d⟩
def LtlsF (xs : List Ltl) : Sp := fun u h => ∃ s : Sl Ltl, u = s.val ∧ s.xs.map Ltl.er = xs ∧ Ltls s h ∧ s.at_ = some ⟨s.blk, s.off, none⟩ ∧ s.cap = s.xs.length
theorem LtlsF.mono {xs : List Ltl} : MonoS (LtlsF xs) := fun _ _ _ hl ⟨s, a, b, c, d⟩ => ⟨s, a, b, c.le hl, d⟩
theorem RoadsAt.nm {p : Prg} {h : Heap} (x : RoadsAt p h) : p.Nm := by
  unfold Prg.Nm
  rw [x.preds]
  decide
theorem RoadsAt.check {p : Prg} {h : Heap} (x : RoadsAt p h) : checkProg p = 0 := by rw [← checkProg_er, x.er, roads_check]
theorem RoadsAt.uses {p : Prg} {h : Heap} (x : RoadsAt p h) : (usesL p.rules.xs).map cEr = usesL roadsC.rules.xs := by
  rw [← usesL_er]
  have := congrArg (fun q : Prg => q.rules.xs) x.er
  exact congrArg usesL this
theorem RoadsAt.len {p : Prg} {h : Heap} (x : RoadsAt p h) : p.preds.xs.length = 3 := by rw [x.preds]; rfl
end Go.TF
end
section
/- The laws of programs: each returns true. -/
namespace Go.TF
open Go Go.RowKit Go.Proofs
set_option maxRecDepth 20000

theorem PrgOk.nm {p : Prg} {h : Heap} (x : PrgOk p h) : p.Nm := fun y hy => by
  have := (x.preds.each y hy).name
  have h2 : reachBytes ≤ 140737488355328 := by decide
  omega
end Go.TF
end
section
/- The other two laws of programs: each returns true. -/
namespace Go.TF
open Go Go.RowKit Go.Proofs
set_option maxRecDepth 20000

def Asked (L : List Int) (k : Int) (cs : List (Int × Ltl)) : Prop := lv L k = 0 ∨ ∃ c ∈ cs, c.1 = k ∧ lv L k = lst L c
theorem Least.asked {cs : List (Int × Ltl)} {n : Nat} {L : List Int} (hr : InR cs n) (h : Least cs n L) {k : Int} (k0 : 0 ≤ k) (k1 : k < n) : Asked L k cs := by
  refine Classical.byContradiction fun hno => ?_
  unfold Asked at hno
  have hz : lv L k ≠ 0 := fun e => hno (.inl e)
  have hc : ∀ c ∈ cs, c.1 = k → lv L k ≠ lst L c := fun c hc e e2 => hno (.inr ⟨c, hc, e, e2⟩)
  have hp := h.sol.pos k
  have hkl : k < L.length := by rw [h.sol.len]; exact k1
  have hle : ∀ i : Int, 0 ≤ i → lv (L.set k.toNat (lv L k - 1)) i ≤ lv L i := fun i h0 => by
    rw [lv_set k0 hkl _ _ h0]; split
    · rename_i e; subst e; omega
    · omega
  have hM : Sol cs n (L.set k.toNat (lv L k - 1)) := by
    refine ⟨by simp [h.sol.len], fun i => ?_, fun c hcm => ?_⟩
    · have key : ∀ i : Int, 0 ≤ i → 0 ≤ lv (L.set k.toNat (lv L k - 1)) i := fun i h0 => by
        rw [lv_set k0 hkl _ _ h0]; split
        · omega
        · exact h.sol.pos i
      by_cases h0 : 0 ≤ i
      · exact key i h0
      · rw [lv_neg _ (by omega)]; exact key 0 (Int.le_refl 0)
    · have hh := hr.h c hcm
      have hb := hr.b c hcm
      have hs := h.sol.sat c hcm
      have h2 := hle _ hb.1
      unfold SatC lst at hs ⊢
      rw [lv_set k0 hkl _ c.1 hh.1]
      split
      · rename_i e
        have := hc c hcm e
        unfold lst at this
        rw [e] at hs; omega
      · omega
  have := h.least _ hM k
  rw [lv_set k0 hkl _ _ k0, if_pos rfl] at this
  omega
theorem Least.lt {cs : List (Int × Ltl)} {n : Nat} {L : List Int} (hr : InR cs n) (h : Least cs n L) {i : Int} (h0 : 0 ≤ i) (h1 : i < n) : lv L i < n := by
  obtain ⟨M', hM', hlt⟩ := h.sol.small hr
  exact Int.lt_of_le_of_lt (h.least M' hM' i) (hlt i h0 h1)
theorem Reach.trans {cs : List (Int × Ltl)} {a b c : Int} (h : Reach cs a b) (k : Reach cs b c) : Reach cs a c := by
  induction k with
  | refl => exact h
  | step _ hu ih => exact .step ih hu
end Go.TF
end
section
/- The roads' model; what must be in any case of the model. -/
namespace Go.TF
open Go Go.RowKit Go.Proofs
set_option maxRecDepth 20000

def rdM0 : List Fct := ((cloF (turnT roadsC [0, 0, 1] 0) 8 []).getD ([], 0)).1
def rdM : List Fct := ((cloF (turnT roadsC [0, 0, 1] 1) 8 rdM0).getD ([], 0)).1
theorem rdM0_clo : cloF (turnT roadsC [0, 0, 1] 0) 8 [] = some (rdM0, 4) := by kernel_rfl
theorem rdM_clo : cloF (turnT roadsC [0, 0, 1] 1) 8 rdM0 = some (rdM, 1) := by kernel_rfl
section
variable {p : Prg} {h : Heap} (hp : RoadsAt p h)
include hp
theorem rd_ofQs (st : Int) (n : Nat) (hn : n < 7) : ofQ p [0, 0, 1] st n = ofQ roadsC [0, 0, 1] st n := by
  have h1 : (p.rules.xs.map Rul.er).getD n default = roadsC.rules.xs.getD n default := by rw [rd_rules hp]
  have h2 : n < p.rules.xs.length := by rw [rd_len hp]; exact hn
  rw [List.getD_eq_getElem?_getD, List.getElem?_map, List.getElem?_eq_getElem h2] at h1
  unfold ofQ
  rw [← h1, List.getD_eq_getElem?_getD, List.getElem?_eq_getElem h2]
  rfl
theorem rd_told (st : Int) (f : List Fct) : toldL p.preds.xs f p.rules.xs (ofQ p [0, 0, 1] st) = toldL roadsC.preds.xs f roadsC.rules.xs (ofQ roadsC [0, 0, 1] st) := by
  rw [rd_preds hp, ← rd_rules hp, toldL_er]
  exact toldK_congr fun n hn => rd_ofQs hp st n (by rw [rd_len hp] at hn; exact hn)
theorem rd_turn (st : Int) : turnT p [0, 0, 1] st = turnT roadsC [0, 0, 1] st := by
  funext f
  unfold turnT
  rw [rd_told hp, rd_preds hp]
theorem rd_mod : ModK p (strataM p) (numS (strataM p)) rdM [4, 1] := by
  rw [rd_strata hp, show numS [0, 0, 1] = 2 by decide]
  refine ⟨rdM0, [4], 1, ⟨[], [], 4, ⟨rfl, rfl⟩, ?_, rfl⟩, ?_, rfl⟩
  · rw [rd_turn hp]; exact cloF_clo rdM0_clo
  · rw [rd_turn hp]; exact cloF_clo rdM_clo
end
end Go.TF
end
section
/- What must be of questions in any case; the laws of Match and Only. -/
namespace Go.TF
open Go Go.RowKit Go.Proofs
set_option maxRecDepth 20000

theorem Match_at (B : Base) (hB : B.ok) (p : Prg) (hp : p.In B.h) (hnm : p.Nm) (f : Sl Fct) (hf : Fcts f B.h) (a : Atm) (ha : a.In B.h) (r : List Fct × Int) (h : matchOf p f.xs a = r) : Fn Tryz.prog 51 [p.val, f.val, a.val] B (MatP r) := h ▸ Match_ok B hB p hp hnm f hf a ha
theorem match_rd {p : Prg} {h : Heap} (hp : RoadsAt p h) {a : Atm} {r : List Fct} (h1 : checkAtom roadsC.preds.xs a = 0) (h2 : pathsC.filter (fitB a) = r) : matchOf p pathsC a = (r, 0) := by
  have ha : askR p pathsC = 0 := askR_iff.2 ⟨hp.check, checkFacts_ok.1 (by rw [rd_preds hp]; kernel_rfl)⟩
  unfold matchOf
  rw [if_neg (by rw [ha]; decide), rd_preds hp, if_neg (by rw [h1]; decide), h2]
theorem only_rd {p : Prg} {h : Heap} (hp : RoadsAt p h) : onlE p 2 = 0 ∧ onlE p 3 = 7 := by
  have hl : p.preds.xs.length = 3 := by rw [rd_preds hp]; rfl
  unfold onlE
  rw [if_neg (fun h => h hp.check), if_neg (by rw [hl]; decide), if_neg (fun h => h hp.check), if_pos (by rw [hl]; decide)]
  exact ⟨rfl, rfl⟩
theorem Only_rd2 (B : Base) (hB : B.ok) (p : Prg) (hp : RoadsAt p B.h) : Fn Tryz.prog 54 [p.val, .int .i64 2] B (fun v h => ∃ s : Sl Fct, v = .tuple #[s.val, .int .i64 0] ∧ Fcts s h ∧ s.xs = [⟨2, 3, 0, 0⟩]) :=
  (AOnly_ok B hB p hp.is hp.nm 2).mono fun v h' _ hv => by
    rcases hv with ⟨h1, _⟩ | ⟨_, s, rfl, hs, hq⟩
    · exact absurd (only_rd hp).1 h1
    · exact ⟨s, rfl, hs, by rw [hq.eq (rd_mod hp)]; kernel_rfl⟩
theorem Only_rd3 (B : Base) (hB : B.ok) (p : Prg) (hp : RoadsAt p B.h) : Fn Tryz.prog 54 [p.val, .int .i64 3] B (fun v _ => v = .tuple #[.slice none 0 0, .int .i64 7]) :=
  (AOnly_ok B hB p hp.is hp.nm 3).mono fun v h' _ hv => by
    have e := (only_rd hp).2
    rcases hv with ⟨_, rfl⟩ | ⟨h1, _⟩
    · rw [e]
    · rw [e] at h1; cases h1
theorem fil1 (b : Nat) : pathsC.filter (fitB ⟨0, ⟨some ⟨b, 0, none⟩, 2, [tV 0, tC 2]⟩⟩) = [⟨0, 1, 2, 0⟩] := by kernel_rfl
theorem fil2 (b : Nat) : pathsC.filter (fitB ⟨0, ⟨some ⟨b, 0, none⟩, 2, [tV 0, tV 0]⟩⟩) = [] := by kernel_rfl
theorem chk1 (b : Nat) : checkAtom roadsC.preds.xs ⟨0, ⟨some ⟨b, 0, none⟩, 2, [tV 0, tC 2]⟩⟩ = 0 := by kernel_rfl
theorem chk2 (b : Nat) : checkAtom roadsC.preds.xs ⟨0, ⟨some ⟨b, 0, none⟩, 2, [tV 0, tV 0]⟩⟩ = 0 := by kernel_rfl
set_option maxHeartbeats 4000000 in
theorem askBegun_ok (B : Base) (hB : B.ok) : Fn Tryz.prog 53 [] B (fun v _ => v = .bool true) := by
  refine Fn.of Tryz.func53 rfl Tryz.ntmps53 (by kernel_rfl) (by simp) ?_
  intro e
  have I := Inv.start hB
  refine WP.seq ?_
  refine WP.region ?_
  refine Ops.y (v := .bool _) (Y.assign rfl) ?_
  refine Ops.nil ?_
  refine WP.seq ?_
  refine WP.region ?_
  refine Ops.go (O.call I Tryz.call81 (roads_ok _ I.base_ok) rfl ?_)
  rintro _ h1 w I le1 ⟨p1, rfl, hp1⟩
  refine Ops.go (O.call I Tryz.call90 (paths_ok _ I.base_ok) rfl ?_)
  rintro _ h2 w I le2 ⟨f1, rfl, ef1, if1⟩
  refine Ops.go (O.callv I Tryz.call57 (lV_ok _ I.base_ok 0) rfl ?_)
  intro w I
  refine Ops.go (O.callv I Tryz.call58 (lC_ok _ I.base_ok 2) rfl ?_)
  intro w I
  refine Ops.go (O.mksl (xs := [tV 0, tC 2]) (enc := Trm.enc) I Tryz.underlying63 Tryz.sizeOf91 Tryz.zeroValue91 rfl (Nat.le_of_ble_eq_true rfl) rfl rfl (by decide) (fun _ => rfl) ?_)
  intro b14 h14 w I le14 sl14
  refine Ops.go (O.callv I Tryz.call115 (lAt_ok _ I.base_ok 0 ⟨some ⟨b14, 0, none⟩, 2, [tV 0, tC 2]⟩) rfl ?_)
  intro w I
  refine Ops.go (O.call I Tryz.call51 (Match_at _ I.base_ok p1 ((hp1.is.le le2).le le14) hp1.nm f1 (if1.le le14) ⟨0, ⟨some ⟨b14, 0, none⟩, 2, [tV 0, tC 2]⟩⟩ ⟨sl14, by simp⟩ ([⟨0, 1, 2, 0⟩], 0) (by rw [ef1]; exact match_rd hp1 (chk1 b14) (fil1 b14))) rfl ?_)
  rintro _ h3 w I le3 ⟨m1, rfl, em1, im1⟩
  refine Ops.y (v := .tuple #[_, _]) (Y.move rfl) ?_
  refine Ops.y (v := .slice _ _ _) (Y.extract rfl rfl) ?_
  refine Ops.y (v := .int .i64 _) (Y.extract rfl rfl) ?_
  refine Ops.y (v := .slice _ _ _) (Y.assign rfl) ?_
  refine Ops.y (v := .int .i64 _) (Y.assign rfl) ?_
  refine Ops.nil ?_
  refine WP.seq ?_
  refine WP.region ?_
  refine Ops.go (O.call I Tryz.call81 (roads_ok _ I.base_ok) rfl ?_)
  rintro _ h4 w I le4 ⟨p2, rfl, hp2⟩
  refine Ops.go (O.call I Tryz.call90 (paths_ok _ I.base_ok) rfl ?_)
  rintro _ h5 w I le5 ⟨f2, rfl, ef2, if2⟩
  refine Ops.go (O.callv I Tryz.call57 (lV_ok _ I.base_ok 0) rfl ?_)
  intro w I
  refine Ops.go (O.callv I Tryz.call57 (lV_ok _ I.base_ok 0) rfl ?_)
  intro w I
  refine Ops.go (O.mksl (xs := [tV 0, tV 0]) (enc := Trm.enc) I Tryz.underlying63 Tryz.sizeOf91 Tryz.zeroValue91 rfl (Nat.le_of_ble_eq_true rfl) rfl rfl (by decide) (fun _ => rfl) ?_)
  intro b24 h24 w I le24 sl24
  refine Ops.go (O.callv I Tryz.call115 (lAt_ok _ I.base_ok 0 ⟨some ⟨b24, 0, none⟩, 2, [tV 0, tV 0]⟩) rfl ?_)
  intro w I
  refine Ops.go (O.call I Tryz.call51 (Match_at _ I.base_ok p2 ((hp2.is.le le5).le le24) hp2.nm f2 (if2.le le24) ⟨0, ⟨some ⟨b24, 0, none⟩, 2, [tV 0, tV 0]⟩⟩ ⟨sl24, by simp⟩ ([], 0) (by rw [ef2]; exact match_rd hp2 (chk2 b24) (fil2 b24))) rfl ?_)
  rintro _ h6 w I le6 ⟨m2, rfl, em2, im2⟩
  refine Ops.y (v := .tuple #[_, _]) (Y.move rfl) ?_
  refine Ops.y (v := .slice _ _ _) (Y.extract rfl rfl) ?_
  refine Ops.y (v := .int .i64 _) (Y.extract rfl rfl) ?_
  refine Ops.y (v := .slice _ _ _) (Y.assign rfl) ?_
  refine Ops.y (v := .int .i64 _) (Y.assign rfl) ?_
  refine Ops.nil ?_
  have im1 := ((im1.le le4).le (le5.trans le24)).le le6
  refine WP.seq ?_
  refine WP.region ?_
  refine Ops.go (O.call I Tryz.call81 (roads_ok _ I.base_ok) rfl ?_)
  rintro _ h7 w I le7 ⟨p3, rfl, hp3⟩
  refine Ops.go (O.call I Tryz.call54 (Only_rd2 _ I.base_ok p3 hp3) rfl ?_)
  rintro _ h8 w I le8 ⟨m3, rfl, im3, em3⟩
  refine Ops.y (v := .tuple #[_, _]) (Y.move rfl) ?_
  refine Ops.y (v := .slice _ _ _) (Y.extract rfl rfl) ?_
  refine Ops.y (v := .int .i64 _) (Y.extract rfl rfl) ?_
  refine Ops.y (v := .slice _ _ _) (Y.assign rfl) ?_
  refine Ops.y (v := .int .i64 _) (Y.assign rfl) ?_
  refine Ops.nil ?_
  refine WP.seq ?_
  refine WP.region ?_
  refine Ops.go (O.call I Tryz.call81 (roads_ok _ I.base_ok) rfl ?_)
  rintro _ h9 w I le9 ⟨p4, rfl, hp4⟩
  refine Ops.go (O.callv I Tryz.call54 (Only_rd3 _ I.base_ok p4 hp4) rfl ?_)
  intro w I
  refine Ops.y (v := .tuple #[_, _]) (Y.move rfl) ?_
  refine Ops.y (v := .slice _ _ _) (Y.extract rfl rfl) ?_
  refine Ops.y (v := .int .i64 _) (Y.extract rfl rfl) ?_
  refine Ops.y (v := .slice _ _ _) (Y.assign rfl) ?_
  refine Ops.y (v := .int .i64 _) (Y.assign rfl) ?_
  refine Ops.nil ?_
  have n1 : m1.xs.length = 1 := by rw [em1]; rfl
  have n2 : m2.xs.length = 0 := by rw [em2]; rfl
  have g1 : m1.xs[0]? = some ⟨0, 1, 2, 0⟩ := by rw [em1]; rfl
  have E1 := (((im1.le le7).le le8).le le9).el.el g1
  refine WP.seq ?_
  refine WP.region ?_
  refine Ops.y (v := .int .i64 _) (Y.move rfl) ?_
  refine Ops.y (v := .bool true) (Y.dec_t (Y.eqi rfl rfl) (rfl)) ?_
  refine Ops.y (v := .bool _) (Y.move rfl) ?_
  refine Ops.ygt rfl (v := .int .i64 _) (Y.move rfl) ?_
  refine Ops.ygt rfl (v := .bool true) (Y.dec_t (Y.eqi rfl rfl) (rfl)) ?_
  refine Ops.y (v := .bool _) (Y.pick_t rfl rfl) ?_
  refine Ops.y (v := .bool _) (Y.move rfl) ?_
  refine Ops.ygt rfl (v := .int .i64 _) (Y.move rfl) ?_
  refine Ops.ygt rfl (v := .bool true) (Y.dec_t (Y.eqi rfl rfl) (rfl)) ?_
  refine Ops.y (v := .bool _) (Y.pick_t rfl rfl) ?_
  refine Ops.y (v := .bool _) (Y.move rfl) ?_
  refine Ops.ygt rfl (v := .int .i64 _) (Y.move rfl) ?_
  refine Ops.ygt rfl (v := .bool true) (Y.dec_t (Y.eqi rfl rfl) (rfl)) ?_
  refine Ops.y (v := .bool _) (Y.pick_t rfl rfl) ?_
  refine Ops.y (v := .bool _) (Y.move rfl) ?_
  refine Ops.ygt rfl (v := .slice _ _ _) (Y.move rfl) ?_
  refine Ops.ygt rfl (v := .int .i64 _) (Y.lens Tryz.underlying26 rfl) ?_
  refine Ops.ygt rfl (v := .bool true) (Y.dec_t (Y.eqi rfl rfl) ((by rw [n1]; rfl))) ?_
  refine Ops.y (v := .bool _) (Y.pick_t rfl rfl) ?_
  refine Ops.y (v := .bool _) (Y.move rfl) ?_
  refine Ops.ygt rfl (v := .slice _ _ _) (Y.move rfl) ?_
  refine Ops.ygt rfl (v := .pointer (some ⟨_, _, none⟩)) (Y.idxEl E1 Tryz.underlying26 Tryz.sizeOf52 rfl rfl (by decide) rfl) ?_
  refine Ops.ygt rfl (v := .pointer (some ⟨_, _, none⟩)) (Y.fa fa_52_1 rfl) ?_
  refine Ops.ygt rfl (v := .int .i64 _) (Y.loadv ty_3 rfl (I.rd (E1.rd.part 1 1)) rfl rfl) ?_
  refine Ops.ygt rfl (v := .bool true) (Y.dec_t (Y.eqi rfl rfl) (rfl)) ?_
  refine Ops.y (v := .bool _) (Y.pick_t rfl rfl) ?_
  refine Ops.y (v := .bool _) (Y.move rfl) ?_
  refine Ops.ygt rfl (v := .slice _ _ _) (Y.move rfl) ?_
  refine Ops.ygt rfl (v := .int .i64 _) (Y.lens Tryz.underlying26 rfl) ?_
  refine Ops.ygt rfl (v := .bool true) (Y.dec_t (Y.eqi rfl rfl) ((by rw [n2]; rfl))) ?_
  refine Ops.y (v := .bool _) (Y.pick_t rfl rfl) ?_
  refine Ops.y (v := .bool _) (Y.move rfl) ?_
  refine Ops.ygt rfl (v := .slice _ _ _) (Y.move rfl) ?_
  refine Ops.ygt rfl (v := .agg #[.int .i64 _, .int .i64 _, .int .i64 _, .int .i64 _]) (Y.build pl_52 Tryz.zeroValue52 rfl rfl) ?_
  refine Ops.gt rfl (O.mksl (xs := [(⟨2, 3, 0, 0⟩ : Fct)]) (enc := Fct.enc) I Tryz.underlying26 Tryz.sizeOf52 Tryz.zeroValue52 rfl (Nat.le_of_ble_eq_true rfl) rfl rfl (by decide) (fun _ => rfl) ?_)
  intro b73 h73 w I le73 sl73
  refine Ops.gt rfl (O.callv I Tryz.call21 (SameFacts_at _ I.base_ok m3 ⟨some ⟨b73, 0, none⟩, 1, [⟨2, 3, 0, 0⟩]⟩ ((im3.le le9).le le73) ⟨sl73, by simp⟩ em3) rfl ?_)
  intro w I
  refine Ops.y (v := .bool _) (Y.pick_t rfl rfl) ?_
  refine Ops.y (v := .bool _) (Y.assign rfl) ?_
  refine Ops.nil ?_
  refine WP.ret ?_
  repeat (first | refine thenE_ret ?_ | refine blockE_ret ?_)
  exact retQ.mk (vs := [.bool _]) rfl ⟨rfl, trivial⟩ I.ext_of (rfl)
theorem AskMatches_ok (B : Base) (hB : B.ok) (p : Prg) (hp : p.In B.h) (hnm : p.Nm) (f : Sl Fct) (hf : Fcts f B.h) (a : Atm) (ha : a.In B.h) : Fn Tryz.prog 10 [p.val, f.val, a.val] B (fun v _ => v = .bool true) := by
  refine Fn.of Tryz.func10 rfl Tryz.ntmps10 (by kernel_rfl) (by simp) ?_
  intro e
  have I := Inv.start hB
  refine WP.seq ?_
  refine WP.region ?_
  refine Ops.go (O.box (v := .agg #[_, _]) I rfl rfl ?_)
  intro b3 w I
  refine Ops.go (O.box (v := .agg #[_, _]) I rfl rfl ?_)
  intro b5 w I
  refine Ops.y (v := .bool _) (Y.assign rfl) ?_
  refine Ops.nil ?_
  refine WP.seq ?_
  refine WP.region ?_
  refine Ops.y (v := .agg #[_, _]) (Y.loadv ty_25 rfl (I.rdbox 1 rfl 0 2) rfl rfl) ?_
  refine Ops.y (v := .slice _ _ _) (Y.move rfl) ?_
  refine Ops.y (v := .agg #[_, _]) (Y.loadv ty_65 rfl (I.rdbox 0 rfl 0 2) rfl rfl) ?_
  refine Ops.go (O.call I Tryz.call51 (Match_ok _ I.base_ok p hp hnm f hf a ha) rfl ?_)
  rintro _ h1 w I le1 ⟨s1, rfl, e1, i1⟩
  refine Ops.y (v := .tuple #[_, _]) (Y.move rfl) ?_
  refine Ops.y (v := .slice _ _ _) (Y.extract rfl rfl) ?_
  refine Ops.y (v := .int .i64 _) (Y.extract rfl rfl) ?_
  refine Ops.y (v := .slice _ _ _) (Y.assign rfl) ?_
  refine Ops.y (v := .int .i64 _) (Y.assign rfl) ?_
  refine Ops.nil ?_
  refine WP.seq ?_
  refine WP.region ?_
  refine Ops.y (v := .agg #[_, _]) (Y.loadv ty_25 rfl (I.rdbox 1 rfl 0 2) rfl rfl) ?_
  refine Ops.y (v := .slice _ _ _) (Y.move rfl) ?_
  refine Ops.y (v := .agg #[_, _]) (Y.loadv ty_65 rfl (I.rdbox 0 rfl 0 2) rfl rfl) ?_
  refine Ops.go (O.call I Tryz.call52 (MatchOf_ok _ I.base_ok p (hp.le le1) hnm f (hf.le le1) a (ha.le le1)) rfl ?_)
  rintro _ h2 w I le2 ⟨s2, rfl, e2, i2⟩
  refine Ops.y (v := .tuple #[_, _]) (Y.move rfl) ?_
  refine Ops.y (v := .slice _ _ _) (Y.extract rfl rfl) ?_
  refine Ops.y (v := .int .i64 _) (Y.extract rfl rfl) ?_
  refine Ops.y (v := .slice _ _ _) (Y.assign rfl) ?_
  refine Ops.y (v := .int .i64 _) (Y.assign rfl) ?_
  refine Ops.nil ?_
  refine WP.seq ?_
  refine WP.region ?_
  refine Ops.go (O.callv I Tryz.call53 (askBegun_ok _ I.base_ok) rfl ?_)
  intro w I
  refine Ops.y (v := .bool _) (Y.move rfl) ?_
  refine Ops.ygt rfl (v := .slice _ _ _) (Y.move rfl) ?_
  refine Ops.ygt rfl (v := .slice _ _ _) (Y.move rfl) ?_
  refine Ops.gt rfl (O.callv I Tryz.call21 (SameFacts_at _ I.base_ok s1 s2 (i1.le le2) i2 (by rw [e1, e2])) rfl ?_)
  intro w I
  refine Ops.y (v := .bool _) (Y.pick_t rfl rfl) ?_
  refine Ops.y (v := .bool _) (Y.move rfl) ?_
  refine Ops.ygt rfl (v := .int .i64 _) (Y.move rfl) ?_
  refine Ops.ygt rfl (v := .int .i64 _) (Y.move rfl) ?_
  refine Ops.ygt rfl (v := .bool true) (Y.dec_t (Y.eqi rfl rfl) (rfl)) ?_
  refine Ops.y (v := .bool _) (Y.pick_t rfl rfl) ?_
  refine Ops.y (v := .bool _) (Y.assign rfl) ?_
  refine Ops.nil ?_
  refine WP.ret ?_
  repeat (first | refine thenE_ret ?_ | refine blockE_ret ?_)
  exact retQ.mk (vs := [.bool _]) rfl ⟨rfl, trivial⟩ I.ext_of (rfl)
set_option maxHeartbeats 8000000 in
theorem AskOnly_ok (B : Base) (hB : B.ok) (p : Prg) (hp : p.In B.h) (hnm : p.Nm) (pr : Int) : Fn Tryz.prog 11 [p.val, .int .i64 pr] B (fun v _ => v = .bool true) := by
  refine Fn.of Tryz.func11 rfl Tryz.ntmps11 (by kernel_rfl) (by simp) ?_
  intro e
  have I := Inv.start hB
  refine WP.seq ?_
  refine WP.region ?_
  refine Ops.go (O.box (v := .agg #[_, _]) I rfl rfl ?_)
  intro b2 w I
  refine Ops.y (v := .bool _) (Y.assign rfl) ?_
  refine Ops.nil ?_
  by_cases he : onlE p pr = 0
  · have hpr : checkProg p = 0 := by
      unfold onlE at he
      split at he
      · rename_i h; exact absurd he h
      · rename_i h; exact Decidable.not_not.1 h
    have hq : 0 ≤ pr ∧ pr < p.preds.xs.length := by
      unfold onlE at he
      rw [if_neg (fun h => h hpr)] at he
      split at he
      · cases he
      · omega
    refine WP.seq ?_
    refine WP.region ?_
    refine Ops.y (v := .agg #[_, _]) (Y.loadv ty_25 rfl (I.rdbox 0 rfl 0 2) rfl rfl) ?_
    refine Ops.y (v := .int .i64 _) (Y.move rfl) ?_
    refine Ops.go (O.call I Tryz.call54 (AOnly_ok _ I.base_ok p hp hnm pr) rfl ?_)
    rintro v15 h1 w I le1 hv
    rcases hv with ⟨h, _⟩ | ⟨_, l, rfl, hl1, hlq⟩
    exact absurd he h
    refine Ops.y (v := .tuple #[_, _]) (Y.move rfl) ?_
    refine Ops.y (v := .slice _ _ _) (Y.extract rfl rfl) ?_
    refine Ops.y (v := .int .i64 _) (Y.extract rfl rfl) ?_
    refine Ops.y (v := .slice _ _ _) (Y.assign rfl) ?_
    refine Ops.y (v := .int .i64 _) (Y.assign rfl) ?_
    refine Ops.nil ?_
    have hp := hp.le le1
    refine WP.seq ?_
    refine WP.region ?_
    refine Ops.y (v := .agg #[_, _]) (Y.loadv ty_25 rfl (I.rdbox 0 rfl 0 2) rfl rfl) ?_
    refine Ops.go (O.callv I Tryz.call18 (CheckProg_ok _ I.base_ok p hp hnm) rfl ?_)
    intro w I
    refine Ops.y (v := .int .i64 _) (Y.assign rfl) ?_
    refine Ops.nil ?_
    refine WP.seq ?_
    refine WP.seq ?_
    refine WP.region ?_
    refine Ops.y (v := .int .i64 _) (Y.move rfl) ?_
    refine Ops.y (v := .bool true) (Y.dec_t (Y.eqi rfl rfl) (hpr)) ?_
    refine Ops.y (v := .bool _) (Y.move rfl) ?_
    refine Ops.ygt rfl (v := .int .i64 _) (Y.move rfl) ?_
    refine Ops.ygt rfl (v := .bool false) (Y.dec_f (Y.lti rfl rfl) ((by omega))) ?_
    refine Ops.ygt rfl (v := .bool _) (Y.move rfl) ?_
    refine Ops.ygt rfl (v := .int .i64 _) (Y.move rfl) ?_
    refine Ops.ygt rfl (v := .pointer (some ⟨_, _, none⟩)) (Y.fa0 fa_25_0 rfl) ?_
    refine Ops.ygt rfl (v := .slice _ _ _) (Y.loadv ty_22 rfl (I.rdbox 0 rfl 0 1) rfl rfl) ?_
    refine Ops.ygt rfl (v := .int .i64 _) (Y.lens Tryz.underlying22 rfl) ?_
    refine Ops.ygt rfl (v := .bool false) (Y.dec_f (Y.gei rfl rfl) ((by omega))) ?_
    refine Ops.ygt rfl (v := .bool _) (Y.pick_f rfl rfl) ?_
    refine Ops.y (v := .bool _) (Y.pick_t rfl rfl) ?_
    refine Ops.nil ?_
    refine WP.cond_f rfl ?_
    refine WP.skip ?_
    refine WP.seq ?_
    refine WP.region ?_
    refine Ops.y (v := .slice _ _ _) (Y.assign rfl) ?_
    refine Ops.y (v := .slice _ _ _) (Y.assign rfl) ?_
    refine Ops.nil ?_
    refine WP.seq ?_
    refine WP.seq ?_
    refine WP.region ?_
    refine Ops.y (v := .int .i64 _) (Y.move rfl) ?_
    refine Ops.y (v := .bool true) (Y.dec_t (Y.eqi rfl rfl) (hpr)) ?_
    refine Ops.nil ?_
    refine WP.cond_t rfl ?_
    refine WP.seq ?_
    refine WP.region ?_
    refine Ops.y (v := .agg #[_, _]) (Y.loadv ty_25 rfl (I.rdbox 0 rfl 0 2) rfl rfl) ?_
    refine Ops.y (v := .int .i64 _) (Y.move rfl) ?_
    refine Ops.go (O.call I Tryz.call55 (OnlyOf_ok _ I.base_ok p hp pr hpr hq.1 hq.2) rfl ?_)
    rintro _ h2 w I le2 ⟨l2, rfl, hl2, hlq2⟩
    refine Ops.y (v := .slice _ _ _) (Y.assign rfl) ?_
    refine Ops.nil ?_
    have hp := hp.le le2
    refine WP.seq ?_
    refine WP.region ?_
    refine Ops.y (v := .agg #[_, _]) (Y.loadv ty_25 rfl (I.rdbox 0 rfl 0 2) rfl rfl) ?_
    refine Ops.go (O.call I Tryz.call30 (ModelOf_ok _ I.base_ok p hp hpr) rfl ?_)
    rintro _ h3 w I le3 ⟨m, rs, rfl, hm, mk⟩
    refine Ops.y (v := .slice _ _ _) (Y.assign rfl) ?_
    refine Ops.nil ?_
    have okm := (modK_mj (chk_rok hpr) (strataM_least hpr).sol (chk_nil hpr) mk).fok
    have h125 := okm.le125
    refine WP.seq ?_
    refine WP.region ?_
    refine Ops.y (v := .int .i64 _) (Y.assign rfl) ?_
    refine Ops.nil ?_
    refine WP.block ?_
    refine WP.loopE (σ := Nat × Value × Heap) (fun s => [(1, .int .i64 pr), (5, l.val), (6, .int .i64 0), (7, .int .i64 (checkProg p)), (8, l2.val), (9, s.2.1), (10, m.val), (11, .int .i64 s.1)])
      (fun s w => Inv B s.2.2 [ownSl 52 4 s.2.1 ((m.xs.take s.1).filter fun x => decide (x.pred = pr)).length (((m.xs.take s.1).filter fun x => decide (x.pred = pr)).flatMap Fct.enc)] w ∧ s.1 ≤ m.xs.length ∧ h3.le s.2.2) (fun s => m.xs.length - s.1)
      ⟨(0, .slice none 0 0, h3), ⟨rfl, rfl, rfl, rfl, rfl, rfl, rfl, rfl, trivial⟩, (I.weak (List.nil_sublist _)).nilSl 52 4, Nat.zero_le _, Heap.le.refl _⟩ ?_
    rintro ⟨k, v, hh⟩ e w ⟨I, hk, gl⟩
    dsimp only at I hk gl ⊢
    have hfl : ((m.xs.take k).filter fun x => decide (x.pred = pr)).length ≤ k := Nat.le_trans (List.length_filter_le ..) (by rw [List.length_take]; omega)
    refine WP.seq ?_
    refine WP.seq ?_
    refine WP.region ?_
    refine Ops.y (v := .int .i64 _) (Y.move rfl) ?_
    refine Ops.y (v := .slice _ _ _) (Y.move rfl) ?_
    refine Ops.y (v := .int .i64 _) (Y.lens Tryz.underlying26 rfl) ?_
    refine Ops.y (v := .bool (decide _)) (Y.lti rfl rfl) ?_
    refine Ops.nil ?_
    refine WP.cond_dec rfl (fun h10 => ?_) (fun h10 => ?_)
    · have hk' : k < m.xs.length := by omega
      have E := (hm.le gl).at hk'
      have hn := take_filter (fun x : Fct => decide (x.pred = pr)) hk'
      refine WP.skip ?_
      refine WP.seq ?_
      refine WP.block ?_
      refine WP.seq ?_
      refine WP.region ?_
      refine Ops.y (v := .slice _ _ _) (Y.move rfl) ?_
      refine Ops.y (v := .int .i64 _) (Y.move rfl) ?_
      refine Ops.y (v := .pointer (some ⟨_, _, none⟩)) (Y.idxEl E Tryz.underlying26 Tryz.sizeOf52 rfl rfl (Int.natCast_nonneg _) rfl) ?_
      refine Ops.y (v := .pointer (some ⟨_, _, none⟩)) (Y.fa0 fa_52_0 rfl) ?_
      refine Ops.y (v := .int .i64 _) (Y.loadv ty_3 rfl (I.rd (E.rd.part 0 1)) rfl rfl) ?_
      refine Ops.y (v := .int .i64 _) (Y.move rfl) ?_
      refine Ops.y (v := .bool (decide _)) (Y.eqi rfl rfl) ?_
      refine Ops.nil ?_
      refine WP.cond_dec rfl (fun h12 => ?_) (fun h12 => ?_)
      · rw [if_pos (decide_eq_true h12)] at hn
        refine WP.region ?_
        refine Ops.y (v := v) (Y.move rfl) ?_
        refine Ops.y (v := .slice _ _ _) (Y.move rfl) ?_
        refine Ops.y (v := .int .i64 _) (Y.move rfl) ?_
        refine Ops.y (v := .pointer (some ⟨_, _, none⟩)) (Y.idxEl E Tryz.underlying26 Tryz.sizeOf52 rfl rfl (Int.natCast_nonneg _) rfl) ?_
        refine Ops.y (v := .agg #[_, _, _, _]) (Y.loadv ty_52 rfl (I.rd (E.rd.part 0 4)) rfl rfl) ?_
        refine Ops.go (O.mksl (xs := [m.xs[k]]) (enc := Fct.enc) I Tryz.underlying26 Tryz.sizeOf52 Tryz.zeroValue52 rfl (Nat.le_of_ble_eq_true rfl) rfl rfl (by decide) (fun _ => rfl) ?_)
        intro b58 h58 w I le58 sl58
        refine Ops.go (O.append I Tryz.underlying26 et_52 0 rfl rfl rfl (I.rd (sl58 0 _ rfl).2) rfl rfl (by decide) ((by omega)) (by omega) ?_)
        intro b59 c59 w I
        refine Ops.y (v := .slice _ _ _) (Y.assign rfl) ?_
        refine Ops.nil ?_
        refine WP.region ?_
        refine Ops.y (v := .int .i64 _) (Y.move rfl) ?_
        refine Ops.y (v := .int .i64 _) (Y.addi rfl rfl ⟨by omega, by omega⟩) ?_
        refine Ops.y (v := .int .i64 _) (Y.assign rfl) ?_
        refine Ops.nil ?_
        refine ⟨(k + 1, .slice (some ⟨b59, 0, none⟩) (((m.xs.take k).filter fun x => decide (x.pred = pr)).length + 1) c59, h58), ⟨⟨rfl, rfl, rfl, rfl, rfl, rfl, rfl, rfl, trivial⟩, ?_, by dsimp only; omega, gl.trans le58⟩, by dsimp only; omega⟩
        dsimp only
        rw [hn, List.length_append, List.length_singleton, List.flatMap_append, List.flatMap_singleton]
        exact I
      · rw [if_neg (by rw [decide_eq_false h12]; decide), List.append_nil] at hn
        refine WP.skip ?_
        refine WP.region ?_
        refine Ops.y (v := .int .i64 _) (Y.move rfl) ?_
        refine Ops.y (v := .int .i64 _) (Y.addi rfl rfl ⟨by omega, by omega⟩) ?_
        refine Ops.y (v := .int .i64 _) (Y.assign rfl) ?_
        refine Ops.nil ?_
        exact ⟨(k + 1, v, hh), ⟨⟨rfl, rfl, rfl, rfl, rfl, rfl, rfl, rfl, trivial⟩, by dsimp only; rw [hn]; exact I, by dsimp only; omega, gl⟩, by dsimp only; omega⟩
    obtain rfl : k = m.xs.length := by omega
    rw [List.take_length] at I hfl
    obtain ⟨h12, s, le12, rfl, hxs, iss, I⟩ := I.settleSl Fct_len rfl
    have gm := gl.trans le12
    refine WP.exit ?_
    refine WP.seq ?_
    refine WP.region ?_
    refine Ops.go (O.callv I Tryz.call53 (askBegun_ok _ I.base_ok) rfl ?_)
    intro w I
    refine Ops.y (v := .bool _) (Y.move rfl) ?_
    refine Ops.ygt rfl (v := .slice _ _ _) (Y.move rfl) ?_
    refine Ops.ygt rfl (v := .slice _ _ _) (Y.move rfl) ?_
    refine Ops.gt rfl (O.callv I Tryz.call21 (SameFacts_at _ I.base_ok l l2 (((hl1.le le2).le le3).le gm) ((hl2.le le3).le gm) (by rw [hlq.eq mk, hlq2.eq mk])) rfl ?_)
    intro w I
    refine Ops.y (v := .bool _) (Y.pick_t rfl rfl) ?_
    refine Ops.y (v := .bool _) (Y.move rfl) ?_
    refine Ops.ygt rfl (v := .slice _ _ _) (Y.move rfl) ?_
    refine Ops.ygt rfl (v := .slice _ _ _) (Y.move rfl) ?_
    refine Ops.gt rfl (O.callv I Tryz.call21 (SameFacts_at _ I.base_ok l s (((hl1.le le2).le le3).le gm) ⟨iss, by rw [hxs]; omega⟩ (by rw [hlq.eq mk, hxs])) rfl ?_)
    intro w I
    refine Ops.y (v := .bool _) (Y.pick_t rfl rfl) ?_
    refine Ops.y (v := .bool _) (Y.move rfl) ?_
    refine Ops.ygt rfl (v := .int .i64 _) (Y.move rfl) ?_
    refine Ops.ygt rfl (v := .int .i64 _) (Y.move rfl) ?_
    refine Ops.ygt rfl (v := .bool true) (Y.dec_t (Y.eqi rfl rfl) (hpr.symm)) ?_
    refine Ops.y (v := .bool _) (Y.pick_t rfl rfl) ?_
    refine Ops.y (v := .bool _) (Y.assign rfl) ?_
    refine Ops.nil ?_
    refine WP.ret ?_
    repeat (first | refine thenE_ret ?_ | refine blockE_ret ?_)
    exact retQ.mk (vs := [.bool _]) rfl ⟨rfl, trivial⟩ I.ext_of (rfl)
  · refine WP.seq ?_
    refine WP.region ?_
    refine Ops.y (v := .agg #[_, _]) (Y.loadv ty_25 rfl (I.rdbox 0 rfl 0 2) rfl rfl) ?_
    refine Ops.y (v := .int .i64 _) (Y.move rfl) ?_
    refine Ops.go (O.call I Tryz.call54 (AOnly_ok _ I.base_ok p hp hnm pr) rfl ?_)
    rintro v15 h1 w I le1 hv
    rcases hv with ⟨_, rfl⟩ | ⟨h, _⟩
    rotate_left
    exact absurd h he
    refine Ops.y (v := .tuple #[_, _]) (Y.move rfl) ?_
    refine Ops.y (v := .slice _ _ _) (Y.extract rfl rfl) ?_
    refine Ops.y (v := .int .i64 _) (Y.extract rfl rfl) ?_
    refine Ops.y (v := .slice _ _ _) (Y.assign rfl) ?_
    refine Ops.y (v := .int .i64 _) (Y.assign rfl) ?_
    refine Ops.nil ?_
    have hp := hp.le le1
    refine WP.seq ?_
    refine WP.region ?_
    refine Ops.y (v := .agg #[_, _]) (Y.loadv ty_25 rfl (I.rdbox 0 rfl 0 2) rfl rfl) ?_
    refine Ops.go (O.callv I Tryz.call18 (CheckProg_ok _ I.base_ok p hp hnm) rfl ?_)
    intro w I
    refine Ops.y (v := .int .i64 _) (Y.assign rfl) ?_
    refine Ops.nil ?_
    by_cases hpr : checkProg p = 0
    · have hE : onlE p pr = 7 := by
        unfold onlE at he ⊢
        rw [if_neg (fun h => h hpr)] at he ⊢
        split at he
        · rename_i h; rw [if_pos h]
        · exact absurd rfl he
      have hq : ¬ (0 ≤ pr ∧ pr < p.preds.xs.length) := fun h => by
        unfold onlE at he
        rw [if_neg (fun h => h hpr), if_neg (by omega)] at he
        exact he rfl
      by_cases h0 : pr < 0
      · refine WP.seq ?_
        refine WP.seq ?_
        refine WP.region ?_
        refine Ops.y (v := .int .i64 _) (Y.move rfl) ?_
        refine Ops.y (v := .bool true) (Y.dec_t (Y.eqi rfl rfl) (hpr)) ?_
        refine Ops.y (v := .bool _) (Y.move rfl) ?_
        refine Ops.ygt rfl (v := .int .i64 _) (Y.move rfl) ?_
        refine Ops.ygt rfl (v := .bool true) (Y.dec_t (Y.lti rfl rfl) (h0)) ?_
        refine Ops.ygt rfl (v := .bool _) (Y.move rfl) ?_
        refine Ops.gf rfl ?_
        refine Ops.gf rfl ?_
        refine Ops.gf rfl ?_
        refine Ops.gf rfl ?_
        refine Ops.gf rfl ?_
        refine Ops.ygt rfl (v := .bool _) (Y.pick_t rfl rfl) ?_
        refine Ops.y (v := .bool _) (Y.pick_t rfl rfl) ?_
        refine Ops.nil ?_
        refine WP.cond_t rfl ?_
        refine WP.region ?_
        refine Ops.y (v := .int .i64 _) (Y.assign rfl) ?_
        refine Ops.nil ?_
        refine WP.seq ?_
        refine WP.region ?_
        refine Ops.y (v := .slice _ _ _) (Y.assign rfl) ?_
        refine Ops.y (v := .slice _ _ _) (Y.assign rfl) ?_
        refine Ops.nil ?_
        refine WP.seq ?_
        refine WP.seq ?_
        refine WP.region ?_
        refine Ops.y (v := .int .i64 _) (Y.move rfl) ?_
        refine Ops.y (v := .bool false) (Y.dec_f (Y.eqi rfl rfl) ((by decide))) ?_
        refine Ops.nil ?_
        refine WP.cond_f rfl ?_
        refine WP.skip ?_
        refine WP.seq ?_
        refine WP.region ?_
        refine Ops.go (O.callv I Tryz.call53 (askBegun_ok _ I.base_ok) rfl ?_)
        intro w I
        refine Ops.y (v := .bool _) (Y.move rfl) ?_
        refine Ops.ygt rfl (v := .slice _ _ _) (Y.move rfl) ?_
        refine Ops.ygt rfl (v := .slice _ _ _) (Y.move rfl) ?_
        refine Ops.gt rfl (O.callv I Tryz.call21 (SameFacts_at _ I.base_ok ⟨none, 0, []⟩ ⟨none, 0, []⟩ fnil fnil rfl) rfl ?_)
        intro w I
        refine Ops.y (v := .bool _) (Y.pick_t rfl rfl) ?_
        refine Ops.y (v := .bool _) (Y.move rfl) ?_
        refine Ops.ygt rfl (v := .slice _ _ _) (Y.move rfl) ?_
        refine Ops.ygt rfl (v := .slice _ _ _) (Y.move rfl) ?_
        refine Ops.gt rfl (O.callv I Tryz.call21 (SameFacts_at _ I.base_ok ⟨none, 0, []⟩ ⟨none, 0, []⟩ fnil fnil rfl) rfl ?_)
        intro w I
        refine Ops.y (v := .bool _) (Y.pick_t rfl rfl) ?_
        refine Ops.y (v := .bool _) (Y.move rfl) ?_
        refine Ops.ygt rfl (v := .int .i64 _) (Y.move rfl) ?_
        refine Ops.ygt rfl (v := .int .i64 _) (Y.move rfl) ?_
        refine Ops.ygt rfl (v := .bool true) (Y.dec_t (Y.eqi rfl rfl) (hE)) ?_
        refine Ops.y (v := .bool _) (Y.pick_t rfl rfl) ?_
        refine Ops.y (v := .bool _) (Y.assign rfl) ?_
        refine Ops.nil ?_
        refine WP.ret ?_
        repeat (first | refine thenE_ret ?_ | refine blockE_ret ?_)
        exact retQ.mk (vs := [.bool _]) rfl ⟨rfl, trivial⟩ I.ext_of (rfl)
      · refine WP.seq ?_
        refine WP.seq ?_
        refine WP.region ?_
        refine Ops.y (v := .int .i64 _) (Y.move rfl) ?_
        refine Ops.y (v := .bool true) (Y.dec_t (Y.eqi rfl rfl) (hpr)) ?_
        refine Ops.y (v := .bool _) (Y.move rfl) ?_
        refine Ops.ygt rfl (v := .int .i64 _) (Y.move rfl) ?_
        refine Ops.ygt rfl (v := .bool false) (Y.dec_f (Y.lti rfl rfl) (h0)) ?_
        refine Ops.ygt rfl (v := .bool _) (Y.move rfl) ?_
        refine Ops.ygt rfl (v := .int .i64 _) (Y.move rfl) ?_
        refine Ops.ygt rfl (v := .pointer (some ⟨_, _, none⟩)) (Y.fa0 fa_25_0 rfl) ?_
        refine Ops.ygt rfl (v := .slice _ _ _) (Y.loadv ty_22 rfl (I.rdbox 0 rfl 0 1) rfl rfl) ?_
        refine Ops.ygt rfl (v := .int .i64 _) (Y.lens Tryz.underlying22 rfl) ?_
        refine Ops.ygt rfl (v := .bool true) (Y.dec_t (Y.gei rfl rfl) ((by omega))) ?_
        refine Ops.ygt rfl (v := .bool _) (Y.pick_f rfl rfl) ?_
        refine Ops.y (v := .bool _) (Y.pick_t rfl rfl) ?_
        refine Ops.nil ?_
        refine WP.cond_t rfl ?_
        refine WP.region ?_
        refine Ops.y (v := .int .i64 _) (Y.assign rfl) ?_
        refine Ops.nil ?_
        refine WP.seq ?_
        refine WP.region ?_
        refine Ops.y (v := .slice _ _ _) (Y.assign rfl) ?_
        refine Ops.y (v := .slice _ _ _) (Y.assign rfl) ?_
        refine Ops.nil ?_
        refine WP.seq ?_
        refine WP.seq ?_
        refine WP.region ?_
        refine Ops.y (v := .int .i64 _) (Y.move rfl) ?_
        refine Ops.y (v := .bool false) (Y.dec_f (Y.eqi rfl rfl) ((by decide))) ?_
        refine Ops.nil ?_
        refine WP.cond_f rfl ?_
        refine WP.skip ?_
        refine WP.seq ?_
        refine WP.region ?_
        refine Ops.go (O.callv I Tryz.call53 (askBegun_ok _ I.base_ok) rfl ?_)
        intro w I
        refine Ops.y (v := .bool _) (Y.move rfl) ?_
        refine Ops.ygt rfl (v := .slice _ _ _) (Y.move rfl) ?_
        refine Ops.ygt rfl (v := .slice _ _ _) (Y.move rfl) ?_
        refine Ops.gt rfl (O.callv I Tryz.call21 (SameFacts_at _ I.base_ok ⟨none, 0, []⟩ ⟨none, 0, []⟩ fnil fnil rfl) rfl ?_)
        intro w I
        refine Ops.y (v := .bool _) (Y.pick_t rfl rfl) ?_
        refine Ops.y (v := .bool _) (Y.move rfl) ?_
        refine Ops.ygt rfl (v := .slice _ _ _) (Y.move rfl) ?_
        refine Ops.ygt rfl (v := .slice _ _ _) (Y.move rfl) ?_
        refine Ops.gt rfl (O.callv I Tryz.call21 (SameFacts_at _ I.base_ok ⟨none, 0, []⟩ ⟨none, 0, []⟩ fnil fnil rfl) rfl ?_)
        intro w I
        refine Ops.y (v := .bool _) (Y.pick_t rfl rfl) ?_
        refine Ops.y (v := .bool _) (Y.move rfl) ?_
        refine Ops.ygt rfl (v := .int .i64 _) (Y.move rfl) ?_
        refine Ops.ygt rfl (v := .int .i64 _) (Y.move rfl) ?_
        refine Ops.ygt rfl (v := .bool true) (Y.dec_t (Y.eqi rfl rfl) (hE)) ?_
        refine Ops.y (v := .bool _) (Y.pick_t rfl rfl) ?_
        refine Ops.y (v := .bool _) (Y.assign rfl) ?_
        refine Ops.nil ?_
        refine WP.ret ?_
        repeat (first | refine thenE_ret ?_ | refine blockE_ret ?_)
        exact retQ.mk (vs := [.bool _]) rfl ⟨rfl, trivial⟩ I.ext_of (rfl)
    · have hE : onlE p pr = checkProg p := by unfold onlE; rw [if_pos hpr]
      refine WP.seq ?_
      refine WP.seq ?_
      refine WP.region ?_
      refine Ops.y (v := .int .i64 _) (Y.move rfl) ?_
      refine Ops.y (v := .bool false) (Y.dec_f (Y.eqi rfl rfl) (hpr)) ?_
      refine Ops.y (v := .bool _) (Y.move rfl) ?_
      refine Ops.gf rfl ?_
      refine Ops.gf rfl ?_
      refine Ops.gf rfl ?_
      refine Ops.gf rfl ?_
      refine Ops.gf rfl ?_
      refine Ops.gf rfl ?_
      refine Ops.gf rfl ?_
      refine Ops.gf rfl ?_
      refine Ops.gf rfl ?_
      refine Ops.y (v := .bool _) (Y.pick_f rfl rfl) ?_
      refine Ops.nil ?_
      refine WP.cond_f rfl ?_
      refine WP.skip ?_
      refine WP.seq ?_
      refine WP.region ?_
      refine Ops.y (v := .slice _ _ _) (Y.assign rfl) ?_
      refine Ops.y (v := .slice _ _ _) (Y.assign rfl) ?_
      refine Ops.nil ?_
      refine WP.seq ?_
      refine WP.seq ?_
      refine WP.region ?_
      refine Ops.y (v := .int .i64 _) (Y.move rfl) ?_
      refine Ops.y (v := .bool false) (Y.dec_f (Y.eqi rfl rfl) (hpr)) ?_
      refine Ops.nil ?_
      refine WP.cond_f rfl ?_
      refine WP.skip ?_
      refine WP.seq ?_
      refine WP.region ?_
      refine Ops.go (O.callv I Tryz.call53 (askBegun_ok _ I.base_ok) rfl ?_)
      intro w I
      refine Ops.y (v := .bool _) (Y.move rfl) ?_
      refine Ops.ygt rfl (v := .slice _ _ _) (Y.move rfl) ?_
      refine Ops.ygt rfl (v := .slice _ _ _) (Y.move rfl) ?_
      refine Ops.gt rfl (O.callv I Tryz.call21 (SameFacts_at _ I.base_ok ⟨none, 0, []⟩ ⟨none, 0, []⟩ fnil fnil rfl) rfl ?_)
      intro w I
      refine Ops.y (v := .bool _) (Y.pick_t rfl rfl) ?_
      refine Ops.y (v := .bool _) (Y.move rfl) ?_
      refine Ops.ygt rfl (v := .slice _ _ _) (Y.move rfl) ?_
      refine Ops.ygt rfl (v := .slice _ _ _) (Y.move rfl) ?_
      refine Ops.gt rfl (O.callv I Tryz.call21 (SameFacts_at _ I.base_ok ⟨none, 0, []⟩ ⟨none, 0, []⟩ fnil fnil rfl) rfl ?_)
      intro w I
      refine Ops.y (v := .bool _) (Y.pick_t rfl rfl) ?_
      refine Ops.y (v := .bool _) (Y.move rfl) ?_
      refine Ops.ygt rfl (v := .int .i64 _) (Y.move rfl) ?_
      refine Ops.ygt rfl (v := .int .i64 _) (Y.move rfl) ?_
      refine Ops.ygt rfl (v := .bool true) (Y.dec_t (Y.eqi rfl rfl) (hE)) ?_
      refine Ops.y (v := .bool _) (Y.pick_t rfl rfl) ?_
      refine Ops.y (v := .bool _) (Y.assign rfl) ?_
      refine Ops.nil ?_
      refine WP.ret ?_
      repeat (first | refine thenE_ret ?_ | refine blockE_ret ?_)
      exact retQ.mk (vs := [.bool _]) rfl ⟨rfl, trivial⟩ I.ext_of (rfl)
end Go.TF
end
