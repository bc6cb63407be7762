/- Finding a fact; being under. -/
import Derived.Test.YtenigglapeajdaaBas1
namespace Go.TF
open Go Go.RowKit Go.Proofs
set_option maxRecDepth 20000

theorem lkF_first {f : List Fct} {p : Int} {k : Nat} (hk : k < f.length) (h : ∀ j, j < k → ∀ hj : j < f.length, placeF f[j] ≠ p) (he : placeF f[k] = p) : lkF f p = some f[k].v := by
  have : f.find? (fun y => decide (placeF y = p)) = some f[k] := List.find?_eq_some_iff_getElem.2 ⟨by simpa using he, k, hk, rfl, fun j hj => by simpa using h j hj (by omega)⟩
  simp only [lkF, this, Option.map_some]
theorem rfind_ok (B : Base) (hB : B.ok) (f : Sl Fct) (hf : Fcts f B.h) (hp : ∀ y ∈ f.xs, PF y) (x : Fct) (hx : PF x) : Fn Try.prog 36 [f.val, x.val] B (fun v _ => v = .tuple #[.int .i64 (findF f.xs x).1, .bool (findF f.xs x).2]) := by
  have hsf := hf.small
  refine Fn.of Try.func36 rfl Try.ntmps36 (by kernel_rfl) (by simp) ?_
  intro e
  have I := Inv.start hB
  refine WP.seq ?_
  refine WP.region ?_
  refine Ops.go (O.box (v := .agg #[_, _, _, _]) I rfl rfl ?_)
  intro b3 w I
  refine Ops.y (v := .int .i64 _) (Y.assign rfl) ?_
  refine Ops.y (v := .bool _) (Y.assign rfl) ?_
  refine Ops.nil ?_
  refine WP.seq ?_
  refine WP.seq ?_
  refine WP.region ?_
  refine Ops.y (v := .int .i64 _) (Y.assign rfl) ?_
  refine Ops.nil ?_
  refine WP.block ?_
  refine WP.loopE (σ := Nat) (fun k => [(0, f.val), (3, .pointer (some ⟨b3, 0, none⟩)), (6, .int .i64 k)]) (fun k w => Inv B B.h [box b3 x.enc 35] w ∧ k ≤ f.xs.length ∧ ∀ j, j < k → ∀ hj : j < f.xs.length, placeF f.xs[j] ≠ placeF x) (fun k => f.xs.length - k)
    ⟨0, ⟨rfl, rfl, rfl, trivial⟩, I, Nat.zero_le _, fun j hj => by omega⟩ ?_
  rintro k e w ⟨I, hk, hn⟩
  refine WP.seq ?_
  refine WP.seq ?_
  refine WP.region ?_
  refine Ops.y (v := .int .i64 _) (Y.move rfl) ?_
  refine Ops.y (v := .slice _ _ _) (Y.move rfl) ?_
  refine Ops.y (v := .int .i64 _) (Y.lens Try.underlying33 rfl) ?_
  refine Ops.y (v := .bool (decide _)) (Y.lti rfl rfl) ?_
  refine Ops.nil ?_
  refine WP.cond_dec rfl (fun h => ?_) (fun h => ?_)
  · have hk' : k < f.xs.length := by omega
    have E1 := hf.at hk'
    refine WP.skip ?_
    refine WP.seq ?_
    refine WP.block ?_
    refine WP.seq ?_
    refine WP.regionQ mixed I (by kernel_rfl) ?_
    refine OpsQ.y (v := .slice _ _ _) (fun w I => Y.move rfl) ?_
    refine OpsQ.y (v := .int .i64 _) (fun w I => Y.move rfl) ?_
    refine OpsQ.y (v := .pointer (some ⟨_, _, none⟩)) (fun w I => Y.idxEl E1 Try.underlying33 Try.sizeOf35 rfl rfl (Int.natCast_nonneg _) rfl) ?_
    refine OpsQ.y (v := .agg #[_, _, _, _]) (fun w I => Y.loadv ty_35 rfl (I.rd (E1.rd.part 0 4)) rfl rfl) ?_
    refine OpsQ.c (fun w I => QC.callv I Try.call42 (place_ok _ I.base_ok _ (hp _ (List.getElem_mem hk'))) rfl) ?_
    refine OpsQ.y (v := .agg #[_, _, _, _]) (fun w I => Y.loadv ty_35 rfl (I.rdbox 0 rfl 0 4) rfl rfl) ?_
    refine OpsQ.c (fun w I => QC.callv I Try.call42 (place_ok _ I.base_ok _ hx) rfl) ?_
    refine OpsQ.y (v := .bool (decide _)) (fun w I => Y.eqi rfl rfl) ?_
    refine OpsQ.nil ?_
    intro w I
    refine WP.cond_dec rfl (fun h4 => ?_) (fun h4 => ?_)
    · refine WP.seq ?_
      refine WP.region ?_
      refine Ops.y (v := .slice _ _ _) (Y.move rfl) ?_
      refine Ops.y (v := .int .i64 _) (Y.move rfl) ?_
      refine Ops.y (v := .pointer (some ⟨_, _, none⟩)) (Y.idxEl E1 Try.underlying33 Try.sizeOf35 rfl rfl (Int.natCast_nonneg _) rfl) ?_
      refine Ops.y (v := .pointer (some ⟨_, _, none⟩)) (Y.fa fa_35_3 rfl) ?_
      refine Ops.y (v := .int .i64 _) (Y.loadv ty_3 rfl (I.rd (E1.rd.part 3 1)) rfl rfl) ?_
      refine Ops.y (v := .int .i64 _) (Y.assign rfl) ?_
      refine Ops.y (v := .bool _) (Y.assign rfl) ?_
      refine Ops.nil ?_
      have hl := lkF_first hk' hn h4
      refine WP.ret ?_
      repeat (first | refine thenE_ret ?_ | refine blockE_ret ?_)
      exact retQ.mk (vs := [.int .i64 _, .bool _]) rfl ⟨rfl, rfl, trivial⟩ I.ext_of (by simp only [tup, findF, hl]; rfl)
    refine WP.skip ?_
    refine WP.region ?_
    refine Ops.y (v := .int .i64 _) (Y.move rfl) ?_
    refine Ops.y (v := .int .i64 _) (Y.addi rfl rfl ⟨by omega, by omega⟩) ?_
    refine Ops.y (v := .int .i64 _) (Y.assign rfl) ?_
    refine Ops.nil ?_
    exact ⟨k + 1, ⟨⟨rfl, rfl, rfl, trivial⟩, I, by omega, fun j hj hj' => by
      rcases Nat.lt_succ_iff_lt_or_eq.1 hj with h' | rfl
      · exact hn j h' hj'
      · exact h4⟩, by omega⟩
  have hl : lkF f.xs (placeF x) = none := lkF_none.2 fun y hy => by obtain ⟨j, hj, rfl⟩ := List.getElem_of_mem hy; exact hn j (by omega) hj
  refine WP.exit ?_
  refine WP.seq ?_
  refine WP.region ?_
  refine Ops.y (v := .int .i64 _) (Y.assign rfl) ?_
  refine Ops.y (v := .bool _) (Y.assign rfl) ?_
  refine Ops.nil ?_
  refine WP.ret ?_
  repeat (first | refine thenE_ret ?_ | refine blockE_ret ?_)
  exact retQ.mk (vs := [.int .i64 _, .bool _]) rfl ⟨rfl, rfl, trivial⟩ I.ext_of (by simp only [tup, findF, hl]; rfl)
theorem Bsf_ok (B : Base) (hB : B.ok) (f : Sl Fct) (hf : Fcts f B.h) (hp : ∀ y ∈ f.xs, PF y) (hs : SrtF f.xs) (x : Fct) (hx : PF x) :
    Fn Try.prog 64 [f.val, x.val, .func (.func 41) #[] #[]] B (fun v _ => v = .tuple #[.int .i64 (posF f.xs x : Nat), .bool (isF f.xs x)]) := by
  have hsf := hf.small
  refine Fn.of Try.func64 rfl Try.ntmps64 (by kernel_rfl) (by simp) ?_
  intro e
  have I := Inv.start hB
  refine WP.seq ?_
  refine WP.region ?_
  refine Ops.go (O.box (v := .agg #[_, _, _, _]) I rfl rfl ?_)
  intro b4 w I
  refine Ops.y (v := .int .i64 _) (Y.assign rfl) ?_
  refine Ops.y (v := .bool _) (Y.assign rfl) ?_
  refine Ops.nil ?_
  refine WP.seq ?_
  refine WP.region ?_
  refine Ops.y (v := .slice _ _ _) (Y.move rfl) ?_
  refine Ops.y (v := .int .i64 _) (Y.lens Try.underlying33 rfl) ?_
  refine Ops.y (v := .int .i64 _) (Y.assign rfl) ?_
  refine Ops.nil ?_
  refine WP.seq ?_
  refine WP.region ?_
  refine Ops.y (v := .int .i64 _) (Y.move rfl) ?_
  refine Ops.y (v := .int .i64 _) (Y.assign rfl) ?_
  refine Ops.y (v := .int .i64 _) (Y.assign rfl) ?_
  refine Ops.nil ?_
  refine WP.seq ?_
  refine WP.block ?_
  refine WP.loopE (σ := Nat × Nat) (fun s => [(0, f.val), (2, .func (.func 41) #[] #[]), (4, .pointer (some ⟨b4, 0, none⟩)), (8, .int .i64 f.xs.length), (9, .int .i64 s.1), (10, .int .i64 s.2)])
    (fun s w => Inv B B.h [box b4 x.enc 35] w ∧ s.1 ≤ s.2 ∧ s.2 ≤ f.xs.length ∧ (∀ m, (h : m < f.xs.length) → m < s.1 → placeF f.xs[m] < placeF x) ∧ (∀ m, (h : m < f.xs.length) → s.2 ≤ m → ¬ placeF f.xs[m] < placeF x)) (fun s => s.2 - s.1)
    ⟨(0, f.xs.length), ⟨rfl, rfl, rfl, rfl, rfl, rfl, trivial⟩, I, Nat.zero_le _, Nat.le_refl _, fun m h hm => absurd hm (Nat.not_lt_zero _), fun m h hm => absurd h (Nat.not_lt.2 hm)⟩ ?_
  rintro ⟨i, j⟩ e w ⟨I, hij, hjn, hlo, hhi⟩
  dsimp only at I hij hjn hlo hhi ⊢
  refine WP.seq ?_
  refine WP.seq ?_
  refine WP.region ?_
  refine Ops.y (v := .int .i64 _) (Y.move rfl) ?_
  refine Ops.y (v := .int .i64 _) (Y.move rfl) ?_
  refine Ops.y (v := .bool (decide _)) (Y.lti rfl rfl) ?_
  refine Ops.nil ?_
  refine WP.cond_dec rfl (fun h => ?_) (fun h => ?_)
  · have hm : (i + j) / 2 < f.xs.length := by omega
    have E1 := hf.at hm
    have pm := hp _ (List.getElem_mem hm)
    refine WP.skip ?_
    refine WP.block ?_
    refine WP.seq ?_
    refine WP.region ?_
    refine Ops.y (v := .int .i64 _) (Y.move rfl) ?_
    refine Ops.y (v := .int .i64 _) (Y.move rfl) ?_
    refine Ops.y (v := .int .i64 _) (Y.addi rfl rfl ⟨by omega, by omega⟩) ?_
    refine Ops.y (v := .int .u64 _) (Y.conv (by rw [Try.underlying3]; rfl) Try.underlying117 (wrap_u64 (by omega) (by omega)) rfl) ?_
    refine Ops.y (v := .int .u64 _) (Y.half (by decide) rfl rfl) ?_
    refine Ops.y (v := .int .i64 _) (Y.conv (by rw [Try.underlying117]; rfl) Try.underlying3 (wrap_i64 ⟨by omega, by omega⟩) rfl) ?_
    refine Ops.y (v := .int .i64 _) (Y.assign rfl) ?_
    refine Ops.nil ?_
    refine WP.seq ?_
    refine WP.regionQ mixed I (by kernel_rfl) ?_
    refine OpsQ.y (v := .func _ _ _) (fun w I => Y.move rfl) ?_
    refine OpsQ.y (v := .slice _ _ _) (fun w I => Y.move rfl) ?_
    refine OpsQ.y (v := .int .i64 _) (fun w I => Y.move rfl) ?_
    refine OpsQ.y (v := .pointer (some ⟨_, _, none⟩)) (fun w I => Y.idxEl E1 Try.underlying33 Try.sizeOf35 rfl rfl (by omega) (by omega)) ?_
    refine OpsQ.y (v := .agg #[_, _, _, _]) (fun w I => Y.loadv ty_35 rfl (I.rd (E1.rd.part 0 4)) rfl rfl) ?_
    refine OpsQ.y (v := .agg #[_, _, _, _]) (fun w I => Y.loadv ty_35 rfl (I.rdbox 0 rfl 0 4) rfl rfl) ?_
    refine OpsQ.c (fun w I => QC.callcv I Try.call41 (fs := []) (cs := []) rfl (order_ok _ I.base_ok _ _) rfl) ?_
    refine OpsQ.y (v := .bool (decide _)) (fun w I => Y.lti rfl rfl) ?_
    refine OpsQ.nil ?_
    intro w I
    refine WP.cond_dec rfl (fun h5 => ?_) (fun h5 => ?_)
    · have hlt := (ordF_neg pm hx).1 h5
      refine WP.region ?_
      refine Ops.y (v := .int .i64 _) (Y.move rfl) ?_
      refine Ops.y (v := .int .i64 _) (Y.addi rfl rfl ⟨by omega, by omega⟩) ?_
      refine Ops.y (v := .int .i64 _) (Y.assign rfl) ?_
      refine Ops.nil ?_
      exact ⟨((i + j) / 2 + 1, j), ⟨⟨rfl, rfl, rfl, rfl, by simp only [E, upd]; congr 1, rfl, trivial⟩, I, by omega, hjn, fun m h hm' => by
        rcases Nat.lt_or_ge m ((i + j) / 2) with h' | h'
        · exact Int.lt_trans (hs.get h' hm) hlt
        · obtain rfl : m = (i + j) / 2 := by omega
          exact hlt, hhi⟩, by omega⟩
    have hge : ¬ placeF f.xs[(i + j) / 2] < placeF x := fun hh => h5 ((ordF_neg pm hx).2 hh)
    refine WP.region ?_
    refine Ops.y (v := .int .i64 _) (Y.move rfl) ?_
    refine Ops.y (v := .int .i64 _) (Y.assign rfl) ?_
    refine Ops.nil ?_
    exact ⟨(i, (i + j) / 2), ⟨⟨rfl, rfl, rfl, rfl, rfl, by simp only [E, upd]; congr 1, trivial⟩, I, by omega, by omega, hlo, fun m h hm' => by
        rcases Nat.lt_or_ge ((i + j) / 2) m with h' | h'
        · have := hs.get h' h; omega
        · obtain rfl : m = (i + j) / 2 := by omega
          exact hge⟩, by omega⟩
  obtain rfl : j = i := by omega
  have hpos : posF f.xs x = j := posF_of hjn (fun m h hm => hlo m h hm) (fun h => hhi j h (Nat.le_refl _))
  have hiff := isF_iff (x := x) hs
  by_cases o1 : (j : Int) < (f.xs.length : Int)
  · have E1 := hf.at (i := j) (by omega)
    have pm := hp f.xs[j] (List.getElem_mem _)
    refine WP.exit ?_
    refine WP.seq ?_
    refine WP.regionQ mixed I (by kernel_rfl) ?_
    refine OpsQ.y (v := .int .i64 _) (fun w I => Y.move rfl) ?_
    refine OpsQ.y (v := .int .i64 _) (fun w I => Y.move rfl) ?_
    refine OpsQ.y (v := .int .i64 _) (fun w I => Y.move rfl) ?_
    refine OpsQ.y (v := .bool true) (fun w I => Y.dec_t (Y.lti rfl rfl) (o1)) ?_
    refine OpsQ.y (v := .bool _) (fun w I => Y.move rfl) ?_
    refine OpsQ.ygt rfl (v := .func _ _ _) (fun w I => Y.move rfl) ?_
    refine OpsQ.ygt rfl (v := .slice _ _ _) (fun w I => Y.move rfl) ?_
    refine OpsQ.ygt rfl (v := .int .i64 _) (fun w I => Y.move rfl) ?_
    refine OpsQ.ygt rfl (v := .pointer (some ⟨_, _, none⟩)) (fun w I => Y.idxEl E1 Try.underlying33 Try.sizeOf35 rfl rfl (Int.natCast_nonneg _) rfl) ?_
    refine OpsQ.ygt rfl (v := .agg #[_, _, _, _]) (fun w I => Y.loadv ty_35 rfl (I.rd (E1.rd.part 0 4)) rfl rfl) ?_
    refine OpsQ.ygt rfl (v := .agg #[_, _, _, _]) (fun w I => Y.loadv ty_35 rfl (I.rdbox 0 rfl 0 4) rfl rfl) ?_
    refine OpsQ.cgt rfl (fun w I => QC.callcv I Try.call41 (fs := []) (cs := []) rfl (order_ok _ I.base_ok _ _) rfl) ?_
    refine OpsQ.ygt rfl (v := .bool (decide _)) (fun w I => Y.eqi rfl rfl) ?_
    refine OpsQ.y (v := .bool _) (fun w I => Y.pick_t rfl rfl) ?_
    refine OpsQ.y (v := .int .i64 _) (fun w I => Y.assign rfl) ?_
    refine OpsQ.y (v := .bool _) (fun w I => Y.assign rfl) ?_
    refine OpsQ.nil ?_
    intro w I
    have hb : isF f.xs x = decide (ordF f.xs[j] x = 0) := by
      rw [Bool.eq_iff_iff, hiff, decide_eq_true_eq, ordF_zero pm hx]; simp only [hpos]; exact ⟨fun ⟨_, hh⟩ => hh, fun hh => ⟨by omega, hh⟩⟩
    refine WP.ret ?_
    repeat (first | refine thenE_ret ?_ | refine blockE_ret ?_)
    exact retQ.mk (vs := [.int .i64 _, .bool _]) rfl ⟨rfl, rfl, trivial⟩ I.ext_of (by simp only [tup]; rw [hpos, hb])
  · refine WP.exit ?_
    refine WP.seq ?_
    refine WP.regionQ mixed I (by kernel_rfl) ?_
    refine OpsQ.y (v := .int .i64 _) (fun w I => Y.move rfl) ?_
    refine OpsQ.y (v := .int .i64 _) (fun w I => Y.move rfl) ?_
    refine OpsQ.y (v := .int .i64 _) (fun w I => Y.move rfl) ?_
    refine OpsQ.y (v := .bool false) (fun w I => Y.dec_f (Y.lti rfl rfl) (o1)) ?_
    refine OpsQ.y (v := .bool _) (fun w I => Y.move rfl) ?_
    refine OpsQ.gf rfl ?_
    refine OpsQ.gf rfl ?_
    refine OpsQ.gf rfl ?_
    refine OpsQ.gf rfl ?_
    refine OpsQ.gf rfl ?_
    refine OpsQ.gf rfl ?_
    refine OpsQ.gf rfl ?_
    refine OpsQ.gf rfl ?_
    refine OpsQ.y (v := .bool _) (fun w I => Y.pick_f rfl rfl) ?_
    refine OpsQ.y (v := .int .i64 _) (fun w I => Y.assign rfl) ?_
    refine OpsQ.y (v := .bool _) (fun w I => Y.assign rfl) ?_
    refine OpsQ.nil ?_
    intro w I
    have hb : isF f.xs x = false := by
      rw [Bool.eq_false_iff]; intro hh; obtain ⟨hh, _⟩ := hiff.1 hh; omega
    refine WP.ret ?_
    repeat (first | refine thenE_ret ?_ | refine blockE_ret ?_)
    exact retQ.mk (vs := [.int .i64 _, .bool _]) rfl ⟨rfl, rfl, trivial⟩ I.ext_of (by simp only [tup]; rw [hpos, hb])
theorem Seek_ok (B : Base) (hB : B.ok) (f : Sl Fct) (hf : Fcts f B.h) (hp : ∀ y ∈ f.xs, PF y) (hs : SrtF f.xs) (x : Fct) (hx : PF x) : Fn Try.prog 34 [f.val, x.val] B (fun v _ => v = .tuple #[.int .i64 (posF f.xs x : Nat), .bool (isF f.xs x)]) := by
  refine Fn.of Try.func34 rfl Try.ntmps34 (by kernel_rfl) (by simp) ?_
  intro e
  have I := Inv.start hB
  refine WP.seq ?_
  refine WP.region ?_
  refine Ops.go (O.box (v := .agg #[_, _, _, _]) I rfl rfl ?_)
  intro b3 w I
  refine Ops.y (v := .int .i64 _) (Y.assign rfl) ?_
  refine Ops.y (v := .bool _) (Y.assign rfl) ?_
  refine Ops.nil ?_
  refine WP.seq ?_
  refine WP.region ?_
  refine Ops.y (v := .slice _ _ _) (Y.move rfl) ?_
  refine Ops.y (v := .agg #[_, _, _, _]) (Y.loadv ty_35 rfl (I.rdbox 0 rfl 0 4) rfl rfl) ?_
  refine Ops.go (O.callv I Try.call64 (Bsf_ok _ I.base_ok f hf hp hs x hx) rfl ?_)
  intro w I
  refine Ops.y (v := .int .i64 _) (Y.extract rfl rfl) ?_
  refine Ops.y (v := .bool _) (Y.extract rfl rfl) ?_
  refine Ops.y (v := .int .i64 _) (Y.assign rfl) ?_
  refine Ops.y (v := .bool _) (Y.assign rfl) ?_
  refine Ops.nil ?_
  refine WP.ret ?_
  repeat (first | refine thenE_ret ?_ | refine blockE_ret ?_)
  exact retQ.mk (vs := [.int .i64 _, .bool _]) rfl ⟨rfl, rfl, trivial⟩ I.ext_of (rfl)
def askF (l : List Prd) (f : List Fct) (x : Fct) : Int := if checkFacts l f ≠ 0 then checkFacts l f else if factFine l x then 0 else 1
theorem asked_ok (B : Base) (hB : B.ok) (l : Sl Prd) (hl : Prds l B.h) (f : Sl Fct) (hf : Fcts f B.h) (x : Fct) : Fn Try.prog 33 [l.val, f.val, x.val] B (fun v _ => v = .int .i64 (askF l.xs f.xs x)) := by
  refine Fn.of Try.func33 rfl Try.ntmps33 (by kernel_rfl) (by simp) ?_
  intro e
  have I := Inv.start hB
  refine WP.seq ?_
  refine WP.region ?_
  refine Ops.go (O.box (v := .agg #[_, _, _, _]) I rfl rfl ?_)
  intro b5 w I
  refine Ops.y (v := .int .i64 _) (Y.assign rfl) ?_
  refine Ops.nil ?_
  refine WP.seq ?_
  refine WP.seq ?_
  refine WP.region ?_
  refine Ops.y (v := .slice _ _ _) (Y.move rfl) ?_
  refine Ops.y (v := .slice _ _ _) (Y.move rfl) ?_
  refine Ops.go (O.callv I Try.call16 (BCheck_ok _ I.base_ok l hl f hf) rfl ?_)
  intro w I
  refine Ops.y (v := .int .i64 _) (Y.assign rfl) ?_
  refine Ops.nil ?_
  refine WP.seq ?_
  refine WP.region ?_
  refine Ops.y (v := .int .i64 _) (Y.move rfl) ?_
  refine Ops.y (v := .bool (decide _)) (Y.nei rfl rfl) ?_
  refine Ops.nil ?_
  refine WP.cond_dec rfl (fun h => ?_) (fun h => ?_)
  · refine WP.seq ?_
    refine WP.region ?_
    refine Ops.y (v := .int .i64 _) (Y.move rfl) ?_
    refine Ops.y (v := .int .i64 _) (Y.assign rfl) ?_
    refine Ops.nil ?_
    refine WP.ret ?_
    repeat (first | refine thenE_ret ?_ | refine blockE_ret ?_)
    exact retQ.mk (vs := [.int .i64 _]) rfl ⟨rfl, trivial⟩ I.ext_of (by simp only [tup, askF]; rw [if_pos h])
  cases hx : factFine l.xs x
  · refine WP.skip ?_
    refine WP.seq ?_
    refine WP.seq ?_
    refine WP.region ?_
    refine Ops.y (v := .slice _ _ _) (Y.move rfl) ?_
    refine Ops.y (v := .agg #[_, _, _, _]) (Y.loadv ty_35 rfl (I.rdbox 0 rfl 0 4) rfl rfl) ?_
    refine Ops.go (O.callv I Try.call40 (Fine_ok _ I.base_ok l hl x) rfl ?_)
    intro w I
    refine Ops.y (v := .bool true) (Y.b (Y.not rfl) ((by rw [hx]; rfl))) ?_
    refine Ops.nil ?_
    refine WP.cond_t rfl ?_
    refine WP.seq ?_
    refine WP.region ?_
    refine Ops.y (v := .int .i64 _) (Y.assign rfl) ?_
    refine Ops.nil ?_
    refine WP.ret ?_
    repeat (first | refine thenE_ret ?_ | refine blockE_ret ?_)
    exact retQ.mk (vs := [.int .i64 _]) rfl ⟨rfl, trivial⟩ I.ext_of (by simp only [tup, askF]; rw [if_neg h, hx]; rfl)
  · refine WP.skip ?_
    refine WP.seq ?_
    refine WP.seq ?_
    refine WP.region ?_
    refine Ops.y (v := .slice _ _ _) (Y.move rfl) ?_
    refine Ops.y (v := .agg #[_, _, _, _]) (Y.loadv ty_35 rfl (I.rdbox 0 rfl 0 4) rfl rfl) ?_
    refine Ops.go (O.callv I Try.call40 (Fine_ok _ I.base_ok l hl x) rfl ?_)
    intro w I
    refine Ops.y (v := .bool false) (Y.b (Y.not rfl) ((by rw [hx]; rfl))) ?_
    refine Ops.nil ?_
    refine WP.cond_f rfl ?_
    refine WP.skip ?_
    refine WP.seq ?_
    refine WP.region ?_
    refine Ops.y (v := .int .i64 _) (Y.assign rfl) ?_
    refine Ops.nil ?_
    refine WP.ret ?_
    repeat (first | refine thenE_ret ?_ | refine blockE_ret ?_)
    exact retQ.mk (vs := [.int .i64 _]) rfl ⟨rfl, trivial⟩ I.ext_of (by simp only [tup, askF]; rw [if_neg h, hx]; rfl)
def tFind (x : Int × Bool × Int) : Value := .tuple #[.int .i64 x.1, .bool x.2.1, .int .i64 x.2.2]
theorem Find_ok (B : Base) (hB : B.ok) (l : Sl Prd) (hl : Prds l B.h) (f : Sl Fct) (hf : Fcts f B.h) (x : Fct) : Fn Try.prog 13 [l.val, f.val, x.val] B (fun v _ => v = tFind (findOf l.xs f.xs x)) := by
  refine Fn.of Try.func13 rfl Try.ntmps13 (by kernel_rfl) (by simp) ?_
  intro e
  have I := Inv.start hB
  refine WP.seq ?_
  refine WP.region ?_
  refine Ops.go (O.box (v := .agg #[_, _, _, _]) I rfl rfl ?_)
  intro b5 w I
  refine Ops.y (v := .int .i64 _) (Y.assign rfl) ?_
  refine Ops.y (v := .bool _) (Y.assign rfl) ?_
  refine Ops.y (v := .int .i64 _) (Y.assign rfl) ?_
  refine Ops.nil ?_
  refine WP.seq ?_
  refine WP.seq ?_
  refine WP.region ?_
  refine Ops.y (v := .slice _ _ _) (Y.move rfl) ?_
  refine Ops.y (v := .slice _ _ _) (Y.move rfl) ?_
  refine Ops.y (v := .agg #[_, _, _, _]) (Y.loadv ty_35 rfl (I.rdbox 0 rfl 0 4) rfl rfl) ?_
  refine Ops.go (O.callv I Try.call33 (asked_ok _ I.base_ok l hl f hf x) rfl ?_)
  intro w I
  refine Ops.y (v := .int .i64 _) (Y.assign rfl) ?_
  refine Ops.nil ?_
  refine WP.seq ?_
  refine WP.region ?_
  refine Ops.y (v := .int .i64 _) (Y.move rfl) ?_
  refine Ops.y (v := .bool (decide _)) (Y.nei rfl rfl) ?_
  refine Ops.nil ?_
  refine WP.cond_dec rfl (fun h => ?_) (fun h => ?_)
  · refine WP.seq ?_
    refine WP.region ?_
    refine Ops.y (v := .int .i64 _) (Y.move rfl) ?_
    refine Ops.y (v := .int .i64 _) (Y.assign rfl) ?_
    refine Ops.y (v := .bool _) (Y.assign rfl) ?_
    refine Ops.y (v := .int .i64 _) (Y.assign rfl) ?_
    refine Ops.nil ?_
    refine WP.ret ?_
    repeat (first | refine thenE_ret ?_ | refine blockE_ret ?_)
    exact retQ.mk (vs := [.int .i64 _, .bool _, .int .i64 _]) rfl ⟨rfl, rfl, rfl, trivial⟩ I.ext_of (by unfold askF at h ⊢; simp only [tup, tFind, findOf]; split at h <;> rename_i hc <;> simp_all)
  have hc : checkFacts l.xs f.xs = 0 := by unfold askF at h; split at h <;> rename_i hc <;> omega
  have hx : factFine l.xs x = true := by
    unfold askF at h; rw [if_neg (by simpa using hc)] at h
    cases hx : factFine l.xs x
    · rw [hx] at h; simp at h
    · rfl
  have ok := checkFacts_ok.1 hc
  have px := fine_pf ok.len hx
  have hiff := isF_iff (x := x) ok.srt
  refine WP.skip ?_
  refine WP.seq ?_
  refine WP.region ?_
  refine Ops.y (v := .slice _ _ _) (Y.move rfl) ?_
  refine Ops.y (v := .agg #[_, _, _, _]) (Y.loadv ty_35 rfl (I.rdbox 0 rfl 0 4) rfl rfl) ?_
  refine Ops.go (O.callv I Try.call34 (Seek_ok _ I.base_ok f hf ok.pf ok.srt x px) rfl ?_)
  intro w I
  refine Ops.y (v := .tuple #[_, _]) (Y.move rfl) ?_
  refine Ops.y (v := .int .i64 _) (Y.extract rfl rfl) ?_
  refine Ops.y (v := .bool _) (Y.extract rfl rfl) ?_
  refine Ops.y (v := .int .i64 _) (Y.assign rfl) ?_
  refine Ops.y (v := .bool _) (Y.assign rfl) ?_
  refine Ops.nil ?_
  cases hi : isF f.xs x
  · refine WP.seq ?_
    refine WP.seq ?_
    refine WP.region ?_
    refine Ops.y (v := .bool _) (Y.move rfl) ?_
    refine Ops.y (v := .bool true) (Y.b (Y.not rfl) ((by first | rfl | (rw [hi]; rfl)))) ?_
    refine Ops.nil ?_
    refine WP.cond_t rfl ?_
    refine WP.seq ?_
    refine WP.region ?_
    refine Ops.y (v := .int .i64 _) (Y.assign rfl) ?_
    refine Ops.y (v := .bool _) (Y.assign rfl) ?_
    refine Ops.y (v := .int .i64 _) (Y.assign rfl) ?_
    refine Ops.nil ?_
    refine WP.ret ?_
    repeat (first | refine thenE_ret ?_ | refine blockE_ret ?_)
    exact retQ.mk (vs := [.int .i64 _, .bool _, .int .i64 _]) rfl ⟨rfl, rfl, rfl, trivial⟩ I.ext_of (by simp only [tup, tFind, findOf]; rw [if_neg (by simpa using hc), if_pos hx]; simp only [findF]; unfold isF at hi; rw [hi]; cases hk : lkF f.xs (placeF x) <;> simp_all)
  · refine WP.seq ?_
    refine WP.seq ?_
    refine WP.region ?_
    refine Ops.y (v := .bool _) (Y.move rfl) ?_
    refine Ops.y (v := .bool false) (Y.b (Y.not rfl) ((by first | rfl | (rw [hi]; rfl)))) ?_
    refine Ops.nil ?_
    refine WP.cond_f rfl ?_
    obtain ⟨hlt, he⟩ := hiff.1 hi
    have E1 := hf.at hlt
    have hk := lkF_pos ok.srt hlt he
    refine WP.skip ?_
    refine WP.seq ?_
    refine WP.region ?_
    refine Ops.y (v := .slice _ _ _) (Y.move rfl) ?_
    refine Ops.y (v := .int .i64 _) (Y.move rfl) ?_
    refine Ops.y (v := .pointer (some ⟨_, _, none⟩)) (Y.idxEl E1 Try.underlying33 Try.sizeOf35 rfl rfl (Int.natCast_nonneg _) rfl) ?_
    refine Ops.y (v := .pointer (some ⟨_, _, none⟩)) (Y.fa fa_35_3 rfl) ?_
    refine Ops.y (v := .int .i64 _) (Y.loadv ty_3 rfl (I.rd (E1.rd.part 3 1)) rfl rfl) ?_
    refine Ops.y (v := .int .i64 _) (Y.assign rfl) ?_
    refine Ops.y (v := .bool _) (Y.assign rfl) ?_
    refine Ops.y (v := .int .i64 _) (Y.assign rfl) ?_
    refine Ops.nil ?_
    refine WP.ret ?_
    repeat (first | refine thenE_ret ?_ | refine blockE_ret ?_)
    exact retQ.mk (vs := [.int .i64 _, .bool _, .int .i64 _]) rfl ⟨rfl, rfl, rfl, trivial⟩ I.ext_of (by simp only [tup, tFind, findOf]; rw [if_neg (by simpa using hc), if_pos hx]; simp only [findF, hk]; rfl)
theorem FindOf_ok (B : Base) (hB : B.ok) (l : Sl Prd) (hl : Prds l B.h) (f : Sl Fct) (hf : Fcts f B.h) (x : Fct) : Fn Try.prog 14 [l.val, f.val, x.val] B (fun v _ => v = tFind (findOf l.xs f.xs x)) := by
  refine Fn.of Try.func14 rfl Try.ntmps14 (by kernel_rfl) (by simp) ?_
  intro e
  have I := Inv.start hB
  refine WP.seq ?_
  refine WP.region ?_
  refine Ops.go (O.box (v := .agg #[_, _, _, _]) I rfl rfl ?_)
  intro b5 w I
  refine Ops.y (v := .int .i64 _) (Y.assign rfl) ?_
  refine Ops.y (v := .bool _) (Y.assign rfl) ?_
  refine Ops.y (v := .int .i64 _) (Y.assign rfl) ?_
  refine Ops.nil ?_
  refine WP.seq ?_
  refine WP.seq ?_
  refine WP.region ?_
  refine Ops.y (v := .slice _ _ _) (Y.move rfl) ?_
  refine Ops.y (v := .slice _ _ _) (Y.move rfl) ?_
  refine Ops.go (O.callv I Try.call17 (RCheckFacts_ok _ I.base_ok l hl f hf) rfl ?_)
  intro w I
  refine Ops.y (v := .int .i64 _) (Y.assign rfl) ?_
  refine Ops.nil ?_
  refine WP.seq ?_
  refine WP.region ?_
  refine Ops.y (v := .int .i64 _) (Y.move rfl) ?_
  refine Ops.y (v := .bool (decide _)) (Y.nei rfl rfl) ?_
  refine Ops.nil ?_
  refine WP.cond_dec rfl (fun h => ?_) (fun h => ?_)
  · refine WP.seq ?_
    refine WP.region ?_
    refine Ops.y (v := .int .i64 _) (Y.move rfl) ?_
    refine Ops.y (v := .int .i64 _) (Y.assign rfl) ?_
    refine Ops.y (v := .bool _) (Y.assign rfl) ?_
    refine Ops.y (v := .int .i64 _) (Y.assign rfl) ?_
    refine Ops.nil ?_
    refine WP.ret ?_
    repeat (first | refine thenE_ret ?_ | refine blockE_ret ?_)
    exact retQ.mk (vs := [.int .i64 _, .bool _, .int .i64 _]) rfl ⟨rfl, rfl, rfl, trivial⟩ I.ext_of (by simp only [tup, tFind, findOf]; rw [if_pos h])
  have ok := checkFacts_ok.1 (Decidable.not_not.1 h)
  cases hx : factFine l.xs x
  · refine WP.skip ?_
    refine WP.seq ?_
    refine WP.seq ?_
    refine WP.region ?_
    refine Ops.y (v := .slice _ _ _) (Y.move rfl) ?_
    refine Ops.y (v := .agg #[_, _, _, _]) (Y.loadv ty_35 rfl (I.rdbox 0 rfl 0 4) rfl rfl) ?_
    refine Ops.go (O.callv I Try.call35 (FactFine_ok _ I.base_ok l hl x) rfl ?_)
    intro w I
    refine Ops.y (v := .bool true) (Y.b (Y.not rfl) ((by rw [hx]; rfl))) ?_
    refine Ops.nil ?_
    refine WP.cond_t rfl ?_
    refine WP.seq ?_
    refine WP.region ?_
    refine Ops.y (v := .int .i64 _) (Y.assign rfl) ?_
    refine Ops.y (v := .bool _) (Y.assign rfl) ?_
    refine Ops.y (v := .int .i64 _) (Y.assign rfl) ?_
    refine Ops.nil ?_
    refine WP.ret ?_
    repeat (first | refine thenE_ret ?_ | refine blockE_ret ?_)
    exact retQ.mk (vs := [.int .i64 _, .bool _, .int .i64 _]) rfl ⟨rfl, rfl, rfl, trivial⟩ I.ext_of (by simp only [tup, tFind, findOf]; rw [if_neg h, hx]; rfl)
  · refine WP.skip ?_
    refine WP.seq ?_
    refine WP.seq ?_
    refine WP.region ?_
    refine Ops.y (v := .slice _ _ _) (Y.move rfl) ?_
    refine Ops.y (v := .agg #[_, _, _, _]) (Y.loadv ty_35 rfl (I.rdbox 0 rfl 0 4) rfl rfl) ?_
    refine Ops.go (O.callv I Try.call35 (FactFine_ok _ I.base_ok l hl x) rfl ?_)
    intro w I
    refine Ops.y (v := .bool false) (Y.b (Y.not rfl) ((by rw [hx]; rfl))) ?_
    refine Ops.nil ?_
    refine WP.cond_f rfl ?_
    refine WP.skip ?_
    refine WP.seq ?_
    refine WP.region ?_
    refine Ops.y (v := .slice _ _ _) (Y.move rfl) ?_
    refine Ops.y (v := .agg #[_, _, _, _]) (Y.loadv ty_35 rfl (I.rdbox 0 rfl 0 4) rfl rfl) ?_
    refine Ops.go (O.callv I Try.call36 (rfind_ok _ I.base_ok f hf ok.pf x (fine_pf ok.len hx)) rfl ?_)
    intro w I
    refine Ops.y (v := .tuple #[_, _]) (Y.move rfl) ?_
    refine Ops.y (v := .int .i64 _) (Y.extract rfl rfl) ?_
    refine Ops.y (v := .bool _) (Y.extract rfl rfl) ?_
    refine Ops.y (v := .int .i64 _) (Y.assign rfl) ?_
    refine Ops.y (v := .bool _) (Y.assign rfl) ?_
    refine Ops.nil ?_
    refine WP.seq ?_
    refine WP.region ?_
    refine Ops.y (v := .int .i64 _) (Y.move rfl) ?_
    refine Ops.y (v := .bool _) (Y.move rfl) ?_
    refine Ops.y (v := .int .i64 _) (Y.assign rfl) ?_
    refine Ops.y (v := .bool _) (Y.assign rfl) ?_
    refine Ops.y (v := .int .i64 _) (Y.assign rfl) ?_
    refine Ops.nil ?_
    refine WP.ret ?_
    repeat (first | refine thenE_ret ?_ | refine blockE_ret ?_)
    exact retQ.mk (vs := [.int .i64 _, .bool _, .int .i64 _]) rfl ⟨rfl, rfl, rfl, trivial⟩ I.ext_of (by simp only [tup, tFind, findOf]; rw [if_neg h, hx]; rfl)
/-! ### Being under -/
def upF (l : List Prd) (g : List Fct) (x : Fct) : Bool := (lkF g (placeF x)).isSome && decide (joinV (predOf l x.pred).kind x.v ((lkF g (placeF x)).getD 0) = (lkF g (placeF x)).getD 0)
theorem underF_eq (l : List Prd) (f g : List Fct) : underF l f g = f.all (upF l g) := rfl
theorem fine_kind {l : List Prd} {x : Fct} (h : factFine l x = true) : 0 ≤ (predOf l x.pred).kind ∧ (predOf l x.pred).kind ≤ 3 := by
  have := vOk_iff.1 (fine_iff.1 h).2.2.2.2.2; omega
set_option maxHeartbeats 1000000 in
theorem Below1_ok (B : Base) (hB : B.ok) (l : Sl Prd) (hl : Prds l B.h) (g : Sl Fct) (hg : Fcts g B.h) (bl bg : Nat) (kl : Known B.h bl [l.val]) (kg : Known B.h bg [g.val]) (ok : FOk l.xs g.xs) (x : Fct) (hx : factFine l.xs x = true) :
    Fn Try.prog 75 [x.val, .pointer (some ⟨bg, 0, none⟩), .pointer (some ⟨bl, 0, none⟩)] B (fun v _ => v = .bool (!upF l.xs g.xs x)) := by
  have px := fine_pf ok.len hx
  have hiff := isF_iff (x := x) ok.srt
  have h01 := (fine_iff.1 hx).1
  have hk : x.pred.toNat < l.xs.length := by omega
  have E2 := hl.at hk
  have hpo : l.xs[x.pred.toNat] = predOf l.xs x.pred := (predOf_getE h01.1 h01.2).symm
  have hkd := fine_kind hx
  rw [← hpo] at hkd
  refine Fn.of Try.func75 rfl Try.ntmps75 (by kernel_rfl) (by simp) ?_
  intro e
  have I := Inv.start hB
  refine WP.seq ?_
  refine WP.region ?_
  refine Ops.go (O.box (v := .agg #[_, _, _, _]) I rfl rfl ?_)
  intro b3 w I
  refine Ops.y (v := .bool _) (Y.assign rfl) ?_
  refine Ops.nil ?_
  refine WP.seq ?_
  refine WP.region ?_
  refine Ops.y (v := .slice _ _ _) (Y.loadv ty_33 rfl (I.rd (kg.rd.part 0 1)) rfl rfl) ?_
  refine Ops.y (v := .agg #[_, _, _, _]) (Y.loadv ty_35 rfl (I.rdbox 0 rfl 0 4) rfl rfl) ?_
  refine Ops.go (O.callv I Try.call34 (Seek_ok _ I.base_ok g hg ok.pf ok.srt x px) rfl ?_)
  intro w I
  refine Ops.y (v := .tuple #[_, _]) (Y.move rfl) ?_
  refine Ops.y (v := .int .i64 _) (Y.extract rfl rfl) ?_
  refine Ops.y (v := .bool _) (Y.extract rfl rfl) ?_
  refine Ops.y (v := .int .i64 _) (Y.assign rfl) ?_
  refine Ops.y (v := .bool _) (Y.assign rfl) ?_
  refine Ops.nil ?_
  cases hi : isF g.xs x
  · refine WP.seq ?_
    refine WP.regionQ mixed I (by kernel_rfl) ?_
    refine OpsQ.y (v := .bool _) (fun w I => Y.move rfl) ?_
    refine OpsQ.y (v := .bool true) (fun w I => Y.b (Y.not rfl) ((by first | rfl | (rw [hi]; rfl)))) ?_
    refine OpsQ.y (v := .bool _) (fun w I => Y.move rfl) ?_
    refine OpsQ.gf rfl ?_
    refine OpsQ.gf rfl ?_
    refine OpsQ.gf rfl ?_
    refine OpsQ.gf rfl ?_
    refine OpsQ.gf rfl ?_
    refine OpsQ.gf rfl ?_
    refine OpsQ.gf rfl ?_
    refine OpsQ.gf rfl ?_
    refine OpsQ.gf rfl ?_
    refine OpsQ.gf rfl ?_
    refine OpsQ.gf rfl ?_
    refine OpsQ.gf rfl ?_
    refine OpsQ.gf rfl ?_
    refine OpsQ.gf rfl ?_
    refine OpsQ.gf rfl ?_
    refine OpsQ.gf rfl ?_
    refine OpsQ.gf rfl ?_
    refine OpsQ.gf rfl ?_
    refine OpsQ.gf rfl ?_
    refine OpsQ.gf rfl ?_
    refine OpsQ.y (v := .bool _) (fun w I => Y.pick_t rfl rfl) ?_
    refine OpsQ.y (v := .bool _) (fun w I => Y.assign rfl) ?_
    refine OpsQ.nil ?_
    intro w I
    refine WP.ret ?_
    repeat (first | refine thenE_ret ?_ | refine blockE_ret ?_)
    exact retQ.mk (vs := [.bool _]) rfl ⟨rfl, trivial⟩ I.ext_of (by simp only [tup, upF]; unfold isF at hi; rw [hi]; rfl)
  · obtain ⟨hlt, he⟩ := hiff.1 hi
    have E1 := hg.at hlt
    have hlk := lkF_pos ok.srt hlt he
    refine WP.seq ?_
    refine WP.regionQ mixed I (by kernel_rfl) ?_
    refine OpsQ.y (v := .bool _) (fun w I => Y.move rfl) ?_
    refine OpsQ.y (v := .bool false) (fun w I => Y.b (Y.not rfl) ((by first | rfl | (rw [hi]; rfl)))) ?_
    refine OpsQ.y (v := .bool _) (fun w I => Y.move rfl) ?_
    refine OpsQ.ygt rfl (v := .slice _ _ _) (fun w I => Y.loadv ty_22 rfl (I.rd (kl.rd.part 0 1)) rfl rfl) ?_
    refine OpsQ.ygt rfl (v := .pointer (some ⟨_, _, none⟩)) (fun w I => Y.fa0 fa_35_0 rfl) ?_
    refine OpsQ.ygt rfl (v := .int .i64 _) (fun w I => Y.loadv ty_3 rfl (I.rdbox 0 rfl 0 1) rfl rfl) ?_
    refine OpsQ.ygt rfl (v := .pointer (some ⟨_, _, none⟩)) (fun w I => Y.idxEl E2 Try.underlying22 Try.sizeOf51 rfl rfl h01.1 rfl) ?_
    refine OpsQ.ygt rfl (v := .pointer (some ⟨_, _, none⟩)) (fun w I => Y.fa fa_51_2 rfl) ?_
    refine OpsQ.ygt rfl (v := .int .i64 _) (fun w I => Y.loadv ty_3 rfl (I.rd (E2.rd.part 2 1)) rfl rfl) ?_
    refine OpsQ.ygt rfl (v := .pointer (some ⟨_, _, none⟩)) (fun w I => Y.fa fa_35_3 rfl) ?_
    refine OpsQ.ygt rfl (v := .int .i64 _) (fun w I => Y.loadv ty_3 rfl (I.rdbox 0 rfl 3 1) rfl rfl) ?_
    refine OpsQ.ygt rfl (v := .slice _ _ _) (fun w I => Y.loadv ty_33 rfl (I.rd (kg.rd.part 0 1)) rfl rfl) ?_
    refine OpsQ.ygt rfl (v := .int .i64 _) (fun w I => Y.move rfl) ?_
    refine OpsQ.ygt rfl (v := .pointer (some ⟨_, _, none⟩)) (fun w I => Y.idxEl E1 Try.underlying33 Try.sizeOf35 rfl rfl (Int.natCast_nonneg _) rfl) ?_
    refine OpsQ.ygt rfl (v := .pointer (some ⟨_, _, none⟩)) (fun w I => Y.fa fa_35_3 rfl) ?_
    refine OpsQ.ygt rfl (v := .int .i64 _) (fun w I => Y.loadv ty_3 rfl (I.rd (E1.rd.part 3 1)) rfl rfl) ?_
    refine OpsQ.cgt rfl (fun w I => QC.callv I Try.call73 (Joined_ok _ I.base_ok _ _ _ hkd) rfl) ?_
    refine OpsQ.ygt rfl (v := .slice _ _ _) (fun w I => Y.loadv ty_33 rfl (I.rd (kg.rd.part 0 1)) rfl rfl) ?_
    refine OpsQ.ygt rfl (v := .int .i64 _) (fun w I => Y.move rfl) ?_
    refine OpsQ.ygt rfl (v := .pointer (some ⟨_, _, none⟩)) (fun w I => Y.idxEl E1 Try.underlying33 Try.sizeOf35 rfl rfl (Int.natCast_nonneg _) rfl) ?_
    refine OpsQ.ygt rfl (v := .pointer (some ⟨_, _, none⟩)) (fun w I => Y.fa fa_35_3 rfl) ?_
    refine OpsQ.ygt rfl (v := .int .i64 _) (fun w I => Y.loadv ty_3 rfl (I.rd (E1.rd.part 3 1)) rfl rfl) ?_
    refine OpsQ.ygt rfl (v := .bool (decide _)) (fun w I => Y.nei rfl rfl) ?_
    refine OpsQ.y (v := .bool _) (fun w I => Y.pick_f rfl rfl) ?_
    refine OpsQ.y (v := .bool _) (fun w I => Y.assign rfl) ?_
    refine OpsQ.nil ?_
    intro w I
    refine WP.ret ?_
    repeat (first | refine thenE_ret ?_ | refine blockE_ret ?_)
    exact retQ.mk (vs := [.bool _]) rfl ⟨rfl, trivial⟩ I.ext_of (by simp only [tup, upF, hlk, ← hpo]; simp)
theorem not_any_not {α : Type} (p : α → Bool) (xs : List α) : (!(xs.any fun x => !p x)) = xs.all p := by
  induction xs with
  | nil => rfl
  | cons x r ih => rw [List.any_cons, List.all_cons, ← ih]; cases p x <;> simp
theorem Below_ok (B : Base) (hB : B.ok) (l : Sl Prd) (hl : Prds l B.h) (f g : Sl Fct) (hf : Fcts f B.h) (hg : Fcts g B.h) (okf : FOk l.xs f.xs) (ok : FOk l.xs g.xs) : Fn Try.prog 44 [l.val, f.val, g.val] B (fun v _ => v = .bool (underF l.xs f.xs g.xs)) := by
  refine Fn.of Try.func44 rfl Try.ntmps44 (by kernel_rfl) (by simp) ?_
  intro e
  have I := Inv.start hB
  refine WP.seq ?_
  refine WP.region ?_
  refine Ops.go (O.box (v := .slice _ _ _) I rfl rfl ?_)
  intro b3 w I
  refine Ops.go (O.box (v := .slice _ _ _) I rfl rfl ?_)
  intro b5 w I
  refine Ops.y (v := .bool _) (Y.assign rfl) ?_
  refine Ops.nil ?_
  obtain ⟨h5, le5, k5, I⟩ := I.settleBox
  obtain ⟨h3, le3, k3, I⟩ := I.settleBox
  have gl := le5.trans le3
  have k5 := k5.le le3
  refine WP.seq ?_
  refine WP.region ?_
  refine Ops.y (v := .slice _ _ _) (Y.move rfl) ?_
  refine Ops.y (v := .func _ _ _) (Y.mkfunc rfl rfl) ?_
  refine Ops.go (O.callv I Try.call74 (ContainsFuncFct_ok _ I.base_ok f (hf.le gl) 75 Try.call75 [] [.pointer (some ⟨b5, 0, none⟩), .pointer (some ⟨b3, 0, none⟩)] (fun x => !upF l.xs g.xs x) (fun B' hB' hle x hx => Below1_ok B' hB' l ((hl.le gl).le hle) g ((hg.le gl).le hle) b3 b5 (k3.le hle) (k5.le hle) ok x (okf.fine x hx))) rfl ?_)
  intro w I
  refine Ops.y (v := .bool _) (Y.not rfl) ?_
  refine Ops.y (v := .bool _) (Y.assign rfl) ?_
  refine Ops.nil ?_
  refine WP.ret ?_
  repeat (first | refine thenE_ret ?_ | refine blockE_ret ?_)
  exact retQ.mk (vs := [.bool _]) rfl ⟨rfl, trivial⟩ I.ext_of (by simp only [tup]; rw [not_any_not]; rfl)
@[reducible] def sEnc (s : Sl Fct) : List Value := [s.val]
theorem Under_ok (B : Base) (hB : B.ok) (l : Sl Prd) (hl : Prds l B.h) (f g : Sl Fct) (hf : Fcts f B.h) (hg : Fcts g B.h) : Fn Try.prog 19 [l.val, f.val, g.val] B (fun v _ => v = vBE (underOf l.xs f.xs g.xs)) := by
  refine Fn.of Try.func19 rfl Try.ntmps19 (by kernel_rfl) (by simp) ?_
  intro e
  have I := Inv.start hB
  refine WP.seq ?_
  refine WP.region ?_
  refine Ops.y (v := .bool _) (Y.assign rfl) ?_
  refine Ops.y (v := .int .i64 _) (Y.assign rfl) ?_
  refine Ops.nil ?_
  refine WP.seq ?_
  refine WP.seq ?_
  refine WP.region ?_
  refine Ops.y (v := .slice _ _ _) (Y.move rfl) ?_
  refine Ops.y (v := .slice _ _ _) (Y.move rfl) ?_
  refine Ops.go (O.mksl (xs := [f, g]) (enc := sEnc) I Try.underlying78 Try.sizeOf33 Try.zeroValue33 rfl (Nat.le_of_ble_eq_true rfl) rfl rfl (by decide) (fun _ => rfl) ?_)
  intro b13 h13 w I le13 sl13
  refine Ops.y (v := .int .i64 _) (Y.lens Try.underlying78 rfl) ?_
  refine Ops.y (v := .int .i64 _) (Y.move rfl) ?_
  refine Ops.nil ?_
  have hl' := hl.le le13
  have hf' := hf.le le13
  have hg' := hg.le le13
  refine WP.block ?_
  refine WP.loopE (σ := Nat) (fun k => [(0, l.val), (1, f.val), (2, g.val), (13, .slice (some ⟨b13, 0, none⟩) 2 2), (14, .int .i64 2), (15, .int .i64 k)]) (fun k w => Inv B h13 [] w ∧ k ≤ 2 ∧ (0 < k → checkFacts l.xs f.xs = 0) ∧ (1 < k → checkFacts l.xs g.xs = 0)) (fun k => 2 - k)
    ⟨0, ⟨rfl, rfl, rfl, rfl, rfl, rfl, trivial⟩, I, Nat.zero_le _, fun j => by omega, fun j => by omega⟩ ?_
  rintro k e w ⟨I, hk, hn0, hn1⟩
  refine WP.seq ?_
  refine WP.region ?_
  refine Ops.y (v := .bool (decide _)) (Y.lti rfl rfl) ?_
  refine Ops.nil ?_
  refine WP.seq ?_
  refine WP.cond_dec rfl (fun h => ?_) (fun h => ?_)
  · have hk' : k < 2 := by omega
    obtain ⟨X, hxx, hX, hbad, hgood⟩ : ∃ X : Sl Fct, [f, g][k]? = some X ∧ Fcts X h13 ∧ (checkFacts l.xs X.xs ≠ 0 → underOf l.xs f.xs g.xs = (false, checkFacts l.xs X.xs)) ∧ (checkFacts l.xs X.xs = 0 → (0 < k + 1 → checkFacts l.xs f.xs = 0) ∧ (1 < k + 1 → checkFacts l.xs g.xs = 0)) := by
      rcases (show k = 0 ∨ k = 1 by omega) with rfl | rfl
      · exact ⟨f, rfl, hf', fun hh => by unfold underOf; rw [if_pos hh], fun hh => ⟨fun _ => hh, fun h2 => by omega⟩⟩
      · exact ⟨g, rfl, hg', fun hh => by unfold underOf; rw [if_neg (by simpa using hn0 (by omega)), if_pos hh], fun hh => ⟨fun _ => hn0 (by omega), fun _ => hh⟩⟩
    have E1 := sl13.el hxx
    refine WP.skip ?_
    refine WP.seq ?_
    refine WP.block ?_
    refine WP.seq ?_
    refine WP.region ?_
    refine Ops.y (v := .pointer (some ⟨_, _, none⟩)) (Y.idxEl E1 Try.underlying78 Try.sizeOf33 rfl rfl (Int.natCast_nonneg _) rfl) ?_
    refine Ops.y (v := .slice _ _ _) (Y.loadv ty_33 rfl (I.rd (E1.rd.part 0 1)) rfl rfl) ?_
    refine Ops.y (v := .slice _ _ _) (Y.assign rfl) ?_
    refine Ops.nil ?_
    refine WP.seq ?_
    refine WP.region ?_
    refine Ops.y (v := .slice _ _ _) (Y.move rfl) ?_
    refine Ops.y (v := .slice _ _ _) (Y.move rfl) ?_
    refine Ops.go (O.callv I Try.call16 (BCheck_ok _ I.base_ok l hl' X hX) rfl ?_)
    intro w I
    refine Ops.y (v := .int .i64 _) (Y.assign rfl) ?_
    refine Ops.nil ?_
    refine WP.seq ?_
    refine WP.region ?_
    refine Ops.y (v := .int .i64 _) (Y.move rfl) ?_
    refine Ops.y (v := .bool (decide _)) (Y.nei rfl rfl) ?_
    refine Ops.nil ?_
    refine WP.cond_dec rfl (fun h5 => ?_) (fun h5 => ?_)
    · refine WP.seq ?_
      refine WP.region ?_
      refine Ops.y (v := .int .i64 _) (Y.move rfl) ?_
      refine Ops.y (v := .bool _) (Y.assign rfl) ?_
      refine Ops.y (v := .int .i64 _) (Y.assign rfl) ?_
      refine Ops.nil ?_
      refine WP.ret ?_
      repeat (first | refine thenE_ret ?_ | refine blockE_ret ?_)
      exact retQ.mk (vs := [.bool _, .int .i64 _]) rfl ⟨rfl, rfl, trivial⟩ I.ext_of (by simp only [tup, hbad h5]; rfl)
    obtain ⟨g0, g1⟩ := hgood (Decidable.not_not.1 h5)
    refine WP.skip ?_
    refine WP.region ?_
    refine Ops.y (v := .int .i64 _) (Y.addi rfl rfl ⟨by omega, by omega⟩) ?_
    refine Ops.y (v := .int .i64 _) (Y.move rfl) ?_
    refine Ops.nil ?_
    exact ⟨k + 1, ⟨⟨rfl, rfl, rfl, rfl, rfl, rfl, trivial⟩, I, by omega, g0, g1⟩, by omega⟩
  have c0 := hn0 (by omega)
  have c1 := hn1 (by omega)
  refine WP.exit ?_
  refine WP.seq ?_
  refine WP.region ?_
  refine Ops.y (v := .slice _ _ _) (Y.move rfl) ?_
  refine Ops.y (v := .slice _ _ _) (Y.move rfl) ?_
  refine Ops.y (v := .slice _ _ _) (Y.move rfl) ?_
  refine Ops.go (O.callv I Try.call44 (Below_ok _ I.base_ok l hl' f g hf' hg' (checkFacts_ok.1 c0) (checkFacts_ok.1 c1)) rfl ?_)
  intro w I
  refine Ops.y (v := .bool _) (Y.assign rfl) ?_
  refine Ops.y (v := .int .i64 _) (Y.assign rfl) ?_
  refine Ops.nil ?_
  refine WP.ret ?_
  repeat (first | refine thenE_ret ?_ | refine blockE_ret ?_)
  exact retQ.mk (vs := [.bool _, .int .i64 _]) rfl ⟨rfl, rfl, trivial⟩ I.ext_of (by simp only [tup, underOf]; rw [if_neg (by simpa using c0), if_neg (by simpa using c1)]; rfl)
theorem runder_ok (B : Base) (hB : B.ok) (l : Sl Prd) (hl : Prds l B.h) (f g : Sl Fct) (hf : Fcts f B.h) (hg : Fcts g B.h) (okf : FOk l.xs f.xs) (ok : FOk l.xs g.xs) : Fn Try.prog 46 [l.val, f.val, g.val] B (fun v _ => v = .bool (underF l.xs f.xs g.xs)) := by
  have hsf := hf.small
  refine Fn.of Try.func46 rfl Try.ntmps46 (by kernel_rfl) (by simp) ?_
  intro e
  have I := Inv.start hB
  refine WP.seq ?_
  refine WP.region ?_
  refine Ops.y (v := .bool _) (Y.assign rfl) ?_
  refine Ops.nil ?_
  refine WP.seq ?_
  refine WP.seq ?_
  refine WP.region ?_
  refine Ops.y (v := .int .i64 _) (Y.assign rfl) ?_
  refine Ops.nil ?_
  refine WP.block ?_
  refine WP.loopE (σ := Nat) (fun k => [(0, l.val), (1, f.val), (2, g.val), (7, .int .i64 k)]) (fun k w => Inv B B.h [] w ∧ k ≤ f.xs.length ∧ ∀ j, j < k → ∀ hj : j < f.xs.length, upF l.xs g.xs f.xs[j] = true) (fun k => f.xs.length - k)
    ⟨0, ⟨rfl, rfl, rfl, rfl, trivial⟩, I, Nat.zero_le _, fun j hj => by omega⟩ ?_
  rintro k e w ⟨I, hk, hn⟩
  refine WP.seq ?_
  refine WP.seq ?_
  refine WP.region ?_
  refine Ops.y (v := .int .i64 _) (Y.move rfl) ?_
  refine Ops.y (v := .slice _ _ _) (Y.move rfl) ?_
  refine Ops.y (v := .int .i64 _) (Y.lens Try.underlying33 rfl) ?_
  refine Ops.y (v := .bool (decide _)) (Y.lti rfl rfl) ?_
  refine Ops.nil ?_
  refine WP.cond_dec rfl (fun h => ?_) (fun h => ?_)
  · have hk' : k < f.xs.length := by omega
    have E1 := hf.at hk'
    have hfi := okf.fine _ (List.getElem_mem hk')
    have h01 := (fine_iff.1 hfi).1
    have hkk : f.xs[k].pred.toNat < l.xs.length := by omega
    have E2 := hl.at hkk
    have hpo : l.xs[f.xs[k].pred.toNat] = predOf l.xs f.xs[k].pred := (predOf_getE h01.1 h01.2).symm
    refine WP.skip ?_
    refine WP.seq ?_
    refine WP.block ?_
    refine WP.seq ?_
    refine WP.region ?_
    refine Ops.y (v := .slice _ _ _) (Y.move rfl) ?_
    refine Ops.y (v := .slice _ _ _) (Y.move rfl) ?_
    refine Ops.y (v := .int .i64 _) (Y.move rfl) ?_
    refine Ops.y (v := .pointer (some ⟨_, _, none⟩)) (Y.idxEl E1 Try.underlying33 Try.sizeOf35 rfl rfl (Int.natCast_nonneg _) rfl) ?_
    refine Ops.y (v := .agg #[_, _, _, _]) (Y.loadv ty_35 rfl (I.rd (E1.rd.part 0 4)) rfl rfl) ?_
    refine Ops.go (O.callv I Try.call36 (rfind_ok _ I.base_ok g hg ok.pf f.xs[k] (fine_pf okf.len hfi)) rfl ?_)
    intro w I
    refine Ops.y (v := .tuple #[_, _]) (Y.move rfl) ?_
    refine Ops.y (v := .int .i64 _) (Y.extract rfl rfl) ?_
    refine Ops.y (v := .bool _) (Y.extract rfl rfl) ?_
    refine Ops.y (v := .int .i64 _) (Y.assign rfl) ?_
    refine Ops.y (v := .bool _) (Y.assign rfl) ?_
    refine Ops.nil ?_
    cases hi : (findF g.xs f.xs[k]).2
    · refine WP.seq ?_
      refine WP.regionQ mixed I (by kernel_rfl) ?_
      refine OpsQ.y (v := .bool _) (fun w I => Y.move rfl) ?_
      refine OpsQ.y (v := .bool true) (fun w I => Y.b (Y.not rfl) ((by first | rfl | (rw [hi]; rfl)))) ?_
      refine OpsQ.y (v := .bool _) (fun w I => Y.move rfl) ?_
      refine OpsQ.gf rfl ?_
      refine OpsQ.gf rfl ?_
      refine OpsQ.gf rfl ?_
      refine OpsQ.gf rfl ?_
      refine OpsQ.gf rfl ?_
      refine OpsQ.gf rfl ?_
      refine OpsQ.gf rfl ?_
      refine OpsQ.gf rfl ?_
      refine OpsQ.gf rfl ?_
      refine OpsQ.gf rfl ?_
      refine OpsQ.gf rfl ?_
      refine OpsQ.gf rfl ?_
      refine OpsQ.gf rfl ?_
      refine OpsQ.gf rfl ?_
      refine OpsQ.gf rfl ?_
      refine OpsQ.gf rfl ?_
      refine OpsQ.gf rfl ?_
      refine OpsQ.gf rfl ?_
      refine OpsQ.y (v := .bool _) (fun w I => Y.pick_t rfl rfl) ?_
      refine OpsQ.nil ?_
      intro w I
      refine WP.cond_t rfl ?_
      refine WP.seq ?_
      refine WP.region ?_
      refine Ops.y (v := .bool _) (Y.assign rfl) ?_
      refine Ops.nil ?_
      refine WP.ret ?_
      repeat (first | refine thenE_ret ?_ | refine blockE_ret ?_)
      exact retQ.mk (vs := [.bool _]) rfl ⟨rfl, trivial⟩ I.ext_of (by simp only [tup]; rw [underF_eq, show f.xs.all (upF l.xs g.xs) = false from by rw [List.all_eq_false]; refine ⟨_, List.getElem_mem hk', ?_⟩; simp only [findF] at hi; simp [upF, hi]])
    · refine WP.seq ?_
      refine WP.regionQ mixed I (by kernel_rfl) ?_
      refine OpsQ.y (v := .bool _) (fun w I => Y.move rfl) ?_
      refine OpsQ.y (v := .bool false) (fun w I => Y.b (Y.not rfl) ((by first | rfl | (rw [hi]; rfl)))) ?_
      refine OpsQ.y (v := .bool _) (fun w I => Y.move rfl) ?_
      refine OpsQ.ygt rfl (v := .slice _ _ _) (fun w I => Y.move rfl) ?_
      refine OpsQ.ygt rfl (v := .slice _ _ _) (fun w I => Y.move rfl) ?_
      refine OpsQ.ygt rfl (v := .int .i64 _) (fun w I => Y.move rfl) ?_
      refine OpsQ.ygt rfl (v := .pointer (some ⟨_, _, none⟩)) (fun w I => Y.idxEl E1 Try.underlying33 Try.sizeOf35 rfl rfl (Int.natCast_nonneg _) rfl) ?_
      refine OpsQ.ygt rfl (v := .pointer (some ⟨_, _, none⟩)) (fun w I => Y.fa0 fa_35_0 rfl) ?_
      refine OpsQ.ygt rfl (v := .int .i64 _) (fun w I => Y.loadv ty_3 rfl (I.rd (E1.rd.part 0 1)) rfl rfl) ?_
      refine OpsQ.ygt rfl (v := .pointer (some ⟨_, _, none⟩)) (fun w I => Y.idxEl E2 Try.underlying22 Try.sizeOf51 rfl rfl h01.1 rfl) ?_
      refine OpsQ.ygt rfl (v := .pointer (some ⟨_, _, none⟩)) (fun w I => Y.fa fa_51_2 rfl) ?_
      refine OpsQ.ygt rfl (v := .int .i64 _) (fun w I => Y.loadv ty_3 rfl (I.rd (E2.rd.part 2 1)) rfl rfl) ?_
      refine OpsQ.ygt rfl (v := .slice _ _ _) (fun w I => Y.move rfl) ?_
      refine OpsQ.ygt rfl (v := .int .i64 _) (fun w I => Y.move rfl) ?_
      refine OpsQ.ygt rfl (v := .pointer (some ⟨_, _, none⟩)) (fun w I => Y.idxEl E1 Try.underlying33 Try.sizeOf35 rfl rfl (Int.natCast_nonneg _) rfl) ?_
      refine OpsQ.ygt rfl (v := .pointer (some ⟨_, _, none⟩)) (fun w I => Y.fa fa_35_3 rfl) ?_
      refine OpsQ.ygt rfl (v := .int .i64 _) (fun w I => Y.loadv ty_3 rfl (I.rd (E1.rd.part 3 1)) rfl rfl) ?_
      refine OpsQ.ygt rfl (v := .int .i64 _) (fun w I => Y.move rfl) ?_
      refine OpsQ.cgt rfl (fun w I => QC.callv I Try.call76 (joinR_ok _ I.base_ok _ _ _) rfl) ?_
      refine OpsQ.ygt rfl (v := .int .i64 _) (fun w I => Y.move rfl) ?_
      refine OpsQ.ygt rfl (v := .bool (decide _)) (fun w I => Y.nei rfl rfl) ?_
      refine OpsQ.y (v := .bool _) (fun w I => Y.pick_f rfl rfl) ?_
      refine OpsQ.nil ?_
      intro w I
      refine WP.cond_dec rfl (fun h5 => ?_) (fun h5 => ?_)
      · refine WP.seq ?_
        refine WP.region ?_
        refine Ops.y (v := .bool _) (Y.assign rfl) ?_
        refine Ops.nil ?_
        refine WP.ret ?_
        repeat (first | refine thenE_ret ?_ | refine blockE_ret ?_)
        exact retQ.mk (vs := [.bool _]) rfl ⟨rfl, trivial⟩ I.ext_of (by simp only [tup]; rw [underF_eq, show f.xs.all (upF l.xs g.xs) = false from by rw [List.all_eq_false]; refine ⟨_, List.getElem_mem hk', ?_⟩; rw [hpo] at h5; simp only [findF] at h5; simp [upF, h5]])
      refine WP.skip ?_
      refine WP.region ?_
      refine Ops.y (v := .int .i64 _) (Y.move rfl) ?_
      refine Ops.y (v := .int .i64 _) (Y.addi rfl rfl ⟨by omega, by omega⟩) ?_
      refine Ops.y (v := .int .i64 _) (Y.assign rfl) ?_
      refine Ops.nil ?_
      exact ⟨k + 1, ⟨⟨rfl, rfl, rfl, rfl, trivial⟩, I, by omega, fun j hj hj' => by
        rcases Nat.lt_succ_iff_lt_or_eq.1 hj with h' | rfl
        · exact hn j h' hj'
        · have h5 := Decidable.not_not.1 h5
          rw [hpo] at h5
          simp only [findF] at h5 hi
          simp only [upF, hi, h5, decide_true, Bool.and_self]⟩, by omega⟩
  refine WP.exit ?_
  refine WP.seq ?_
  refine WP.region ?_
  refine Ops.y (v := .bool _) (Y.assign rfl) ?_
  refine Ops.nil ?_
  refine WP.ret ?_
  repeat (first | refine thenE_ret ?_ | refine blockE_ret ?_)
  exact retQ.mk (vs := [.bool _]) rfl ⟨rfl, trivial⟩ I.ext_of (by simp only [tup]; rw [underF_eq, show f.xs.all (upF l.xs g.xs) = true from by rw [List.all_eq_true]; intro x hx; obtain ⟨j, hj, rfl⟩ := List.getElem_of_mem hx; exact hn j (by omega) hj])
theorem UnderOf_ok (B : Base) (hB : B.ok) (l : Sl Prd) (hl : Prds l B.h) (f g : Sl Fct) (hf : Fcts f B.h) (hg : Fcts g B.h) : Fn Try.prog 21 [l.val, f.val, g.val] B (fun v _ => v = vBE (underOf l.xs f.xs g.xs)) := by
  refine Fn.of Try.func21 rfl Try.ntmps21 (by kernel_rfl) (by simp) ?_
  intro e
  have I := Inv.start hB
  refine WP.seq ?_
  refine WP.region ?_
  refine Ops.y (v := .bool _) (Y.assign rfl) ?_
  refine Ops.y (v := .int .i64 _) (Y.assign rfl) ?_
  refine Ops.nil ?_
  refine WP.seq ?_
  refine WP.seq ?_
  refine WP.region ?_
  refine Ops.y (v := .slice _ _ _) (Y.move rfl) ?_
  refine Ops.y (v := .slice _ _ _) (Y.move rfl) ?_
  refine Ops.go (O.callv I Try.call17 (RCheckFacts_ok _ I.base_ok l hl f hf) rfl ?_)
  intro w I
  refine Ops.y (v := .int .i64 _) (Y.assign rfl) ?_
  refine Ops.nil ?_
  refine WP.seq ?_
  refine WP.region ?_
  refine Ops.y (v := .int .i64 _) (Y.move rfl) ?_
  refine Ops.y (v := .bool (decide _)) (Y.nei rfl rfl) ?_
  refine Ops.nil ?_
  refine WP.cond_dec rfl (fun h => ?_) (fun h => ?_)
  · refine WP.seq ?_
    refine WP.region ?_
    refine Ops.y (v := .int .i64 _) (Y.move rfl) ?_
    refine Ops.y (v := .bool _) (Y.assign rfl) ?_
    refine Ops.y (v := .int .i64 _) (Y.assign rfl) ?_
    refine Ops.nil ?_
    refine WP.ret ?_
    repeat (first | refine thenE_ret ?_ | refine blockE_ret ?_)
    exact retQ.mk (vs := [.bool _, .int .i64 _]) rfl ⟨rfl, rfl, trivial⟩ I.ext_of (by simp only [tup, underOf]; rw [if_pos h]; rfl)
  refine WP.skip ?_
  refine WP.seq ?_
  refine WP.seq ?_
  refine WP.region ?_
  refine Ops.y (v := .slice _ _ _) (Y.move rfl) ?_
  refine Ops.y (v := .slice _ _ _) (Y.move rfl) ?_
  refine Ops.go (O.callv I Try.call17 (RCheckFacts_ok _ I.base_ok l hl g hg) rfl ?_)
  intro w I
  refine Ops.y (v := .int .i64 _) (Y.assign rfl) ?_
  refine Ops.nil ?_
  refine WP.seq ?_
  refine WP.region ?_
  refine Ops.y (v := .int .i64 _) (Y.move rfl) ?_
  refine Ops.y (v := .bool (decide _)) (Y.nei rfl rfl) ?_
  refine Ops.nil ?_
  refine WP.cond_dec rfl (fun h5 => ?_) (fun h5 => ?_)
  · refine WP.seq ?_
    refine WP.region ?_
    refine Ops.y (v := .int .i64 _) (Y.move rfl) ?_
    refine Ops.y (v := .bool _) (Y.assign rfl) ?_
    refine Ops.y (v := .int .i64 _) (Y.assign rfl) ?_
    refine Ops.nil ?_
    refine WP.ret ?_
    repeat (first | refine thenE_ret ?_ | refine blockE_ret ?_)
    exact retQ.mk (vs := [.bool _, .int .i64 _]) rfl ⟨rfl, rfl, trivial⟩ I.ext_of (by simp only [tup, underOf]; rw [if_neg h, if_pos h5]; rfl)
  refine WP.skip ?_
  refine WP.seq ?_
  refine WP.region ?_
  refine Ops.y (v := .slice _ _ _) (Y.move rfl) ?_
  refine Ops.y (v := .slice _ _ _) (Y.move rfl) ?_
  refine Ops.y (v := .slice _ _ _) (Y.move rfl) ?_
  refine Ops.go (O.callv I Try.call46 (runder_ok _ I.base_ok l hl f g hf hg (checkFacts_ok.1 (Decidable.not_not.1 h)) (checkFacts_ok.1 (Decidable.not_not.1 h5))) rfl ?_)
  intro w I
  refine Ops.y (v := .bool _) (Y.assign rfl) ?_
  refine Ops.y (v := .int .i64 _) (Y.assign rfl) ?_
  refine Ops.nil ?_
  refine WP.ret ?_
  repeat (first | refine thenE_ret ?_ | refine blockE_ret ?_)
  exact retQ.mk (vs := [.bool _, .int .i64 _]) rfl ⟨rfl, rfl, trivial⟩ I.ext_of (by simp only [tup, underOf]; rw [if_neg h, if_neg h5]; rfl)
theorem SameFacts_ok (B : Base) (hB : B.ok) (a b : Sl Fct) (ha : Fcts a B.h) (hb : Fcts b B.h) : Fn Try.prog 22 [a.val, b.val] B (fun v _ => v = .bool (decide (a.xs = b.xs))) := by
  have hsa := ha.small
  have hsb := hb.small
  refine Fn.of Try.func22 rfl Try.ntmps22 (by kernel_rfl) (by simp) ?_
  intro e
  have I := Inv.start hB
  refine WP.seq ?_
  refine WP.region ?_
  refine Ops.y (v := .bool _) (Y.assign rfl) ?_
  refine Ops.nil ?_
  refine WP.seq ?_
  refine WP.seq ?_
  refine WP.region ?_
  refine Ops.y (v := .slice _ _ _) (Y.move rfl) ?_
  refine Ops.y (v := .int .i64 _) (Y.lens Try.underlying33 rfl) ?_
  refine Ops.y (v := .slice _ _ _) (Y.move rfl) ?_
  refine Ops.y (v := .int .i64 _) (Y.lens Try.underlying33 rfl) ?_
  refine Ops.y (v := .bool (decide _)) (Y.nei rfl rfl) ?_
  refine Ops.nil ?_
  refine WP.cond_dec rfl (fun h1 => ?_) (fun h1 => ?_)
  · refine WP.seq ?_
    refine WP.region ?_
    refine Ops.y (v := .bool _) (Y.assign rfl) ?_
    refine Ops.nil ?_
    refine WP.ret ?_
    repeat (first | refine thenE_ret ?_ | refine blockE_ret ?_)
    exact retQ.mk (vs := [.bool _]) rfl ⟨rfl, trivial⟩ I.ext_of (by simp only [tup]; rw [decide_eq_false (fun e => h1 (by rw [e]))])
  refine WP.skip ?_
  refine WP.seq ?_
  refine WP.seq ?_
  refine WP.region ?_
  refine Ops.y (v := .int .i64 _) (Y.assign rfl) ?_
  refine Ops.nil ?_
  refine WP.block ?_
  refine WP.loopE (σ := Nat) (fun k => [(0, a.val), (1, b.val), (5, .int .i64 k)]) (fun k w => Inv B B.h [] w ∧ k ≤ a.xs.length ∧ ∀ j, j < k → a.xs[j]? = b.xs[j]?) (fun k => a.xs.length - k)
    ⟨0, ⟨rfl, rfl, rfl, trivial⟩, I, Nat.zero_le _, fun j hj => by omega⟩ ?_
  rintro k e w ⟨I, hk, hn⟩
  refine WP.seq ?_
  refine WP.seq ?_
  refine WP.region ?_
  refine Ops.y (v := .int .i64 _) (Y.move rfl) ?_
  refine Ops.y (v := .slice _ _ _) (Y.move rfl) ?_
  refine Ops.y (v := .int .i64 _) (Y.lens Try.underlying33 rfl) ?_
  refine Ops.y (v := .bool (decide _)) (Y.lti rfl rfl) ?_
  refine Ops.nil ?_
  refine WP.cond_dec rfl (fun h4 => ?_) (fun h4 => ?_)
  · have hk' : k < a.xs.length := by omega
    have hkb : k < b.xs.length := by omega
    have E1 := ha.at hk'
    have E2 := hb.at hkb
    refine WP.skip ?_
    refine WP.seq ?_
    refine WP.block ?_
    refine WP.seq ?_
    refine WP.regionQ mixed I (by kernel_rfl) ?_
    refine OpsQ.y (v := .slice _ _ _) (fun w I => Y.move rfl) ?_
    refine OpsQ.y (v := .int .i64 _) (fun w I => Y.move rfl) ?_
    refine OpsQ.y (v := .pointer (some ⟨_, _, none⟩)) (fun w I => Y.idxEl E1 Try.underlying33 Try.sizeOf35 rfl rfl (Int.natCast_nonneg _) rfl) ?_
    refine OpsQ.y (v := .agg #[_, _, _, _]) (fun w I => Y.loadv ty_35 rfl (I.rd (E1.rd.part 0 4)) rfl rfl) ?_
    refine OpsQ.y (v := .slice _ _ _) (fun w I => Y.move rfl) ?_
    refine OpsQ.y (v := .int .i64 _) (fun w I => Y.move rfl) ?_
    refine OpsQ.y (v := .pointer (some ⟨_, _, none⟩)) (fun w I => Y.idxEl E2 Try.underlying33 Try.sizeOf35 rfl rfl (Int.natCast_nonneg _) rfl) ?_
    refine OpsQ.y (v := .agg #[_, _, _, _]) (fun w I => Y.loadv ty_35 rfl (I.rd (E2.rd.part 0 4)) rfl rfl) ?_
    refine OpsQ.y (v := .bool _) (fun w I => Y.nest Try.eqGuardType35 (eq_35 _ _ _ _ _ _ _ _) rfl rfl) ?_
    refine OpsQ.nil ?_
    intro w I
    refine WP.cond rfl (fun h6 => ?_) (fun h6 => ?_)
    · refine WP.seq ?_
      refine WP.region ?_
      refine Ops.y (v := .bool _) (Y.assign rfl) ?_
      refine Ops.nil ?_
      have hne : a.xs ≠ b.xs := fun e => by
        have he : a.xs[k] = b.xs[k] := by simp only [e]
        simp [he] at h6
      refine WP.ret ?_
      repeat (first | refine thenE_ret ?_ | refine blockE_ret ?_)
      exact retQ.mk (vs := [.bool _]) rfl ⟨rfl, trivial⟩ I.ext_of (by simp only [tup]; rw [decide_eq_false hne])
    refine WP.skip ?_
    refine WP.region ?_
    refine Ops.y (v := .int .i64 _) (Y.move rfl) ?_
    refine Ops.y (v := .int .i64 _) (Y.addi rfl rfl ⟨by omega, by omega⟩) ?_
    refine Ops.y (v := .int .i64 _) (Y.assign rfl) ?_
    refine Ops.nil ?_
    exact ⟨k + 1, ⟨⟨rfl, rfl, rfl, trivial⟩, I, hk', fun j hj => by
      rcases Nat.lt_succ_iff_lt_or_eq.1 hj with h' | rfl
      · exact hn j h'
      · rw [List.getElem?_eq_getElem hk', List.getElem?_eq_getElem hkb]
        congr 1
        simp only [Bool.not_eq_false', Bool.and_eq_true, beq_iff_eq] at h6
        obtain ⟨e1, e2, e3, e4, _⟩ := h6
        generalize a.xs[j] = u at *
        generalize b.xs[j] = v at *
        cases u; cases v; simp_all⟩, by omega⟩
  have hab : a.xs = b.xs := List.ext_getElem? fun j => by
    rcases Nat.lt_or_ge j k with h' | h'
    · exact hn j h'
    · rw [List.getElem?_eq_none (by omega), List.getElem?_eq_none (by omega)]
  refine WP.exit ?_
  refine WP.seq ?_
  refine WP.region ?_
  refine Ops.y (v := .bool _) (Y.assign rfl) ?_
  refine Ops.nil ?_
  refine WP.ret ?_
  repeat (first | refine thenE_ret ?_ | refine blockE_ret ?_)
  exact retQ.mk (vs := [.bool _]) rfl ⟨rfl, trivial⟩ I.ext_of (by simp only [tup]; rw [decide_eq_true hab])
end Go.TF
