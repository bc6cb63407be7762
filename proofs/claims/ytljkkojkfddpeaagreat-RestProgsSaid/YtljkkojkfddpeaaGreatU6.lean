/- Texts Bas2 Fir1 Fir2 SortLay Fir3 Fir4 Fir5. -/
import Derived.Test.YtljkkojkfddpeaaGreatU5
import Derived.Test.YtljkkojkfddpeaaGreatU2
import Derived.Test.YtljkkojkfddpeaaGreatU4
import Derived.Shelf.SlSortCmp.WholeK
import Derived.Ground.SlsfProg
import Derived.Test.YtljkkojkfddpeaaGreatProg
import Derived.Shelf.SlSortCmp.NoneTotal
import Derived.ChangeKeysEq
section
/- Finding a fact; being under. -/
namespace Go.TF
open Go Go.RowKit Go.Proofs
set_option maxRecDepth 20000

theorem lkF_first {f : List Fct} {p : Int} {k : Nat} (hk : k < f.length) (h : ∀ j, j < k → ∀ hj : j < f.length, placeF f[j] ≠ p) (he : placeF f[k] = p) : lkF f p = some f[k].v := by
  have : f.find? (fun y => decide (placeF y = p)) = some f[k] := List.find?_eq_some_iff_getElem.2 ⟨by simpa using he, k, hk, rfl, fun j hj => by simpa using h j hj (by omega)⟩
  simp only [lkF, this, Option.map_some]
theorem rfind_ok (B : Base) (hB : B.ok) (f : Sl Fct) (hf : Fcts f B.h) (hp : ∀ y ∈ f.xs, PF y) (x : Fct) (hx : PF x) : Fn Tryz.prog 69 [f.val, x.val] B (fun v _ => v = .tuple #[.int .i64 (findF f.xs x).1, .bool (findF f.xs x).2]) := by
  have hsf := hf.small
  refine Fn.of Tryz.func69 rfl Tryz.ntmps69 (by kernel_rfl) (by simp) ?_
  intro e
  have I := Inv.start hB
  refine WP.seq ?_
  refine WP.region ?_
  refine Ops.go (O.box (v := .agg #[_, _, _, _]) I rfl rfl ?_)
  intro b3 w I
  refine Ops.y (v := .int .i64 _) (Y.assign rfl) ?_
  refine Ops.y (v := .bool _) (Y.assign rfl) ?_
  refine Ops.nil ?_
  refine WP.seq ?_
  refine WP.seq ?_
  refine WP.region ?_
  refine Ops.y (v := .int .i64 _) (Y.assign rfl) ?_
  refine Ops.nil ?_
  refine WP.block ?_
  refine WP.loopE (σ := Nat) (fun k => [(0, f.val), (3, .pointer (some ⟨b3, 0, none⟩)), (6, .int .i64 k)]) (fun k w => Inv B B.h [box b3 x.enc 28] w ∧ k ≤ f.xs.length ∧ ∀ j, j < k → ∀ hj : j < f.xs.length, placeF f.xs[j] ≠ placeF x) (fun k => f.xs.length - k)
    ⟨0, ⟨rfl, rfl, rfl, trivial⟩, I, Nat.zero_le _, fun j hj => by omega⟩ ?_
  rintro k e w ⟨I, hk, hn⟩
  refine WP.seq ?_
  refine WP.seq ?_
  refine WP.region ?_
  refine Ops.y (v := .int .i64 _) (Y.move rfl) ?_
  refine Ops.y (v := .slice _ _ _) (Y.move rfl) ?_
  refine Ops.y (v := .int .i64 _) (Y.lens Tryz.underlying26 rfl) ?_
  refine Ops.y (v := .bool (decide _)) (Y.lti rfl rfl) ?_
  refine Ops.nil ?_
  refine WP.cond_dec rfl (fun h => ?_) (fun h => ?_)
  · have hk' : k < f.xs.length := by omega
    have E1 := hf.at hk'
    refine WP.skip ?_
    refine WP.seq ?_
    refine WP.block ?_
    refine WP.seq ?_
    refine WP.regionQ mixed I (by kernel_rfl) ?_
    refine OpsQ.y (v := .slice _ _ _) (fun w I => Y.move rfl) ?_
    refine OpsQ.y (v := .int .i64 _) (fun w I => Y.move rfl) ?_
    refine OpsQ.y (v := .pointer (some ⟨_, _, none⟩)) (fun w I => Y.idxEl E1 Tryz.underlying26 Tryz.sizeOf28 rfl rfl (Int.natCast_nonneg _) rfl) ?_
    refine OpsQ.y (v := .agg #[_, _, _, _]) (fun w I => Y.loadv ty_28 rfl (I.rd (E1.rd.part 0 4)) rfl rfl) ?_
    refine OpsQ.c (fun w I => QC.callv I Tryz.call42 (place_ok _ I.base_ok _ (hp _ (List.getElem_mem hk'))) rfl) ?_
    refine OpsQ.y (v := .agg #[_, _, _, _]) (fun w I => Y.loadv ty_28 rfl (I.rdbox 0 rfl 0 4) rfl rfl) ?_
    refine OpsQ.c (fun w I => QC.callv I Tryz.call42 (place_ok _ I.base_ok _ hx) rfl) ?_
    refine OpsQ.y (v := .bool (decide _)) (fun w I => Y.eqi rfl rfl) ?_
    refine OpsQ.nil ?_
    intro w I
    refine WP.cond_dec rfl (fun h4 => ?_) (fun h4 => ?_)
    · refine WP.seq ?_
      refine WP.region ?_
      refine Ops.y (v := .slice _ _ _) (Y.move rfl) ?_
      refine Ops.y (v := .int .i64 _) (Y.move rfl) ?_
      refine Ops.y (v := .pointer (some ⟨_, _, none⟩)) (Y.idxEl E1 Tryz.underlying26 Tryz.sizeOf28 rfl rfl (Int.natCast_nonneg _) rfl) ?_
      refine Ops.y (v := .pointer (some ⟨_, _, none⟩)) (Y.fa fa_28_3 rfl) ?_
      refine Ops.y (v := .int .i64 _) (Y.loadv ty_3 rfl (I.rd (E1.rd.part 3 1)) rfl rfl) ?_
      refine Ops.y (v := .int .i64 _) (Y.assign rfl) ?_
      refine Ops.y (v := .bool _) (Y.assign rfl) ?_
      refine Ops.nil ?_
      have hl := lkF_first hk' hn h4
      refine WP.ret ?_
      repeat (first | refine thenE_ret ?_ | refine blockE_ret ?_)
      exact retQ.mk (vs := [.int .i64 _, .bool _]) rfl ⟨rfl, rfl, trivial⟩ I.ext_of (by simp only [tup, findF, hl]; rfl)
    refine WP.skip ?_
    refine WP.region ?_
    refine Ops.y (v := .int .i64 _) (Y.move rfl) ?_
    refine Ops.y (v := .int .i64 _) (Y.addi rfl rfl ⟨by omega, by omega⟩) ?_
    refine Ops.y (v := .int .i64 _) (Y.assign rfl) ?_
    refine Ops.nil ?_
    exact ⟨k + 1, ⟨⟨rfl, rfl, rfl, trivial⟩, I, by omega, fun j hj hj' => by
      rcases Nat.lt_succ_iff_lt_or_eq.1 hj with h' | rfl
      · exact hn j h' hj'
      · exact h4⟩, by omega⟩
  have hl : lkF f.xs (placeF x) = none := lkF_none.2 fun y hy => by obtain ⟨j, hj, rfl⟩ := List.getElem_of_mem hy; exact hn j (by omega) hj
  refine WP.exit ?_
  refine WP.seq ?_
  refine WP.region ?_
  refine Ops.y (v := .int .i64 _) (Y.assign rfl) ?_
  refine Ops.y (v := .bool _) (Y.assign rfl) ?_
  refine Ops.nil ?_
  refine WP.ret ?_
  repeat (first | refine thenE_ret ?_ | refine blockE_ret ?_)
  exact retQ.mk (vs := [.int .i64 _, .bool _]) rfl ⟨rfl, rfl, trivial⟩ I.ext_of (by simp only [tup, findF, hl]; rfl)
theorem Bsf_ok (B : Base) (hB : B.ok) (f : Sl Fct) (hf : Fcts f B.h) (hp : ∀ y ∈ f.xs, PF y) (hs : SrtF f.xs) (x : Fct) (hx : PF x) :
    Fn Tryz.prog 86 [f.val, x.val, .func (.func 82) #[] #[]] B (fun v _ => v = .tuple #[.int .i64 (posF f.xs x : Nat), .bool (isF f.xs x)]) := by
  have hsf := hf.small
  refine Fn.of Tryz.func86 rfl Tryz.ntmps86 (by kernel_rfl) (by simp) ?_
  intro e
  have I := Inv.start hB
  refine WP.seq ?_
  refine WP.region ?_
  refine Ops.go (O.box (v := .agg #[_, _, _, _]) I rfl rfl ?_)
  intro b4 w I
  refine Ops.y (v := .int .i64 _) (Y.assign rfl) ?_
  refine Ops.y (v := .bool _) (Y.assign rfl) ?_
  refine Ops.nil ?_
  refine WP.seq ?_
  refine WP.region ?_
  refine Ops.y (v := .slice _ _ _) (Y.move rfl) ?_
  refine Ops.y (v := .int .i64 _) (Y.lens Tryz.underlying26 rfl) ?_
  refine Ops.y (v := .int .i64 _) (Y.assign rfl) ?_
  refine Ops.nil ?_
  refine WP.seq ?_
  refine WP.region ?_
  refine Ops.y (v := .int .i64 _) (Y.move rfl) ?_
  refine Ops.y (v := .int .i64 _) (Y.assign rfl) ?_
  refine Ops.y (v := .int .i64 _) (Y.assign rfl) ?_
  refine Ops.nil ?_
  refine WP.seq ?_
  refine WP.block ?_
  refine WP.loopE (σ := Nat × Nat) (fun s => [(0, f.val), (2, .func (.func 82) #[] #[]), (4, .pointer (some ⟨b4, 0, none⟩)), (8, .int .i64 f.xs.length), (9, .int .i64 s.1), (10, .int .i64 s.2)])
    (fun s w => Inv B B.h [box b4 x.enc 28] w ∧ s.1 ≤ s.2 ∧ s.2 ≤ f.xs.length ∧ (∀ m, (h : m < f.xs.length) → m < s.1 → placeF f.xs[m] < placeF x) ∧ (∀ m, (h : m < f.xs.length) → s.2 ≤ m → ¬ placeF f.xs[m] < placeF x)) (fun s => s.2 - s.1)
    ⟨(0, f.xs.length), ⟨rfl, rfl, rfl, rfl, rfl, rfl, trivial⟩, I, Nat.zero_le _, Nat.le_refl _, fun m h hm => absurd hm (Nat.not_lt_zero _), fun m h hm => absurd h (Nat.not_lt.2 hm)⟩ ?_
  rintro ⟨i, j⟩ e w ⟨I, hij, hjn, hlo, hhi⟩
  dsimp only at I hij hjn hlo hhi ⊢
  refine WP.seq ?_
  refine WP.seq ?_
  refine WP.region ?_
  refine Ops.y (v := .int .i64 _) (Y.move rfl) ?_
  refine Ops.y (v := .int .i64 _) (Y.move rfl) ?_
  refine Ops.y (v := .bool (decide _)) (Y.lti rfl rfl) ?_
  refine Ops.nil ?_
  refine WP.cond_dec rfl (fun h => ?_) (fun h => ?_)
  · have hm : (i + j) / 2 < f.xs.length := by omega
    have E1 := hf.at hm
    have pm := hp _ (List.getElem_mem hm)
    refine WP.skip ?_
    refine WP.block ?_
    refine WP.seq ?_
    refine WP.region ?_
    refine Ops.y (v := .int .i64 _) (Y.move rfl) ?_
    refine Ops.y (v := .int .i64 _) (Y.move rfl) ?_
    refine Ops.y (v := .int .i64 _) (Y.addi rfl rfl ⟨by omega, by omega⟩) ?_
    refine Ops.y (v := .int .u64 _) (Y.conv (by rw [Tryz.underlying3]; rfl) Tryz.underlying147 (wrap_u64 (by omega) (by omega)) rfl) ?_
    refine Ops.y (v := .int .u64 _) (Y.half (by decide) rfl rfl) ?_
    refine Ops.y (v := .int .i64 _) (Y.conv (by rw [Tryz.underlying147]; rfl) Tryz.underlying3 (wrap_i64 ⟨by omega, by omega⟩) rfl) ?_
    refine Ops.y (v := .int .i64 _) (Y.assign rfl) ?_
    refine Ops.nil ?_
    refine WP.seq ?_
    refine WP.regionQ mixed I (by kernel_rfl) ?_
    refine OpsQ.y (v := .func _ _ _) (fun w I => Y.move rfl) ?_
    refine OpsQ.y (v := .slice _ _ _) (fun w I => Y.move rfl) ?_
    refine OpsQ.y (v := .int .i64 _) (fun w I => Y.move rfl) ?_
    refine OpsQ.y (v := .pointer (some ⟨_, _, none⟩)) (fun w I => Y.idxEl E1 Tryz.underlying26 Tryz.sizeOf28 rfl rfl (by omega) (by omega)) ?_
    refine OpsQ.y (v := .agg #[_, _, _, _]) (fun w I => Y.loadv ty_28 rfl (I.rd (E1.rd.part 0 4)) rfl rfl) ?_
    refine OpsQ.y (v := .agg #[_, _, _, _]) (fun w I => Y.loadv ty_28 rfl (I.rdbox 0 rfl 0 4) rfl rfl) ?_
    refine OpsQ.c (fun w I => QC.callcv I Tryz.call82 (fs := []) (cs := []) rfl (order_ok _ I.base_ok _ _) rfl) ?_
    refine OpsQ.y (v := .bool (decide _)) (fun w I => Y.lti rfl rfl) ?_
    refine OpsQ.nil ?_
    intro w I
    refine WP.cond_dec rfl (fun h5 => ?_) (fun h5 => ?_)
    · have hlt := (ordF_neg pm hx).1 h5
      refine WP.region ?_
      refine Ops.y (v := .int .i64 _) (Y.move rfl) ?_
      refine Ops.y (v := .int .i64 _) (Y.addi rfl rfl ⟨by omega, by omega⟩) ?_
      refine Ops.y (v := .int .i64 _) (Y.assign rfl) ?_
      refine Ops.nil ?_
      exact ⟨((i + j) / 2 + 1, j), ⟨⟨rfl, rfl, rfl, rfl, by simp only [E, upd]; congr 1, rfl, trivial⟩, I, by omega, hjn, fun m h hm' => by
        rcases Nat.lt_or_ge m ((i + j) / 2) with h' | h'
        · exact Int.lt_trans (hs.get h' hm) hlt
        · obtain rfl : m = (i + j) / 2 := by omega
          exact hlt, hhi⟩, by omega⟩
    have hge : ¬ placeF f.xs[(i + j) / 2] < placeF x := fun hh => h5 ((ordF_neg pm hx).2 hh)
    refine WP.region ?_
    refine Ops.y (v := .int .i64 _) (Y.move rfl) ?_
    refine Ops.y (v := .int .i64 _) (Y.assign rfl) ?_
    refine Ops.nil ?_
    exact ⟨(i, (i + j) / 2), ⟨⟨rfl, rfl, rfl, rfl, rfl, by simp only [E, upd]; congr 1, trivial⟩, I, by omega, by omega, hlo, fun m h hm' => by
        rcases Nat.lt_or_ge ((i + j) / 2) m with h' | h'
        · have := hs.get h' h; omega
        · obtain rfl : m = (i + j) / 2 := by omega
          exact hge⟩, by omega⟩
  obtain rfl : j = i := by omega
  have hpos : posF f.xs x = j := posF_of hjn (fun m h hm => hlo m h hm) (fun h => hhi j h (Nat.le_refl _))
  have hiff := isF_iff (x := x) hs
  by_cases o1 : (j : Int) < (f.xs.length : Int)
  · have E1 := hf.at (i := j) (by omega)
    have pm := hp f.xs[j] (List.getElem_mem _)
    refine WP.exit ?_
    refine WP.seq ?_
    refine WP.regionQ mixed I (by kernel_rfl) ?_
    refine OpsQ.y (v := .int .i64 _) (fun w I => Y.move rfl) ?_
    refine OpsQ.y (v := .int .i64 _) (fun w I => Y.move rfl) ?_
    refine OpsQ.y (v := .int .i64 _) (fun w I => Y.move rfl) ?_
    refine OpsQ.y (v := .bool true) (fun w I => Y.dec_t (Y.lti rfl rfl) (o1)) ?_
    refine OpsQ.y (v := .bool _) (fun w I => Y.move rfl) ?_
    refine OpsQ.ygt rfl (v := .func _ _ _) (fun w I => Y.move rfl) ?_
    refine OpsQ.ygt rfl (v := .slice _ _ _) (fun w I => Y.move rfl) ?_
    refine OpsQ.ygt rfl (v := .int .i64 _) (fun w I => Y.move rfl) ?_
    refine OpsQ.ygt rfl (v := .pointer (some ⟨_, _, none⟩)) (fun w I => Y.idxEl E1 Tryz.underlying26 Tryz.sizeOf28 rfl rfl (Int.natCast_nonneg _) rfl) ?_
    refine OpsQ.ygt rfl (v := .agg #[_, _, _, _]) (fun w I => Y.loadv ty_28 rfl (I.rd (E1.rd.part 0 4)) rfl rfl) ?_
    refine OpsQ.ygt rfl (v := .agg #[_, _, _, _]) (fun w I => Y.loadv ty_28 rfl (I.rdbox 0 rfl 0 4) rfl rfl) ?_
    refine OpsQ.cgt rfl (fun w I => QC.callcv I Tryz.call82 (fs := []) (cs := []) rfl (order_ok _ I.base_ok _ _) rfl) ?_
    refine OpsQ.ygt rfl (v := .bool (decide _)) (fun w I => Y.eqi rfl rfl) ?_
    refine OpsQ.y (v := .bool _) (fun w I => Y.pick_t rfl rfl) ?_
    refine OpsQ.y (v := .int .i64 _) (fun w I => Y.assign rfl) ?_
    refine OpsQ.y (v := .bool _) (fun w I => Y.assign rfl) ?_
    refine OpsQ.nil ?_
    intro w I
    have hb : isF f.xs x = decide (ordF f.xs[j] x = 0) := by
      rw [Bool.eq_iff_iff, hiff, decide_eq_true_eq, ordF_zero pm hx]; simp only [hpos]; exact ⟨fun ⟨_, hh⟩ => hh, fun hh => ⟨by omega, hh⟩⟩
    refine WP.ret ?_
    repeat (first | refine thenE_ret ?_ | refine blockE_ret ?_)
    exact retQ.mk (vs := [.int .i64 _, .bool _]) rfl ⟨rfl, rfl, trivial⟩ I.ext_of (by simp only [tup]; rw [hpos, hb])
  · refine WP.exit ?_
    refine WP.seq ?_
    refine WP.regionQ mixed I (by kernel_rfl) ?_
    refine OpsQ.y (v := .int .i64 _) (fun w I => Y.move rfl) ?_
    refine OpsQ.y (v := .int .i64 _) (fun w I => Y.move rfl) ?_
    refine OpsQ.y (v := .int .i64 _) (fun w I => Y.move rfl) ?_
    refine OpsQ.y (v := .bool false) (fun w I => Y.dec_f (Y.lti rfl rfl) (o1)) ?_
    refine OpsQ.y (v := .bool _) (fun w I => Y.move rfl) ?_
    refine OpsQ.gf rfl ?_
    refine OpsQ.gf rfl ?_
    refine OpsQ.gf rfl ?_
    refine OpsQ.gf rfl ?_
    refine OpsQ.gf rfl ?_
    refine OpsQ.gf rfl ?_
    refine OpsQ.gf rfl ?_
    refine OpsQ.gf rfl ?_
    refine OpsQ.y (v := .bool _) (fun w I => Y.pick_f rfl rfl) ?_
    refine OpsQ.y (v := .int .i64 _) (fun w I => Y.assign rfl) ?_
    refine OpsQ.y (v := .bool _) (fun w I => Y.assign rfl) ?_
    refine OpsQ.nil ?_
    intro w I
    have hb : isF f.xs x = false := by
      rw [Bool.eq_false_iff]; intro hh; obtain ⟨hh, _⟩ := hiff.1 hh; omega
    refine WP.ret ?_
    repeat (first | refine thenE_ret ?_ | refine blockE_ret ?_)
    exact retQ.mk (vs := [.int .i64 _, .bool _]) rfl ⟨rfl, rfl, trivial⟩ I.ext_of (by simp only [tup]; rw [hpos, hb])
theorem Seek_ok (B : Base) (hB : B.ok) (f : Sl Fct) (hf : Fcts f B.h) (hp : ∀ y ∈ f.xs, PF y) (hs : SrtF f.xs) (x : Fct) (hx : PF x) : Fn Tryz.prog 55 [f.val, x.val] B (fun v _ => v = .tuple #[.int .i64 (posF f.xs x : Nat), .bool (isF f.xs x)]) := by
  refine Fn.of Tryz.func55 rfl Tryz.ntmps55 (by kernel_rfl) (by simp) ?_
  intro e
  have I := Inv.start hB
  refine WP.seq ?_
  refine WP.region ?_
  refine Ops.go (O.box (v := .agg #[_, _, _, _]) I rfl rfl ?_)
  intro b3 w I
  refine Ops.y (v := .int .i64 _) (Y.assign rfl) ?_
  refine Ops.y (v := .bool _) (Y.assign rfl) ?_
  refine Ops.nil ?_
  refine WP.seq ?_
  refine WP.region ?_
  refine Ops.y (v := .slice _ _ _) (Y.move rfl) ?_
  refine Ops.y (v := .agg #[_, _, _, _]) (Y.loadv ty_28 rfl (I.rdbox 0 rfl 0 4) rfl rfl) ?_
  refine Ops.go (O.callv I Tryz.call86 (Bsf_ok _ I.base_ok f hf hp hs x hx) rfl ?_)
  intro w I
  refine Ops.y (v := .int .i64 _) (Y.extract rfl rfl) ?_
  refine Ops.y (v := .bool _) (Y.extract rfl rfl) ?_
  refine Ops.y (v := .int .i64 _) (Y.assign rfl) ?_
  refine Ops.y (v := .bool _) (Y.assign rfl) ?_
  refine Ops.nil ?_
  refine WP.ret ?_
  repeat (first | refine thenE_ret ?_ | refine blockE_ret ?_)
  exact retQ.mk (vs := [.int .i64 _, .bool _]) rfl ⟨rfl, rfl, trivial⟩ I.ext_of (rfl)
def askF (l : List Prd) (f : List Fct) (x : Fct) : Int := if checkFacts l f ≠ 0 then checkFacts l f else if factFine l x then 0 else 1
theorem asked_ok (B : Base) (hB : B.ok) (l : Sl Prd) (hl : Prds l B.h) (f : Sl Fct) (hf : Fcts f B.h) (x : Fct) : Fn Tryz.prog 26 [l.val, f.val, x.val] B (fun v _ => v = .int .i64 (askF l.xs f.xs x)) := by
  refine Fn.of Tryz.func26 rfl Tryz.ntmps26 (by kernel_rfl) (by simp) ?_
  intro e
  have I := Inv.start hB
  refine WP.seq ?_
  refine WP.region ?_
  refine Ops.go (O.box (v := .agg #[_, _, _, _]) I rfl rfl ?_)
  intro b5 w I
  refine Ops.y (v := .int .i64 _) (Y.assign rfl) ?_
  refine Ops.nil ?_
  refine WP.seq ?_
  refine WP.seq ?_
  refine WP.region ?_
  refine Ops.y (v := .slice _ _ _) (Y.move rfl) ?_
  refine Ops.y (v := .slice _ _ _) (Y.move rfl) ?_
  refine Ops.go (O.callv I Tryz.call51 (BCheck_ok _ I.base_ok l hl f hf) rfl ?_)
  intro w I
  refine Ops.y (v := .int .i64 _) (Y.assign rfl) ?_
  refine Ops.nil ?_
  refine WP.seq ?_
  refine WP.region ?_
  refine Ops.y (v := .int .i64 _) (Y.move rfl) ?_
  refine Ops.y (v := .bool (decide _)) (Y.nei rfl rfl) ?_
  refine Ops.nil ?_
  refine WP.cond_dec rfl (fun h => ?_) (fun h => ?_)
  · refine WP.seq ?_
    refine WP.region ?_
    refine Ops.y (v := .int .i64 _) (Y.move rfl) ?_
    refine Ops.y (v := .int .i64 _) (Y.assign rfl) ?_
    refine Ops.nil ?_
    refine WP.ret ?_
    repeat (first | refine thenE_ret ?_ | refine blockE_ret ?_)
    exact retQ.mk (vs := [.int .i64 _]) rfl ⟨rfl, trivial⟩ I.ext_of (by simp only [tup, askF]; rw [if_pos h])
  cases hx : factFine l.xs x
  · refine WP.skip ?_
    refine WP.seq ?_
    refine WP.seq ?_
    refine WP.region ?_
    refine Ops.y (v := .slice _ _ _) (Y.move rfl) ?_
    refine Ops.y (v := .agg #[_, _, _, _]) (Y.loadv ty_28 rfl (I.rdbox 0 rfl 0 4) rfl rfl) ?_
    refine Ops.go (O.callv I Tryz.call54 (Fine_ok _ I.base_ok l hl x) rfl ?_)
    intro w I
    refine Ops.y (v := .bool true) (Y.b (Y.not rfl) ((by rw [hx]; rfl))) ?_
    refine Ops.nil ?_
    refine WP.cond_t rfl ?_
    refine WP.seq ?_
    refine WP.region ?_
    refine Ops.y (v := .int .i64 _) (Y.assign rfl) ?_
    refine Ops.nil ?_
    refine WP.ret ?_
    repeat (first | refine thenE_ret ?_ | refine blockE_ret ?_)
    exact retQ.mk (vs := [.int .i64 _]) rfl ⟨rfl, trivial⟩ I.ext_of (by simp only [tup, askF]; rw [if_neg h, hx]; rfl)
  · refine WP.skip ?_
    refine WP.seq ?_
    refine WP.seq ?_
    refine WP.region ?_
    refine Ops.y (v := .slice _ _ _) (Y.move rfl) ?_
    refine Ops.y (v := .agg #[_, _, _, _]) (Y.loadv ty_28 rfl (I.rdbox 0 rfl 0 4) rfl rfl) ?_
    refine Ops.go (O.callv I Tryz.call54 (Fine_ok _ I.base_ok l hl x) rfl ?_)
    intro w I
    refine Ops.y (v := .bool false) (Y.b (Y.not rfl) ((by rw [hx]; rfl))) ?_
    refine Ops.nil ?_
    refine WP.cond_f rfl ?_
    refine WP.skip ?_
    refine WP.seq ?_
    refine WP.region ?_
    refine Ops.y (v := .int .i64 _) (Y.assign rfl) ?_
    refine Ops.nil ?_
    refine WP.ret ?_
    repeat (first | refine thenE_ret ?_ | refine blockE_ret ?_)
    exact retQ.mk (vs := [.int .i64 _]) rfl ⟨rfl, trivial⟩ I.ext_of (by simp only [tup, askF]; rw [if_neg h, hx]; rfl)
/-! ### Being under -/
def upF (l : List Prd) (g : List Fct) (x : Fct) : Bool := (lkF g (placeF x)).isSome && decide (joinV (predOf l x.pred).kind x.v ((lkF g (placeF x)).getD 0) = (lkF g (placeF x)).getD 0)
theorem fine_kind {l : List Prd} {x : Fct} (h : factFine l x = true) : 0 ≤ (predOf l x.pred).kind ∧ (predOf l x.pred).kind ≤ 3 := by
  have := vOk_iff.1 (fine_iff.1 h).2.2.2.2.2; omega
set_option maxHeartbeats 1000000 in
theorem Below1_ok (B : Base) (hB : B.ok) (l : Sl Prd) (hl : Prds l B.h) (g : Sl Fct) (hg : Fcts g B.h) (bl bg : Nat) (kl : Known B.h bl [l.val]) (kg : Known B.h bg [g.val]) (ok : FOk l.xs g.xs) (x : Fct) (hx : factFine l.xs x = true) :
    Fn Tryz.prog 80 [x.val, .pointer (some ⟨bg, 0, none⟩), .pointer (some ⟨bl, 0, none⟩)] B (fun v _ => v = .bool (!upF l.xs g.xs x)) := by
  have px := fine_pf ok.len hx
  have hiff := isF_iff (x := x) ok.srt
  have h01 := (fine_iff.1 hx).1
  have hk : x.pred.toNat < l.xs.length := by omega
  have E2 := hl.at hk
  have hpo : l.xs[x.pred.toNat] = predOf l.xs x.pred := (predOf_getE h01.1 h01.2).symm
  have hkd := fine_kind hx
  rw [← hpo] at hkd
  refine Fn.of Tryz.func80 rfl Tryz.ntmps80 (by kernel_rfl) (by simp) ?_
  intro e
  have I := Inv.start hB
  refine WP.seq ?_
  refine WP.region ?_
  refine Ops.go (O.box (v := .agg #[_, _, _, _]) I rfl rfl ?_)
  intro b3 w I
  refine Ops.y (v := .bool _) (Y.assign rfl) ?_
  refine Ops.nil ?_
  refine WP.seq ?_
  refine WP.region ?_
  refine Ops.y (v := .slice _ _ _) (Y.loadv ty_26 rfl (I.rd (kg.rd.part 0 1)) rfl rfl) ?_
  refine Ops.y (v := .agg #[_, _, _, _]) (Y.loadv ty_28 rfl (I.rdbox 0 rfl 0 4) rfl rfl) ?_
  refine Ops.go (O.callv I Tryz.call55 (Seek_ok _ I.base_ok g hg ok.pf ok.srt x px) rfl ?_)
  intro w I
  refine Ops.y (v := .tuple #[_, _]) (Y.move rfl) ?_
  refine Ops.y (v := .int .i64 _) (Y.extract rfl rfl) ?_
  refine Ops.y (v := .bool _) (Y.extract rfl rfl) ?_
  refine Ops.y (v := .int .i64 _) (Y.assign rfl) ?_
  refine Ops.y (v := .bool _) (Y.assign rfl) ?_
  refine Ops.nil ?_
  cases hi : isF g.xs x
  · refine WP.seq ?_
    refine WP.regionQ mixed I (by kernel_rfl) ?_
    refine OpsQ.y (v := .bool _) (fun w I => Y.move rfl) ?_
    refine OpsQ.y (v := .bool true) (fun w I => Y.b (Y.not rfl) ((by first | rfl | (rw [hi]; rfl)))) ?_
    refine OpsQ.y (v := .bool _) (fun w I => Y.move rfl) ?_
    refine OpsQ.gf rfl ?_
    refine OpsQ.gf rfl ?_
    refine OpsQ.gf rfl ?_
    refine OpsQ.gf rfl ?_
    refine OpsQ.gf rfl ?_
    refine OpsQ.gf rfl ?_
    refine OpsQ.gf rfl ?_
    refine OpsQ.gf rfl ?_
    refine OpsQ.gf rfl ?_
    refine OpsQ.gf rfl ?_
    refine OpsQ.gf rfl ?_
    refine OpsQ.gf rfl ?_
    refine OpsQ.gf rfl ?_
    refine OpsQ.gf rfl ?_
    refine OpsQ.gf rfl ?_
    refine OpsQ.gf rfl ?_
    refine OpsQ.gf rfl ?_
    refine OpsQ.gf rfl ?_
    refine OpsQ.gf rfl ?_
    refine OpsQ.gf rfl ?_
    refine OpsQ.y (v := .bool _) (fun w I => Y.pick_t rfl rfl) ?_
    refine OpsQ.y (v := .bool _) (fun w I => Y.assign rfl) ?_
    refine OpsQ.nil ?_
    intro w I
    refine WP.ret ?_
    repeat (first | refine thenE_ret ?_ | refine blockE_ret ?_)
    exact retQ.mk (vs := [.bool _]) rfl ⟨rfl, trivial⟩ I.ext_of (by simp only [tup, upF]; unfold isF at hi; rw [hi]; rfl)
  · obtain ⟨hlt, he⟩ := hiff.1 hi
    have E1 := hg.at hlt
    have hlk := lkF_pos ok.srt hlt he
    refine WP.seq ?_
    refine WP.regionQ mixed I (by kernel_rfl) ?_
    refine OpsQ.y (v := .bool _) (fun w I => Y.move rfl) ?_
    refine OpsQ.y (v := .bool false) (fun w I => Y.b (Y.not rfl) ((by first | rfl | (rw [hi]; rfl)))) ?_
    refine OpsQ.y (v := .bool _) (fun w I => Y.move rfl) ?_
    refine OpsQ.ygt rfl (v := .slice _ _ _) (fun w I => Y.loadv ty_22 rfl (I.rd (kl.rd.part 0 1)) rfl rfl) ?_
    refine OpsQ.ygt rfl (v := .pointer (some ⟨_, _, none⟩)) (fun w I => Y.fa0 fa_28_0 rfl) ?_
    refine OpsQ.ygt rfl (v := .int .i64 _) (fun w I => Y.loadv ty_3 rfl (I.rdbox 0 rfl 0 1) rfl rfl) ?_
    refine OpsQ.ygt rfl (v := .pointer (some ⟨_, _, none⟩)) (fun w I => Y.idxEl E2 Tryz.underlying22 Tryz.sizeOf40 rfl rfl h01.1 rfl) ?_
    refine OpsQ.ygt rfl (v := .pointer (some ⟨_, _, none⟩)) (fun w I => Y.fa fa_40_2 rfl) ?_
    refine OpsQ.ygt rfl (v := .int .i64 _) (fun w I => Y.loadv ty_3 rfl (I.rd (E2.rd.part 2 1)) rfl rfl) ?_
    refine OpsQ.ygt rfl (v := .pointer (some ⟨_, _, none⟩)) (fun w I => Y.fa fa_28_3 rfl) ?_
    refine OpsQ.ygt rfl (v := .int .i64 _) (fun w I => Y.loadv ty_3 rfl (I.rdbox 0 rfl 3 1) rfl rfl) ?_
    refine OpsQ.ygt rfl (v := .slice _ _ _) (fun w I => Y.loadv ty_26 rfl (I.rd (kg.rd.part 0 1)) rfl rfl) ?_
    refine OpsQ.ygt rfl (v := .int .i64 _) (fun w I => Y.move rfl) ?_
    refine OpsQ.ygt rfl (v := .pointer (some ⟨_, _, none⟩)) (fun w I => Y.idxEl E1 Tryz.underlying26 Tryz.sizeOf28 rfl rfl (Int.natCast_nonneg _) rfl) ?_
    refine OpsQ.ygt rfl (v := .pointer (some ⟨_, _, none⟩)) (fun w I => Y.fa fa_28_3 rfl) ?_
    refine OpsQ.ygt rfl (v := .int .i64 _) (fun w I => Y.loadv ty_3 rfl (I.rd (E1.rd.part 3 1)) rfl rfl) ?_
    refine OpsQ.cgt rfl (fun w I => QC.callv I Tryz.call58 (Joined_ok _ I.base_ok _ _ _ hkd) rfl) ?_
    refine OpsQ.ygt rfl (v := .slice _ _ _) (fun w I => Y.loadv ty_26 rfl (I.rd (kg.rd.part 0 1)) rfl rfl) ?_
    refine OpsQ.ygt rfl (v := .int .i64 _) (fun w I => Y.move rfl) ?_
    refine OpsQ.ygt rfl (v := .pointer (some ⟨_, _, none⟩)) (fun w I => Y.idxEl E1 Tryz.underlying26 Tryz.sizeOf28 rfl rfl (Int.natCast_nonneg _) rfl) ?_
    refine OpsQ.ygt rfl (v := .pointer (some ⟨_, _, none⟩)) (fun w I => Y.fa fa_28_3 rfl) ?_
    refine OpsQ.ygt rfl (v := .int .i64 _) (fun w I => Y.loadv ty_3 rfl (I.rd (E1.rd.part 3 1)) rfl rfl) ?_
    refine OpsQ.ygt rfl (v := .bool (decide _)) (fun w I => Y.nei rfl rfl) ?_
    refine OpsQ.y (v := .bool _) (fun w I => Y.pick_f rfl rfl) ?_
    refine OpsQ.y (v := .bool _) (fun w I => Y.assign rfl) ?_
    refine OpsQ.nil ?_
    intro w I
    refine WP.ret ?_
    repeat (first | refine thenE_ret ?_ | refine blockE_ret ?_)
    exact retQ.mk (vs := [.bool _]) rfl ⟨rfl, trivial⟩ I.ext_of (by simp only [tup, upF, hlk, ← hpo]; simp)
theorem not_any_not {α : Type} (p : α → Bool) (xs : List α) : (!(xs.any fun x => !p x)) = xs.all p := by
  induction xs with
  | nil => rfl
  | cons x r ih => rw [List.any_cons, List.all_cons, ← ih]; cases p x <;> simp
theorem Below_ok (B : Base) (hB : B.ok) (l : Sl Prd) (hl : Prds l B.h) (f g : Sl Fct) (hf : Fcts f B.h) (hg : Fcts g B.h) (okf : FOk l.xs f.xs) (ok : FOk l.xs g.xs) : Fn Tryz.prog 50 [l.val, f.val, g.val] B (fun v _ => v = .bool (underF l.xs f.xs g.xs)) := by
  refine Fn.of Tryz.func50 rfl Tryz.ntmps50 (by kernel_rfl) (by simp) ?_
  intro e
  have I := Inv.start hB
  refine WP.seq ?_
  refine WP.region ?_
  refine Ops.go (O.box (v := .slice _ _ _) I rfl rfl ?_)
  intro b3 w I
  refine Ops.go (O.box (v := .slice _ _ _) I rfl rfl ?_)
  intro b5 w I
  refine Ops.y (v := .bool _) (Y.assign rfl) ?_
  refine Ops.nil ?_
  obtain ⟨h5, le5, k5, I⟩ := I.settleBox
  obtain ⟨h3, le3, k3, I⟩ := I.settleBox
  have gl := le5.trans le3
  have k5 := k5.le le3
  refine WP.seq ?_
  refine WP.region ?_
  refine Ops.y (v := .slice _ _ _) (Y.move rfl) ?_
  refine Ops.y (v := .func _ _ _) (Y.mkfunc rfl rfl) ?_
  refine Ops.go (O.callv I Tryz.call79 (ContainsFuncFct_ok _ I.base_ok f (hf.le gl) 80 Tryz.call80 [] [.pointer (some ⟨b5, 0, none⟩), .pointer (some ⟨b3, 0, none⟩)] (fun x => !upF l.xs g.xs x) (fun B' hB' hle x hx => Below1_ok B' hB' l ((hl.le gl).le hle) g ((hg.le gl).le hle) b3 b5 (k3.le hle) (k5.le hle) ok x (okf.fine x hx))) rfl ?_)
  intro w I
  refine Ops.y (v := .bool _) (Y.not rfl) ?_
  refine Ops.y (v := .bool _) (Y.assign rfl) ?_
  refine Ops.nil ?_
  refine WP.ret ?_
  repeat (first | refine thenE_ret ?_ | refine blockE_ret ?_)
  exact retQ.mk (vs := [.bool _]) rfl ⟨rfl, trivial⟩ I.ext_of (by simp only [tup]; rw [not_any_not]; rfl)
theorem SameFacts_ok (B : Base) (hB : B.ok) (a b : Sl Fct) (ha : Fcts a B.h) (hb : Fcts b B.h) : Fn Tryz.prog 13 [a.val, b.val] B (fun v _ => v = .bool (decide (a.xs = b.xs))) := by
  have hsa := ha.small
  have hsb := hb.small
  refine Fn.of Tryz.func13 rfl Tryz.ntmps13 (by kernel_rfl) (by simp) ?_
  intro e
  have I := Inv.start hB
  refine WP.seq ?_
  refine WP.region ?_
  refine Ops.y (v := .bool _) (Y.assign rfl) ?_
  refine Ops.nil ?_
  refine WP.seq ?_
  refine WP.seq ?_
  refine WP.region ?_
  refine Ops.y (v := .slice _ _ _) (Y.move rfl) ?_
  refine Ops.y (v := .int .i64 _) (Y.lens Tryz.underlying26 rfl) ?_
  refine Ops.y (v := .slice _ _ _) (Y.move rfl) ?_
  refine Ops.y (v := .int .i64 _) (Y.lens Tryz.underlying26 rfl) ?_
  refine Ops.y (v := .bool (decide _)) (Y.nei rfl rfl) ?_
  refine Ops.nil ?_
  refine WP.cond_dec rfl (fun h1 => ?_) (fun h1 => ?_)
  · refine WP.seq ?_
    refine WP.region ?_
    refine Ops.y (v := .bool _) (Y.assign rfl) ?_
    refine Ops.nil ?_
    refine WP.ret ?_
    repeat (first | refine thenE_ret ?_ | refine blockE_ret ?_)
    exact retQ.mk (vs := [.bool _]) rfl ⟨rfl, trivial⟩ I.ext_of (by simp only [tup]; rw [decide_eq_false (fun e => h1 (by rw [e]))])
  refine WP.skip ?_
  refine WP.seq ?_
  refine WP.seq ?_
  refine WP.region ?_
  refine Ops.y (v := .int .i64 _) (Y.assign rfl) ?_
  refine Ops.nil ?_
  refine WP.block ?_
  refine WP.loopE (σ := Nat) (fun k => [(0, a.val), (1, b.val), (5, .int .i64 k)]) (fun k w => Inv B B.h [] w ∧ k ≤ a.xs.length ∧ ∀ j, j < k → a.xs[j]? = b.xs[j]?) (fun k => a.xs.length - k)
    ⟨0, ⟨rfl, rfl, rfl, trivial⟩, I, Nat.zero_le _, fun j hj => by omega⟩ ?_
  rintro k e w ⟨I, hk, hn⟩
  refine WP.seq ?_
  refine WP.seq ?_
  refine WP.region ?_
  refine Ops.y (v := .int .i64 _) (Y.move rfl) ?_
  refine Ops.y (v := .slice _ _ _) (Y.move rfl) ?_
  refine Ops.y (v := .int .i64 _) (Y.lens Tryz.underlying26 rfl) ?_
  refine Ops.y (v := .bool (decide _)) (Y.lti rfl rfl) ?_
  refine Ops.nil ?_
  refine WP.cond_dec rfl (fun h4 => ?_) (fun h4 => ?_)
  · have hk' : k < a.xs.length := by omega
    have hkb : k < b.xs.length := by omega
    have E1 := ha.at hk'
    have E2 := hb.at hkb
    refine WP.skip ?_
    refine WP.seq ?_
    refine WP.block ?_
    refine WP.seq ?_
    refine WP.regionQ mixed I (by kernel_rfl) ?_
    refine OpsQ.y (v := .slice _ _ _) (fun w I => Y.move rfl) ?_
    refine OpsQ.y (v := .int .i64 _) (fun w I => Y.move rfl) ?_
    refine OpsQ.y (v := .pointer (some ⟨_, _, none⟩)) (fun w I => Y.idxEl E1 Tryz.underlying26 Tryz.sizeOf28 rfl rfl (Int.natCast_nonneg _) rfl) ?_
    refine OpsQ.y (v := .agg #[_, _, _, _]) (fun w I => Y.loadv ty_28 rfl (I.rd (E1.rd.part 0 4)) rfl rfl) ?_
    refine OpsQ.y (v := .slice _ _ _) (fun w I => Y.move rfl) ?_
    refine OpsQ.y (v := .int .i64 _) (fun w I => Y.move rfl) ?_
    refine OpsQ.y (v := .pointer (some ⟨_, _, none⟩)) (fun w I => Y.idxEl E2 Tryz.underlying26 Tryz.sizeOf28 rfl rfl (Int.natCast_nonneg _) rfl) ?_
    refine OpsQ.y (v := .agg #[_, _, _, _]) (fun w I => Y.loadv ty_28 rfl (I.rd (E2.rd.part 0 4)) rfl rfl) ?_
    refine OpsQ.y (v := .bool _) (fun w I => Y.nest Tryz.eqGuardType28 (eq_28 _ _ _ _ _ _ _ _) rfl rfl) ?_
    refine OpsQ.nil ?_
    intro w I
    refine WP.cond rfl (fun h6 => ?_) (fun h6 => ?_)
    · refine WP.seq ?_
      refine WP.region ?_
      refine Ops.y (v := .bool _) (Y.assign rfl) ?_
      refine Ops.nil ?_
      have hne : a.xs ≠ b.xs := fun e => by
        have he : a.xs[k] = b.xs[k] := by simp only [e]
        simp [he] at h6
      refine WP.ret ?_
      repeat (first | refine thenE_ret ?_ | refine blockE_ret ?_)
      exact retQ.mk (vs := [.bool _]) rfl ⟨rfl, trivial⟩ I.ext_of (by simp only [tup]; rw [decide_eq_false hne])
    refine WP.skip ?_
    refine WP.region ?_
    refine Ops.y (v := .int .i64 _) (Y.move rfl) ?_
    refine Ops.y (v := .int .i64 _) (Y.addi rfl rfl ⟨by omega, by omega⟩) ?_
    refine Ops.y (v := .int .i64 _) (Y.assign rfl) ?_
    refine Ops.nil ?_
    exact ⟨k + 1, ⟨⟨rfl, rfl, rfl, trivial⟩, I, hk', fun j hj => by
      rcases Nat.lt_succ_iff_lt_or_eq.1 hj with h' | rfl
      · exact hn j h'
      · rw [List.getElem?_eq_getElem hk', List.getElem?_eq_getElem hkb]
        congr 1
        simp only [Bool.not_eq_false', Bool.and_eq_true, beq_iff_eq] at h6
        obtain ⟨e1, e2, e3, e4, _⟩ := h6
        generalize a.xs[j] = u at *
        generalize b.xs[j] = v at *
        cases u; cases v; simp_all⟩, by omega⟩
  have hab : a.xs = b.xs := List.ext_getElem? fun j => by
    rcases Nat.lt_or_ge j k with h' | h'
    · exact hn j h'
    · rw [List.getElem?_eq_none (by omega), List.getElem?_eq_none (by omega)]
  refine WP.exit ?_
  refine WP.seq ?_
  refine WP.region ?_
  refine Ops.y (v := .bool _) (Y.assign rfl) ?_
  refine Ops.nil ?_
  refine WP.ret ?_
  repeat (first | refine thenE_ret ?_ | refine blockE_ret ?_)
  exact retQ.mk (vs := [.bool _]) rfl ⟨rfl, trivial⟩ I.ext_of (by simp only [tup]; rw [decide_eq_true hab])
end Go.TF
end
section
/- A rule is used; an atom is bound with a fact. -/
namespace Go.TF
open Go Go.RowKit Go.Proofs
set_option maxRecDepth 20000

def hvAt (l : List Prd) (f : List Fct) (r : Rul) (x : Vrs) (k : Nat) : Int := if 0 ≤ r.src ∧ r.src < k then headV l f r x else r.n
theorem hvAt_end {l : List Prd} {f : List Fct} {r : Rul} {x : Vrs} (ok : ROk l r) : hvAt l f r x r.body.xs.length = headV l f r x := by
  unfold hvAt
  split
  · rfl
  · rename_i h
    have := ok.src
    unfold headV
    rw [if_neg (by omega)]
theorem litOk_iff {f : List Fct} {x : Vrs} {t : Ltl} : litOk f x t = true ↔ isF f (groundF t.atom x) ≠ t.neg := by unfold litOk; rw [decide_eq_true_eq]
theorem litOf_at {r : Rul} {k : Nat} (hk : k < r.body.xs.length) : litOf r k = r.body.xs[k] := by simp [litOf, List.getD_eq_getElem?_getD, hk]
def tHold (x : Bool × Fct) : Value := .tuple #[.bool x.1, x.2.val]
set_option maxHeartbeats 4000000 in
theorem FOf_ok (B : Base) (hB : B.ok) (p : Prg) (hp : p.In B.h) (f : Sl Fct) (hf : Fcts f B.h) (n : Int) (r : Rul) (h0 : 0 ≤ n) (hr : p.rules.xs[n.toNat]? = some r) (ok : ROk p.preds.xs r) (okf : FOk p.preds.xs f.xs) (x : Vrs) (hx : VsOk x) :
    Fn Tryz.prog 78 [p.val, f.val, .int .i64 n, x.val] B (fun v _ => v = tHold (holdsF p.preds.xs f.xs r x)) := by
  have Er := hp.rules.is.el.el hr
  have ir := hp.rules.each _ (List.mem_of_getElem? hr)
  have ah := aok_of ok.preds ok.head
  have hlen := ok.len
  have hkp : r.head.pred.toNat < p.preds.xs.length := by have := ah.pred; omega
  have Eh := hp.preds.at hkp
  have hpo : p.preds.xs[r.head.pred.toNat] = predOf p.preds.xs r.head.pred := (predOf_getE ah.pred.1 ah.pred.2).symm
  have hkd := ok.preds _ (predOf_mem ah.pred)
  simp only [predFine, decide_eq_true_eq] at hkd
  refine Fn.of Tryz.func78 rfl Tryz.ntmps78 (by kernel_rfl) (by simp) ?_
  intro e
  have I := Inv.start hB
  refine WP.seq ?_
  refine WP.region ?_
  refine Ops.go (O.box (v := .agg #[_, _]) I rfl rfl ?_)
  intro b4 w I
  refine Ops.go (O.box (v := .agg #[_, _, _]) I rfl rfl ?_)
  intro b7 w I
  refine Ops.y (v := .bool _) (Y.assign rfl) ?_
  refine Ops.go (O.alloc I Tryz.zeroValue28 rfl ?_)
  intro b9 w I
  refine Ops.nil ?_
  refine WP.seq ?_
  refine WP.region ?_
  refine Ops.y (v := .pointer (some ⟨_, _, none⟩)) (Y.fa fa_25_1 rfl) ?_
  refine Ops.y (v := .slice _ _ _) (Y.loadv ty_23 rfl (I.rdbox 2 rfl 1 1) rfl rfl) ?_
  refine Ops.y (v := .int .i64 _) (Y.move rfl) ?_
  refine Ops.y (v := .pointer (some ⟨_, _, none⟩)) (Y.idxEl Er Tryz.underlying23 Tryz.sizeOf46 rfl rfl h0 rfl) ?_
  refine Ops.y (v := .agg #[_, _, _, _, _]) (Y.loadv ty_46 rfl (I.rd (Er.rd.part 0 5)) rfl rfl) ?_
  refine Ops.go (O.alloc I Tryz.zeroValue46 rfl ?_)
  intro b10 w I
  refine Ops.go (O.store (v := .agg #[_, _, _, _, _]) I ty_46 0 rfl rfl rfl rfl rfl rfl (Nat.le_of_ble_eq_true rfl) rfl ?_)
  intro w I
  refine Ops.nil ?_
  refine WP.seq ?_
  refine WP.region ?_
  refine Ops.y (v := .pointer (some ⟨_, _, none⟩)) (Y.fa0 fa_46_0 rfl) ?_
  refine Ops.y (v := .agg #[_, _]) (Y.loadv ty_43 rfl (I.rdbox 0 rfl 0 2) rfl rfl) ?_
  refine Ops.y (v := .agg #[_, _, _]) (Y.loadv ty_78 rfl (I.rdbox 2 rfl 0 3) rfl rfl) ?_
  refine Ops.go (O.callv I Tryz.call105 (Of_ok _ I.base_ok r.head ir.head x ah.len ah.err) rfl ?_)
  intro w I
  refine Ops.go (O.alloc I Tryz.zeroValue28 rfl ?_)
  intro b11 w I
  refine Ops.go (O.store (v := .agg #[_, _, _, _]) I ty_28 0 rfl rfl rfl rfl rfl rfl (Nat.le_of_ble_eq_true rfl) rfl ?_)
  intro w I
  refine Ops.nil ?_
  refine WP.seq ?_
  refine WP.region ?_
  refine Ops.y (v := .pointer (some ⟨_, _, none⟩)) (Y.fa fa_46_2 rfl) ?_
  refine Ops.y (v := .int .i64 _) (Y.loadv ty_3 rfl (I.rdbox 1 rfl 3 1) rfl rfl) ?_
  refine Ops.y (v := .pointer (some ⟨_, _, none⟩)) (Y.fa fa_28_3 rfl) ?_
  refine Ops.go (O.store (v := .int .i64 _) I ty_3 0 rfl rfl rfl rfl rfl rfl (Nat.le_of_ble_eq_true rfl) rfl ?_)
  intro w I
  refine Ops.nil ?_
  refine WP.seq ?_
  refine WP.seq ?_
  refine WP.region ?_
  refine Ops.y (v := .pointer (some ⟨_, _, none⟩)) (Y.fa fa_46_3 rfl) ?_
  refine Ops.y (v := .slice _ _ _) (Y.loadv ty_44 rfl (I.rdbox 1 rfl 4 1) rfl rfl) ?_
  refine Ops.y (v := .int .i64 _) (Y.lens Tryz.underlying44 rfl) ?_
  refine Ops.y (v := .int .i64 _) (Y.move rfl) ?_
  refine Ops.nil ?_
  refine WP.block ?_
  refine WP.loopE (σ := Nat) (fun k => [(1, f.val), (4, .pointer (some ⟨b4, 0, none⟩)), (7, .pointer (some ⟨b7, 0, none⟩)), (9, .pointer (some ⟨b9, 0, none⟩)), (10, .pointer (some ⟨b10, 0, none⟩)), (11, .pointer (some ⟨b11, 0, none⟩)), (29, r.body.val), (30, .int .i64 r.body.xs.length), (31, .int .i64 k)])
    (fun k w => (∃ h1, B.h.le h1 ∧ Inv B h1 [box b11 [.int .i64 r.head.pred, .int .i64 (argv r.head x 0), .int .i64 (argv r.head x 1), .int .i64 (hvAt p.preds.xs f.xs r x k)] 28, box b10 r.enc 46, box b9 [.int .i64 0, .int .i64 0, .int .i64 0, .int .i64 0] 28, box b7 x.enc 78, box b4 p.enc 25] w) ∧ k ≤ r.body.xs.length ∧ ∀ j, j < k → ∀ hj : j < r.body.xs.length, litOk f.xs x r.body.xs[j] = true) (fun k => r.body.xs.length - k)
    ⟨0, ⟨rfl, rfl, rfl, rfl, rfl, rfl, rfl, rfl, rfl, trivial⟩, ?_, Nat.zero_le _, fun j hj => by omega⟩ ?_
  · have : hvAt p.preds.xs f.xs r x 0 = r.n := by unfold hvAt; rw [if_neg (by omega)]
    rw [this]; exact ⟨_, Heap.le.refl _, I⟩
  rintro k e w ⟨⟨h1, gl, I⟩, hk, hn⟩
  have ir := ir.le gl
  have hf := hf.le gl
  have Eh := Eh.le gl
  refine WP.seq ?_
  refine WP.region ?_
  refine Ops.y (v := .bool (decide _)) (Y.lti rfl rfl) ?_
  refine Ops.nil ?_
  refine WP.seq ?_
  refine WP.cond_dec rfl (fun h => ?_) (fun h => ?_)
  · have hk' : k < r.body.xs.length := by omega
    have E1 := ir.body.is.at hk'
    have ab := aok_of ok.preds (ok.body _ (List.getElem_mem hk'))
    have pb := ab.pf ok.five hx 0
    have hiff := isF_iff (x := groundF r.body.xs[k].atom x) okf.srt
    refine WP.skip ?_
    refine WP.seq ?_
    refine WP.block ?_
    refine WP.seq ?_
    refine WP.region ?_
    refine Ops.y (v := .int .i64 _) (Y.move rfl) ?_
    refine Ops.y (v := .pointer (some ⟨_, _, none⟩)) (Y.idxEl E1 Tryz.underlying44 Tryz.sizeOf61 rfl rfl (Int.natCast_nonneg _) rfl) ?_
    refine Ops.y (v := .agg #[_, _, _]) (Y.loadv ty_61 rfl (I.rd (E1.rd.part 0 3)) rfl rfl) ?_
    refine Ops.go (O.alloc I Tryz.zeroValue61 rfl ?_)
    intro b13 w I
    refine Ops.y (v := .int .i64 _) (Y.assign rfl) ?_
    refine Ops.go (O.store (v := .agg #[_, _, _]) I ty_61 0 rfl rfl rfl rfl rfl rfl (Nat.le_of_ble_eq_true rfl) rfl ?_)
    intro w I
    refine Ops.nil ?_
    refine WP.seq ?_
    refine WP.region ?_
    refine Ops.y (v := .slice _ _ _) (Y.move rfl) ?_
    refine Ops.y (v := .pointer (some ⟨_, _, none⟩)) (Y.fa fa_61_1 rfl) ?_
    refine Ops.y (v := .agg #[_, _]) (Y.loadv ty_43 rfl (I.rdbox 0 rfl 1 2) rfl rfl) ?_
    refine Ops.y (v := .agg #[_, _, _]) (Y.loadv ty_78 rfl (I.rdbox 4 rfl 0 3) rfl rfl) ?_
    refine Ops.go (O.callv I Tryz.call105 (Of_ok _ I.base_ok r.body.xs[k].atom (ir.body.each _ (List.getElem_mem hk')) x ab.len ab.err) rfl ?_)
    intro w I
    refine Ops.go (O.callv I Tryz.call55 (Seek_ok _ I.base_ok f hf okf.pf okf.srt _ pb) rfl ?_)
    intro w I
    refine Ops.y (v := .tuple #[_, _]) (Y.move rfl) ?_
    refine Ops.y (v := .int .i64 _) (Y.extract rfl rfl) ?_
    refine Ops.y (v := .bool _) (Y.extract rfl rfl) ?_
    refine Ops.y (v := .int .i64 _) (Y.assign rfl) ?_
    refine Ops.y (v := .bool _) (Y.assign rfl) ?_
    refine Ops.nil ?_
    refine WP.seq ?_
    refine WP.seq ?_
    refine WP.region ?_
    refine Ops.y (v := .bool _) (Y.move rfl) ?_
    refine Ops.y (v := .pointer (some ⟨_, _, none⟩)) (Y.fa0 fa_61_0 rfl) ?_
    refine Ops.y (v := .bool _) (Y.loadv ty_4 rfl (I.rdbox 0 rfl 0 1) rfl rfl) ?_
    refine Ops.y (v := .bool (decide _)) (Y.eqb Tryz.underlying4 rfl rfl) ?_
    refine Ops.nil ?_
    refine WP.cond_dec rfl (fun h8 => ?_) (fun h8 => ?_)
    · have hno : holdsB f.xs r x = false := by
        unfold holdsB; rw [List.all_eq_false]; exact ⟨_, List.getElem_mem hk', by rw [litOk_iff]; exact fun hh => hh h8⟩
      refine WP.seq ?_
      refine WP.region ?_
      refine Ops.y (v := .agg #[.int .i64 _, .int .i64 _, .int .i64 _, .int .i64 _]) (Y.build pl_28 Tryz.zeroValue28 rfl rfl) ?_
      refine Ops.y (v := .bool _) (Y.assign rfl) ?_
      refine Ops.go (O.store (v := .agg #[_, _, _, _]) I ty_28 3 rfl rfl rfl rfl rfl rfl (Nat.le_of_ble_eq_true rfl) rfl ?_)
      intro w I
      refine Ops.nil ?_
      refine WP.ret ?_
      repeat (first | refine thenE_ret ?_ | refine blockE_ret ?_)
      exact retQ.mk (vs := [.bool _, .agg #[_, _, _, _]]) rfl ⟨rfl, ⟨_, _, _, _, _, rfl, ty_28, I.rdbox 3 rfl 0 4, rfl, rfl⟩, trivial⟩ I.ext_of (by simp only [tup, tHold, holdsF, hno]; rfl)
    refine WP.skip ?_
    refine WP.seq ?_
    refine WP.region ?_
    refine Ops.y (v := .int .i64 _) (Y.move rfl) ?_
    refine Ops.y (v := .pointer (some ⟨_, _, none⟩)) (Y.fa fa_46_1 rfl) ?_
    refine Ops.y (v := .int .i64 _) (Y.loadv ty_3 rfl (I.rdbox 2 rfl 2 1) rfl rfl) ?_
    refine Ops.y (v := .bool (decide _)) (Y.eqi rfl rfl) ?_
    refine Ops.nil ?_
    refine WP.cond_dec rfl (fun h10 => ?_) (fun h10 => ?_)
    · have hs0 : 0 ≤ r.src := by omega
      obtain ⟨hng, hkq⟩ := ok.pos hs0
      have hlo : litOf r r.src = r.body.xs[k] := by rw [← h10]; exact litOf_at hk'
      rw [hlo] at hng
      have his : isF f.xs (groundF r.body.xs[k].atom x) = true := by
        rcases Bool.eq_false_or_eq_true (isF f.xs (groundF r.body.xs[k].atom x)) with hh | hh
        · exact hh
        · exact absurd (hh.trans hng.symm) h8
      obtain ⟨hlt, hpl⟩ := hiff.1 his
      have Ef := hf.at hlt
      have hlk := lkF_pos okf.srt hlt hpl
      have hval : hvAt p.preds.xs f.xs r x (k + 1) = liftV p.preds.xs[r.head.pred.toNat].kind f.xs[posF f.xs (groundF r.body.xs[k].atom x)].v r.n := by
        unfold hvAt headV
        rw [if_pos ⟨hs0, by omega⟩, if_pos hs0, hlo, hlk, hpo]; rfl
      have hI : I64 (f.xs[posF f.xs (groundF r.body.xs[k].atom x)].v + r.n) := by
        have h1 := vOk_iff.1 (fine_v (okf.fine _ (List.getElem_mem hlt)))
        have h2 := ok.n
        unfold I64; omega
      refine WP.regionF mixed I 15 (by kernel_rfl) ?_
      refine OpsF.y_ (v := .pointer (some ⟨_, _, none⟩)) (fun _ => runs_none _) (fun _ w us hl I => Y.fa0 fa_25_0 rfl) ?_
      refine OpsF.y_ (v := .slice _ _ _) (fun _ => runs_none _) (fun _ w us hl I => Y.loadv ty_22 rfl (I.rdbox 5 rfl 0 1) rfl rfl) ?_
      refine OpsF.y_ (v := .pointer (some ⟨_, _, none⟩)) (fun _ => runs_none _) (fun _ w us hl I => Y.fa0 fa_28_0 rfl) ?_
      refine OpsF.y_ (v := .int .i64 _) (fun _ => runs_none _) (fun _ w us hl I => Y.loadv ty_3 rfl (I.rdbox 1 rfl 0 1) rfl rfl) ?_
      refine OpsF.y_ (v := .pointer (some ⟨_, _, none⟩)) (fun _ => runs_none _) (fun _ w us hl I => Y.idxEl Eh Tryz.underlying22 Tryz.sizeOf40 rfl rfl ah.pred.1 rfl) ?_
      refine OpsF.y_ (v := .pointer (some ⟨_, _, none⟩)) (fun _ => runs_none _) (fun _ w us hl I => Y.fa fa_40_2 rfl) ?_
      refine OpsF.y_ (v := .int .i64 _) (fun _ => runs_none _) (fun _ w us hl I => Y.loadv ty_3 rfl (I.rd ((Eh.rd.part 2 1).le hl)) rfl rfl) ?_
      refine OpsF.y_ (v := .slice _ _ _) (fun _ => runs_none _) (fun _ w us hl I => Y.move rfl) ?_
      refine OpsF.y_ (v := .int .i64 _) (fun _ => runs_none _) (fun _ w us hl I => Y.move rfl) ?_
      refine OpsF.y_ (v := .pointer (some ⟨_, _, none⟩)) (fun _ => runs_none _) (fun _ w us hl I => Y.idxEl Ef Tryz.underlying26 Tryz.sizeOf28 rfl rfl (Int.natCast_nonneg _) rfl) ?_
      refine OpsF.y_ (v := .pointer (some ⟨_, _, none⟩)) (fun _ => runs_none _) (fun _ w us hl I => Y.fa fa_28_3 rfl) ?_
      refine OpsF.y_ (v := .int .i64 _) (fun _ => runs_none _) (fun _ w us hl I => Y.loadv ty_3 rfl (I.rd ((Ef.rd.part 3 1).le hl)) rfl rfl) ?_
      refine OpsF.y_ (v := .pointer (some ⟨_, _, none⟩)) (fun _ => runs_none _) (fun _ w us hl I => Y.fa fa_46_2 rfl) ?_
      refine OpsF.y_ (v := .int .i64 _) (fun _ => runs_none _) (fun _ w us hl I => Y.loadv ty_3 rfl (I.rdbox 2 rfl 3 1) rfl rfl) ?_
      refine OpsF.c_ (fun _ => runs_none _) (fun _ w us hl I => O.callv I Tryz.call106 (Lifted_ok _ I.base_ok _ _ _ (by rw [hpo]; exact hkd.2.2) hI) rfl (fun w' I' => ⟨rfl, I'⟩)) ?_
      refine OpsF.nil ?_
      intro _ w hl I
      try unfold AllL
      refine Ops.y (v := .pointer (some ⟨_, _, none⟩)) (Y.fa fa_28_3 rfl) ?_
      refine Ops.go (O.store (v := .int .i64 _) I ty_3 1 rfl rfl rfl rfl rfl rfl (Nat.le_of_ble_eq_true rfl) rfl ?_)
      intro w I
      refine Ops.nil ?_
      refine WP.region ?_
      refine Ops.y (v := .int .i64 _) (Y.addi rfl rfl ⟨by omega, by omega⟩) ?_
      refine Ops.y (v := .int .i64 _) (Y.move rfl) ?_
      refine Ops.nil ?_
      exact ⟨k + 1, ⟨⟨rfl, rfl, rfl, rfl, rfl, rfl, rfl, rfl, rfl, trivial⟩, ⟨_, gl.trans hl, by rw [hval]; exact I.drop⟩, by omega, fun j hj hj' => by
        rcases Nat.lt_succ_iff_lt_or_eq.1 hj with h' | rfl
        · exact hn j h' hj'
        · exact litOk_iff.2 h8⟩, by omega⟩
    · have hval : hvAt p.preds.xs f.xs r x (k + 1) = hvAt p.preds.xs f.xs r x k := by
        unfold hvAt
        have : (0 ≤ r.src ∧ r.src < ((k + 1 : Nat) : Int)) ↔ (0 ≤ r.src ∧ r.src < (k : Int)) := by omega
        simp only [this]
      refine WP.skip ?_
      refine WP.region ?_
      refine Ops.y (v := .int .i64 _) (Y.addi rfl rfl ⟨by omega, by omega⟩) ?_
      refine Ops.y (v := .int .i64 _) (Y.move rfl) ?_
      refine Ops.nil ?_
      exact ⟨k + 1, ⟨⟨rfl, rfl, rfl, rfl, rfl, rfl, rfl, rfl, rfl, trivial⟩, ⟨h1, gl, by rw [hval]; exact I.drop⟩, by omega, fun j hj hj' => by
        rcases Nat.lt_succ_iff_lt_or_eq.1 hj with h' | rfl
        · exact hn j h' hj'
        · exact litOk_iff.2 h8⟩, by omega⟩
  obtain rfl : k = r.body.xs.length := by omega
  have hyes : holdsB f.xs r x = true := by
    unfold holdsB; rw [List.all_eq_true]; intro t ht; obtain ⟨j, hj, rfl⟩ := List.getElem_of_mem ht; exact hn j hj hj
  rw [hvAt_end ok] at I
  refine WP.exit ?_
  refine WP.seq ?_
  refine WP.regionF mixed I 2 (by kernel_rfl) ?_
  refine OpsF.y_ (v := .agg #[_, _, _, _]) (fun _ => runs_none _) (fun _ w us hl I => Y.loadv ty_28 rfl (I.rdbox 0 rfl 0 4) rfl rfl) ?_
  refine OpsF.y_ (v := .bool _) (fun _ => runs_none _) (fun _ w us hl I => Y.assign rfl) ?_
  refine OpsF.nil ?_
  intro _ w hl I
  try unfold AllL
  refine Ops.go (O.store (v := .agg #[_, _, _, _]) I ty_28 2 rfl rfl rfl rfl rfl rfl (Nat.le_of_ble_eq_true rfl) rfl ?_)
  intro w I
  refine Ops.nil ?_
  refine WP.ret ?_
  repeat (first | refine thenE_ret ?_ | refine blockE_ret ?_)
  exact retQ.mk (vs := [.bool _, .agg #[_, _, _, _]]) rfl ⟨rfl, ⟨_, _, _, _, _, rfl, ty_28, I.rdbox 2 rfl 0 4, rfl, rfl⟩, trivial⟩ I.ext_of (by simp only [tup, tHold, holdsF, hyes]; rfl)
/-! ### Binding -/
def nthF (x : Fct) (k : Nat) : Int := if k = 0 then x.a else x.b
theorem pair_drop {a : Atm} {x : Fct} (h2 : a.args.xs.length ≤ 2) {k : Nat} (hk : k < a.args.xs.length) : (pairF a x).drop k = (a.args.xs[k], nthF x k) :: (pairF a x).drop (k + 1) := by
  have hl : (pairF a x).length = a.args.xs.length := by unfold pairF; rw [List.length_zip]; simp only [List.length_cons, List.length_nil]; omega
  rw [List.drop_eq_getElem_cons (by omega)]
  congr 1
  unfold pairF
  rw [List.getElem_zip]
  have : k = 0 ∨ k = 1 := by omega
  rcases this with rfl | rfl <;> rfl
theorem pair_end {a : Atm} {x : Fct} : (pairF a x).drop a.args.xs.length = [] := by
  apply List.drop_eq_nil_of_le
  unfold pairF; rw [List.length_zip]; omega
theorem set_enc {b : Vrs} {v n : Int} (hv : 0 ≤ v ∧ v < 3) : ([b.x0, b.x1, b.x2].set v.toNat n).map (fun n : Int => Value.int .i64 n) = (b.set v n).enc := by
  have : v = 0 ∨ v = 1 ∨ v = 2 := by omega
  rcases this with rfl | rfl | rfl <;> rfl
def withC : Vrs → List (Trm × Int) → Vrs × Bool
  | b, [] => (b, true)
  | b, (t, n) :: r => if cantF b t n then (b, false) else withC (bindF b t n) r
def wcF (b : Vrs) (a : Atm) (x : Fct) : Vrs × Bool := if a.pred ≠ x.pred then (b, false) else withC b (pairF a x)
theorem withC_L : ∀ (ps : List (Trm × Int)) (b : Vrs), withL b ps = if (withC b ps).2 then some (withC b ps).1 else none
  | [], b => rfl
  | (t, n) :: r, b => by
    rw [withL, withC]
    split
    · rfl
    · exact withC_L r _
theorem withF_wc (b : Vrs) (a : Atm) (x : Fct) : withF b a x = if (wcF b a x).2 then some (wcF b a x).1 else none := by
  unfold withF wcF
  split
  · rfl
  · exact withC_L _ _
def tWith (c : Vrs × Bool) : Value := .tuple #[c.1.val, .bool c.2]
set_option maxHeartbeats 4000000 in
theorem with_ok (B : Base) (hB : B.ok) (b : Vrs) (a : Atm) (ha : a.In B.h) (x : Fct) (h2 : a.args.xs.length ≤ 2) (hv : ∀ t ∈ a.args.xs, t.var = true → 0 ≤ t.n ∧ t.n < 3) : Fn Tryz.prog 98 [b.val, a.val, x.val] B (fun v _ => v = tWith (wcF b a x)) := by
  refine Fn.of Tryz.func98 rfl Tryz.ntmps98 (by kernel_rfl) (by simp) ?_
  intro e
  have I := Inv.start hB
  refine WP.seq ?_
  refine WP.region ?_
  refine Ops.go (O.box (v := .agg #[_, _, _]) I rfl rfl ?_)
  intro b3 w I
  refine Ops.go (O.box (v := .agg #[_, _]) I rfl rfl ?_)
  intro b4 w I
  refine Ops.go (O.box (v := .agg #[_, _, _, _]) I rfl rfl ?_)
  intro b5 w I
  refine Ops.go (O.alloc I Tryz.zeroValue137 rfl ?_)
  intro b6 w I
  refine Ops.y (v := .bool _) (Y.assign rfl) ?_
  refine Ops.nil ?_
  refine WP.seq ?_
  refine WP.seq ?_
  refine WP.region ?_
  refine Ops.y (v := .pointer (some ⟨_, _, none⟩)) (Y.fa0 fa_43_0 rfl) ?_
  refine Ops.y (v := .int .i64 _) (Y.loadv ty_3 rfl (I.rdbox 2 rfl 0 1) rfl rfl) ?_
  refine Ops.y (v := .pointer (some ⟨_, _, none⟩)) (Y.fa0 fa_28_0 rfl) ?_
  refine Ops.y (v := .int .i64 _) (Y.loadv ty_3 rfl (I.rdbox 1 rfl 0 1) rfl rfl) ?_
  refine Ops.y (v := .bool (decide _)) (Y.nei rfl rfl) ?_
  refine Ops.nil ?_
  refine WP.cond_dec rfl (fun h1 => ?_) (fun h1 => ?_)
  · refine WP.seq ?_
    refine WP.region ?_
    refine Ops.y (v := .agg #[_, _, _]) (Y.loadv ty_137 rfl (I.rdbox 3 rfl 0 3) rfl rfl) ?_
    refine Ops.go (O.store (v := .agg #[_, _, _]) I ty_137 0 rfl rfl rfl rfl rfl rfl (Nat.le_of_ble_eq_true rfl) rfl ?_)
    intro w I
    refine Ops.y (v := .bool _) (Y.assign rfl) ?_
    refine Ops.nil ?_
    refine WP.ret ?_
    repeat (first | refine thenE_ret ?_ | refine blockE_ret ?_)
    exact retQ.mk (vs := [.agg #[_, _, _], .bool _]) rfl ⟨⟨_, _, _, _, _, rfl, ty_137, I.rdbox 0 rfl 0 3, rfl, rfl⟩, rfl, trivial⟩ I.ext_of (by simp only [tup, tWith, wcF]; rw [if_pos h1])
  refine WP.skip ?_
  refine WP.seq ?_
  refine WP.seq ?_
  refine WP.region ?_
  refine Ops.y (v := .pointer (some ⟨_, _, none⟩)) (Y.fa fa_43_1 rfl) ?_
  refine Ops.y (v := .slice _ _ _) (Y.loadv ty_41 rfl (I.rdbox 2 rfl 1 1) rfl rfl) ?_
  refine Ops.y (v := .int .i64 _) (Y.lens Tryz.underlying41 rfl) ?_
  refine Ops.y (v := .int .i64 _) (Y.move rfl) ?_
  refine Ops.nil ?_
  refine WP.block ?_
  refine WP.loopE (σ := Nat × Vrs) (fun s => [(3, .pointer (some ⟨b3, 0, none⟩)), (4, .pointer (some ⟨b4, 0, none⟩)), (5, .pointer (some ⟨b5, 0, none⟩)), (6, .pointer (some ⟨b6, 0, none⟩)), (18, a.args.val), (19, .int .i64 a.args.xs.length), (20, .int .i64 s.1)])
    (fun s w => Inv B B.h [box b6 [.int .i64 0, .int .i64 0, .int .i64 0] 137, box b5 x.enc 28, box b4 a.enc 43, box b3 s.2.enc 137] w ∧ s.1 ≤ a.args.xs.length ∧ withC b (pairF a x) = withC s.2 ((pairF a x).drop s.1)) (fun s => a.args.xs.length - s.1)
    ⟨(0, b), ⟨rfl, rfl, rfl, rfl, rfl, rfl, rfl, trivial⟩, I, Nat.zero_le _, rfl⟩ ?_
  rintro ⟨k, c⟩ e w ⟨I, hk, hw⟩
  dsimp only at I hk hw ⊢
  refine WP.seq ?_
  refine WP.region ?_
  refine Ops.y (v := .bool (decide _)) (Y.lti rfl rfl) ?_
  refine Ops.nil ?_
  refine WP.seq ?_
  refine WP.cond_dec rfl (fun h => ?_) (fun h => ?_)
  · have hk' : k < a.args.xs.length := by omega
    have E1 := Sl.Is.at ha hk'
    have hpart : (([.int .i64 x.a, .int .i64 x.b] : List Value).drop ((k : Int).toNat * 1)).take 1 = [.int .i64 (nthF x k)] := by
      have : k = 0 ∨ k = 1 := by omega
      rcases this with rfl | rfl <;> rfl
    have hpd := pair_drop (x := x) h2 hk'
    rw [hpd, withC] at hw
    have htn := hv _ (List.getElem_mem hk')
    refine WP.skip ?_
    refine WP.seq ?_
    refine WP.block ?_
    refine WP.seq ?_
    refine WP.region ?_
    refine Ops.y (v := .int .i64 _) (Y.move rfl) ?_
    refine Ops.y (v := .pointer (some ⟨_, _, none⟩)) (Y.idxEl E1 Tryz.underlying41 Tryz.sizeOf89 rfl rfl (Int.natCast_nonneg _) rfl) ?_
    refine Ops.y (v := .agg #[_, _]) (Y.loadv ty_89 rfl (I.rd (E1.rd.part 0 2)) rfl rfl) ?_
    refine Ops.go (O.alloc I Tryz.zeroValue89 rfl ?_)
    intro b9 w I
    refine Ops.y (v := .int .i64 _) (Y.assign rfl) ?_
    refine Ops.go (O.store (v := .agg #[_, _]) I ty_89 0 rfl rfl rfl rfl rfl rfl (Nat.le_of_ble_eq_true rfl) rfl ?_)
    intro w I
    refine Ops.nil ?_
    refine WP.seq ?_
    refine WP.region ?_
    refine Ops.y (v := .pointer (some ⟨_, _, none⟩)) (Y.fa fa_28_1 rfl) ?_
    refine Ops.y (v := .int .i64 _) (Y.loadv ty_3 rfl (I.rdbox 2 rfl 1 1) rfl rfl) ?_
    refine Ops.y (v := .pointer (some ⟨_, _, none⟩)) (Y.fa fa_28_2 rfl) ?_
    refine Ops.y (v := .int .i64 _) (Y.loadv ty_3 rfl (I.rdbox 2 rfl 2 1) rfl rfl) ?_
    refine Ops.y (v := .agg #[.int .i64 _, .int .i64 _]) (Y.builda Tryz.underlying149 Tryz.zeroValue149 Tryz.sizeOf3 rfl rfl) ?_
    refine Ops.y (v := .int .i64 _) (Y.move rfl) ?_
    refine Ops.y (v := .int .i64 _) (Y.idxvv Tryz.underlying149 ty_3 rfl rfl (Int.natCast_nonneg _) (by omega) (part := [.int .i64 (nthF x k)]) hpart rfl rfl) ?_
    refine Ops.y (v := .int .i64 _) (Y.assign rfl) ?_
    refine Ops.nil ?_
    cases hvar : a.args.xs[k].var
    · by_cases hc : a.args.xs[k].n ≠ nthF x k
      · have hcant : cantF c a.args.xs[k] (nthF x k) := .inl ⟨hvar, hc⟩
        rw [if_pos hcant] at hw
        refine WP.block ?_
        refine WP.seq ?_
        refine WP.seq ?_
        refine WP.region ?_
        refine Ops.y (v := .pointer (some ⟨_, _, none⟩)) (Y.fa0 fa_89_0 rfl) ?_
        refine Ops.y (v := .bool _) (Y.loadv ty_4 rfl (I.rdbox 0 rfl 0 1) rfl rfl) ?_
        refine Ops.y (v := .bool true) (Y.b (Y.not rfl) ((by rw [hvar]; rfl))) ?_
        refine Ops.y (v := .bool _) (Y.move rfl) ?_
        refine Ops.ygt rfl (v := .pointer (some ⟨_, _, none⟩)) (Y.fa fa_89_1 rfl) ?_
        refine Ops.ygt rfl (v := .int .i64 _) (Y.loadv ty_3 rfl (I.rdbox 0 rfl 1 1) rfl rfl) ?_
        refine Ops.ygt rfl (v := .int .i64 _) (Y.move rfl) ?_
        refine Ops.ygt rfl (v := .bool true) (Y.dec_t (Y.nei rfl rfl) (hc)) ?_
        refine Ops.y (v := .bool _) (Y.pick_t rfl rfl) ?_
        refine Ops.y (v := .bool _) (Y.assign rfl) ?_
        refine Ops.nil ?_
        refine WP.cond_t rfl ?_
        refine WP.skip ?_
        refine WP.cond_t rfl ?_
        refine WP.seq ?_
        refine WP.region ?_
        refine Ops.y (v := .agg #[_, _, _]) (Y.loadv ty_137 rfl (I.rdbox 4 rfl 0 3) rfl rfl) ?_
        refine Ops.go (O.store (v := .agg #[_, _, _]) I ty_137 1 rfl rfl rfl rfl rfl rfl (Nat.le_of_ble_eq_true rfl) rfl ?_)
        intro w I
        refine Ops.y (v := .bool _) (Y.assign rfl) ?_
        refine Ops.nil ?_
        refine WP.ret ?_
        repeat (first | refine thenE_ret ?_ | refine blockE_ret ?_)
        exact retQ.mk (vs := [.agg #[_, _, _], .bool _]) rfl ⟨⟨_, _, _, _, _, rfl, ty_137, I.rdbox 1 rfl 0 3, rfl, rfl⟩, rfl, trivial⟩ I.ext_of (by simp only [tup, tWith, wcF]; rw [if_neg h1, hw])
      · have hcant : ¬ cantF c a.args.xs[k] (nthF x k) := by rintro (⟨_, q⟩ | ⟨q, _⟩); exact hc q; rw [hvar] at q; cases q
        rw [if_neg hcant] at hw
        have hbn : bindF c a.args.xs[k] (nthF x k) = c := by unfold bindF; rw [hvar]; rfl
        rw [hbn] at hw
        refine WP.block ?_
        refine WP.seq ?_
        refine WP.seq ?_
        refine WP.region ?_
        refine Ops.y (v := .pointer (some ⟨_, _, none⟩)) (Y.fa0 fa_89_0 rfl) ?_
        refine Ops.y (v := .bool _) (Y.loadv ty_4 rfl (I.rdbox 0 rfl 0 1) rfl rfl) ?_
        refine Ops.y (v := .bool true) (Y.b (Y.not rfl) ((by rw [hvar]; rfl))) ?_
        refine Ops.y (v := .bool _) (Y.move rfl) ?_
        refine Ops.ygt rfl (v := .pointer (some ⟨_, _, none⟩)) (Y.fa fa_89_1 rfl) ?_
        refine Ops.ygt rfl (v := .int .i64 _) (Y.loadv ty_3 rfl (I.rdbox 0 rfl 1 1) rfl rfl) ?_
        refine Ops.ygt rfl (v := .int .i64 _) (Y.move rfl) ?_
        refine Ops.ygt rfl (v := .bool false) (Y.dec_f (Y.nei rfl rfl) (hc)) ?_
        refine Ops.y (v := .bool _) (Y.pick_t rfl rfl) ?_
        refine Ops.y (v := .bool _) (Y.assign rfl) ?_
        refine Ops.nil ?_
        refine WP.cond_f rfl ?_
        refine WP.region ?_
        refine Ops.y (v := .pointer (some ⟨_, _, none⟩)) (Y.fa0 fa_89_0 rfl) ?_
        refine Ops.y (v := .bool _) (Y.loadv ty_4 rfl (I.rdbox 0 rfl 0 1) rfl rfl) ?_
        refine Ops.y (v := .bool false) (Y.b (Y.move rfl) (hvar)) ?_
        refine Ops.gf rfl ?_
        refine Ops.gf rfl ?_
        refine Ops.gf rfl ?_
        refine Ops.gf rfl ?_
        refine Ops.gf rfl ?_
        refine Ops.y (v := .bool _) (Y.pick_f rfl rfl) ?_
        refine Ops.y (v := .bool _) (Y.move rfl) ?_
        refine Ops.gf rfl ?_
        refine Ops.gf rfl ?_
        refine Ops.gf rfl ?_
        refine Ops.gf rfl ?_
        refine Ops.gf rfl ?_
        refine Ops.gf rfl ?_
        refine Ops.y (v := .bool _) (Y.pick_f rfl rfl) ?_
        refine Ops.y (v := .bool _) (Y.assign rfl) ?_
        refine Ops.nil ?_
        refine WP.cond_f rfl ?_
        refine WP.seq ?_
        refine WP.region ?_
        refine Ops.y (v := .pointer (some ⟨_, _, none⟩)) (Y.fa0 fa_89_0 rfl) ?_
        refine Ops.y (v := .bool false) (Y.b (Y.loadv ty_4 rfl (I.rdbox 0 rfl 0 1) rfl rfl) (hvar)) ?_
        refine Ops.y (v := .bool _) (Y.assign rfl) ?_
        refine Ops.nil ?_
        refine WP.cond_f rfl ?_
        refine WP.skip ?_
        refine WP.region ?_
        refine Ops.y (v := .int .i64 _) (Y.addi rfl rfl ⟨by omega, by omega⟩) ?_
        refine Ops.y (v := .int .i64 _) (Y.move rfl) ?_
        refine Ops.nil ?_
        exact ⟨(k + 1, c), ⟨⟨rfl, rfl, rfl, rfl, rfl, rfl, rfl, trivial⟩, I.drop, by dsimp only; omega, hw⟩, by dsimp only; omega⟩
    · have ht := htn hvar
      by_cases hc0 : 0 ≤ c.at a.args.xs[k].n
      · by_cases hc1 : c.at a.args.xs[k].n ≠ nthF x k
        · have hcant : cantF c a.args.xs[k] (nthF x k) := .inr ⟨hvar, hc0, hc1⟩
          rw [if_pos hcant] at hw
          refine WP.block ?_
          refine WP.seq ?_
          refine WP.seq ?_
          refine WP.region ?_
          refine Ops.y (v := .pointer (some ⟨_, _, none⟩)) (Y.fa0 fa_89_0 rfl) ?_
          refine Ops.y (v := .bool _) (Y.loadv ty_4 rfl (I.rdbox 0 rfl 0 1) rfl rfl) ?_
          refine Ops.y (v := .bool false) (Y.b (Y.not rfl) ((by rw [hvar]; rfl))) ?_
          refine Ops.y (v := .bool _) (Y.move rfl) ?_
          refine Ops.gf rfl ?_
          refine Ops.gf rfl ?_
          refine Ops.gf rfl ?_
          refine Ops.gf rfl ?_
          refine Ops.y (v := .bool _) (Y.pick_f rfl rfl) ?_
          refine Ops.y (v := .bool _) (Y.assign rfl) ?_
          refine Ops.nil ?_
          refine WP.cond_f rfl ?_
          refine WP.region ?_
          refine Ops.y (v := .pointer (some ⟨_, _, none⟩)) (Y.fa0 fa_89_0 rfl) ?_
          refine Ops.y (v := .bool _) (Y.loadv ty_4 rfl (I.rdbox 0 rfl 0 1) rfl rfl) ?_
          refine Ops.y (v := .bool true) (Y.b (Y.move rfl) (hvar)) ?_
          refine Ops.ygt rfl (v := .pointer (some ⟨_, _, none⟩)) (Y.fa fa_89_1 rfl) ?_
          refine Ops.ygt rfl (v := .int .i64 _) (Y.loadv ty_3 rfl (I.rdbox 0 rfl 1 1) rfl rfl) ?_
          refine Ops.ygt rfl (v := .pointer (some ⟨_, _, none⟩)) (Y.idxa Tryz.underlying137 Tryz.sizeOf3 rfl rfl ht.1 ht.2) ?_
          refine Ops.ygt rfl (v := .int .i64 _) (Y.loadv ty_3 rfl (Rd.vrs (I.rdbox 4 rfl 0 3) ht.1 ht.2) rfl rfl) ?_
          refine Ops.ygt rfl (v := .bool true) (Y.dec_t (Y.gei rfl rfl) (hc0)) ?_
          refine Ops.y (v := .bool _) (Y.pick_t rfl rfl) ?_
          refine Ops.y (v := .bool _) (Y.move rfl) ?_
          refine Ops.ygt rfl (v := .pointer (some ⟨_, _, none⟩)) (Y.fa fa_89_1 rfl) ?_
          refine Ops.ygt rfl (v := .int .i64 _) (Y.loadv ty_3 rfl (I.rdbox 0 rfl 1 1) rfl rfl) ?_
          refine Ops.ygt rfl (v := .pointer (some ⟨_, _, none⟩)) (Y.idxa Tryz.underlying137 Tryz.sizeOf3 rfl rfl ht.1 ht.2) ?_
          refine Ops.ygt rfl (v := .int .i64 _) (Y.loadv ty_3 rfl (Rd.vrs (I.rdbox 4 rfl 0 3) ht.1 ht.2) rfl rfl) ?_
          refine Ops.ygt rfl (v := .int .i64 _) (Y.move rfl) ?_
          refine Ops.ygt rfl (v := .bool true) (Y.dec_t (Y.nei rfl rfl) (hc1)) ?_
          refine Ops.y (v := .bool _) (Y.pick_t rfl rfl) ?_
          refine Ops.y (v := .bool _) (Y.assign rfl) ?_
          refine Ops.nil ?_
          refine WP.cond_t rfl ?_
          refine WP.seq ?_
          refine WP.region ?_
          refine Ops.y (v := .agg #[_, _, _]) (Y.loadv ty_137 rfl (I.rdbox 4 rfl 0 3) rfl rfl) ?_
          refine Ops.go (O.store (v := .agg #[_, _, _]) I ty_137 1 rfl rfl rfl rfl rfl rfl (Nat.le_of_ble_eq_true rfl) rfl ?_)
          intro w I
          refine Ops.y (v := .bool _) (Y.assign rfl) ?_
          refine Ops.nil ?_
          refine WP.ret ?_
          repeat (first | refine thenE_ret ?_ | refine blockE_ret ?_)
          exact retQ.mk (vs := [.agg #[_, _, _], .bool _]) rfl ⟨⟨_, _, _, _, _, rfl, ty_137, I.rdbox 1 rfl 0 3, rfl, rfl⟩, rfl, trivial⟩ I.ext_of (by simp only [tup, tWith, wcF]; rw [if_neg h1, hw])
        · have hcant : ¬ cantF c a.args.xs[k] (nthF x k) := by rintro (⟨q, _⟩ | ⟨_, _, q⟩); rw [hvar] at q; cases q; exact hc1 q
          rw [if_neg hcant] at hw
          have hbn : bindF c a.args.xs[k] (nthF x k) = c.set a.args.xs[k].n (nthF x k) := by unfold bindF; rw [hvar]; rfl
          rw [hbn] at hw
          refine WP.block ?_
          refine WP.seq ?_
          refine WP.seq ?_
          refine WP.region ?_
          refine Ops.y (v := .pointer (some ⟨_, _, none⟩)) (Y.fa0 fa_89_0 rfl) ?_
          refine Ops.y (v := .bool _) (Y.loadv ty_4 rfl (I.rdbox 0 rfl 0 1) rfl rfl) ?_
          refine Ops.y (v := .bool false) (Y.b (Y.not rfl) ((by rw [hvar]; rfl))) ?_
          refine Ops.y (v := .bool _) (Y.move rfl) ?_
          refine Ops.gf rfl ?_
          refine Ops.gf rfl ?_
          refine Ops.gf rfl ?_
          refine Ops.gf rfl ?_
          refine Ops.y (v := .bool _) (Y.pick_f rfl rfl) ?_
          refine Ops.y (v := .bool _) (Y.assign rfl) ?_
          refine Ops.nil ?_
          refine WP.cond_f rfl ?_
          refine WP.region ?_
          refine Ops.y (v := .pointer (some ⟨_, _, none⟩)) (Y.fa0 fa_89_0 rfl) ?_
          refine Ops.y (v := .bool _) (Y.loadv ty_4 rfl (I.rdbox 0 rfl 0 1) rfl rfl) ?_
          refine Ops.y (v := .bool true) (Y.b (Y.move rfl) (hvar)) ?_
          refine Ops.ygt rfl (v := .pointer (some ⟨_, _, none⟩)) (Y.fa fa_89_1 rfl) ?_
          refine Ops.ygt rfl (v := .int .i64 _) (Y.loadv ty_3 rfl (I.rdbox 0 rfl 1 1) rfl rfl) ?_
          refine Ops.ygt rfl (v := .pointer (some ⟨_, _, none⟩)) (Y.idxa Tryz.underlying137 Tryz.sizeOf3 rfl rfl ht.1 ht.2) ?_
          refine Ops.ygt rfl (v := .int .i64 _) (Y.loadv ty_3 rfl (Rd.vrs (I.rdbox 4 rfl 0 3) ht.1 ht.2) rfl rfl) ?_
          refine Ops.ygt rfl (v := .bool true) (Y.dec_t (Y.gei rfl rfl) (hc0)) ?_
          refine Ops.y (v := .bool _) (Y.pick_t rfl rfl) ?_
          refine Ops.y (v := .bool _) (Y.move rfl) ?_
          refine Ops.ygt rfl (v := .pointer (some ⟨_, _, none⟩)) (Y.fa fa_89_1 rfl) ?_
          refine Ops.ygt rfl (v := .int .i64 _) (Y.loadv ty_3 rfl (I.rdbox 0 rfl 1 1) rfl rfl) ?_
          refine Ops.ygt rfl (v := .pointer (some ⟨_, _, none⟩)) (Y.idxa Tryz.underlying137 Tryz.sizeOf3 rfl rfl ht.1 ht.2) ?_
          refine Ops.ygt rfl (v := .int .i64 _) (Y.loadv ty_3 rfl (Rd.vrs (I.rdbox 4 rfl 0 3) ht.1 ht.2) rfl rfl) ?_
          refine Ops.ygt rfl (v := .int .i64 _) (Y.move rfl) ?_
          refine Ops.ygt rfl (v := .bool false) (Y.dec_f (Y.nei rfl rfl) (hc1)) ?_
          refine Ops.y (v := .bool _) (Y.pick_t rfl rfl) ?_
          refine Ops.y (v := .bool _) (Y.assign rfl) ?_
          refine Ops.nil ?_
          refine WP.cond_f rfl ?_
          refine WP.seq ?_
          refine WP.region ?_
          refine Ops.y (v := .pointer (some ⟨_, _, none⟩)) (Y.fa0 fa_89_0 rfl) ?_
          refine Ops.y (v := .bool true) (Y.b (Y.loadv ty_4 rfl (I.rdbox 0 rfl 0 1) rfl rfl) (hvar)) ?_
          refine Ops.y (v := .bool _) (Y.assign rfl) ?_
          refine Ops.nil ?_
          refine WP.cond_t rfl ?_
          refine WP.region ?_
          refine Ops.y (v := .pointer (some ⟨_, _, none⟩)) (Y.fa fa_89_1 rfl) ?_
          refine Ops.y (v := .int .i64 _) (Y.loadv ty_3 rfl (I.rdbox 0 rfl 1 1) rfl rfl) ?_
          refine Ops.y (v := .int .i64 _) (Y.move rfl) ?_
          refine Ops.y (v := .pointer (some ⟨_, _, none⟩)) (Y.idxa Tryz.underlying137 Tryz.sizeOf3 rfl rfl ht.1 ht.2) ?_
          refine Ops.go (O.store1 I ty_3 4 rfl rfl (f := fun n : Int => Value.int .i64 n) (L := [c.x0, c.x1, c.x2]) (i := a.args.xs[k].n.toNat) (by omega) (by simp only [List.length_cons, List.length_nil]; omega) rfl rfl rfl ?_)
          intro w I
          refine Ops.nil ?_
          refine WP.region ?_
          refine Ops.y (v := .int .i64 _) (Y.addi rfl rfl ⟨by omega, by omega⟩) ?_
          refine Ops.y (v := .int .i64 _) (Y.move rfl) ?_
          refine Ops.nil ?_
          rw [set_enc ht] at I
          exact ⟨(k + 1, c.set a.args.xs[k].n (nthF x k)), ⟨⟨rfl, rfl, rfl, rfl, rfl, rfl, rfl, trivial⟩, I.drop, by dsimp only; omega, hw⟩, by dsimp only; omega⟩
      · have hcant : ¬ cantF c a.args.xs[k] (nthF x k) := by rintro (⟨q, _⟩ | ⟨_, q, _⟩); rw [hvar] at q; cases q; exact hc0 q
        rw [if_neg hcant] at hw
        have hbn : bindF c a.args.xs[k] (nthF x k) = c.set a.args.xs[k].n (nthF x k) := by unfold bindF; rw [hvar]; rfl
        rw [hbn] at hw
        refine WP.block ?_
        refine WP.seq ?_
        refine WP.seq ?_
        refine WP.region ?_
        refine Ops.y (v := .pointer (some ⟨_, _, none⟩)) (Y.fa0 fa_89_0 rfl) ?_
        refine Ops.y (v := .bool _) (Y.loadv ty_4 rfl (I.rdbox 0 rfl 0 1) rfl rfl) ?_
        refine Ops.y (v := .bool false) (Y.b (Y.not rfl) ((by rw [hvar]; rfl))) ?_
        refine Ops.y (v := .bool _) (Y.move rfl) ?_
        refine Ops.gf rfl ?_
        refine Ops.gf rfl ?_
        refine Ops.gf rfl ?_
        refine Ops.gf rfl ?_
        refine Ops.y (v := .bool _) (Y.pick_f rfl rfl) ?_
        refine Ops.y (v := .bool _) (Y.assign rfl) ?_
        refine Ops.nil ?_
        refine WP.cond_f rfl ?_
        refine WP.region ?_
        refine Ops.y (v := .pointer (some ⟨_, _, none⟩)) (Y.fa0 fa_89_0 rfl) ?_
        refine Ops.y (v := .bool _) (Y.loadv ty_4 rfl (I.rdbox 0 rfl 0 1) rfl rfl) ?_
        refine Ops.y (v := .bool true) (Y.b (Y.move rfl) (hvar)) ?_
        refine Ops.ygt rfl (v := .pointer (some ⟨_, _, none⟩)) (Y.fa fa_89_1 rfl) ?_
        refine Ops.ygt rfl (v := .int .i64 _) (Y.loadv ty_3 rfl (I.rdbox 0 rfl 1 1) rfl rfl) ?_
        refine Ops.ygt rfl (v := .pointer (some ⟨_, _, none⟩)) (Y.idxa Tryz.underlying137 Tryz.sizeOf3 rfl rfl ht.1 ht.2) ?_
        refine Ops.ygt rfl (v := .int .i64 _) (Y.loadv ty_3 rfl (Rd.vrs (I.rdbox 4 rfl 0 3) ht.1 ht.2) rfl rfl) ?_
        refine Ops.ygt rfl (v := .bool false) (Y.dec_f (Y.gei rfl rfl) (hc0)) ?_
        refine Ops.y (v := .bool _) (Y.pick_t rfl rfl) ?_
        refine Ops.y (v := .bool _) (Y.move rfl) ?_
        refine Ops.gf rfl ?_
        refine Ops.gf rfl ?_
        refine Ops.gf rfl ?_
        refine Ops.gf rfl ?_
        refine Ops.gf rfl ?_
        refine Ops.gf rfl ?_
        refine Ops.y (v := .bool _) (Y.pick_f rfl rfl) ?_
        refine Ops.y (v := .bool _) (Y.assign rfl) ?_
        refine Ops.nil ?_
        refine WP.cond_f rfl ?_
        refine WP.seq ?_
        refine WP.region ?_
        refine Ops.y (v := .pointer (some ⟨_, _, none⟩)) (Y.fa0 fa_89_0 rfl) ?_
        refine Ops.y (v := .bool true) (Y.b (Y.loadv ty_4 rfl (I.rdbox 0 rfl 0 1) rfl rfl) (hvar)) ?_
        refine Ops.y (v := .bool _) (Y.assign rfl) ?_
        refine Ops.nil ?_
        refine WP.cond_t rfl ?_
        refine WP.region ?_
        refine Ops.y (v := .pointer (some ⟨_, _, none⟩)) (Y.fa fa_89_1 rfl) ?_
        refine Ops.y (v := .int .i64 _) (Y.loadv ty_3 rfl (I.rdbox 0 rfl 1 1) rfl rfl) ?_
        refine Ops.y (v := .int .i64 _) (Y.move rfl) ?_
        refine Ops.y (v := .pointer (some ⟨_, _, none⟩)) (Y.idxa Tryz.underlying137 Tryz.sizeOf3 rfl rfl ht.1 ht.2) ?_
        refine Ops.go (O.store1 I ty_3 4 rfl rfl (f := fun n : Int => Value.int .i64 n) (L := [c.x0, c.x1, c.x2]) (i := a.args.xs[k].n.toNat) (by omega) (by simp only [List.length_cons, List.length_nil]; omega) rfl rfl rfl ?_)
        intro w I
        refine Ops.nil ?_
        refine WP.region ?_
        refine Ops.y (v := .int .i64 _) (Y.addi rfl rfl ⟨by omega, by omega⟩) ?_
        refine Ops.y (v := .int .i64 _) (Y.move rfl) ?_
        refine Ops.nil ?_
        rw [set_enc ht] at I
        exact ⟨(k + 1, c.set a.args.xs[k].n (nthF x k)), ⟨⟨rfl, rfl, rfl, rfl, rfl, rfl, rfl, trivial⟩, I.drop, by dsimp only; omega, hw⟩, by dsimp only; omega⟩
  obtain rfl : k = a.args.xs.length := by omega
  rw [pair_end, withC] at hw
  refine WP.exit ?_
  refine WP.seq ?_
  refine WP.region ?_
  refine Ops.y (v := .agg #[_, _, _]) (Y.loadv ty_137 rfl (I.rdbox 3 rfl 0 3) rfl rfl) ?_
  refine Ops.go (O.store (v := .agg #[_, _, _]) I ty_137 0 rfl rfl rfl rfl rfl rfl (Nat.le_of_ble_eq_true rfl) rfl ?_)
  intro w I
  refine Ops.y (v := .bool _) (Y.assign rfl) ?_
  refine Ops.nil ?_
  refine WP.ret ?_
  repeat (first | refine thenE_ret ?_ | refine blockE_ret ?_)
  exact retQ.mk (vs := [.agg #[_, _, _], .bool _]) rfl ⟨⟨_, _, _, _, _, rfl, ty_137, I.rdbox 0 rfl 0 3, rfl, rfl⟩, rfl, trivial⟩ I.ext_of (by simp only [tup, tWith, wcF]; rw [if_neg h1, hw])
end Go.TF
end
section
/- Facts laid to literals: the walk. -/
namespace Go.TF
open Go Go.RowKit Go.Proofs
set_option maxRecDepth 20000

theorem FOf_at (B : Base) (hB : B.ok) (p : Prg) (hp : p.In B.h) (f : Sl Fct) (hf : Fcts f B.h) (n : Int) (r : Rul) (h0 : 0 ≤ n) (hr : p.rules.xs[n.toNat]? = some r) (ok : ROk p.preds.xs r) (okf : FOk p.preds.xs f.xs) (x : Vrs) (hx : VsOk x) (y : Bool × Fct) (hy : holdsF p.preds.xs f.xs r x = y) :
    Fn Tryz.prog 78 [p.val, f.val, .int .i64 n, x.val] B (fun v _ => v = tHold y) := hy ▸ FOf_ok B hB p hp f hf n r h0 hr ok okf x hx
/-- What is laid, kept where it holds. -/
def outL (f : List Fct) (n : Int) (r : Rul) (bs : List Vrs) : List Stp := ((bs.map mx0).filter (holdsB f r)).map (Stp.mk n)
theorem outL_nil (f : List Fct) (n : Int) (r : Rul) : outL f n r [] = [] := rfl
theorem outL_app (f : List Fct) (n : Int) (r : Rul) (a b : List Vrs) : outL f n r (a ++ b) = outL f n r a ++ outL f n r b := by simp [outL]
theorem outL_le (f : List Fct) (n : Int) (r : Rul) (a : List Vrs) : (outL f n r a).length ≤ a.length := by
  unfold outL; rw [List.length_map]; exact Nat.le_trans (List.length_filter_le ..) (by simp)
theorem outL_one (f : List Fct) (n : Int) (r : Rul) (b : Vrs) : outL f n r [b] = if holdsB f r (mx0 b) then [⟨n, mx0 b⟩] else [] := by
  unfold outL; cases h : holdsB f r (mx0 b) <;> simp [h]
def layN (f : List Fct) (a : Atm) (l : List Atm) (b : Vrs) (x : Fct) : List Vrs := if (wcF b a x).2 then layF f l (wcF b a x).1 else []
theorem layF_cons (f : List Fct) (a : Atm) (l : List Atm) (b : Vrs) : layF f (a :: l) b = f.flatMap (layN f a l b) := by
  rw [layF]
  congr 1
  funext x
  rw [withF_wc]
  unfold layN
  cases (wcF b a x).2 <;> rfl
theorem layF_len (f : List Fct) : ∀ (l : List Atm) (b : Vrs), (layF f l b).length ≤ f.length ^ l.length
  | [], b => by simp [layF]
  | a :: l, b => by
    rw [layF_cons, List.length_flatMap, List.length_cons, Nat.pow_succ, Nat.mul_comm]
    have : ∀ g : List Fct, (g.map fun x => (layN f a l b x).length).sum ≤ g.length * f.length ^ l.length := by
      intro g
      induction g with
      | nil => simp
      | cons y g ih =>
        have h1 : (layN f a l b y).length ≤ f.length ^ l.length := by
          unfold layN; split
          · exact layF_len f l _
          · simp
        rw [List.map_cons, List.sum_cons, List.length_cons, Nat.add_mul]; omega
    exact this f
theorem flat_take_succ {α β : Type} (g : α → List β) {l : List α} {k : Nat} (hk : k < l.length) : (l.take (k + 1)).flatMap g = (l.take k).flatMap g ++ g l[k] := by
  rw [List.take_succ_eq_append_getElem hk, List.flatMap_append]; simp
theorem flat_take_le {α β : Type} (g : α → List β) (l : List α) (k : Nat) : ((l.take k).flatMap g).length ≤ (l.flatMap g).length := by
  conv => rhs; rw [← List.take_append_drop k l, List.flatMap_append, List.length_append]
  omega
theorem BOk.vs {l : List Atm} {b : Vrs} (h : BOk l b) : VsOk (mx0 b) := by
  have h0 := h 0 (by omega); have h1 := h 1 (by omega); have h2 := h 2 (by omega)
  have e0 : b.at 0 = b.x0 := rfl
  have e1 : b.at 1 = b.x1 := rfl
  have e2 : b.at 2 = b.x2 := rfl
  rw [e0] at h0; rw [e1] at h1; rw [e2] at h2
  refine ⟨?_, ?_, ?_⟩ <;> simp only [mx0]
  · rcases h0 with h | ⟨q1, q2, _⟩ <;> omega
  · rcases h1 with h | ⟨q1, q2, _⟩ <;> omega
  · rcases h2 with h | ⟨q1, q2, _⟩ <;> omega
theorem wc_bok {l : List Atm} {a : Atm} {b : Vrs} {x : Fct} (ha : a ∈ l) (hv : ∀ t ∈ a.args.xs, t.var = true → 0 ≤ t.n ∧ t.n < 3) (hx : PF x) (hb : BOk l b) (h : (wcF b a x).2 = true) : BOk l (wcF b a x).1 := by
  have hw := withF_wc b a x
  rw [h, if_pos rfl] at hw
  unfold withF at hw
  split at hw
  · cases hw
  · exact withL_bok ha hv (pair_mem hx) hb hw
structure AtS (l : Sl Atm) (h : Heap) : Prop where
  is : l.Is 2 Atm.enc h
  cap : l.xs.length ≤ l.cap
  each : ∀ a ∈ l.xs, a.In h
theorem AtS.le {l : Sl Atm} {h h' : Heap} (x : AtS l h) (hl : h.le h') : AtS l h' := ⟨x.is.le hl, x.cap, fun a ha => (x.each a ha).le hl⟩
@[reducible] def LayM (bo : Nat) (a : Option Addr) (c : Nat) (m : Nat) (acc : List Stp) : List SA := [box bo [.slice a m c] 74, ownSl 80 4 (.slice a m c) m (acc.flatMap Stp.enc)]
/-- What the closure keeps. -/
structure LayE (h : Heap) (p : Prg) (f : Sl Fct) (n : Int) (r : Rul) (bn bp bf bo bl : Nat) : Prop where
  kn : Known h bn [.int .i64 n]
  kp : Known h bp p.enc
  kf : Known h bf [f.val]
  kl : Known h bl [.func (.func 97) #[] #[.pointer (some ⟨bn, 0, none⟩), .pointer (some ⟨bp, 0, none⟩), .pointer (some ⟨bf, 0, none⟩), .pointer (some ⟨bo, 0, none⟩), .pointer (some ⟨bl, 0, none⟩)]]
  p : p.In h
  f : Fcts f h
theorem LayE.le {h h' : Heap} {p : Prg} {f : Sl Fct} {n : Int} {r : Rul} {bn bp bf bo bl : Nat} (x : LayE h p f n r bn bp bf bo bl) (hl : h.le h') : LayE h' p f n r bn bp bf bo bl := ⟨x.kn.le hl, x.kp.le hl, x.kf.le hl, x.kl.le hl, x.p.le hl, x.f.le hl⟩
theorem snocS (acc : List Stp) (y : Stp) : (acc ++ [y]).flatMap Stp.enc = acc.flatMap Stp.enc ++ y.enc := by simp
set_option maxHeartbeats 8000000 in
theorem lay_ok (p : Prg) (f : Sl Fct) (n : Int) (r : Rul) (bn bp bf bo bl : Nat) (h0 : 0 ≤ n) (hr : p.rules.xs[n.toNat]? = some r) (ok : ROk p.preds.xs r) (okf : FOk p.preds.xs f.xs) : ∀ (ls : List Atm) {B : Base} {h : Heap} {w : World} (l : Sl Atm) (b : Vrs) (a : Option Addr) (c m : Nat) (acc : List Stp), l.xs = ls → Inv B h (LayM bo a c m acc) w → m = acc.length → LayE h p f n r bn bp bf bo bl → AtS l h →
      (∀ x ∈ ls, x ∈ poss r.body.xs) → BOk (poss r.body.xs) b → m + (layF f.xs ls b).length ≤ 1000000000 →
      Calls Tryz.prog 97 [b.val, l.val, .pointer (some ⟨bn, 0, none⟩), .pointer (some ⟨bp, 0, none⟩), .pointer (some ⟨bf, 0, none⟩), .pointer (some ⟨bo, 0, none⟩), .pointer (some ⟨bl, 0, none⟩)].toArray w
        (fun ed w' => ed = .returned (.tuple #[]) ∧ ∃ h' a' c' m', h.le h' ∧ Inv B h' (LayM bo a' c' m' (acc ++ outL f.xs n r (layF f.xs ls b))) w' ∧ m' = (acc ++ outL f.xs n r (layF f.xs ls b)).length)
  | [], B, h, w, l, b, a, c, m, acc, hls0, I, hm, E, hA, hin, hb, hsz => by
    have hvs := hb.vs
    refine Calls.ofWP (args := [b.val, l.val, .pointer (some ⟨bn, 0, none⟩), .pointer (some ⟨bp, 0, none⟩), .pointer (some ⟨bf, 0, none⟩), .pointer (some ⟨bo, 0, none⟩), .pointer (some ⟨bl, 0, none⟩)]) Tryz.func97 rfl Tryz.ntmps97 (by kernel_rfl) (by simp) ?_
    intro e
    refine WP.seq ?_
    refine WP.region ?_
    refine Ops.go (O.box (v := .agg #[_, _, _]) I rfl rfl ?_)
    intro b7 w I
    refine Ops.nil ?_
    refine WP.seq ?_
    refine WP.seq ?_
    refine WP.region ?_
    refine Ops.y (v := .slice _ _ _) (Y.move rfl) ?_
    refine Ops.y (v := .int .i64 _) (Y.lens Tryz.underlying130 rfl) ?_
    refine Ops.y (v := .bool true) (Y.dec_t (Y.eqi rfl rfl) ((by rw [hls0]; rfl))) ?_
    refine Ops.nil ?_
    refine WP.cond_t rfl ?_
    refine WP.seq ?_
    refine WP.region ?_
    refine Ops.y (v := .int .i64 _) (Y.loadv ty_3 rfl (I.rd (E.kn.rd.part 0 1)) rfl rfl) ?_
    refine Ops.y (v := .agg #[.int .i64 _, .int .i64 _, .int .i64 _, .int .i64 _]) (Y.build pl_80 Tryz.zeroValue80 rfl rfl) ?_
    refine Ops.go (O.alloc I Tryz.zeroValue80 rfl ?_)
    intro b9 w I
    refine Ops.go (O.store (v := .agg #[_, _, _, _]) I ty_80 0 rfl rfl rfl rfl rfl rfl (Nat.le_of_ble_eq_true rfl) rfl ?_)
    intro w I
    refine Ops.nil ?_
    refine WP.seq ?_
    refine WP.seq ?_
    refine WP.region ?_
    refine Ops.y (v := .int .i64 _) (Y.move rfl) ?_
    refine Ops.nil ?_
    refine WP.cutK (σ := Unit) (fun _ => [(2, .pointer (some ⟨bn, 0, none⟩)), (3, .pointer (some ⟨bp, 0, none⟩)), (4, .pointer (some ⟨bf, 0, none⟩)), (5, .pointer (some ⟨bo, 0, none⟩)), (9, .pointer (some ⟨b9, 0, none⟩))]) (fun _ w => Inv B h (box b9 (Stp.mk n (mx0 b)).enc 80 :: LayM bo a c m acc) w) ?_ ?_
    · refine WP.block ?_
      refine WP.loopE (σ := Nat) (fun k => [(2, .pointer (some ⟨bn, 0, none⟩)), (3, .pointer (some ⟨bp, 0, none⟩)), (4, .pointer (some ⟨bf, 0, none⟩)), (5, .pointer (some ⟨bo, 0, none⟩)), (7, .pointer (some ⟨b7, 0, none⟩)), (9, .pointer (some ⟨b9, 0, none⟩)), (22, .int .i64 k)]) (fun k w => Inv B h (box b9 [.int .i64 n, .int .i64 (if 0 < k then max 0 b.x0 else 0), .int .i64 (if 1 < k then max 0 b.x1 else 0), .int .i64 (if 2 < k then max 0 b.x2 else 0)] 80 :: box b7 b.enc 137 :: LayM bo a c m acc) w ∧ k ≤ 3) (fun k => 3 - k)
        ⟨0, ⟨rfl, rfl, rfl, rfl, rfl, rfl, rfl, trivial⟩, I, Nat.zero_le _⟩ ?_
      rintro k e w ⟨I, hk⟩
      refine WP.seq ?_
      refine WP.region ?_
      refine Ops.y (v := .bool (decide _)) (Y.lti rfl rfl) ?_
      refine Ops.nil ?_
      refine WP.seq ?_
      refine WP.cond_dec rfl (fun h4 => ?_) (fun h4 => ?_)
      · have hk3 : k = 0 ∨ k = 1 ∨ k = 2 := by omega
        rcases hk3 with rfl | rfl | rfl
        · refine WP.skip ?_
          refine WP.seq ?_
          refine WP.block ?_
          refine WP.seq ?_
          refine WP.region ?_
          refine Ops.y (v := .int .i64 _) (Y.move rfl) ?_
          refine Ops.y (v := .int .i64 _) (Y.assign rfl) ?_
          refine Ops.nil ?_
          refine WP.region ?_
          refine Ops.y (v := .int .i64 _) (Y.move rfl) ?_
          refine Ops.y (v := .int .i64 _) (Y.move rfl) ?_
          refine Ops.y (v := .pointer (some ⟨_, _, none⟩)) (Y.idxa Tryz.underlying137 Tryz.sizeOf3 rfl rfl (by omega) (by omega)) ?_
          refine Ops.y (v := .int .i64 _) (Y.loadv ty_3 rfl (I.rdbox 1 rfl 0 1) rfl rfl) ?_
          refine Ops.y (v := .int .i64 _) (Y.max2 rfl rfl) ?_
          refine Ops.y (v := .pointer (some ⟨_, _, none⟩)) (Y.fa fa_80_1 rfl) ?_
          refine Ops.y (v := .pointer (some ⟨_, _, none⟩)) (Y.idxa Tryz.underlying78 Tryz.sizeOf3 rfl rfl (by omega) (by omega)) ?_
          refine Ops.go (O.store (v := .int .i64 _) I ty_3 0 rfl rfl rfl rfl rfl rfl (Nat.le_of_ble_eq_true rfl) rfl ?_)
          intro w I
          refine Ops.nil ?_
          refine WP.region ?_
          refine Ops.y (v := .int .i64 _) (Y.addi rfl rfl ⟨by omega, by omega⟩) ?_
          refine Ops.y (v := .int .i64 _) (Y.move rfl) ?_
          refine Ops.nil ?_
          exact ⟨1, ⟨⟨rfl, rfl, rfl, rfl, rfl, rfl, rfl, trivial⟩, I, by omega⟩, by omega⟩
        · refine WP.skip ?_
          refine WP.seq ?_
          refine WP.block ?_
          refine WP.seq ?_
          refine WP.region ?_
          refine Ops.y (v := .int .i64 _) (Y.move rfl) ?_
          refine Ops.y (v := .int .i64 _) (Y.assign rfl) ?_
          refine Ops.nil ?_
          refine WP.region ?_
          refine Ops.y (v := .int .i64 _) (Y.move rfl) ?_
          refine Ops.y (v := .int .i64 _) (Y.move rfl) ?_
          refine Ops.y (v := .pointer (some ⟨_, _, none⟩)) (Y.idxa Tryz.underlying137 Tryz.sizeOf3 rfl rfl (by omega) (by omega)) ?_
          refine Ops.y (v := .int .i64 _) (Y.loadv ty_3 rfl (I.rdbox 1 rfl 1 1) rfl rfl) ?_
          refine Ops.y (v := .int .i64 _) (Y.max2 rfl rfl) ?_
          refine Ops.y (v := .pointer (some ⟨_, _, none⟩)) (Y.fa fa_80_1 rfl) ?_
          refine Ops.y (v := .pointer (some ⟨_, _, none⟩)) (Y.idxa Tryz.underlying78 Tryz.sizeOf3 rfl rfl (by omega) (by omega)) ?_
          refine Ops.go (O.store (v := .int .i64 _) I ty_3 0 rfl rfl rfl rfl rfl rfl (Nat.le_of_ble_eq_true rfl) rfl ?_)
          intro w I
          refine Ops.nil ?_
          refine WP.region ?_
          refine Ops.y (v := .int .i64 _) (Y.addi rfl rfl ⟨by omega, by omega⟩) ?_
          refine Ops.y (v := .int .i64 _) (Y.move rfl) ?_
          refine Ops.nil ?_
          exact ⟨2, ⟨⟨rfl, rfl, rfl, rfl, rfl, rfl, rfl, trivial⟩, I, by omega⟩, by omega⟩
        · refine WP.skip ?_
          refine WP.seq ?_
          refine WP.block ?_
          refine WP.seq ?_
          refine WP.region ?_
          refine Ops.y (v := .int .i64 _) (Y.move rfl) ?_
          refine Ops.y (v := .int .i64 _) (Y.assign rfl) ?_
          refine Ops.nil ?_
          refine WP.region ?_
          refine Ops.y (v := .int .i64 _) (Y.move rfl) ?_
          refine Ops.y (v := .int .i64 _) (Y.move rfl) ?_
          refine Ops.y (v := .pointer (some ⟨_, _, none⟩)) (Y.idxa Tryz.underlying137 Tryz.sizeOf3 rfl rfl (by omega) (by omega)) ?_
          refine Ops.y (v := .int .i64 _) (Y.loadv ty_3 rfl (I.rdbox 1 rfl 2 1) rfl rfl) ?_
          refine Ops.y (v := .int .i64 _) (Y.max2 rfl rfl) ?_
          refine Ops.y (v := .pointer (some ⟨_, _, none⟩)) (Y.fa fa_80_1 rfl) ?_
          refine Ops.y (v := .pointer (some ⟨_, _, none⟩)) (Y.idxa Tryz.underlying78 Tryz.sizeOf3 rfl rfl (by omega) (by omega)) ?_
          refine Ops.go (O.store (v := .int .i64 _) I ty_3 0 rfl rfl rfl rfl rfl rfl (Nat.le_of_ble_eq_true rfl) rfl ?_)
          intro w I
          refine Ops.nil ?_
          refine WP.region ?_
          refine Ops.y (v := .int .i64 _) (Y.addi rfl rfl ⟨by omega, by omega⟩) ?_
          refine Ops.y (v := .int .i64 _) (Y.move rfl) ?_
          refine Ops.nil ?_
          exact ⟨3, ⟨⟨rfl, rfl, rfl, rfl, rfl, rfl, rfl, trivial⟩, I, by omega⟩, by omega⟩
      · obtain rfl : k = 3 := by omega
        refine WP.exit ?_
        exact ⟨(), ⟨rfl, rfl, rfl, rfl, rfl, trivial⟩, (I.front 0 rfl).weak (by exact List.Sublist.cons_cons _ (List.sublist_cons_self _ _))⟩
    rintro _ e w I
    have hL : layF f.xs [] b = [b] := rfl
    rw [hL] at hsz
    simp only [hL, outL_one]
    cases hh : holdsB f.xs r (mx0 b)
    · refine WP.seq ?_
      refine WP.seq ?_
      refine WP.region ?_
      refine Ops.y (v := .agg #[_, _]) (Y.loadv ty_25 rfl (I.rd (E.kp.rd.part 0 2)) rfl rfl) ?_
      refine Ops.y (v := .slice _ _ _) (Y.loadv ty_26 rfl (I.rd (E.kf.rd.part 0 1)) rfl rfl) ?_
      refine Ops.y (v := .int .i64 _) (Y.loadv ty_3 rfl (I.rd (E.kn.rd.part 0 1)) rfl rfl) ?_
      refine Ops.y (v := .pointer (some ⟨_, _, none⟩)) (Y.fa fa_80_1 rfl) ?_
      refine Ops.y (v := .agg #[_, _, _]) (Y.loadv ty_78 rfl (I.rdbox 0 rfl 1 3) rfl rfl) ?_
      refine Ops.go (O.callv I Tryz.call78 (FOf_at _ I.base_ok p E.p f E.f n r h0 hr ok okf (mx0 b) hvs (false, default) (by unfold holdsF; rw [hh]; rfl)) rfl ?_)
      intro w I
      refine Ops.y (v := .tuple #[_, _]) (Y.move rfl) ?_
      refine Ops.y (v := .bool _) (Y.extract rfl rfl) ?_
      refine Ops.y (v := .agg #[_, _, _, _]) (Y.extract rfl rfl) ?_
      refine Ops.go (O.alloc I Tryz.zeroValue28 rfl ?_)
      intro b12 w I
      refine Ops.y (v := .bool _) (Y.assign rfl) ?_
      refine Ops.go (O.store (v := .agg #[_, _, _, _]) I ty_28 0 rfl rfl rfl rfl rfl rfl (Nat.le_of_ble_eq_true rfl) rfl ?_)
      intro w I
      refine Ops.nil ?_
      refine WP.seq ?_
      refine WP.region ?_
      refine Ops.y (v := .bool _) (Y.move rfl) ?_
      refine Ops.nil ?_
      refine WP.cond_f rfl ?_
      refine WP.skip ?_
      refine WP.ret ?_
      repeat (first | refine thenE_ret ?_ | refine blockE_ret ?_)
      refine ⟨.inl rfl, [], trivial, rfl, h, a, c, m, Heap.le.refl _, ?_, ?_⟩
      · simp only [Bool.false_eq_true, if_false, List.append_nil]; exact I.drop.drop
      · simp only [Bool.false_eq_true, if_false, List.append_nil]; exact hm
    · refine WP.seq ?_
      refine WP.seq ?_
      refine WP.region ?_
      refine Ops.y (v := .agg #[_, _]) (Y.loadv ty_25 rfl (I.rd (E.kp.rd.part 0 2)) rfl rfl) ?_
      refine Ops.y (v := .slice _ _ _) (Y.loadv ty_26 rfl (I.rd (E.kf.rd.part 0 1)) rfl rfl) ?_
      refine Ops.y (v := .int .i64 _) (Y.loadv ty_3 rfl (I.rd (E.kn.rd.part 0 1)) rfl rfl) ?_
      refine Ops.y (v := .pointer (some ⟨_, _, none⟩)) (Y.fa fa_80_1 rfl) ?_
      refine Ops.y (v := .agg #[_, _, _]) (Y.loadv ty_78 rfl (I.rdbox 0 rfl 1 3) rfl rfl) ?_
      refine Ops.go (O.callv I Tryz.call78 (FOf_at _ I.base_ok p E.p f E.f n r h0 hr ok okf (mx0 b) hvs (true, headF p.preds.xs f.xs r (mx0 b)) (by unfold holdsF; rw [hh]; rfl)) rfl ?_)
      intro w I
      refine Ops.y (v := .tuple #[_, _]) (Y.move rfl) ?_
      refine Ops.y (v := .bool _) (Y.extract rfl rfl) ?_
      refine Ops.y (v := .agg #[_, _, _, _]) (Y.extract rfl rfl) ?_
      refine Ops.go (O.alloc I Tryz.zeroValue28 rfl ?_)
      intro b12 w I
      refine Ops.y (v := .bool _) (Y.assign rfl) ?_
      refine Ops.go (O.store (v := .agg #[_, _, _, _]) I ty_28 0 rfl rfl rfl rfl rfl rfl (Nat.le_of_ble_eq_true rfl) rfl ?_)
      intro w I
      refine Ops.nil ?_
      refine WP.seq ?_
      refine WP.region ?_
      refine Ops.y (v := .bool _) (Y.move rfl) ?_
      refine Ops.nil ?_
      refine WP.cond_t rfl ?_
      refine WP.region ?_
      refine Ops.y (v := .slice _ _ _) (Y.loadv ty_74 rfl (I.rdbox 2 rfl 0 1) rfl rfl) ?_
      refine Ops.y (v := .agg #[_, _, _, _]) (Y.loadv ty_80 rfl (I.rdbox 1 rfl 0 4) rfl rfl) ?_
      refine Ops.go (O.mksl (xs := [⟨n, mx0 b⟩]) (enc := Stp.enc) I Tryz.underlying74 Tryz.sizeOf80 Tryz.zeroValue80 rfl (Nat.le_of_ble_eq_true rfl) rfl rfl (by decide) (fun _ => rfl) ?_)
      intro b45 h45 w I le45 sl45
      refine Ops.go (O.append I Tryz.underlying74 et_80 3 rfl rfl rfl (I.rd (sl45 0 _ rfl).2) rfl rfl (by decide) ((by simp only [List.length_singleton] at hsz; omega)) (by omega) ?_)
      intro b46 c46 w I
      refine Ops.go (O.store (v := .slice _ _ _) I ty_74 2 rfl rfl rfl rfl rfl rfl (Nat.le_of_ble_eq_true rfl) rfl ?_)
      intro w I
      refine Ops.nil ?_
      refine WP.ret ?_
      repeat (first | refine thenE_ret ?_ | refine blockE_ret ?_)
      refine ⟨.inl rfl, [], trivial, rfl, h45, some ⟨b46, 0, none⟩, c46, m + 1, le45, ?_, ?_⟩
      · simp only [if_true]
        show Inv B h45 [box bo [.slice (some ⟨b46, 0, none⟩) (m + 1) c46] 74, ownSl 80 4 (.slice (some ⟨b46, 0, none⟩) (m + 1) c46) (m + 1) ((acc ++ [Stp.mk n (mx0 b)]).flatMap Stp.enc)] w
        rw [snocS]; exact I.drop.drop
      · simp only [if_true, List.length_append, List.length_singleton]; omega
  | at1 :: ls, B, h, w, l, b, a, c, m, acc, hls0, I, hm, E, hA, hin, hb, hsz => by
    have hlen : l.xs.length = ls.length + 1 := by rw [hls0]; rfl
    have hl0 : l.xs[0]? = some at1 := by rw [hls0]; rfl
    have hat := hin at1 List.mem_cons_self
    obtain ⟨y, hy, _, hya⟩ := mem_poss.1 hat
    have aok : AOk p.preds.xs at1 := hya ▸ aok_of ok.preds (ok.body y hy)
    have hav : ∀ t ∈ at1.args.xs, t.var = true → 0 ≤ t.n ∧ t.n < 3 := fun t ht hv => aok.var ht hv
    have hsm := hA.is.small
    have hsf := E.f.small
    rw [layF_cons] at hsz ⊢
    refine Calls.ofWP (args := [b.val, l.val, .pointer (some ⟨bn, 0, none⟩), .pointer (some ⟨bp, 0, none⟩), .pointer (some ⟨bf, 0, none⟩), .pointer (some ⟨bo, 0, none⟩), .pointer (some ⟨bl, 0, none⟩)]) Tryz.func97 rfl Tryz.ntmps97 (by kernel_rfl) (by simp) ?_
    intro e
    refine WP.seq ?_
    refine WP.region ?_
    refine Ops.go (O.box (v := .agg #[_, _, _]) I rfl rfl ?_)
    intro b7 w I
    refine Ops.nil ?_
    refine WP.seq ?_
    refine WP.seq ?_
    refine WP.region ?_
    refine Ops.y (v := .slice _ _ _) (Y.move rfl) ?_
    refine Ops.y (v := .int .i64 _) (Y.lens Tryz.underlying130 rfl) ?_
    refine Ops.y (v := .bool false) (Y.dec_f (Y.eqi rfl rfl) ((by omega))) ?_
    refine Ops.nil ?_
    refine WP.cond_f rfl ?_
    obtain ⟨h1, le1, k7, I⟩ := I.settleBox
    have E := E.le le1
    have hA := hA.le le1
    refine WP.skip ?_
    refine WP.seq ?_
    refine WP.region ?_
    refine Ops.y (v := .slice _ _ _) (Y.loadv ty_26 rfl (I.rd (E.kf.rd.part 0 1)) rfl rfl) ?_
    refine Ops.y (v := .int .i64 _) (Y.lens Tryz.underlying26 rfl) ?_
    refine Ops.y (v := .int .i64 _) (Y.move rfl) ?_
    refine Ops.nil ?_
    refine WP.block ?_
    refine WP.loopE (σ := Nat) (fun k => [(1, l.val), (2, .pointer (some ⟨bn, 0, none⟩)), (3, .pointer (some ⟨bp, 0, none⟩)), (4, .pointer (some ⟨bf, 0, none⟩)), (5, .pointer (some ⟨bo, 0, none⟩)), (6, .pointer (some ⟨bl, 0, none⟩)), (7, .pointer (some ⟨b7, 0, none⟩)), (47, f.val), (48, .int .i64 f.xs.length), (49, .int .i64 k)])
      (fun k w => k ≤ f.xs.length ∧ ∃ h2 a' c' m', h1.le h2 ∧ Inv B h2 (LayM bo a' c' m' (acc ++ outL f.xs n r ((f.xs.take k).flatMap (layN f.xs at1 ls b)))) w ∧ m' = (acc ++ outL f.xs n r ((f.xs.take k).flatMap (layN f.xs at1 ls b))).length) (fun k => f.xs.length - k)
      ⟨0, ⟨rfl, rfl, rfl, rfl, rfl, rfl, rfl, rfl, rfl, rfl, trivial⟩, Nat.zero_le _, h1, a, c, m, Heap.le.refl _, by simpa [outL_nil] using I, by simpa [outL_nil] using hm⟩ ?_
    rintro k e w ⟨hk, h2, a2, c2, m2, gl, I, hm2⟩
    have E := E.le gl
    have hA := hA.le gl
    have k7 := k7.le gl
    refine WP.seq ?_
    refine WP.region ?_
    refine Ops.y (v := .bool (decide _)) (Y.lti rfl rfl) ?_
    refine Ops.nil ?_
    refine WP.seq ?_
    refine WP.cond_dec rfl (fun h12 => ?_) (fun h12 => ?_)
    · have hk' : k < f.xs.length := by omega
      have Ef := E.f.at hk'
      have El0 := hA.is.el.el hl0
      have hat1 := hA.each _ (List.mem_of_getElem? hl0)
      have pf := okf.pf _ (List.getElem_mem hk')
      have hts := flat_take_succ (layN f.xs at1 ls b) hk'
      have htl := flat_take_le (layN f.xs at1 ls b) f.xs (k + 1)
      have hol := outL_le f.xs n r ((f.xs.take k).flatMap (layN f.xs at1 ls b))
      rw [hts, List.length_append] at htl
      refine WP.skip ?_
      refine WP.seq ?_
      refine WP.block ?_
      refine WP.seq ?_
      refine WP.region ?_
      refine Ops.y (v := .pointer (some ⟨_, _, none⟩)) (Y.idxEl Ef Tryz.underlying26 Tryz.sizeOf28 rfl rfl (Int.natCast_nonneg _) rfl) ?_
      refine Ops.y (v := .agg #[_, _, _, _]) (Y.loadv ty_28 rfl (I.rd (Ef.rd.part 0 4)) rfl rfl) ?_
      refine Ops.go (O.alloc I Tryz.zeroValue28 rfl ?_)
      intro b14 w I
      refine Ops.go (O.store (v := .agg #[_, _, _, _]) I ty_28 0 rfl rfl rfl rfl rfl rfl (Nat.le_of_ble_eq_true rfl) rfl ?_)
      intro w I
      refine Ops.nil ?_
      refine WP.seq ?_
      refine WP.regionG mixed RBx.pre ⟨h2, none, none⟩ (J := JBx B (box b14 f.xs[k].enc 28 :: LayM bo a2 c2 m2 (acc ++ outL f.xs n r ((f.xs.take k).flatMap (layN f.xs at1 ls b)))) 137 [.int .i64 0, .int .i64 0, .int .i64 0] (wcF b at1 f.xs[k]).1.enc 9 99 10) ⟨rfl, rfl, fun h => (by cases h), I.drew⟩ 11 (by kernel_rfl) ?_
      refine OpsG.y_ (v := .agg #[_, _, _]) (fun _ => runsG_none _) RBx.pre (JBx.set (by decide)) (fun _ s w us hl hj => have I := hj.base; have hl := hl.h; Y.loadv ty_137 rfl (I.rd ((k7.rd.part 0 3).le hl)) rfl rfl) ?_
      refine OpsG.y_ (v := .slice _ _ _) (fun _ => runsG_none _) RBx.pre (JBx.set (by decide)) (fun _ s w us hl hj => have I := hj.base; have hl := hl.h; Y.move rfl) ?_
      refine OpsG.y_ (v := .pointer (some ⟨_, _, none⟩)) (fun _ => runsG_none _) RBx.pre (JBx.set (by decide)) (fun _ s w us hl hj => have I := hj.base; have hl := hl.h; Y.idxEl El0 Tryz.underlying130 Tryz.sizeOf43 rfl rfl (by decide) rfl) ?_
      refine OpsG.y_ (v := .agg #[_, _]) (fun _ => runsG_none _) RBx.pre (JBx.set (by decide)) (fun _ s w us hl hj => have I := hj.base; have hl := hl.h; Y.loadv ty_43 rfl (I.rd ((El0.rd.part 0 2).le hl)) rfl rfl) ?_
      refine OpsG.y_ (v := .agg #[_, _, _, _]) (fun _ => runsG_none _) RBx.pre (JBx.set (by decide)) (fun _ s w us hl hj => have I := hj.base; have hl := hl.h; Y.loadv ty_28 rfl (I.rdbox 0 rfl 0 4) rfl rfl) ?_
      refine OpsG.c_ (by decide) (fun _ s w us hl hj => have I := hj.inv; have hl := hl.h; O.callv I Tryz.call98 (with_ok _ I.base_ok b at1 (hat1.le hl) f.xs[k] aok.len hav) rfl (fun w' I' => ⟨rfl, ⟨hj.h7, hj.h8, hj.ord, I'⟩⟩)) ?_
      refine OpsG.y_ (v := .tuple #[_, _]) (fun _ => runsG_none _) RBx.pre (JBx.set (by decide)) (fun _ s w us hl hj => have I := hj.base; have hl := hl.h; Y.move rfl) ?_
      refine OpsG.y_ (v := .agg #[_, _, _]) (fun _ => runsG_none _) RBx.pre (JBx.set (by decide)) (fun _ s w us hl hj => have I := hj.base; have hl := hl.h; Y.extract rfl rfl) ?_
      refine OpsG.y_ (v := .bool _) (fun _ => runsG_none _) RBx.pre (JBx.set (by decide)) (fun _ s w us hl hj => have I := hj.base; have hl := hl.h; Y.extract rfl rfl) ?_
      refine OpsG.make7 Tryz.zeroValue137 rfl (by decide) (by decide) ?_
      refine OpsG.store7 ty_137 rfl rfl (fun s => by intro u15 q15; exact ⟨q15 rfl, rfl⟩) rfl rfl (by decide) (by decide) ?_
      refine OpsG.nil ?_
      intro D s w hD hl hj u15 q15
      obtain ⟨b15, rfl, h15⟩ := q15 rfl
      have I := hj.inv
      rw [h15, hD 10 (by omega)] at I
      have hl := hl.h
      refine Ops.y (v := .bool _) (Y.assign rfl) ?_
      refine Ops.nil ?_
      generalize s.o8 = o8 at I
      generalize s.h = h3 at I hl
      have I : Inv B h3 (box b15 (wcF b at1 f.xs[k]).1.enc 137 :: box b14 f.xs[k].enc 28 :: LayM bo a2 c2 m2 (acc ++ outL f.xs n r ((f.xs.take k).flatMap (layN f.xs at1 ls b)))) w := by
        cases o8 with
        | none => exact I
        | some b8 => exact I.weak (List.Sublist.cons_cons _ (List.sublist_cons_self _ _))
      have E := E.le hl
      have hA := hA.le hl
      refine WP.seq ?_
      refine WP.region ?_
      refine Ops.y (v := .bool _) (Y.move rfl) ?_
      refine Ops.nil ?_
      cases hw : (wcF b at1 f.xs[k]).2
      · refine WP.cond_f rfl ?_
        refine WP.skip ?_
        refine WP.region ?_
        refine Ops.y (v := .int .i64 _) (Y.addi rfl rfl ⟨by omega, by omega⟩) ?_
        refine Ops.y (v := .int .i64 _) (Y.move rfl) ?_
        refine Ops.nil ?_
        refine ⟨k + 1, ⟨⟨rfl, rfl, rfl, rfl, rfl, rfl, rfl, rfl, rfl, rfl, trivial⟩, by omega, h3, a2, c2, m2, gl.trans hl, ?_, ?_⟩, by omega⟩
        · rw [hts, show layN f.xs at1 ls b f.xs[k] = [] from by unfold layN; rw [hw]; rfl, List.append_nil]; exact I.drop.drop
        · rw [hts, show layN f.xs at1 ls b f.xs[k] = [] from by unfold layN; rw [hw]; rfl, List.append_nil]; exact hm2
      · have hN : layN f.xs at1 ls b f.xs[k] = layF f.xs ls (wcF b at1 f.xs[k]).1 := by unfold layN; rw [hw]; rfl
        rw [hN] at htl hts
        have hcut : (l.cut 2 1 l.xs.length).xs = ls := by simp only [Sl.cut, List.take_length, hls0, List.drop_succ_cons, List.drop_zero]
        have hAc : AtS (l.cut 2 1 l.xs.length) h3 := ⟨hA.is.cut hA.cap, by simp only [Sl.cut, List.length_drop, List.length_take]; have := hA.cap; omega, fun x hx => hA.each x (List.mem_of_mem_take (List.mem_of_mem_drop hx))⟩
        have gl3 := gl.trans hl
        refine WP.cond_t rfl ?_
        refine WP.regionF mixed I 4 (by kernel_rfl) ?_
        refine OpsF.y_ (v := .func _ _ _) (fun _ => runs_none _) (fun _ w us hl I => Y.loadv ty_136 rfl (I.rd ((E.kl.rd.part 0 1).le hl)) rfl rfl) ?_
        refine OpsF.y_ (v := .agg #[_, _, _]) (fun _ => runs_none _) (fun _ w us hl I => Y.loadv ty_137 rfl (I.rdbox 0 rfl 0 3) rfl rfl) ?_
        refine OpsF.y_ (v := .slice _ _ _) (fun _ => runs_none _) (fun _ w us hl I => Y.move rfl) ?_
        refine OpsF.y_ (v := .slice _ _ _) (fun _ => runs_none _) (fun _ w us hl I => Y.cut (l := 1) (h := l.xs.length) Tryz.underlying130 Tryz.sizeOf43 (hA.is.at (i := 0) (by omega)).at_ hA.cap rfl (.inr ⟨_, _, rfl, rfl⟩) (.inl ⟨rfl, rfl⟩) (by omega) (Nat.le_refl _)) ?_
        refine OpsF.nil ?_
        intro _ w hl I
        try unfold AllL
        have I := I.drop.drop
        refine Ops.go (O.callcs Tryz.call97 (fs := []) (cs := [.pointer (some ⟨bn, 0, none⟩), .pointer (some ⟨bp, 0, none⟩), .pointer (some ⟨bf, 0, none⟩), .pointer (some ⟨bo, 0, none⟩), .pointer (some ⟨bl, 0, none⟩)]) rfl (lay_ok p f n r bn bp bf bo bl h0 hr ok okf ls (l.cut 2 1 l.xs.length) (wcF b at1 f.xs[k]).1 a2 c2 m2 _ hcut I hm2 (E.le (by assumption)) (hAc.le (by assumption)) (fun x hx => hin x (List.mem_cons_of_mem _ hx)) (wc_bok hat hav pf hb hw) (by rw [hm2, List.length_append]; omega)) rfl ?_)
        rintro ed w ⟨rfl, h5, a5, c5, m5, le5, I, hm5⟩
        refine ⟨_, rfl, ?_⟩
        refine Ops.nil ?_
        refine WP.region ?_
        refine Ops.y (v := .int .i64 _) (Y.addi rfl rfl ⟨by omega, by omega⟩) ?_
        refine Ops.y (v := .int .i64 _) (Y.move rfl) ?_
        refine Ops.nil ?_
        refine ⟨k + 1, ⟨⟨rfl, rfl, rfl, rfl, rfl, rfl, rfl, rfl, rfl, rfl, trivial⟩, by omega, h5, a5, c5, m5, (gl3.trans hl).trans le5, ?_, ?_⟩, by omega⟩
        · rw [hts, outL_app, ← List.append_assoc]; exact I
        · rw [hts, outL_app, ← List.append_assoc]; exact hm5
    · obtain rfl : k = f.xs.length := by omega
      rw [List.take_length] at I hm2
      refine WP.exit ?_
      exact ⟨.inr rfl, [], trivial, rfl, h2, a2, c2, m2, le1.trans gl, I, hm2⟩
end Go.TF
end
section
/- The laying of slices.SortFunc at this program, made by the kit's own tool. -/
namespace Go.Proofs
open Go.Shelf
def Tryz.sortStp_ren : Go.Shelf.Ren := ⟨fun | 6 => 99 | 15 => 118 | 14 => 117 | 28 => 133 | 29 => 134 | 20 => 125 | 21 => 126 | 22 => 127 | 23 => 128 | 24 => 129 | 25 => 130 | 26 => 131 | 27 => 132 | 46 => 136 | 47 => 137 | 48 => 138 | 49 => 139 | 50 => 140 | 57 => 141 | n => n, fun | 22 => 74 | 24 => 80 | 25 => 142 | 3 => 3 | 39 => 147 | 0 => 0 | 53 => 164 | 55 => 166 | 4 => 4 | 46 => 158 | 45 => 157 | 50 => 98 | 5 => 5 | 9 => 9 | 66 => 168 | 70 => 172 | 76 => 174 | 77 => 175 | n => n, fun | n => n⟩
theorem Tryz.sortStp : Go.Proofs.SlLaysF0.n6 Tryz.prog Tryz.sortStp_ren := {
  mixed := by kernel_rfl
  f6 := ⟨Tryz.f99.name, by decide, Tryz.func99.trans (congrArg some (by kernel_rfl))⟩
  f14 := ⟨Tryz.f117.name, by decide, Tryz.func117.trans (congrArg some (by kernel_rfl))⟩
  f15 := Tryz.func118.trans (congrArg some (by kernel_rfl))
  f20 := ⟨Tryz.f125.name, by decide, Tryz.func125.trans (congrArg some (by kernel_rfl))⟩
  f21 := ⟨Tryz.f126.name, by decide, Tryz.func126.trans (congrArg some (by kernel_rfl))⟩
  f22 := ⟨Tryz.f127.name, by decide, Tryz.func127.trans (congrArg some (by kernel_rfl))⟩
  f23 := ⟨Tryz.f128.name, by decide, Tryz.func128.trans (congrArg some (by kernel_rfl))⟩
  f24 := ⟨Tryz.f129.name, by decide, Tryz.func129.trans (congrArg some (by kernel_rfl))⟩
  f25 := ⟨Tryz.f130.name, by decide, Tryz.func130.trans (congrArg some (by kernel_rfl))⟩
  f26 := ⟨Tryz.f131.name, by decide, Tryz.func131.trans (congrArg some (by kernel_rfl))⟩
  f27 := ⟨Tryz.f132.name, by decide, Tryz.func132.trans (congrArg some (by kernel_rfl))⟩
  f28 := Tryz.func133.trans (congrArg some (by kernel_rfl))
  f29 := Tryz.func134.trans (congrArg some (by kernel_rfl))
  f46 := ⟨Tryz.f136.name, by decide, Tryz.func136.trans (congrArg some (by kernel_rfl))⟩
  f47 := Tryz.func137.trans (congrArg some (by kernel_rfl))
  f48 := Tryz.func138.trans (congrArg some (by kernel_rfl))
  f49 := ⟨Tryz.f139.name, by decide, Tryz.func139.trans (congrArg some (by kernel_rfl))⟩
  f50 := ⟨Tryz.f140.name, by decide, Tryz.func140.trans (congrArg some (by kernel_rfl))⟩
  f57 := ⟨Tryz.f141.name, by decide, Tryz.func141.trans (congrArg some (by kernel_rfl))⟩
  t0 := Tryz.underlying0
  a0 := Tryz.isAgg0
  z0 := Tryz.sizeOf0
  v0 := Tryz.zeroValue0
  t3 := Tryz.underlying3
  a3 := Tryz.isAgg3
  z3 := Tryz.sizeOf3
  v3 := Tryz.zeroValue3
  t4 := Tryz.underlying4
  a4 := Tryz.isAgg4
  z4 := Tryz.sizeOf4
  v4 := Tryz.zeroValue4
  t5 := Tryz.underlying5
  a5 := Tryz.isAgg5
  z5 := Tryz.sizeOf5
  v5 := Tryz.zeroValue5
  t9 := Tryz.underlying9
  a9 := Tryz.isAgg9
  z9 := Tryz.sizeOf9
  v9 := Tryz.zeroValue9
  t22 := Tryz.underlying74
  a22 := Tryz.isAgg74
  z22 := Tryz.sizeOf74
  v22 := Tryz.zeroValue74
  t25 := Tryz.underlying142
  a25 := Tryz.isAgg142
  z25 := Tryz.sizeOf142
  v25 := Tryz.zeroValue142
  t39 := Tryz.underlying147
  a39 := Tryz.isAgg147
  z39 := Tryz.sizeOf147
  v39 := Tryz.zeroValue147
  t45 := Tryz.underlying157
  a45 := Tryz.isAgg157
  z45 := Tryz.sizeOf157
  v45 := Tryz.zeroValue157
  t46 := Tryz.underlying158
  a46 := Tryz.isAgg158
  z46 := Tryz.sizeOf158
  v46 := Tryz.zeroValue158
  t50 := Tryz.underlying98
  a50 := Tryz.isAgg98
  z50 := Tryz.sizeOf98
  v50 := Tryz.zeroValue98
  t53 := Tryz.underlying164
  a53 := Tryz.isAgg164
  z53 := Tryz.sizeOf164
  v53 := Tryz.zeroValue164
  t55 := Tryz.underlying166
  a55 := Tryz.isAgg166
  z55 := Tryz.sizeOf166
  v55 := Tryz.zeroValue166
  t66 := Tryz.underlying168
  a66 := Tryz.isAgg168
  z66 := Tryz.sizeOf168
  v66 := Tryz.zeroValue168
  t70 := Tryz.underlying172
  a70 := Tryz.isAgg172
  z70 := Tryz.sizeOf172
  v70 := Tryz.zeroValue172
  t76 := Tryz.underlying174
  a76 := Tryz.isAgg174
  z76 := Tryz.sizeOf174
  v76 := Tryz.zeroValue174
  t77 := Tryz.underlying175
  a77 := Tryz.isAgg175
  z77 := Tryz.sizeOf175
  v77 := Tryz.zeroValue175 }
end Go.Proofs
end
section
/- Steps compared, sorted. -/
namespace Go.TF
open Go Go.RowKit Go.Proofs
set_option maxRecDepth 20000

/-! ### In exactly this world -/
theorem isNaN_x (a : Int) (w : World) : Calls Tryz.prog 119 [.int .i64 a].toArray w (fun ed w' => ed = .returned (.bool false) ∧ w' = w) := by
  refine Calls.ofWP (args := [.int .i64 a]) Tryz.func119 rfl Tryz.ntmps119 (by kernel_rfl) (by simp) ?_
  intro e
  refine WP.seq ?_
  refine WP.region ?_
  refine Ops.y (v := .bool _) (Y.assign rfl) ?_
  refine Ops.nil ?_
  refine WP.seq ?_
  refine WP.region ?_
  refine Ops.y (v := .int .i64 _) (Y.move rfl) ?_
  refine Ops.y (v := .int .i64 _) (Y.move rfl) ?_
  refine Ops.y (v := .bool (decide _)) (Y.nei rfl rfl) ?_
  refine Ops.y (v := .bool _) (Y.assign rfl) ?_
  refine Ops.nil ?_
  refine WP.ret ?_
  repeat (first | refine thenE_ret ?_ | refine blockE_ret ?_)
  exact ⟨.inl rfl, [.bool _], ⟨rfl, trivial⟩, by simp [tup], rfl⟩
theorem Compare_x (a b : Int) (w : World) : Calls Tryz.prog 104 [.int .i64 a, .int .i64 b].toArray w (fun ed w' => ed = .returned (.int .i64 (cmpI a b)) ∧ w' = w) := by
  refine Calls.ofWP (args := [.int .i64 a, .int .i64 b]) Tryz.func104 rfl Tryz.ntmps104 (by kernel_rfl) (by simp) ?_
  intro e
  refine WP.seq ?_
  refine WP.region ?_
  refine Ops.y (v := .int .i64 _) (Y.assign rfl) ?_
  refine Ops.nil ?_
  refine WP.seq ?_
  refine WP.region ?_
  refine Ops.y (v := .int .i64 _) (Y.move rfl) ?_
  refine Ops.go (O.calls Tryz.call119 (isNaN_x a w) rfl ?_)
  rintro ed w' ⟨rfl, rfl⟩
  refine ⟨_, rfl, ?_⟩
  refine Ops.y (v := .bool _) (Y.assign rfl) ?_
  refine Ops.nil ?_
  refine WP.seq ?_
  refine WP.region ?_
  refine Ops.y (v := .int .i64 _) (Y.move rfl) ?_
  refine Ops.go (O.calls Tryz.call119 (isNaN_x b _) rfl ?_)
  rintro ed w' ⟨rfl, rfl⟩
  refine ⟨_, rfl, ?_⟩
  refine Ops.y (v := .bool _) (Y.assign rfl) ?_
  refine Ops.nil ?_
  refine WP.seq ?_
  refine WP.seq ?_
  refine WP.region ?_
  refine Ops.y (v := .bool _) (Y.move rfl) ?_
  refine Ops.nil ?_
  refine WP.cond_f rfl ?_
  refine WP.skip ?_
  refine WP.seq ?_
  refine WP.seq ?_
  refine WP.region ?_
  refine Ops.y (v := .bool _) (Y.move rfl) ?_
  refine Ops.nil ?_
  refine WP.cond_f rfl ?_
  refine WP.skip ?_
  refine WP.seq ?_
  refine WP.seq ?_
  refine WP.region ?_
  refine Ops.y (v := .int .i64 _) (Y.move rfl) ?_
  refine Ops.y (v := .int .i64 _) (Y.move rfl) ?_
  refine Ops.y (v := .bool (decide _)) (Y.lti rfl rfl) ?_
  refine Ops.nil ?_
  refine WP.cond_dec rfl (fun h1 => ?_) (fun h1 => ?_)
  · refine WP.seq ?_
    refine WP.region ?_
    refine Ops.y (v := .int .i64 _) (Y.assign rfl) ?_
    refine Ops.nil ?_
    refine WP.ret ?_
    repeat (first | refine thenE_ret ?_ | refine blockE_ret ?_)
    exact ⟨.inl rfl, [.int .i64 (-1)], ⟨rfl, trivial⟩, by simp only [tup, cmpI]; rw [if_pos h1], rfl⟩
  refine WP.skip ?_
  refine WP.seq ?_
  refine WP.seq ?_
  refine WP.region ?_
  refine Ops.y (v := .int .i64 _) (Y.move rfl) ?_
  refine Ops.y (v := .int .i64 _) (Y.move rfl) ?_
  refine Ops.y (v := .bool (decide _)) (Y.gti rfl rfl) ?_
  refine Ops.nil ?_
  refine WP.cond_dec rfl (fun h2 => ?_) (fun h2 => ?_)
  · refine WP.seq ?_
    refine WP.region ?_
    refine Ops.y (v := .int .i64 _) (Y.assign rfl) ?_
    refine Ops.nil ?_
    refine WP.ret ?_
    repeat (first | refine thenE_ret ?_ | refine blockE_ret ?_)
    exact ⟨.inl rfl, [.int .i64 1], ⟨rfl, trivial⟩, by simp only [tup, cmpI]; rw [if_neg h1, if_pos h2], rfl⟩
  refine WP.skip ?_
  refine WP.seq ?_
  refine WP.region ?_
  refine Ops.y (v := .int .i64 _) (Y.assign rfl) ?_
  refine Ops.nil ?_
  refine WP.ret ?_
  repeat (first | refine thenE_ret ?_ | refine blockE_ret ?_)
  exact ⟨.inl rfl, [.int .i64 0], ⟨rfl, trivial⟩, by simp only [tup, cmpI]; rw [if_neg h1, if_neg h2], rfl⟩
def cmpV (x y : Vrs) : Int := if cmpI x.x0 y.x0 ≠ 0 then cmpI x.x0 y.x0 else if cmpI x.x1 y.x1 ≠ 0 then cmpI x.x1 y.x1 else cmpI x.x2 y.x2
theorem cmpI_zero {a b : Int} : cmpI a b = 0 ↔ a = b := by unfold cmpI; (repeat' split) <;> omega
theorem cmpI_neg {a b : Int} : cmpI a b < 0 ↔ a < b := by unfold cmpI; (repeat' split) <;> omega
theorem cmpV_neg {x y : Vrs} : cmpV x y < 0 ↔ ltV x y := by
  unfold cmpV ltV
  have h0 := cmpI_neg (a := x.x0) (b := y.x0); have h1 := cmpI_neg (a := x.x1) (b := y.x1); have h2 := cmpI_neg (a := x.x2) (b := y.x2)
  have z0 := cmpI_zero (a := x.x0) (b := y.x0); have z1 := cmpI_zero (a := x.x1) (b := y.x1)
  split
  · omega
  · split <;> omega
theorem SCompare_x (x y : Vrs) (b1 b2 o1 o2 : Nat) (w : World) (h1 : Rd w b1 o1 x.enc) (h2 : Rd w b2 o2 y.enc) :
    Calls Tryz.prog 101 [.slice (some ⟨b1, o1, none⟩) (3 : Nat) (3 : Nat), .slice (some ⟨b2, o2, none⟩) (3 : Nat) (3 : Nat)].toArray w (fun ed w' => ed = .returned (.int .i64 (cmpV x y)) ∧ w' = w) := by
  refine Calls.ofWP (args := [.slice (some ⟨b1, o1, none⟩) (3 : Nat) (3 : Nat), .slice (some ⟨b2, o2, none⟩) (3 : Nat) (3 : Nat)]) Tryz.func101 rfl Tryz.ntmps101 (by kernel_rfl) (by simp) ?_
  intro e
  refine WP.seq ?_
  refine WP.region ?_
  refine Ops.y (v := .int .i64 _) (Y.assign rfl) ?_
  refine Ops.nil ?_
  refine WP.seq ?_
  refine WP.seq ?_
  refine WP.region ?_
  refine Ops.y (v := .slice _ _ _) (Y.move rfl) ?_
  refine Ops.y (v := .int .i64 _) (Y.lens Tryz.underlying62 rfl) ?_
  refine Ops.y (v := .int .i64 _) (Y.move rfl) ?_
  refine Ops.nil ?_
  refine WP.block ?_
  refine WP.loopE (σ := Nat) (fun k => [(0, .slice (some ⟨b1, o1, none⟩) (3 : Nat) (3 : Nat)), (1, .slice (some ⟨b2, o2, none⟩) (3 : Nat) (3 : Nat)), (9, .slice (some ⟨b1, o1, none⟩) (3 : Nat) (3 : Nat)), (10, .int .i64 (3 : Nat)), (11, .int .i64 k)]) (fun k w' => w' = w ∧ k ≤ 3 ∧ (0 < k → cmpI x.x0 y.x0 = 0) ∧ (1 < k → cmpI x.x1 y.x1 = 0) ∧ (2 < k → cmpI x.x2 y.x2 = 0)) (fun k => 3 - k)
    ⟨0, ⟨rfl, rfl, rfl, rfl, rfl, trivial⟩, rfl, Nat.zero_le _, fun h => by omega, fun h => by omega, fun h => by omega⟩ ?_
  rintro k e w' ⟨rfl, hk, g0, g1, g2⟩
  refine WP.seq ?_
  refine WP.region ?_
  refine Ops.y (v := .bool (decide _)) (Y.lti rfl rfl) ?_
  refine Ops.nil ?_
  refine WP.seq ?_
  refine WP.cond_dec rfl (fun h => ?_) (fun h => ?_)
  · have hk3 : k = 0 ∨ k = 1 ∨ k = 2 := by omega
    rcases hk3 with rfl | rfl | rfl
    · refine WP.skip ?_
      refine WP.seq ?_
      refine WP.block ?_
      refine WP.seq ?_
      refine WP.region ?_
      refine Ops.y (v := .int .i64 _) (Y.move rfl) ?_
      refine Ops.y (v := .pointer (some ⟨_, _, none⟩)) (Y.idx Tryz.underlying62 Tryz.sizeOf3 rfl rfl (by omega) (by omega)) ?_
      refine Ops.y (v := .int .i64 _) (Y.loadv ty_3 rfl (h1.one (i := 0) (x := .int .i64 x.x0) rfl) rfl rfl) ?_
      refine Ops.y (v := .int .i64 _) (Y.assign rfl) ?_
      refine Ops.y (v := .int .i64 _) (Y.assign rfl) ?_
      refine Ops.nil ?_
      refine WP.seq ?_
      refine WP.seq ?_
      refine WP.region ?_
      refine Ops.y (v := .int .i64 _) (Y.move rfl) ?_
      refine Ops.y (v := .slice _ _ _) (Y.move rfl) ?_
      refine Ops.y (v := .int .i64 _) (Y.lens Tryz.underlying62 rfl) ?_
      refine Ops.y (v := .bool (decide _)) (Y.gei rfl rfl) ?_
      refine Ops.nil ?_
      refine WP.cond_decF rfl ((by omega)) ?_
      refine WP.skip ?_
      refine WP.seq ?_
      refine WP.region ?_
      refine Ops.y (v := .slice _ _ _) (Y.move rfl) ?_
      refine Ops.y (v := .int .i64 _) (Y.move rfl) ?_
      refine Ops.y (v := .pointer (some ⟨_, _, none⟩)) (Y.idx Tryz.underlying62 Tryz.sizeOf3 rfl rfl (by omega) (by omega)) ?_
      refine Ops.y (v := .int .i64 _) (Y.loadv ty_3 rfl (h2.one (i := 0) (x := .int .i64 y.x0) rfl) rfl rfl) ?_
      refine Ops.y (v := .int .i64 _) (Y.assign rfl) ?_
      refine Ops.nil ?_
      refine WP.seq ?_
      refine WP.region ?_
      refine Ops.y (v := .int .i64 _) (Y.move rfl) ?_
      refine Ops.y (v := .int .i64 _) (Y.move rfl) ?_
      refine Ops.go (O.calls Tryz.call104 (Compare_x x.x0 y.x0 _) rfl ?_)
      rintro ed w' ⟨rfl, rfl⟩
      refine ⟨_, rfl, ?_⟩
      refine Ops.y (v := .int .i64 _) (Y.assign rfl) ?_
      refine Ops.nil ?_
      refine WP.seq ?_
      refine WP.region ?_
      refine Ops.y (v := .int .i64 _) (Y.move rfl) ?_
      refine Ops.y (v := .bool (decide _)) (Y.nei rfl rfl) ?_
      refine Ops.nil ?_
      refine WP.cond_dec rfl (fun h8 => ?_) (fun h8 => ?_)
      · refine WP.seq ?_
        refine WP.region ?_
        refine Ops.y (v := .int .i64 _) (Y.move rfl) ?_
        refine Ops.y (v := .int .i64 _) (Y.assign rfl) ?_
        refine Ops.nil ?_
        refine WP.ret ?_
        repeat (first | refine thenE_ret ?_ | refine blockE_ret ?_)
        refine ⟨.inl rfl, [.int .i64 (cmpI x.x0 y.x0)], ⟨rfl, trivial⟩, ?_, rfl⟩
        simp only [tup, cmpV]
        simp_all
      · refine WP.skip ?_
        refine WP.region ?_
        refine Ops.y (v := .int .i64 _) (Y.addi rfl rfl ⟨by omega, by omega⟩) ?_
        refine Ops.y (v := .int .i64 _) (Y.move rfl) ?_
        refine Ops.nil ?_
        exact ⟨1, ⟨⟨rfl, rfl, rfl, rfl, rfl, trivial⟩, rfl, by omega, fun h => by first | omega | exact Decidable.not_not.1 h8 | exact g0 (by omega), fun h => by first | omega | exact Decidable.not_not.1 h8 | exact g1 (by omega), fun h => by first | omega | exact Decidable.not_not.1 h8⟩, by omega⟩
    · refine WP.skip ?_
      refine WP.seq ?_
      refine WP.block ?_
      refine WP.seq ?_
      refine WP.region ?_
      refine Ops.y (v := .int .i64 _) (Y.move rfl) ?_
      refine Ops.y (v := .pointer (some ⟨_, _, none⟩)) (Y.idx Tryz.underlying62 Tryz.sizeOf3 rfl rfl (by omega) (by omega)) ?_
      refine Ops.y (v := .int .i64 _) (Y.loadv ty_3 rfl (h1.one (i := 1) (x := .int .i64 x.x1) rfl) rfl rfl) ?_
      refine Ops.y (v := .int .i64 _) (Y.assign rfl) ?_
      refine Ops.y (v := .int .i64 _) (Y.assign rfl) ?_
      refine Ops.nil ?_
      refine WP.seq ?_
      refine WP.seq ?_
      refine WP.region ?_
      refine Ops.y (v := .int .i64 _) (Y.move rfl) ?_
      refine Ops.y (v := .slice _ _ _) (Y.move rfl) ?_
      refine Ops.y (v := .int .i64 _) (Y.lens Tryz.underlying62 rfl) ?_
      refine Ops.y (v := .bool (decide _)) (Y.gei rfl rfl) ?_
      refine Ops.nil ?_
      refine WP.cond_decF rfl ((by omega)) ?_
      refine WP.skip ?_
      refine WP.seq ?_
      refine WP.region ?_
      refine Ops.y (v := .slice _ _ _) (Y.move rfl) ?_
      refine Ops.y (v := .int .i64 _) (Y.move rfl) ?_
      refine Ops.y (v := .pointer (some ⟨_, _, none⟩)) (Y.idx Tryz.underlying62 Tryz.sizeOf3 rfl rfl (by omega) (by omega)) ?_
      refine Ops.y (v := .int .i64 _) (Y.loadv ty_3 rfl (h2.one (i := 1) (x := .int .i64 y.x1) rfl) rfl rfl) ?_
      refine Ops.y (v := .int .i64 _) (Y.assign rfl) ?_
      refine Ops.nil ?_
      refine WP.seq ?_
      refine WP.region ?_
      refine Ops.y (v := .int .i64 _) (Y.move rfl) ?_
      refine Ops.y (v := .int .i64 _) (Y.move rfl) ?_
      refine Ops.go (O.calls Tryz.call104 (Compare_x x.x1 y.x1 _) rfl ?_)
      rintro ed w' ⟨rfl, rfl⟩
      refine ⟨_, rfl, ?_⟩
      refine Ops.y (v := .int .i64 _) (Y.assign rfl) ?_
      refine Ops.nil ?_
      refine WP.seq ?_
      refine WP.region ?_
      refine Ops.y (v := .int .i64 _) (Y.move rfl) ?_
      refine Ops.y (v := .bool (decide _)) (Y.nei rfl rfl) ?_
      refine Ops.nil ?_
      refine WP.cond_dec rfl (fun h8 => ?_) (fun h8 => ?_)
      · refine WP.seq ?_
        refine WP.region ?_
        refine Ops.y (v := .int .i64 _) (Y.move rfl) ?_
        refine Ops.y (v := .int .i64 _) (Y.assign rfl) ?_
        refine Ops.nil ?_
        refine WP.ret ?_
        repeat (first | refine thenE_ret ?_ | refine blockE_ret ?_)
        refine ⟨.inl rfl, [.int .i64 (cmpI x.x1 y.x1)], ⟨rfl, trivial⟩, ?_, rfl⟩
        simp only [tup, cmpV]
        simp_all
      · refine WP.skip ?_
        refine WP.region ?_
        refine Ops.y (v := .int .i64 _) (Y.addi rfl rfl ⟨by omega, by omega⟩) ?_
        refine Ops.y (v := .int .i64 _) (Y.move rfl) ?_
        refine Ops.nil ?_
        exact ⟨2, ⟨⟨rfl, rfl, rfl, rfl, rfl, trivial⟩, rfl, by omega, fun h => by first | omega | exact Decidable.not_not.1 h8 | exact g0 (by omega), fun h => by first | omega | exact Decidable.not_not.1 h8 | exact g1 (by omega), fun h => by first | omega | exact Decidable.not_not.1 h8⟩, by omega⟩
    · refine WP.skip ?_
      refine WP.seq ?_
      refine WP.block ?_
      refine WP.seq ?_
      refine WP.region ?_
      refine Ops.y (v := .int .i64 _) (Y.move rfl) ?_
      refine Ops.y (v := .pointer (some ⟨_, _, none⟩)) (Y.idx Tryz.underlying62 Tryz.sizeOf3 rfl rfl (by omega) (by omega)) ?_
      refine Ops.y (v := .int .i64 _) (Y.loadv ty_3 rfl (h1.one (i := 2) (x := .int .i64 x.x2) rfl) rfl rfl) ?_
      refine Ops.y (v := .int .i64 _) (Y.assign rfl) ?_
      refine Ops.y (v := .int .i64 _) (Y.assign rfl) ?_
      refine Ops.nil ?_
      refine WP.seq ?_
      refine WP.seq ?_
      refine WP.region ?_
      refine Ops.y (v := .int .i64 _) (Y.move rfl) ?_
      refine Ops.y (v := .slice _ _ _) (Y.move rfl) ?_
      refine Ops.y (v := .int .i64 _) (Y.lens Tryz.underlying62 rfl) ?_
      refine Ops.y (v := .bool (decide _)) (Y.gei rfl rfl) ?_
      refine Ops.nil ?_
      refine WP.cond_decF rfl ((by omega)) ?_
      refine WP.skip ?_
      refine WP.seq ?_
      refine WP.region ?_
      refine Ops.y (v := .slice _ _ _) (Y.move rfl) ?_
      refine Ops.y (v := .int .i64 _) (Y.move rfl) ?_
      refine Ops.y (v := .pointer (some ⟨_, _, none⟩)) (Y.idx Tryz.underlying62 Tryz.sizeOf3 rfl rfl (by omega) (by omega)) ?_
      refine Ops.y (v := .int .i64 _) (Y.loadv ty_3 rfl (h2.one (i := 2) (x := .int .i64 y.x2) rfl) rfl rfl) ?_
      refine Ops.y (v := .int .i64 _) (Y.assign rfl) ?_
      refine Ops.nil ?_
      refine WP.seq ?_
      refine WP.region ?_
      refine Ops.y (v := .int .i64 _) (Y.move rfl) ?_
      refine Ops.y (v := .int .i64 _) (Y.move rfl) ?_
      refine Ops.go (O.calls Tryz.call104 (Compare_x x.x2 y.x2 _) rfl ?_)
      rintro ed w' ⟨rfl, rfl⟩
      refine ⟨_, rfl, ?_⟩
      refine Ops.y (v := .int .i64 _) (Y.assign rfl) ?_
      refine Ops.nil ?_
      refine WP.seq ?_
      refine WP.region ?_
      refine Ops.y (v := .int .i64 _) (Y.move rfl) ?_
      refine Ops.y (v := .bool (decide _)) (Y.nei rfl rfl) ?_
      refine Ops.nil ?_
      refine WP.cond_dec rfl (fun h8 => ?_) (fun h8 => ?_)
      · refine WP.seq ?_
        refine WP.region ?_
        refine Ops.y (v := .int .i64 _) (Y.move rfl) ?_
        refine Ops.y (v := .int .i64 _) (Y.assign rfl) ?_
        refine Ops.nil ?_
        refine WP.ret ?_
        repeat (first | refine thenE_ret ?_ | refine blockE_ret ?_)
        refine ⟨.inl rfl, [.int .i64 (cmpI x.x2 y.x2)], ⟨rfl, trivial⟩, ?_, rfl⟩
        simp only [tup, cmpV]
        simp_all
      · refine WP.skip ?_
        refine WP.region ?_
        refine Ops.y (v := .int .i64 _) (Y.addi rfl rfl ⟨by omega, by omega⟩) ?_
        refine Ops.y (v := .int .i64 _) (Y.move rfl) ?_
        refine Ops.nil ?_
        exact ⟨3, ⟨⟨rfl, rfl, rfl, rfl, rfl, trivial⟩, rfl, by omega, fun h => by first | omega | exact Decidable.not_not.1 h8 | exact g0 (by omega), fun h => by first | omega | exact Decidable.not_not.1 h8 | exact g1 (by omega), fun h => by first | omega | exact Decidable.not_not.1 h8⟩, by omega⟩
  obtain rfl : k = 3 := by omega
  refine WP.exit ?_
  refine WP.seq ?_
  refine WP.seq ?_
  refine WP.region ?_
  refine Ops.y (v := .slice _ _ _) (Y.move rfl) ?_
  refine Ops.y (v := .int .i64 _) (Y.lens Tryz.underlying62 rfl) ?_
  refine Ops.y (v := .slice _ _ _) (Y.move rfl) ?_
  refine Ops.y (v := .int .i64 _) (Y.lens Tryz.underlying62 rfl) ?_
  refine Ops.y (v := .bool (decide _)) (Y.lti rfl rfl) ?_
  refine Ops.nil ?_
  refine WP.cond_decF rfl ((by omega)) ?_
  refine WP.skip ?_
  refine WP.seq ?_
  refine WP.region ?_
  refine Ops.y (v := .int .i64 _) (Y.assign rfl) ?_
  refine Ops.nil ?_
  refine WP.ret ?_
  repeat (first | refine thenE_ret ?_ | refine blockE_ret ?_)
  refine ⟨.inl rfl, [.int .i64 0], ⟨rfl, trivial⟩, ?_, rfl⟩
  simp only [tup, cmpV]
  rw [if_neg (by simp [g0]), if_neg (by simp [g1]), g2 (by omega)]
section
variable {P : Program} {e : Env} {w : World} {t : TypeId} {pos : String} {af : Array Edge} {g : Option (Nat × Bool)} {d : Option Nat} {K : Value → World → Prop}
theorem X.box {T : TypeId} {x : Operand} {v : Value} {cs : List Value} (hx : ev e x = v) (hc : v.cells = cs.toArray) (k : K (.pointer (some ⟨w.heap.size, 0, none⟩)) (w.alloc (.cells cs.toArray T))) : Op1 P ⟨d, .box T x, t, pos, af, g⟩ e w K := by
  have : (execOp (ev e) ⟨d, .box T x, t, pos, af, g⟩).run P w = .ok (.value (.pointer (some ⟨w.heap.size, 0, none⟩))) (w.alloc (.cells cs.toArray T)) := by
    simp [execOp, Instr.box, hx, newVar, newRow, hc]
  unfold Op1
  rw [this]
  exact k
theorem Y.slicearr {T el n k b o : Nat} {x : Operand} (hT : Und P T (.array n el)) (hk : ∀ w, (sizeOf el).run P w = .ok k w) (hx : ev e x = .pointer (some ⟨b, o, none⟩)) : Y P ⟨d, .slice T x none none none, t, pos, af, g⟩ e w (.slice (some ⟨b, o, none⟩) n n) := by
  simp [Y, execOp, hx, Instr.sliceAt, Instr.sureAddr, Instr.sliceBounds, run_underlying hT, hk, addr_add]
theorem WP.regionC {N : Nat} {D : List Deferred} {Q : Exit → Env → World → Prop} {id : Nat} {ops : Array Oper} {C : World → Prop} (hm : Mixed P) (hC : C w.drew) (hB : Region.lexB .any ops = true)
    (k : OpsQ P ops C ops.toList e (fun e' => ∀ w', C w' → Q .normal e' w')) : WP P N D (.region id ops true) e w Q := by
  intro hs a h1 h2 h3
  subst h3
  refine wp_region_quiet (C := C) hm hB hC ?_
  exact OpsQ.sound _ a _ _ hs h1 h2 (fun a' g1 g2 g3 w' hw' => ⟨g1, g2, g3 w' hw'⟩) k
theorem QC.calls {C : World → Prop} {f : FuncId} {args : Array Operand} {ts : Array TypeId} {vs : List Value} {r : Value} (hf : Enters P f) (hc : Calls P f vs.toArray w (fun ed w' => ed = .returned r ∧ w' = w)) (hC : C w) (ha : args.toList.map (ev e) = vs) :
    QC P C ⟨d, .call { callee := .value (.func f), args := args, argTypes := ts }, t, pos, af, g⟩ e w r := by
  have ha' : args.map (ev e) = vs.toArray := by rw [← ha]; apply Array.ext'; simp
  have : (execOp (ev e) ⟨d, .call { callee := .value (.func f), args := args, argTypes := ts }, t, pos, af, g⟩).run P w = .ok (.enter f vs.toArray) w := by
    simp [execOp, resolve, ev, Deferred.ofValue, invoke, ha', hf]
  unfold QC
  rw [this]
  exact ⟨rfl, Calls.mono hc fun _ _ ⟨h1, h2⟩ => ⟨h1, h2 ▸ hC⟩⟩
end
theorem Steps2_x (x y : Stp) (W : World) : Calls Tryz.prog 100 [x.val, y.val].toArray W (fun ed w' => ed = .returned (.int .i64 (cmpV x.vars y.vars)) ∧ ∃ q os', w' = Sort.grow (W.drewN q) os') := by
  refine Calls.ofWP (args := [x.val, y.val]) Tryz.func100 rfl Tryz.ntmps100 (by kernel_rfl) (by simp) ?_
  intro e
  refine WP.seq ?_
  refine WP.region ?_
  refine Ops.go (X.box (v := .agg #[_, _, _, _]) rfl rfl ?_)
  refine Ops.go (X.box (v := .agg #[_, _, _, _]) rfl rfl ?_)
  refine Ops.y (v := .int .i64 _) (Y.assign rfl) ?_
  refine Ops.nil ?_
  generalize hW1 : W.alloc (.cells x.enc.toArray 80) = W1
  have hs1 : W1.heap.size = W.heap.size + 1 := by rw [← hW1, Sort.alloc_eq_grow, Sort.size_grow]; rfl
  generalize hW2 : W1.alloc (.cells y.enc.toArray 80) = W2
  have hb1 : W2.heap[W.heap.size]? = some (.cells x.enc.toArray 80 (0, 0)) := by rw [← hW2, (Grow.alloc W1 _).block _ (by omega), ← hW1]; exact heap_alloc_new W _
  have hb2 : W2.heap[W1.heap.size]? = some (.cells y.enc.toArray 80 (0, 0)) := by rw [← hW2]; exact heap_alloc_new W1 _
  have hC0 : (fun w' => ∃ q, w' = W2.drewN q) W2.drew := ⟨1, rfl⟩
  refine WP.seq ?_
  refine WP.regionC (C := fun w' => ∃ q, w' = W2.drewN q) mixed hC0 (by kernel_rfl) ?_
  refine OpsQ.y (v := .pointer (some ⟨_, _, none⟩)) (fun w I => Y.fa fa_80_1 rfl) ?_
  refine OpsQ.y (v := .slice _ _ _) (fun w I => Y.slicearr Tryz.underlying78 Tryz.sizeOf3 rfl) ?_
  refine OpsQ.y (v := .pointer (some ⟨_, _, none⟩)) (fun w I => Y.fa fa_80_1 rfl) ?_
  refine OpsQ.y (v := .slice _ _ _) (fun w I => Y.slicearr Tryz.underlying78 Tryz.sizeOf3 rfl) ?_
  refine OpsQ.c (fun w hw => QC.calls Tryz.call101 ((by obtain ⟨q, rfl⟩ := hw; exact SCompare_x x.vars y.vars W.heap.size W1.heap.size 1 1 _ (rd_box (w := W2.drewN q) hb1 1 3) (rd_box (w := W2.drewN q) hb2 1 3))) hw rfl) ?_
  refine OpsQ.y (v := .int .i64 _) (fun w I => Y.assign rfl) ?_
  refine OpsQ.nil ?_
  intro w I
  obtain ⟨q, rfl⟩ := I
  refine WP.ret ?_
  repeat (first | refine thenE_ret ?_ | refine blockE_ret ?_)
  refine ⟨.inl rfl, [.int .i64 (cmpV x.vars y.vars)], ⟨rfl, trivial⟩, rfl, q, #[.cells x.enc.toArray 80 (0, 0), .cells y.enc.toArray 80 (0, 0)], ?_⟩
  rw [← hW2, ← hW1, Sort.alloc_eq_grow, Sort.alloc_eq_grow, Sort.grow_grow]
  rfl
end Go.TF
end
section
/- slices.SortFunc and CompactFunc of steps. -/
namespace Go.TF
open Go Go.RowKit Go.Proofs
set_option maxRecDepth 20000

def stpCmp (x y : Stp) : Int := cmpV x.vars y.vars
theorem stp_swo : Sort.SWO (ltOf stpCmp) where
  irrefl x := by simp only [ltOf, stpCmp, cmpV_neg]; exact decide_eq_false (ltV_irrefl _)
  trans x y z h1 h2 := by
    simp only [ltOf, stpCmp, cmpV_neg, decide_eq_true_eq] at *
    exact ltV_trans h1 h2
  ntrans x y z h1 h2 := by
    simp only [ltOf, stpCmp, cmpV_neg, decide_eq_false_iff_not] at *
    unfold ltV at *; omega
theorem stp_len (x : Stp) : x.enc.length = 4 := rfl
theorem flatK_eq (xs : List Stp) : Sort.flatK Stp.enc 4 xs.toArray = (xs.flatMap Stp.enc).toArray := by
  have hl := flat_len stp_len xs
  refine Sort.ext_get! (by simp [hl]) fun t ht => ?_
  have ht' : t < xs.length * 4 := by simpa using ht
  rw [Sort.get_flatK _ _ _ t (by simpa using ht')]
  have hv : (xs.flatMap Stp.enc)[t]? = some ((xs.flatMap Stp.enc)[t]'(by rw [hl]; exact ht')) := List.getElem?_eq_getElem _
  obtain ⟨x, h1, h2⟩ := flat_at stp_len (by decide) xs t _ hv
  have e1 : xs.toArray[t / 4]! = x := by simp [getElem!_def, h1]
  rw [e1]
  simp [getElem!_def, h2, hv]
theorem take_put (F : Array Value) (cur : Array Value) (h : F.size ≤ cur.size) : (Sort.putCells id 0 F cur).toList.take F.size = F.toList := by
  apply List.ext_getElem?
  intro j
  rw [List.getElem?_take]
  split
  · rename_i hj
    simp only [Sort.putCells, Array.getElem?_toList, Array.getElem?_mapIdx]
    have : j < cur.size := by omega
    simp [this, hj]
  · rename_i hj
    simp; omega
/-- Sorted by their variables. -/
abbrev SrtS (xs : List Stp) : Prop := xs.Pairwise fun x y => ¬ ltV y.vars x.vars
theorem sort_ok {B : Base} {h : Heap} {M : List SA} {w : World} {a : Option Addr} {c m : Nat} {xs : List Stp} (I : Inv B h (ownSl 80 4 (.slice a m c) m (xs.flatMap Stp.enc) :: M) w) (hm : m = xs.length) (hsz : m ≤ 1000000000) :
    Calls Tryz.prog 99 [.slice a m c, .func (.func 100) #[] #[]].toArray w
      (fun ed w' => ed = .returned (.tuple #[]) ∧ ∃ ys, ys.Perm xs ∧ SrtS ys ∧ Inv B h (ownSl 80 4 (.slice a m c) m (ys.flatMap Stp.enc) :: M) w') := by
  rcases (I.at 0 rfl).2 with ⟨h0, hn⟩ | ⟨g, cap, cur, he, _, hg, hnc, hcm, hcs, ht⟩
  · injection h0 with e1 e2 e3
    subst e1; subst e2; subst e3
    have hx : xs = [] := List.eq_nil_of_length_eq_zero hm.symm
    subst hx
    refine Calls.mono (AnyF.slices_SortFunc_none Tryz.sortStp none 0 (.func (.func 100) #[] #[]) w) ?_
    rintro ed w' ⟨rfl, rfl⟩
    exact ⟨rfl, [], List.Perm.refl _, List.Pairwise.nil, I⟩
  · injection he with e1 e2 e3
    subst e1; subst e3
    have hfl := flat_len stp_len xs
    have hcell : ∀ j, j < (xs.flatMap Stp.enc).length → w.cell? ⟨g, 0 + j, none⟩ = (xs.flatMap Stp.enc)[j]? := fun j hj => by
      have hc : w.cell? ⟨g, 0 + j, none⟩ = cur[j]? := by simp [World.cell?, hg]
      have h2 : (cur.toList.take (m * 4))[j]? = cur[j]? := by
        rw [List.getElem?_take, if_pos (by rw [hfl] at hj; rw [hm]; exact hj)]; simp
      rw [hc, ← h2, ht]
    have hH : Sort.HoldsK Stp.enc 4 w g 0 xs.toArray := by
      unfold Sort.HoldsK
      rw [flatK_eq]
      intro j hj
      have hj' : j < (xs.flatMap Stp.enc).length := by simpa using hj
      refine ⟨?_, by simp [World.frozen?, hg]⟩
      rw [hcell j hj']
      simp [getElem!_def, List.getElem?_eq_getElem hj']
    have hcon := AnyQ.slices_SortFunc Tryz.sortStp 4 (ty_80).agg Tryz.sizeOf80 Stp.enc stp_len (fun x v hv => by simp only [Stp.enc, List.mem_cons, List.not_mem_nil, or_false] at hv; rcases hv with rfl | rfl | rfl | rfl <;> rfl) stpCmp stp_swo 100 #[] g 0 c xs.toArray w Tryz.call100 (fun mm os dk _ x y => Steps2_x x y _) hH (by have := (Array.getElem?_eq_some_iff.1 hg).1; exact this) (by simp only [List.size_toArray]; omega)
    rw [show xs.toArray.size = m from by simp [hm]] at hcon
    refine Calls.mono hcon ?_
    rintro ed w' ⟨rfl, d', n, os, hp, hs, rfl⟩
    have hpl : d'.size = m := by have := hp.1; simpa [hm] using this
    have hperm : d'.toList.Perm xs := by
      have := hp.2.2
      have e1 : d'.extract 0 m = d' := by rw [← hpl]; simp
      have e2 : xs.toArray.extract 0 m = xs.toArray := by rw [hm]; simp
      rw [e1, e2] at this
      simpa using this
    refine ⟨rfl, d'.toList, hperm, ?_, ?_⟩
    · show List.Pairwise _ _
      rw [List.pairwise_iff_getElem]
      intro i j hi hj hij
      have hi' : i < d'.size := by simpa using hi
      have hj' : j < d'.size := by simpa using hj
      have := hs i j (Nat.zero_le _) hij (by rw [← hpl]; exact hj')
      simp only [ltOf, stpCmp, cmpV_neg, decide_eq_false_iff_not] at this
      rw [getElem!_pos d' i hi', getElem!_pos d' j hj'] at this
      simpa using this
    · have hF : Sort.flatK Stp.enc 4 d' = (d'.toList.flatMap Stp.enc).toArray := by have := flatK_eq d'.toList; simpa using this
      have hFs : (Sort.flatK Stp.enc 4 d').size = m * 4 := by rw [Sort.size_flatK, hpl]
      have hmk : m * 4 ≤ cur.size := by rw [hcs]; exact Nat.mul_le_mul_right _ hnc
      refine I.stepAt 0 rfl rfl rfl rfl ?_ (fun b hb hnb => ?_) ?_ (fun b hb => ?_)
      · simp [sortWorldK, Sort.putRowK, Sort.putRow, Sort.mapBlock, Sort.grow, Sort.ahead]
      · have hne : b ≠ g := fun e => hnb (by simp [ownSl, Value.ownBlock, e])
        simp only [sortWorldK, Sort.putRowK, Sort.putRow, Sort.mapBlock, Sort.grow, Sort.ahead]
        rw [Array.getElem?_append_left (by simpa using hb), Array.getElem?_modify, if_neg (Ne.symm hne)]
      · refine ⟨by rw [flat_len stp_len]; simp [hpl], .inr ⟨g, c, Sort.putCells id 0 (Sort.flatK Stp.enc 4 d') cur, rfl, Nat.zero_le _, ?_, hnc, hcm, ?_, ?_⟩⟩
        · simp only [sortWorldK, Sort.putRowK, Sort.putRow, Sort.mapBlock, Sort.grow, Sort.ahead]
          have hlt := (Array.getElem?_eq_some_iff.1 hg).1
          rw [Array.getElem?_append_left (by simpa using hlt), Array.getElem?_modify, if_pos rfl, hg]
          rfl
        · simp [Sort.putCells, hcs]
        · have := take_put (Sort.flatK Stp.enc 4 d') cur (by rw [hFs]; exact hmk)
          rw [hFs, hF] at this
          rw [hF]; simpa using this
      · have : b = g := by simpa [ownSl, Value.ownBlock] using hb
        subst this
        refine ⟨.inl (by simp [ownSl, Value.ownBlock]), ?_⟩
        have hlt := (Array.getElem?_eq_some_iff.1 hg).1
        simp only [sortWorldK, Sort.putRowK, Sort.putRow, Sort.mapBlock, Sort.grow, Sort.ahead, Array.size_append, Array.size_modify]
        omega
end Go.TF
end
section
/- slices.CompactFunc of steps. -/
namespace Go.TF
open Go Go.RowKit Go.Proofs
set_option maxRecDepth 20000

section
variable {P : Program} {e : Env} {w : World} {B : Base} {h : Heap} {M : List SA} {t : TypeId} {pos : String} {af : Array Edge} {g : Option (Nat × Bool)} {d : Option Nat} {K : Value → World → Prop}
/-- Cells of what is owned are stored. -/
theorem O.storeE {T el k bytes gg n cap o m : Nat} {ag : Bool} {z v : Value} {a x : Operand} {xs vs : List Value} (I : Inv B h M w) (hT : Ty P T m ag) (he : ElT P el k bytes z) (n0 : Nat) (hn : M[n0]? = some (ownSl el k (.slice (some ⟨gg, 0, none⟩) n cap) n xs))
    (ha : ev e a = .pointer (some ⟨gg, o, none⟩)) (hx : ev e x = v) (hv : v.cells = vs.toArray) (hl : vs.length = m) (h1 : oneCells vs = true) (ho : o + vs.length ≤ xs.length) (kk : ∀ w', Inv B h (M.set n0 (ownSl el k (.slice (some ⟨gg, 0, none⟩) n cap) n (over xs o vs))) w' → K undef w') :
    Op1 P ⟨d, .store T a x, t, pos, af, g⟩ e w K := by
  obtain ⟨ii, hi, hz, hsz, hby⟩ := he.info'
  subst hsz
  have hp : w.ownsRow 0 el ii.size (.slice (some ⟨gg, 0, none⟩) n cap) n xs := I.at n0 hn
  have hfp := (I.own _ (List.mem_of_getElem? hn)).2 gg (by simp [ownSl, Value.ownBlock])
  rcases hp.2 with ⟨h0, _⟩ | ⟨g', cap', cur, he', hb, hg, hnc, hcm, hcs, ht⟩
  · cases h0
  injection he' with e1 e2 e3; injection e1 with e1; injection e1 with e1; subst e1; subst e3
  have hnk : n * ii.size ≤ cap * ii.size := Nat.mul_le_mul_right _ hnc
  have hxl := hp.1
  have hone : ∀ u ∈ vs, u.oneCell' = true := fun u hu => by
    simp only [oneCells, List.all_eq_true] at h1
    exact h1 u hu
  have hst := run_storeCells_at P gg o el vs 0 cur w hg (by rw [hcs]; omega) hone
  simp only [Nat.add_zero] at hst
  have hA : (execOp (ev e) ⟨d, .store T a x, t, pos, af, g⟩).run P w = .ok .skip (w.setRow gg (cur.toList.take o ++ vs ++ cur.toList.drop (o + vs.length)).toArray) := by
    simp [execOp, Instr.storeAt, Instr.sureAddr, ha, hx, storeVar, hv, hT.size, hl, hst]
  unfold Op1
  rw [hA]
  have hcl : cur.toList.length = cap * ii.size := by rw [Array.length_toList, hcs]
  refine kk _ (I.stepAt n0 hn rfl rfl rfl (by simp) (fun b hb hnb => setRow_other w gg b _ (fun e => hnb (by simp [ownSl, Value.ownBlock, e]))) ?_ (fun b hb => ?_))
  · refine ⟨?_, .inr ⟨gg, cap, _, rfl, hb, setRow_heap w gg cur _ el _ hg, hnc, hcm, ?_, ?_⟩⟩
    · rw [over_len ho, hp.1]
    · simp only [List.size_toArray, List.length_append, List.length_take, List.length_drop, hcl]
      omega
    · rw [over_take _ _ _ _ (by omega) (by rw [hcl]; exact hnk), ht]
  · have : b = gg := by simpa [ownSl, Value.ownBlock] using hb
    subst this
    exact ⟨.inl (by simp [ownSl, Value.ownBlock]), by simpa using hfp.2.1⟩
end
theorem Inv.rdE {B : Base} {h : Heap} {M : List SA} {w : World} {T gg n cap : Nat} {zs : List Stp} (I : Inv B h M w) (n0 : Nat) (hn : M[n0]? = some (ownSl T 4 (.slice (some ⟨gg, 0, none⟩) n cap) n (zs.flatMap Stp.enc))) {i o : Nat} {y : Stp} (hy : zs[i]? = some y) (ho : o = i * 4) : Rd w gg o y.enc := by
  subst ho
  intro j v hj
  have hp : w.ownsRow 0 T 4 (.slice (some ⟨gg, 0, none⟩) n cap) n (zs.flatMap Stp.enc) := I.at n0 hn
  have := hp.cells (g := gg) rfl (i * 4 + j) v (flat_get stp_len zs i j y v hy hj)
  rwa [addr_add, Nat.zero_add] at this
theorem flat_over (zs : List Stp) (k : Nat) (y : Stp) (hk : k < zs.length) : over (zs.flatMap Stp.enc) (k * 4) y.enc = (zs.set k y).flatMap Stp.enc := by
  unfold over
  rw [flat_take stp_len, stp_len, show k * 4 + 4 = (k + 1) * 4 by omega, flat_drop stp_len, List.set_eq_take_append_cons_drop, if_pos hk, List.flatMap_append, List.flatMap_cons, List.append_assoc]
theorem eqarr (a b : Vrs) (w : World) : (Op.equalIn 10000 78 (.agg #[.int .i64 a.x0, .int .i64 a.x1, .int .i64 a.x2]) (.agg #[.int .i64 b.x0, .int .i64 b.x1, .int .i64 b.x2])).run Tryz.prog w = .ok (decide (a = b)) w := by
  obtain ⟨i, hi⟩ : ∃ i, Tryz.prog.info? 3 = some i := by
    have := (ty_3).size 
    cases hh : Tryz.prog.info? 3 with
    | some i => exact ⟨i, rfl⟩
    | none => have := this w; simp [sizeOf, typeInfo, hh] at this
  have hc : Tryz.prog.cellsOf 3 = 1 := by kernel_rfl
  have p : ∀ (cs : Array Value) (o : Nat) v, cs[o]? = some v → (Go.part 3 cs o).run Tryz.prog w = .ok v w := fun cs o v hv => part_leaf (ty_3).agg hv w
  rw [show 10000 = 9998 + 1 + 1 from rfl, run_equalIn_array w (9998 + 1) _ _ Tryz.underlying78 hi, hc]
  have r3 : List.range 3 = [0, 1, 2] := rfl
  simp only [r3, Op.eqItems]
  obtain ⟨a0, a1, a2⟩ := a; obtain ⟨b0, b1, b2⟩ := b
  have hd : decide ((⟨a0, a1, a2⟩ : Vrs) = ⟨b0, b1, b2⟩) = ((a0 == b0) && ((a1 == b1) && (a2 == b2))) := by
    rw [Bool.eq_iff_iff]; simp
  rw [hd]
  cases h0 : (a0 == b0) <;> cases h1 : (a1 == b1) <;> cases h2 : (a2 == b2) <;> simp [p, run_equalIn_int w _ 3 .i64 .i64 _ _ Tryz.underlying3, h0, h1, h2]
theorem Steps3_ok (B : Base) (hB : B.ok) (x y : Stp) : Fn Tryz.prog 103 [x.val, y.val] B (fun v _ => v = .bool (decide (x = y))) := by
  by_cases hr : cmpI x.rule y.rule = 0
  · refine Fn.of Tryz.func103 rfl Tryz.ntmps103 (by kernel_rfl) (by simp) ?_
    intro e
    have I := Inv.start hB
    refine WP.seq ?_
    refine WP.region ?_
    refine Ops.go (O.box (v := .agg #[_, _, _, _]) I rfl rfl ?_)
    intro b2 w I
    refine Ops.go (O.box (v := .agg #[_, _, _, _]) I rfl rfl ?_)
    intro b3 w I
    refine Ops.y (v := .bool _) (Y.assign rfl) ?_
    refine Ops.nil ?_
    refine WP.seq ?_
    refine WP.region ?_
    refine Ops.y (v := .pointer (some ⟨_, _, none⟩)) (Y.fa0 fa_80_0 rfl) ?_
    refine Ops.y (v := .int .i64 _) (Y.loadv ty_3 rfl (I.rdbox 1 rfl 0 1) rfl rfl) ?_
    refine Ops.y (v := .pointer (some ⟨_, _, none⟩)) (Y.fa0 fa_80_0 rfl) ?_
    refine Ops.y (v := .int .i64 _) (Y.loadv ty_3 rfl (I.rdbox 0 rfl 0 1) rfl rfl) ?_
    refine Ops.go (O.callv I Tryz.call104 (Compare_ok _ I.base_ok _ _) rfl ?_)
    intro w I
    refine Ops.y (v := .bool true) (Y.dec_t (Y.eqi rfl rfl) (hr)) ?_
    refine Ops.y (v := .bool _) (Y.move rfl) ?_
    refine Ops.ygt rfl (v := .pointer (some ⟨_, _, none⟩)) (Y.fa fa_80_1 rfl) ?_
    refine Ops.ygt rfl (v := .agg #[_, _, _]) (Y.loadv ty_78 rfl (I.rdbox 1 rfl 1 3) rfl rfl) ?_
    refine Ops.ygt rfl (v := .pointer (some ⟨_, _, none⟩)) (Y.fa fa_80_1 rfl) ?_
    refine Ops.ygt rfl (v := .agg #[_, _, _]) (Y.loadv ty_78 rfl (I.rdbox 0 rfl 1 3) rfl rfl) ?_
    refine Ops.ygt rfl (v := .bool _) (Y.eqst (by kernel_rfl) (eqarr x.vars y.vars) rfl rfl) ?_
    refine Ops.y (v := .bool _) (Y.pick_t rfl rfl) ?_
    refine Ops.y (v := .bool _) (Y.assign rfl) ?_
    refine Ops.nil ?_
    refine WP.ret ?_
    repeat (first | refine thenE_ret ?_ | refine blockE_ret ?_)
    exact retQ.mk (vs := [.bool _]) rfl ⟨rfl, trivial⟩ I.ext_of (by simp only [tup]; congr 1; rw [decide_eq_decide]; have := cmpI_zero.1 hr; cases x; cases y; simp_all)
  · refine Fn.of Tryz.func103 rfl Tryz.ntmps103 (by kernel_rfl) (by simp) ?_
    intro e
    have I := Inv.start hB
    refine WP.seq ?_
    refine WP.region ?_
    refine Ops.go (O.box (v := .agg #[_, _, _, _]) I rfl rfl ?_)
    intro b2 w I
    refine Ops.go (O.box (v := .agg #[_, _, _, _]) I rfl rfl ?_)
    intro b3 w I
    refine Ops.y (v := .bool _) (Y.assign rfl) ?_
    refine Ops.nil ?_
    refine WP.seq ?_
    refine WP.region ?_
    refine Ops.y (v := .pointer (some ⟨_, _, none⟩)) (Y.fa0 fa_80_0 rfl) ?_
    refine Ops.y (v := .int .i64 _) (Y.loadv ty_3 rfl (I.rdbox 1 rfl 0 1) rfl rfl) ?_
    refine Ops.y (v := .pointer (some ⟨_, _, none⟩)) (Y.fa0 fa_80_0 rfl) ?_
    refine Ops.y (v := .int .i64 _) (Y.loadv ty_3 rfl (I.rdbox 0 rfl 0 1) rfl rfl) ?_
    refine Ops.go (O.callv I Tryz.call104 (Compare_ok _ I.base_ok _ _) rfl ?_)
    intro w I
    refine Ops.y (v := .bool false) (Y.dec_f (Y.eqi rfl rfl) (hr)) ?_
    refine Ops.y (v := .bool _) (Y.move rfl) ?_
    refine Ops.gf rfl ?_
    refine Ops.gf rfl ?_
    refine Ops.gf rfl ?_
    refine Ops.gf rfl ?_
    refine Ops.gf rfl ?_
    refine Ops.y (v := .bool _) (Y.pick_f rfl rfl) ?_
    refine Ops.y (v := .bool _) (Y.assign rfl) ?_
    refine Ops.nil ?_
    refine WP.ret ?_
    repeat (first | refine thenE_ret ?_ | refine blockE_ret ?_)
    exact retQ.mk (vs := [.bool _]) rfl ⟨rfl, trivial⟩ I.ext_of (by simp only [tup]; rw [decide_eq_false]; intro e; exact hr (cmpI_zero.2 (by rw [e])))
/-! ### Each once -/
def cpt : Stp → List Stp → List Stp
  | _, [] => []
  | p, y :: r => if y = p then cpt y r else y :: cpt y r
def compactS : List Stp → List Stp
  | [] => []
  | x :: r => x :: cpt x r
theorem cpt_snoc : ∀ (r : List Stp) (p y : Stp), cpt p (r ++ [y]) = cpt p r ++ if y = (p :: r).getLast (by simp) then [] else [y]
  | [], p, y => by by_cases h : y = p <;> simp [cpt, h]
  | z :: r, p, y => by
    rw [List.cons_append, cpt, cpt, cpt_snoc r z y]
    have : (p :: z :: r).getLast (by simp) = (z :: r).getLast (by simp) := by simp
    rw [this]
    split <;> simp
theorem compact_snoc {xs : List Stp} (y : Stp) (h : xs ≠ []) : compactS (xs ++ [y]) = compactS xs ++ if y = xs.getLast h then [] else [y] := by
  cases xs with
  | nil => exact absurd rfl h
  | cons x r => rw [List.cons_append, compactS, compactS, cpt_snoc]; rfl
theorem compact_take {xs : List Stp} {k : Nat} (h0 : 0 < k) (hk : k < xs.length) : compactS (xs.take (k + 1)) = compactS (xs.take k) ++ if xs[k] = xs[k - 1] then [] else [xs[k]] := by
  have hne : xs.take k ≠ [] := by intro e; have := congrArg List.length e; rw [List.length_take, List.length_nil] at this; omega
  have hl : (xs.take k).getLast hne = xs[k - 1] := by
    rw [List.getLast_eq_getElem]
    simp only [List.length_take, List.getElem_take]
    congr 1; omega
  rw [List.take_succ_eq_append_getElem hk, compact_snoc _ hne, hl]
theorem compact_same {xs : List Stp} (k : Nat) (hk : k ≤ xs.length) (h : ∀ j, 0 < j → j < k → ∀ hj : j < xs.length, xs[j] ≠ xs[j - 1]) : compactS (xs.take k) = xs.take k := by
  induction k with
  | zero => simp [compactS]
  | succ k ih =>
    by_cases h0 : k = 0
    · subst h0
      cases xs with
      | nil => simp at hk
      | cons x r => simp [compactS, cpt]
    · rw [compact_take (k := k) (by omega) (by omega), ih (by omega) (fun j a b c => h j a (by omega) c), if_neg (h k (by omega) (by omega) (by omega))]
      exact (List.take_succ_eq_append_getElem _).symm
theorem take_set_self (zs : List Stp) (q : Nat) (y : Stp) : (zs.set q y).take q = zs.take q := by
  apply List.ext_getElem?
  intro j
  rw [List.getElem?_take, List.getElem?_take]
  split
  · rw [List.getElem?_set_ne (by omega)]
  · rfl
theorem cpt_len : ∀ (r : List Stp) (p : Stp), (cpt p r).length ≤ r.length
  | [], p => by simp [cpt]
  | y :: r, p => by rw [cpt]; split <;> simp only [List.length_cons] <;> have := cpt_len r y <;> omega
theorem compact_len (xs : List Stp) : (compactS xs).length ≤ xs.length := by
  cases xs with
  | nil => simp [compactS]
  | cons x r => simp only [compactS, List.length_cons]; have := cpt_len r x; omega
set_option maxHeartbeats 8000000 in
theorem Compact_ok {B : Base} {h : Heap} {M : List SA} {w : World} {a : Option Addr} {c m : Nat} {xs : List Stp} (I : Inv B h (ownSl 80 4 (.slice a m c) m (xs.flatMap Stp.enc) :: M) w) (hm : m = xs.length) (hsz : m ≤ 1000000000) :
    Calls Tryz.prog 102 [.slice a m c, .func (.func 103) #[] #[]].toArray w
      (fun ed w' => ∃ a' c' m', ed = .returned (.slice a' m' c') ∧ m' = (compactS xs).length ∧ Inv B h (ownSl 80 4 (.slice a' m' c') m' ((compactS xs).flatMap Stp.enc) :: M) w') := by
  by_cases hlt : m < 2
  · have hcx : compactS xs = xs := by
      have := compact_same (xs := xs) xs.length (Nat.le_refl _) (fun j h0 hj hj' => by omega)
      rwa [List.take_length] at this
    refine Calls.ofWP (args := [.slice a m c, .func (.func 103) #[] #[]]) Tryz.func102 rfl Tryz.ntmps102 (by kernel_rfl) (by simp) ?_
    intro e
    refine WP.seq ?_
    refine WP.region ?_
    refine Ops.y (v := .slice _ _ _) (Y.assign rfl) ?_
    refine Ops.nil ?_
    refine WP.seq ?_
    refine WP.seq ?_
    refine WP.region ?_
    refine Ops.y (v := .slice _ _ _) (Y.move rfl) ?_
    refine Ops.y (v := .int .i64 _) (Y.lens Tryz.underlying74 rfl) ?_
    refine Ops.y (v := .bool (decide _)) (Y.lti rfl rfl) ?_
    refine Ops.nil ?_
    refine WP.cond_decT rfl ((by omega)) ?_
    refine WP.seq ?_
    refine WP.region ?_
    refine Ops.y (v := .slice _ _ _) (Y.move rfl) ?_
    refine Ops.y (v := .slice _ _ _) (Y.assign rfl) ?_
    refine Ops.nil ?_
    refine WP.ret ?_
    repeat (first | refine thenE_ret ?_ | refine blockE_ret ?_)
    exact ⟨.inl rfl, [.slice a m c], ⟨rfl, trivial⟩, a, c, m, rfl, by rw [hcx]; exact hm, by rw [hcx]; exact I⟩
  rcases (I.at 0 rfl).2 with ⟨h0, hn⟩ | ⟨gg, cap, cur, he, _, hg, hnc, hcm, _⟩
  · injection h0 with e1 e2 e3; omega
  injection he with e1 e2 e3
  subst e1; subst e3
  simp only [maxLen] at hcm
  refine Calls.ofWP (args := [.slice (some ⟨gg, 0, none⟩) m c, .func (.func 103) #[] #[]]) Tryz.func102 rfl Tryz.ntmps102 (by kernel_rfl) (by simp) ?_
  intro e
  refine WP.seq ?_
  refine WP.region ?_
  refine Ops.y (v := .slice _ _ _) (Y.assign rfl) ?_
  refine Ops.nil ?_
  refine WP.seq ?_
  refine WP.seq ?_
  refine WP.region ?_
  refine Ops.y (v := .slice _ _ _) (Y.move rfl) ?_
  refine Ops.y (v := .int .i64 _) (Y.lens Tryz.underlying74 rfl) ?_
  refine Ops.y (v := .bool (decide _)) (Y.lti rfl rfl) ?_
  refine Ops.nil ?_
  refine WP.cond_decF rfl ((by omega)) ?_
  refine WP.skip ?_
  refine WP.seq ?_
  refine WP.seq ?_
  refine WP.region ?_
  refine Ops.y (v := .int .i64 _) (Y.assign rfl) ?_
  refine Ops.nil ?_
  refine WP.block ?_
  refine WP.loopE (σ := Nat) (fun k => [(0, .slice (some ⟨gg, 0, none⟩) m c), (1, .func (.func 103) #[] #[]), (5, .int .i64 k)]) (fun k w => Inv B h (ownSl 80 4 (.slice (some ⟨gg, 0, none⟩) m c) m (xs.flatMap Stp.enc) :: M) w ∧ 1 ≤ k ∧ k ≤ m ∧ ∀ j, 0 < j → j < k → ∀ hj : j < xs.length, xs[j] ≠ xs[j - 1]) (fun k => m - k)
    ⟨1, ⟨rfl, rfl, rfl, trivial⟩, I, Nat.le_refl _, by omega, fun j h0 hj => by omega⟩ ?_
  rintro k e w ⟨I, hk1, hk, hn⟩
  refine WP.seq ?_
  refine WP.seq ?_
  refine WP.region ?_
  refine Ops.y (v := .int .i64 _) (Y.move rfl) ?_
  refine Ops.y (v := .slice _ _ _) (Y.move rfl) ?_
  refine Ops.y (v := .int .i64 _) (Y.lens Tryz.underlying74 rfl) ?_
  refine Ops.y (v := .bool (decide _)) (Y.lti rfl rfl) ?_
  refine Ops.nil ?_
  refine WP.cond_dec rfl (fun h4 => ?_) (fun h4 => ?_)
  · have hk' : k < xs.length := by omega
    have g1 : xs[k]? = some xs[k] := List.getElem?_eq_getElem hk'
    have g0 : xs[k - 1]? = some xs[k - 1] := List.getElem?_eq_getElem (by omega)
    refine WP.skip ?_
    refine WP.seq ?_
    refine WP.block ?_
    refine WP.seq ?_
    refine WP.regionQ mixed I (by kernel_rfl) ?_
    refine OpsQ.y (v := .func _ _ _) (fun w I => Y.move rfl) ?_
    refine OpsQ.y (v := .slice _ _ _) (fun w I => Y.move rfl) ?_
    refine OpsQ.y (v := .int .i64 _) (fun w I => Y.move rfl) ?_
    refine OpsQ.y (v := .pointer (some ⟨_, _, none⟩)) (fun w I => Y.idx Tryz.underlying74 Tryz.sizeOf80 rfl rfl (by omega) (by omega)) ?_
    refine OpsQ.y (v := .agg #[_, _, _, _]) (fun w I => Y.loadv ty_80 rfl (I.rdE 0 rfl g1 (by omega)) rfl rfl) ?_
    refine OpsQ.y (v := .slice _ _ _) (fun w I => Y.move rfl) ?_
    refine OpsQ.y (v := .int .i64 _) (fun w I => Y.move rfl) ?_
    refine OpsQ.y (v := .int .i64 _) (fun w I => Y.subi rfl rfl ⟨by omega, by omega⟩) ?_
    refine OpsQ.y (v := .pointer (some ⟨_, _, none⟩)) (fun w I => Y.idx Tryz.underlying74 Tryz.sizeOf80 rfl rfl (by omega) (by omega)) ?_
    refine OpsQ.y (v := .agg #[_, _, _, _]) (fun w I => Y.loadv ty_80 rfl (I.rdE 0 rfl g0 (by omega)) rfl rfl) ?_
    refine OpsQ.c (fun w I => QC.callcv I Tryz.call103 (fs := []) (cs := []) rfl (Steps3_ok _ I.base_ok xs[k] xs[k - 1]) rfl) ?_
    refine OpsQ.nil ?_
    intro w I
    refine WP.cond_dec rfl (fun h6 => ?_) (fun h6 => ?_)
    · have hc1 : compactS (xs.take (k + 1)) = xs.take k := by
        rw [compact_take (by omega) hk', if_pos h6, compact_same k (by omega) hn, List.append_nil]
      refine WP.seq ?_
      refine WP.region ?_
      refine Ops.y (v := .slice _ _ _) (Y.move rfl) ?_
      refine Ops.y (v := .int .i64 _) (Y.move rfl) ?_
      refine Ops.y (v := .slice _ _ _) (Y.cutO (l := k) (h' := m) Tryz.underlying74 Tryz.sizeOf80 rfl (.inr ⟨_, _, rfl, rfl⟩) (.inl ⟨rfl, rfl⟩) (by omega) (by omega) (by omega)) ?_
      refine Ops.y (v := .slice _ _ _) (Y.assign rfl) ?_
      refine Ops.nil ?_
      refine WP.seq ?_
      refine WP.seq ?_
      refine WP.region ?_
      refine Ops.y (v := .int .i64 _) (Y.assign rfl) ?_
      refine Ops.nil ?_
      refine WP.cutK (σ := Nat) (fun q => [(0, .slice (some ⟨gg, 0, none⟩) m c), (5, .int .i64 q)]) (fun q w => ∃ zs : List Stp, Inv B h (ownSl 80 4 (.slice (some ⟨gg, 0, none⟩) m c) m (zs.flatMap Stp.enc) :: M) w ∧ zs.take q = compactS xs ∧ q = (compactS xs).length ∧ q < m) ?_ ?_
      · refine WP.block ?_
        refine WP.loopE (σ := Nat × Nat × List Stp) (fun s => [(0, .slice (some ⟨gg, 0, none⟩) m c), (1, .func (.func 103) #[] #[]), (5, .int .i64 s.2.1), (6, .slice (some ⟨gg, k * 4, none⟩) (m - k) (c - k)), (7, .int .i64 s.1)])
          (fun s w => Inv B h (ownSl 80 4 (.slice (some ⟨gg, 0, none⟩) m c) m (s.2.2.flatMap Stp.enc) :: M) w ∧ 1 ≤ s.1 ∧ k + s.1 ≤ m ∧ s.2.2.length = m ∧ s.2.1 + 1 ≤ k + s.1 ∧ s.2.2.take s.2.1 = compactS (xs.take (k + s.1)) ∧ s.2.1 = (compactS (xs.take (k + s.1))).length ∧ (∀ j, k + s.1 ≤ j + 1 → s.2.2[j]? = xs[j]?)) (fun s => m - s.1)
          ⟨(1, k, xs), ⟨rfl, rfl, rfl, rfl, rfl, trivial⟩, I, Nat.le_refl _, by dsimp only; omega, hm.symm, by dsimp only; omega, hc1.symm, by dsimp only; rw [hc1, List.length_take]; omega, fun _ _ => rfl⟩ ?_
        rintro ⟨k2, q, zs⟩ e w ⟨I, h1, h2, hzl, hq1, hq2, hq3, hz⟩
        dsimp only at I h1 h2 hzl hq1 hq2 hq3 hz ⊢
        refine WP.seq ?_
        refine WP.seq ?_
        refine WP.region ?_
        refine Ops.y (v := .int .i64 _) (Y.move rfl) ?_
        refine Ops.y (v := .slice _ _ _) (Y.move rfl) ?_
        refine Ops.y (v := .int .i64 _) (Y.lens Tryz.underlying74 rfl) ?_
        refine Ops.y (v := .bool (decide _)) (Y.lti rfl rfl) ?_
        refine Ops.nil ?_
        refine WP.cond_dec rfl (fun h9 => ?_) (fun h9 => ?_)
        · have hkk : k + k2 < xs.length := by omega
          have f1 : zs[k + k2]? = some xs[k + k2] := by rw [hz _ (by omega)]; exact List.getElem?_eq_getElem hkk
          have f0 : zs[k + k2 - 1]? = some xs[k + k2 - 1] := by rw [hz _ (by omega)]; exact List.getElem?_eq_getElem (by omega)
          have hct := compact_take (xs := xs) (k := k + k2) (by omega) hkk
          refine WP.skip ?_
          refine WP.seq ?_
          refine WP.block ?_
          refine WP.seq ?_
          refine WP.regionQ mixed I (by kernel_rfl) ?_
          refine OpsQ.y (v := .func _ _ _) (fun w I => Y.move rfl) ?_
          refine OpsQ.y (v := .slice _ _ _) (fun w I => Y.move rfl) ?_
          refine OpsQ.y (v := .int .i64 _) (fun w I => Y.move rfl) ?_
          refine OpsQ.y (v := .pointer (some ⟨_, _, none⟩)) (fun w I => Y.idx Tryz.underlying74 Tryz.sizeOf80 rfl rfl (by omega) (by omega)) ?_
          refine OpsQ.y (v := .agg #[_, _, _, _]) (fun w I => Y.loadv ty_80 rfl (I.rdE 0 rfl f1 (by omega)) rfl rfl) ?_
          refine OpsQ.y (v := .slice _ _ _) (fun w I => Y.move rfl) ?_
          refine OpsQ.y (v := .int .i64 _) (fun w I => Y.move rfl) ?_
          refine OpsQ.y (v := .int .i64 _) (fun w I => Y.subi rfl rfl ⟨by omega, by omega⟩) ?_
          refine OpsQ.y (v := .pointer (some ⟨_, _, none⟩)) (fun w I => Y.idx Tryz.underlying74 Tryz.sizeOf80 rfl rfl (by omega) (by omega)) ?_
          refine OpsQ.y (v := .agg #[_, _, _, _]) (fun w I => Y.loadv ty_80 rfl (I.rdE 0 rfl f0 (by omega)) rfl rfl) ?_
          refine OpsQ.c (fun w I => QC.callcv I Tryz.call103 (fs := []) (cs := []) rfl (Steps3_ok _ I.base_ok xs[k + k2] xs[k + k2 - 1]) rfl) ?_
          refine OpsQ.y (v := .bool (decide _)) (fun w I => Y.notd rfl) ?_
          refine OpsQ.nil ?_
          intro w I
          refine WP.cond_dec rfl (fun h11 => ?_) (fun h11 => ?_)
          · have hne : xs[k + k2] ≠ xs[k + k2 - 1] := h11
            rw [if_neg hne] at hct
            refine WP.seq ?_
            refine WP.region ?_
            refine Ops.y (v := .slice _ _ _) (Y.move rfl) ?_
            refine Ops.y (v := .int .i64 _) (Y.move rfl) ?_
            refine Ops.y (v := .slice _ _ _) (Y.move rfl) ?_
            refine Ops.y (v := .int .i64 _) (Y.move rfl) ?_
            refine Ops.y (v := .pointer (some ⟨_, _, none⟩)) (Y.idx Tryz.underlying74 Tryz.sizeOf80 rfl rfl (by omega) (by omega)) ?_
            refine Ops.y (v := .agg #[_, _, _, _]) (Y.loadv ty_80 rfl (I.rdE 0 rfl f1 (by omega)) rfl rfl) ?_
            refine Ops.y (v := .pointer (some ⟨_, _, none⟩)) (Y.idx Tryz.underlying74 Tryz.sizeOf80 rfl rfl (by omega) (by omega)) ?_
            refine Ops.go (O.storeE (vs := xs[k+k2].enc) I ty_80 et_80 0 rfl rfl rfl rfl rfl rfl (by rw [flat_len stp_len, stp_len]; omega) ?_)
            intro w I
            refine Ops.nil ?_
            refine WP.region ?_
            refine Ops.y (v := .int .i64 _) (Y.move rfl) ?_
            refine Ops.y (v := .int .i64 _) (Y.addi rfl rfl ⟨by omega, by omega⟩) ?_
            refine Ops.y (v := .int .i64 _) (Y.assign rfl) ?_
            refine Ops.nil ?_
            refine WP.region ?_
            refine Ops.y (v := .int .i64 _) (Y.move rfl) ?_
            refine Ops.y (v := .int .i64 _) (Y.addi rfl rfl ⟨by omega, by omega⟩) ?_
            refine Ops.y (v := .int .i64 _) (Y.assign rfl) ?_
            refine Ops.nil ?_
            have I : Inv B h (ownSl 80 4 (.slice (some ⟨gg, 0, none⟩) m c) m ((zs.set q xs[k + k2]).flatMap Stp.enc) :: M) w := by
              rw [← flat_over _ _ _ (by omega)]
              have J := I
              simp only [Int.toNat_natCast, Nat.zero_add] at J
              exact J
            refine ⟨(k2 + 1, q + 1, zs.set q xs[k + k2]), ⟨⟨rfl, rfl, rfl, rfl, rfl, trivial⟩, I, by dsimp only; omega, by dsimp only; omega, by simpa using hzl, by dsimp only; omega, ?_, ?_, fun j hj => ?_⟩, by dsimp only; omega⟩
            · dsimp only
              rw [show k + (k2 + 1) = k + k2 + 1 by omega, hct, ← hq2, List.take_succ_eq_append_getElem (by simp; omega), take_set_self]
              simp
            · dsimp only
              rw [show k + (k2 + 1) = k + k2 + 1 by omega, hct, List.length_append, ← hq3]; rfl
            · dsimp only at hj ⊢
              rw [List.getElem?_set_ne (by omega)]
              exact hz j (by omega)
          · have heq : xs[k + k2] = xs[k + k2 - 1] := Decidable.not_not.1 h11
            rw [if_pos heq, List.append_nil] at hct
            refine WP.skip ?_
            refine WP.region ?_
            refine Ops.y (v := .int .i64 _) (Y.move rfl) ?_
            refine Ops.y (v := .int .i64 _) (Y.addi rfl rfl ⟨by omega, by omega⟩) ?_
            refine Ops.y (v := .int .i64 _) (Y.assign rfl) ?_
            refine Ops.nil ?_
            exact ⟨(k2 + 1, q, zs), ⟨⟨rfl, rfl, rfl, rfl, rfl, trivial⟩, I, by dsimp only; omega, by dsimp only; omega, hzl, by dsimp only; omega, by dsimp only; rw [show k + (k2 + 1) = k + k2 + 1 by omega, hct]; exact hq2, by dsimp only; rw [show k + (k2 + 1) = k + k2 + 1 by omega, hct]; exact hq3, fun j hj => hz j (by dsimp only at hj; omega)⟩, by dsimp only; omega⟩
        · have hkm : k + k2 = xs.length := by omega
          rw [hkm, List.take_length] at hq2 hq3
          refine WP.exit ?_
          exact ⟨q, ⟨rfl, rfl, trivial⟩, zs, I, hq2, hq3, by omega⟩
      rintro q e w ⟨zs, I, hq2, hq3, hq4⟩
      have I := I.cutSl (m := q) (by omega)
      rw [flat_take stp_len, hq2] at I
      refine WP.seq ?_
      refine WP.region ?_
      refine Ops.y (v := .slice _ _ _) (Y.move rfl) ?_
      refine Ops.y (v := .int .i64 _) (Y.move rfl) ?_
      refine Ops.y (v := .slice _ _ _) (Y.cutO (l := q) (h' := m) Tryz.underlying74 Tryz.sizeOf80 rfl (.inr ⟨_, _, rfl, rfl⟩) (.inl ⟨rfl, rfl⟩) (by omega) (by omega) (by omega)) ?_
      refine Ops.go (O.clearS I Tryz.underlying74 et_80 (by simp [Value.cells, Value.oneCell']) rfl (by omega) rfl (by omega) ?_)
      intro w I
      refine Ops.nil ?_
      refine WP.seq ?_
      refine WP.region ?_
      refine Ops.y (v := .slice _ _ _) (Y.move rfl) ?_
      refine Ops.y (v := .int .i64 _) (Y.move rfl) ?_
      refine Ops.y (v := .slice _ _ _) (Y.cutO (l := 0) (h' := q) Tryz.underlying74 Tryz.sizeOf80 rfl (.inl ⟨rfl, rfl⟩) (.inr ⟨_, _, rfl, rfl⟩) (by omega) (by omega) (by omega)) ?_
      refine Ops.y (v := .slice _ _ _) (Y.assign rfl) ?_
      refine Ops.nil ?_
      refine WP.ret ?_
      repeat (first | refine thenE_ret ?_ | refine blockE_ret ?_)
      exact ⟨.inl rfl, [.slice (some ⟨gg, 0, none⟩) q c], ⟨rfl, trivial⟩, some ⟨gg, 0, none⟩, c, q, rfl, hq3, I⟩
    · refine WP.skip ?_
      refine WP.region ?_
      refine Ops.y (v := .int .i64 _) (Y.move rfl) ?_
      refine Ops.y (v := .int .i64 _) (Y.addi rfl rfl ⟨by omega, by omega⟩) ?_
      refine Ops.y (v := .int .i64 _) (Y.assign rfl) ?_
      refine Ops.nil ?_
      exact ⟨k + 1, ⟨⟨rfl, rfl, rfl, trivial⟩, I, by omega, by omega, fun j h0 hj hj' => by
        rcases Nat.lt_succ_iff_lt_or_eq.1 hj with h' | rfl
        · exact hn j h0 h' hj'
        · exact h6⟩, by omega⟩
  have hcx : compactS xs = xs := by
    have := compact_same (xs := xs) xs.length (Nat.le_refl _) (fun j h0 hj hj' => hn j h0 (by omega) hj')
    rwa [List.take_length] at this
  refine WP.exit ?_
  refine WP.seq ?_
  refine WP.region ?_
  refine Ops.y (v := .slice _ _ _) (Y.move rfl) ?_
  refine Ops.y (v := .slice _ _ _) (Y.assign rfl) ?_
  refine Ops.nil ?_
  refine WP.ret ?_
  repeat (first | refine thenE_ret ?_ | refine blockE_ret ?_)
  exact ⟨.inl rfl, [.slice (some ⟨gg, 0, none⟩) m c], ⟨rfl, trivial⟩, some ⟨gg, 0, none⟩, c, m, rfl, by rw [hcx]; exact hm, by rw [hcx]; exact I⟩
end Go.TF
end
