/- slices.Insert of one fact; adding a fact. -/
import Derived.Test.YtenigglapeajdaaBas2
namespace Go.TF
open Go Go.RowKit Go.Proofs
set_option maxRecDepth 20000

theorem over_app (A Z X : List Value) : over (A ++ Z) A.length X = A ++ X ++ Z.drop X.length := by
  unfold over
  rw [List.take_left, List.drop_append, List.drop_of_length_le (by omega), List.nil_append, Nat.add_sub_cancel_left]
theorem over_end {L D : List Value} {o : Nat} (h : o + D.length = L.length) : over L o D = L.take o ++ D := by
  unfold over
  rw [List.drop_of_length_le (by omega), List.append_nil]
theorem ins_grow (A Z X D : List Value) (h : X.length + D.length = Z.length) : over (over (A ++ Z) A.length X) (A.length + X.length) D = A ++ X ++ D := by
  rw [over_app, over_end (by simp only [List.length_append, List.length_drop]; omega)]
  rw [← List.length_append, List.take_left]
theorem ins_shift (A D Y X : List Value) (h : X.length = Y.length) : over (over (A ++ (D ++ Y)) (A.length + X.length) D) A.length X = A ++ X ++ D := by
  rw [over_end (L := A ++ (D ++ Y)) (o := A.length + X.length) (by simp only [List.length_append]; omega), List.take_append, List.take_of_length_le (by omega), Nat.add_sub_cancel_left, List.append_assoc, over_app]
  congr 1
  have hl : ((D ++ Y).take X.length).length = X.length := by simp only [List.length_take, List.length_append]; omega
  rw [List.drop_append, List.drop_of_length_le (by omega), hl, Nat.sub_self]; rfl
theorem flat_take {α : Type} {enc : α → List Value} {k : Nat} (hk : ∀ x, (enc x).length = k) : ∀ (xs : List α) (i : Nat), (xs.flatMap enc).take (i * k) = (xs.take i).flatMap enc
  | [], i => by simp
  | x :: xs, 0 => by simp
  | x :: xs, i + 1 => by
    rw [List.flatMap_cons, List.take_succ_cons, List.flatMap_cons, ← flat_take hk xs i, List.take_append, hk, Nat.add_mul, List.take_of_length_le (by rw [hk]; omega)]
    congr 2; omega
theorem flat_drop {α : Type} {enc : α → List Value} {k : Nat} (hk : ∀ x, (enc x).length = k) : ∀ (xs : List α) (i : Nat), (xs.flatMap enc).drop (i * k) = (xs.drop i).flatMap enc
  | [], i => by simp
  | x :: xs, 0 => by simp
  | x :: xs, i + 1 => by
    rw [List.flatMap_cons, List.drop_succ_cons, ← flat_drop hk xs i, List.drop_append, hk, Nat.add_mul, List.drop_of_length_le (by rw [hk]; omega), List.nil_append]
    congr 1; omega
theorem flat_ins (xs : List Fct) (x : Fct) (i : Nat) : (xs.take i ++ x :: xs.drop i).flatMap Fct.enc = (xs.take i).flatMap Fct.enc ++ x.enc ++ (xs.drop i).flatMap Fct.enc := by
  rw [List.flatMap_append, List.flatMap_cons, List.append_assoc]
theorem fct_one (xs : List Fct) : oneCells (xs.flatMap Fct.enc) = true := by
  simp only [oneCells, List.all_flatMap]
  rw [List.all_eq_true]
  intro x _; rfl
theorem ovl_run (vs : Array Value) (w : World) : (callFunc 87 vs).run Try.prog w = ((Extern.SlicesOverlaps.overlaps #[33, 33] #[4] vs).run Try.prog w).andThen fun v w' => .ok (.value v) w' :=
  run_callFunc_extern Try.func87 (by kernel_rfl) (by kernel_rfl) (by kernel_rfl) (e := Extern.SlicesOverlaps.overlaps #[33, 33] #[4]) (by kernel_rfl) vs w
set_option maxHeartbeats 2000000 in
/-- One fact put in. -/
theorem Insert_ok {B : Base} {h : Heap} {M : List SA} {w : World} {v : Value} {n : Nat} {xs : List Fct} (I : Inv B h (ownSl 35 4 v n (xs.flatMap Fct.enc) :: M) w) (hn : n = xs.length) (i : Nat) (hi : i ≤ n) (x : Fct) (u : Nat) (hu : h u = some (.cells x.enc.toArray 35 (0, 0))) (hb : n ≤ 1000000000) :
    Calls Try.prog 71 [v, .int .i64 i, .slice (some ⟨u, 0, none⟩) (1 : Nat) (1 : Nat)].toArray w
      (fun ed w' => ∃ v' h', ed = .returned v' ∧ h.le h' ∧ Inv B h' (ownSl 35 4 v' (n + 1) ((xs.take i ++ x :: xs.drop i).flatMap Fct.enc) :: M) w') := by
  have hux : RdH h u 0 x.enc := fun j y hj => by simp only [Heap.cell, hu, Nat.zero_add]; simpa using hj
  have hfl : ∀ y : Fct, y.enc.length = 4 := fun _ => rfl
  by_cases hend : i = n
  · have hfin : (xs.take i ++ x :: xs.drop i).flatMap Fct.enc = xs.flatMap Fct.enc ++ x.enc := by
      rw [flat_ins, hend, hn, List.take_length, List.drop_length]; simp
    rw [hfin]
    rcases (I.at 0 rfl).2 with ⟨rfl, h0⟩ | ⟨gg, cap, cur, rfl, _, hg, hnc, hcm, _⟩
    · obtain rfl : n = 0 := by simpa using h0
      obtain rfl : i = 0 := hend
      refine Calls.ofWP (args := [.slice none 0 0, .int .i64 (0 : Nat), .slice (some ⟨u, 0, none⟩) (1 : Nat) (1 : Nat)]) Try.func71 rfl Try.ntmps71 (by kernel_rfl) (by simp) ?_
      intro e
      refine WP.seq ?_
      refine WP.region ?_
      refine Ops.y (v := .slice _ _ _) (Y.assign rfl) ?_
      refine Ops.nil ?_
      refine WP.seq ?_
      refine WP.region ?_
      refine Ops.y (v := .slice _ _ _) (Y.move rfl) ?_
      refine Ops.y (v := .int .i64 _) (Y.move rfl) ?_
      refine Ops.y (v := .slice _ _ _) (Y.slicenil Try.underlying33 Try.sizeOf35 rfl (.inr ⟨_, _, rfl, rfl⟩) (.inl rfl)) ?_
      refine Ops.nil ?_
      refine WP.seq ?_
      refine WP.region ?_
      refine Ops.y (v := .slice _ _ _) (Y.move rfl) ?_
      refine Ops.y (v := .int .i64 _) (Y.lens Try.underlying33 rfl) ?_
      refine Ops.y (v := .int .i64 _) (Y.assign rfl) ?_
      refine Ops.nil ?_
      refine WP.seq ?_
      refine WP.seq ?_
      refine WP.region ?_
      refine Ops.y (v := .int .i64 _) (Y.move rfl) ?_
      refine Ops.y (v := .bool false) (Y.dec_f (Y.eqi rfl rfl) ((by decide))) ?_
      refine Ops.nil ?_
      refine WP.cond_f rfl ?_
      refine WP.skip ?_
      refine WP.seq ?_
      refine WP.region ?_
      refine Ops.y (v := .slice _ _ _) (Y.move rfl) ?_
      refine Ops.y (v := .int .i64 _) (Y.lens Try.underlying33 rfl) ?_
      refine Ops.y (v := .int .i64 _) (Y.assign rfl) ?_
      refine Ops.nil ?_
      refine WP.seq ?_
      refine WP.seq ?_
      refine WP.region ?_
      refine Ops.y (v := .int .i64 _) (Y.move rfl) ?_
      refine Ops.y (v := .int .i64 _) (Y.move rfl) ?_
      refine Ops.y (v := .bool true) (Y.dec_t (Y.eqi rfl rfl) ((by decide))) ?_
      refine Ops.nil ?_
      refine WP.cond_t rfl ?_
      refine WP.seq ?_
      refine WP.region ?_
      refine Ops.y (v := .slice _ _ _) (Y.move rfl) ?_
      refine Ops.y (v := .slice _ _ _) (Y.move rfl) ?_
      refine Ops.go (O.append I Try.underlying33 et_35 0 rfl rfl rfl (I.rd hux) rfl rfl (by decide) (by omega) (by omega) ?_)
      intro g2 c2 w I
      refine Ops.y (v := .slice _ _ _) (Y.assign rfl) ?_
      refine Ops.nil ?_
      refine WP.ret ?_
      repeat (first | refine thenE_ret ?_ | refine blockE_ret ?_)
      exact ⟨.inl rfl, [.slice (some ⟨g2, 0, none⟩) (0 + 1) c2], ⟨rfl, trivial⟩, _, _, rfl, Heap.le.refl _, I⟩
    · simp only [maxLen] at hcm
      refine Calls.ofWP (args := [.slice (some ⟨gg, 0, none⟩) n cap, .int .i64 i, .slice (some ⟨u, 0, none⟩) (1 : Nat) (1 : Nat)]) Try.func71 rfl Try.ntmps71 (by kernel_rfl) (by simp) ?_
      intro e
      refine WP.seq ?_
      refine WP.region ?_
      refine Ops.y (v := .slice _ _ _) (Y.assign rfl) ?_
      refine Ops.nil ?_
      refine WP.seq ?_
      refine WP.region ?_
      refine Ops.y (v := .slice _ _ _) (Y.move rfl) ?_
      refine Ops.y (v := .int .i64 _) (Y.move rfl) ?_
      refine Ops.y (v := .slice _ _ _) (Y.slicesl (l := i) (h := n) Try.underlying33 Try.sizeOf35 rfl (.inr ⟨_, _, rfl, rfl⟩) (.inl ⟨rfl, rfl⟩) (by omega) (by omega)) ?_
      refine Ops.nil ?_
      refine WP.seq ?_
      refine WP.region ?_
      refine Ops.y (v := .slice _ _ _) (Y.move rfl) ?_
      refine Ops.y (v := .int .i64 _) (Y.lens Try.underlying33 rfl) ?_
      refine Ops.y (v := .int .i64 _) (Y.assign rfl) ?_
      refine Ops.nil ?_
      refine WP.seq ?_
      refine WP.seq ?_
      refine WP.region ?_
      refine Ops.y (v := .int .i64 _) (Y.move rfl) ?_
      refine Ops.y (v := .bool false) (Y.dec_f (Y.eqi rfl rfl) ((by decide))) ?_
      refine Ops.nil ?_
      refine WP.cond_f rfl ?_
      refine WP.skip ?_
      refine WP.seq ?_
      refine WP.region ?_
      refine Ops.y (v := .slice _ _ _) (Y.move rfl) ?_
      refine Ops.y (v := .int .i64 _) (Y.lens Try.underlying33 rfl) ?_
      refine Ops.y (v := .int .i64 _) (Y.assign rfl) ?_
      refine Ops.nil ?_
      refine WP.seq ?_
      refine WP.seq ?_
      refine WP.region ?_
      refine Ops.y (v := .int .i64 _) (Y.move rfl) ?_
      refine Ops.y (v := .int .i64 _) (Y.move rfl) ?_
      refine Ops.y (v := .bool true) (Y.dec_t (Y.eqi rfl rfl) ((by omega))) ?_
      refine Ops.nil ?_
      refine WP.cond_t rfl ?_
      refine WP.seq ?_
      refine WP.region ?_
      refine Ops.y (v := .slice _ _ _) (Y.move rfl) ?_
      refine Ops.y (v := .slice _ _ _) (Y.move rfl) ?_
      refine Ops.go (O.append I Try.underlying33 et_35 0 rfl rfl rfl (I.rd hux) rfl rfl (by decide) (by omega) (by omega) ?_)
      intro g2 c2 w I
      refine Ops.y (v := .slice _ _ _) (Y.assign rfl) ?_
      refine Ops.nil ?_
      refine WP.ret ?_
      repeat (first | refine thenE_ret ?_ | refine blockE_ret ?_)
      exact ⟨.inl rfl, [.slice (some ⟨g2, 0, none⟩) (n + 1) c2], ⟨rfl, trivial⟩, _, _, rfl, Heap.le.refl _, I⟩
  rcases (I.at 0 rfl).2 with ⟨rfl, h0⟩ | ⟨gg, cap, cur, rfl, _, hg, hnc, hcm, _⟩
  · exfalso; have : n = 0 := by simpa using h0
    omega
  simp only [maxLen] at hcm
  have hAl : ((xs.take i).flatMap Fct.enc).length = i * 4 := by rw [flat_len hfl, List.length_take]; congr 1; omega
  have hDl : ((xs.drop i).flatMap Fct.enc).length = (n - i) * 4 := by rw [flat_len hfl, List.length_drop, hn]
  rw [flat_ins]
  refine Calls.ofWP (args := [.slice (some ⟨gg, 0, none⟩) n cap, .int .i64 i, .slice (some ⟨u, 0, none⟩) (1 : Nat) (1 : Nat)]) Try.func71 rfl Try.ntmps71 (by kernel_rfl) (by simp) ?_
  intro e
  refine WP.seq ?_
  refine WP.region ?_
  refine Ops.y (v := .slice _ _ _) (Y.assign rfl) ?_
  refine Ops.nil ?_
  refine WP.seq ?_
  refine WP.region ?_
  refine Ops.y (v := .slice _ _ _) (Y.move rfl) ?_
  refine Ops.y (v := .int .i64 _) (Y.move rfl) ?_
  refine Ops.y (v := .slice _ _ _) (Y.slicesl (l := i) (h := n) Try.underlying33 Try.sizeOf35 rfl (.inr ⟨_, _, rfl, rfl⟩) (.inl ⟨rfl, rfl⟩) (by omega) (by omega)) ?_
  refine Ops.nil ?_
  refine WP.seq ?_
  refine WP.region ?_
  refine Ops.y (v := .slice _ _ _) (Y.move rfl) ?_
  refine Ops.y (v := .int .i64 _) (Y.lens Try.underlying33 rfl) ?_
  refine Ops.y (v := .int .i64 _) (Y.assign rfl) ?_
  refine Ops.nil ?_
  refine WP.seq ?_
  refine WP.seq ?_
  refine WP.region ?_
  refine Ops.y (v := .int .i64 _) (Y.move rfl) ?_
  refine Ops.y (v := .bool false) (Y.dec_f (Y.eqi rfl rfl) ((by decide))) ?_
  refine Ops.nil ?_
  refine WP.cond_f rfl ?_
  refine WP.skip ?_
  refine WP.seq ?_
  refine WP.region ?_
  refine Ops.y (v := .slice _ _ _) (Y.move rfl) ?_
  refine Ops.y (v := .int .i64 _) (Y.lens Try.underlying33 rfl) ?_
  refine Ops.y (v := .int .i64 _) (Y.assign rfl) ?_
  refine Ops.nil ?_
  refine WP.seq ?_
  refine WP.seq ?_
  refine WP.region ?_
  refine Ops.y (v := .int .i64 _) (Y.move rfl) ?_
  refine Ops.y (v := .int .i64 _) (Y.move rfl) ?_
  refine Ops.y (v := .bool false) (Y.dec_f (Y.eqi rfl rfl) ((by omega))) ?_
  refine Ops.nil ?_
  refine WP.cond_f rfl ?_
  refine WP.skip ?_
  refine WP.seq ?_
  refine WP.seq ?_
  refine WP.region ?_
  refine Ops.y (v := .int .i64 _) (Y.move rfl) ?_
  refine Ops.y (v := .int .i64 _) (Y.move rfl) ?_
  refine Ops.y (v := .int .i64 _) (Y.addi rfl rfl ⟨by omega, by omega⟩) ?_
  refine Ops.y (v := .slice _ _ _) (Y.move rfl) ?_
  refine Ops.y (v := .int .i64 _) (Y.caps Try.underlying33 rfl) ?_
  refine Ops.y (v := .bool (decide _)) (Y.gti rfl rfl) ?_
  refine Ops.nil ?_
  refine WP.cond_dec rfl (fun h8 => ?_) (fun h8 => ?_)
  · have hRd : Rd w gg 0 ((xs.take i).flatMap Fct.enc) := by
      have := I.rdOwn 0 rfl 0 (i * 4)
      rwa [List.drop_zero, flat_take hfl] at this
    have hgw : gg < w.heap.size := ((I.own _ (List.mem_cons_self ..)).2 gg (by simp [ownSl, Value.ownBlock])).2.1
    refine WP.seq ?_
    refine WP.region ?_
    refine Ops.y (v := .slice _ _ _) (Y.move rfl) ?_
    refine Ops.y (v := .int .i64 _) (Y.move rfl) ?_
    refine Ops.y (v := .slice _ _ _) (Y.cutO (l := 0) (h' := i) Try.underlying33 Try.sizeOf35 rfl (.inl ⟨rfl, rfl⟩) (.inr ⟨_, _, rfl, rfl⟩) (by omega) (by omega) (by omega)) ?_
    refine Ops.y (v := .int .i64 _) (Y.move rfl) ?_
    refine Ops.y (v := .int .i64 _) (Y.move rfl) ?_
    refine Ops.y (v := .int .i64 _) (Y.addi rfl rfl ⟨by omega, by omega⟩) ?_
    refine Ops.y (v := .int .i64 _) (Y.move rfl) ?_
    refine Ops.y (v := .int .i64 _) (Y.subi rfl rfl ⟨by omega, by omega⟩) ?_
    refine Ops.go (O.appendZ (n := i) (m := n + 1 - i) I Try.underlying33 Try.underlying3 et_35 rfl hRd hAl (congrArg (Value.int .i64) (by omega)) (by omega) (by omega) (by omega) (by omega) ?_ hgw)
    intro g2 c2 w I hne
    refine Ops.y (v := .slice _ _ _) (Y.assign rfl) ?_
    refine Ops.nil ?_
    have hs2 := (I.shapeOwn 0 rfl).2
    have hZl : ((Builtin.zeroCells (Value.agg #[.int .i64 0, .int .i64 0, .int .i64 0, .int .i64 0]).cells (n + 1 - i)).toList).length = (n + 1 - i) * 4 := by rw [Array.length_toList, size_zeroCells]; rfl
    generalize (Builtin.zeroCells (Value.agg #[.int .i64 0, .int .i64 0, .int .i64 0, .int .i64 0]).cells (n + 1 - i)).toList = Z at I hZl
    rw [show i + (n + 1 - i) = n + 1 by omega] at I hs2 ⊢
    refine WP.seq ?_
    refine WP.region ?_
    refine Ops.y (v := .slice _ _ _) (Y.move rfl) ?_
    refine Ops.y (v := .int .i64 _) (Y.move rfl) ?_
    refine Ops.y (v := .slice _ _ _) (Y.cutO (l := i) (h' := n + 1) Try.underlying33 Try.sizeOf35 rfl (.inr ⟨_, _, rfl, rfl⟩) (.inl ⟨rfl, rfl⟩) (by omega) (by omega) (by omega)) ?_
    refine Ops.y (v := .slice _ _ _) (Y.move rfl) ?_
    refine Ops.go (O.copy I Try.underlying33 et_35 0 rfl rfl rfl (q := 1) (by simp only [Nat.min_def]; split <;> omega) (by omega) (I.rd hux) rfl rfl ?_)
    intro w I
    refine Ops.nil ?_
    refine WP.seq ?_
    refine WP.regionF mixed I 8 (by kernel_rfl) ?_
    refine OpsF.y_ (v := .slice _ _ _) (fun _ => runs_none _) (fun _ w us hl I => Y.move rfl) ?_
    refine OpsF.y_ (v := .int .i64 _) (fun _ => runs_none _) (fun _ w us hl I => Y.move rfl) ?_
    refine OpsF.y_ (v := .int .i64 _) (fun _ => runs_none _) (fun _ w us hl I => Y.move rfl) ?_
    refine OpsF.y_ (v := .int .i64 _) (fun _ => runs_none _) (fun _ w us hl I => Y.addi rfl rfl ⟨by omega, by omega⟩) ?_
    refine OpsF.y_ (v := .slice _ _ _) (fun _ => runs_none _) (fun _ w us hl I => Y.cutO (l := i + 1) (h' := n + 1) Try.underlying33 Try.sizeOf35 rfl (.inr ⟨_, _, rfl, rfl⟩) (.inl ⟨rfl, rfl⟩) (by omega) (by omega) (by omega)) ?_
    refine OpsF.y_ (v := .slice _ _ _) (fun _ => runs_none _) (fun _ w us hl I => Y.move rfl) ?_
    refine OpsF.y_ (v := .int .i64 _) (fun _ => runs_none _) (fun _ w us hl I => Y.move rfl) ?_
    refine OpsF.y_ (v := .slice _ _ _) (fun _ => runs_none _) (fun _ w us hl I => Y.cutO (l := i) (h' := n) Try.underlying33 Try.sizeOf35 rfl (.inr ⟨_, _, rfl, rfl⟩) (.inl ⟨rfl, rfl⟩) (by omega) (by omega) (by omega)) ?_
    refine OpsF.nil ?_
    intro _ w hl I
    have hRd2 : Rd w gg (i * 4) ((xs.drop i).flatMap Fct.enc) := by have := I.rdOwn 1 rfl (i * 4) ((n - i) * 4); rwa [flat_drop hfl, List.take_of_length_le (by omega)] at this
    refine Ops.go (O.copy I Try.underlying33 et_35 0 rfl rfl rfl (q := n - i) (by simp only [Nat.min_def]; split <;> omega) (by omega) hRd2 hDl (fct_one _) ?_)
    intro w I
    refine Ops.nil ?_
    refine WP.seq ?_
    refine WP.region ?_
    refine Ops.y (v := .slice _ _ _) (Y.move rfl) ?_
    refine Ops.y (v := .slice _ _ _) (Y.assign rfl) ?_
    refine Ops.nil ?_
    refine WP.ret ?_
    repeat (first | refine thenE_ret ?_ | refine blockE_ret ?_)
    have hI : over (over ((xs.take i).flatMap Fct.enc ++ Z) (i * 4) x.enc) ((i + 1) * 4) ((xs.drop i).flatMap Fct.enc) = (xs.take i).flatMap Fct.enc ++ x.enc ++ (xs.drop i).flatMap Fct.enc := by
      have := ins_grow ((xs.take i).flatMap Fct.enc) Z x.enc ((xs.drop i).flatMap Fct.enc) (by rw [hZl, hDl, hfl]; omega)
      rwa [hAl, hfl, show i * 4 + 4 = (i + 1) * 4 by omega] at this
    have I := I.weak (M' := _ :: M) (List.Sublist.cons_cons _ (List.sublist_cons_self _ _))
    try simp only [List.set_cons_zero] at I
    rw [hI] at I
    exact ⟨.inl rfl, [.slice (some ⟨g2, 0, none⟩) (n + 1) c2], ⟨rfl, trivial⟩, _, _, rfl, hl, I⟩
  · have hcn : n + 1 ≤ cap := by omega
    obtain ⟨Yz, hYl, I⟩ := I.widen (m := 1) hcn
    have hou := ((I.own _ (List.mem_cons_self ..)).2 gg (by simp [ownSl, Value.ownBlock])).2.2
    have hne : u ≠ gg := fun e => by rw [← e, hu] at hou; cases hou
    refine WP.skip ?_
    refine WP.seq ?_
    refine WP.region ?_
    refine Ops.y (v := .slice _ _ _) (Y.move rfl) ?_
    refine Ops.y (v := .int .i64 _) (Y.move rfl) ?_
    refine Ops.y (v := .int .i64 _) (Y.move rfl) ?_
    refine Ops.y (v := .int .i64 _) (Y.addi rfl rfl ⟨by omega, by omega⟩) ?_
    refine Ops.y (v := .slice _ _ _) (Y.cutO (l := 0) (h' := n + 1) Try.underlying33 Try.sizeOf35 rfl (.inl ⟨rfl, rfl⟩) (.inr ⟨_, _, rfl, rfl⟩) (by omega) (by omega) (by omega)) ?_
    refine Ops.y (v := .slice _ _ _) (Y.assign rfl) ?_
    refine Ops.nil ?_
    have hsB := (I.shapeOwn 0 rfl).1
    have hsA : w.shape? u = some (35, 4) := by simp [World.shape?, I.imm _ _ hu]
    have hfr : ∀ o, w.frozen? ⟨u, o, none⟩ = false := fun o => by simp [World.frozen?, I.imm _ _ hu]
    refine WP.seq ?_
    refine WP.seq ?_
    refine WP.region ?_
    refine Ops.y (v := .slice _ _ _) (Y.move rfl) ?_
    refine Ops.y (v := .slice _ _ _) (Y.move rfl) ?_
    refine Ops.y (v := .int .i64 _) (Y.move rfl) ?_
    refine Ops.y (v := .int .i64 _) (Y.move rfl) ?_
    refine Ops.y (v := .int .i64 _) (Y.addi rfl rfl ⟨by omega, by omega⟩) ?_
    refine Ops.y (v := .slice _ _ _) (Y.cutO (l := i + 1) (h' := n + 1) Try.underlying33 Try.sizeOf35 rfl (.inr ⟨_, _, rfl, rfl⟩) (.inl ⟨rfl, rfl⟩) (by omega) (by omega) (by omega)) ?_
    refine Ops.y (v := _) (O.overlaps ovl_run Try.underlying33 Try.sizeOf35 rfl rfl hne hsA hsB (by omega) hfr) ?_
    refine Ops.y (v := .bool _) (Y.not rfl) ?_
    refine Ops.nil ?_
    refine WP.cond_t rfl ?_
    refine WP.seq ?_
    refine WP.regionF mixed I 8 (by kernel_rfl) ?_
    refine OpsF.y_ (v := .slice _ _ _) (fun _ => runs_none _) (fun _ w us hl I => Y.move rfl) ?_
    refine OpsF.y_ (v := .int .i64 _) (fun _ => runs_none _) (fun _ w us hl I => Y.move rfl) ?_
    refine OpsF.y_ (v := .int .i64 _) (fun _ => runs_none _) (fun _ w us hl I => Y.move rfl) ?_
    refine OpsF.y_ (v := .int .i64 _) (fun _ => runs_none _) (fun _ w us hl I => Y.addi rfl rfl ⟨by omega, by omega⟩) ?_
    refine OpsF.y_ (v := .slice _ _ _) (fun _ => runs_none _) (fun _ w us hl I => Y.cutO (l := i + 1) (h' := n + 1) Try.underlying33 Try.sizeOf35 rfl (.inr ⟨_, _, rfl, rfl⟩) (.inl ⟨rfl, rfl⟩) (by omega) (by omega) (by omega)) ?_
    refine OpsF.y_ (v := .slice _ _ _) (fun _ => runs_none _) (fun _ w us hl I => Y.move rfl) ?_
    refine OpsF.y_ (v := .int .i64 _) (fun _ => runs_none _) (fun _ w us hl I => Y.move rfl) ?_
    refine OpsF.y_ (v := .slice _ _ _) (fun _ => runs_none _) (fun _ w us hl I => Y.cutO (l := i) (h' := n + 1) Try.underlying33 Try.sizeOf35 rfl (.inr ⟨_, _, rfl, rfl⟩) (.inl ⟨rfl, rfl⟩) (by omega) (by omega) (by omega)) ?_
    refine OpsF.nil ?_
    intro _ w hl I
    have hRd2 : Rd w gg (i * 4) ((xs.drop i).flatMap Fct.enc) := by have := I.rdOwn 0 rfl (i * 4) ((n - i) * 4); rwa [List.drop_append_of_le_length (by rw [flat_len hfl]; omega), flat_drop hfl, List.take_left' hDl] at this
    refine Ops.go (O.copy I Try.underlying33 et_35 0 rfl rfl rfl (q := n - i) (by simp only [Nat.min_def]; split <;> omega) (by omega) hRd2 hDl (fct_one _) ?_)
    intro w I
    refine Ops.nil ?_
    refine WP.seq ?_
    refine WP.region ?_
    refine Ops.y (v := .slice _ _ _) (Y.move rfl) ?_
    refine Ops.y (v := .int .i64 _) (Y.move rfl) ?_
    refine Ops.y (v := .slice _ _ _) (Y.cutO (l := i) (h' := n + 1) Try.underlying33 Try.sizeOf35 rfl (.inr ⟨_, _, rfl, rfl⟩) (.inl ⟨rfl, rfl⟩) (by omega) (by omega) (by omega)) ?_
    refine Ops.y (v := .slice _ _ _) (Y.move rfl) ?_
    refine Ops.go (O.copy I Try.underlying33 et_35 0 rfl rfl rfl (q := 1) (by simp only [Nat.min_def]; split <;> omega) (by omega) (I.rd (hux.le hl)) rfl rfl ?_)
    intro w I
    refine Ops.nil ?_
    refine WP.seq ?_
    refine WP.region ?_
    refine Ops.y (v := .slice _ _ _) (Y.move rfl) ?_
    refine Ops.y (v := .slice _ _ _) (Y.assign rfl) ?_
    refine Ops.nil ?_
    refine WP.ret ?_
    repeat (first | refine thenE_ret ?_ | refine blockE_ret ?_)
    have hI : over (over (xs.flatMap Fct.enc ++ Yz) ((i + 1) * 4) ((xs.drop i).flatMap Fct.enc)) (i * 4) x.enc = (xs.take i).flatMap Fct.enc ++ x.enc ++ (xs.drop i).flatMap Fct.enc := by
      have := ins_shift ((xs.take i).flatMap Fct.enc) ((xs.drop i).flatMap Fct.enc) Yz x.enc (by rw [hYl, hfl])
      rw [hAl, hfl, show i * 4 + 4 = (i + 1) * 4 by omega, ← List.append_assoc, ← List.flatMap_append, List.take_append_drop] at this
      exact this
    try simp only [List.set_cons_zero] at I
    rw [hI] at I
    exact ⟨.inl rfl, [.slice (some ⟨gg, 0, none⟩) (n + 1) cap], ⟨rfl, trivial⟩, _, _, rfl, hl, I⟩
end Go.TF
