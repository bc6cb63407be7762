/- Adding a fact, as base and the document do. -/
import Derived.Test.YtenigglapeajdaaBas3
namespace Go.TF
open Go Go.RowKit Go.Proofs
set_option maxRecDepth 20000

theorem srt_place {f : List Fct} (hp : ∀ y ∈ f, PF y) (hs : SrtF f) : ∀ i, (hi : i < f.length) → (i : Int) ≤ placeF f[i]
  | 0, hi => (hp _ (List.getElem_mem hi)).place.1
  | i + 1, hi => by
    have h1 := srt_place hp hs i (by omega)
    have h2 := hs.get (i := i) (j := i + 1) (by omega) hi
    omega
theorem srt_len {f : List Fct} (hp : ∀ y ∈ f, PF y) (hs : SrtF f) : f.length ≤ 125 := by
  rcases Nat.lt_or_ge 125 f.length with h | h
  · have h1 := srt_place hp hs 125 h
    have h2 := (hp _ (List.getElem_mem h)).place.2
    omega
  · exact h
theorem FOk.len125 {l : List Prd} {f : List Fct} (ok : FOk l f) : f.length ≤ 125 := srt_len ok.pf ok.srt
def CloneP (xs : List Fct) (h0 : Heap) : Value → Heap → Prop := fun v h => ∃ s : Sl Fct, v = s.val ∧ s.xs = xs ∧ OwnH 35 4 s Fct.enc h0 h ∧ (s.xs = [] → s.cap = 0)
theorem CloneP.mono {xs : List Fct} {h0 : Heap} : MonoS (CloneP xs h0) := fun _ _ _ hl hx => by
  obtain ⟨s, h1, h2, h3, h4⟩ := hx
  exact ⟨s, h1, h2, h3.le hl, h4⟩
theorem fct_inj {x y : Fct} (h : x.enc = y.enc) : x = y := by
  cases x; cases y; simp only [Fct.enc, List.cons.injEq, Value.int.injEq, true_and, and_true] at h; simp only [Fct.mk.injEq]; exact h
theorem lit_apart {s : Sl Fct} {u : Nat} {h0 h : Heap} {x : Fct} (o : OwnH 35 4 s Fct.enc h0 h) (s0 : s.xs = [] → s.cap = 0) (hu : h u = some (.cells x.enc.toArray 35 (0, 0))) (hx : x ∉ s.xs) : s.at_ ≠ some ⟨u, 0, none⟩ := by
  intro e
  rcases o with rfl | ⟨g, cur, e1, e2, e3, e4, e5, e6, e7⟩
  · cases e
  · rw [e1] at e
    have : g = u := by simpa using e
    subst this
    rw [e3] at hu
    have hc : cur = x.enc.toArray := by simpa using hu
    subst hc
    have hcap : s.cap = 1 := by simp only [List.size_toArray, Fct.enc, List.length_cons, List.length_nil] at e6; omega
    match hs : s.xs with
    | [] => have := s0 hs; omega
    | [y] =>
      rw [hs] at e7
      have : x.enc = y.enc := by simpa [Fct.enc] using e7
      exact hx (by rw [hs, fct_inj this]; simp)
    | _ :: _ :: _ => rw [hs] at e4; simp only [List.length_cons] at e4; omega
theorem flat_set (v : Int) : ∀ (xs : List Fct) (i : Nat) (hi : i < xs.length), (xs.flatMap Fct.enc).set (i * 4 + 3) (.int .i64 v) = (xs.set i ⟨xs[i].pred, xs[i].a, xs[i].b, v⟩).flatMap Fct.enc
  | [], i, hi => absurd hi (Nat.not_lt_zero _)
  | x :: xs, 0, _ => by simp [Fct.enc]
  | x :: xs, i + 1, hi => by
    have := flat_set v xs i (by simpa using hi)
    simp only [List.flatMap_cons, List.set_cons_succ, List.getElem_cons_succ]
    rw [← this, List.set_append, if_neg (by simp only [Fct.enc, List.length_cons, List.length_nil]; omega)]
    congr 2
    show (i + 1) * 4 + 3 - 4 = _
    omega
theorem isF_mem {f : List Fct} {x : Fct} (h : isF f x = false) : x ∉ f := fun hx => by
  have : lkF f (placeF x) = none := by unfold isF at h; cases hk : lkF f (placeF x) <;> simp_all
  exact lkF_none.1 this x hx rfl
/-- What adding hands back. -/
def PutP (r : List Fct × Bool) (v : Value) (h : Heap) : Prop := ∃ s : Sl Fct, v = .tuple #[s.val, .bool r.2] ∧ s.xs = r.1 ∧ Fcts s h
set_option maxHeartbeats 1000000 in
theorem Put_ok (B : Base) (hB : B.ok) (l : Sl Prd) (hls : Prds l B.h) (f : Sl Fct) (hf : Fcts f B.h) (ok : FOk l.xs f.xs) (x : Fct) (hx : factFine l.xs x = true) : Fn Try.prog 43 [l.val, f.val, x.val] B (PutP (addF (predOf l.xs x.pred).kind f.xs x)) := by
  have px := fine_pf ok.len hx
  have hiff := isF_iff (x := x) ok.srt
  have h01 := (fine_iff.1 hx).1
  have hk : x.pred.toNat < l.xs.length := by omega
  have E2 := hls.at hk
  have hpo : l.xs[x.pred.toNat] = predOf l.xs x.pred := (predOf_getE h01.1 h01.2).symm
  have hkd := fine_kind hx
  rw [← hpo] at hkd
  have h125 := ok.len125
  refine Fn.of Try.func43 rfl Try.ntmps43 (by kernel_rfl) (by simp) ?_
  intro e
  have I := Inv.start hB
  refine WP.seq ?_
  refine WP.region ?_
  refine Ops.go (O.box (v := .agg #[_, _, _, _]) I rfl rfl ?_)
  intro b5 w I
  refine Ops.y (v := .slice _ _ _) (Y.assign rfl) ?_
  refine Ops.y (v := .bool _) (Y.assign rfl) ?_
  refine Ops.nil ?_
  refine WP.seq ?_
  refine WP.region ?_
  refine Ops.y (v := .slice _ _ _) (Y.move rfl) ?_
  refine Ops.y (v := .agg #[_, _, _, _]) (Y.loadv ty_35 rfl (I.rdbox 0 rfl 0 4) rfl rfl) ?_
  refine Ops.go (O.callv I Try.call34 (Seek_ok _ I.base_ok f hf ok.pf ok.srt x px) rfl ?_)
  intro w I
  refine Ops.y (v := .tuple #[_, _]) (Y.move rfl) ?_
  refine Ops.y (v := .int .i64 _) (Y.extract rfl rfl) ?_
  refine Ops.y (v := .bool _) (Y.extract rfl rfl) ?_
  refine Ops.y (v := .int .i64 _) (Y.assign rfl) ?_
  refine Ops.y (v := .bool _) (Y.assign rfl) ?_
  refine Ops.nil ?_
  cases hi : isF f.xs x
  · refine WP.seq ?_
    refine WP.seq ?_
    refine WP.region ?_
    refine Ops.y (v := .bool _) (Y.move rfl) ?_
    refine Ops.y (v := .bool true) (Y.b (Y.not rfl) ((by first | rfl | (rw [hi]; rfl)))) ?_
    refine Ops.nil ?_
    refine WP.cond_t rfl ?_
    refine WP.seq ?_
    refine WP.regionF mixed I 5 (by kernel_rfl) ?_
    refine OpsF.y_ (v := .slice _ _ _) (fun _ => runs_none _) (fun _ w us hl I => Y.move rfl) ?_
    refine OpsF.x_ (Φ := CloneP f.xs B.h) CloneP.mono (fun _ => runs_none _) ?_ ?_
    · intro _ w hl I
      try unfold AllL
      refine O.call I Try.call72 (CloneFct_ok _ I.base_ok f (hf.le hl) (by omega)) rfl ?_
      rintro _ h2 w I hl' ⟨s, rfl, es, o, s0⟩
      exact ⟨_, hl', I, ⟨s, rfl, es, o.older hl, s0⟩⟩
    refine OpsF.y_ (v := .int .i64 _) (fun _ => runs_none _) (fun _ w us hl I => Y.move rfl) ?_
    refine OpsF.y_ (v := .agg #[_, _, _, _]) (fun _ => runs_none _) (fun _ w us hl I => Y.loadv ty_35 rfl (I.rdbox 0 rfl 0 4) rfl rfl) ?_
    refine OpsF.x_ (Φ := LitW 35 x.enc 1) LitW.mono (fun _ => runs_none _) ?_ ?_
    · intro _ w hl I u21 q21
      exact O.mklit (cs := x.enc) I Try.underlying33 Try.sizeOf35 Try.zeroValue35 (by decide) (by decide) rfl rfl (fun v h w I le sl => ⟨h, le, I, sl⟩)
    refine OpsF.nil ?_
    intro _ w hl I u21 q21 u24 q24
    obtain ⟨s, rfl, es, o, s0⟩ := q21 rfl
    obtain ⟨u, rfl, hu⟩ := q24 rfl
    have hne := lit_apart o s0 hu (by rw [es]; exact isF_mem hi)
    obtain ⟨h6, I, mono6, keep6⟩ := I.unsettle o (Heap.le.refl _)
    refine Ops.go (O.calls Try.call71 (Insert_ok I rfl (posF f.xs x) (by rw [es]; exact posF_le) x u ((keep6 u _ hu).resolve_right hne) (by rw [es]; omega)) rfl ?_)
    rintro ed w ⟨v7, h7, rfl, le7, I⟩
    refine ⟨_, rfl, ?_⟩
    obtain ⟨h8, s8, le8, rfl, hx8, in8, I⟩ := I.settleSl (fun _ => rfl) (by have := posF_le (f := f.xs) (x := x); simp only [List.length_append, List.length_cons, List.length_take, List.length_drop, es]; omega)
    refine Ops.y (v := .slice _ _ _) (Y.assign rfl) ?_
    refine Ops.y (v := .bool _) (Y.assign rfl) ?_
    refine Ops.nil ?_
    refine WP.ret ?_
    repeat (first | refine thenE_ret ?_ | refine blockE_ret ?_)
    exact retQ.mk (vs := [.slice _ _ _, .bool _]) rfl ⟨rfl, rfl, trivial⟩ I.ext_of (by rw [addF_new ok.srt hi]; exact ⟨s8, rfl, by rw [hx8, es], in8, by rw [hx8, es]; simp only [List.length_append, List.length_cons, List.length_take, List.length_drop]; omega⟩)
  · obtain ⟨hlt, he⟩ := hiff.1 hi
    have E1 := hf.at hlt
    have ha := addF_old (k := (predOf l.xs x.pred).kind) ok.srt hlt he
    refine WP.seq ?_
    refine WP.seq ?_
    refine WP.region ?_
    refine Ops.y (v := .bool _) (Y.move rfl) ?_
    refine Ops.y (v := .bool false) (Y.b (Y.not rfl) ((by first | rfl | (rw [hi]; rfl)))) ?_
    refine Ops.nil ?_
    refine WP.cond_f rfl ?_
    refine WP.skip ?_
    refine WP.seq ?_
    refine WP.regionQ mixed I (by kernel_rfl) ?_
    refine OpsQ.y (v := .slice _ _ _) (fun w I => Y.move rfl) ?_
    refine OpsQ.y (v := .pointer (some ⟨_, _, none⟩)) (fun w I => Y.fa0 fa_35_0 rfl) ?_
    refine OpsQ.y (v := .int .i64 _) (fun w I => Y.loadv ty_3 rfl (I.rdbox 0 rfl 0 1) rfl rfl) ?_
    refine OpsQ.y (v := .pointer (some ⟨_, _, none⟩)) (fun w I => Y.idxEl E2 Try.underlying22 Try.sizeOf51 rfl rfl h01.1 rfl) ?_
    refine OpsQ.y (v := .pointer (some ⟨_, _, none⟩)) (fun w I => Y.fa fa_51_2 rfl) ?_
    refine OpsQ.y (v := .int .i64 _) (fun w I => Y.loadv ty_3 rfl (I.rd (E2.rd.part 2 1)) rfl rfl) ?_
    refine OpsQ.y (v := .slice _ _ _) (fun w I => Y.move rfl) ?_
    refine OpsQ.y (v := .int .i64 _) (fun w I => Y.move rfl) ?_
    refine OpsQ.y (v := .pointer (some ⟨_, _, none⟩)) (fun w I => Y.idxEl E1 Try.underlying33 Try.sizeOf35 rfl rfl (Int.natCast_nonneg _) rfl) ?_
    refine OpsQ.y (v := .pointer (some ⟨_, _, none⟩)) (fun w I => Y.fa fa_35_3 rfl) ?_
    refine OpsQ.y (v := .int .i64 _) (fun w I => Y.loadv ty_3 rfl (I.rd (E1.rd.part 3 1)) rfl rfl) ?_
    refine OpsQ.y (v := .pointer (some ⟨_, _, none⟩)) (fun w I => Y.fa fa_35_3 rfl) ?_
    refine OpsQ.y (v := .int .i64 _) (fun w I => Y.loadv ty_3 rfl (I.rdbox 0 rfl 3 1) rfl rfl) ?_
    refine OpsQ.c (fun w I => QC.callv I Try.call73 (Joined_ok _ I.base_ok _ _ _ hkd) rfl) ?_
    refine OpsQ.y (v := .int .i64 _) (fun w I => Y.assign rfl) ?_
    refine OpsQ.nil ?_
    intro w I
    refine WP.seq ?_
    refine WP.seq ?_
    refine WP.region ?_
    refine Ops.y (v := .int .i64 _) (Y.move rfl) ?_
    refine Ops.y (v := .slice _ _ _) (Y.move rfl) ?_
    refine Ops.y (v := .int .i64 _) (Y.move rfl) ?_
    refine Ops.y (v := .pointer (some ⟨_, _, none⟩)) (Y.idxEl E1 Try.underlying33 Try.sizeOf35 rfl rfl (Int.natCast_nonneg _) rfl) ?_
    refine Ops.y (v := .pointer (some ⟨_, _, none⟩)) (Y.fa fa_35_3 rfl) ?_
    refine Ops.y (v := .int .i64 _) (Y.loadv ty_3 rfl (I.rd (E1.rd.part 3 1)) rfl rfl) ?_
    refine Ops.y (v := .bool (decide _)) (Y.eqi rfl rfl) ?_
    refine Ops.nil ?_
    refine WP.cond_dec rfl (fun h5 => ?_) (fun h5 => ?_)
    · rw [hpo] at h5
      refine WP.seq ?_
      refine WP.region ?_
      refine Ops.y (v := .slice _ _ _) (Y.move rfl) ?_
      refine Ops.go (O.call I Try.call72 (CloneFct_ok _ I.base_ok f hf (by omega)) rfl ?_)
      rintro _ h2 w I le2 ⟨s, rfl, es, o, s0⟩
      refine Ops.y (v := .slice _ _ _) (Y.assign rfl) ?_
      refine Ops.y (v := .bool _) (Y.assign rfl) ?_
      refine Ops.nil ?_
      have hset : f.xs.set (posF f.xs x) ⟨f.xs[posF f.xs x].pred, f.xs[posF f.xs x].a, f.xs[posF f.xs x].b, joinV (predOf l.xs x.pred).kind f.xs[posF f.xs x].v x.v⟩ = f.xs := by rw [h5]; exact List.set_getElem_self _
      refine WP.ret ?_
      repeat (first | refine thenE_ret ?_ | refine blockE_ret ?_)
      exact retQ.mk (vs := [.slice _ _ _, .bool _]) rfl ⟨rfl, rfl, trivial⟩ I.ext_of (by rw [ha, hset]; exact ⟨s, by rw [decide_eq_false (fun h => h h5)]; rfl, es, o.in (fun _ => rfl), by rw [es]; omega⟩)
    rw [hpo] at h5
    refine WP.skip ?_
    refine WP.seq ?_
    refine WP.region ?_
    refine Ops.y (v := .slice _ _ _) (Y.move rfl) ?_
    refine Ops.go (O.call I Try.call72 (CloneFct_ok _ I.base_ok f hf (by omega)) rfl ?_)
    rintro _ h2 w I le2 ⟨s, rfl, es, o, s0⟩
    refine Ops.y (v := .slice _ _ _) (Y.assign rfl) ?_
    refine Ops.nil ?_
    obtain ⟨a, c, ys⟩ := s
    dsimp only at es
    subst es
    have E3 := (o.in (fun _ => rfl)).el (List.getElem?_eq_getElem hlt)
    obtain ⟨g, rfl⟩ : ∃ g, a = some ⟨g, 0, none⟩ := by
      rcases o with o | ⟨g, cur, e1, _⟩
      · have := congrArg Sl.xs o; dsimp only at this; rw [this] at hlt; simp at hlt
      · exact ⟨g, e1⟩
    obtain ⟨h6, I, mono6, keep6⟩ := I.unsettle o (Heap.le.refl _)
    refine WP.seq ?_
    refine WP.region ?_
    refine Ops.y (v := .slice _ _ _) (Y.move rfl) ?_
    refine Ops.y (v := .int .i64 _) (Y.move rfl) ?_
    refine Ops.y (v := .int .i64 _) (Y.move rfl) ?_
    refine Ops.y (v := .pointer (some ⟨_, _, none⟩)) (Y.idxEl E3 Try.underlying33 Try.sizeOf35 rfl rfl (Int.natCast_nonneg _) rfl) ?_
    refine Ops.y (v := .pointer (some ⟨_, _, none⟩)) (Y.fa fa_35_3 rfl) ?_
    refine Ops.go (O.storeS (v := .int .i64 _) I ty_3 et_35 0 rfl rfl rfl rfl rfl (by rw [flat_len (enc := Fct.enc) (k := 4) (fun _ => rfl)]; simp only [Sl.off, Option.getD_some]; omega) ?_)
    intro w I
    refine Ops.nil ?_
    have I : Inv B h6 [ownSl 35 4 (.slice (some ⟨g, 0, none⟩) f.xs.length c) f.xs.length ((f.xs.set (posF f.xs x) ⟨f.xs[posF f.xs x].pred, f.xs[posF f.xs x].a, f.xs[posF f.xs x].b, joinV (predOf l.xs x.pred).kind f.xs[posF f.xs x].v x.v⟩).flatMap Fct.enc), box b5 x.enc 35] w := by
      rw [← flat_set, ← hpo]
      have J := I
      simp only [Sl.off, Option.getD_some, Nat.zero_add] at J
      exact J
    obtain ⟨h8, s8, le8, hv8, hx8, in8, I⟩ := I.settleSl (fun _ => rfl) (by rw [List.length_set])
    refine WP.seq ?_
    refine WP.region ?_
    refine Ops.y (v := .slice _ _ _) (Y.move rfl) ?_
    refine Ops.y (v := .slice _ _ _) (Y.assign rfl) ?_
    refine Ops.y (v := .bool _) (Y.assign rfl) ?_
    refine Ops.nil ?_
    refine WP.ret ?_
    repeat (first | refine thenE_ret ?_ | refine blockE_ret ?_)
    exact retQ.mk (vs := [.slice _ _ _, .bool _]) rfl ⟨rfl, rfl, trivial⟩ I.ext_of (by rw [ha]; exact ⟨s8, by rw [hv8, decide_eq_true h5]; rfl, hx8, in8, by rw [hx8, List.length_set]; omega⟩)
def AddP (r : List Fct × Bool × Int) (v : Value) (h : Heap) : Prop := ∃ s : Sl Fct, v = .tuple #[s.val, .bool r.2.1, .int .i64 r.2.2] ∧ s.xs = r.1 ∧ Fcts s h
theorem nilF {h : Heap} : Fcts ⟨none, 0, []⟩ h := ⟨fun i x hx => by simp at hx, by simp⟩
theorem ask_ne {l : List Prd} {f : List Fct} {x : Fct} (h : askF l f x ≠ 0) : addOf l f x = ([], false, askF l f x) := by
  unfold askF at h ⊢
  unfold addOf
  by_cases hc : checkFacts l f ≠ 0
  · rw [if_pos hc, if_pos hc]
  · rw [if_neg hc] at h ⊢
    rw [if_neg hc]
    cases hx : factFine l x
    · rfl
    · rw [hx] at h; exact absurd rfl h
theorem Add_ok (B : Base) (hB : B.ok) (l : Sl Prd) (hl : Prds l B.h) (f : Sl Fct) (hf : Fcts f B.h) (x : Fct) : Fn Try.prog 18 [l.val, f.val, x.val] B (AddP (addOf l.xs f.xs x)) := by
  refine Fn.of Try.func18 rfl Try.ntmps18 (by kernel_rfl) (by simp) ?_
  intro e
  have I := Inv.start hB
  refine WP.seq ?_
  refine WP.region ?_
  refine Ops.go (O.box (v := .agg #[_, _, _, _]) I rfl rfl ?_)
  intro b5 w I
  refine Ops.y (v := .slice _ _ _) (Y.assign rfl) ?_
  refine Ops.y (v := .bool _) (Y.assign rfl) ?_
  refine Ops.y (v := .int .i64 _) (Y.assign rfl) ?_
  refine Ops.nil ?_
  refine WP.seq ?_
  refine WP.seq ?_
  refine WP.region ?_
  refine Ops.y (v := .slice _ _ _) (Y.move rfl) ?_
  refine Ops.y (v := .slice _ _ _) (Y.move rfl) ?_
  refine Ops.y (v := .agg #[_, _, _, _]) (Y.loadv ty_35 rfl (I.rdbox 0 rfl 0 4) rfl rfl) ?_
  refine Ops.go (O.callv I Try.call33 (asked_ok _ I.base_ok l hl f hf x) rfl ?_)
  intro w I
  refine Ops.y (v := .int .i64 _) (Y.assign rfl) ?_
  refine Ops.nil ?_
  refine WP.seq ?_
  refine WP.region ?_
  refine Ops.y (v := .int .i64 _) (Y.move rfl) ?_
  refine Ops.y (v := .bool (decide _)) (Y.nei rfl rfl) ?_
  refine Ops.nil ?_
  refine WP.cond_dec rfl (fun h => ?_) (fun h => ?_)
  · refine WP.seq ?_
    refine WP.region ?_
    refine Ops.y (v := .int .i64 _) (Y.move rfl) ?_
    refine Ops.y (v := .slice _ _ _) (Y.assign rfl) ?_
    refine Ops.y (v := .bool _) (Y.assign rfl) ?_
    refine Ops.y (v := .int .i64 _) (Y.assign rfl) ?_
    refine Ops.nil ?_
    refine WP.ret ?_
    repeat (first | refine thenE_ret ?_ | refine blockE_ret ?_)
    exact retQ.mk (vs := [.slice _ _ _, .bool _, .int .i64 _]) rfl ⟨rfl, rfl, rfl, trivial⟩ I.ext_of (by rw [ask_ne h]; exact ⟨⟨none, 0, []⟩, rfl, rfl, nilF⟩)
  have hc : checkFacts l.xs f.xs = 0 := by unfold askF at h; split at h <;> rename_i hc <;> omega
  have hx : factFine l.xs x = true := by
    unfold askF at h; rw [if_neg (by simpa using hc)] at h
    cases hx : factFine l.xs x
    · rw [hx] at h; simp at h
    · rfl
  have ok := checkFacts_ok.1 hc
  refine WP.skip ?_
  refine WP.seq ?_
  refine WP.region ?_
  refine Ops.y (v := .slice _ _ _) (Y.move rfl) ?_
  refine Ops.y (v := .slice _ _ _) (Y.move rfl) ?_
  refine Ops.y (v := .agg #[_, _, _, _]) (Y.loadv ty_35 rfl (I.rdbox 0 rfl 0 4) rfl rfl) ?_
  refine Ops.go (O.call I Try.call43 (Put_ok _ I.base_ok l hl f hf ok x hx) rfl ?_)
  rintro _ h2 w I le2 ⟨s, rfl, es, hs⟩
  refine Ops.y (v := .tuple #[_, _]) (Y.move rfl) ?_
  refine Ops.y (v := .slice _ _ _) (Y.extract rfl rfl) ?_
  refine Ops.y (v := .bool _) (Y.extract rfl rfl) ?_
  refine Ops.y (v := .slice _ _ _) (Y.assign rfl) ?_
  refine Ops.y (v := .bool _) (Y.assign rfl) ?_
  refine Ops.nil ?_
  refine WP.seq ?_
  refine WP.region ?_
  refine Ops.y (v := .slice _ _ _) (Y.move rfl) ?_
  refine Ops.y (v := .bool _) (Y.move rfl) ?_
  refine Ops.y (v := .slice _ _ _) (Y.assign rfl) ?_
  refine Ops.y (v := .bool _) (Y.assign rfl) ?_
  refine Ops.y (v := .int .i64 _) (Y.assign rfl) ?_
  refine Ops.nil ?_
  refine WP.ret ?_
  repeat (first | refine thenE_ret ?_ | refine blockE_ret ?_)
  exact retQ.mk (vs := [.slice _ _ _, .bool _, .int .i64 _]) rfl ⟨rfl, rfl, rfl, trivial⟩ I.ext_of (by unfold addOf; rw [if_neg (by simpa using hc), if_pos hx]; exact ⟨s, rfl, es, hs⟩)
structure AddS where
  k : Nat
  n : Nat
  a : Option Addr
  c : Nat
  acc : List Fct
  th : Bool
  ch : Bool
structure AddJ (B : Base) (b5 : Nat) (x : Fct) (kd : Int) (f : List Fct) (s : AddS) (w : World) : Prop where
  inv : ∃ h1, B.h.le h1 ∧ Inv B h1 [ownSl 35 4 (.slice s.a s.n s.c) s.n (s.acc.flatMap Fct.enc), box b5 x.enc 35] w
  n : s.n = s.acc.length
  k : s.k ≤ f.length
  le : s.n ≤ s.k + 1
  lo : s.th = false → s.acc = f.take s.k ∧ s.ch = false ∧ ∀ j, j < s.k → ∀ hj : j < f.length, placeF f[j] < placeF x
  hi : s.th = true → addF kd f x = (s.acc ++ f.drop s.k, s.ch) ∧ ∀ j, s.k ≤ j → ∀ hj : j < f.length, placeF x < placeF f[j]
theorem flat_snoc (acc : List Fct) (y : Fct) : (acc ++ [y]).flatMap Fct.enc = acc.flatMap Fct.enc ++ y.enc := by simp
set_option maxHeartbeats 2000000 in
theorem radd_ok (B : Base) (hB : B.ok) (l : Sl Prd) (hls : Prds l B.h) (f : Sl Fct) (hf : Fcts f B.h) (ok : FOk l.xs f.xs) (x : Fct) (hx : factFine l.xs x = true) : Fn Try.prog 45 [l.val, f.val, x.val] B (PutP (addF (predOf l.xs x.pred).kind f.xs x)) := by
  have px := fine_pf ok.len hx
  have h01 := (fine_iff.1 hx).1
  have hkp : x.pred.toNat < l.xs.length := by omega
  have hpo : l.xs[x.pred.toNat] = predOf l.xs x.pred := (predOf_getE h01.1 h01.2).symm
  have h125 := ok.len125
  refine Fn.of Try.func45 rfl Try.ntmps45 (by kernel_rfl) (by simp) ?_
  intro e
  have I := Inv.start hB
  refine WP.seq ?_
  refine WP.region ?_
  refine Ops.go (O.box (v := .agg #[_, _, _, _]) I rfl rfl ?_)
  intro b5 w I
  refine Ops.y (v := .slice _ _ _) (Y.assign rfl) ?_
  refine Ops.y (v := .bool _) (Y.assign rfl) ?_
  refine Ops.nil ?_
  have I := I.nilSl 35 4
  refine WP.seq ?_
  refine WP.region ?_
  refine Ops.y (v := .slice _ _ _) (Y.assign rfl) ?_
  refine Ops.nil ?_
  refine WP.seq ?_
  refine WP.region ?_
  refine Ops.y (v := .bool _) (Y.assign rfl) ?_
  refine Ops.y (v := .bool _) (Y.assign rfl) ?_
  refine Ops.nil ?_
  refine WP.seq ?_
  refine WP.seq ?_
  refine WP.region ?_
  refine Ops.y (v := .int .i64 _) (Y.assign rfl) ?_
  refine Ops.nil ?_
  refine WP.block ?_
  refine WP.loopE (σ := AddS) (fun s => [(0, l.val), (1, f.val), (5, .pointer (some ⟨b5, 0, none⟩)), (8, .slice s.a s.n s.c), (9, .bool s.th), (10, .bool s.ch), (11, .int .i64 s.k)]) (AddJ B b5 x (predOf l.xs x.pred).kind f.xs) (fun s => f.xs.length - s.k)
    ⟨⟨0, 0, none, 0, [], false, false⟩, ⟨rfl, rfl, rfl, rfl, rfl, rfl, rfl, trivial⟩, ⟨_, Heap.le.refl _, I⟩, rfl, Nat.zero_le _, Nat.zero_le _, fun _ => ⟨rfl, rfl, fun j hj => absurd hj (Nat.not_lt_zero _)⟩, fun h => by cases h⟩ ?_
  rintro ⟨k, n, a, c, acc, th, ch⟩ e w ⟨⟨h1, gl, I⟩, hn, hk, hle, hF, hT⟩
  dsimp only at I hn hk hle hF hT ⊢
  refine WP.seq ?_
  refine WP.seq ?_
  refine WP.region ?_
  refine Ops.y (v := .int .i64 _) (Y.move rfl) ?_
  refine Ops.y (v := .slice _ _ _) (Y.move rfl) ?_
  refine Ops.y (v := .int .i64 _) (Y.lens Try.underlying33 rfl) ?_
  refine Ops.y (v := .bool (decide _)) (Y.lti rfl rfl) ?_
  refine Ops.nil ?_
  refine WP.cond_dec rfl (fun h => ?_) (fun h => ?_)
  · have hk' : k < f.xs.length := by omega
    have E1 := (hf.le gl).at hk'
    have E2 := (hls.le gl).at hkp
    have py := ok.pf _ (List.getElem_mem hk')
    have hdr : f.xs.drop k = f.xs[k] :: f.xs.drop (k + 1) := List.drop_eq_getElem_cons hk'
    have htk : f.xs.take (k + 1) = f.xs.take k ++ [f.xs[k]] := by rw [List.take_succ_eq_append_getElem hk']
    refine WP.skip ?_
    refine WP.seq ?_
    refine WP.block ?_
    refine WP.seq ?_
    refine WP.region ?_
    refine Ops.y (v := .slice _ _ _) (Y.move rfl) ?_
    refine Ops.y (v := .int .i64 _) (Y.move rfl) ?_
    refine Ops.y (v := .pointer (some ⟨_, _, none⟩)) (Y.idxEl E1 Try.underlying33 Try.sizeOf35 rfl rfl (Int.natCast_nonneg _) rfl) ?_
    refine Ops.y (v := .agg #[_, _, _, _]) (Y.loadv ty_35 rfl (I.rd (E1.rd.part 0 4)) rfl rfl) ?_
    refine Ops.go (O.alloc I Try.zeroValue35 rfl ?_)
    intro b12 w I
    refine Ops.go (O.store (v := .agg #[_, _, _, _]) I ty_35 0 rfl rfl rfl rfl rfl rfl (Nat.le_of_ble_eq_true rfl) rfl ?_)
    intro w I
    refine Ops.nil ?_
    cases th
    · obtain ⟨rfl, rfl, hlo⟩ := hF rfl
      rcases Int.lt_trichotomy (placeF f.xs[k]) (placeF x) with hlt | heq | hgt
      · refine WP.seq ?_
        refine WP.seq ?_
        refine WP.regionQ mixed I (by kernel_rfl) ?_
        refine OpsQ.y (v := .agg #[_, _, _, _]) (fun w I => Y.loadv ty_35 rfl (I.rdbox 0 rfl 0 4) rfl rfl) ?_
        refine OpsQ.c (fun w I => QC.callv I Try.call42 (place_ok _ I.base_ok _ py) rfl) ?_
        refine OpsQ.y (v := .agg #[_, _, _, _]) (fun w I => Y.loadv ty_35 rfl (I.rdbox 2 rfl 0 4) rfl rfl) ?_
        refine OpsQ.c (fun w I => QC.callv I Try.call42 (place_ok _ I.base_ok _ px) rfl) ?_
        refine OpsQ.y (v := .bool false) (fun w I => Y.dec_f (Y.eqi rfl rfl) ((by omega))) ?_
        refine OpsQ.nil ?_
        intro w I
        refine WP.cond_f rfl ?_
        refine WP.skip ?_
        refine WP.seq ?_
        refine WP.seq ?_
        refine WP.regionQ mixed I (by kernel_rfl) ?_
        refine OpsQ.y (v := .bool _) (fun w I => Y.move rfl) ?_
        refine OpsQ.y (v := .bool true) (fun w I => Y.b (Y.not rfl) (rfl)) ?_
        refine OpsQ.y (v := .bool _) (fun w I => Y.move rfl) ?_
        refine OpsQ.ygt rfl (v := .agg #[_, _, _, _]) (fun w I => Y.loadv ty_35 rfl (I.rdbox 0 rfl 0 4) rfl rfl) ?_
        refine OpsQ.cgt rfl (fun w I => QC.callv I Try.call42 (place_ok _ I.base_ok _ py) rfl) ?_
        refine OpsQ.ygt rfl (v := .agg #[_, _, _, _]) (fun w I => Y.loadv ty_35 rfl (I.rdbox 2 rfl 0 4) rfl rfl) ?_
        refine OpsQ.cgt rfl (fun w I => QC.callv I Try.call42 (place_ok _ I.base_ok _ px) rfl) ?_
        refine OpsQ.ygt rfl (v := .bool false) (fun w I => Y.dec_f (Y.gti rfl rfl) ((by omega))) ?_
        refine OpsQ.y (v := .bool _) (fun w I => Y.pick_t rfl rfl) ?_
        refine OpsQ.nil ?_
        intro w I
        refine WP.cond_f rfl ?_
        refine WP.skip ?_
        refine WP.region ?_
        refine Ops.y (v := .slice _ _ _) (Y.move rfl) ?_
        refine Ops.y (v := .agg #[_, _, _, _]) (Y.loadv ty_35 rfl (I.rdbox 0 rfl 0 4) rfl rfl) ?_
        refine Ops.go (O.mksl (xs := [f.xs[k]]) (enc := Fct.enc) I Try.underlying33 Try.sizeOf35 Try.zeroValue35 rfl (Nat.le_of_ble_eq_true rfl) rfl rfl (by decide) (fun _ => rfl) ?_)
        intro b61 h61 w I le61 sl61
        refine Ops.go (O.append I Try.underlying33 et_35 1 rfl rfl rfl (I.rd (sl61 0 _ rfl).2) rfl rfl (by decide) ((by omega)) (by omega) ?_)
        intro b62 c62 w I
        refine Ops.y (v := .slice _ _ _) (Y.assign rfl) ?_
        refine Ops.nil ?_
        refine WP.region ?_
        refine Ops.y (v := .int .i64 _) (Y.move rfl) ?_
        refine Ops.y (v := .int .i64 _) (Y.addi rfl rfl ⟨by omega, by omega⟩) ?_
        refine Ops.y (v := .int .i64 _) (Y.assign rfl) ?_
        refine Ops.nil ?_
        exact ⟨⟨k + 1, n + 1, some ⟨b62, 0, none⟩, c62, f.xs.take (k + 1), false, false⟩, ⟨⟨rfl, rfl, rfl, rfl, rfl, rfl, rfl, trivial⟩, ⟨h61, gl.trans le61, by rw [htk, flat_snoc]; exact I.drop⟩, by rw [htk, List.length_append, ← hn]; rfl, (by dsimp only; omega), (by dsimp only; omega), fun _ => ⟨rfl, rfl, fun j hj hj' => by
          rcases Nat.lt_succ_iff_lt_or_eq.1 hj with h' | rfl
          · exact hlo j h' hj'
          · exact hlt⟩, fun h => by cases h⟩, (by dsimp only; omega)⟩
      · have hpos : posF f.xs x = k := posF_of (by omega) (fun m h hm => hlo m hm h) (fun h => by omega)
        have ha := addF_old (k := (predOf l.xs x.pred).kind) ok.srt (x := x) (by omega) (by simp only [hpos]; exact heq)
        simp only [hpos] at ha
        refine WP.seq ?_
        refine WP.seq ?_
        refine WP.regionQ mixed I (by kernel_rfl) ?_
        refine OpsQ.y (v := .agg #[_, _, _, _]) (fun w I => Y.loadv ty_35 rfl (I.rdbox 0 rfl 0 4) rfl rfl) ?_
        refine OpsQ.c (fun w I => QC.callv I Try.call42 (place_ok _ I.base_ok _ py) rfl) ?_
        refine OpsQ.y (v := .agg #[_, _, _, _]) (fun w I => Y.loadv ty_35 rfl (I.rdbox 2 rfl 0 4) rfl rfl) ?_
        refine OpsQ.c (fun w I => QC.callv I Try.call42 (place_ok _ I.base_ok _ px) rfl) ?_
        refine OpsQ.y (v := .bool true) (fun w I => Y.dec_t (Y.eqi rfl rfl) (heq)) ?_
        refine OpsQ.nil ?_
        intro w I
        refine WP.cond_t rfl ?_
        refine WP.seq ?_
        refine WP.region ?_
        refine Ops.y (v := .bool _) (Y.assign rfl) ?_
        refine Ops.nil ?_
        refine WP.seq ?_
        refine WP.regionQ mixed I (by kernel_rfl) ?_
        refine OpsQ.y (v := .slice _ _ _) (fun w I => Y.move rfl) ?_
        refine OpsQ.y (v := .pointer (some ⟨_, _, none⟩)) (fun w I => Y.fa0 fa_35_0 rfl) ?_
        refine OpsQ.y (v := .int .i64 _) (fun w I => Y.loadv ty_3 rfl (I.rdbox 2 rfl 0 1) rfl rfl) ?_
        refine OpsQ.y (v := .pointer (some ⟨_, _, none⟩)) (fun w I => Y.idxEl E2 Try.underlying22 Try.sizeOf51 rfl rfl h01.1 rfl) ?_
        refine OpsQ.y (v := .pointer (some ⟨_, _, none⟩)) (fun w I => Y.fa fa_51_2 rfl) ?_
        refine OpsQ.y (v := .int .i64 _) (fun w I => Y.loadv ty_3 rfl (I.rd (E2.rd.part 2 1)) rfl rfl) ?_
        refine OpsQ.y (v := .pointer (some ⟨_, _, none⟩)) (fun w I => Y.fa fa_35_3 rfl) ?_
        refine OpsQ.y (v := .int .i64 _) (fun w I => Y.loadv ty_3 rfl (I.rdbox 0 rfl 3 1) rfl rfl) ?_
        refine OpsQ.y (v := .pointer (some ⟨_, _, none⟩)) (fun w I => Y.fa fa_35_3 rfl) ?_
        refine OpsQ.y (v := .int .i64 _) (fun w I => Y.loadv ty_3 rfl (I.rdbox 2 rfl 3 1) rfl rfl) ?_
        refine OpsQ.c (fun w I => QC.callv I Try.call76 (joinR_ok _ I.base_ok _ _ _) rfl) ?_
        refine OpsQ.y (v := .int .i64 _) (fun w I => Y.assign rfl) ?_
        refine OpsQ.nil ?_
        intro w I
        refine WP.seq ?_
        refine WP.region ?_
        refine Ops.y (v := .int .i64 _) (Y.move rfl) ?_
        refine Ops.y (v := .pointer (some ⟨_, _, none⟩)) (Y.fa fa_35_3 rfl) ?_
        refine Ops.y (v := .int .i64 _) (Y.loadv ty_3 rfl (I.rdbox 0 rfl 3 1) rfl rfl) ?_
        refine Ops.y (v := .bool (decide _)) (Y.nei rfl rfl) ?_
        refine Ops.y (v := .bool _) (Y.assign rfl) ?_
        refine Ops.nil ?_
        refine WP.region ?_
        refine Ops.y (v := .int .i64 _) (Y.move rfl) ?_
        refine Ops.y (v := .pointer (some ⟨_, _, none⟩)) (Y.fa fa_35_3 rfl) ?_
        refine Ops.go (O.store (v := .int .i64 _) I ty_3 0 rfl rfl rfl rfl rfl rfl (Nat.le_of_ble_eq_true rfl) rfl ?_)
        intro w I
        refine Ops.nil ?_
        refine WP.seq ?_
        refine WP.seq ?_
        refine WP.regionQ mixed I (by kernel_rfl) ?_
        refine OpsQ.y (v := .bool _) (fun w I => Y.move rfl) ?_
        refine OpsQ.y (v := .bool false) (fun w I => Y.b (Y.not rfl) (rfl)) ?_
        refine OpsQ.y (v := .bool _) (fun w I => Y.move rfl) ?_
        refine OpsQ.gf rfl ?_
        refine OpsQ.gf rfl ?_
        refine OpsQ.gf rfl ?_
        refine OpsQ.gf rfl ?_
        refine OpsQ.gf rfl ?_
        refine OpsQ.y (v := .bool _) (fun w I => Y.pick_f rfl rfl) ?_
        refine OpsQ.nil ?_
        intro w I
        refine WP.cond_f rfl ?_
        refine WP.skip ?_
        refine WP.region ?_
        refine Ops.y (v := .slice _ _ _) (Y.move rfl) ?_
        refine Ops.y (v := .agg #[_, _, _, _]) (Y.loadv ty_35 rfl (I.rdbox 0 rfl 0 4) rfl rfl) ?_
        refine Ops.go (O.mksl (xs := [⟨f.xs[k].pred, f.xs[k].a, f.xs[k].b, joinV l.xs[x.pred.toNat].kind f.xs[k].v x.v⟩]) (enc := Fct.enc) I Try.underlying33 Try.sizeOf35 Try.zeroValue35 rfl (Nat.le_of_ble_eq_true rfl) rfl rfl (by decide) (fun _ => rfl) ?_)
        intro b61 h61 w I le61 sl61
        refine Ops.go (O.append I Try.underlying33 et_35 1 rfl rfl rfl (I.rd (sl61 0 _ rfl).2) rfl rfl (by decide) ((by omega)) (by omega) ?_)
        intro b62 c62 w I
        refine Ops.y (v := .slice _ _ _) (Y.assign rfl) ?_
        refine Ops.nil ?_
        refine WP.region ?_
        refine Ops.y (v := .int .i64 _) (Y.move rfl) ?_
        refine Ops.y (v := .int .i64 _) (Y.addi rfl rfl ⟨by omega, by omega⟩) ?_
        refine Ops.y (v := .int .i64 _) (Y.assign rfl) ?_
        refine Ops.nil ?_
        exact ⟨⟨k + 1, n + 1, some ⟨b62, 0, none⟩, c62, f.xs.take k ++ [⟨f.xs[k].pred, f.xs[k].a, f.xs[k].b, joinV l.xs[x.pred.toNat].kind f.xs[k].v x.v⟩], true, _⟩, ⟨⟨rfl, rfl, rfl, rfl, rfl, rfl, rfl, trivial⟩, ⟨h61, gl.trans le61, by rw [flat_snoc]; exact I.drop⟩, by rw [List.length_append, ← hn]; rfl, (by dsimp only; omega), (by dsimp only; omega), (fun h => by cases h), fun _ => ⟨by
          rw [ha, hpo, List.set_eq_take_append_cons_drop, if_pos hk', List.append_assoc]; rfl, fun j hj hj' => by
          dsimp only at hj
          have := ok.srt.get (show k < j by omega) hj'; omega⟩⟩, (by dsimp only; omega)⟩
      · have hpos : posF f.xs x = k := posF_of (by omega) (fun m h hm => hlo m hm h) (fun h => by omega)
        have hnk : n = k := by rw [hn, List.length_take]; omega
        have hno : isF f.xs x = false := by
          rw [Bool.eq_false_iff]; intro hh
          obtain ⟨q1, q2⟩ := (isF_iff (x := x) ok.srt).1 hh
          simp only [hpos] at q2; omega
        have ha := addF_new (k := (predOf l.xs x.pred).kind) ok.srt hno
        rw [hpos] at ha
        refine WP.seq ?_
        refine WP.seq ?_
        refine WP.regionQ mixed I (by kernel_rfl) ?_
        refine OpsQ.y (v := .agg #[_, _, _, _]) (fun w I => Y.loadv ty_35 rfl (I.rdbox 0 rfl 0 4) rfl rfl) ?_
        refine OpsQ.c (fun w I => QC.callv I Try.call42 (place_ok _ I.base_ok _ py) rfl) ?_
        refine OpsQ.y (v := .agg #[_, _, _, _]) (fun w I => Y.loadv ty_35 rfl (I.rdbox 2 rfl 0 4) rfl rfl) ?_
        refine OpsQ.c (fun w I => QC.callv I Try.call42 (place_ok _ I.base_ok _ px) rfl) ?_
        refine OpsQ.y (v := .bool false) (fun w I => Y.dec_f (Y.eqi rfl rfl) ((by omega))) ?_
        refine OpsQ.nil ?_
        intro w I
        refine WP.cond_f rfl ?_
        refine WP.skip ?_
        refine WP.seq ?_
        refine WP.seq ?_
        refine WP.regionQ mixed I (by kernel_rfl) ?_
        refine OpsQ.y (v := .bool _) (fun w I => Y.move rfl) ?_
        refine OpsQ.y (v := .bool true) (fun w I => Y.b (Y.not rfl) (rfl)) ?_
        refine OpsQ.y (v := .bool _) (fun w I => Y.move rfl) ?_
        refine OpsQ.ygt rfl (v := .agg #[_, _, _, _]) (fun w I => Y.loadv ty_35 rfl (I.rdbox 0 rfl 0 4) rfl rfl) ?_
        refine OpsQ.cgt rfl (fun w I => QC.callv I Try.call42 (place_ok _ I.base_ok _ py) rfl) ?_
        refine OpsQ.ygt rfl (v := .agg #[_, _, _, _]) (fun w I => Y.loadv ty_35 rfl (I.rdbox 2 rfl 0 4) rfl rfl) ?_
        refine OpsQ.cgt rfl (fun w I => QC.callv I Try.call42 (place_ok _ I.base_ok _ px) rfl) ?_
        refine OpsQ.ygt rfl (v := .bool true) (fun w I => Y.dec_t (Y.gti rfl rfl) ((by omega))) ?_
        refine OpsQ.y (v := .bool _) (fun w I => Y.pick_t rfl rfl) ?_
        refine OpsQ.nil ?_
        intro w I
        refine WP.cond_t rfl ?_
        refine WP.seq ?_
        refine WP.region ?_
        refine Ops.y (v := .slice _ _ _) (Y.move rfl) ?_
        refine Ops.y (v := .agg #[_, _, _, _]) (Y.loadv ty_35 rfl (I.rdbox 2 rfl 0 4) rfl rfl) ?_
        refine Ops.go (O.mksl (xs := [x]) (enc := Fct.enc) I Try.underlying33 Try.sizeOf35 Try.zeroValue35 rfl (Nat.le_of_ble_eq_true rfl) rfl rfl (by decide) (fun _ => rfl) ?_)
        intro b57 h57 w I le57 sl57
        refine Ops.go (O.append I Try.underlying33 et_35 1 rfl rfl rfl (I.rd (sl57 0 _ rfl).2) rfl rfl (by decide) ((by omega)) (by omega) ?_)
        intro b58 c58 w I
        refine Ops.y (v := .slice _ _ _) (Y.assign rfl) ?_
        refine Ops.nil ?_
        refine WP.region ?_
        refine Ops.y (v := .bool _) (Y.assign rfl) ?_
        refine Ops.y (v := .bool _) (Y.assign rfl) ?_
        refine Ops.nil ?_
        refine WP.region ?_
        refine Ops.y (v := .slice _ _ _) (Y.move rfl) ?_
        refine Ops.y (v := .agg #[_, _, _, _]) (Y.loadv ty_35 rfl (I.rdbox 0 rfl 0 4) rfl rfl) ?_
        refine Ops.go (O.mksl (xs := [f.xs[k]]) (enc := Fct.enc) I Try.underlying33 Try.sizeOf35 Try.zeroValue35 rfl (Nat.le_of_ble_eq_true rfl) rfl rfl (by decide) (fun _ => rfl) ?_)
        intro b61 h61 w I le61 sl61
        refine Ops.go (O.append I Try.underlying33 et_35 1 rfl rfl rfl (I.rd (sl61 0 _ rfl).2) rfl rfl (by decide) ((by omega)) (by omega) ?_)
        intro b62 c62 w I
        refine Ops.y (v := .slice _ _ _) (Y.assign rfl) ?_
        refine Ops.nil ?_
        refine WP.region ?_
        refine Ops.y (v := .int .i64 _) (Y.move rfl) ?_
        refine Ops.y (v := .int .i64 _) (Y.addi rfl rfl ⟨by omega, by omega⟩) ?_
        refine Ops.y (v := .int .i64 _) (Y.assign rfl) ?_
        refine Ops.nil ?_
        exact ⟨⟨k + 1, n + 1 + 1, some ⟨b62, 0, none⟩, c62, f.xs.take k ++ [x] ++ [f.xs[k]], true, true⟩, ⟨⟨rfl, rfl, rfl, rfl, rfl, rfl, rfl, trivial⟩, ⟨h61, (gl.trans le57).trans le61, by rw [flat_snoc, flat_snoc]; exact I.drop⟩, by rw [List.length_append, List.length_append, ← hn]; rfl, (by dsimp only; omega), (by dsimp only; omega), (fun h => by cases h), fun _ => ⟨by
          rw [ha, hdr]; simp, fun j hj hj' => by
          dsimp only at hj
          have := ok.srt.get (show k < j by omega) hj'; omega⟩⟩, (by dsimp only; omega)⟩
    · obtain ⟨ha, hhi⟩ := hT rfl
      have hgt := hhi k (Nat.le_refl _) hk'
      refine WP.seq ?_
      refine WP.seq ?_
      refine WP.regionQ mixed I (by kernel_rfl) ?_
      refine OpsQ.y (v := .agg #[_, _, _, _]) (fun w I => Y.loadv ty_35 rfl (I.rdbox 0 rfl 0 4) rfl rfl) ?_
      refine OpsQ.c (fun w I => QC.callv I Try.call42 (place_ok _ I.base_ok _ py) rfl) ?_
      refine OpsQ.y (v := .agg #[_, _, _, _]) (fun w I => Y.loadv ty_35 rfl (I.rdbox 2 rfl 0 4) rfl rfl) ?_
      refine OpsQ.c (fun w I => QC.callv I Try.call42 (place_ok _ I.base_ok _ px) rfl) ?_
      refine OpsQ.y (v := .bool false) (fun w I => Y.dec_f (Y.eqi rfl rfl) ((by omega))) ?_
      refine OpsQ.nil ?_
      intro w I
      refine WP.cond_f rfl ?_
      refine WP.skip ?_
      refine WP.seq ?_
      refine WP.seq ?_
      refine WP.regionQ mixed I (by kernel_rfl) ?_
      refine OpsQ.y (v := .bool _) (fun w I => Y.move rfl) ?_
      refine OpsQ.y (v := .bool false) (fun w I => Y.b (Y.not rfl) (rfl)) ?_
      refine OpsQ.y (v := .bool _) (fun w I => Y.move rfl) ?_
      refine OpsQ.gf rfl ?_
      refine OpsQ.gf rfl ?_
      refine OpsQ.gf rfl ?_
      refine OpsQ.gf rfl ?_
      refine OpsQ.gf rfl ?_
      refine OpsQ.y (v := .bool _) (fun w I => Y.pick_f rfl rfl) ?_
      refine OpsQ.nil ?_
      intro w I
      refine WP.cond_f rfl ?_
      refine WP.skip ?_
      refine WP.region ?_
      refine Ops.y (v := .slice _ _ _) (Y.move rfl) ?_
      refine Ops.y (v := .agg #[_, _, _, _]) (Y.loadv ty_35 rfl (I.rdbox 0 rfl 0 4) rfl rfl) ?_
      refine Ops.go (O.mksl (xs := [f.xs[k]]) (enc := Fct.enc) I Try.underlying33 Try.sizeOf35 Try.zeroValue35 rfl (Nat.le_of_ble_eq_true rfl) rfl rfl (by decide) (fun _ => rfl) ?_)
      intro b61 h61 w I le61 sl61
      refine Ops.go (O.append I Try.underlying33 et_35 1 rfl rfl rfl (I.rd (sl61 0 _ rfl).2) rfl rfl (by decide) ((by omega)) (by omega) ?_)
      intro b62 c62 w I
      refine Ops.y (v := .slice _ _ _) (Y.assign rfl) ?_
      refine Ops.nil ?_
      refine WP.region ?_
      refine Ops.y (v := .int .i64 _) (Y.move rfl) ?_
      refine Ops.y (v := .int .i64 _) (Y.addi rfl rfl ⟨by omega, by omega⟩) ?_
      refine Ops.y (v := .int .i64 _) (Y.assign rfl) ?_
      refine Ops.nil ?_
      exact ⟨⟨k + 1, n + 1, some ⟨b62, 0, none⟩, c62, acc ++ [f.xs[k]], true, ch⟩, ⟨⟨rfl, rfl, rfl, rfl, rfl, rfl, rfl, trivial⟩, ⟨h61, gl.trans le61, by rw [flat_snoc]; exact I.drop⟩, by rw [List.length_append, ← hn]; rfl, (by dsimp only; omega), (by dsimp only; omega), (fun h => by cases h), fun _ => ⟨by
          rw [ha, hdr, List.append_assoc]; rfl, fun j hj hj' => hhi j (by dsimp only at hj; omega) hj'⟩⟩, (by dsimp only; omega)⟩
  obtain rfl : k = f.xs.length := by omega
  cases th
  · obtain ⟨rfl, rfl, hlo⟩ := hF rfl
    have hpos : posF f.xs x = f.xs.length := posF_of (by omega) (fun m h hm => hlo m hm h) (fun h => by omega)
    have hno : isF f.xs x = false := by
      rw [Bool.eq_false_iff]; intro hh
      obtain ⟨q1, q2⟩ := (isF_iff (x := x) ok.srt).1 hh
      omega
    have ha := addF_new (k := (predOf l.xs x.pred).kind) ok.srt hno
    rw [hpos, List.take_length, List.drop_length] at ha
    rw [List.take_length] at I hn
    refine WP.exit ?_
    refine WP.seq ?_
    refine WP.seq ?_
    refine WP.region ?_
    refine Ops.y (v := .bool _) (Y.move rfl) ?_
    refine Ops.y (v := .bool true) (Y.b (Y.not rfl) (rfl)) ?_
    refine Ops.nil ?_
    refine WP.cond_t rfl ?_
    refine WP.seq ?_
    refine WP.region ?_
    refine Ops.y (v := .slice _ _ _) (Y.move rfl) ?_
    refine Ops.y (v := .agg #[_, _, _, _]) (Y.loadv ty_35 rfl (I.rdbox 1 rfl 0 4) rfl rfl) ?_
    refine Ops.go (O.mksl (xs := [x]) (enc := Fct.enc) I Try.underlying33 Try.sizeOf35 Try.zeroValue35 rfl (Nat.le_of_ble_eq_true rfl) rfl rfl (by decide) (fun _ => rfl) ?_)
    intro b67 h67 w I le67 sl67
    refine Ops.go (O.append I Try.underlying33 et_35 0 rfl rfl rfl (I.rd (sl67 0 _ rfl).2) rfl rfl (by decide) ((by omega)) (by omega) ?_)
    intro b68 c68 w I
    refine Ops.y (v := .slice _ _ _) (Y.assign rfl) ?_
    refine Ops.nil ?_
    refine WP.region ?_
    refine Ops.y (v := .bool _) (Y.assign rfl) ?_
    refine Ops.nil ?_
    have I : Inv B h67 [ownSl 35 4 (.slice (some ⟨b68, 0, none⟩) (n + 1) c68) (n + 1) ((f.xs ++ [x]).flatMap Fct.enc), box b5 x.enc 35] w := by rw [flat_snoc]; exact I
    obtain ⟨h8, s8, le8, hv8, hx8, in8, I⟩ := I.settleSl (fun _ => rfl) (by rw [List.length_append, ← hn]; rfl)
    refine WP.seq ?_
    refine WP.region ?_
    refine Ops.y (v := .slice _ _ _) (Y.move rfl) ?_
    refine Ops.y (v := .bool _) (Y.move rfl) ?_
    refine Ops.y (v := .slice _ _ _) (Y.assign rfl) ?_
    refine Ops.y (v := .bool _) (Y.assign rfl) ?_
    refine Ops.nil ?_
    refine WP.ret ?_
    repeat (first | refine thenE_ret ?_ | refine blockE_ret ?_)
    exact retQ.mk (vs := [.slice _ _ _, .bool _]) rfl ⟨rfl, rfl, trivial⟩ I.ext_of (by rw [ha]; exact ⟨s8, by rw [hv8]; rfl, hx8, in8, by rw [hx8, List.length_append, ← hn]; simp only [List.length_singleton]; omega⟩)
  · obtain ⟨ha, _⟩ := hT rfl
    rw [List.drop_length, List.append_nil] at ha
    refine WP.exit ?_
    refine WP.seq ?_
    refine WP.seq ?_
    refine WP.region ?_
    refine Ops.y (v := .bool _) (Y.move rfl) ?_
    refine Ops.y (v := .bool false) (Y.b (Y.not rfl) (rfl)) ?_
    refine Ops.nil ?_
    refine WP.cond_f rfl ?_
    obtain ⟨h8, s8, le8, hv8, hx8, in8, I⟩ := I.settleSl (fun _ => rfl) hn
    refine WP.skip ?_
    refine WP.seq ?_
    refine WP.region ?_
    refine Ops.y (v := .slice _ _ _) (Y.move rfl) ?_
    refine Ops.y (v := .bool _) (Y.move rfl) ?_
    refine Ops.y (v := .slice _ _ _) (Y.assign rfl) ?_
    refine Ops.y (v := .bool _) (Y.assign rfl) ?_
    refine Ops.nil ?_
    refine WP.ret ?_
    repeat (first | refine thenE_ret ?_ | refine blockE_ret ?_)
    exact retQ.mk (vs := [.slice _ _ _, .bool _]) rfl ⟨rfl, rfl, trivial⟩ I.ext_of (by rw [ha]; exact ⟨s8, by rw [hv8]; rfl, hx8, in8, by rw [hx8, ← hn]; omega⟩)
theorem AddOf_ok (B : Base) (hB : B.ok) (l : Sl Prd) (hl : Prds l B.h) (f : Sl Fct) (hf : Fcts f B.h) (x : Fct) : Fn Try.prog 20 [l.val, f.val, x.val] B (AddP (addOf l.xs f.xs x)) := by
  refine Fn.of Try.func20 rfl Try.ntmps20 (by kernel_rfl) (by simp) ?_
  intro e
  have I := Inv.start hB
  refine WP.seq ?_
  refine WP.region ?_
  refine Ops.go (O.box (v := .agg #[_, _, _, _]) I rfl rfl ?_)
  intro b5 w I
  refine Ops.y (v := .slice _ _ _) (Y.assign rfl) ?_
  refine Ops.y (v := .bool _) (Y.assign rfl) ?_
  refine Ops.y (v := .int .i64 _) (Y.assign rfl) ?_
  refine Ops.nil ?_
  refine WP.seq ?_
  refine WP.seq ?_
  refine WP.region ?_
  refine Ops.y (v := .slice _ _ _) (Y.move rfl) ?_
  refine Ops.y (v := .slice _ _ _) (Y.move rfl) ?_
  refine Ops.go (O.callv I Try.call17 (RCheckFacts_ok _ I.base_ok l hl f hf) rfl ?_)
  intro w I
  refine Ops.y (v := .int .i64 _) (Y.assign rfl) ?_
  refine Ops.nil ?_
  refine WP.seq ?_
  refine WP.region ?_
  refine Ops.y (v := .int .i64 _) (Y.move rfl) ?_
  refine Ops.y (v := .bool (decide _)) (Y.nei rfl rfl) ?_
  refine Ops.nil ?_
  refine WP.cond_dec rfl (fun h => ?_) (fun h => ?_)
  · refine WP.seq ?_
    refine WP.region ?_
    refine Ops.y (v := .int .i64 _) (Y.move rfl) ?_
    refine Ops.y (v := .slice _ _ _) (Y.assign rfl) ?_
    refine Ops.y (v := .bool _) (Y.assign rfl) ?_
    refine Ops.y (v := .int .i64 _) (Y.assign rfl) ?_
    refine Ops.nil ?_
    refine WP.ret ?_
    repeat (first | refine thenE_ret ?_ | refine blockE_ret ?_)
    exact retQ.mk (vs := [.slice _ _ _, .bool _, .int .i64 _]) rfl ⟨rfl, rfl, rfl, trivial⟩ I.ext_of (by unfold addOf; rw [if_pos h]; exact ⟨⟨none, 0, []⟩, rfl, rfl, nilF⟩)
  have ok := checkFacts_ok.1 (Decidable.not_not.1 h)
  cases hx : factFine l.xs x
  · refine WP.skip ?_
    refine WP.seq ?_
    refine WP.seq ?_
    refine WP.region ?_
    refine Ops.y (v := .slice _ _ _) (Y.move rfl) ?_
    refine Ops.y (v := .agg #[_, _, _, _]) (Y.loadv ty_35 rfl (I.rdbox 0 rfl 0 4) rfl rfl) ?_
    refine Ops.go (O.callv I Try.call35 (FactFine_ok _ I.base_ok l hl x) rfl ?_)
    intro w I
    refine Ops.y (v := .bool true) (Y.b (Y.not rfl) ((by rw [hx]; rfl))) ?_
    refine Ops.nil ?_
    refine WP.cond_t rfl ?_
    refine WP.seq ?_
    refine WP.region ?_
    refine Ops.y (v := .slice _ _ _) (Y.assign rfl) ?_
    refine Ops.y (v := .bool _) (Y.assign rfl) ?_
    refine Ops.y (v := .int .i64 _) (Y.assign rfl) ?_
    refine Ops.nil ?_
    refine WP.ret ?_
    repeat (first | refine thenE_ret ?_ | refine blockE_ret ?_)
    exact retQ.mk (vs := [.slice _ _ _, .bool _, .int .i64 _]) rfl ⟨rfl, rfl, rfl, trivial⟩ I.ext_of (by unfold addOf; rw [if_neg h, hx]; exact ⟨⟨none, 0, []⟩, rfl, rfl, nilF⟩)
  · refine WP.skip ?_
    refine WP.seq ?_
    refine WP.seq ?_
    refine WP.region ?_
    refine Ops.y (v := .slice _ _ _) (Y.move rfl) ?_
    refine Ops.y (v := .agg #[_, _, _, _]) (Y.loadv ty_35 rfl (I.rdbox 0 rfl 0 4) rfl rfl) ?_
    refine Ops.go (O.callv I Try.call35 (FactFine_ok _ I.base_ok l hl x) rfl ?_)
    intro w I
    refine Ops.y (v := .bool false) (Y.b (Y.not rfl) ((by rw [hx]; rfl))) ?_
    refine Ops.nil ?_
    refine WP.cond_f rfl ?_
    refine WP.skip ?_
    refine WP.seq ?_
    refine WP.region ?_
    refine Ops.y (v := .slice _ _ _) (Y.move rfl) ?_
    refine Ops.y (v := .slice _ _ _) (Y.move rfl) ?_
    refine Ops.y (v := .agg #[_, _, _, _]) (Y.loadv ty_35 rfl (I.rdbox 0 rfl 0 4) rfl rfl) ?_
    refine Ops.go (O.call I Try.call45 (radd_ok _ I.base_ok l hl f hf ok x hx) rfl ?_)
    rintro _ h2 w I le2 ⟨s, rfl, es, hs⟩
    refine Ops.y (v := .tuple #[_, _]) (Y.move rfl) ?_
    refine Ops.y (v := .slice _ _ _) (Y.extract rfl rfl) ?_
    refine Ops.y (v := .bool _) (Y.extract rfl rfl) ?_
    refine Ops.y (v := .slice _ _ _) (Y.assign rfl) ?_
    refine Ops.y (v := .bool _) (Y.assign rfl) ?_
    refine Ops.nil ?_
    refine WP.seq ?_
    refine WP.region ?_
    refine Ops.y (v := .slice _ _ _) (Y.move rfl) ?_
    refine Ops.y (v := .bool _) (Y.move rfl) ?_
    refine Ops.y (v := .slice _ _ _) (Y.assign rfl) ?_
    refine Ops.y (v := .bool _) (Y.assign rfl) ?_
    refine Ops.y (v := .int .i64 _) (Y.assign rfl) ?_
    refine Ops.nil ?_
    refine WP.ret ?_
    repeat (first | refine thenE_ret ?_ | refine blockE_ret ?_)
    exact retQ.mk (vs := [.slice _ _ _, .bool _, .int .i64 _]) rfl ⟨rfl, rfl, rfl, trivial⟩ I.ext_of (by unfold addOf; rw [if_neg h, hx]; exact ⟨s, rfl, es, hs⟩)
end Go.TF
