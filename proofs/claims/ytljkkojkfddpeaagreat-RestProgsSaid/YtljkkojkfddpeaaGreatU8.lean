/- Texts Bas4 BaseLaw SpRoads Fir8 Prog7 Fir9 Fir10 Base18 Prog8. -/
import Derived.Test.YtljkkojkfddpeaaGreatU7
import Derived.Test.YtljkkojkfddpeaaGreatU4
import Derived.KernelRfl
import Derived.Test.YtljkkojkfddpeaaGreatU3
section
/- Adding a fact, as base and the document do. -/
namespace Go.TF
open Go Go.RowKit Go.Proofs
set_option maxRecDepth 20000

theorem srt_place {f : List Fct} (hp : ∀ y ∈ f, PF y) (hs : SrtF f) : ∀ i, (hi : i < f.length) → (i : Int) ≤ placeF f[i]
  | 0, hi => (hp _ (List.getElem_mem hi)).place.1
  | i + 1, hi => by
    have h1 := srt_place hp hs i (by omega)
    have h2 := hs.get (i := i) (j := i + 1) (by omega) hi
    omega
theorem srt_len {f : List Fct} (hp : ∀ y ∈ f, PF y) (hs : SrtF f) : f.length ≤ 125 := by
  rcases Nat.lt_or_ge 125 f.length with h | h
  · have h1 := srt_place hp hs 125 h
    have h2 := (hp _ (List.getElem_mem h)).place.2
    omega
  · exact h
theorem FOk.len125 {l : List Prd} {f : List Fct} (ok : FOk l f) : f.length ≤ 125 := srt_len ok.pf ok.srt
def CloneP (xs : List Fct) (h0 : Heap) : Value → Heap → Prop := fun v h => ∃ s : Sl Fct, v = s.val ∧ s.xs = xs ∧ OwnH 28 4 s Fct.enc h0 h ∧ (s.xs = [] → s.cap = 0)
theorem CloneP.mono {xs : List Fct} {h0 : Heap} : MonoS (CloneP xs h0) := fun _ _ _ hl hx => by
  obtain ⟨s, h1, h2, h3, h4⟩ := hx
  exact ⟨s, h1, h2, h3.le hl, h4⟩
theorem fct_inj {x y : Fct} (h : x.enc = y.enc) : x = y := by
  cases x; cases y; simp only [Fct.enc, List.cons.injEq, Value.int.injEq, true_and, and_true] at h; simp only [Fct.mk.injEq]; exact h
theorem lit_apart {s : Sl Fct} {u : Nat} {h0 h : Heap} {x : Fct} (o : OwnH 28 4 s Fct.enc h0 h) (s0 : s.xs = [] → s.cap = 0) (hu : h u = some (.cells x.enc.toArray 28 (0, 0))) (hx : x ∉ s.xs) : s.at_ ≠ some ⟨u, 0, none⟩ := by
  intro e
  rcases o with rfl | ⟨g, cur, e1, e2, e3, e4, e5, e6, e7⟩
  · cases e
  · rw [e1] at e
    have : g = u := by simpa using e
    subst this
    rw [e3] at hu
    have hc : cur = x.enc.toArray := by simpa using hu
    subst hc
    have hcap : s.cap = 1 := by simp only [List.size_toArray, Fct.enc, List.length_cons, List.length_nil] at e6; omega
    match hs : s.xs with
    | [] => have := s0 hs; omega
    | [y] =>
      rw [hs] at e7
      have : x.enc = y.enc := by simpa [Fct.enc] using e7
      exact hx (by rw [hs, fct_inj this]; simp)
    | _ :: _ :: _ => rw [hs] at e4; simp only [List.length_cons] at e4; omega
theorem flat_set (v : Int) : ∀ (xs : List Fct) (i : Nat) (hi : i < xs.length), (xs.flatMap Fct.enc).set (i * 4 + 3) (.int .i64 v) = (xs.set i ⟨xs[i].pred, xs[i].a, xs[i].b, v⟩).flatMap Fct.enc
  | [], i, hi => absurd hi (Nat.not_lt_zero _)
  | x :: xs, 0, _ => by simp [Fct.enc]
  | x :: xs, i + 1, hi => by
    have := flat_set v xs i (by simpa using hi)
    simp only [List.flatMap_cons, List.set_cons_succ, List.getElem_cons_succ]
    rw [← this, List.set_append, if_neg (by simp only [Fct.enc, List.length_cons, List.length_nil]; omega)]
    congr 2
    show (i + 1) * 4 + 3 - 4 = _
    omega
theorem isF_mem {f : List Fct} {x : Fct} (h : isF f x = false) : x ∉ f := fun hx => by
  have : lkF f (placeF x) = none := by unfold isF at h; cases hk : lkF f (placeF x) <;> simp_all
  exact lkF_none.1 this x hx rfl
/-- What adding hands back. -/
def PutP (r : List Fct × Bool) (v : Value) (h : Heap) : Prop := ∃ s : Sl Fct, v = .tuple #[s.val, .bool r.2] ∧ s.xs = r.1 ∧ Fcts s h
/-- What adding hands back is the call's own. -/
def PutO (h0 : Heap) (r : List Fct × Bool) (v : Value) (h : Heap) : Prop := ∃ s : Sl Fct, v = .tuple #[s.val, .bool r.2] ∧ s.xs = r.1 ∧ Fcts s h ∧ OwnH 28 4 s Fct.enc h0 h
theorem PutO.put {h0 h : Heap} {r : List Fct × Bool} {v : Value} (x : PutO h0 r v h) : PutP r v h := by obtain ⟨s, a, b, c, _⟩ := x; exact ⟨s, a, b, c⟩
set_option maxHeartbeats 1000000 in
theorem Put_own (B : Base) (hB : B.ok) (l : Sl Prd) (hls : Prds l B.h) (f : Sl Fct) (hf : Fcts f B.h) (ok : FOk l.xs f.xs) (x : Fct) (hx : factFine l.xs x = true) : Fn Tryz.prog 27 [l.val, f.val, x.val] B (PutO B.h (addF (predOf l.xs x.pred).kind f.xs x)) := by
  have px := fine_pf ok.len hx
  have hiff := isF_iff (x := x) ok.srt
  have h01 := (fine_iff.1 hx).1
  have hk : x.pred.toNat < l.xs.length := by omega
  have E2 := hls.at hk
  have hpo : l.xs[x.pred.toNat] = predOf l.xs x.pred := (predOf_getE h01.1 h01.2).symm
  have hkd := fine_kind hx
  rw [← hpo] at hkd
  have h125 := ok.len125
  refine Fn.of Tryz.func27 rfl Tryz.ntmps27 (by kernel_rfl) (by simp) ?_
  intro e
  have I := Inv.start hB
  refine WP.seq ?_
  refine WP.region ?_
  refine Ops.go (O.box (v := .agg #[_, _, _, _]) I rfl rfl ?_)
  intro b5 w I
  refine Ops.y (v := .slice _ _ _) (Y.assign rfl) ?_
  refine Ops.y (v := .bool _) (Y.assign rfl) ?_
  refine Ops.nil ?_
  refine WP.seq ?_
  refine WP.region ?_
  refine Ops.y (v := .slice _ _ _) (Y.move rfl) ?_
  refine Ops.y (v := .agg #[_, _, _, _]) (Y.loadv ty_28 rfl (I.rdbox 0 rfl 0 4) rfl rfl) ?_
  refine Ops.go (O.callv I Tryz.call55 (Seek_ok _ I.base_ok f hf ok.pf ok.srt x px) rfl ?_)
  intro w I
  refine Ops.y (v := .tuple #[_, _]) (Y.move rfl) ?_
  refine Ops.y (v := .int .i64 _) (Y.extract rfl rfl) ?_
  refine Ops.y (v := .bool _) (Y.extract rfl rfl) ?_
  refine Ops.y (v := .int .i64 _) (Y.assign rfl) ?_
  refine Ops.y (v := .bool _) (Y.assign rfl) ?_
  refine Ops.nil ?_
  cases hi : isF f.xs x
  · refine WP.seq ?_
    refine WP.seq ?_
    refine WP.region ?_
    refine Ops.y (v := .bool _) (Y.move rfl) ?_
    refine Ops.y (v := .bool true) (Y.b (Y.not rfl) ((by first | rfl | (rw [hi]; rfl)))) ?_
    refine Ops.nil ?_
    refine WP.cond_t rfl ?_
    refine WP.seq ?_
    refine WP.regionF mixed I 5 (by kernel_rfl) ?_
    refine OpsF.y_ (v := .slice _ _ _) (fun _ => runs_none _) (fun _ w us hl I => Y.move rfl) ?_
    refine OpsF.x_ (Φ := CloneP f.xs B.h) CloneP.mono (fun _ => runs_none _) ?_ ?_
    · intro _ w hl I
      try unfold AllL
      refine O.call I Tryz.call57 (CloneFct_ok _ I.base_ok f (hf.le hl) (by omega)) rfl ?_
      rintro _ h2 w I hl' ⟨s, rfl, es, o, s0⟩
      exact ⟨_, hl', I, ⟨s, rfl, es, o.older hl, s0⟩⟩
    refine OpsF.y_ (v := .int .i64 _) (fun _ => runs_none _) (fun _ w us hl I => Y.move rfl) ?_
    refine OpsF.y_ (v := .agg #[_, _, _, _]) (fun _ => runs_none _) (fun _ w us hl I => Y.loadv ty_28 rfl (I.rdbox 0 rfl 0 4) rfl rfl) ?_
    refine OpsF.x_ (Φ := LitW 28 x.enc 1) LitW.mono (fun _ => runs_none _) ?_ ?_
    · intro _ w hl I u21 q21
      exact O.mklit (cs := x.enc) I Tryz.underlying26 Tryz.sizeOf28 Tryz.zeroValue28 (by decide) (by decide) rfl rfl (fun v h w I le sl => ⟨h, le, I, sl⟩)
    refine OpsF.nil ?_
    intro _ w hl I u21 q21 u24 q24
    obtain ⟨s, rfl, es, o, s0⟩ := q21 rfl
    obtain ⟨u, rfl, hu⟩ := q24 rfl
    have hne := lit_apart o s0 hu (by rw [es]; exact isF_mem hi)
    obtain ⟨h6, I, mono6, keep6⟩ := I.unsettle o (Heap.le.refl _)
    refine Ops.go (O.calls Tryz.call56 (Insert_ok I rfl (posF f.xs x) (by rw [es]; exact posF_le) x u ((keep6 u _ hu).resolve_right hne) (by rw [es]; omega)) rfl ?_)
    rintro ed w ⟨v7, h7, rfl, le7, I⟩
    refine ⟨_, rfl, ?_⟩
    have hB6 := I.ext
    obtain ⟨h8, s8, le8, rfl, hx8, o8, I⟩ := I.settleO (by have := posF_le (f := f.xs) (x := x); simp only [List.length_append, List.length_cons, List.length_take, List.length_drop, es]; omega)
    refine Ops.y (v := .slice _ _ _) (Y.assign rfl) ?_
    refine Ops.y (v := .bool _) (Y.assign rfl) ?_
    refine Ops.nil ?_
    refine WP.ret ?_
    repeat (first | refine thenE_ret ?_ | refine blockE_ret ?_)
    exact retQ.mk (vs := [.slice _ _ _, .bool _]) rfl ⟨rfl, rfl, trivial⟩ I.ext_of (by rw [addF_new ok.srt hi]; exact ⟨s8, rfl, by rw [hx8, es], ⟨o8.in (fun _ => rfl), by rw [hx8, es]; simp only [List.length_append, List.length_cons, List.length_take, List.length_drop]; omega⟩, o8.older hB6⟩)
  · obtain ⟨hlt, he⟩ := hiff.1 hi
    have E1 := hf.at hlt
    have ha := addF_old (k := (predOf l.xs x.pred).kind) ok.srt hlt he
    refine WP.seq ?_
    refine WP.seq ?_
    refine WP.region ?_
    refine Ops.y (v := .bool _) (Y.move rfl) ?_
    refine Ops.y (v := .bool false) (Y.b (Y.not rfl) ((by first | rfl | (rw [hi]; rfl)))) ?_
    refine Ops.nil ?_
    refine WP.cond_f rfl ?_
    refine WP.skip ?_
    refine WP.seq ?_
    refine WP.regionQ mixed I (by kernel_rfl) ?_
    refine OpsQ.y (v := .slice _ _ _) (fun w I => Y.move rfl) ?_
    refine OpsQ.y (v := .pointer (some ⟨_, _, none⟩)) (fun w I => Y.fa0 fa_28_0 rfl) ?_
    refine OpsQ.y (v := .int .i64 _) (fun w I => Y.loadv ty_3 rfl (I.rdbox 0 rfl 0 1) rfl rfl) ?_
    refine OpsQ.y (v := .pointer (some ⟨_, _, none⟩)) (fun w I => Y.idxEl E2 Tryz.underlying22 Tryz.sizeOf40 rfl rfl h01.1 rfl) ?_
    refine OpsQ.y (v := .pointer (some ⟨_, _, none⟩)) (fun w I => Y.fa fa_40_2 rfl) ?_
    refine OpsQ.y (v := .int .i64 _) (fun w I => Y.loadv ty_3 rfl (I.rd (E2.rd.part 2 1)) rfl rfl) ?_
    refine OpsQ.y (v := .slice _ _ _) (fun w I => Y.move rfl) ?_
    refine OpsQ.y (v := .int .i64 _) (fun w I => Y.move rfl) ?_
    refine OpsQ.y (v := .pointer (some ⟨_, _, none⟩)) (fun w I => Y.idxEl E1 Tryz.underlying26 Tryz.sizeOf28 rfl rfl (Int.natCast_nonneg _) rfl) ?_
    refine OpsQ.y (v := .pointer (some ⟨_, _, none⟩)) (fun w I => Y.fa fa_28_3 rfl) ?_
    refine OpsQ.y (v := .int .i64 _) (fun w I => Y.loadv ty_3 rfl (I.rd (E1.rd.part 3 1)) rfl rfl) ?_
    refine OpsQ.y (v := .pointer (some ⟨_, _, none⟩)) (fun w I => Y.fa fa_28_3 rfl) ?_
    refine OpsQ.y (v := .int .i64 _) (fun w I => Y.loadv ty_3 rfl (I.rdbox 0 rfl 3 1) rfl rfl) ?_
    refine OpsQ.c (fun w I => QC.callv I Tryz.call58 (Joined_ok _ I.base_ok _ _ _ hkd) rfl) ?_
    refine OpsQ.y (v := .int .i64 _) (fun w I => Y.assign rfl) ?_
    refine OpsQ.nil ?_
    intro w I
    refine WP.seq ?_
    refine WP.seq ?_
    refine WP.region ?_
    refine Ops.y (v := .int .i64 _) (Y.move rfl) ?_
    refine Ops.y (v := .slice _ _ _) (Y.move rfl) ?_
    refine Ops.y (v := .int .i64 _) (Y.move rfl) ?_
    refine Ops.y (v := .pointer (some ⟨_, _, none⟩)) (Y.idxEl E1 Tryz.underlying26 Tryz.sizeOf28 rfl rfl (Int.natCast_nonneg _) rfl) ?_
    refine Ops.y (v := .pointer (some ⟨_, _, none⟩)) (Y.fa fa_28_3 rfl) ?_
    refine Ops.y (v := .int .i64 _) (Y.loadv ty_3 rfl (I.rd (E1.rd.part 3 1)) rfl rfl) ?_
    refine Ops.y (v := .bool (decide _)) (Y.eqi rfl rfl) ?_
    refine Ops.nil ?_
    refine WP.cond_dec rfl (fun h5 => ?_) (fun h5 => ?_)
    · rw [hpo] at h5
      refine WP.seq ?_
      refine WP.region ?_
      refine Ops.y (v := .slice _ _ _) (Y.move rfl) ?_
      refine Ops.go (O.call I Tryz.call57 (CloneFct_ok _ I.base_ok f hf (by omega)) rfl ?_)
      rintro _ h2 w I le2 ⟨s, rfl, es, o, s0⟩
      refine Ops.y (v := .slice _ _ _) (Y.assign rfl) ?_
      refine Ops.y (v := .bool _) (Y.assign rfl) ?_
      refine Ops.nil ?_
      have hset : f.xs.set (posF f.xs x) ⟨f.xs[posF f.xs x].pred, f.xs[posF f.xs x].a, f.xs[posF f.xs x].b, joinV (predOf l.xs x.pred).kind f.xs[posF f.xs x].v x.v⟩ = f.xs := by rw [h5]; exact List.set_getElem_self _
      refine WP.ret ?_
      repeat (first | refine thenE_ret ?_ | refine blockE_ret ?_)
      exact retQ.mk (vs := [.slice _ _ _, .bool _]) rfl ⟨rfl, rfl, trivial⟩ I.ext_of (by rw [ha, hset]; exact ⟨s, by rw [decide_eq_false (fun h => h h5)]; rfl, es, ⟨o.in (fun _ => rfl), by rw [es]; omega⟩, o⟩)
    rw [hpo] at h5
    refine WP.skip ?_
    refine WP.seq ?_
    refine WP.region ?_
    refine Ops.y (v := .slice _ _ _) (Y.move rfl) ?_
    refine Ops.go (O.call I Tryz.call57 (CloneFct_ok _ I.base_ok f hf (by omega)) rfl ?_)
    rintro _ h2 w I le2 ⟨s, rfl, es, o, s0⟩
    refine Ops.y (v := .slice _ _ _) (Y.assign rfl) ?_
    refine Ops.nil ?_
    obtain ⟨a, c, ys⟩ := s
    dsimp only at es
    subst es
    have E3 := (o.in (fun _ => rfl)).el (List.getElem?_eq_getElem hlt)
    obtain ⟨g, rfl⟩ : ∃ g, a = some ⟨g, 0, none⟩ := by
      rcases o with o | ⟨g, cur, e1, _⟩
      · have := congrArg Sl.xs o; dsimp only at this; rw [this] at hlt; simp at hlt
      · exact ⟨g, e1⟩
    obtain ⟨h6, I, mono6, keep6⟩ := I.unsettle o (Heap.le.refl _)
    refine WP.seq ?_
    refine WP.region ?_
    refine Ops.y (v := .slice _ _ _) (Y.move rfl) ?_
    refine Ops.y (v := .int .i64 _) (Y.move rfl) ?_
    refine Ops.y (v := .int .i64 _) (Y.move rfl) ?_
    refine Ops.y (v := .pointer (some ⟨_, _, none⟩)) (Y.idxEl E3 Tryz.underlying26 Tryz.sizeOf28 rfl rfl (Int.natCast_nonneg _) rfl) ?_
    refine Ops.y (v := .pointer (some ⟨_, _, none⟩)) (Y.fa fa_28_3 rfl) ?_
    refine Ops.go (O.storeS (v := .int .i64 _) I ty_3 et_28 0 rfl rfl rfl rfl rfl (by rw [flat_len (enc := Fct.enc) (k := 4) (fun _ => rfl)]; simp only [Sl.off, Option.getD_some]; omega) ?_)
    intro w I
    refine Ops.nil ?_
    have I : Inv B h6 [ownSl 28 4 (.slice (some ⟨g, 0, none⟩) f.xs.length c) f.xs.length ((f.xs.set (posF f.xs x) ⟨f.xs[posF f.xs x].pred, f.xs[posF f.xs x].a, f.xs[posF f.xs x].b, joinV (predOf l.xs x.pred).kind f.xs[posF f.xs x].v x.v⟩).flatMap Fct.enc), box b5 x.enc 28] w := by
      rw [← flat_set, ← hpo]
      have J := I
      simp only [Sl.off, Option.getD_some, Nat.zero_add] at J
      exact J
    have hB6 := I.ext
    obtain ⟨h8, s8, le8, hv8, hx8, o8, I⟩ := I.settleO (by rw [List.length_set])
    refine WP.seq ?_
    refine WP.region ?_
    refine Ops.y (v := .slice _ _ _) (Y.move rfl) ?_
    refine Ops.y (v := .slice _ _ _) (Y.assign rfl) ?_
    refine Ops.y (v := .bool _) (Y.assign rfl) ?_
    refine Ops.nil ?_
    refine WP.ret ?_
    repeat (first | refine thenE_ret ?_ | refine blockE_ret ?_)
    exact retQ.mk (vs := [.slice _ _ _, .bool _]) rfl ⟨rfl, rfl, trivial⟩ I.ext_of (by rw [ha]; exact ⟨s8, by rw [hv8, decide_eq_true h5]; rfl, hx8, ⟨o8.in (fun _ => rfl), by rw [hx8, List.length_set]; omega⟩, o8.older hB6⟩)
def AddP (r : List Fct × Bool × Int) (v : Value) (h : Heap) : Prop := ∃ s : Sl Fct, v = .tuple #[s.val, .bool r.2.1, .int .i64 r.2.2] ∧ s.xs = r.1 ∧ Fcts s h
theorem nilF {h : Heap} : Fcts ⟨none, 0, []⟩ h := ⟨fun i x hx => by simp at hx, by simp⟩
theorem ask_ne {l : List Prd} {f : List Fct} {x : Fct} (h : askF l f x ≠ 0) : addOf l f x = ([], false, askF l f x) := by
  unfold askF at h ⊢
  unfold addOf
  by_cases hc : checkFacts l f ≠ 0
  · rw [if_pos hc, if_pos hc]
  · rw [if_neg hc] at h ⊢
    rw [if_neg hc]
    cases hx : factFine l x
    · rfl
    · rw [hx] at h; exact absurd rfl h
structure AddS where
  k : Nat
  n : Nat
  a : Option Addr
  c : Nat
  acc : List Fct
  th : Bool
  ch : Bool
structure AddJ (B : Base) (b5 : Nat) (x : Fct) (kd : Int) (f : List Fct) (s : AddS) (w : World) : Prop where
  inv : ∃ h1, B.h.le h1 ∧ Inv B h1 [ownSl 28 4 (.slice s.a s.n s.c) s.n (s.acc.flatMap Fct.enc), box b5 x.enc 28] w
  n : s.n = s.acc.length
  k : s.k ≤ f.length
  le : s.n ≤ s.k + 1
  lo : s.th = false → s.acc = f.take s.k ∧ s.ch = false ∧ ∀ j, j < s.k → ∀ hj : j < f.length, placeF f[j] < placeF x
  hi : s.th = true → addF kd f x = (s.acc ++ f.drop s.k, s.ch) ∧ ∀ j, s.k ≤ j → ∀ hj : j < f.length, placeF x < placeF f[j]
theorem flat_snoc (acc : List Fct) (y : Fct) : (acc ++ [y]).flatMap Fct.enc = acc.flatMap Fct.enc ++ y.enc := by simp
set_option maxHeartbeats 2000000 in
theorem radd_ok (B : Base) (hB : B.ok) (l : Sl Prd) (hls : Prds l B.h) (f : Sl Fct) (hf : Fcts f B.h) (ok : FOk l.xs f.xs) (x : Fct) (hx : factFine l.xs x = true) : Fn Tryz.prog 35 [l.val, f.val, x.val] B (PutP (addF (predOf l.xs x.pred).kind f.xs x)) := by
  have px := fine_pf ok.len hx
  have h01 := (fine_iff.1 hx).1
  have hkp : x.pred.toNat < l.xs.length := by omega
  have hpo : l.xs[x.pred.toNat] = predOf l.xs x.pred := (predOf_getE h01.1 h01.2).symm
  have h125 := ok.len125
  refine Fn.of Tryz.func35 rfl Tryz.ntmps35 (by kernel_rfl) (by simp) ?_
  intro e
  have I := Inv.start hB
  refine WP.seq ?_
  refine WP.region ?_
  refine Ops.go (O.box (v := .agg #[_, _, _, _]) I rfl rfl ?_)
  intro b5 w I
  refine Ops.y (v := .slice _ _ _) (Y.assign rfl) ?_
  refine Ops.y (v := .bool _) (Y.assign rfl) ?_
  refine Ops.nil ?_
  have I := I.nilSl 28 4
  refine WP.seq ?_
  refine WP.region ?_
  refine Ops.y (v := .slice _ _ _) (Y.assign rfl) ?_
  refine Ops.nil ?_
  refine WP.seq ?_
  refine WP.region ?_
  refine Ops.y (v := .bool _) (Y.assign rfl) ?_
  refine Ops.y (v := .bool _) (Y.assign rfl) ?_
  refine Ops.nil ?_
  refine WP.seq ?_
  refine WP.seq ?_
  refine WP.region ?_
  refine Ops.y (v := .int .i64 _) (Y.assign rfl) ?_
  refine Ops.nil ?_
  refine WP.block ?_
  refine WP.loopE (σ := AddS) (fun s => [(0, l.val), (1, f.val), (5, .pointer (some ⟨b5, 0, none⟩)), (8, .slice s.a s.n s.c), (9, .bool s.th), (10, .bool s.ch), (11, .int .i64 s.k)]) (AddJ B b5 x (predOf l.xs x.pred).kind f.xs) (fun s => f.xs.length - s.k)
    ⟨⟨0, 0, none, 0, [], false, false⟩, ⟨rfl, rfl, rfl, rfl, rfl, rfl, rfl, trivial⟩, ⟨_, Heap.le.refl _, I⟩, rfl, Nat.zero_le _, Nat.zero_le _, fun _ => ⟨rfl, rfl, fun j hj => absurd hj (Nat.not_lt_zero _)⟩, fun h => by cases h⟩ ?_
  rintro ⟨k, n, a, c, acc, th, ch⟩ e w ⟨⟨h1, gl, I⟩, hn, hk, hle, hF, hT⟩
  dsimp only at I hn hk hle hF hT ⊢
  refine WP.seq ?_
  refine WP.seq ?_
  refine WP.region ?_
  refine Ops.y (v := .int .i64 _) (Y.move rfl) ?_
  refine Ops.y (v := .slice _ _ _) (Y.move rfl) ?_
  refine Ops.y (v := .int .i64 _) (Y.lens Tryz.underlying26 rfl) ?_
  refine Ops.y (v := .bool (decide _)) (Y.lti rfl rfl) ?_
  refine Ops.nil ?_
  refine WP.cond_dec rfl (fun h => ?_) (fun h => ?_)
  · have hk' : k < f.xs.length := by omega
    have E1 := (hf.le gl).at hk'
    have E2 := (hls.le gl).at hkp
    have py := ok.pf _ (List.getElem_mem hk')
    have hdr : f.xs.drop k = f.xs[k] :: f.xs.drop (k + 1) := List.drop_eq_getElem_cons hk'
    have htk : f.xs.take (k + 1) = f.xs.take k ++ [f.xs[k]] := by rw [List.take_succ_eq_append_getElem hk']
    refine WP.skip ?_
    refine WP.seq ?_
    refine WP.block ?_
    refine WP.seq ?_
    refine WP.region ?_
    refine Ops.y (v := .slice _ _ _) (Y.move rfl) ?_
    refine Ops.y (v := .int .i64 _) (Y.move rfl) ?_
    refine Ops.y (v := .pointer (some ⟨_, _, none⟩)) (Y.idxEl E1 Tryz.underlying26 Tryz.sizeOf28 rfl rfl (Int.natCast_nonneg _) rfl) ?_
    refine Ops.y (v := .agg #[_, _, _, _]) (Y.loadv ty_28 rfl (I.rd (E1.rd.part 0 4)) rfl rfl) ?_
    refine Ops.go (O.alloc I Tryz.zeroValue28 rfl ?_)
    intro b12 w I
    refine Ops.go (O.store (v := .agg #[_, _, _, _]) I ty_28 0 rfl rfl rfl rfl rfl rfl (Nat.le_of_ble_eq_true rfl) rfl ?_)
    intro w I
    refine Ops.nil ?_
    cases th
    · obtain ⟨rfl, rfl, hlo⟩ := hF rfl
      rcases Int.lt_trichotomy (placeF f.xs[k]) (placeF x) with hlt | heq | hgt
      · refine WP.seq ?_
        refine WP.seq ?_
        refine WP.regionQ mixed I (by kernel_rfl) ?_
        refine OpsQ.y (v := .agg #[_, _, _, _]) (fun w I => Y.loadv ty_28 rfl (I.rdbox 0 rfl 0 4) rfl rfl) ?_
        refine OpsQ.c (fun w I => QC.callv I Tryz.call42 (place_ok _ I.base_ok _ py) rfl) ?_
        refine OpsQ.y (v := .agg #[_, _, _, _]) (fun w I => Y.loadv ty_28 rfl (I.rdbox 2 rfl 0 4) rfl rfl) ?_
        refine OpsQ.c (fun w I => QC.callv I Tryz.call42 (place_ok _ I.base_ok _ px) rfl) ?_
        refine OpsQ.y (v := .bool false) (fun w I => Y.dec_f (Y.eqi rfl rfl) ((by omega))) ?_
        refine OpsQ.nil ?_
        intro w I
        refine WP.cond_f rfl ?_
        refine WP.skip ?_
        refine WP.seq ?_
        refine WP.seq ?_
        refine WP.regionQ mixed I (by kernel_rfl) ?_
        refine OpsQ.y (v := .bool _) (fun w I => Y.move rfl) ?_
        refine OpsQ.y (v := .bool true) (fun w I => Y.b (Y.not rfl) (rfl)) ?_
        refine OpsQ.y (v := .bool _) (fun w I => Y.move rfl) ?_
        refine OpsQ.ygt rfl (v := .agg #[_, _, _, _]) (fun w I => Y.loadv ty_28 rfl (I.rdbox 0 rfl 0 4) rfl rfl) ?_
        refine OpsQ.cgt rfl (fun w I => QC.callv I Tryz.call42 (place_ok _ I.base_ok _ py) rfl) ?_
        refine OpsQ.ygt rfl (v := .agg #[_, _, _, _]) (fun w I => Y.loadv ty_28 rfl (I.rdbox 2 rfl 0 4) rfl rfl) ?_
        refine OpsQ.cgt rfl (fun w I => QC.callv I Tryz.call42 (place_ok _ I.base_ok _ px) rfl) ?_
        refine OpsQ.ygt rfl (v := .bool false) (fun w I => Y.dec_f (Y.gti rfl rfl) ((by omega))) ?_
        refine OpsQ.y (v := .bool _) (fun w I => Y.pick_t rfl rfl) ?_
        refine OpsQ.nil ?_
        intro w I
        refine WP.cond_f rfl ?_
        refine WP.skip ?_
        refine WP.region ?_
        refine Ops.y (v := .slice _ _ _) (Y.move rfl) ?_
        refine Ops.y (v := .agg #[_, _, _, _]) (Y.loadv ty_28 rfl (I.rdbox 0 rfl 0 4) rfl rfl) ?_
        refine Ops.go (O.mksl (xs := [f.xs[k]]) (enc := Fct.enc) I Tryz.underlying26 Tryz.sizeOf28 Tryz.zeroValue28 rfl (Nat.le_of_ble_eq_true rfl) rfl rfl (by decide) (fun _ => rfl) ?_)
        intro b61 h61 w I le61 sl61
        refine Ops.go (O.append I Tryz.underlying26 et_28 1 rfl rfl rfl (I.rd (sl61 0 _ rfl).2) rfl rfl (by decide) ((by omega)) (by omega) ?_)
        intro b62 c62 w I
        refine Ops.y (v := .slice _ _ _) (Y.assign rfl) ?_
        refine Ops.nil ?_
        refine WP.region ?_
        refine Ops.y (v := .int .i64 _) (Y.move rfl) ?_
        refine Ops.y (v := .int .i64 _) (Y.addi rfl rfl ⟨by omega, by omega⟩) ?_
        refine Ops.y (v := .int .i64 _) (Y.assign rfl) ?_
        refine Ops.nil ?_
        exact ⟨⟨k + 1, n + 1, some ⟨b62, 0, none⟩, c62, f.xs.take (k + 1), false, false⟩, ⟨⟨rfl, rfl, rfl, rfl, rfl, rfl, rfl, trivial⟩, ⟨h61, gl.trans le61, by rw [htk, flat_snoc]; exact I.drop⟩, by rw [htk, List.length_append, ← hn]; rfl, (by dsimp only; omega), (by dsimp only; omega), fun _ => ⟨rfl, rfl, fun j hj hj' => by
          rcases Nat.lt_succ_iff_lt_or_eq.1 hj with h' | rfl
          · exact hlo j h' hj'
          · exact hlt⟩, fun h => by cases h⟩, (by dsimp only; omega)⟩
      · have hpos : posF f.xs x = k := posF_of (by omega) (fun m h hm => hlo m hm h) (fun h => by omega)
        have ha := addF_old (k := (predOf l.xs x.pred).kind) ok.srt (x := x) (by omega) (by simp only [hpos]; exact heq)
        simp only [hpos] at ha
        refine WP.seq ?_
        refine WP.seq ?_
        refine WP.regionQ mixed I (by kernel_rfl) ?_
        refine OpsQ.y (v := .agg #[_, _, _, _]) (fun w I => Y.loadv ty_28 rfl (I.rdbox 0 rfl 0 4) rfl rfl) ?_
        refine OpsQ.c (fun w I => QC.callv I Tryz.call42 (place_ok _ I.base_ok _ py) rfl) ?_
        refine OpsQ.y (v := .agg #[_, _, _, _]) (fun w I => Y.loadv ty_28 rfl (I.rdbox 2 rfl 0 4) rfl rfl) ?_
        refine OpsQ.c (fun w I => QC.callv I Tryz.call42 (place_ok _ I.base_ok _ px) rfl) ?_
        refine OpsQ.y (v := .bool true) (fun w I => Y.dec_t (Y.eqi rfl rfl) (heq)) ?_
        refine OpsQ.nil ?_
        intro w I
        refine WP.cond_t rfl ?_
        refine WP.seq ?_
        refine WP.region ?_
        refine Ops.y (v := .bool _) (Y.assign rfl) ?_
        refine Ops.nil ?_
        refine WP.seq ?_
        refine WP.regionQ mixed I (by kernel_rfl) ?_
        refine OpsQ.y (v := .slice _ _ _) (fun w I => Y.move rfl) ?_
        refine OpsQ.y (v := .pointer (some ⟨_, _, none⟩)) (fun w I => Y.fa0 fa_28_0 rfl) ?_
        refine OpsQ.y (v := .int .i64 _) (fun w I => Y.loadv ty_3 rfl (I.rdbox 2 rfl 0 1) rfl rfl) ?_
        refine OpsQ.y (v := .pointer (some ⟨_, _, none⟩)) (fun w I => Y.idxEl E2 Tryz.underlying22 Tryz.sizeOf40 rfl rfl h01.1 rfl) ?_
        refine OpsQ.y (v := .pointer (some ⟨_, _, none⟩)) (fun w I => Y.fa fa_40_2 rfl) ?_
        refine OpsQ.y (v := .int .i64 _) (fun w I => Y.loadv ty_3 rfl (I.rd (E2.rd.part 2 1)) rfl rfl) ?_
        refine OpsQ.y (v := .pointer (some ⟨_, _, none⟩)) (fun w I => Y.fa fa_28_3 rfl) ?_
        refine OpsQ.y (v := .int .i64 _) (fun w I => Y.loadv ty_3 rfl (I.rdbox 0 rfl 3 1) rfl rfl) ?_
        refine OpsQ.y (v := .pointer (some ⟨_, _, none⟩)) (fun w I => Y.fa fa_28_3 rfl) ?_
        refine OpsQ.y (v := .int .i64 _) (fun w I => Y.loadv ty_3 rfl (I.rdbox 2 rfl 3 1) rfl rfl) ?_
        refine OpsQ.c (fun w I => QC.callv I Tryz.call71 (joinR_ok _ I.base_ok _ _ _) rfl) ?_
        refine OpsQ.y (v := .int .i64 _) (fun w I => Y.assign rfl) ?_
        refine OpsQ.nil ?_
        intro w I
        refine WP.seq ?_
        refine WP.region ?_
        refine Ops.y (v := .int .i64 _) (Y.move rfl) ?_
        refine Ops.y (v := .pointer (some ⟨_, _, none⟩)) (Y.fa fa_28_3 rfl) ?_
        refine Ops.y (v := .int .i64 _) (Y.loadv ty_3 rfl (I.rdbox 0 rfl 3 1) rfl rfl) ?_
        refine Ops.y (v := .bool (decide _)) (Y.nei rfl rfl) ?_
        refine Ops.y (v := .bool _) (Y.assign rfl) ?_
        refine Ops.nil ?_
        refine WP.region ?_
        refine Ops.y (v := .int .i64 _) (Y.move rfl) ?_
        refine Ops.y (v := .pointer (some ⟨_, _, none⟩)) (Y.fa fa_28_3 rfl) ?_
        refine Ops.go (O.store (v := .int .i64 _) I ty_3 0 rfl rfl rfl rfl rfl rfl (Nat.le_of_ble_eq_true rfl) rfl ?_)
        intro w I
        refine Ops.nil ?_
        refine WP.seq ?_
        refine WP.seq ?_
        refine WP.regionQ mixed I (by kernel_rfl) ?_
        refine OpsQ.y (v := .bool _) (fun w I => Y.move rfl) ?_
        refine OpsQ.y (v := .bool false) (fun w I => Y.b (Y.not rfl) (rfl)) ?_
        refine OpsQ.y (v := .bool _) (fun w I => Y.move rfl) ?_
        refine OpsQ.gf rfl ?_
        refine OpsQ.gf rfl ?_
        refine OpsQ.gf rfl ?_
        refine OpsQ.gf rfl ?_
        refine OpsQ.gf rfl ?_
        refine OpsQ.y (v := .bool _) (fun w I => Y.pick_f rfl rfl) ?_
        refine OpsQ.nil ?_
        intro w I
        refine WP.cond_f rfl ?_
        refine WP.skip ?_
        refine WP.region ?_
        refine Ops.y (v := .slice _ _ _) (Y.move rfl) ?_
        refine Ops.y (v := .agg #[_, _, _, _]) (Y.loadv ty_28 rfl (I.rdbox 0 rfl 0 4) rfl rfl) ?_
        refine Ops.go (O.mksl (xs := [⟨f.xs[k].pred, f.xs[k].a, f.xs[k].b, joinV l.xs[x.pred.toNat].kind f.xs[k].v x.v⟩]) (enc := Fct.enc) I Tryz.underlying26 Tryz.sizeOf28 Tryz.zeroValue28 rfl (Nat.le_of_ble_eq_true rfl) rfl rfl (by decide) (fun _ => rfl) ?_)
        intro b61 h61 w I le61 sl61
        refine Ops.go (O.append I Tryz.underlying26 et_28 1 rfl rfl rfl (I.rd (sl61 0 _ rfl).2) rfl rfl (by decide) ((by omega)) (by omega) ?_)
        intro b62 c62 w I
        refine Ops.y (v := .slice _ _ _) (Y.assign rfl) ?_
        refine Ops.nil ?_
        refine WP.region ?_
        refine Ops.y (v := .int .i64 _) (Y.move rfl) ?_
        refine Ops.y (v := .int .i64 _) (Y.addi rfl rfl ⟨by omega, by omega⟩) ?_
        refine Ops.y (v := .int .i64 _) (Y.assign rfl) ?_
        refine Ops.nil ?_
        exact ⟨⟨k + 1, n + 1, some ⟨b62, 0, none⟩, c62, f.xs.take k ++ [⟨f.xs[k].pred, f.xs[k].a, f.xs[k].b, joinV l.xs[x.pred.toNat].kind f.xs[k].v x.v⟩], true, _⟩, ⟨⟨rfl, rfl, rfl, rfl, rfl, rfl, rfl, trivial⟩, ⟨h61, gl.trans le61, by rw [flat_snoc]; exact I.drop⟩, by rw [List.length_append, ← hn]; rfl, (by dsimp only; omega), (by dsimp only; omega), (fun h => by cases h), fun _ => ⟨by
          rw [ha, hpo, List.set_eq_take_append_cons_drop, if_pos hk', List.append_assoc]; rfl, fun j hj hj' => by
          dsimp only at hj
          have := ok.srt.get (show k < j by omega) hj'; omega⟩⟩, (by dsimp only; omega)⟩
      · have hpos : posF f.xs x = k := posF_of (by omega) (fun m h hm => hlo m hm h) (fun h => by omega)
        have hnk : n = k := by rw [hn, List.length_take]; omega
        have hno : isF f.xs x = false := by
          rw [Bool.eq_false_iff]; intro hh
          obtain ⟨q1, q2⟩ := (isF_iff (x := x) ok.srt).1 hh
          simp only [hpos] at q2; omega
        have ha := addF_new (k := (predOf l.xs x.pred).kind) ok.srt hno
        rw [hpos] at ha
        refine WP.seq ?_
        refine WP.seq ?_
        refine WP.regionQ mixed I (by kernel_rfl) ?_
        refine OpsQ.y (v := .agg #[_, _, _, _]) (fun w I => Y.loadv ty_28 rfl (I.rdbox 0 rfl 0 4) rfl rfl) ?_
        refine OpsQ.c (fun w I => QC.callv I Tryz.call42 (place_ok _ I.base_ok _ py) rfl) ?_
        refine OpsQ.y (v := .agg #[_, _, _, _]) (fun w I => Y.loadv ty_28 rfl (I.rdbox 2 rfl 0 4) rfl rfl) ?_
        refine OpsQ.c (fun w I => QC.callv I Tryz.call42 (place_ok _ I.base_ok _ px) rfl) ?_
        refine OpsQ.y (v := .bool false) (fun w I => Y.dec_f (Y.eqi rfl rfl) ((by omega))) ?_
        refine OpsQ.nil ?_
        intro w I
        refine WP.cond_f rfl ?_
        refine WP.skip ?_
        refine WP.seq ?_
        refine WP.seq ?_
        refine WP.regionQ mixed I (by kernel_rfl) ?_
        refine OpsQ.y (v := .bool _) (fun w I => Y.move rfl) ?_
        refine OpsQ.y (v := .bool true) (fun w I => Y.b (Y.not rfl) (rfl)) ?_
        refine OpsQ.y (v := .bool _) (fun w I => Y.move rfl) ?_
        refine OpsQ.ygt rfl (v := .agg #[_, _, _, _]) (fun w I => Y.loadv ty_28 rfl (I.rdbox 0 rfl 0 4) rfl rfl) ?_
        refine OpsQ.cgt rfl (fun w I => QC.callv I Tryz.call42 (place_ok _ I.base_ok _ py) rfl) ?_
        refine OpsQ.ygt rfl (v := .agg #[_, _, _, _]) (fun w I => Y.loadv ty_28 rfl (I.rdbox 2 rfl 0 4) rfl rfl) ?_
        refine OpsQ.cgt rfl (fun w I => QC.callv I Tryz.call42 (place_ok _ I.base_ok _ px) rfl) ?_
        refine OpsQ.ygt rfl (v := .bool true) (fun w I => Y.dec_t (Y.gti rfl rfl) ((by omega))) ?_
        refine OpsQ.y (v := .bool _) (fun w I => Y.pick_t rfl rfl) ?_
        refine OpsQ.nil ?_
        intro w I
        refine WP.cond_t rfl ?_
        refine WP.seq ?_
        refine WP.region ?_
        refine Ops.y (v := .slice _ _ _) (Y.move rfl) ?_
        refine Ops.y (v := .agg #[_, _, _, _]) (Y.loadv ty_28 rfl (I.rdbox 2 rfl 0 4) rfl rfl) ?_
        refine Ops.go (O.mksl (xs := [x]) (enc := Fct.enc) I Tryz.underlying26 Tryz.sizeOf28 Tryz.zeroValue28 rfl (Nat.le_of_ble_eq_true rfl) rfl rfl (by decide) (fun _ => rfl) ?_)
        intro b57 h57 w I le57 sl57
        refine Ops.go (O.append I Tryz.underlying26 et_28 1 rfl rfl rfl (I.rd (sl57 0 _ rfl).2) rfl rfl (by decide) ((by omega)) (by omega) ?_)
        intro b58 c58 w I
        refine Ops.y (v := .slice _ _ _) (Y.assign rfl) ?_
        refine Ops.nil ?_
        refine WP.region ?_
        refine Ops.y (v := .bool _) (Y.assign rfl) ?_
        refine Ops.y (v := .bool _) (Y.assign rfl) ?_
        refine Ops.nil ?_
        refine WP.region ?_
        refine Ops.y (v := .slice _ _ _) (Y.move rfl) ?_
        refine Ops.y (v := .agg #[_, _, _, _]) (Y.loadv ty_28 rfl (I.rdbox 0 rfl 0 4) rfl rfl) ?_
        refine Ops.go (O.mksl (xs := [f.xs[k]]) (enc := Fct.enc) I Tryz.underlying26 Tryz.sizeOf28 Tryz.zeroValue28 rfl (Nat.le_of_ble_eq_true rfl) rfl rfl (by decide) (fun _ => rfl) ?_)
        intro b61 h61 w I le61 sl61
        refine Ops.go (O.append I Tryz.underlying26 et_28 1 rfl rfl rfl (I.rd (sl61 0 _ rfl).2) rfl rfl (by decide) ((by omega)) (by omega) ?_)
        intro b62 c62 w I
        refine Ops.y (v := .slice _ _ _) (Y.assign rfl) ?_
        refine Ops.nil ?_
        refine WP.region ?_
        refine Ops.y (v := .int .i64 _) (Y.move rfl) ?_
        refine Ops.y (v := .int .i64 _) (Y.addi rfl rfl ⟨by omega, by omega⟩) ?_
        refine Ops.y (v := .int .i64 _) (Y.assign rfl) ?_
        refine Ops.nil ?_
        exact ⟨⟨k + 1, n + 1 + 1, some ⟨b62, 0, none⟩, c62, f.xs.take k ++ [x] ++ [f.xs[k]], true, true⟩, ⟨⟨rfl, rfl, rfl, rfl, rfl, rfl, rfl, trivial⟩, ⟨h61, (gl.trans le57).trans le61, by rw [flat_snoc, flat_snoc]; exact I.drop⟩, by rw [List.length_append, List.length_append, ← hn]; rfl, (by dsimp only; omega), (by dsimp only; omega), (fun h => by cases h), fun _ => ⟨by
          rw [ha, hdr]; simp, fun j hj hj' => by
          dsimp only at hj
          have := ok.srt.get (show k < j by omega) hj'; omega⟩⟩, (by dsimp only; omega)⟩
    · obtain ⟨ha, hhi⟩ := hT rfl
      have hgt := hhi k (Nat.le_refl _) hk'
      refine WP.seq ?_
      refine WP.seq ?_
      refine WP.regionQ mixed I (by kernel_rfl) ?_
      refine OpsQ.y (v := .agg #[_, _, _, _]) (fun w I => Y.loadv ty_28 rfl (I.rdbox 0 rfl 0 4) rfl rfl) ?_
      refine OpsQ.c (fun w I => QC.callv I Tryz.call42 (place_ok _ I.base_ok _ py) rfl) ?_
      refine OpsQ.y (v := .agg #[_, _, _, _]) (fun w I => Y.loadv ty_28 rfl (I.rdbox 2 rfl 0 4) rfl rfl) ?_
      refine OpsQ.c (fun w I => QC.callv I Tryz.call42 (place_ok _ I.base_ok _ px) rfl) ?_
      refine OpsQ.y (v := .bool false) (fun w I => Y.dec_f (Y.eqi rfl rfl) ((by omega))) ?_
      refine OpsQ.nil ?_
      intro w I
      refine WP.cond_f rfl ?_
      refine WP.skip ?_
      refine WP.seq ?_
      refine WP.seq ?_
      refine WP.regionQ mixed I (by kernel_rfl) ?_
      refine OpsQ.y (v := .bool _) (fun w I => Y.move rfl) ?_
      refine OpsQ.y (v := .bool false) (fun w I => Y.b (Y.not rfl) (rfl)) ?_
      refine OpsQ.y (v := .bool _) (fun w I => Y.move rfl) ?_
      refine OpsQ.gf rfl ?_
      refine OpsQ.gf rfl ?_
      refine OpsQ.gf rfl ?_
      refine OpsQ.gf rfl ?_
      refine OpsQ.gf rfl ?_
      refine OpsQ.y (v := .bool _) (fun w I => Y.pick_f rfl rfl) ?_
      refine OpsQ.nil ?_
      intro w I
      refine WP.cond_f rfl ?_
      refine WP.skip ?_
      refine WP.region ?_
      refine Ops.y (v := .slice _ _ _) (Y.move rfl) ?_
      refine Ops.y (v := .agg #[_, _, _, _]) (Y.loadv ty_28 rfl (I.rdbox 0 rfl 0 4) rfl rfl) ?_
      refine Ops.go (O.mksl (xs := [f.xs[k]]) (enc := Fct.enc) I Tryz.underlying26 Tryz.sizeOf28 Tryz.zeroValue28 rfl (Nat.le_of_ble_eq_true rfl) rfl rfl (by decide) (fun _ => rfl) ?_)
      intro b61 h61 w I le61 sl61
      refine Ops.go (O.append I Tryz.underlying26 et_28 1 rfl rfl rfl (I.rd (sl61 0 _ rfl).2) rfl rfl (by decide) ((by omega)) (by omega) ?_)
      intro b62 c62 w I
      refine Ops.y (v := .slice _ _ _) (Y.assign rfl) ?_
      refine Ops.nil ?_
      refine WP.region ?_
      refine Ops.y (v := .int .i64 _) (Y.move rfl) ?_
      refine Ops.y (v := .int .i64 _) (Y.addi rfl rfl ⟨by omega, by omega⟩) ?_
      refine Ops.y (v := .int .i64 _) (Y.assign rfl) ?_
      refine Ops.nil ?_
      exact ⟨⟨k + 1, n + 1, some ⟨b62, 0, none⟩, c62, acc ++ [f.xs[k]], true, ch⟩, ⟨⟨rfl, rfl, rfl, rfl, rfl, rfl, rfl, trivial⟩, ⟨h61, gl.trans le61, by rw [flat_snoc]; exact I.drop⟩, by rw [List.length_append, ← hn]; rfl, (by dsimp only; omega), (by dsimp only; omega), (fun h => by cases h), fun _ => ⟨by
          rw [ha, hdr, List.append_assoc]; rfl, fun j hj hj' => hhi j (by dsimp only at hj; omega) hj'⟩⟩, (by dsimp only; omega)⟩
  obtain rfl : k = f.xs.length := by omega
  cases th
  · obtain ⟨rfl, rfl, hlo⟩ := hF rfl
    have hpos : posF f.xs x = f.xs.length := posF_of (by omega) (fun m h hm => hlo m hm h) (fun h => by omega)
    have hno : isF f.xs x = false := by
      rw [Bool.eq_false_iff]; intro hh
      obtain ⟨q1, q2⟩ := (isF_iff (x := x) ok.srt).1 hh
      omega
    have ha := addF_new (k := (predOf l.xs x.pred).kind) ok.srt hno
    rw [hpos, List.take_length, List.drop_length] at ha
    rw [List.take_length] at I hn
    refine WP.exit ?_
    refine WP.seq ?_
    refine WP.seq ?_
    refine WP.region ?_
    refine Ops.y (v := .bool _) (Y.move rfl) ?_
    refine Ops.y (v := .bool true) (Y.b (Y.not rfl) (rfl)) ?_
    refine Ops.nil ?_
    refine WP.cond_t rfl ?_
    refine WP.seq ?_
    refine WP.region ?_
    refine Ops.y (v := .slice _ _ _) (Y.move rfl) ?_
    refine Ops.y (v := .agg #[_, _, _, _]) (Y.loadv ty_28 rfl (I.rdbox 1 rfl 0 4) rfl rfl) ?_
    refine Ops.go (O.mksl (xs := [x]) (enc := Fct.enc) I Tryz.underlying26 Tryz.sizeOf28 Tryz.zeroValue28 rfl (Nat.le_of_ble_eq_true rfl) rfl rfl (by decide) (fun _ => rfl) ?_)
    intro b67 h67 w I le67 sl67
    refine Ops.go (O.append I Tryz.underlying26 et_28 0 rfl rfl rfl (I.rd (sl67 0 _ rfl).2) rfl rfl (by decide) ((by omega)) (by omega) ?_)
    intro b68 c68 w I
    refine Ops.y (v := .slice _ _ _) (Y.assign rfl) ?_
    refine Ops.nil ?_
    refine WP.region ?_
    refine Ops.y (v := .bool _) (Y.assign rfl) ?_
    refine Ops.nil ?_
    have I : Inv B h67 [ownSl 28 4 (.slice (some ⟨b68, 0, none⟩) (n + 1) c68) (n + 1) ((f.xs ++ [x]).flatMap Fct.enc), box b5 x.enc 28] w := by rw [flat_snoc]; exact I
    obtain ⟨h8, s8, le8, hv8, hx8, in8, I⟩ := I.settleSl (fun _ => rfl) (by rw [List.length_append, ← hn]; rfl)
    refine WP.seq ?_
    refine WP.region ?_
    refine Ops.y (v := .slice _ _ _) (Y.move rfl) ?_
    refine Ops.y (v := .bool _) (Y.move rfl) ?_
    refine Ops.y (v := .slice _ _ _) (Y.assign rfl) ?_
    refine Ops.y (v := .bool _) (Y.assign rfl) ?_
    refine Ops.nil ?_
    refine WP.ret ?_
    repeat (first | refine thenE_ret ?_ | refine blockE_ret ?_)
    exact retQ.mk (vs := [.slice _ _ _, .bool _]) rfl ⟨rfl, rfl, trivial⟩ I.ext_of (by rw [ha]; exact ⟨s8, by rw [hv8]; rfl, hx8, in8, by rw [hx8, List.length_append, ← hn]; simp only [List.length_singleton]; omega⟩)
  · obtain ⟨ha, _⟩ := hT rfl
    rw [List.drop_length, List.append_nil] at ha
    refine WP.exit ?_
    refine WP.seq ?_
    refine WP.seq ?_
    refine WP.region ?_
    refine Ops.y (v := .bool _) (Y.move rfl) ?_
    refine Ops.y (v := .bool false) (Y.b (Y.not rfl) (rfl)) ?_
    refine Ops.nil ?_
    refine WP.cond_f rfl ?_
    obtain ⟨h8, s8, le8, hv8, hx8, in8, I⟩ := I.settleSl (fun _ => rfl) hn
    refine WP.skip ?_
    refine WP.seq ?_
    refine WP.region ?_
    refine Ops.y (v := .slice _ _ _) (Y.move rfl) ?_
    refine Ops.y (v := .bool _) (Y.move rfl) ?_
    refine Ops.y (v := .slice _ _ _) (Y.assign rfl) ?_
    refine Ops.y (v := .bool _) (Y.assign rfl) ?_
    refine Ops.nil ?_
    refine WP.ret ?_
    repeat (first | refine thenE_ret ?_ | refine blockE_ret ?_)
    exact retQ.mk (vs := [.slice _ _ _, .bool _]) rfl ⟨rfl, rfl, trivial⟩ I.ext_of (by rw [ha]; exact ⟨s8, by rw [hv8]; rfl, hx8, in8, by rw [hx8, ← hn]; omega⟩)
theorem AddOf_ok (B : Base) (hB : B.ok) (l : Sl Prd) (hl : Prds l B.h) (f : Sl Fct) (hf : Fcts f B.h) (x : Fct) : Fn Tryz.prog 11 [l.val, f.val, x.val] B (AddP (addOf l.xs f.xs x)) := by
  refine Fn.of Tryz.func11 rfl Tryz.ntmps11 (by kernel_rfl) (by simp) ?_
  intro e
  have I := Inv.start hB
  refine WP.seq ?_
  refine WP.region ?_
  refine Ops.go (O.box (v := .agg #[_, _, _, _]) I rfl rfl ?_)
  intro b5 w I
  refine Ops.y (v := .slice _ _ _) (Y.assign rfl) ?_
  refine Ops.y (v := .bool _) (Y.assign rfl) ?_
  refine Ops.y (v := .int .i64 _) (Y.assign rfl) ?_
  refine Ops.nil ?_
  refine WP.seq ?_
  refine WP.seq ?_
  refine WP.region ?_
  refine Ops.y (v := .slice _ _ _) (Y.move rfl) ?_
  refine Ops.y (v := .slice _ _ _) (Y.move rfl) ?_
  refine Ops.go (O.callv I Tryz.call16 (RCheckFacts_ok _ I.base_ok l hl f hf) rfl ?_)
  intro w I
  refine Ops.y (v := .int .i64 _) (Y.assign rfl) ?_
  refine Ops.nil ?_
  refine WP.seq ?_
  refine WP.region ?_
  refine Ops.y (v := .int .i64 _) (Y.move rfl) ?_
  refine Ops.y (v := .bool (decide _)) (Y.nei rfl rfl) ?_
  refine Ops.nil ?_
  refine WP.cond_dec rfl (fun h => ?_) (fun h => ?_)
  · refine WP.seq ?_
    refine WP.region ?_
    refine Ops.y (v := .int .i64 _) (Y.move rfl) ?_
    refine Ops.y (v := .slice _ _ _) (Y.assign rfl) ?_
    refine Ops.y (v := .bool _) (Y.assign rfl) ?_
    refine Ops.y (v := .int .i64 _) (Y.assign rfl) ?_
    refine Ops.nil ?_
    refine WP.ret ?_
    repeat (first | refine thenE_ret ?_ | refine blockE_ret ?_)
    exact retQ.mk (vs := [.slice _ _ _, .bool _, .int .i64 _]) rfl ⟨rfl, rfl, rfl, trivial⟩ I.ext_of (by unfold addOf; rw [if_pos h]; exact ⟨⟨none, 0, []⟩, rfl, rfl, nilF⟩)
  have ok := checkFacts_ok.1 (Decidable.not_not.1 h)
  cases hx : factFine l.xs x
  · refine WP.skip ?_
    refine WP.seq ?_
    refine WP.seq ?_
    refine WP.region ?_
    refine Ops.y (v := .slice _ _ _) (Y.move rfl) ?_
    refine Ops.y (v := .agg #[_, _, _, _]) (Y.loadv ty_28 rfl (I.rdbox 0 rfl 0 4) rfl rfl) ?_
    refine Ops.go (O.callv I Tryz.call36 (FactFine_ok _ I.base_ok l hl x) rfl ?_)
    intro w I
    refine Ops.y (v := .bool true) (Y.b (Y.not rfl) ((by rw [hx]; rfl))) ?_
    refine Ops.nil ?_
    refine WP.cond_t rfl ?_
    refine WP.seq ?_
    refine WP.region ?_
    refine Ops.y (v := .slice _ _ _) (Y.assign rfl) ?_
    refine Ops.y (v := .bool _) (Y.assign rfl) ?_
    refine Ops.y (v := .int .i64 _) (Y.assign rfl) ?_
    refine Ops.nil ?_
    refine WP.ret ?_
    repeat (first | refine thenE_ret ?_ | refine blockE_ret ?_)
    exact retQ.mk (vs := [.slice _ _ _, .bool _, .int .i64 _]) rfl ⟨rfl, rfl, rfl, trivial⟩ I.ext_of (by unfold addOf; rw [if_neg h, hx]; exact ⟨⟨none, 0, []⟩, rfl, rfl, nilF⟩)
  · refine WP.skip ?_
    refine WP.seq ?_
    refine WP.seq ?_
    refine WP.region ?_
    refine Ops.y (v := .slice _ _ _) (Y.move rfl) ?_
    refine Ops.y (v := .agg #[_, _, _, _]) (Y.loadv ty_28 rfl (I.rdbox 0 rfl 0 4) rfl rfl) ?_
    refine Ops.go (O.callv I Tryz.call36 (FactFine_ok _ I.base_ok l hl x) rfl ?_)
    intro w I
    refine Ops.y (v := .bool false) (Y.b (Y.not rfl) ((by rw [hx]; rfl))) ?_
    refine Ops.nil ?_
    refine WP.cond_f rfl ?_
    refine WP.skip ?_
    refine WP.seq ?_
    refine WP.region ?_
    refine Ops.y (v := .slice _ _ _) (Y.move rfl) ?_
    refine Ops.y (v := .slice _ _ _) (Y.move rfl) ?_
    refine Ops.y (v := .agg #[_, _, _, _]) (Y.loadv ty_28 rfl (I.rdbox 0 rfl 0 4) rfl rfl) ?_
    refine Ops.go (O.call I Tryz.call35 (radd_ok _ I.base_ok l hl f hf ok x hx) rfl ?_)
    rintro _ h2 w I le2 ⟨s, rfl, es, hs⟩
    refine Ops.y (v := .tuple #[_, _]) (Y.move rfl) ?_
    refine Ops.y (v := .slice _ _ _) (Y.extract rfl rfl) ?_
    refine Ops.y (v := .bool _) (Y.extract rfl rfl) ?_
    refine Ops.y (v := .slice _ _ _) (Y.assign rfl) ?_
    refine Ops.y (v := .bool _) (Y.assign rfl) ?_
    refine Ops.nil ?_
    refine WP.seq ?_
    refine WP.region ?_
    refine Ops.y (v := .slice _ _ _) (Y.move rfl) ?_
    refine Ops.y (v := .bool _) (Y.move rfl) ?_
    refine Ops.y (v := .slice _ _ _) (Y.assign rfl) ?_
    refine Ops.y (v := .bool _) (Y.assign rfl) ?_
    refine Ops.y (v := .int .i64 _) (Y.assign rfl) ?_
    refine Ops.nil ?_
    refine WP.ret ?_
    repeat (first | refine thenE_ret ?_ | refine blockE_ret ?_)
    exact retQ.mk (vs := [.slice _ _ _, .bool _, .int .i64 _]) rfl ⟨rfl, rfl, rfl, trivial⟩ I.ext_of (by unfold addOf; rw [if_neg h, hx]; exact ⟨s, rfl, es, hs⟩)
end Go.TF
end
section
/- The laws of facts: each returns true. -/
namespace Go.TF
open Go Go.RowKit Go.Proofs
set_option maxRecDepth 20000

def pathsC : List Fct := [⟨0, 0, 1, 0⟩, ⟨0, 1, 2, 0⟩, ⟨1, 0, 1, 4⟩]
theorem paths_ok (B : Base) (hB : B.ok) : Fn Tryz.prog 18 [] B (fun v h => ∃ s : Sl Fct, v = s.val ∧ s.xs = pathsC ∧ Fcts s h) := by
  refine Fn.of Tryz.func18 rfl Tryz.ntmps18 (by kernel_rfl) (by simp) ?_
  intro e
  have I := Inv.start hB
  refine WP.seq ?_
  refine WP.region ?_
  refine Ops.y (v := .slice _ _ _) (Y.assign rfl) ?_
  refine Ops.nil ?_
  refine WP.seq ?_
  refine WP.region ?_
  refine Ops.y (v := .agg #[.int .i64 _, .int .i64 _, .int .i64 _, .int .i64 _]) (Y.build pl_28 Tryz.zeroValue28 rfl rfl) ?_
  refine Ops.y (v := .agg #[.int .i64 _, .int .i64 _, .int .i64 _, .int .i64 _]) (Y.build pl_28 Tryz.zeroValue28 rfl rfl) ?_
  refine Ops.y (v := .agg #[.int .i64 _, .int .i64 _, .int .i64 _, .int .i64 _]) (Y.build pl_28 Tryz.zeroValue28 rfl rfl) ?_
  refine Ops.go (O.mksl (xs := [⟨0, 0, 1, 0⟩, ⟨0, 1, 2, 0⟩, ⟨1, 0, 1, 4⟩]) (enc := Fct.enc) I Tryz.underlying26 Tryz.sizeOf28 Tryz.zeroValue28 rfl (Nat.le_of_ble_eq_true rfl) rfl rfl (by decide) (fun _ => rfl) ?_)
  intro b4 h4 w I le4 sl4
  refine Ops.y (v := .slice _ _ _) (Y.assign rfl) ?_
  refine Ops.nil ?_
  refine WP.ret ?_
  repeat (first | refine thenE_ret ?_ | refine blockE_ret ?_)
  exact retQ.mk (vs := [.slice _ _ _]) rfl ⟨rfl, trivial⟩ I.ext_of (⟨⟨some ⟨b4, 0, none⟩, 3, [⟨0, 0, 1, 0⟩, ⟨0, 1, 2, 0⟩, ⟨1, 0, 1, 4⟩]⟩, rfl, rfl, sl4, by simp⟩)
theorem SameFacts_at (B : Base) (hB : B.ok) (f g : Sl Fct) (hf : Fcts f B.h) (hg : Fcts g B.h) (h : f.xs = g.xs) : Fn Tryz.prog 13 [f.val, g.val] B (fun v _ => v = .bool true) := by
  have := SameFacts_ok B hB f g hf hg
  rwa [decide_eq_true h] at this
end Go.TF
end
section
/- What is checked of programs, wherever they lie; what the roads' strata and needs are: plain. -/
namespace Go.TF
open Go

theorem ne_true {b : Bool} (h : b = false) : ¬ b = true := by rw [h]; decide
def cEr (c : Int × Ltl) : Int × Ltl := (c.1, c.2.er)
theorem usesL_er (rs : List Rul) : usesL (rs.map Rul.er) = (usesL rs).map cEr := by
  induction rs with
  | nil => rfl
  | cons r rs ih =>
    unfold usesL at ih ⊢
    simp only [List.map_cons, List.flatMap_cons, List.map_append, ih]
    congr 1
    simp [Rul.er, cEr, Function.comp_def, Atm.er]
theorem sol_er {cs : List (Int × Ltl)} {n : Nat} {L : List Int} : Sol (cs.map cEr) n L ↔ Sol cs n L :=
  ⟨fun h => ⟨h.len, h.pos, fun c hc => h.sat (cEr c) (List.mem_map_of_mem hc)⟩, fun h => ⟨h.len, h.pos, fun c hc => by obtain ⟨d, hd, rfl⟩ := List.mem_map.1 hc; exact h.sat d hd⟩⟩
theorem least_er {cs : List (Int × Ltl)} {n : Nat} {L : List Int} (h : Least (cs.map cEr) n L) : Least cs n L := ⟨sol_er.1 h.sol, fun M hM => h.least M (sol_er.2 hM)⟩
theorem rulesErr_er (l : List Prd) (rs : List Rul) : rulesErr l (rs.map Rul.er) = rulesErr l rs := by
  induction rs with
  | nil => rfl
  | cons r rs ih => simp only [List.map_cons, rulesErr, checkRule_er, ih]
theorem checkProg_er (p : Prg) : checkProg p.er = checkProg p := by
  have h1 : p.er.preds.xs = p.preds.xs := rfl
  have h2 : p.er.rules.xs = p.rules.xs.map Rul.er := rfl
  unfold checkProg
  rw [h1, h2, List.length_map, rulesErr_er, usesL_er]
  rw [show (∃ M, Sol ((usesL p.rules.xs).map cEr) p.preds.xs.length M) = (∃ M, Sol (usesL p.rules.xs) p.preds.xs.length M) from propext ⟨fun ⟨M, h⟩ => ⟨M, sol_er.1 h⟩, fun ⟨M, h⟩ => ⟨M, sol_er.2 h⟩⟩]

/-! ### The roads -/
theorem lv3 {a b c : Int} (ha : 0 ≤ a) (hb : 0 ≤ b) (hc : 0 ≤ c) (i : Int) : 0 ≤ lv [a, b, c] i := by
  unfold lv
  rw [List.getD_eq_getElem?_getD]
  match i.toNat with
  | 0 => exact ha
  | 1 => exact hb
  | 2 => exact hc
  | _ + 3 => exact Int.le_refl 0
theorem roads_least : Least (usesL roadsC.rules.xs) 3 [0, 0, 1] := by
  refine ⟨⟨rfl, lv3 (by decide) (by decide) (by decide), ?_⟩, fun M hM i => ?_⟩
  · have : ∀ c ∈ usesL roadsC.rules.xs, lst [0, 0, 1] c ≤ lv [0, 0, 1] c.1 := by decide
    exact this
  · have h2 := hM.sat (2, ⟨true, aT 1 [tV 0, tV 0]⟩) (List.mem_of_getElem? (i := 4) rfl)
    have h1 := hM.pos 1
    have e : lst M (2, ⟨true, aT 1 [tV 0, tV 0]⟩) = lv M 1 + 1 := rfl
    unfold SatC at h2
    rw [e] at h2
    dsimp only at h2
    have hi := hM.pos i
    have key : lv [0, 0, 1] i = if i = 2 then 1 else 0 := by
      unfold lv
      rw [List.getD_eq_getElem?_getD]
      by_cases e : i = 2
      · subst e; rfl
      · rw [if_neg e]
        have : i.toNat ≠ 2 := by omega
        match h : i.toNat with
        | 0 => rfl
        | 1 => rfl
        | 2 => exact absurd h this
        | _ + 3 => rfl
    rw [key]
    split
    · rename_i e; subst e; omega
    · exact hi
theorem roads_check : checkProg roadsC = 0 := by
  unfold checkProg
  rw [if_neg (by decide), if_neg (ne_true (show (roadsC.preds.xs.any fun x => !isName x.name) = false by kernel_rfl)), if_neg (ne_true (show twice roadsC.preds.xs = false by kernel_rfl)), if_neg (ne_true (show roadsC.preds.xs.any badArity = false by kernel_rfl)), if_neg (ne_true (show roadsC.preds.xs.any badKind = false by kernel_rfl)), if_neg (by rw [show rulesErr roadsC.preds.xs roadsC.rules.xs = 0 by kernel_rfl]; decide)]
  exact if_pos ⟨_, roads_least.sol⟩
end Go.TF
end
section
/- What must be in any case; no literal is not; what holds of less holds of more. -/
namespace Go.TF
open Go Go.RowKit Go.Proofs
set_option maxRecDepth 20000

/-! ### Wherever they lie -/
theorem litOf_er2 (r : Rul) (k : Int) : (litOf r.er k).atom.args.xs = (litOf r k).atom.args.xs ∧ (litOf r.er k).atom.pred = (litOf r k).atom.pred := by
  have h : r.er.body.xs = r.body.xs.map Ltl.er := rfl
  unfold litOf
  rw [h, List.getD_eq_getElem?_getD, List.getD_eq_getElem?_getD, List.getElem?_map]
  cases r.body.xs[k.toNat]? <;> exact ⟨rfl, rfl⟩
theorem groundF_of {a b : Atm} (h : a.args.xs = b.args.xs ∧ a.pred = b.pred) (x : Vrs) : groundF a x = groundF b x := by
  obtain ⟨p, s⟩ := a; obtain ⟨q, t⟩ := b
  obtain ⟨h1, h2⟩ := h
  dsimp only at h1 h2
  subst h2
  unfold groundF
  simp only [argv, h1]
theorem holdsB_er (f : List Fct) (r : Rul) (x : Vrs) : holdsB f r.er x = holdsB f r x := by
  have h : r.er.body.xs = r.body.xs.map Ltl.er := rfl
  unfold holdsB
  rw [h, List.all_map]
  rfl
theorem headF_er (l : List Prd) (f : List Fct) (r : Rul) (x : Vrs) : headF l f r.er x = headF l f r x := by
  unfold headF headV
  rw [groundF_of (litOf_er2 r r.er.src)]
  rfl
theorem stepsF_er (f : List Fct) (n : Int) (r : Rul) : stepsF f n r.er = stepsF f n r := by
  have h : r.er.body.xs = r.body.xs.map Ltl.er := rfl
  have hs : standsR r.er = standsR r := by
    funext v
    unfold standsR
    rw [h, List.any_map]
    rfl
  unfold stepsF stdOk
  rw [hs]
  simp only [holdsB_er]
/-! ### The roads -/
section
variable {p : Prg} {h : Heap} (hp : RoadsAt p h)
include hp
theorem rd_preds : p.preds.xs = roadsC.preds.xs := by have := congrArg (fun q : Prg => q.preds.xs) hp.er; exact this
theorem rd_len : p.rules.xs.length = 7 := by have := congrArg (fun q : Prg => q.rules.xs.length) hp.er; simpa [Prg.er, roadsC] using this
theorem rd_nm : p.Nm := by unfold Prg.Nm; rw [rd_preds hp]; decide
end
section
variable (B : Base) (hB : B.ok) (p : Prg) (hp : p.In B.h) (hnm : p.Nm) (f : Sl Fct) (hf : Fcts f B.h) (n : Int)
include hB hp hnm hf
end
/-! ### No literal is not -/
/-! ### What holds of less holds of more -/
theorem isF_up {l : List Prd} {f g : List Fct} (hu : underF l f g = true) {y : Fct} (h : isF f y = true) : isF g y = true := by
  unfold isF at *
  cases hl : lkF f (placeF y) with
  | none => rw [hl] at h; cases h
  | some v =>
    obtain ⟨z, hz, e, _⟩ := lkF_mem hl
    obtain ⟨u, h1, _⟩ := underF_iff.1 hu z hz
    rw [← e, h1]; rfl
end Go.TF
end
section
/- CheckProg, of the document; Strata; StrataOf. -/
namespace Go.TF
open Go Go.RowKit Go.Proofs
set_option maxRecDepth 20000

theorem toList_beq (a b : ByteArray) : (a.toList == b.toList) = decide (a = b) := by rw [← beq_toListBytes, beq_bytes]
theorem twice_true {l : List Prd} {i k : Nat} (hk : k < l.length) (hi : i < k) (e : l[i].name = l[k].name) : twice l = true := by
  unfold twice
  rw [List.any_eq_true]
  refine ⟨k, List.mem_range.2 hk, ?_⟩
  unfold early
  rw [List.any_eq_true]
  refine ⟨l[i], List.mem_iff_getElem.2 ⟨i, by simp; omega, by simp⟩, ?_⟩
  simp [List.getD_eq_getElem?_getD, hk, e]
theorem twice_false {l : List Prd} (h : ∀ k, ∀ hk : k < l.length, ∀ i, ∀ hi : i < k, l[i].name ≠ l[k].name) : twice l = false := by
  unfold twice
  rw [List.any_eq_false]
  intro k hk
  have hk := List.mem_range.1 hk
  unfold early
  rw [Bool.not_eq_true, List.any_eq_false]
  intro y hy
  obtain ⟨i, hi, rfl⟩ := List.getElem_of_mem hy
  have hi' : i < k := by simp at hi; omega
  have := h k hk i hi'
  simp only [List.getElem_take, List.getD_eq_getElem?_getD, List.getElem?_eq_getElem hk, Option.getD_some, decide_eq_true_eq]
  exact this
theorem any_false {α : Type} {l : List α} {q : α → Bool} (h : ∀ j, j < l.length → ∀ hj : j < l.length, q l[j] = false) : l.any q = false := by
  rw [List.any_eq_false]
  intro x hx
  obtain ⟨j, hj, rfl⟩ := List.getElem_of_mem hx
  rw [h j hj hj]; decide
theorem any_at {α : Type} {l : List α} {q : α → Bool} {k : Nat} (hk : k < l.length) (h : q l[k] = true) : l.any q = true := List.any_eq_true.2 ⟨_, List.getElem_mem hk, h⟩
theorem not_within' {a lo hi : Int} : (!decide (within a lo hi)) = true ↔ a < lo ∨ hi < a := by
  simp only [Bool.not_eq_true', decide_eq_false_iff_not]; unfold within; omega
set_option maxHeartbeats 4000000 in
theorem CheckProg_ok (B : Base) (hB : B.ok) (p : Prg) (hp : p.In B.h) (hnm : p.Nm) : Fn Tryz.prog 15 [p.val] B (fun v _ => v = .int .i64 (checkProg p)) := by
  have hsp := hp.preds.small
  have hsr := hp.rules.is.small
  refine Fn.of Tryz.func15 rfl Tryz.ntmps15 (by kernel_rfl) (by simp) ?_
  intro e
  have I := Inv.start hB
  refine WP.seq ?_
  refine WP.region ?_
  refine Ops.go (O.box (v := .agg #[_, _]) I rfl rfl ?_)
  intro b1 w I
  refine Ops.y (v := .int .i64 _) (Y.assign rfl) ?_
  refine Ops.nil ?_
  refine WP.seq ?_
  refine WP.seq ?_
  by_cases o0 : 5 < (p.preds.xs.length : Int)
  · refine WP.region ?_
    refine Ops.y (v := .pointer (some ⟨_, _, none⟩)) (Y.fa0 fa_25_0 rfl) ?_
    refine Ops.y (v := .slice _ _ _) (Y.loadv ty_22 rfl (I.rdbox 0 rfl 0 1) rfl rfl) ?_
    refine Ops.y (v := .int .i64 _) (Y.lens Tryz.underlying22 rfl) ?_
    refine Ops.y (v := .bool true) (Y.dec_t (Y.gti rfl rfl) (o0)) ?_
    refine Ops.y (v := .bool _) (Y.move rfl) ?_
    refine Ops.gf rfl ?_
    refine Ops.gf rfl ?_
    refine Ops.gf rfl ?_
    refine Ops.gf rfl ?_
    refine Ops.y (v := .bool _) (Y.pick_t rfl rfl) ?_
    refine Ops.nil ?_
    refine WP.cond_t rfl ?_
    refine WP.seq ?_
    refine WP.region ?_
    refine Ops.y (v := .int .i64 _) (Y.assign rfl) ?_
    refine Ops.nil ?_
    refine WP.ret ?_
    repeat (first | refine thenE_ret ?_ | refine blockE_ret ?_)
    exact retQ.mk (vs := [.int .i64 _]) rfl ⟨rfl, trivial⟩ I.ext_of (by simp only [tup, checkProg]; rw [if_pos (by omega)])
  by_cases o1 : 8 < (p.rules.xs.length : Int)
  · refine WP.region ?_
    refine Ops.y (v := .pointer (some ⟨_, _, none⟩)) (Y.fa0 fa_25_0 rfl) ?_
    refine Ops.y (v := .slice _ _ _) (Y.loadv ty_22 rfl (I.rdbox 0 rfl 0 1) rfl rfl) ?_
    refine Ops.y (v := .int .i64 _) (Y.lens Tryz.underlying22 rfl) ?_
    refine Ops.y (v := .bool false) (Y.dec_f (Y.gti rfl rfl) (o0)) ?_
    refine Ops.y (v := .bool _) (Y.move rfl) ?_
    refine Ops.ygt rfl (v := .pointer (some ⟨_, _, none⟩)) (Y.fa fa_25_1 rfl) ?_
    refine Ops.ygt rfl (v := .slice _ _ _) (Y.loadv ty_23 rfl (I.rdbox 0 rfl 1 1) rfl rfl) ?_
    refine Ops.ygt rfl (v := .int .i64 _) (Y.lens Tryz.underlying23 rfl) ?_
    refine Ops.ygt rfl (v := .bool true) (Y.dec_t (Y.gti rfl rfl) (o1)) ?_
    refine Ops.y (v := .bool _) (Y.pick_f rfl rfl) ?_
    refine Ops.nil ?_
    refine WP.cond_t rfl ?_
    refine WP.seq ?_
    refine WP.region ?_
    refine Ops.y (v := .int .i64 _) (Y.assign rfl) ?_
    refine Ops.nil ?_
    refine WP.ret ?_
    repeat (first | refine thenE_ret ?_ | refine blockE_ret ?_)
    exact retQ.mk (vs := [.int .i64 _]) rfl ⟨rfl, trivial⟩ I.ext_of (by simp only [tup, checkProg]; rw [if_pos (by omega)])
  refine WP.region ?_
  refine Ops.y (v := .pointer (some ⟨_, _, none⟩)) (Y.fa0 fa_25_0 rfl) ?_
  refine Ops.y (v := .slice _ _ _) (Y.loadv ty_22 rfl (I.rdbox 0 rfl 0 1) rfl rfl) ?_
  refine Ops.y (v := .int .i64 _) (Y.lens Tryz.underlying22 rfl) ?_
  refine Ops.y (v := .bool false) (Y.dec_f (Y.gti rfl rfl) (o0)) ?_
  refine Ops.y (v := .bool _) (Y.move rfl) ?_
  refine Ops.ygt rfl (v := .pointer (some ⟨_, _, none⟩)) (Y.fa fa_25_1 rfl) ?_
  refine Ops.ygt rfl (v := .slice _ _ _) (Y.loadv ty_23 rfl (I.rdbox 0 rfl 1 1) rfl rfl) ?_
  refine Ops.ygt rfl (v := .int .i64 _) (Y.lens Tryz.underlying23 rfl) ?_
  refine Ops.ygt rfl (v := .bool false) (Y.dec_f (Y.gti rfl rfl) (o1)) ?_
  refine Ops.y (v := .bool _) (Y.pick_f rfl rfl) ?_
  refine Ops.nil ?_
  refine WP.cond_f rfl ?_
  have c0 : ¬ (5 < p.preds.xs.length ∨ 8 < p.rules.xs.length) := by omega
  refine WP.skip ?_
  refine WP.seq ?_
  refine WP.seq ?_
  refine WP.region ?_
  refine Ops.y (v := .int .i64 _) (Y.assign rfl) ?_
  refine Ops.nil ?_
  refine WP.cutL (σ := Unit) (fun _ => [(1, .pointer (some ⟨b1, 0, none⟩))]) (fun _ w => Inv B B.h [box b1 p.enc 25] w ∧ (p.preds.xs.any fun x => !isName x.name) = false) ?_ ?_
  · refine WP.block ?_
    refine WP.loopE (σ := Nat) (fun k => [(1, .pointer (some ⟨b1, 0, none⟩)), (3, .int .i64 k)]) (fun k w => Inv B B.h [box b1 p.enc 25] w ∧ k ≤ p.preds.xs.length ∧ ∀ j, j < k → ∀ hj : j < p.preds.xs.length, (!isName p.preds.xs[j].name) = false) (fun k => p.preds.xs.length - k)
      ⟨0, ⟨rfl, rfl, trivial⟩, I, Nat.zero_le _, fun j hj => by omega⟩ ?_
    rintro k e w ⟨I, hk, hn⟩
    refine WP.seq ?_
    refine WP.seq ?_
    refine WP.region ?_
    refine Ops.y (v := .int .i64 _) (Y.move rfl) ?_
    refine Ops.y (v := .pointer (some ⟨_, _, none⟩)) (Y.fa0 fa_25_0 rfl) ?_
    refine Ops.y (v := .slice _ _ _) (Y.loadv ty_22 rfl (I.rdbox 0 rfl 0 1) rfl rfl) ?_
    refine Ops.y (v := .int .i64 _) (Y.lens Tryz.underlying22 rfl) ?_
    refine Ops.y (v := .bool (decide _)) (Y.lti rfl rfl) ?_
    refine Ops.nil ?_
    refine WP.cond_dec rfl (fun h => ?_) (fun h => ?_)
    · have hk' : k < p.preds.xs.length := by omega
      have E1 := hp.preds.at hk'
      refine WP.skip ?_
      refine WP.seq ?_
      refine WP.block ?_
      refine WP.seq ?_
      refine WP.region ?_
      refine Ops.y (v := .pointer (some ⟨_, _, none⟩)) (Y.fa0 fa_25_0 rfl) ?_
      refine Ops.y (v := .slice _ _ _) (Y.loadv ty_22 rfl (I.rdbox 0 rfl 0 1) rfl rfl) ?_
      refine Ops.y (v := .int .i64 _) (Y.move rfl) ?_
      refine Ops.y (v := .pointer (some ⟨_, _, none⟩)) (Y.idxEl E1 Tryz.underlying22 Tryz.sizeOf40 rfl rfl (Int.natCast_nonneg _) rfl) ?_
      refine Ops.y (v := .pointer (some ⟨_, _, none⟩)) (Y.fa0 fa_40_0 rfl) ?_
      refine Ops.y (v := .string _) (Y.loadv ty_9 rfl (I.rd (E1.rd.part 0 1)) rfl rfl) ?_
      refine Ops.go (O.callv I Tryz.call39 (IsName_ok _ I.base_ok p.preds.xs[k].name (hnm _ (List.getElem_mem hk'))) rfl ?_)
      intro w I
      refine Ops.y (v := .bool _) (Y.not rfl) ?_
      refine Ops.nil ?_
      refine WP.cond rfl (fun hb => ?_) (fun hb => ?_)
      · refine WP.seq ?_
        refine WP.region ?_
        refine Ops.y (v := .int .i64 _) (Y.assign rfl) ?_
        refine Ops.nil ?_
        refine WP.ret ?_
        repeat (first | refine thenE_ret ?_ | refine blockE_ret ?_)
        exact retQ.mk (vs := [.int .i64 _]) rfl ⟨rfl, trivial⟩ I.ext_of (by simp only [tup, checkProg]; rw [if_neg c0, if_pos (any_at hk' hb)])
      refine WP.skip ?_
      refine WP.region ?_
      refine Ops.y (v := .int .i64 _) (Y.move rfl) ?_
      refine Ops.y (v := .int .i64 _) (Y.addi rfl rfl ⟨by omega, by omega⟩) ?_
      refine Ops.y (v := .int .i64 _) (Y.assign rfl) ?_
      refine Ops.nil ?_
      exact ⟨k + 1, ⟨⟨rfl, rfl, trivial⟩, I, hk', fun j hj hj' => by
        rcases Nat.lt_succ_iff_lt_or_eq.1 hj with h' | rfl
        · exact hn j h' hj'
        · exact hb⟩, by omega⟩
    refine WP.exit ?_
    exact ⟨(), ⟨rfl, trivial⟩, I, any_false (fun j hj hj' => hn j (by omega) hj')⟩
  rintro _ e w ⟨I, c1⟩
  refine WP.seq ?_
  refine WP.seq ?_
  refine WP.region ?_
  refine Ops.y (v := .int .i64 _) (Y.assign rfl) ?_
  refine Ops.nil ?_
  refine WP.cutL (σ := Unit) (fun _ => [(1, .pointer (some ⟨b1, 0, none⟩))]) (fun _ w => Inv B B.h [box b1 p.enc 25] w ∧ twice p.preds.xs = false) ?_ ?_
  · refine WP.block ?_
    refine WP.loopE (σ := Nat) (fun k => [(1, .pointer (some ⟨b1, 0, none⟩)), (4, .int .i64 k)]) (fun k w => Inv B B.h [box b1 p.enc 25] w ∧ k ≤ p.preds.xs.length ∧ ∀ j, j < k → ∀ hj : j < p.preds.xs.length, ∀ i, ∀ hi : i < j, p.preds.xs[i].name ≠ p.preds.xs[j].name) (fun k => p.preds.xs.length - k)
      ⟨0, ⟨rfl, rfl, trivial⟩, I, Nat.zero_le _, fun j hj => by omega⟩ ?_
    rintro k e w ⟨I, hk, hn⟩
    refine WP.seq ?_
    refine WP.seq ?_
    refine WP.region ?_
    refine Ops.y (v := .int .i64 _) (Y.move rfl) ?_
    refine Ops.y (v := .pointer (some ⟨_, _, none⟩)) (Y.fa0 fa_25_0 rfl) ?_
    refine Ops.y (v := .slice _ _ _) (Y.loadv ty_22 rfl (I.rdbox 0 rfl 0 1) rfl rfl) ?_
    refine Ops.y (v := .int .i64 _) (Y.lens Tryz.underlying22 rfl) ?_
    refine Ops.y (v := .bool (decide _)) (Y.lti rfl rfl) ?_
    refine Ops.nil ?_
    refine WP.cond_dec rfl (fun h => ?_) (fun h => ?_)
    · have hk' : k < p.preds.xs.length := by omega
      have E1 := hp.preds.at hk'
      refine WP.skip ?_
      refine WP.seq ?_
      refine WP.block ?_
      refine WP.seq ?_
      refine WP.region ?_
      refine Ops.y (v := .int .i64 _) (Y.assign rfl) ?_
      refine Ops.nil ?_
      refine WP.block ?_
      refine WP.loopE (σ := Nat) (fun i => [(1, .pointer (some ⟨b1, 0, none⟩)), (4, .int .i64 k), (5, .int .i64 i)]) (fun i w => Inv B B.h [box b1 p.enc 25] w ∧ i ≤ k ∧ ∀ j, ∀ hj : j < i, ∀ hj' : j < p.preds.xs.length, p.preds.xs[j].name ≠ p.preds.xs[k].name) (fun i => k - i)
        ⟨0, ⟨rfl, rfl, rfl, trivial⟩, I, Nat.zero_le _, fun j hj => by omega⟩ ?_
      rintro i e w ⟨I, hi, hni⟩
      refine WP.seq ?_
      refine WP.seq ?_
      refine WP.region ?_
      refine Ops.y (v := .int .i64 _) (Y.move rfl) ?_
      refine Ops.y (v := .int .i64 _) (Y.move rfl) ?_
      refine Ops.y (v := .bool (decide _)) (Y.lti rfl rfl) ?_
      refine Ops.nil ?_
      refine WP.cond_dec rfl (fun h12 => ?_) (fun h12 => ?_)
      · have hi' : i < p.preds.xs.length := by omega
        have E2 := hp.preds.at hi'
        refine WP.skip ?_
        refine WP.seq ?_
        refine WP.block ?_
        refine WP.seq ?_
        refine WP.regionQ mixed I (by kernel_rfl) ?_
        refine OpsQ.y (v := .pointer (some ⟨_, _, none⟩)) (fun w I => Y.fa0 fa_25_0 rfl) ?_
        refine OpsQ.y (v := .slice _ _ _) (fun w I => Y.loadv ty_22 rfl (I.rdbox 0 rfl 0 1) rfl rfl) ?_
        refine OpsQ.y (v := .int .i64 _) (fun w I => Y.move rfl) ?_
        refine OpsQ.y (v := .pointer (some ⟨_, _, none⟩)) (fun w I => Y.idxEl E2 Tryz.underlying22 Tryz.sizeOf40 rfl rfl (Int.natCast_nonneg _) rfl) ?_
        refine OpsQ.y (v := .pointer (some ⟨_, _, none⟩)) (fun w I => Y.fa0 fa_40_0 rfl) ?_
        refine OpsQ.y (v := .string _) (fun w I => Y.loadv ty_9 rfl (I.rd (E2.rd.part 0 1)) rfl rfl) ?_
        refine OpsQ.y (v := .pointer (some ⟨_, _, none⟩)) (fun w I => Y.fa0 fa_25_0 rfl) ?_
        refine OpsQ.y (v := .slice _ _ _) (fun w I => Y.loadv ty_22 rfl (I.rdbox 0 rfl 0 1) rfl rfl) ?_
        refine OpsQ.y (v := .int .i64 _) (fun w I => Y.move rfl) ?_
        refine OpsQ.y (v := .pointer (some ⟨_, _, none⟩)) (fun w I => Y.idxEl E1 Tryz.underlying22 Tryz.sizeOf40 rfl rfl (Int.natCast_nonneg _) rfl) ?_
        refine OpsQ.y (v := .pointer (some ⟨_, _, none⟩)) (fun w I => Y.fa0 fa_40_0 rfl) ?_
        refine OpsQ.y (v := .string _) (fun w I => Y.loadv ty_9 rfl (I.rd (E1.rd.part 0 1)) rfl rfl) ?_
        refine OpsQ.y (v := .bool _) (fun w I => Y.eqs rfl rfl) ?_
        refine OpsQ.nil ?_
        intro w I
        refine WP.cond rfl (fun hb => ?_) (fun hb => ?_)
        · refine WP.seq ?_
          refine WP.region ?_
          refine Ops.y (v := .int .i64 _) (Y.assign rfl) ?_
          refine Ops.nil ?_
          refine WP.ret ?_
          repeat (first | refine thenE_ret ?_ | refine blockE_ret ?_)
          exact retQ.mk (vs := [.int .i64 _]) rfl ⟨rfl, trivial⟩ I.ext_of (by simp only [tup, checkProg]; rw [if_neg c0, if_neg (by rw [c1]; decide), if_pos (twice_true hk' (show i < k by omega) (by rw [toList_beq] at hb; exact of_decide_eq_true hb))])
        refine WP.skip ?_
        refine WP.region ?_
        refine Ops.y (v := .int .i64 _) (Y.move rfl) ?_
        refine Ops.y (v := .int .i64 _) (Y.addi rfl rfl ⟨by omega, by omega⟩) ?_
        refine Ops.y (v := .int .i64 _) (Y.assign rfl) ?_
        refine Ops.nil ?_
        exact ⟨i + 1, ⟨⟨rfl, rfl, rfl, trivial⟩, I, by omega, fun j hj hj' => by
          rcases Nat.lt_succ_iff_lt_or_eq.1 hj with h' | rfl
          · exact hni j h' hj'
          · rw [toList_beq] at hb; exact of_decide_eq_false hb⟩, by omega⟩
      refine WP.exit ?_
      refine WP.region ?_
      refine Ops.y (v := .int .i64 _) (Y.move rfl) ?_
      refine Ops.y (v := .int .i64 _) (Y.addi rfl rfl ⟨by omega, by omega⟩) ?_
      refine Ops.y (v := .int .i64 _) (Y.assign rfl) ?_
      refine Ops.nil ?_
      exact ⟨k + 1, ⟨⟨rfl, rfl, trivial⟩, I, hk', fun j hj hj' => by
        rcases Nat.lt_succ_iff_lt_or_eq.1 hj with h' | rfl
        · exact hn j h' hj'
        · exact fun q hq => hni q (by omega) (by omega)⟩, by omega⟩
    refine WP.exit ?_
    exact ⟨(), ⟨rfl, trivial⟩, I, twice_false (fun j hj => hn j (by omega) hj)⟩
  rintro _ e w ⟨I, c2⟩
  refine WP.seq ?_
  refine WP.seq ?_
  refine WP.region ?_
  refine Ops.y (v := .int .i64 _) (Y.assign rfl) ?_
  refine Ops.nil ?_
  refine WP.cutL (σ := Unit) (fun _ => [(1, .pointer (some ⟨b1, 0, none⟩))]) (fun _ w => Inv B B.h [box b1 p.enc 25] w ∧ p.preds.xs.any badArity = false) ?_ ?_
  · refine WP.block ?_
    refine WP.loopE (σ := Nat) (fun k => [(1, .pointer (some ⟨b1, 0, none⟩)), (6, .int .i64 k)]) (fun k w => Inv B B.h [box b1 p.enc 25] w ∧ k ≤ p.preds.xs.length ∧ ∀ j, j < k → ∀ hj : j < p.preds.xs.length, badArity p.preds.xs[j] = false) (fun k => p.preds.xs.length - k)
      ⟨0, ⟨rfl, rfl, trivial⟩, I, Nat.zero_le _, fun j hj => by omega⟩ ?_
    rintro k e w ⟨I, hk, hn⟩
    refine WP.seq ?_
    refine WP.seq ?_
    refine WP.region ?_
    refine Ops.y (v := .int .i64 _) (Y.move rfl) ?_
    refine Ops.y (v := .pointer (some ⟨_, _, none⟩)) (Y.fa0 fa_25_0 rfl) ?_
    refine Ops.y (v := .slice _ _ _) (Y.loadv ty_22 rfl (I.rdbox 0 rfl 0 1) rfl rfl) ?_
    refine Ops.y (v := .int .i64 _) (Y.lens Tryz.underlying22 rfl) ?_
    refine Ops.y (v := .bool (decide _)) (Y.lti rfl rfl) ?_
    refine Ops.nil ?_
    refine WP.cond_dec rfl (fun h => ?_) (fun h => ?_)
    · have hk' : k < p.preds.xs.length := by omega
      have E1 := hp.preds.at hk'
      refine WP.skip ?_
      refine WP.seq ?_
      refine WP.block ?_
      refine WP.seq ?_
      refine WP.region ?_
      refine Ops.y (v := .pointer (some ⟨_, _, none⟩)) (Y.fa0 fa_25_0 rfl) ?_
      refine Ops.y (v := .slice _ _ _) (Y.loadv ty_22 rfl (I.rdbox 0 rfl 0 1) rfl rfl) ?_
      refine Ops.y (v := .int .i64 _) (Y.move rfl) ?_
      refine Ops.y (v := .pointer (some ⟨_, _, none⟩)) (Y.idxEl E1 Tryz.underlying22 Tryz.sizeOf40 rfl rfl (Int.natCast_nonneg _) rfl) ?_
      refine Ops.y (v := .pointer (some ⟨_, _, none⟩)) (Y.fa fa_40_1 rfl) ?_
      refine Ops.y (v := .int .i64 _) (Y.loadv ty_3 rfl (I.rd (E1.rd.part 1 1)) rfl rfl) ?_
      refine Ops.go (O.callv I Tryz.call37 (within_ok _ I.base_ok _ _ _) rfl ?_)
      intro w I
      refine Ops.y (v := .bool _) (Y.not rfl) ?_
      refine Ops.nil ?_
      refine WP.cond rfl (fun hb => ?_) (fun hb => ?_)
      · refine WP.seq ?_
        refine WP.region ?_
        refine Ops.y (v := .int .i64 _) (Y.assign rfl) ?_
        refine Ops.nil ?_
        refine WP.ret ?_
        repeat (first | refine thenE_ret ?_ | refine blockE_ret ?_)
        exact retQ.mk (vs := [.int .i64 _]) rfl ⟨rfl, trivial⟩ I.ext_of (by simp only [tup, checkProg]; rw [if_neg c0, if_neg (by rw [c1]; decide), if_neg (by rw [c2]; decide), if_pos (any_at hk' (by unfold badArity; exact decide_eq_true (not_within'.1 hb)))])
      refine WP.skip ?_
      refine WP.region ?_
      refine Ops.y (v := .int .i64 _) (Y.move rfl) ?_
      refine Ops.y (v := .int .i64 _) (Y.addi rfl rfl ⟨by omega, by omega⟩) ?_
      refine Ops.y (v := .int .i64 _) (Y.assign rfl) ?_
      refine Ops.nil ?_
      exact ⟨k + 1, ⟨⟨rfl, rfl, trivial⟩, I, hk', fun j hj hj' => by
        rcases Nat.lt_succ_iff_lt_or_eq.1 hj with h' | rfl
        · exact hn j h' hj'
        · unfold badArity; exact decide_eq_false (fun hx => by rw [not_within'.2 hx] at hb; cases hb)⟩, by omega⟩
    refine WP.exit ?_
    exact ⟨(), ⟨rfl, trivial⟩, I, any_false (fun j hj hj' => hn j (by omega) hj')⟩
  rintro _ e w ⟨I, c3⟩
  refine WP.seq ?_
  refine WP.seq ?_
  refine WP.region ?_
  refine Ops.y (v := .int .i64 _) (Y.assign rfl) ?_
  refine Ops.nil ?_
  refine WP.cutL (σ := Unit) (fun _ => [(1, .pointer (some ⟨b1, 0, none⟩))]) (fun _ w => Inv B B.h [box b1 p.enc 25] w ∧ p.preds.xs.any badKind = false) ?_ ?_
  · refine WP.block ?_
    refine WP.loopE (σ := Nat) (fun k => [(1, .pointer (some ⟨b1, 0, none⟩)), (7, .int .i64 k)]) (fun k w => Inv B B.h [box b1 p.enc 25] w ∧ k ≤ p.preds.xs.length ∧ ∀ j, j < k → ∀ hj : j < p.preds.xs.length, badKind p.preds.xs[j] = false) (fun k => p.preds.xs.length - k)
      ⟨0, ⟨rfl, rfl, trivial⟩, I, Nat.zero_le _, fun j hj => by omega⟩ ?_
    rintro k e w ⟨I, hk, hn⟩
    refine WP.seq ?_
    refine WP.seq ?_
    refine WP.region ?_
    refine Ops.y (v := .int .i64 _) (Y.move rfl) ?_
    refine Ops.y (v := .pointer (some ⟨_, _, none⟩)) (Y.fa0 fa_25_0 rfl) ?_
    refine Ops.y (v := .slice _ _ _) (Y.loadv ty_22 rfl (I.rdbox 0 rfl 0 1) rfl rfl) ?_
    refine Ops.y (v := .int .i64 _) (Y.lens Tryz.underlying22 rfl) ?_
    refine Ops.y (v := .bool (decide _)) (Y.lti rfl rfl) ?_
    refine Ops.nil ?_
    refine WP.cond_dec rfl (fun h => ?_) (fun h => ?_)
    · have hk' : k < p.preds.xs.length := by omega
      have E1 := hp.preds.at hk'
      refine WP.skip ?_
      refine WP.seq ?_
      refine WP.block ?_
      refine WP.seq ?_
      refine WP.region ?_
      refine Ops.y (v := .pointer (some ⟨_, _, none⟩)) (Y.fa0 fa_25_0 rfl) ?_
      refine Ops.y (v := .slice _ _ _) (Y.loadv ty_22 rfl (I.rdbox 0 rfl 0 1) rfl rfl) ?_
      refine Ops.y (v := .int .i64 _) (Y.move rfl) ?_
      refine Ops.y (v := .pointer (some ⟨_, _, none⟩)) (Y.idxEl E1 Tryz.underlying22 Tryz.sizeOf40 rfl rfl (Int.natCast_nonneg _) rfl) ?_
      refine Ops.y (v := .pointer (some ⟨_, _, none⟩)) (Y.fa fa_40_2 rfl) ?_
      refine Ops.y (v := .int .i64 _) (Y.loadv ty_3 rfl (I.rd (E1.rd.part 2 1)) rfl rfl) ?_
      refine Ops.go (O.callv I Tryz.call37 (within_ok _ I.base_ok _ _ _) rfl ?_)
      intro w I
      refine Ops.y (v := .bool _) (Y.not rfl) ?_
      refine Ops.nil ?_
      refine WP.cond rfl (fun hb => ?_) (fun hb => ?_)
      · refine WP.seq ?_
        refine WP.region ?_
        refine Ops.y (v := .int .i64 _) (Y.assign rfl) ?_
        refine Ops.nil ?_
        refine WP.ret ?_
        repeat (first | refine thenE_ret ?_ | refine blockE_ret ?_)
        exact retQ.mk (vs := [.int .i64 _]) rfl ⟨rfl, trivial⟩ I.ext_of (by simp only [tup, checkProg]; rw [if_neg c0, if_neg (by rw [c1]; decide), if_neg (by rw [c2]; decide), if_neg (by rw [c3]; decide), if_pos (any_at hk' (by unfold badKind; exact decide_eq_true (not_within'.1 hb)))])
      refine WP.skip ?_
      refine WP.region ?_
      refine Ops.y (v := .int .i64 _) (Y.move rfl) ?_
      refine Ops.y (v := .int .i64 _) (Y.addi rfl rfl ⟨by omega, by omega⟩) ?_
      refine Ops.y (v := .int .i64 _) (Y.assign rfl) ?_
      refine Ops.nil ?_
      exact ⟨k + 1, ⟨⟨rfl, rfl, trivial⟩, I, hk', fun j hj hj' => by
        rcases Nat.lt_succ_iff_lt_or_eq.1 hj with h' | rfl
        · exact hn j h' hj'
        · unfold badKind; exact decide_eq_false (fun hx => by rw [not_within'.2 hx] at hb; cases hb)⟩, by omega⟩
    refine WP.exit ?_
    exact ⟨(), ⟨rfl, trivial⟩, I, any_false (fun j hj hj' => hn j (by omega) hj')⟩
  rintro _ e w ⟨I, c4⟩
  have e4 : checkProg p = if rulesErr p.preds.xs p.rules.xs ≠ 0 then rulesErr p.preds.xs p.rules.xs else @ite Int (∃ M, Sol (usesL p.rules.xs) p.preds.xs.length M) (Classical.propDecidable _) 0 8 := by
    unfold checkProg; rw [if_neg c0, if_neg (by rw [c1]; decide), if_neg (by rw [c2]; decide), if_neg (by rw [c3]; decide), if_neg (by rw [c4]; decide)]
  refine WP.seq ?_
  refine WP.seq ?_
  refine WP.region ?_
  refine Ops.y (v := .int .i64 _) (Y.assign rfl) ?_
  refine Ops.nil ?_
  refine WP.block ?_
  refine WP.loopE (σ := Nat) (fun k => [(1, .pointer (some ⟨b1, 0, none⟩)), (8, .int .i64 k)]) (fun k w => Inv B B.h [box b1 p.enc 25] w ∧ k ≤ p.rules.xs.length ∧ ∀ j, j < k → ∀ hj : j < p.rules.xs.length, checkRule p.preds.xs p.rules.xs[j] = 0) (fun k => p.rules.xs.length - k)
    ⟨0, ⟨rfl, rfl, trivial⟩, I, Nat.zero_le _, fun j hj => by omega⟩ ?_
  rintro k e w ⟨I, hk, hn⟩
  refine WP.seq ?_
  refine WP.seq ?_
  refine WP.region ?_
  refine Ops.y (v := .int .i64 _) (Y.move rfl) ?_
  refine Ops.y (v := .pointer (some ⟨_, _, none⟩)) (Y.fa fa_25_1 rfl) ?_
  refine Ops.y (v := .slice _ _ _) (Y.loadv ty_23 rfl (I.rdbox 0 rfl 1 1) rfl rfl) ?_
  refine Ops.y (v := .int .i64 _) (Y.lens Tryz.underlying23 rfl) ?_
  refine Ops.y (v := .bool (decide _)) (Y.lti rfl rfl) ?_
  refine Ops.nil ?_
  refine WP.cond_dec rfl (fun h => ?_) (fun h => ?_)
  · have hk' : k < p.rules.xs.length := by omega
    have E1 := hp.rules.is.at hk'
    refine WP.skip ?_
    refine WP.seq ?_
    refine WP.block ?_
    refine WP.seq ?_
    refine WP.regionQ mixed I (by kernel_rfl) ?_
    refine OpsQ.y (v := .pointer (some ⟨_, _, none⟩)) (fun w I => Y.fa0 fa_25_0 rfl) ?_
    refine OpsQ.y (v := .slice _ _ _) (fun w I => Y.loadv ty_22 rfl (I.rdbox 0 rfl 0 1) rfl rfl) ?_
    refine OpsQ.y (v := .pointer (some ⟨_, _, none⟩)) (fun w I => Y.fa fa_25_1 rfl) ?_
    refine OpsQ.y (v := .slice _ _ _) (fun w I => Y.loadv ty_23 rfl (I.rdbox 0 rfl 1 1) rfl rfl) ?_
    refine OpsQ.y (v := .int .i64 _) (fun w I => Y.move rfl) ?_
    refine OpsQ.y (v := .pointer (some ⟨_, _, none⟩)) (fun w I => Y.idxEl E1 Tryz.underlying23 Tryz.sizeOf46 rfl rfl (Int.natCast_nonneg _) rfl) ?_
    refine OpsQ.y (v := .agg #[_, _, _, _, _]) (fun w I => Y.loadv ty_46 rfl (I.rd (E1.rd.part 0 5)) rfl rfl) ?_
    refine OpsQ.c (fun w I => QC.callv I Tryz.call40 (CheckRule_ok _ I.base_ok p.preds hp.preds p.rules.xs[k] (hp.rules.each _ (List.getElem_mem hk'))) rfl) ?_
    refine OpsQ.y (v := .int .i64 _) (fun w I => Y.assign rfl) ?_
    refine OpsQ.nil ?_
    intro w I
    refine WP.seq ?_
    refine WP.region ?_
    refine Ops.y (v := .int .i64 _) (Y.move rfl) ?_
    refine Ops.y (v := .bool (decide _)) (Y.nei rfl rfl) ?_
    refine Ops.nil ?_
    refine WP.cond_dec rfl (fun h17 => ?_) (fun h17 => ?_)
    · refine WP.seq ?_
      refine WP.region ?_
      refine Ops.y (v := .int .i64 _) (Y.move rfl) ?_
      refine Ops.y (v := .int .i64 _) (Y.assign rfl) ?_
      refine Ops.nil ?_
      refine WP.ret ?_
      repeat (first | refine thenE_ret ?_ | refine blockE_ret ?_)
      exact retQ.mk (vs := [.int .i64 _]) rfl ⟨rfl, trivial⟩ I.ext_of (by simp only [tup, e4]; rw [rulesErr_at hk' hn h17, if_pos h17])
    refine WP.skip ?_
    refine WP.region ?_
    refine Ops.y (v := .int .i64 _) (Y.move rfl) ?_
    refine Ops.y (v := .int .i64 _) (Y.addi rfl rfl ⟨by omega, by omega⟩) ?_
    refine Ops.y (v := .int .i64 _) (Y.assign rfl) ?_
    refine Ops.nil ?_
    exact ⟨k + 1, ⟨⟨rfl, rfl, trivial⟩, I, hk', fun j hj hj' => by
      rcases Nat.lt_succ_iff_lt_or_eq.1 hj with h' | rfl
      · exact hn j h' hj'
      · exact Decidable.not_not.1 h17⟩, by omega⟩
  have hr0 : rulesErr p.preds.xs p.rules.xs = 0 := rulesErr_zero.2 fun r hr => by
    obtain ⟨j, hj, rfl⟩ := List.getElem_of_mem hr
    exact hn j (by omega) hj
  have e5 : checkProg p = @ite Int (∃ M, Sol (usesL p.rules.xs) p.preds.xs.length M) (Classical.propDecidable _) 0 8 := by rw [e4, if_neg (by rw [hr0]; decide)]
  refine WP.exit ?_
  refine WP.seq ?_
  refine WP.seq ?_
  refine WP.region ?_
  refine Ops.y (v := .agg #[_, _]) (Y.loadv ty_25 rfl (I.rdbox 0 rfl 0 2) rfl rfl) ?_
  refine Ops.go (O.call I Tryz.call41 (strata_ok _ I.base_ok p hp (inR_of hr0) (by omega) (by omega) (fun r hr => (checkRule_ok (rulesErr_zero.1 hr0 r hr)).2.1)) rfl ?_)
  rintro v112 h3 w I le3 hL
  rcases hL with ⟨s, hS, hI, rfl⟩ | ⟨hno, rfl⟩
  · refine Ops.y (v := .tuple #[_, _]) (Y.move rfl) ?_
    refine Ops.y (v := .slice _ _ _) (Y.extract rfl rfl) ?_
    refine Ops.y (v := .bool _) (Y.extract rfl rfl) ?_
    refine Ops.y (v := .slice _ _ _) (Y.assign rfl) ?_
    refine Ops.y (v := .bool _) (Y.assign rfl) ?_
    refine Ops.nil ?_
    refine WP.seq ?_
    refine WP.region ?_
    refine Ops.y (v := .bool _) (Y.move rfl) ?_
    refine Ops.y (v := .bool _) (Y.not rfl) ?_
    refine Ops.nil ?_
    refine WP.cond_f rfl ?_
    refine WP.skip ?_
    refine WP.seq ?_
    refine WP.region ?_
    refine Ops.y (v := .int .i64 _) (Y.assign rfl) ?_
    refine Ops.nil ?_
    refine WP.ret ?_
    repeat (first | refine thenE_ret ?_ | refine blockE_ret ?_)
    exact retQ.mk (vs := [.int .i64 _]) rfl ⟨rfl, trivial⟩ I.ext_of (by simp only [tup, e5]; rw [if_pos ⟨_, hS.sol⟩])
  · refine Ops.y (v := .tuple #[_, _]) (Y.move rfl) ?_
    refine Ops.y (v := .slice _ _ _) (Y.extract rfl rfl) ?_
    refine Ops.y (v := .bool _) (Y.extract rfl rfl) ?_
    refine Ops.y (v := .slice _ _ _) (Y.assign rfl) ?_
    refine Ops.y (v := .bool _) (Y.assign rfl) ?_
    refine Ops.nil ?_
    refine WP.seq ?_
    refine WP.region ?_
    refine Ops.y (v := .bool _) (Y.move rfl) ?_
    refine Ops.y (v := .bool _) (Y.not rfl) ?_
    refine Ops.nil ?_
    refine WP.cond_t rfl ?_
    refine WP.seq ?_
    refine WP.region ?_
    refine Ops.y (v := .int .i64 _) (Y.assign rfl) ?_
    refine Ops.nil ?_
    refine WP.ret ?_
    repeat (first | refine thenE_ret ?_ | refine blockE_ret ?_)
    exact retQ.mk (vs := [.int .i64 _]) rfl ⟨rfl, trivial⟩ I.ext_of (by simp only [tup, e5]; rw [if_neg (fun ⟨M, hM⟩ => hno M hM)])
end Go.TF
end
section
/- What the document says of a step and of all steps of a rule. -/
namespace Go.TF
open Go Go.RowKit Go.Proofs
set_option maxRecDepth 20000

theorem findF_get {f : List Fct} {y : Fct} : (findF f y).1 = (lkF f (placeF y)).getD 0 := rfl
set_option maxHeartbeats 4000000 in
theorem rholds_ok (B : Base) (hB : B.ok) (p : Prg) (hp : p.In B.h) (f : Sl Fct) (hf : Fcts f B.h) (n : Int) (r : Rul) (h0 : 0 ≤ n) (hr : p.rules.xs[n.toNat]? = some r) (ok : ROk p.preds.xs r) (okf : FOk p.preds.xs f.xs) (x : Vrs) (hx : VsOk x) :
    Fn Tryz.prog 34 [p.val, f.val, .int .i64 n, x.val] B (fun v _ => v = tHold (holdsF p.preds.xs f.xs r x)) := by
  have Er := hp.rules.is.el.el hr
  have ir := hp.rules.each _ (List.mem_of_getElem? hr)
  have ah := aok_of ok.preds ok.head
  have hlen := ok.len
  have hkp : r.head.pred.toNat < p.preds.xs.length := by have := ah.pred; omega
  have Eh := hp.preds.at hkp
  have hpo : p.preds.xs[r.head.pred.toNat] = predOf p.preds.xs r.head.pred := (predOf_getE ah.pred.1 ah.pred.2).symm
  refine Fn.of Tryz.func34 rfl Tryz.ntmps34 (by kernel_rfl) (by simp) ?_
  intro e
  have I := Inv.start hB
  refine WP.seq ?_
  refine WP.region ?_
  refine Ops.go (O.box (v := .agg #[_, _]) I rfl rfl ?_)
  intro b4 w I
  refine Ops.go (O.box (v := .agg #[_, _, _]) I rfl rfl ?_)
  intro b7 w I
  refine Ops.y (v := .bool _) (Y.assign rfl) ?_
  refine Ops.go (O.alloc I Tryz.zeroValue28 rfl ?_)
  intro b9 w I
  refine Ops.nil ?_
  refine WP.seq ?_
  refine WP.region ?_
  refine Ops.y (v := .pointer (some ⟨_, _, none⟩)) (Y.fa fa_25_1 rfl) ?_
  refine Ops.y (v := .slice _ _ _) (Y.loadv ty_23 rfl (I.rdbox 2 rfl 1 1) rfl rfl) ?_
  refine Ops.y (v := .int .i64 _) (Y.move rfl) ?_
  refine Ops.y (v := .pointer (some ⟨_, _, none⟩)) (Y.idxEl Er Tryz.underlying23 Tryz.sizeOf46 rfl rfl h0 rfl) ?_
  refine Ops.y (v := .agg #[_, _, _, _, _]) (Y.loadv ty_46 rfl (I.rd (Er.rd.part 0 5)) rfl rfl) ?_
  refine Ops.go (O.alloc I Tryz.zeroValue46 rfl ?_)
  intro b10 w I
  refine Ops.go (O.store (v := .agg #[_, _, _, _, _]) I ty_46 0 rfl rfl rfl rfl rfl rfl (Nat.le_of_ble_eq_true rfl) rfl ?_)
  intro w I
  refine Ops.nil ?_
  refine WP.seq ?_
  refine WP.region ?_
  refine Ops.y (v := .pointer (some ⟨_, _, none⟩)) (Y.fa0 fa_46_0 rfl) ?_
  refine Ops.y (v := .agg #[_, _]) (Y.loadv ty_43 rfl (I.rdbox 0 rfl 0 2) rfl rfl) ?_
  refine Ops.y (v := .agg #[_, _, _]) (Y.loadv ty_78 rfl (I.rdbox 2 rfl 0 3) rfl rfl) ?_
  refine Ops.go (O.callv I Tryz.call68 (ground_ok _ I.base_ok r.head ir.head x ah.len ah.err) rfl ?_)
  intro w I
  refine Ops.go (O.alloc I Tryz.zeroValue28 rfl ?_)
  intro b11 w I
  refine Ops.go (O.store (v := .agg #[_, _, _, _]) I ty_28 0 rfl rfl rfl rfl rfl rfl (Nat.le_of_ble_eq_true rfl) rfl ?_)
  intro w I
  refine Ops.nil ?_
  refine WP.seq ?_
  refine WP.region ?_
  refine Ops.y (v := .pointer (some ⟨_, _, none⟩)) (Y.fa fa_46_2 rfl) ?_
  refine Ops.y (v := .int .i64 _) (Y.loadv ty_3 rfl (I.rdbox 1 rfl 3 1) rfl rfl) ?_
  refine Ops.y (v := .pointer (some ⟨_, _, none⟩)) (Y.fa fa_28_3 rfl) ?_
  refine Ops.go (O.store (v := .int .i64 _) I ty_3 0 rfl rfl rfl rfl rfl rfl (Nat.le_of_ble_eq_true rfl) rfl ?_)
  intro w I
  refine Ops.nil ?_
  refine WP.seq ?_
  refine WP.seq ?_
  refine WP.region ?_
  refine Ops.y (v := .int .i64 _) (Y.assign rfl) ?_
  refine Ops.nil ?_
  refine WP.block ?_
  refine WP.loopE (σ := Nat) (fun k => [(1, f.val), (4, .pointer (some ⟨b4, 0, none⟩)), (7, .pointer (some ⟨b7, 0, none⟩)), (9, .pointer (some ⟨b9, 0, none⟩)), (10, .pointer (some ⟨b10, 0, none⟩)), (11, .pointer (some ⟨b11, 0, none⟩)), (12, .int .i64 k)])
    (fun k w => (∃ h1, B.h.le h1 ∧ Inv B h1 [box b11 [.int .i64 r.head.pred, .int .i64 (argv r.head x 0), .int .i64 (argv r.head x 1), .int .i64 (hvAt p.preds.xs f.xs r x k)] 28, box b10 r.enc 46, box b9 [.int .i64 0, .int .i64 0, .int .i64 0, .int .i64 0] 28, box b7 x.enc 78, box b4 p.enc 25] w) ∧ k ≤ r.body.xs.length ∧ ∀ j, j < k → ∀ hj : j < r.body.xs.length, litOk f.xs x r.body.xs[j] = true) (fun k => r.body.xs.length - k)
    ⟨0, ⟨rfl, rfl, rfl, rfl, rfl, rfl, rfl, trivial⟩, ?_, Nat.zero_le _, fun j hj => by omega⟩ ?_
  · have : hvAt p.preds.xs f.xs r x 0 = r.n := by unfold hvAt; rw [if_neg (by omega)]
    rw [this]; exact ⟨_, Heap.le.refl _, I⟩
  rintro k e w ⟨⟨h1, gl, I⟩, hk, hn⟩
  have ir := ir.le gl
  have hf := hf.le gl
  have Eh := Eh.le gl
  refine WP.seq ?_
  refine WP.seq ?_
  refine WP.region ?_
  refine Ops.y (v := .int .i64 _) (Y.move rfl) ?_
  refine Ops.y (v := .pointer (some ⟨_, _, none⟩)) (Y.fa fa_46_3 rfl) ?_
  refine Ops.y (v := .slice _ _ _) (Y.loadv ty_44 rfl (I.rdbox 1 rfl 4 1) rfl rfl) ?_
  refine Ops.y (v := .int .i64 _) (Y.lens Tryz.underlying44 rfl) ?_
  refine Ops.y (v := .bool (decide _)) (Y.lti rfl rfl) ?_
  refine Ops.nil ?_
  refine WP.cond_dec rfl (fun h => ?_) (fun h => ?_)
  · have hk' : k < r.body.xs.length := by omega
    have E1 := ir.body.is.at hk'
    have ab := aok_of ok.preds (ok.body _ (List.getElem_mem hk'))
    have pb := ab.pf ok.five hx 0
    refine WP.skip ?_
    refine WP.seq ?_
    refine WP.block ?_
    refine WP.seq ?_
    refine WP.regionQ mixed I (by kernel_rfl) ?_
    refine OpsQ.y (v := .slice _ _ _) (fun w I => Y.move rfl) ?_
    refine OpsQ.y (v := .pointer (some ⟨_, _, none⟩)) (fun w I => Y.fa fa_46_3 rfl) ?_
    refine OpsQ.y (v := .slice _ _ _) (fun w I => Y.loadv ty_44 rfl (I.rdbox 1 rfl 4 1) rfl rfl) ?_
    refine OpsQ.y (v := .int .i64 _) (fun w I => Y.move rfl) ?_
    refine OpsQ.y (v := .pointer (some ⟨_, _, none⟩)) (fun w I => Y.idxEl E1 Tryz.underlying44 Tryz.sizeOf61 rfl rfl (Int.natCast_nonneg _) rfl) ?_
    refine OpsQ.y (v := .pointer (some ⟨_, _, none⟩)) (fun w I => Y.fa fa_61_1 rfl) ?_
    refine OpsQ.y (v := .agg #[_, _]) (fun w I => Y.loadv ty_43 rfl (I.rd (E1.rd.part 1 2)) rfl rfl) ?_
    refine OpsQ.y (v := .agg #[_, _, _]) (fun w I => Y.loadv ty_78 rfl (I.rdbox 3 rfl 0 3) rfl rfl) ?_
    refine OpsQ.c (fun w I => QC.callv I Tryz.call68 (ground_ok _ I.base_ok r.body.xs[k].atom (ir.body.each _ (List.getElem_mem hk')) x ab.len ab.err) rfl) ?_
    refine OpsQ.c (fun w I => QC.callv I Tryz.call69 (rfind_ok _ I.base_ok f hf okf.pf _ pb) rfl) ?_
    refine OpsQ.y (v := .tuple #[_, _]) (fun w I => Y.move rfl) ?_
    refine OpsQ.y (v := .int .i64 _) (fun w I => Y.extract rfl rfl) ?_
    refine OpsQ.y (v := .bool _) (fun w I => Y.extract rfl rfl) ?_
    refine OpsQ.y (v := .int .i64 _) (fun w I => Y.assign rfl) ?_
    refine OpsQ.y (v := .bool _) (fun w I => Y.assign rfl) ?_
    refine OpsQ.nil ?_
    intro w I
    refine WP.seq ?_
    refine WP.seq ?_
    refine WP.region ?_
    refine Ops.y (v := .bool _) (Y.move rfl) ?_
    refine Ops.y (v := .pointer (some ⟨_, _, none⟩)) (Y.fa fa_46_3 rfl) ?_
    refine Ops.y (v := .slice _ _ _) (Y.loadv ty_44 rfl (I.rdbox 1 rfl 4 1) rfl rfl) ?_
    refine Ops.y (v := .int .i64 _) (Y.move rfl) ?_
    refine Ops.y (v := .pointer (some ⟨_, _, none⟩)) (Y.idxEl E1 Tryz.underlying44 Tryz.sizeOf61 rfl rfl (Int.natCast_nonneg _) rfl) ?_
    refine Ops.y (v := .pointer (some ⟨_, _, none⟩)) (Y.fa0 fa_61_0 rfl) ?_
    refine Ops.y (v := .bool _) (Y.loadv ty_4 rfl (I.rd (E1.rd.part 0 1)) rfl rfl) ?_
    refine Ops.y (v := .bool (decide _)) (Y.eqb Tryz.underlying4 rfl rfl) ?_
    refine Ops.nil ?_
    refine WP.cond_dec rfl (fun h8 => ?_) (fun h8 => ?_)
    · have h8 : isF f.xs (groundF r.body.xs[k].atom x) = r.body.xs[k].neg := h8
      have hno : holdsB f.xs r x = false := by
        unfold holdsB; rw [List.all_eq_false]; exact ⟨_, List.getElem_mem hk', by rw [litOk_iff]; exact fun hh => hh h8⟩
      refine WP.seq ?_
      refine WP.region ?_
      refine Ops.y (v := .agg #[.int .i64 _, .int .i64 _, .int .i64 _, .int .i64 _]) (Y.build pl_28 Tryz.zeroValue28 rfl rfl) ?_
      refine Ops.y (v := .bool _) (Y.assign rfl) ?_
      refine Ops.go (O.store (v := .agg #[_, _, _, _]) I ty_28 2 rfl rfl rfl rfl rfl rfl (Nat.le_of_ble_eq_true rfl) rfl ?_)
      intro w I
      refine Ops.nil ?_
      refine WP.ret ?_
      repeat (first | refine thenE_ret ?_ | refine blockE_ret ?_)
      exact retQ.mk (vs := [.bool _, .agg #[_, _, _, _]]) rfl ⟨rfl, ⟨_, _, _, _, _, rfl, ty_28, I.rdbox 2 rfl 0 4, rfl, rfl⟩, trivial⟩ I.ext_of (by simp only [tup, tHold, holdsF, hno]; rfl)
    have h8 : ¬ isF f.xs (groundF r.body.xs[k].atom x) = r.body.xs[k].neg := h8
    refine WP.skip ?_
    refine WP.seq ?_
    refine WP.region ?_
    refine Ops.y (v := .int .i64 _) (Y.move rfl) ?_
    refine Ops.y (v := .pointer (some ⟨_, _, none⟩)) (Y.fa fa_46_1 rfl) ?_
    refine Ops.y (v := .int .i64 _) (Y.loadv ty_3 rfl (I.rdbox 1 rfl 2 1) rfl rfl) ?_
    refine Ops.y (v := .bool (decide _)) (Y.eqi rfl rfl) ?_
    refine Ops.nil ?_
    refine WP.cond_dec rfl (fun h10 => ?_) (fun h10 => ?_)
    · have hs0 : 0 ≤ r.src := by omega
      obtain ⟨hng, hkq⟩ := ok.pos hs0
      have hlo : litOf r r.src = r.body.xs[k] := by rw [← h10]; exact litOf_at hk'
      have hval : hvAt p.preds.xs f.xs r x (k + 1) = liftV p.preds.xs[r.head.pred.toNat].kind (findF f.xs (groundF r.body.xs[k].atom x)).1 r.n := by
        unfold hvAt headV
        rw [if_pos ⟨hs0, by omega⟩, if_pos hs0, hlo, hpo]; rfl
      have hI : I64 ((findF f.xs (groundF r.body.xs[k].atom x)).1 + r.n) := by
        have h2 := ok.n
        have h1 : 0 ≤ (findF f.xs (groundF r.body.xs[k].atom x)).1 ∧ (findF f.xs (groundF r.body.xs[k].atom x)).1 ≤ 15 := by
          rw [findF_get]
          cases hlk : lkF f.xs (placeF (groundF r.body.xs[k].atom x)) with
          | none => exact ⟨by decide, by decide⟩
          | some v =>
            obtain ⟨y, hy, _, rfl⟩ := lkF_mem hlk
            have := vOk_iff.1 (fine_v (okf.fine _ hy))
            exact ⟨this.2.2.1, this.2.2.2.1⟩
        unfold I64; omega
      refine WP.regionF mixed I 11 (by kernel_rfl) ?_
      refine OpsF.y_ (v := .pointer (some ⟨_, _, none⟩)) (fun _ => runs_none _) (fun _ w us hl I => Y.fa0 fa_25_0 rfl) ?_
      refine OpsF.y_ (v := .slice _ _ _) (fun _ => runs_none _) (fun _ w us hl I => Y.loadv ty_22 rfl (I.rdbox 4 rfl 0 1) rfl rfl) ?_
      refine OpsF.y_ (v := .pointer (some ⟨_, _, none⟩)) (fun _ => runs_none _) (fun _ w us hl I => Y.fa0 fa_28_0 rfl) ?_
      refine OpsF.y_ (v := .int .i64 _) (fun _ => runs_none _) (fun _ w us hl I => Y.loadv ty_3 rfl (I.rdbox 0 rfl 0 1) rfl rfl) ?_
      refine OpsF.y_ (v := .pointer (some ⟨_, _, none⟩)) (fun _ => runs_none _) (fun _ w us hl I => Y.idxEl Eh Tryz.underlying22 Tryz.sizeOf40 rfl rfl ah.pred.1 rfl) ?_
      refine OpsF.y_ (v := .pointer (some ⟨_, _, none⟩)) (fun _ => runs_none _) (fun _ w us hl I => Y.fa fa_40_2 rfl) ?_
      refine OpsF.y_ (v := .int .i64 _) (fun _ => runs_none _) (fun _ w us hl I => Y.loadv ty_3 rfl (I.rd ((Eh.rd.part 2 1).le hl)) rfl rfl) ?_
      refine OpsF.y_ (v := .int .i64 _) (fun _ => runs_none _) (fun _ w us hl I => Y.move rfl) ?_
      refine OpsF.y_ (v := .pointer (some ⟨_, _, none⟩)) (fun _ => runs_none _) (fun _ w us hl I => Y.fa fa_46_2 rfl) ?_
      refine OpsF.y_ (v := .int .i64 _) (fun _ => runs_none _) (fun _ w us hl I => Y.loadv ty_3 rfl (I.rdbox 1 rfl 3 1) rfl rfl) ?_
      refine OpsF.c_ (fun _ => runs_none _) (fun _ w us hl I => O.callv I Tryz.call70 (liftR_ok _ I.base_ok _ _ _ hI) rfl (fun w' I' => ⟨rfl, I'⟩)) ?_
      refine OpsF.nil ?_
      intro _ w hl I
      try unfold AllL
      refine Ops.y (v := .pointer (some ⟨_, _, none⟩)) (Y.fa fa_28_3 rfl) ?_
      refine Ops.go (O.store (v := .int .i64 _) I ty_3 0 rfl rfl rfl rfl rfl rfl (Nat.le_of_ble_eq_true rfl) rfl ?_)
      intro w I
      refine Ops.nil ?_
      refine WP.region ?_
      refine Ops.y (v := .int .i64 _) (Y.move rfl) ?_
      refine Ops.y (v := .int .i64 _) (Y.addi rfl rfl ⟨by omega, by omega⟩) ?_
      refine Ops.y (v := .int .i64 _) (Y.assign rfl) ?_
      refine Ops.nil ?_
      exact ⟨k + 1, ⟨⟨rfl, rfl, rfl, rfl, rfl, rfl, rfl, trivial⟩, ⟨_, gl.trans hl, by rw [hval]; exact I⟩, by omega, fun j hj hj' => by
        rcases Nat.lt_succ_iff_lt_or_eq.1 hj with h' | rfl
        · exact hn j h' hj'
        · exact litOk_iff.2 h8⟩, by omega⟩
    · have hval : hvAt p.preds.xs f.xs r x (k + 1) = hvAt p.preds.xs f.xs r x k := by
        unfold hvAt
        have : (0 ≤ r.src ∧ r.src < ((k + 1 : Nat) : Int)) ↔ (0 ≤ r.src ∧ r.src < (k : Int)) := by omega
        simp only [this]
      refine WP.skip ?_
      refine WP.region ?_
      refine Ops.y (v := .int .i64 _) (Y.move rfl) ?_
      refine Ops.y (v := .int .i64 _) (Y.addi rfl rfl ⟨by omega, by omega⟩) ?_
      refine Ops.y (v := .int .i64 _) (Y.assign rfl) ?_
      refine Ops.nil ?_
      exact ⟨k + 1, ⟨⟨rfl, rfl, rfl, rfl, rfl, rfl, rfl, trivial⟩, ⟨h1, gl, by rw [hval]; exact I⟩, by omega, fun j hj hj' => by
        rcases Nat.lt_succ_iff_lt_or_eq.1 hj with h' | rfl
        · exact hn j h' hj'
        · exact litOk_iff.2 h8⟩, by omega⟩
  obtain rfl : k = r.body.xs.length := by omega
  have hyes : holdsB f.xs r x = true := by
    unfold holdsB; rw [List.all_eq_true]; intro t ht; obtain ⟨j, hj, rfl⟩ := List.getElem_of_mem ht; exact hn j hj hj
  rw [hvAt_end ok] at I
  refine WP.exit ?_
  refine WP.seq ?_
  refine WP.regionF mixed I 2 (by kernel_rfl) ?_
  refine OpsF.y_ (v := .agg #[_, _, _, _]) (fun _ => runs_none _) (fun _ w us hl I => Y.loadv ty_28 rfl (I.rdbox 0 rfl 0 4) rfl rfl) ?_
  refine OpsF.y_ (v := .bool _) (fun _ => runs_none _) (fun _ w us hl I => Y.assign rfl) ?_
  refine OpsF.nil ?_
  intro _ w hl I
  try unfold AllL
  refine Ops.go (O.store (v := .agg #[_, _, _, _]) I ty_28 2 rfl rfl rfl rfl rfl rfl (Nat.le_of_ble_eq_true rfl) rfl ?_)
  intro w I
  refine Ops.nil ?_
  refine WP.ret ?_
  repeat (first | refine thenE_ret ?_ | refine blockE_ret ?_)
  exact retQ.mk (vs := [.bool _, .agg #[_, _, _, _]]) rfl ⟨rfl, ⟨_, _, _, _, _, rfl, ty_28, I.rdbox 2 rfl 0 4, rfl, rfl⟩, trivial⟩ I.ext_of (by simp only [tup, tHold, holdsF, hyes]; rfl)
end Go.TF
end
section
/- What stands in a rule; all steps of a rule, as the document tells them. -/
namespace Go.TF
open Go Go.RowKit Go.Proofs
set_option maxRecDepth 20000

theorem any_take {α : Type} (q : α → Bool) {l : List α} {k : Nat} (hk : k < l.length) : (l.take (k + 1)).any q = ((l.take k).any q || q l[k]) := by
  rw [List.take_succ_eq_append_getElem hk, List.any_append]; simp
def stdT (r : Rul) (v : Int) (j : Nat) : Bool := standsIn r.head v || (r.body.xs.take j).any fun x => standsIn x.atom v
theorem stdT_zero (r : Rul) (v : Int) : stdT r v 0 = standsIn r.head v := by simp [stdT]
theorem stdT_end (r : Rul) (v : Int) : stdT r v r.body.xs.length = standsR r v := by unfold stdT standsR; rw [List.take_length]
theorem stdT_succ {r : Rul} {v : Int} {j : Nat} (hj : j < r.body.xs.length) : stdT r v (j + 1) = (stdT r v j || standsIn r.body.xs[j].atom v) := by
  unfold stdT; rw [any_take _ hj, Bool.or_assoc]
set_option maxHeartbeats 4000000 in
theorem stand_ok (B : Base) (hB : B.ok) (r : Rul) (hr : r.In B.h) (hlen : r.body.xs.length ≤ 3) : Fn Tryz.prog 67 [r.val] B (fun v _ => v = .agg #[.bool (standsR r 0), .bool (standsR r 1), .bool (standsR r 2)]) := by
  refine Fn.of Tryz.func67 rfl Tryz.ntmps67 (by kernel_rfl) (by simp) ?_
  intro e
  have I := Inv.start hB
  refine WP.seq ?_
  refine WP.region ?_
  refine Ops.go (O.box (v := .agg #[_, _, _, _, _]) I rfl rfl ?_)
  intro b1 w I
  refine Ops.go (O.alloc I Tryz.zeroValue107 rfl ?_)
  intro b2 w I
  refine Ops.nil ?_
  refine WP.seq ?_
  refine WP.region ?_
  refine Ops.go (O.alloc I Tryz.zeroValue107 rfl ?_)
  intro b3 w I
  refine Ops.nil ?_
  refine WP.seq ?_
  refine WP.seq ?_
  refine WP.region ?_
  refine Ops.y (v := .int .i64 _) (Y.assign rfl) ?_
  refine Ops.nil ?_
  refine WP.block ?_
  refine WP.loopE (σ := Nat) (fun k => [(1, .pointer (some ⟨b1, 0, none⟩)), (2, .pointer (some ⟨b2, 0, none⟩)), (3, .pointer (some ⟨b3, 0, none⟩)), (4, .int .i64 k)]) (fun k w => Inv B B.h [box b3 [.bool (if 0 < k then standsR r 0 else false), .bool (if 1 < k then standsR r 1 else false), .bool (if 2 < k then standsR r 2 else false)] 107, box b2 [.bool false, .bool false, .bool false] 107, box b1 r.enc 46] w ∧ k ≤ 3) (fun k => 3 - k)
    ⟨0, ⟨rfl, rfl, rfl, rfl, trivial⟩, I, by omega⟩ ?_
  rintro k e w ⟨I, hk⟩
  refine WP.seq ?_
  refine WP.seq ?_
  refine WP.region ?_
  refine Ops.y (v := .int .i64 _) (Y.move rfl) ?_
  refine Ops.y (v := .bool (decide _)) (Y.lti rfl rfl) ?_
  refine Ops.nil ?_
  refine WP.cond_dec rfl (fun h => ?_) (fun h => ?_)
  · have hk3 : k = 0 ∨ k = 1 ∨ k = 2 := by omega
    rcases hk3 with rfl | rfl | rfl
    · refine WP.skip ?_
      refine WP.seq ?_
      refine WP.block ?_
      refine WP.seq ?_
      refine WP.region ?_
      refine Ops.y (v := .int .i64 _) (Y.move rfl) ?_
      refine Ops.y (v := .pointer (some ⟨_, _, none⟩)) (Y.fa0 fa_46_0 rfl) ?_
      refine Ops.y (v := .agg #[_, _]) (Y.loadv ty_43 rfl (I.rdbox 2 rfl 0 2) rfl rfl) ?_
      refine Ops.y (v := .int .i64 _) (Y.move rfl) ?_
      refine Ops.go (O.callv I Tryz.call74 (standsR_ok _ I.base_ok r.head hr.head 0) rfl ?_)
      intro w I
      refine Ops.y (v := .pointer (some ⟨_, _, none⟩)) (Y.idxa Tryz.underlying107 Tryz.sizeOf4 rfl rfl (by omega) (by omega)) ?_
      refine Ops.go (O.store (v := .bool _) I ty_4 0 rfl rfl rfl rfl rfl rfl (Nat.le_of_ble_eq_true rfl) rfl ?_)
      intro w I
      refine Ops.nil ?_
      refine WP.seq ?_
      refine WP.region ?_
      refine Ops.y (v := .int .i64 _) (Y.assign rfl) ?_
      refine Ops.nil ?_
      refine WP.block ?_
      refine WP.loopE (σ := Nat) (fun j => [(1, .pointer (some ⟨b1, 0, none⟩)), (2, .pointer (some ⟨b2, 0, none⟩)), (3, .pointer (some ⟨b3, 0, none⟩)), (4, .int .i64 0), (5, .int .i64 j)]) (fun j w => Inv B B.h [box b3 [.bool (stdT r 0 j), .bool false, .bool false] 107, box b2 [.bool false, .bool false, .bool false] 107, box b1 r.enc 46] w ∧ j ≤ r.body.xs.length) (fun j => r.body.xs.length - j)
        ⟨0, ⟨rfl, rfl, rfl, rfl, rfl, trivial⟩, by simp only [stdT_zero]; exact I, by omega⟩ ?_
      rintro j e w ⟨I, hj⟩
      refine WP.seq ?_
      refine WP.seq ?_
      refine WP.region ?_
      refine Ops.y (v := .int .i64 _) (Y.move rfl) ?_
      refine Ops.y (v := .pointer (some ⟨_, _, none⟩)) (Y.fa fa_46_3 rfl) ?_
      refine Ops.y (v := .slice _ _ _) (Y.loadv ty_44 rfl (I.rdbox 2 rfl 4 1) rfl rfl) ?_
      refine Ops.y (v := .int .i64 _) (Y.lens Tryz.underlying44 rfl) ?_
      refine Ops.y (v := .bool (decide _)) (Y.lti rfl rfl) ?_
      refine Ops.nil ?_
      refine WP.cond_dec rfl (fun h7 => ?_) (fun h7 => ?_)
      · have hj' : j < r.body.xs.length := by omega
        have E := hr.body.is.at hj'
        cases hs : stdT r 0 j
        · refine WP.skip ?_
          refine WP.seq ?_
          refine WP.block ?_
          refine WP.region ?_
          refine Ops.y (v := .int .i64 _) (Y.move rfl) ?_
          refine Ops.y (v := .int .i64 _) (Y.move rfl) ?_
          refine Ops.y (v := .pointer (some ⟨_, _, none⟩)) (Y.idxa Tryz.underlying107 Tryz.sizeOf4 rfl rfl (by omega) (by omega)) ?_
          refine Ops.y (v := .bool false) (Y.b (Y.loadv ty_4 rfl (I.rdbox 0 rfl 0 1) rfl rfl) (hs)) ?_
          refine Ops.y (v := .bool _) (Y.move rfl) ?_
          refine Ops.ygt rfl (v := .pointer (some ⟨_, _, none⟩)) (Y.fa fa_46_3 rfl) ?_
          refine Ops.ygt rfl (v := .slice _ _ _) (Y.loadv ty_44 rfl (I.rdbox 2 rfl 4 1) rfl rfl) ?_
          refine Ops.ygt rfl (v := .int .i64 _) (Y.move rfl) ?_
          refine Ops.ygt rfl (v := .pointer (some ⟨_, _, none⟩)) (Y.idxEl E Tryz.underlying44 Tryz.sizeOf61 rfl rfl (Int.natCast_nonneg _) rfl) ?_
          refine Ops.ygt rfl (v := .pointer (some ⟨_, _, none⟩)) (Y.fa fa_61_1 rfl) ?_
          refine Ops.ygt rfl (v := .agg #[_, _]) (Y.loadv ty_43 rfl (I.rd (E.rd.part 1 2)) rfl rfl) ?_
          refine Ops.ygt rfl (v := .int .i64 _) (Y.move rfl) ?_
          refine Ops.gt rfl (O.callv I Tryz.call74 (standsR_ok _ I.base_ok r.body.xs[j].atom (hr.body.each _ (List.getElem_mem hj')) 0) rfl ?_)
          intro w I
          refine Ops.y (v := .bool _) (Y.pick_f rfl rfl) ?_
          refine Ops.y (v := .pointer (some ⟨_, _, none⟩)) (Y.idxa Tryz.underlying107 Tryz.sizeOf4 rfl rfl (by omega) (by omega)) ?_
          refine Ops.go (O.store (v := .bool _) I ty_4 0 rfl rfl rfl rfl rfl rfl (Nat.le_of_ble_eq_true rfl) rfl ?_)
          intro w I
          refine Ops.nil ?_
          refine WP.region ?_
          refine Ops.y (v := .int .i64 _) (Y.move rfl) ?_
          refine Ops.y (v := .int .i64 _) (Y.addi rfl rfl ⟨by omega, by omega⟩) ?_
          refine Ops.y (v := .int .i64 _) (Y.assign rfl) ?_
          refine Ops.nil ?_
          exact ⟨j + 1, ⟨⟨rfl, rfl, rfl, rfl, rfl, trivial⟩, by rw [stdT_succ hj', hs, Bool.false_or]; exact I, by omega⟩, by omega⟩
        · refine WP.skip ?_
          refine WP.seq ?_
          refine WP.block ?_
          refine WP.region ?_
          refine Ops.y (v := .int .i64 _) (Y.move rfl) ?_
          refine Ops.y (v := .int .i64 _) (Y.move rfl) ?_
          refine Ops.y (v := .pointer (some ⟨_, _, none⟩)) (Y.idxa Tryz.underlying107 Tryz.sizeOf4 rfl rfl (by omega) (by omega)) ?_
          refine Ops.y (v := .bool true) (Y.b (Y.loadv ty_4 rfl (I.rdbox 0 rfl 0 1) rfl rfl) (hs)) ?_
          refine Ops.y (v := .bool _) (Y.move rfl) ?_
          refine Ops.gf rfl ?_
          refine Ops.gf rfl ?_
          refine Ops.gf rfl ?_
          refine Ops.gf rfl ?_
          refine Ops.gf rfl ?_
          refine Ops.gf rfl ?_
          refine Ops.gf rfl ?_
          refine Ops.gf rfl ?_
          refine Ops.y (v := .bool _) (Y.pick_t rfl rfl) ?_
          refine Ops.y (v := .pointer (some ⟨_, _, none⟩)) (Y.idxa Tryz.underlying107 Tryz.sizeOf4 rfl rfl (by omega) (by omega)) ?_
          refine Ops.go (O.store (v := .bool _) I ty_4 0 rfl rfl rfl rfl rfl rfl (Nat.le_of_ble_eq_true rfl) rfl ?_)
          intro w I
          refine Ops.nil ?_
          refine WP.region ?_
          refine Ops.y (v := .int .i64 _) (Y.move rfl) ?_
          refine Ops.y (v := .int .i64 _) (Y.addi rfl rfl ⟨by omega, by omega⟩) ?_
          refine Ops.y (v := .int .i64 _) (Y.assign rfl) ?_
          refine Ops.nil ?_
          exact ⟨j + 1, ⟨⟨rfl, rfl, rfl, rfl, rfl, trivial⟩, by rw [stdT_succ hj', hs, Bool.true_or]; exact I, by omega⟩, by omega⟩
      obtain rfl : j = r.body.xs.length := by omega
      rw [stdT_end] at I
      refine WP.exit ?_
      refine WP.region ?_
      refine Ops.y (v := .int .i64 _) (Y.move rfl) ?_
      refine Ops.y (v := .int .i64 _) (Y.addi rfl rfl ⟨by omega, by omega⟩) ?_
      refine Ops.y (v := .int .i64 _) (Y.assign rfl) ?_
      refine Ops.nil ?_
      exact ⟨0 + 1, ⟨⟨rfl, rfl, rfl, rfl, trivial⟩, I, by omega⟩, by omega⟩
    · refine WP.skip ?_
      refine WP.seq ?_
      refine WP.block ?_
      refine WP.seq ?_
      refine WP.region ?_
      refine Ops.y (v := .int .i64 _) (Y.move rfl) ?_
      refine Ops.y (v := .pointer (some ⟨_, _, none⟩)) (Y.fa0 fa_46_0 rfl) ?_
      refine Ops.y (v := .agg #[_, _]) (Y.loadv ty_43 rfl (I.rdbox 2 rfl 0 2) rfl rfl) ?_
      refine Ops.y (v := .int .i64 _) (Y.move rfl) ?_
      refine Ops.go (O.callv I Tryz.call74 (standsR_ok _ I.base_ok r.head hr.head 1) rfl ?_)
      intro w I
      refine Ops.y (v := .pointer (some ⟨_, _, none⟩)) (Y.idxa Tryz.underlying107 Tryz.sizeOf4 rfl rfl (by omega) (by omega)) ?_
      refine Ops.go (O.store (v := .bool _) I ty_4 0 rfl rfl rfl rfl rfl rfl (Nat.le_of_ble_eq_true rfl) rfl ?_)
      intro w I
      refine Ops.nil ?_
      refine WP.seq ?_
      refine WP.region ?_
      refine Ops.y (v := .int .i64 _) (Y.assign rfl) ?_
      refine Ops.nil ?_
      refine WP.block ?_
      refine WP.loopE (σ := Nat) (fun j => [(1, .pointer (some ⟨b1, 0, none⟩)), (2, .pointer (some ⟨b2, 0, none⟩)), (3, .pointer (some ⟨b3, 0, none⟩)), (4, .int .i64 1), (5, .int .i64 j)]) (fun j w => Inv B B.h [box b3 [.bool (standsR r 0), .bool (stdT r 1 j), .bool false] 107, box b2 [.bool false, .bool false, .bool false] 107, box b1 r.enc 46] w ∧ j ≤ r.body.xs.length) (fun j => r.body.xs.length - j)
        ⟨0, ⟨rfl, rfl, rfl, rfl, rfl, trivial⟩, by simp only [stdT_zero]; exact I, by omega⟩ ?_
      rintro j e w ⟨I, hj⟩
      refine WP.seq ?_
      refine WP.seq ?_
      refine WP.region ?_
      refine Ops.y (v := .int .i64 _) (Y.move rfl) ?_
      refine Ops.y (v := .pointer (some ⟨_, _, none⟩)) (Y.fa fa_46_3 rfl) ?_
      refine Ops.y (v := .slice _ _ _) (Y.loadv ty_44 rfl (I.rdbox 2 rfl 4 1) rfl rfl) ?_
      refine Ops.y (v := .int .i64 _) (Y.lens Tryz.underlying44 rfl) ?_
      refine Ops.y (v := .bool (decide _)) (Y.lti rfl rfl) ?_
      refine Ops.nil ?_
      refine WP.cond_dec rfl (fun h7 => ?_) (fun h7 => ?_)
      · have hj' : j < r.body.xs.length := by omega
        have E := hr.body.is.at hj'
        cases hs : stdT r 1 j
        · refine WP.skip ?_
          refine WP.seq ?_
          refine WP.block ?_
          refine WP.region ?_
          refine Ops.y (v := .int .i64 _) (Y.move rfl) ?_
          refine Ops.y (v := .int .i64 _) (Y.move rfl) ?_
          refine Ops.y (v := .pointer (some ⟨_, _, none⟩)) (Y.idxa Tryz.underlying107 Tryz.sizeOf4 rfl rfl (by omega) (by omega)) ?_
          refine Ops.y (v := .bool false) (Y.b (Y.loadv ty_4 rfl (I.rdbox 0 rfl 1 1) rfl rfl) (hs)) ?_
          refine Ops.y (v := .bool _) (Y.move rfl) ?_
          refine Ops.ygt rfl (v := .pointer (some ⟨_, _, none⟩)) (Y.fa fa_46_3 rfl) ?_
          refine Ops.ygt rfl (v := .slice _ _ _) (Y.loadv ty_44 rfl (I.rdbox 2 rfl 4 1) rfl rfl) ?_
          refine Ops.ygt rfl (v := .int .i64 _) (Y.move rfl) ?_
          refine Ops.ygt rfl (v := .pointer (some ⟨_, _, none⟩)) (Y.idxEl E Tryz.underlying44 Tryz.sizeOf61 rfl rfl (Int.natCast_nonneg _) rfl) ?_
          refine Ops.ygt rfl (v := .pointer (some ⟨_, _, none⟩)) (Y.fa fa_61_1 rfl) ?_
          refine Ops.ygt rfl (v := .agg #[_, _]) (Y.loadv ty_43 rfl (I.rd (E.rd.part 1 2)) rfl rfl) ?_
          refine Ops.ygt rfl (v := .int .i64 _) (Y.move rfl) ?_
          refine Ops.gt rfl (O.callv I Tryz.call74 (standsR_ok _ I.base_ok r.body.xs[j].atom (hr.body.each _ (List.getElem_mem hj')) 1) rfl ?_)
          intro w I
          refine Ops.y (v := .bool _) (Y.pick_f rfl rfl) ?_
          refine Ops.y (v := .pointer (some ⟨_, _, none⟩)) (Y.idxa Tryz.underlying107 Tryz.sizeOf4 rfl rfl (by omega) (by omega)) ?_
          refine Ops.go (O.store (v := .bool _) I ty_4 0 rfl rfl rfl rfl rfl rfl (Nat.le_of_ble_eq_true rfl) rfl ?_)
          intro w I
          refine Ops.nil ?_
          refine WP.region ?_
          refine Ops.y (v := .int .i64 _) (Y.move rfl) ?_
          refine Ops.y (v := .int .i64 _) (Y.addi rfl rfl ⟨by omega, by omega⟩) ?_
          refine Ops.y (v := .int .i64 _) (Y.assign rfl) ?_
          refine Ops.nil ?_
          exact ⟨j + 1, ⟨⟨rfl, rfl, rfl, rfl, rfl, trivial⟩, by rw [stdT_succ hj', hs, Bool.false_or]; exact I, by omega⟩, by omega⟩
        · refine WP.skip ?_
          refine WP.seq ?_
          refine WP.block ?_
          refine WP.region ?_
          refine Ops.y (v := .int .i64 _) (Y.move rfl) ?_
          refine Ops.y (v := .int .i64 _) (Y.move rfl) ?_
          refine Ops.y (v := .pointer (some ⟨_, _, none⟩)) (Y.idxa Tryz.underlying107 Tryz.sizeOf4 rfl rfl (by omega) (by omega)) ?_
          refine Ops.y (v := .bool true) (Y.b (Y.loadv ty_4 rfl (I.rdbox 0 rfl 1 1) rfl rfl) (hs)) ?_
          refine Ops.y (v := .bool _) (Y.move rfl) ?_
          refine Ops.gf rfl ?_
          refine Ops.gf rfl ?_
          refine Ops.gf rfl ?_
          refine Ops.gf rfl ?_
          refine Ops.gf rfl ?_
          refine Ops.gf rfl ?_
          refine Ops.gf rfl ?_
          refine Ops.gf rfl ?_
          refine Ops.y (v := .bool _) (Y.pick_t rfl rfl) ?_
          refine Ops.y (v := .pointer (some ⟨_, _, none⟩)) (Y.idxa Tryz.underlying107 Tryz.sizeOf4 rfl rfl (by omega) (by omega)) ?_
          refine Ops.go (O.store (v := .bool _) I ty_4 0 rfl rfl rfl rfl rfl rfl (Nat.le_of_ble_eq_true rfl) rfl ?_)
          intro w I
          refine Ops.nil ?_
          refine WP.region ?_
          refine Ops.y (v := .int .i64 _) (Y.move rfl) ?_
          refine Ops.y (v := .int .i64 _) (Y.addi rfl rfl ⟨by omega, by omega⟩) ?_
          refine Ops.y (v := .int .i64 _) (Y.assign rfl) ?_
          refine Ops.nil ?_
          exact ⟨j + 1, ⟨⟨rfl, rfl, rfl, rfl, rfl, trivial⟩, by rw [stdT_succ hj', hs, Bool.true_or]; exact I, by omega⟩, by omega⟩
      obtain rfl : j = r.body.xs.length := by omega
      rw [stdT_end] at I
      refine WP.exit ?_
      refine WP.region ?_
      refine Ops.y (v := .int .i64 _) (Y.move rfl) ?_
      refine Ops.y (v := .int .i64 _) (Y.addi rfl rfl ⟨by omega, by omega⟩) ?_
      refine Ops.y (v := .int .i64 _) (Y.assign rfl) ?_
      refine Ops.nil ?_
      exact ⟨1 + 1, ⟨⟨rfl, rfl, rfl, rfl, trivial⟩, I, by omega⟩, by omega⟩
    · refine WP.skip ?_
      refine WP.seq ?_
      refine WP.block ?_
      refine WP.seq ?_
      refine WP.region ?_
      refine Ops.y (v := .int .i64 _) (Y.move rfl) ?_
      refine Ops.y (v := .pointer (some ⟨_, _, none⟩)) (Y.fa0 fa_46_0 rfl) ?_
      refine Ops.y (v := .agg #[_, _]) (Y.loadv ty_43 rfl (I.rdbox 2 rfl 0 2) rfl rfl) ?_
      refine Ops.y (v := .int .i64 _) (Y.move rfl) ?_
      refine Ops.go (O.callv I Tryz.call74 (standsR_ok _ I.base_ok r.head hr.head 2) rfl ?_)
      intro w I
      refine Ops.y (v := .pointer (some ⟨_, _, none⟩)) (Y.idxa Tryz.underlying107 Tryz.sizeOf4 rfl rfl (by omega) (by omega)) ?_
      refine Ops.go (O.store (v := .bool _) I ty_4 0 rfl rfl rfl rfl rfl rfl (Nat.le_of_ble_eq_true rfl) rfl ?_)
      intro w I
      refine Ops.nil ?_
      refine WP.seq ?_
      refine WP.region ?_
      refine Ops.y (v := .int .i64 _) (Y.assign rfl) ?_
      refine Ops.nil ?_
      refine WP.block ?_
      refine WP.loopE (σ := Nat) (fun j => [(1, .pointer (some ⟨b1, 0, none⟩)), (2, .pointer (some ⟨b2, 0, none⟩)), (3, .pointer (some ⟨b3, 0, none⟩)), (4, .int .i64 2), (5, .int .i64 j)]) (fun j w => Inv B B.h [box b3 [.bool (standsR r 0), .bool (standsR r 1), .bool (stdT r 2 j)] 107, box b2 [.bool false, .bool false, .bool false] 107, box b1 r.enc 46] w ∧ j ≤ r.body.xs.length) (fun j => r.body.xs.length - j)
        ⟨0, ⟨rfl, rfl, rfl, rfl, rfl, trivial⟩, by simp only [stdT_zero]; exact I, by omega⟩ ?_
      rintro j e w ⟨I, hj⟩
      refine WP.seq ?_
      refine WP.seq ?_
      refine WP.region ?_
      refine Ops.y (v := .int .i64 _) (Y.move rfl) ?_
      refine Ops.y (v := .pointer (some ⟨_, _, none⟩)) (Y.fa fa_46_3 rfl) ?_
      refine Ops.y (v := .slice _ _ _) (Y.loadv ty_44 rfl (I.rdbox 2 rfl 4 1) rfl rfl) ?_
      refine Ops.y (v := .int .i64 _) (Y.lens Tryz.underlying44 rfl) ?_
      refine Ops.y (v := .bool (decide _)) (Y.lti rfl rfl) ?_
      refine Ops.nil ?_
      refine WP.cond_dec rfl (fun h7 => ?_) (fun h7 => ?_)
      · have hj' : j < r.body.xs.length := by omega
        have E := hr.body.is.at hj'
        cases hs : stdT r 2 j
        · refine WP.skip ?_
          refine WP.seq ?_
          refine WP.block ?_
          refine WP.region ?_
          refine Ops.y (v := .int .i64 _) (Y.move rfl) ?_
          refine Ops.y (v := .int .i64 _) (Y.move rfl) ?_
          refine Ops.y (v := .pointer (some ⟨_, _, none⟩)) (Y.idxa Tryz.underlying107 Tryz.sizeOf4 rfl rfl (by omega) (by omega)) ?_
          refine Ops.y (v := .bool false) (Y.b (Y.loadv ty_4 rfl (I.rdbox 0 rfl 2 1) rfl rfl) (hs)) ?_
          refine Ops.y (v := .bool _) (Y.move rfl) ?_
          refine Ops.ygt rfl (v := .pointer (some ⟨_, _, none⟩)) (Y.fa fa_46_3 rfl) ?_
          refine Ops.ygt rfl (v := .slice _ _ _) (Y.loadv ty_44 rfl (I.rdbox 2 rfl 4 1) rfl rfl) ?_
          refine Ops.ygt rfl (v := .int .i64 _) (Y.move rfl) ?_
          refine Ops.ygt rfl (v := .pointer (some ⟨_, _, none⟩)) (Y.idxEl E Tryz.underlying44 Tryz.sizeOf61 rfl rfl (Int.natCast_nonneg _) rfl) ?_
          refine Ops.ygt rfl (v := .pointer (some ⟨_, _, none⟩)) (Y.fa fa_61_1 rfl) ?_
          refine Ops.ygt rfl (v := .agg #[_, _]) (Y.loadv ty_43 rfl (I.rd (E.rd.part 1 2)) rfl rfl) ?_
          refine Ops.ygt rfl (v := .int .i64 _) (Y.move rfl) ?_
          refine Ops.gt rfl (O.callv I Tryz.call74 (standsR_ok _ I.base_ok r.body.xs[j].atom (hr.body.each _ (List.getElem_mem hj')) 2) rfl ?_)
          intro w I
          refine Ops.y (v := .bool _) (Y.pick_f rfl rfl) ?_
          refine Ops.y (v := .pointer (some ⟨_, _, none⟩)) (Y.idxa Tryz.underlying107 Tryz.sizeOf4 rfl rfl (by omega) (by omega)) ?_
          refine Ops.go (O.store (v := .bool _) I ty_4 0 rfl rfl rfl rfl rfl rfl (Nat.le_of_ble_eq_true rfl) rfl ?_)
          intro w I
          refine Ops.nil ?_
          refine WP.region ?_
          refine Ops.y (v := .int .i64 _) (Y.move rfl) ?_
          refine Ops.y (v := .int .i64 _) (Y.addi rfl rfl ⟨by omega, by omega⟩) ?_
          refine Ops.y (v := .int .i64 _) (Y.assign rfl) ?_
          refine Ops.nil ?_
          exact ⟨j + 1, ⟨⟨rfl, rfl, rfl, rfl, rfl, trivial⟩, by rw [stdT_succ hj', hs, Bool.false_or]; exact I, by omega⟩, by omega⟩
        · refine WP.skip ?_
          refine WP.seq ?_
          refine WP.block ?_
          refine WP.region ?_
          refine Ops.y (v := .int .i64 _) (Y.move rfl) ?_
          refine Ops.y (v := .int .i64 _) (Y.move rfl) ?_
          refine Ops.y (v := .pointer (some ⟨_, _, none⟩)) (Y.idxa Tryz.underlying107 Tryz.sizeOf4 rfl rfl (by omega) (by omega)) ?_
          refine Ops.y (v := .bool true) (Y.b (Y.loadv ty_4 rfl (I.rdbox 0 rfl 2 1) rfl rfl) (hs)) ?_
          refine Ops.y (v := .bool _) (Y.move rfl) ?_
          refine Ops.gf rfl ?_
          refine Ops.gf rfl ?_
          refine Ops.gf rfl ?_
          refine Ops.gf rfl ?_
          refine Ops.gf rfl ?_
          refine Ops.gf rfl ?_
          refine Ops.gf rfl ?_
          refine Ops.gf rfl ?_
          refine Ops.y (v := .bool _) (Y.pick_t rfl rfl) ?_
          refine Ops.y (v := .pointer (some ⟨_, _, none⟩)) (Y.idxa Tryz.underlying107 Tryz.sizeOf4 rfl rfl (by omega) (by omega)) ?_
          refine Ops.go (O.store (v := .bool _) I ty_4 0 rfl rfl rfl rfl rfl rfl (Nat.le_of_ble_eq_true rfl) rfl ?_)
          intro w I
          refine Ops.nil ?_
          refine WP.region ?_
          refine Ops.y (v := .int .i64 _) (Y.move rfl) ?_
          refine Ops.y (v := .int .i64 _) (Y.addi rfl rfl ⟨by omega, by omega⟩) ?_
          refine Ops.y (v := .int .i64 _) (Y.assign rfl) ?_
          refine Ops.nil ?_
          exact ⟨j + 1, ⟨⟨rfl, rfl, rfl, rfl, rfl, trivial⟩, by rw [stdT_succ hj', hs, Bool.true_or]; exact I, by omega⟩, by omega⟩
      obtain rfl : j = r.body.xs.length := by omega
      rw [stdT_end] at I
      refine WP.exit ?_
      refine WP.region ?_
      refine Ops.y (v := .int .i64 _) (Y.move rfl) ?_
      refine Ops.y (v := .int .i64 _) (Y.addi rfl rfl ⟨by omega, by omega⟩) ?_
      refine Ops.y (v := .int .i64 _) (Y.assign rfl) ?_
      refine Ops.nil ?_
      exact ⟨2 + 1, ⟨⟨rfl, rfl, rfl, rfl, trivial⟩, I, by omega⟩, by omega⟩
  obtain rfl : k = 3 := by omega
  refine WP.exit ?_
  refine WP.seq ?_
  refine WP.region ?_
  refine Ops.y (v := .agg #[_, _, _]) (Y.loadv ty_107 rfl (I.rdbox 0 rfl 0 3) rfl rfl) ?_
  refine Ops.go (O.store (v := .agg #[_, _, _]) I ty_107 1 rfl rfl rfl rfl rfl rfl (Nat.le_of_ble_eq_true rfl) rfl ?_)
  intro w I
  refine Ops.nil ?_
  refine WP.ret ?_
  repeat (first | refine thenE_ret ?_ | refine blockE_ret ?_)
  exact retQ.mk (vs := [.agg #[_, _, _]]) rfl ⟨⟨_, _, _, _, _, rfl, ty_107, I.rdbox 1 rfl 0 3, rfl, rfl⟩, trivial⟩ I.ext_of (rfl)
theorem stdTri (a : Nat) (s q : Bool) (h : (decide ((a : Int) = 0) || s) = q) : (¬ (a : Int) > 0 ∧ q = true) ∨ ((a : Int) > 0 ∧ s = true ∧ q = true) ∨ ((a : Int) > 0 ∧ s = false ∧ q = false) := by
  subst h
  by_cases h0 : (a : Int) > 0
  · rw [decide_eq_false (show ¬ (a : Int) = 0 by omega), Bool.false_or]
    cases s
    · exact .inr (.inr ⟨h0, rfl, rfl⟩)
    · exact .inr (.inl ⟨h0, rfl, rfl⟩)
  · rw [decide_eq_true (show (a : Int) = 0 by omega), Bool.true_or]
    exact .inl ⟨h0, rfl⟩
def stepV (f : List Fct) (n : Int) (r : Rul) (x : Vrs) : List Stp := if stdOk r x && holdsB f r x then [⟨n, x⟩] else []
theorem filter_map_flat {α β : Type} (q : α → Bool) (g : α → β) : ∀ l : List α, (l.filter q).map g = l.flatMap fun x => if q x then [g x] else []
  | [] => rfl
  | x :: l => by
    rw [List.filter_cons, List.flatMap_cons, ← filter_map_flat q g l]
    cases q x <;> rfl
def C5 (f : List Fct) (n : Int) (r : Rul) (a b k : Nat) : List Stp := (List.range k).flatMap fun c : Nat => stepV f n r ⟨a, b, c⟩
def B5 (f : List Fct) (n : Int) (r : Rul) (a k : Nat) : List Stp := (List.range k).flatMap fun b : Nat => C5 f n r a b 5
def A5 (f : List Fct) (n : Int) (r : Rul) (k : Nat) : List Stp := (List.range k).flatMap fun a : Nat => B5 f n r a 5
theorem steps_A5 (f : List Fct) (n : Int) (r : Rul) : stepsF f n r = A5 f n r 5 := by
  unfold stepsF A5 B5 C5 stepV
  rw [filter_map_flat]
  unfold vecs
  simp only [List.flatMap_assoc, List.flatMap_map]
theorem C5_succ (f : List Fct) (n : Int) (r : Rul) (a b k : Nat) : C5 f n r a b (k + 1) = C5 f n r a b k ++ stepV f n r ⟨a, b, k⟩ := by unfold C5; rw [List.range_succ, List.flatMap_append]; simp
theorem B5_succ (f : List Fct) (n : Int) (r : Rul) (a k : Nat) : B5 f n r a (k + 1) = B5 f n r a k ++ C5 f n r a k 5 := by unfold B5; rw [List.range_succ, List.flatMap_append]; simp
theorem A5_succ (f : List Fct) (n : Int) (r : Rul) (k : Nat) : A5 f n r (k + 1) = A5 f n r k ++ B5 f n r k 5 := by unfold A5; rw [List.range_succ, List.flatMap_append]; simp
theorem stepV_le (f : List Fct) (n : Int) (r : Rul) (x : Vrs) : (stepV f n r x).length ≤ 1 := by unfold stepV; split <;> simp
theorem C5_le (f : List Fct) (n : Int) (r : Rul) (a b : Nat) : ∀ k, (C5 f n r a b k).length ≤ k
  | 0 => by simp [C5]
  | k + 1 => by rw [C5_succ, List.length_append]; have := C5_le f n r a b k; have := stepV_le f n r ⟨a, b, k⟩; omega
theorem B5_le (f : List Fct) (n : Int) (r : Rul) (a : Nat) : ∀ k, (B5 f n r a k).length ≤ 5 * k
  | 0 => by simp [B5]
  | k + 1 => by rw [B5_succ, List.length_append]; have := B5_le f n r a k; have := C5_le f n r a k 5; omega
theorem A5_le (f : List Fct) (n : Int) (r : Rul) : ∀ k, (A5 f n r k).length ≤ 25 * k
  | 0 => by simp [A5]
  | k + 1 => by rw [A5_succ, List.length_append]; have := A5_le f n r k; have := B5_le f n r k 5; omega
set_option maxHeartbeats 8000000 in
theorem AllOf_ok (B : Base) (hB : B.ok) (p : Prg) (hp : p.In B.h) (f : Sl Fct) (hf : Fcts f B.h) (n : Int) (r : Rul) (h0 : 0 ≤ n) (hr : p.rules.xs[n.toNat]? = some r) (ok : ROk p.preds.xs r) (okf : FOk p.preds.xs f.xs) :
    Fn Tryz.prog 33 [p.val, f.val, .int .i64 n] B (StpsR (stepsF f.xs n r)) := by
  have Er := hp.rules.is.el.el hr
  have ir := hp.rules.each _ (List.mem_of_getElem? hr)
  refine Fn.of Tryz.func33 rfl Tryz.ntmps33 (by kernel_rfl) (by simp) ?_
  intro e
  have I := Inv.start hB
  refine WP.seq ?_
  refine WP.region ?_
  refine Ops.go (O.box (v := .agg #[_, _]) I rfl rfl ?_)
  intro b3 w I
  refine Ops.y (v := .slice _ _ _) (Y.assign rfl) ?_
  refine Ops.nil ?_
  refine WP.seq ?_
  refine WP.region ?_
  refine Ops.y (v := .slice _ _ _) (Y.assign rfl) ?_
  refine Ops.nil ?_
  refine WP.seq ?_
  refine WP.region ?_
  refine Ops.y (v := .pointer (some ⟨_, _, none⟩)) (Y.fa fa_25_1 rfl) ?_
  refine Ops.y (v := .slice _ _ _) (Y.loadv ty_23 rfl (I.rdbox 0 rfl 1 1) rfl rfl) ?_
  refine Ops.y (v := .int .i64 _) (Y.move rfl) ?_
  refine Ops.y (v := .pointer (some ⟨_, _, none⟩)) (Y.idxEl Er Tryz.underlying23 Tryz.sizeOf46 rfl rfl h0 rfl) ?_
  refine Ops.y (v := .agg #[_, _, _, _, _]) (Y.loadv ty_46 rfl (I.rd (Er.rd.part 0 5)) rfl rfl) ?_
  refine Ops.go (O.callv I Tryz.call67 (stand_ok _ I.base_ok r ir ok.len) rfl ?_)
  intro w I
  refine Ops.go (O.alloc I Tryz.zeroValue107 rfl ?_)
  intro b8 w I
  refine Ops.go (O.store (v := .agg #[_, _, _]) I ty_107 0 rfl rfl rfl rfl rfl rfl (Nat.le_of_ble_eq_true rfl) rfl ?_)
  intro w I
  refine Ops.nil ?_
  refine WP.seq ?_
  refine WP.seq ?_
  refine WP.region ?_
  refine Ops.y (v := .int .i64 _) (Y.assign rfl) ?_
  refine Ops.nil ?_
  refine WP.block ?_
  have I := I.nilSl 80 4
  refine WP.loopE (σ := Nat × Value × Heap) (fun s => [(1, f.val), (2, .int .i64 n), (3, .pointer (some ⟨b3, 0, none⟩)), (7, s.2.1), (8, .pointer (some ⟨b8, 0, none⟩)), (9, .int .i64 s.1)])
    (fun s w => Inv B s.2.2 [ownSl 80 4 s.2.1 (A5 f.xs n r s.1).length ((A5 f.xs n r s.1).flatMap Stp.enc), box b8 [.bool (standsR r 0), .bool (standsR r 1), .bool (standsR r 2)] 107, box b3 p.enc 25] w ∧ s.1 ≤ 5 ∧ B.h.le s.2.2) (fun s => 5 - s.1)
    ⟨(0, .slice none 0 0, B.h), ⟨rfl, rfl, rfl, rfl, rfl, rfl, trivial⟩, I, by omega, Heap.le.refl _⟩ ?_
  rintro ⟨a, va, ha⟩ e w ⟨I, ka, la⟩
  dsimp only at I ka la ⊢
  refine WP.seq ?_
  refine WP.seq ?_
  refine WP.region ?_
  refine Ops.y (v := .int .i64 _) (Y.move rfl) ?_
  refine Ops.y (v := .bool (decide _)) (Y.lei rfl rfl) ?_
  refine Ops.nil ?_
  refine WP.cond_dec rfl (fun h4 => ?_) (fun h4 => ?_)
  · have ka' : a < 5 := by omega
    refine WP.skip ?_
    refine WP.seq ?_
    refine WP.block ?_
    refine WP.seq ?_
    refine WP.region ?_
    refine Ops.y (v := .int .i64 _) (Y.assign rfl) ?_
    refine Ops.nil ?_
    refine WP.block ?_
    refine WP.loopE (σ := Nat × Value × Heap) (fun s => [(1, f.val), (2, .int .i64 n), (3, .pointer (some ⟨b3, 0, none⟩)), (7, s.2.1), (8, .pointer (some ⟨b8, 0, none⟩)), (9, .int .i64 a), (10, .int .i64 s.1)])
      (fun s w => Inv B s.2.2 [ownSl 80 4 s.2.1 (A5 f.xs n r a ++ B5 f.xs n r a s.1).length ((A5 f.xs n r a ++ B5 f.xs n r a s.1).flatMap Stp.enc), box b8 [.bool (standsR r 0), .bool (standsR r 1), .bool (standsR r 2)] 107, box b3 p.enc 25] w ∧ s.1 ≤ 5 ∧ B.h.le s.2.2) (fun s => 5 - s.1)
      ⟨(0, va, ha), ⟨rfl, rfl, rfl, rfl, rfl, rfl, rfl, trivial⟩, by simpa [B5] using I, by omega, la⟩ ?_
    rintro ⟨b, vb, hb⟩ e w ⟨I, kb, lb⟩
    dsimp only at I kb lb ⊢
    refine WP.seq ?_
    refine WP.seq ?_
    refine WP.region ?_
    refine Ops.y (v := .int .i64 _) (Y.move rfl) ?_
    refine Ops.y (v := .bool (decide _)) (Y.lei rfl rfl) ?_
    refine Ops.nil ?_
    refine WP.cond_dec rfl (fun h7 => ?_) (fun h7 => ?_)
    · have kb' : b < 5 := by omega
      refine WP.skip ?_
      refine WP.seq ?_
      refine WP.block ?_
      refine WP.seq ?_
      refine WP.region ?_
      refine Ops.y (v := .int .i64 _) (Y.assign rfl) ?_
      refine Ops.nil ?_
      refine WP.block ?_
      refine WP.loopE (σ := Nat × Value × Heap) (fun s => [(1, f.val), (2, .int .i64 n), (3, .pointer (some ⟨b3, 0, none⟩)), (7, s.2.1), (8, .pointer (some ⟨b8, 0, none⟩)), (9, .int .i64 a), (10, .int .i64 b), (11, .int .i64 s.1)])
        (fun s w => Inv B s.2.2 [ownSl 80 4 s.2.1 (A5 f.xs n r a ++ B5 f.xs n r a b ++ C5 f.xs n r a b s.1).length ((A5 f.xs n r a ++ B5 f.xs n r a b ++ C5 f.xs n r a b s.1).flatMap Stp.enc), box b8 [.bool (standsR r 0), .bool (standsR r 1), .bool (standsR r 2)] 107, box b3 p.enc 25] w ∧ s.1 ≤ 5 ∧ B.h.le s.2.2) (fun s => 5 - s.1)
        ⟨(0, vb, hb), ⟨rfl, rfl, rfl, rfl, rfl, rfl, rfl, rfl, trivial⟩, by simpa [C5] using I, by omega, lb⟩ ?_
      rintro ⟨c, vc, hc⟩ e w ⟨I, kc, lc⟩
      dsimp only at I kc lc ⊢
      refine WP.seq ?_
      refine WP.seq ?_
      refine WP.region ?_
      refine Ops.y (v := .int .i64 _) (Y.move rfl) ?_
      refine Ops.y (v := .bool (decide _)) (Y.lei rfl rfl) ?_
      refine Ops.nil ?_
      refine WP.cond_dec rfl (fun h10 => ?_) (fun h10 => ?_)
      · have kc' : c < 5 := by omega
        obtain ⟨q0, hq0⟩ : ∃ q, (decide ((a : Int) = 0) || standsR r 0) = q := ⟨_, rfl⟩
        obtain ⟨q1, hq1⟩ : ∃ q, (decide ((b : Int) = 0) || standsR r 1) = q := ⟨_, rfl⟩
        obtain ⟨q2, hq2⟩ : ∃ q, (decide ((c : Int) = 0) || standsR r 2) = q := ⟨_, rfl⟩
        have hst : stdOk r ⟨a, b, c⟩ = (q0 && q1 && q2) := by unfold stdOk; rw [hq0, hq1, hq2]
        have la1 := A5_le f.xs n r a
        have lb1 := B5_le f.xs n r a b
        have lc1 := C5_le f.xs n r a b c
        have l125 : (A5 f.xs n r a ++ B5 f.xs n r a b ++ C5 f.xs n r a b c).length ≤ 1000 := by simp only [List.length_append]; omega
        have lsn : (A5 f.xs n r a ++ B5 f.xs n r a b ++ C5 f.xs n r a b c ++ [(⟨n, ⟨a, b, c⟩⟩ : Stp)]).length = (A5 f.xs n r a ++ B5 f.xs n r a b ++ C5 f.xs n r a b c).length + 1 := by rw [List.length_append]; rfl
        refine WP.skip ?_
        refine WP.seq ?_
        refine WP.block ?_
        refine WP.seq ?_
        refine WP.seq ?_
        refine WP.cutK (σ := Unit) (fun _ => [(1, f.val), (2, .int .i64 n), (3, .pointer (some ⟨b3, 0, none⟩)), (7, vc), (8, .pointer (some ⟨b8, 0, none⟩)), (9, .int .i64 a), (10, .int .i64 b), (11, .int .i64 c), (57, .bool (!(q0 && q1 && q2)))]) (fun _ w => Inv B hc [ownSl 80 4 vc (A5 f.xs n r a ++ B5 f.xs n r a b ++ C5 f.xs n r a b c).length ((A5 f.xs n r a ++ B5 f.xs n r a b ++ C5 f.xs n r a b c).flatMap Stp.enc), box b8 [.bool (standsR r 0), .bool (standsR r 1), .bool (standsR r 2)] 107, box b3 p.enc 25] w) ?_ ?_
        · rcases stdTri a (standsR r 0) q0 hq0 with ⟨ha, rfl⟩ | ⟨ha, sa, rfl⟩ | ⟨ha, sa, rfl⟩ <;> rcases stdTri b (standsR r 1) q1 hq1 with ⟨hb, rfl⟩ | ⟨hb, sb, rfl⟩ | ⟨hb, sb, rfl⟩ <;> rcases stdTri c (standsR r 2) q2 hq2 with ⟨hc, rfl⟩ | ⟨hc, sc, rfl⟩ | ⟨hc, sc, rfl⟩
          all_goals refine WP.region ?_
          all_goals refine Ops.y (v := .int .i64 _) (Y.move rfl) ?_
          all_goals first | refine Ops.y (v := .bool true) (Y.dec_t (Y.gti rfl rfl) (by assumption)) ?_ | refine Ops.y (v := .bool false) (Y.dec_f (Y.gti rfl rfl) (by assumption)) ?_
          all_goals refine Ops.y (v := .bool _) (Y.move rfl) ?_
          all_goals first | refine Ops.gf rfl ?_ | refine Ops.ygt rfl (v := .pointer (some ⟨_, _, none⟩)) (Y.idxa Tryz.underlying107 Tryz.sizeOf4 rfl rfl (by decide) (by decide)) ?_
          all_goals first | refine Ops.gf rfl ?_ | refine Ops.ygt rfl (v := .bool true) (Y.b (Y.loadv ty_4 rfl (I.rdbox 1 rfl 0 1) rfl rfl) (by assumption)) ?_ | refine Ops.ygt rfl (v := .bool false) (Y.b (Y.loadv ty_4 rfl (I.rdbox 1 rfl 0 1) rfl rfl) (by assumption)) ?_
          all_goals first | refine Ops.gf rfl ?_ | refine Ops.ygt rfl (v := .bool true) (Y.b (Y.not rfl) rfl) ?_ | refine Ops.ygt rfl (v := .bool false) (Y.b (Y.not rfl) rfl) ?_
          all_goals first | refine Ops.y (v := .bool _) (Y.pick_t rfl rfl) ?_ | refine Ops.y (v := .bool _) (Y.pick_f rfl rfl) ?_
          all_goals refine Ops.y (v := .bool _) (Y.move rfl) ?_
          all_goals first | refine Ops.gf rfl ?_ | refine Ops.ygt rfl (v := .int .i64 _) (Y.move rfl) ?_
          all_goals first | refine Ops.gf rfl ?_ | refine Ops.ygt rfl (v := .bool true) (Y.dec_t (Y.gti rfl rfl) (by assumption)) ?_ | refine Ops.ygt rfl (v := .bool false) (Y.dec_f (Y.gti rfl rfl) (by assumption)) ?_
          all_goals first | refine Ops.gf rfl ?_ | refine Ops.ygt rfl (v := .bool _) (Y.move rfl) ?_
          all_goals first | refine Ops.gf rfl ?_ | refine Ops.ygt rfl (v := .pointer (some ⟨_, _, none⟩)) (Y.idxa Tryz.underlying107 Tryz.sizeOf4 rfl rfl (by decide) (by decide)) ?_
          all_goals first | refine Ops.gf rfl ?_ | refine Ops.ygt rfl (v := .bool true) (Y.b (Y.loadv ty_4 rfl (I.rdbox 1 rfl 1 1) rfl rfl) (by assumption)) ?_ | refine Ops.ygt rfl (v := .bool false) (Y.b (Y.loadv ty_4 rfl (I.rdbox 1 rfl 1 1) rfl rfl) (by assumption)) ?_
          all_goals first | refine Ops.gf rfl ?_ | refine Ops.ygt rfl (v := .bool true) (Y.b (Y.not rfl) rfl) ?_ | refine Ops.ygt rfl (v := .bool false) (Y.b (Y.not rfl) rfl) ?_
          all_goals first | refine Ops.gf rfl ?_ | refine Ops.ygt rfl (v := .bool _) (Y.pick_t rfl rfl) ?_ | refine Ops.ygt rfl (v := .bool _) (Y.pick_f rfl rfl) ?_
          all_goals first | refine Ops.y (v := .bool _) (Y.pick_t rfl rfl) ?_ | refine Ops.y (v := .bool _) (Y.pick_f rfl rfl) ?_
          all_goals refine Ops.y (v := .bool _) (Y.move rfl) ?_
          all_goals first | refine Ops.gf rfl ?_ | refine Ops.ygt rfl (v := .int .i64 _) (Y.move rfl) ?_
          all_goals first | refine Ops.gf rfl ?_ | refine Ops.ygt rfl (v := .bool true) (Y.dec_t (Y.gti rfl rfl) (by assumption)) ?_ | refine Ops.ygt rfl (v := .bool false) (Y.dec_f (Y.gti rfl rfl) (by assumption)) ?_
          all_goals first | refine Ops.gf rfl ?_ | refine Ops.ygt rfl (v := .bool _) (Y.move rfl) ?_
          all_goals first | refine Ops.gf rfl ?_ | refine Ops.ygt rfl (v := .pointer (some ⟨_, _, none⟩)) (Y.idxa Tryz.underlying107 Tryz.sizeOf4 rfl rfl (by decide) (by decide)) ?_
          all_goals first | refine Ops.gf rfl ?_ | refine Ops.ygt rfl (v := .bool true) (Y.b (Y.loadv ty_4 rfl (I.rdbox 1 rfl 2 1) rfl rfl) (by assumption)) ?_ | refine Ops.ygt rfl (v := .bool false) (Y.b (Y.loadv ty_4 rfl (I.rdbox 1 rfl 2 1) rfl rfl) (by assumption)) ?_
          all_goals first | refine Ops.gf rfl ?_ | refine Ops.ygt rfl (v := .bool true) (Y.b (Y.not rfl) rfl) ?_ | refine Ops.ygt rfl (v := .bool false) (Y.b (Y.not rfl) rfl) ?_
          all_goals first | refine Ops.gf rfl ?_ | refine Ops.ygt rfl (v := .bool _) (Y.pick_t rfl rfl) ?_ | refine Ops.ygt rfl (v := .bool _) (Y.pick_f rfl rfl) ?_
          all_goals first | refine Ops.y (v := .bool _) (Y.pick_t rfl rfl) ?_ | refine Ops.y (v := .bool _) (Y.pick_f rfl rfl) ?_
          all_goals refine Ops.nil ?_
          all_goals exact ⟨(), ⟨rfl, rfl, rfl, rfl, rfl, rfl, rfl, rfl, rfl, trivial⟩, I⟩
        rintro _ e w I
        cases hso : (q0 && q1 && q2)
        · refine WP.cond_t rfl ?_
          have hsv : stepV f.xs n r ⟨a, b, c⟩ = [] := by unfold stepV; rw [hst, hso]; rfl
          refine WP.exit ?_
          refine WP.region ?_
          refine Ops.y (v := .int .i64 _) (Y.move rfl) ?_
          refine Ops.y (v := .int .i64 _) (Y.addi rfl rfl ⟨by omega, by omega⟩) ?_
          refine Ops.y (v := .int .i64 _) (Y.assign rfl) ?_
          refine Ops.nil ?_
          exact ⟨(c + 1, vc, hc), ⟨⟨rfl, rfl, rfl, rfl, rfl, rfl, rfl, rfl, trivial⟩, by dsimp only; rw [C5_succ, hsv, List.append_nil]; exact I, by dsimp only; omega, lc⟩, by dsimp only; omega⟩
        refine WP.cond_f rfl ?_
        have hvs : VsOk ⟨a, b, c⟩ := ⟨⟨by dsimp only; omega, by dsimp only; omega⟩, ⟨by dsimp only; omega, by dsimp only; omega⟩, ⟨by dsimp only; omega, by dsimp only; omega⟩⟩
        refine WP.skip ?_
        refine WP.seq ?_
        refine WP.region ?_
        refine Ops.y (v := .int .i64 _) (Y.move rfl) ?_
        refine Ops.y (v := .int .i64 _) (Y.move rfl) ?_
        refine Ops.y (v := .int .i64 _) (Y.move rfl) ?_
        refine Ops.y (v := .agg #[.int .i64 _, .int .i64 _, .int .i64 _]) (Y.builda Tryz.underlying78 Tryz.zeroValue78 Tryz.sizeOf3 rfl rfl) ?_
        refine Ops.go (O.alloc I Tryz.zeroValue78 rfl ?_)
        intro b12 w I
        refine Ops.go (O.store (v := .agg #[_, _, _]) I ty_78 0 rfl rfl rfl rfl rfl rfl (Nat.le_of_ble_eq_true rfl) rfl ?_)
        intro w I
        refine Ops.nil ?_
        cases hh : holdsB f.xs r ⟨a, b, c⟩
        · have hsv : stepV f.xs n r ⟨a, b, c⟩ = [] := by unfold stepV; rw [hh, Bool.and_false]; rfl
          refine WP.seq ?_
          refine WP.region ?_
          refine Ops.y (v := .agg #[_, _]) (Y.loadv ty_25 rfl (I.rdbox 3 rfl 0 2) rfl rfl) ?_
          refine Ops.y (v := .slice _ _ _) (Y.move rfl) ?_
          refine Ops.y (v := .int .i64 _) (Y.move rfl) ?_
          refine Ops.y (v := .agg #[_, _, _]) (Y.loadv ty_78 rfl (I.rdbox 0 rfl 0 3) rfl rfl) ?_
          refine Ops.go (O.callv I Tryz.call34 ((show holdsF p.preds.xs f.xs r ⟨a, b, c⟩ = (false, default) from by unfold holdsF; rw [hh]; rfl) ▸ rholds_ok _ I.base_ok p (hp.le lc) f (hf.le lc) n r h0 hr ok okf ⟨a, b, c⟩ hvs) rfl ?_)
          intro w I
          refine Ops.y (v := .tuple #[_, _]) (Y.move rfl) ?_
          refine Ops.y (v := .bool _) (Y.extract rfl rfl) ?_
          refine Ops.y (v := .agg #[_, _, _, _]) (Y.extract rfl rfl) ?_
          refine Ops.go (O.alloc I Tryz.zeroValue28 rfl ?_)
          intro b14 w I
          refine Ops.y (v := .bool _) (Y.assign rfl) ?_
          refine Ops.go (O.store (v := .agg #[_, _, _, _]) I ty_28 0 rfl rfl rfl rfl rfl rfl (Nat.le_of_ble_eq_true rfl) rfl ?_)
          intro w I
          refine Ops.nil ?_
          refine WP.seq ?_
          refine WP.region ?_
          refine Ops.y (v := .bool _) (Y.move rfl) ?_
          refine Ops.nil ?_
          refine WP.cond_f rfl ?_
          refine WP.skip ?_
          refine WP.region ?_
          refine Ops.y (v := .int .i64 _) (Y.move rfl) ?_
          refine Ops.y (v := .int .i64 _) (Y.addi rfl rfl ⟨by omega, by omega⟩) ?_
          refine Ops.y (v := .int .i64 _) (Y.assign rfl) ?_
          refine Ops.nil ?_
          exact ⟨(c + 1, vc, hc), ⟨⟨rfl, rfl, rfl, rfl, rfl, rfl, rfl, rfl, trivial⟩, by dsimp only; rw [C5_succ, hsv, List.append_nil]; exact I.drop.drop, by dsimp only; omega, lc⟩, by dsimp only; omega⟩
        · have hsv : stepV f.xs n r ⟨a, b, c⟩ = [⟨n, ⟨a, b, c⟩⟩] := by unfold stepV; rw [hst, hso, hh]; rfl
          obtain ⟨y, hy⟩ : ∃ y, holdsF p.preds.xs f.xs r ⟨a, b, c⟩ = (true, y) := ⟨_, by unfold holdsF; rw [hh]; rfl⟩
          refine WP.seq ?_
          refine WP.region ?_
          refine Ops.y (v := .agg #[_, _]) (Y.loadv ty_25 rfl (I.rdbox 3 rfl 0 2) rfl rfl) ?_
          refine Ops.y (v := .slice _ _ _) (Y.move rfl) ?_
          refine Ops.y (v := .int .i64 _) (Y.move rfl) ?_
          refine Ops.y (v := .agg #[_, _, _]) (Y.loadv ty_78 rfl (I.rdbox 0 rfl 0 3) rfl rfl) ?_
          refine Ops.go (O.callv I Tryz.call34 (hy ▸ rholds_ok _ I.base_ok p (hp.le lc) f (hf.le lc) n r h0 hr ok okf ⟨a, b, c⟩ hvs) rfl ?_)
          intro w I
          refine Ops.y (v := .tuple #[_, _]) (Y.move rfl) ?_
          refine Ops.y (v := .bool _) (Y.extract rfl rfl) ?_
          refine Ops.y (v := .agg #[_, _, _, _]) (Y.extract rfl rfl) ?_
          refine Ops.go (O.alloc I Tryz.zeroValue28 rfl ?_)
          intro b14 w I
          refine Ops.y (v := .bool _) (Y.assign rfl) ?_
          refine Ops.go (O.store (v := .agg #[_, _, _, _]) I ty_28 0 rfl rfl rfl rfl rfl rfl (Nat.le_of_ble_eq_true rfl) rfl ?_)
          intro w I
          refine Ops.nil ?_
          refine WP.seq ?_
          refine WP.region ?_
          refine Ops.y (v := .bool _) (Y.move rfl) ?_
          refine Ops.nil ?_
          refine WP.cond_t rfl ?_
          refine WP.region ?_
          refine Ops.y (v := vc) (Y.move rfl) ?_
          refine Ops.y (v := .int .i64 _) (Y.move rfl) ?_
          refine Ops.y (v := .agg #[_, _, _]) (Y.loadv ty_78 rfl (I.rdbox 1 rfl 0 3) rfl rfl) ?_
          refine Ops.y (v := .agg #[.int .i64 _, .int .i64 _, .int .i64 _, .int .i64 _]) (Y.build pl_80 Tryz.zeroValue80 rfl rfl) ?_
          refine Ops.go (O.mksl (xs := [⟨n, ⟨a, b, c⟩⟩]) (enc := Stp.enc) I Tryz.underlying74 Tryz.sizeOf80 Tryz.zeroValue80 rfl (Nat.le_of_ble_eq_true rfl) rfl rfl (by decide) (fun _ => rfl) ?_)
          intro b75 h75 w I le75 sl75
          refine Ops.go (O.append I Tryz.underlying74 et_80 2 rfl rfl rfl (I.rd (sl75 0 _ rfl).2) rfl rfl (by decide) ((by omega)) (by omega) ?_)
          intro b76 c76 w I
          refine Ops.y (v := .slice _ _ _) (Y.assign rfl) ?_
          refine Ops.nil ?_
          refine WP.region ?_
          refine Ops.y (v := .int .i64 _) (Y.move rfl) ?_
          refine Ops.y (v := .int .i64 _) (Y.addi rfl rfl ⟨by omega, by omega⟩) ?_
          refine Ops.y (v := .int .i64 _) (Y.assign rfl) ?_
          refine Ops.nil ?_
          exact ⟨(c + 1, .slice (some ⟨b76, 0, none⟩) ((A5 f.xs n r a ++ B5 f.xs n r a b ++ C5 f.xs n r a b c).length + 1) c76, h75), ⟨⟨rfl, rfl, rfl, rfl, rfl, rfl, rfl, rfl, trivial⟩, by dsimp only; rw [C5_succ, hsv, ← List.append_assoc, snocS, lsn]; exact I.drop.drop, by dsimp only; omega, lc.trans le75⟩, by dsimp only; omega⟩
      · obtain rfl : c = 5 := by omega
        refine WP.exit ?_
        refine WP.region ?_
        refine Ops.y (v := .int .i64 _) (Y.move rfl) ?_
        refine Ops.y (v := .int .i64 _) (Y.addi rfl rfl ⟨by omega, by omega⟩) ?_
        refine Ops.y (v := .int .i64 _) (Y.assign rfl) ?_
        refine Ops.nil ?_
        exact ⟨(b + 1, vc, hc), ⟨⟨rfl, rfl, rfl, rfl, rfl, rfl, rfl, trivial⟩, by dsimp only; rw [B5_succ, ← List.append_assoc]; exact I, by dsimp only; omega, lc⟩, by dsimp only; omega⟩
    · obtain rfl : b = 5 := by omega
      refine WP.exit ?_
      refine WP.region ?_
      refine Ops.y (v := .int .i64 _) (Y.move rfl) ?_
      refine Ops.y (v := .int .i64 _) (Y.addi rfl rfl ⟨by omega, by omega⟩) ?_
      refine Ops.y (v := .int .i64 _) (Y.assign rfl) ?_
      refine Ops.nil ?_
      exact ⟨(a + 1, vb, hb), ⟨⟨rfl, rfl, rfl, rfl, rfl, rfl, trivial⟩, by dsimp only; rw [A5_succ]; exact I, by dsimp only; omega, lb⟩, by dsimp only; omega⟩
  · obtain rfl : a = 5 := by omega
    rw [← steps_A5] at I
    have hsl : (stepsF f.xs n r).length ≤ 140737488355328 := by rw [steps_A5]; have := A5_le f.xs n r 5; omega
    obtain ⟨h8, s8, le8, rfl, hx8, in8, I⟩ := I.settleSl (fun _ => rfl) rfl
    refine WP.exit ?_
    refine WP.seq ?_
    refine WP.region ?_
    refine Ops.y (v := .slice _ _ _) (Y.move rfl) ?_
    refine Ops.y (v := .slice _ _ _) (Y.assign rfl) ?_
    refine Ops.nil ?_
    refine WP.ret ?_
    repeat (first | refine thenE_ret ?_ | refine blockE_ret ?_)
    exact retQ.mk (vs := [.slice _ _ _]) rfl ⟨rfl, trivial⟩ I.ext_of (⟨s8, rfl, hx8, in8, by rw [hx8]; exact hsl⟩)
end Go.TF
end
section
/- Ranging over an iterator: what is known may grow from round to round. -/
namespace Go.TF
open Go Go.RowKit

/-- What a round owes at its end. -/
def roundQH (B : Base) (hg : Heap) {σ : Type} (U : σ → List SA) (T : List SA) (Jn : σ → Heap → Prop) (Jx : Jmp → σ → Heap → Prop) : Exit → Env → World → Prop
  | .normal, _, W => ∃ h2 s X, hg.le h2 ∧ Inv B h2 (X ++ (U s ++ T)) W ∧ Jn s h2
  | .ret, _, W => ∃ h2 s X, hg.le h2 ∧ Inv B h2 (X ++ (U s ++ T)) W ∧ Jx .ret s h2
  | .exit id, _, W => ∃ h2 s X, hg.le h2 ∧ Inv B h2 (X ++ (U s ++ T)) W ∧ Jx (.exit id) s h2
  | .goto t, _, W => ∃ h2 s X, hg.le h2 ∧ Inv B h2 (X ++ (U s ++ T)) W ∧ Jx (.goto t) s h2
  | _, _, _ => False
theorem WPD.rangeFuncH {α σ : Type} {P : Program} {N : Nat} {e : Env} {w : World} {Q : Exit → Env → World → List Deferred → Prop} {B : Base} {h : Heap} {ms : List Nat} {g : Operand} {ps : Array Tmp} {assign body : Code} {gf : FuncId} {lb : List Value}
    {encs : α → List Value} {xs : List α} (U : σ → List SA) (Jc : Nat → σ → Heap → Prop) (Jx : Jmp → σ → Heap → Prop) (mono : ∀ k s h h', h.le h' → Jc k s h → Jc k s h') (s0 : σ) (I : Inv B h (U s0 ++ ms.map markSA) w) (j0 : Jc 0 s0 h)
    (hg : ev e g = .func (.func gf) #[] lb.toArray) (eg : Enters P gf) (it : Iter P gf lb encs xs h) (hps : ∀ x, (encs x).length = ps.size) (hpN : ps.toList.all (· < N) = true) (hsa : slotsOk N assign = true) (hsb : slotsOk N body = true)
    (round : ∀ (l : Nat) (r : Loop) (ms' : List Nat) (hg : Heap) (k : Nat) (x : α) (s : σ) (W : World), xs[k]? = some x → h.le hg → Inv B hg (U s ++ (loopSA l r :: ms'.map markSA)) W → Jc k s hg →
      WPI P N l assign (argE e (ps.toList.zip (encs x))) W (thenE (fun e1 W1 => ∃ h1 X, hg.le h1 ∧ Inv B h1 (X ++ (U s ++ (loopSA l r :: ms'.map markSA))) W1 ∧
        ∀ r' W2, Inv B h1 (X ++ (U s ++ (loopSA l r' :: ms'.map markSA))) W2 → WPI P N l body e1 W2 (roundQH B h1 U (loopSA l r' :: ms'.map markSA) (Jc (k + 1)) Jx)) (fun _ _ _ => False)))
    (hdone : ∀ D h2 s W, h.le h2 → Inv B h2 (U s ++ (D :: ms).map markSA) W → Jc xs.length s h2 → Q .normal e W ((D :: ms).map mark))
    (hstop : ∀ D c h2 s W, h.le h2 → Inv B h2 (U s ++ (D :: ms).map markSA) W → Jx c s h2 → Q c.ex e W ((D :: ms).map mark)) :
    WPD P N (ms.map mark) (.rangeFunc g ps assign body) e w Q := by
  intro _ a h1 h2 h3
  subst h3
  refine (wpIn_wide (n := 1)).1 (wpIn_rangeFunc ?_)
  intro fn _
  obtain ⟨rec, hrec⟩ : ∃ rec : LoopState → Option Code → Loop, rec = fun st pe => { state := st, pending := pe, fn, tmps := a.tmps, params := ps, assign, body, defers := w.heap.size } := ⟨_, rfl⟩
  obtain ⟨l, hl⟩ : ∃ l, l = w.heap.size + 1 := ⟨_, rfl⟩
  obtain ⟨W1, hW1⟩ : ∃ W1, (w.alloc (.deferred (some []))).alloc (.loop (rec .ready none)) = W1 := ⟨_, rfl⟩
  have I1 : Inv B h (U s0 ++ (loopSA l (rec .ready none) :: (w.heap.size :: ms).map markSA)) W1 := by
    have J1 : Inv B h (markSA w.heap.size :: (U s0 ++ ms.map markSA)) (w.alloc (.deferred (some []))) := I.gain (Grow.alloc w _) (World.alloc_heap_new w _) (fun b hb => by simp [markSA] at hb; subst hb; simp)
    have J2 : Inv B h (loopSA l (rec .ready none) :: (markSA w.heap.size :: (U s0 ++ ms.map markSA))) W1 := by
      rw [← hW1]
      refine J1.gain (Grow.alloc _ _) ?_ (fun b hb => ?_)
      · have := World.alloc_heap_new (w.alloc (.deferred (some []))) (.loop (rec .ready none))
        rw [World.size_alloc] at this
        rw [hl]; exact this
      · simp [loopSA] at hb; subst hb; rw [hl]; simp
    refine J2.perm ?_
    refine List.perm_middle.trans ?_
    refine List.Perm.cons _ ?_
    exact List.perm_middle
  refine ⟨l, [mark w.heap.size], W1, { target := .fn (.func gf) lb.toArray, args := #[.func (.yield l) #[] #[]] }, W1, gf, #[.func (.yield l) #[] #[]] ++ lb.toArray, W1, ?_, ?_, fun _ _ => trivial, ?_, (fun hd => by cases hd), ?_⟩
  · rw [← hW1, hrec, hl]; exact run_enterLoop_outer _ _ _ _ _
  · rw [eval_env]
    have hg' : ev (env a) g = .func (.func gf) #[] lb.toArray := hg
    simp only [resolve, hg']
    simp [go_sem]
    rfl
  · simp [invoke, go_sem]; exact eg _ _
  · refine callsIn_wide.2 ?_
    refine (it l (fun hg k W => h.le hg ∧ ∃ s, Inv B hg (U s ++ (loopSA l (rec .ready none) :: (w.heap.size :: ms).map markSA)) W ∧ Jc k s hg)
      (fun W => ∃ c hg s, h.le hg ∧ Inv B hg (U s ++ (loopSA l (rec .done (some c.code)) :: (w.heap.size :: ms).map markSA)) W ∧ Jx c s hg) h W1 (Heap.le.refl h) ⟨Heap.le.refl h, s0, I1, j0⟩
      (fun hg k W ⟨_, s, I, _⟩ => I.base_ok) (fun hg k W hg' W' ⟨g1, s, I, hj⟩ X => ⟨g1.trans X.ext, s, I.called X, mono _ _ _ _ X.ext hj⟩) ?_).mono ?_
    · rintro hg' k x W g0 hx ⟨g1, s, IW, hj⟩
      have hL := IW.getLoop
      have hy := run_yield (P := P) (args := (encs x).toArray) hL (by rw [hrec]; simpa using hps x)
      refine ⟨_, _, _, _, hy, roundIn_of_wpIn trivial ?_⟩
      rw [hrec]
      have hfold : (ps.zip (encs x).toArray).foldl (fun tmps (t, a) => tmps.setIfInBounds t a) a.tmps = (ps.toList.zip (encs x)).foldl (fun t p => t.setIfInBounds p.1 p.2) a.tmps := by
        rw [← Array.foldl_toList]; simp
      have hE := env_args (N := N) (ps.toList.zip (encs x)) a.tmps h1 (fun p hp => by
        have := (List.all_eq_true.1 hpN) p.1 (List.of_mem_zip hp).1
        simpa using this)
      have henv : env { tmps := a.tmps, defers := [] } = env a := rfl
      rw [henv] at hE
      have hR := round l (rec .ready none) (w.heap.size :: ms) hg' k x s W hx g1 IW hj hsa { tmps := (ps.toList.zip (encs x)).foldl (fun t p => t.setIfInBounds p.1 p.2) a.tmps, defers := [] } hE.2 rfl hE.1
      simp only [hfold]
      refine wpIn_mono hR ?_
      rintro x1 a1 w1 ⟨k1, k2, k3⟩
      cases x1 <;> simp only [thenE] at k3 <;> first | exact k3.elim | skip
      obtain ⟨hg1, X, gl1, IX, hb⟩ := k3
      have IX' : Inv B hg1 ((X ++ U s) ++ (loopSA l (rec .ready none) :: (w.heap.size :: ms).map markSA)) w1 := by rw [List.append_assoc]; exact IX
      refine ⟨_, run_beginRound IX'.getLoop (by rw [hrec]), ?_⟩
      have I2 := IX'.setLoop { rec .ready none with state := .busy }
      rw [List.append_assoc] at I2
      refine wpIn_mono (hb _ _ I2 hsb a1 k1 k2 rfl) ?_
      have fin : ∀ (jump : Option Code) (h2 : Heap) (s2 : σ) (X2 : List SA) (W3 : World), Inv B h2 (X2 ++ (U s2 ++ (loopSA l { rec .ready none with state := .busy } :: (w.heap.size :: ms).map markSA))) W3 →
          ∃ W4, (Instr.endRound l jump).run P W3 = .ok (.bool jump.isNone) W4 ∧ Inv B h2 (U s2 ++ (loopSA l (rec (if jump.isNone then .ready else .done) jump) :: (w.heap.size :: ms).map markSA)) W4 := fun jump h2 s2 X2 W3 I3 => by
        have I3' : Inv B h2 (U s2 ++ (loopSA l { rec .ready none with state := .busy } :: (w.heap.size :: ms).map markSA)) W3 := I3.weak (List.sublist_append_right _ _)
        have := run_endRound (P := P) jump I3'.getLoop
        refine ⟨_, this, ?_⟩
        have I4 := I3'.setLoop (rec (if jump.isNone then .ready else .done) jump)
        rw [hrec] at I4 ⊢
        exact I4
      rintro x2 a2 w2 ⟨q1, q2, q3⟩
      cases x2 <;> simp only [roundQH] at q3 <;> simp only [roundPost] <;> first | exact q3.elim | skip
      · obtain ⟨h2, s2, X2, gl2, I3, hj2⟩ := q3
        obtain ⟨W4, hr, I4⟩ := fin none h2 s2 X2 _ I3
        exact ⟨_, _, hr, .inl ⟨rfl, h2, gl1.trans gl2, (g1.trans gl1).trans gl2, s2, (by rw [hrec] at I4; exact I4), hj2⟩⟩
      · rename_i id
        obtain ⟨h2, s2, X2, gl2, I3, hj2⟩ := q3
        obtain ⟨W4, hr, I4⟩ := fin (some (.exit id)) h2 s2 X2 _ I3
        exact ⟨_, _, hr, .inr ⟨rfl, .exit id, h2, s2, (g1.trans gl1).trans gl2, (by rw [hrec] at I4; exact I4), hj2⟩⟩
      · rename_i t
        obtain ⟨h2, s2, X2, gl2, I3, hj2⟩ := q3
        obtain ⟨W4, hr, I4⟩ := fin (some (.goto t)) h2 s2 X2 _ I3
        exact ⟨_, _, hr, .inr ⟨rfl, .goto t, h2, s2, (g1.trans gl1).trans gl2, (by rw [hrec] at I4; exact I4), hj2⟩⟩
      · obtain ⟨h2, s2, X2, gl2, I3, hj2⟩ := q3
        obtain ⟨W4, hr, I4⟩ := fin (some .ret) h2 s2 X2 _ I3
        exact ⟨_, _, hr, .inr ⟨rfl, .ret, h2, s2, (g1.trans gl1).trans gl2, (by rw [hrec] at I4; exact I4), hj2⟩⟩
    · rintro ed W2 ⟨⟨v, rfl⟩, (⟨hg', gl, g1, s, I2, hj⟩ | ⟨c, hg', s, g1, I2, hj⟩)⟩
      · refine ⟨none, _, by have := run_endLoop (P := P) I2.getLoop (by rw [hrec]; simp); rw [hrec] at this; exact this, ?_⟩
        have I3 := (I2.setLoop { rec .ready none with state := .exhausted }).outLoop
        refine ⟨h1, ?_⟩
        have hq := hdone w.heap.size hg' s _ g1 (by rw [hrec] at I3; exact I3) hj
        have hq' : Q .normal (env a) (W2.putObj l (.loop { rec .ready none with state := .exhausted })) (mark w.heap.size :: a.defers) := by rw [h2]; rw [hrec]; exact hq
        rw [hrec] at hq'
        exact hq'
      · refine ⟨some c.code, _, by have := run_endLoop (P := P) I2.getLoop (by rw [hrec]; simp); rw [hrec] at this; exact this, ?_⟩
        have I3 := (I2.setLoop { rec .done (some c.code) with state := .exhausted }).outLoop
        have hq := hstop w.heap.size c hg' s _ g1 (by rw [hrec] at I3; exact I3) hj
        have hq' : Q c.ex (env a) (W2.putObj l (.loop { rec .done (some c.code) with state := .exhausted })) (mark w.heap.size :: a.defers) := by rw [h2]; rw [hrec]; exact hq
        rw [hrec] at hq'
        cases c with
        | ret => exact wpIn_ret ⟨h1, hq'⟩
        | exit id => exact wpIn_exit ⟨h1, hq'⟩
        | goto t => exact wpIn_goto ⟨h1, hq'⟩

theorem WPD.regionQ {P : Program} {N : Nat} {D : List Deferred} {e : Env} {w : World} {Q : Exit → Env → World → List Deferred → Prop} {id : Nat} {ops : Array Oper} {B : Base} {h : Heap} {M : List SA} (hm : Mixed P) (I : Inv B h M w) (hB : Region.lexB .any ops = true)
    (k : OpsQ P ops (Inv B h M) ops.toList e (fun e' => ∀ w', Inv B h M w' → Q .normal e' w' D)) : WPD P N D (.region id ops true) e w Q := WPD.of (WP.regionQ hm I hB k)
theorem O.yx {P : Program} {o : Oper} {e : Env} {w : World} {B : Base} {h : Heap} {M : List SA} {Φ : Sp} {v : Value} (I : Inv B h M w) (hy : Y P o e w v) (hv : Φ v h) : Op1 P o e w (fun u w' => ∃ h2, h.le h2 ∧ Inv B h2 M w' ∧ Φ u h2) := by
  unfold Op1; rw [hy]; exact ⟨h, Heap.le.refl _, I, hv⟩
theorem O.yd {P : Program} {o : Oper} {e : Env} {w : World} {B : Base} {h : Heap} {M : List SA} {v v' : Value} (I : Inv B h M w) (hy : Y P o e w v) (hv : v = v') : Op1 P o e w (fun u w' => u = v' ∧ Inv B h M w') := by
  unfold Op1; rw [hy]; exact ⟨hv, I⟩
end Go.TF
end
section
/- Strata, StrataOf, NeedsOf. -/
namespace Go.TF
open Go Go.RowKit Go.Proofs
set_option maxRecDepth 20000

theorem heads_in {p : Prg} (h : rulesErr p.preds.xs p.rules.xs = 0) : ∀ r ∈ p.rules.xs, 0 ≤ r.head.pred ∧ r.head.pred < p.preds.xs.length := fun r hr => checkAtom_in' (checkRule_ok (rulesErr_zero.1 h r hr)).1
theorem StrataOf_ok (B : Base) (hB : B.ok) (p : Prg) (hp : p.In B.h) (h0 : checkProg p = 0) : Fn Tryz.prog 32 [p.val] B (fun v h => ∃ s : Sl Int, Least (usesL p.rules.xs) p.preds.xs.length s.xs ∧ s.Is 1 iEnc h ∧ v = s.val) := by
  obtain ⟨k1, k2, k3, M, hM⟩ := checkProg_ok h0
  refine Fn.of Tryz.func32 rfl Tryz.ntmps32 (by kernel_rfl) (by simp) ?_
  intro e
  have I := Inv.start hB
  refine WP.seq ?_
  refine WP.region ?_
  refine Ops.go (O.box (v := .agg #[_, _]) I rfl rfl ?_)
  intro b1 w I
  refine Ops.y (v := .slice _ _ _) (Y.assign rfl) ?_
  refine Ops.nil ?_
  refine WP.seq ?_
  refine WP.region ?_
  refine Ops.y (v := .agg #[_, _]) (Y.loadv ty_25 rfl (I.rdbox 0 rfl 0 2) rfl rfl) ?_
  refine Ops.go (O.call I Tryz.call41 (strata_ok _ I.base_ok p hp (inR_of k3) k1 k2 (fun r hr => (checkRule_ok (rulesErr_zero.1 k3 r hr)).2.1)) rfl ?_)
  rintro v14 h3 w I le3 hL
  rcases hL with ⟨s, hS, hI, rfl⟩ | ⟨hno, rfl⟩
  rotate_left
  exact absurd hM (hno M)
  refine Ops.y (v := .tuple #[_, _]) (Y.move rfl) ?_
  refine Ops.y (v := .slice _ _ _) (Y.extract rfl rfl) ?_
  refine Ops.y (v := .bool _) (Y.extract rfl rfl) ?_
  refine Ops.y (v := .slice _ _ _) (Y.assign rfl) ?_
  refine Ops.y (v := .bool _) (Y.assign rfl) ?_
  refine Ops.nil ?_
  refine WP.seq ?_
  refine WP.region ?_
  refine Ops.y (v := .slice _ _ _) (Y.move rfl) ?_
  refine Ops.y (v := .slice _ _ _) (Y.assign rfl) ?_
  refine Ops.nil ?_
  refine WP.ret ?_
  repeat (first | refine thenE_ret ?_ | refine blockE_ret ?_)
  exact retQ.mk (vs := [.slice _ _ _]) rfl ⟨rfl, trivial⟩ I.ext_of (⟨s, hS, hI, rfl⟩)
end Go.TF
end
