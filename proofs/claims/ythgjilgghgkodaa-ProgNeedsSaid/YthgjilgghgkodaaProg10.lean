/- What the laws of programs begin with. -/
import Derived.Test.YthgjilgghgkodaaProg9
import Derived.Test.YthgjilgghgkodaaRoadsM
import Derived.Test.YthgjilgghgkodaaSpRoads
import Derived.Test.YthgjilgghgkodaaRuleLaw2
namespace Go.TF
open Go Go.RowKit Go.Proofs
set_option maxRecDepth 20000

def LtlS (x : Ltl) : Sp := fun u h => ∃ y : Ltl, u = y.val ∧ y.er = x ∧ y.In h
theorem LtlS.mono {x : Ltl} : MonoS (LtlS x) := fun _ _ _ hl ⟨s, a, b, c⟩ => ⟨s, a, b, c.le hl⟩
def LtlsS (xs : List Ltl) : Sp := fun u h => ∃ s : Sl Ltl, u = s.val ∧ s.xs.map Ltl.er = xs ∧ Ltls s h ∧ s.at_ = some ⟨s.blk, s.off, none⟩
theorem LtlsS.mono {xs : List Ltl} : MonoS (LtlsS xs) := fun _ _ _ hl ⟨s, a, b, c, d⟩ => ⟨s, a, b, c.le hl, d⟩
def LtlsF (xs : List Ltl) : Sp := fun u h => ∃ s : Sl Ltl, u = s.val ∧ s.xs.map Ltl.er = xs ∧ Ltls s h ∧ s.at_ = some ⟨s.blk, s.off, none⟩ ∧ s.cap = s.xs.length
theorem LtlsF.mono {xs : List Ltl} : MonoS (LtlsF xs) := fun _ _ _ hl ⟨s, a, b, c, d⟩ => ⟨s, a, b, c.le hl, d⟩
theorem RoadsAt.nm {p : Prg} {h : Heap} (x : RoadsAt p h) : p.Nm := by
  unfold Prg.Nm
  rw [x.preds]
  decide
theorem RoadsAt.check {p : Prg} {h : Heap} (x : RoadsAt p h) : checkProg p = 0 := by rw [← checkProg_er, x.er, roads_check]
theorem RoadsAt.uses {p : Prg} {h : Heap} (x : RoadsAt p h) : (usesL p.rules.xs).map cEr = usesL roadsC.rules.xs := by
  rw [← usesL_er]
  have := congrArg (fun q : Prg => q.rules.xs) x.er
  exact congrArg usesL this
theorem RoadsAt.len {p : Prg} {h : Heap} (x : RoadsAt p h) : p.preds.xs.length = 3 := by rw [x.preds]; rfl
theorem strP_roads {p : Prg} {h h' : Heap} {v : Value} (x : RoadsAt p h) (hS : StrP p v h') : ∃ s : Sl Int, s.xs = [0, 0, 1] ∧ s.Is 1 iEnc h' ∧ v = .tuple #[s.val, .int .i64 0] := by
  rcases hS with ⟨h1, _⟩ | ⟨_, s, hl, hi, rfl⟩
  · exact absurd x.check h1
  · refine ⟨s, ?_, hi, rfl⟩
    have h2 : Least (usesL p.rules.xs) p.preds.xs.length [0, 0, 1] := least_er (by rw [x.uses, x.len]; exact roads_least)
    have := StrataR.uniq (r := some s.xs) (r' := some [0, 0, 1]) hl h2
    exact Option.some.inj this
theorem neeP_roads {p : Prg} {h h' : Heap} {v : Value} (x : RoadsAt p h) (hN : NeeP p 1 v h') : ∃ s : Sl Bool, s.xs = [true, true, false] ∧ s.Is 1 bEnc h' ∧ v = .tuple #[s.val, .int .i64 0] := by
  rcases hN with ⟨h1, _⟩ | ⟨_, h1, _⟩ | ⟨_, _, s, hl, hi, rfl⟩
  · exact absurd x.check h1
  · rw [x.len] at h1; omega
  · refine ⟨s, ?_, hi, rfl⟩
    exact hl.uniq (needs_er (by rw [x.uses, x.len]; exact roads_needs))
theorem neeP_roads3 {p : Prg} {h h' : Heap} {v : Value} (x : RoadsAt p h) (hN : NeeP p 3 v h') : v = .tuple #[.slice none 0 0, .int .i64 7] := by
  rcases hN with ⟨h1, _⟩ | ⟨_, _, rfl⟩ | ⟨_, h1, _⟩
  · exact absurd x.check h1
  · rfl
  · rw [x.len] at h1; omega
theorem ltls_in {xs : List Ltl} {b c : Nat} {h : Heap} (h1 : (⟨some ⟨b, 0, none⟩, c, xs⟩ : Sl Ltl).In 3 Ltl.enc h) (h2 : ∀ x ∈ xs, x.In h) (h3 : xs.length ≤ 140737488355328) : Ltls ⟨some ⟨b, 0, none⟩, c, xs⟩ h := ⟨⟨h1, h3⟩, h2⟩
set_option maxHeartbeats 8000000 in
theorem progBegun_ok (B : Base) (hB : B.ok) : Fn Try.prog 32 [] B (fun v _ => v = .bool true) := by
  refine Fn.of Try.func32 rfl Try.ntmps32 (by kernel_rfl) (by simp) ?_
  intro e
  have I := Inv.start hB
  refine WP.seq ?_
  refine WP.region ?_
  refine Ops.y (v := .bool _) (Y.assign rfl) ?_
  refine Ops.nil ?_
  refine WP.seq ?_
  refine WP.region ?_
  refine Ops.go (O.call I Try.call57 (roads_ok _ I.base_ok) rfl ?_)
  rintro _ h10 w I le10 ⟨p1, rfl, hp1⟩
  refine Ops.go (O.call I Try.call37 (Strata_ok _ I.base_ok p1 hp1.is hp1.nm) rfl ?_)
  rintro v11 h11 w I le11 hS
  obtain ⟨s1, es1, hs1, rfl⟩ := strP_roads hp1 hS
  refine Ops.y (v := .tuple #[_, _]) (Y.move rfl) ?_
  refine Ops.y (v := .slice _ _ _) (Y.extract rfl rfl) ?_
  refine Ops.y (v := .int .i64 _) (Y.extract rfl rfl) ?_
  refine Ops.y (v := .slice _ _ _) (Y.assign rfl) ?_
  refine Ops.y (v := .int .i64 _) (Y.assign rfl) ?_
  refine Ops.nil ?_
  refine WP.seq ?_
  refine WP.region ?_
  refine Ops.go (O.call I Try.call57 (roads_ok _ I.base_ok) rfl ?_)
  rintro _ h15 w I le15 ⟨p2, rfl, hp2⟩
  refine Ops.go (O.call I Try.call38 (Needs_ok _ I.base_ok p2 hp2.is hp2.nm 1) rfl ?_)
  rintro v16 h16 w I le16 hN
  obtain ⟨s2, es2, hs2, rfl⟩ := neeP_roads hp2 hN
  refine Ops.y (v := .tuple #[_, _]) (Y.move rfl) ?_
  refine Ops.y (v := .slice _ _ _) (Y.extract rfl rfl) ?_
  refine Ops.y (v := .int .i64 _) (Y.extract rfl rfl) ?_
  refine Ops.y (v := .slice _ _ _) (Y.assign rfl) ?_
  refine Ops.y (v := .int .i64 _) (Y.assign rfl) ?_
  refine Ops.nil ?_
  refine WP.seq ?_
  refine WP.region ?_
  refine Ops.go (O.call I Try.call57 (roads_ok _ I.base_ok) rfl ?_)
  rintro _ h20 w I le20 ⟨p3, rfl, hp3⟩
  refine Ops.go (O.call I Try.call38 (Needs_ok _ I.base_ok p3 hp3.is hp3.nm 3) rfl ?_)
  rintro v21 h21 w I le21 hN3
  obtain rfl := neeP_roads3 hp3 hN3
  refine Ops.y (v := .tuple #[_, _]) (Y.move rfl) ?_
  refine Ops.y (v := .slice _ _ _) (Y.extract rfl rfl) ?_
  refine Ops.y (v := .int .i64 _) (Y.extract rfl rfl) ?_
  refine Ops.y (v := .slice _ _ _) (Y.assign rfl) ?_
  refine Ops.y (v := .int .i64 _) (Y.assign rfl) ?_
  refine Ops.nil ?_
  have hs1 := hs1.le (((le15.trans le16).trans le20).trans le21)
  have hs2 := hs2.le (le20.trans le21)
  refine WP.seq ?_
  refine WP.region ?_
  refine Ops.go (O.callM I Try.call57 (roads_okM _ I.base_ok) rfl ?_)
  rintro _ h24 _ w I le24 ⟨bp, br, r0, r1, r2, r3, r4, r5, r6, rfl, rfl, his, hcap, her⟩
  try simp only [List.cons_append, List.nil_append] at I
  refine Ops.go (O.alloc I Try.zeroValue54 rfl ?_)
  intro b7 w I
  refine Ops.go (O.store (v := .agg #[_, _]) I ty_54 0 rfl rfl rfl rfl rfl rfl (Nat.le_of_ble_eq_true rfl) rfl ?_)
  intro w I
  refine Ops.nil ?_
  have hs1 := hs1.le le24
  have hs2 := hs2.le le24
  have i4 := his r4 (by simp)
  have e4 : r4.er = rT (aT 1 [tV 0, tV 1]) (-1) 1 [⟨false, aT 0 [tV 0, tV 1]⟩] := by
    have := congrArg (fun l : List Rul => l[4]?) her
    exact Option.some.inj this
  have eb4 : r4.body.xs.map Ltl.er = [⟨false, aT 0 [tV 0, tV 1]⟩] := congrArg (fun r : Rul => r.body.xs) e4
  have n4 : r4.body.xs.length = 1 := by have := congrArg List.length eb4; simpa using this
  have a4 := (i4.body.is.at (i := 0) (by omega)).at_
  refine WP.seq ?_
  refine WP.regionF mixed I 13 (by kernel_rfl) ?_
  refine OpsF.y_ (v := .pointer (some ⟨_, _, none⟩)) (fun _ => runs_none _) (fun _ w us hl I => Y.fa fa_54_1 rfl) ?_
  refine OpsF.y_ (v := .slice _ _ _) (fun _ => runs_none _) (fun _ w us hl I => Y.loadv ty_52 rfl (I.rdbox 0 rfl 1 1) rfl rfl) ?_
  refine OpsF.c_ (fun _ => runs_none _) (fun _ w us hl I => O.callv I Try.call59 (lV_ok _ I.base_ok 0) rfl (fun w' I' => ⟨rfl, I'⟩)) ?_
  refine OpsF.x_ (Φ := SlS 2 Trm.enc [tV 0]) SlS.mono (fun _ => runs_none _) ?_ ?_
  · intro _ w hl I
    exact O.mksl (xs := [tV 0]) (enc := Trm.enc) I Try.underlying33 Try.sizeOf83 Try.zeroValue83 rfl (Nat.le_of_ble_eq_true rfl) rfl rfl (by decide) (fun _ => rfl) (fun b h w I le sl => ⟨h, le, I, ⟨⟨some ⟨b, 0, none⟩, _, [tV 0]⟩, rfl, rfl, ⟨sl, by simp⟩⟩⟩)
  refine OpsF.x_ (Φ := AtmS 2 [tV 0]) AtmS.mono (fun _ => runs_none _) ?_ ?_
  · intro _ w hl I u28 q28
    obtain ⟨s, rfl, es, hs⟩ := q28 rfl
    exact O.callv I Try.call58 (lAt_ok _ I.base_ok 2 s) rfl (fun w' I' => ⟨_, Heap.le.refl _, I', ⟨⟨2, s⟩, rfl, by rw [← es]; rfl, hs⟩⟩)
  refine OpsF.x_ (Φ := LtlS ⟨true, aT 2 [tV 0]⟩) LtlS.mono (fun _ => runs_none _) ?_ ?_
  · intro _ w hl I u28 q28 u29 q29
    obtain ⟨a, rfl, ea, ha⟩ := q29 rfl
    exact O.callv I Try.call69 (lNot_ok _ I.base_ok a) rfl (fun w' I' => ⟨_, Heap.le.refl _, I', ⟨⟨true, a⟩, rfl, by simp only [Ltl.er, ea]; rfl, ha⟩⟩)
  refine OpsF.x_ (Φ := LtlsF [⟨true, aT 2 [tV 0]⟩]) LtlsF.mono (fun _ => runs_none _) ?_ ?_
  · intro _ w hl I u28 q28 u29 q29 u30 q30
    obtain ⟨y, rfl, ey, hy⟩ := q30 rfl
    exact O.mksl (xs := [y]) (enc := Ltl.enc) I Try.underlying36 Try.sizeOf71 Try.zeroValue71 rfl (Nat.le_of_ble_eq_true rfl) rfl rfl (by decide) (fun _ => rfl) (fun b h w I le sl => ⟨h, le, I, ⟨⟨some ⟨b, 0, none⟩, 1, [y]⟩, rfl, by simp [ey], ltls_in sl (by simp only [List.mem_singleton]; rintro _ rfl; exact hy.le le) (by simp), rfl, rfl⟩⟩)
  refine OpsF.y_ (v := .pointer (some ⟨_, _, none⟩)) (fun _ => runs_none _) (fun _ w us hl I => Y.fa fa_54_1 rfl) ?_
  refine OpsF.y_ (v := .slice _ _ _) (fun _ => runs_none _) (fun _ w us hl I => Y.loadv ty_52 rfl (I.rdbox 0 rfl 1 1) rfl rfl) ?_
  refine OpsF.y_ (v := .pointer (some ⟨_, _, none⟩)) (fun _ => runs_none _) (fun _ w us hl I => Y.idx Try.underlying52 Try.sizeOf38 rfl rfl (by decide) (by decide)) ?_
  refine OpsF.y_ (v := .pointer (some ⟨_, _, none⟩)) (fun _ => runs_none _) (fun _ w us hl I => Y.fa fa_38_3 rfl) ?_
  refine OpsF.y_ (v := .slice _ _ _) (fun _ => runs_none _) (fun _ w us hl I => Y.loadv ty_36 rfl (I.rdbox 1 rfl 24 1) rfl rfl) ?_
  refine OpsF.x_ (Φ := LtlsS [⟨true, aT 2 [tV 0]⟩, ⟨false, aT 0 [tV 0, tV 1]⟩]) LtlsS.mono (fun _ => runs_none _) ?_ ?_
  · intro _ w hl I u28 q28 u29 q29 u30 q30 u31 q31
    obtain ⟨s, rfl, es, hs, hsa, hsc⟩ := q31 rfl
    exact O.appendG (s := s) (u := r4.body) I Try.underlying36 et_71 (fun _ => rfl) hs.is.el (i4.body.is.le hl).el hsa a4 hsc (by omega) rfl rfl (by have := congrArg List.length es; simp at this; omega) (by have := congrArg List.length es; simp at this; omega) (fun b c h w le I hin hc => ⟨h, le, I, ⟨⟨some ⟨b, 0, none⟩, c, s.xs ++ r4.body.xs⟩, rfl, by simp only [List.map_append, es, eb4]; rfl, ltls_in hin (fun x hx => (List.mem_append.1 hx).elim (fun hx => (hs.each x hx).le le) (fun hx => ((i4.body.le hl).each x hx).le le)) (by have := congrArg List.length es; simp at this; simp; omega), rfl⟩⟩)
  refine OpsF.nil ?_
  intro _ w hl I u28 q28 u29 q29 u30 q30 u31 q31 u37 q37
  obtain ⟨nb, rfl, enb, hnb, hna⟩ := q37 rfl
  refine Ops.y (v := .pointer (some ⟨_, _, none⟩)) (Y.idx Try.underlying52 Try.sizeOf38 rfl rfl (by decide) (by decide)) ?_
  refine Ops.y (v := .pointer (some ⟨_, _, none⟩)) (Y.fa fa_38_3 rfl) ?_
  refine Ops.go (O.store (v := .slice _ _ _) I ty_36 1 rfl rfl rfl rfl rfl rfl (Nat.le_of_ble_eq_true rfl) rfl ?_)
  intro w I
  refine Ops.nil ?_
  have hs1 := hs1.le hl
  have hs2 := hs2.le hl
  have his := fun x hx => (his x hx).le hl
  refine WP.seq ?_
  refine WP.region ?_
  refine Ops.go (O.callM I Try.call57 (roads_okM _ I.base_ok) rfl ?_)
  rintro _ h40 _ w I le40 ⟨bp2, br2, u0, u1, u2, u3, u4, u5, u6, rfl, rfl, jis, jcap, jer⟩
  try simp only [List.cons_append, List.nil_append] at I
  refine Ops.go (O.alloc I Try.zeroValue54 rfl ?_)
  intro b8 w I
  refine Ops.go (O.store (v := .agg #[_, _]) I ty_54 0 rfl rfl rfl rfl rfl rfl (Nat.le_of_ble_eq_true rfl) rfl ?_)
  intro w I
  refine Ops.nil ?_
  refine WP.seq ?_
  refine WP.region ?_
  refine Ops.y (v := .pointer (some ⟨_, _, none⟩)) (Y.fa0 fa_54_0 rfl) ?_
  refine Ops.y (v := .slice _ _ _) (Y.loadv ty_32 rfl (I.rdbox 0 rfl 0 1) rfl rfl) ?_
  refine Ops.y (v := .pointer (some ⟨_, _, none⟩)) (Y.idx Try.underlying32 Try.sizeOf49 rfl rfl (by decide) (by decide)) ?_
  refine Ops.y (v := .pointer (some ⟨_, _, none⟩)) (Y.fa0 fa_49_0 rfl) ?_
  refine Ops.go (O.store (v := .string _) I ty_9 2 rfl rfl rfl rfl rfl rfl (Nat.le_of_ble_eq_true rfl) rfl ?_)
  intro w I
  refine Ops.nil ?_
  have w1 := I.at 1 rfl
  obtain ⟨k1, m1, hh1, I⟩ := (I.front 1 rfl).settle
  have z1 : (⟨some ⟨br2, 0, none⟩, 7, [u0, u1, u2, u3, u4, u5, u6]⟩ : Sl Rul).In 5 Rul.enc k1 := rowIn (fun _ => rfl) ((hh1 br2 (by simp [box])).trans w1) (fun j v hv => by simpa using hv)
  have w2 := I.at 1 rfl
  obtain ⟨k2, m2, hh2, I⟩ := (I.front 1 rfl).settle
  have z2 : (⟨some ⟨bp2, 0, none⟩, 3, againC.preds.xs⟩ : Sl Prd).In 3 Prd.enc k2 := rowIn (fun _ => rfl) ((hh2 bp2 (by simp [box])).trans w2) (fun j v hv => by change (againC.preds.xs.flatMap Prd.enc).toArray[j]? = some v; rw [List.getElem?_toArray]; exact hv)
  have w3 := I.at 2 rfl
  obtain ⟨k3, m3, hh3, I⟩ := (I.front 2 rfl).settle
  have z3 : (⟨some ⟨br, 0, none⟩, 7, [r0, r1, r2, r3, ⟨r4.head, r4.src, r4.n, nb⟩, r5, r6]⟩ : Sl Rul).In 5 Rul.enc k3 := rowIn (fun _ => rfl) ((hh3 br (by simp [box])).trans w3) (fun j v hv => by change ([r0, r1, r2, r3, ⟨r4.head, r4.src, r4.n, nb⟩, r5, r6].flatMap Rul.enc).toArray[j]? = some v; rw [List.getElem?_toArray]; exact hv)
  have w4 := I.at 2 rfl
  obtain ⟨k4, m4, hh4, I⟩ := (I.front 2 rfl).settle
  have z4 : (⟨some ⟨bp, 0, none⟩, 3, prC⟩ : Sl Prd).In 3 Prd.enc k4 := rowIn (fun _ => rfl) ((hh4 bp (by simp [box])).trans w4) (fun j v hv => by simpa using hv)
  have mA := ((m1.trans m2).trans m3).trans m4
  have hs1 := hs1.le (le40.trans mA)
  have hs2 := hs2.le (le40.trans mA)
  have hpx : Prg.In ⟨⟨some ⟨bp, 0, none⟩, 3, prC⟩, ⟨some ⟨br, 0, none⟩, 7, [r0, r1, r2, r3, ⟨r4.head, r4.src, r4.n, nb⟩, r5, r6]⟩⟩ k4 := by
    refine ⟨⟨z4, by show prC.length ≤ _; decide⟩, ⟨⟨z3.le m4, by simp⟩, fun x hx => ?_⟩⟩
    have hall : ∀ x ∈ [r0, r1, r2, r3, r4, r5, r6], x.In k4 := fun x hx => (his x hx).le (le40.trans mA)
    simp only [List.mem_cons, List.not_mem_nil, or_false] at hx
    rcases hx with rfl | rfl | rfl | rfl | rfl | rfl | rfl
    · exact hall _ (by simp)
    · exact hall _ (by simp)
    · exact hall _ (by simp)
    · exact hall _ (by simp)
    · exact ⟨(hall r4 (by simp)).head, hnb.le (le40.trans mA)⟩
    · exact hall _ (by simp)
    · exact hall _ (by simp)
  have hpy : Prg.In ⟨⟨some ⟨bp2, 0, none⟩, 3, againC.preds.xs⟩, ⟨some ⟨br2, 0, none⟩, 7, [u0, u1, u2, u3, u4, u5, u6]⟩⟩ k4 :=
    ⟨⟨z2.le (m3.trans m4), by show againC.preds.xs.length ≤ _; decide⟩, ⟨⟨z1.le ((m2.trans m3).trans m4), by simp⟩, fun x hx => (jis x hx).le mA⟩⟩
  have cx : checkProg ⟨⟨some ⟨bp, 0, none⟩, 3, prC⟩, ⟨some ⟨br, 0, none⟩, 7, [r0, r1, r2, r3, ⟨r4.head, r4.src, r4.n, nb⟩, r5, r6]⟩⟩ = 8 := by
    rw [← checkProg_er, ← round_check]
    refine congrArg checkProg ?_
    have hn : Rul.er ⟨r4.head, r4.src, r4.n, nb⟩ = rT (aT 1 [tV 0, tV 1]) (-1) 1 [⟨true, aT 2 [tV 0]⟩, ⟨false, aT 0 [tV 0, tV 1]⟩] := by
      have : Rul.er ⟨r4.head, r4.src, r4.n, nb⟩ = ⟨r4.er.head, r4.er.src, r4.er.n, ⟨none, 0, nb.xs.map Ltl.er⟩⟩ := rfl
      rw [this, e4, enb]; rfl
    have h2 : [r0, r1, r2, r3, ⟨r4.head, r4.src, r4.n, nb⟩, r5, r6].map Rul.er = ([r0, r1, r2, r3, r4, r5, r6].map Rul.er).set 4 (Rul.er ⟨r4.head, r4.src, r4.n, nb⟩) := rfl
    have h3 : Prg.er ⟨⟨some ⟨bp, 0, none⟩, 3, prC⟩, ⟨some ⟨br, 0, none⟩, 7, [r0, r1, r2, r3, ⟨r4.head, r4.src, r4.n, nb⟩, r5, r6]⟩⟩ = ⟨⟨none, 0, prC⟩, ⟨none, 0, [r0, r1, r2, r3, ⟨r4.head, r4.src, r4.n, nb⟩, r5, r6].map Rul.er⟩⟩ := rfl
    rw [h3, h2, her, hn]; rfl
  have cy : checkProg ⟨⟨some ⟨bp2, 0, none⟩, 3, againC.preds.xs⟩, ⟨some ⟨br2, 0, none⟩, 7, [u0, u1, u2, u3, u4, u5, u6]⟩⟩ = 6 := by
    rw [← checkProg_er, ← again_check]
    refine congrArg checkProg ?_
    have h3 : Prg.er ⟨⟨some ⟨bp2, 0, none⟩, 3, againC.preds.xs⟩, ⟨some ⟨br2, 0, none⟩, 7, [u0, u1, u2, u3, u4, u5, u6]⟩⟩ = ⟨⟨none, 0, againC.preds.xs⟩, ⟨none, 0, [u0, u1, u2, u3, u4, u5, u6].map Rul.er⟩⟩ := rfl
    rw [h3, jer]; rfl
  refine WP.seq ?_
  refine WP.region ?_
  refine Ops.y (v := .int .i64 _) (Y.move rfl) ?_
  refine Ops.y (v := .bool true) (Y.dec_t (Y.eqi rfl rfl) (rfl)) ?_
  refine Ops.y (v := .bool _) (Y.move rfl) ?_
  refine Ops.ygt rfl (v := .int .i64 _) (Y.move rfl) ?_
  refine Ops.ygt rfl (v := .bool true) (Y.dec_t (Y.eqi rfl rfl) (rfl)) ?_
  refine Ops.y (v := .bool _) (Y.pick_t rfl rfl) ?_
  refine Ops.y (v := .bool _) (Y.move rfl) ?_
  refine Ops.ygt rfl (v := .int .i64 _) (Y.move rfl) ?_
  refine Ops.ygt rfl (v := .bool true) (Y.dec_t (Y.eqi rfl rfl) (rfl)) ?_
  refine Ops.y (v := .bool _) (Y.pick_t rfl rfl) ?_
  refine Ops.y (v := .bool _) (Y.move rfl) ?_
  refine Ops.gt rfl (O.call I Try.call57 (roads_ok _ I.base_ok) rfl ?_)
  rintro _ h56 w I le56 ⟨p5, rfl, hp5⟩
  refine Ops.gt rfl (O.callv I Try.call33 (PCheck_ok _ I.base_ok p5 hp5.is hp5.nm) rfl ?_)
  intro w I
  refine Ops.ygt rfl (v := .bool true) (Y.dec_t (Y.eqi rfl rfl) (hp5.check)) ?_
  refine Ops.y (v := .bool _) (Y.pick_t rfl rfl) ?_
  refine Ops.y (v := .bool _) (Y.move rfl) ?_
  refine Ops.ygt rfl (v := .agg #[_, _]) (Y.loadv ty_54 rfl (I.rdbox 1 rfl 0 2) rfl rfl) ?_
  refine Ops.gt rfl (O.callv I Try.call33 (PCheck_ok _ I.base_ok ⟨⟨some ⟨bp, 0, none⟩, 3, prC⟩, ⟨some ⟨br, 0, none⟩, 7, [r0, r1, r2, r3, ⟨r4.head, r4.src, r4.n, nb⟩, r5, r6]⟩⟩ (hpx.le le56) (show ∀ x ∈ prC, x.name.size ≤ 140737488355328 by decide)) rfl ?_)
  intro w I
  refine Ops.ygt rfl (v := .bool true) (Y.dec_t (Y.eqi rfl rfl) (cx)) ?_
  refine Ops.y (v := .bool _) (Y.pick_t rfl rfl) ?_
  refine Ops.y (v := .bool _) (Y.move rfl) ?_
  refine Ops.ygt rfl (v := .agg #[_, _]) (Y.loadv ty_54 rfl (I.rdbox 0 rfl 0 2) rfl rfl) ?_
  refine Ops.gt rfl (O.callv I Try.call33 (PCheck_ok _ I.base_ok ⟨⟨some ⟨bp2, 0, none⟩, 3, againC.preds.xs⟩, ⟨some ⟨br2, 0, none⟩, 7, [u0, u1, u2, u3, u4, u5, u6]⟩⟩ (hpy.le le56) (show ∀ x ∈ againC.preds.xs, x.name.size ≤ 140737488355328 by decide)) rfl ?_)
  intro w I
  refine Ops.ygt rfl (v := .bool true) (Y.dec_t (Y.eqi rfl rfl) (cy)) ?_
  refine Ops.y (v := .bool _) (Y.pick_t rfl rfl) ?_
  refine Ops.y (v := .bool _) (Y.move rfl) ?_
  refine Ops.gt rfl (O.callv I Try.call35 (Name_ok _ I.base_ok ⟨#[101, 100, 103, 101]⟩ (by decide)) rfl ?_)
  intro w I
  refine Ops.y (v := .bool _) (Y.pick_t rfl rfl) ?_
  refine Ops.y (v := .bool true) (Y.b (Y.move rfl) ((by kernel_rfl))) ?_
  refine Ops.gt rfl (O.callv I Try.call35 (Name_ok _ I.base_ok ⟨#[69, 100, 103, 101]⟩ (by decide)) rfl ?_)
  intro w I
  refine Ops.ygt rfl (v := .bool true) (Y.b (Y.not rfl) ((by kernel_rfl))) ?_
  refine Ops.y (v := .bool _) (Y.pick_t rfl rfl) ?_
  refine Ops.y (v := .bool _) (Y.move rfl) ?_
  refine Ops.ygt rfl (v := .slice _ _ _) (Y.move rfl) ?_
  refine Ops.gt rfl (O.mksl (xs := [0, 0, 1]) (enc := iEnc) I Try.underlying58 Try.sizeOf3 Try.zeroValue3 rfl (Nat.le_of_ble_eq_true rfl) rfl rfl (by decide) (fun _ => rfl) ?_)
  intro b79 h79 w I le79 sl79
  refine Ops.gt rfl (O.callv I Try.call41 (SameInts_ok _ I.base_ok s1 ⟨some ⟨b79, 0, none⟩, 3, [0, 0, 1]⟩ (hs1.le (le56.trans le79)) ⟨sl79, by simp⟩) rfl ?_)
  intro w I
  refine Ops.y (v := .bool _) (Y.pick_t rfl rfl) ?_
  refine Ops.y (v := .bool true) (Y.b (Y.move rfl) ((decide_eq_true es1))) ?_
  refine Ops.ygt rfl (v := .slice _ _ _) (Y.move rfl) ?_
  refine Ops.gt rfl (O.mksl (xs := [true, true, false]) (enc := bEnc) I Try.underlying61 Try.sizeOf4 Try.zeroValue4 rfl (Nat.le_of_ble_eq_true rfl) rfl rfl (by decide) (fun _ => rfl) ?_)
  intro b84 h84 w I le84 sl84
  refine Ops.gt rfl (O.callv I Try.call42 (SameBools_ok _ I.base_ok s2 ⟨some ⟨b84, 0, none⟩, 3, [true, true, false]⟩ (hs2.le ((le56.trans le79).trans le84)) ⟨sl84, by simp⟩) rfl ?_)
  intro w I
  refine Ops.y (v := .bool _) (Y.pick_t rfl rfl) ?_
  refine Ops.y (v := .bool _) (Y.assign rfl) ?_
  refine Ops.nil ?_
  refine WP.ret ?_
  repeat (first | refine thenE_ret ?_ | refine blockE_ret ?_)
  exact retQ.mk (vs := [.bool _]) rfl ⟨rfl, trivial⟩ I.ext_of (by simp only [tup]; rw [decide_eq_true es2])
end Go.TF
