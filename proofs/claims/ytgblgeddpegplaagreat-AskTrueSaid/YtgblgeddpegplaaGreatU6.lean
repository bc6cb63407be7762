/- Texts Fir6 Prog1 Prog2 Prog3 Prog4 Prog5 Prog6 Fir7 Bas3 Bas4 BaseLaw SpRoads Fir8 Prog7 Fir9 Fir10 Base18 Prog8 Rnd1. -/
import Derived.Test.YtgblgeddpegplaaGreatU5
import Derived.Test.YtgblgeddpegplaaGreatU2
import Derived.Test.YtgblgeddpegplaaGreatU3
import Derived.Test.YtgblgeddpegplaaGreatU4
import Derived.KernelRfl
section
/- Steps: all of a rule's steps, each once. -/
namespace Go.TF
open Go Go.RowKit Go.Proofs
set_option maxRecDepth 20000

theorem fplace {f : List Fct} (hp : ∀ y ∈ f, PF y) (hs : SrtF f) : ∀ i, (hi : i < f.length) → (i : Int) ≤ placeF f[i]
  | 0, hi => (hp _ (List.getElem_mem hi)).place.1
  | i + 1, hi => by
    have h1 := fplace hp hs i (by omega)
    have h2 := hs.get (i := i) (j := i + 1) (by omega) hi
    omega
theorem FOk.le125 {l : List Prd} {f : List Fct} (ok : FOk l f) : f.length ≤ 125 := by
  rcases Nat.lt_or_ge 125 f.length with h | h
  · have h1 := fplace ok.pf ok.srt 125 h
    have h2 := (ok.pf _ (List.getElem_mem h)).place.2
    omega
  · exact h
theorem lay_small {l : List Prd} {f : List Fct} {r : Rul} (ok : ROk l r) (okf : FOk l f) (b : Vrs) : (layF f (poss r.body.xs) b).length ≤ 1000000 * 2 := by
  have h1 := layF_len f (poss r.body.xs) b
  have h2 := poss_le r.body.xs
  have h3 : f.length ^ (poss r.body.xs).length ≤ 125 ^ (poss r.body.xs).length := Nat.pow_le_pow_left okf.le125 _
  have h4 : 125 ^ (poss r.body.xs).length ≤ 125 ^ 3 := Nat.pow_le_pow_right (by decide) (by have := ok.len; omega)
  have h5 : (125 : Nat) ^ 3 = 1953125 := by decide
  omega
theorem cpt_srt {n : Int} : ∀ (r : List Stp) (p : Stp), SrtS (p :: r) → (∀ x ∈ p :: r, x.rule = n) → (p :: cpt p r).Pairwise ltS ∧ ∀ x, x ∈ p :: cpt p r ↔ x ∈ p :: r
  | [], p, _, _ => ⟨by simp [cpt], fun x => by simp [cpt]⟩
  | y :: r, p, hs, hr => by
    obtain ⟨h1, h2⟩ := List.pairwise_cons.1 hs
    rw [cpt]
    split
    · rename_i e
      subst e
      obtain ⟨k1, k2⟩ := cpt_srt r y h2 (fun x hx => hr x (List.mem_cons_of_mem _ hx))
      refine ⟨k1, fun x => (k2 x).trans ?_⟩
      simp
    · rename_i e
      obtain ⟨k1, k2⟩ := cpt_srt r y h2 (fun x hx => hr x (List.mem_cons_of_mem _ hx))
      have hlt : ltS p y := by
        rcases ltV_tri p.vars y.vars with h | h | h
        · exact h
        · exfalso
          apply e
          have e1 := hr p List.mem_cons_self
          have e2 := hr y (List.mem_cons_of_mem _ List.mem_cons_self)
          cases p; cases y
          dsimp only at h e1 e2
          rw [h, e1, e2]
        · exact absurd h (h1 y List.mem_cons_self)
      refine ⟨List.pairwise_cons.2 ⟨fun z hz => ?_, k1⟩, fun x => ?_⟩
      · rcases List.mem_cons.1 hz with rfl | hz
        · exact hlt
        · exact ltV_trans hlt ((List.pairwise_cons.1 k1).1 z hz)
      · rw [List.mem_cons, k2, List.mem_cons (a := x) (b := p)]
theorem compact_srt {n : Int} {ys : List Stp} (hs : SrtS ys) (hr : ∀ x ∈ ys, x.rule = n) : (compactS ys).Pairwise ltS ∧ ∀ x, x ∈ compactS ys ↔ x ∈ ys := by
  cases ys with
  | nil => exact ⟨List.Pairwise.nil, fun _ => Iff.rfl⟩
  | cons p r => exact cpt_srt r p hs hr
theorem compact_steps {l : List Prd} {f : List Fct} {n : Int} {r : Rul} (ok : ROk l r) (okf : FOk l f) {ys : List Stp} (hp : ys.Perm (outL f n r (layF f (poss r.body.xs) b0))) (hs : SrtS ys) : compactS ys = stepsF f n r := by
  have hr : ∀ x ∈ ys, x.rule = n := fun x hx => by
    have := hp.mem_iff.1 hx
    unfold outL at this
    obtain ⟨b, _, rfl⟩ := List.mem_map.1 this
    rfl
  obtain ⟨h1, h2⟩ := compact_srt hs hr
  exact steps_eq ok okf h1 fun x => (h2 x).trans hp.mem_iff
theorem b0_bok (l : List Atm) : BOk l b0 := fun _ hv => .inl (b0_at hv)
def StpsR (xs : List Stp) : Sp := fun v h => ∃ s : Sl Stp, v = s.val ∧ s.xs = xs ∧ Stps s h
set_option maxHeartbeats 4000000 in
theorem Steps_ok (B : Base) (hB : B.ok) (p : Prg) (hp : p.In B.h) (f : Sl Fct) (hf : Fcts f B.h) (n : Int) (r : Rul) (h0 : 0 ≤ n) (hr : p.rules.xs[n.toNat]? = some r) (ok : ROk p.preds.xs r) (okf : FOk p.preds.xs f.xs) :
    Fn Tryz.prog 131 [p.val, f.val, .int .i64 n] B (StpsR (stepsF f.xs n r)) := by
  have Er := hp.rules.is.el.el hr
  have ir := hp.rules.each _ (List.mem_of_getElem? hr)
  have hlb := lay_small ok okf b0
  refine Fn.of Tryz.func131 rfl Tryz.ntmps131 (by kernel_rfl) (by simp) ?_
  intro e
  have I := Inv.start hB
  refine WP.seq ?_
  refine WP.region ?_
  refine Ops.go (O.box (v := .agg #[_, _]) I rfl rfl ?_)
  intro b3 w I
  refine Ops.go (O.box (v := .slice _ _ _) I rfl rfl ?_)
  intro b4 w I
  refine Ops.go (O.box (v := .int .i64 _) I rfl rfl ?_)
  intro b5 w I
  refine Ops.y (v := .slice _ _ _) (Y.assign rfl) ?_
  refine Ops.nil ?_
  refine WP.seq ?_
  refine WP.region ?_
  refine Ops.y (v := .pointer (some ⟨_, _, none⟩)) (Y.fa fa_25_1 rfl) ?_
  refine Ops.y (v := .slice _ _ _) (Y.loadv ty_23 rfl (I.rdbox 2 rfl 1 1) rfl rfl) ?_
  refine Ops.y (v := .int .i64 _) (Y.loadv ty_3 rfl (I.rdbox 0 rfl 0 1) rfl rfl) ?_
  refine Ops.y (v := .pointer (some ⟨_, _, none⟩)) (Y.idxEl Er Tryz.underlying23 Tryz.sizeOf68 rfl rfl h0 rfl) ?_
  refine Ops.y (v := .agg #[_, _, _, _, _]) (Y.loadv ty_68 rfl (I.rd (Er.rd.part 0 5)) rfl rfl) ?_
  refine Ops.go (O.callM I Tryz.call165 (Atoms_ok _ I.base_ok r ir.body ok.len) rfl ?_)
  rintro _ h1 _ w I le1 ⟨u1, u2, rfl, rfl⟩
  try simp only [List.cons_append, List.nil_append] at I
  refine Ops.y (v := .tuple #[_, _]) (Y.move rfl) ?_
  refine Ops.y (v := u1) (Y.extract rfl rfl) ?_
  refine Ops.y (v := u2) (Y.extract rfl rfl) ?_
  refine Ops.y (v := u1) (Y.assign rfl) ?_
  refine Ops.y (v := u2) (Y.assign rfl) ?_
  refine Ops.nil ?_
  have I := I.drop
  obtain ⟨h2, s, le2, rfl, hsx, os, I⟩ := I.settleO rfl
  have hA : AtS s h2 := by
    refine ⟨⟨os.in (fun _ => rfl), ?_⟩, ?_, fun a ha => ?_⟩
    · rw [hsx]; have := poss_le r.body.xs; have := ok.len; omega
    · rcases os with rfl | ⟨_, _, _, _, _, q, _⟩
      · exact Nat.le_refl _
      · exact q
    · rw [hsx] at ha
      obtain ⟨y, hy, _, rfl⟩ := mem_poss.1 ha
      exact Atm.In.le (ir.body.each y hy) (le1.trans le2)
  obtain ⟨h5, le5, k5, I⟩ := I.settleBox
  obtain ⟨h4, le4, k4, I⟩ := I.settleBox
  obtain ⟨h3, le3, k3, I⟩ := I.settleBox
  refine WP.seq ?_
  refine WP.region ?_
  refine Ops.go (O.alloc I Tryz.zeroValue36 rfl ?_)
  intro b9 w I
  refine Ops.nil ?_
  refine WP.seq ?_
  refine WP.region ?_
  refine Ops.go (O.alloc I Tryz.zeroValue192 rfl ?_)
  intro b10 w I
  refine Ops.nil ?_
  refine WP.seq ?_
  refine WP.region ?_
  refine Ops.y (v := .func _ _ _) (Y.mkfunc rfl rfl) ?_
  refine Ops.go (O.store (v := .func _ _ _) I ty_192 0 rfl rfl rfl rfl rfl rfl (Nat.le_of_ble_eq_true rfl) rfl ?_)
  intro w I
  refine Ops.nil ?_
  obtain ⟨h10, le10, k10, I⟩ := I.settleBox
  have gl : B.h.le h10 := ((((le1.trans le2).trans le5).trans le4).trans le3).trans le10
  have E : LayE h10 p f n r b5 b3 b4 b9 b10 := ⟨k5.le ((le4.trans le3).trans le10), k3.le le10, k4.le (le3.trans le10), k10, hp.le gl, hf.le gl⟩
  have hA := hA.le (((le5.trans le4).trans le3).trans le10)
  have I : Inv B h10 (LayM b9 none 0 0 []) w := (I.nilSl 82 4).front 1 rfl
  refine WP.seq ?_
  refine WP.region ?_
  refine Ops.y (v := .func _ _ _) (Y.loadv ty_192 rfl (I.rd (E.kl.rd.part 0 1)) rfl rfl) ?_
  refine Ops.y (v := .agg #[.int .i64 _, .int .i64 _, .int .i64 _]) (Y.builda Tryz.underlying193 Tryz.zeroValue193 Tryz.sizeOf3 rfl rfl) ?_
  refine Ops.y (v := .slice _ _ _) (Y.move rfl) ?_
  refine Ops.go (O.callcs Tryz.call168 (fs := []) (cs := [.pointer (some ⟨b5, 0, none⟩), .pointer (some ⟨b3, 0, none⟩), .pointer (some ⟨b4, 0, none⟩), .pointer (some ⟨b9, 0, none⟩), .pointer (some ⟨b10, 0, none⟩)]) rfl (lay_ok p f n r b5 b3 b4 b9 b10 h0 hr ok okf (poss r.body.xs) s b0 none 0 0 [] hsx I rfl E hA (fun x hx => hx) (b0_bok _) (by omega)) rfl ?_)
  rintro ed w ⟨rfl, h6, a6, c6, m6, le6, I, hm6⟩
  refine ⟨_, rfl, ?_⟩
  refine Ops.nil ?_
  have hol := outL_le f.xs n r (layF f.xs (poss r.body.xs) b0)
  rw [List.nil_append] at I hm6
  refine WP.seq ?_
  refine WP.region ?_
  refine Ops.y (v := .slice _ _ _) (Y.loadv ty_36 rfl (I.rdbox 0 rfl 0 1) rfl rfl) ?_
  refine Ops.go (O.calls Tryz.call170 (sort_ok (I.front 1 rfl) hm6 (by omega)) rfl ?_)
  rintro ed w ⟨rfl, ys, hperm, hsrt, I⟩
  refine ⟨_, rfl, ?_⟩
  refine Ops.nil ?_
  have hml : m6 = ys.length := by rw [hm6, hperm.length_eq]
  have I := (I.front 1 rfl)
  refine WP.seq ?_
  refine WP.region ?_
  refine Ops.y (v := .slice _ _ _) (Y.loadv ty_36 rfl (I.rdbox 0 rfl 0 1) rfl rfl) ?_
  refine Ops.go (O.calls Tryz.call173 (Compact_ok (I.front 1 rfl) hml (by omega)) rfl ?_)
  rintro ed w ⟨a7, c7, m7, rfl, hm7, I⟩
  refine ⟨_, rfl, ?_⟩
  refine Ops.y (v := .slice _ _ _) (Y.assign rfl) ?_
  refine Ops.nil ?_
  rw [compact_steps ok okf hperm hsrt] at I hm7
  obtain ⟨h8, s8, le8, e8, hx8, in8, I⟩ := I.settleSl (fun _ => rfl) hm7
  have hsm : s8.xs.length ≤ 140737488355328 := by rw [hx8, ← hm7]; have := compact_len ys; rw [compact_steps ok okf hperm hsrt, ← hm7, ← hml] at this; omega
  refine WP.ret ?_
  repeat (first | refine thenE_ret ?_ | refine blockE_ret ?_)
  exact retQ.mk (vs := [.slice _ _ _]) rfl ⟨rfl, trivial⟩ I.ext_of (⟨s8, by simp only [tup]; exact e8.symm, hx8, in8, hsm⟩)
end Go.TF
end
section
/- uses: the iterator; its contract. -/
namespace Go.TF
open Go Go.RowKit Go.Proofs
set_option maxRecDepth 20000

/-- A program as it lies in a box that is never written again. -/
def PBox (h : Heap) (b : Nat) (p : Prg) : Prop := h b = some (.cells [p.preds.val, p.rules.val].toArray 25 (0, 0))
theorem uses_ok (B : Base) (hB : B.ok) (p : Prg) : Fn Tryz.prog 151 [p.val] B (fun v h' => ∃ b, v = .func (.func 179) #[] #[.pointer (some ⟨b, 0, none⟩)] ∧ PBox h' b p) := by
  refine Fn.of Tryz.func151 rfl Tryz.ntmps151 (by kernel_rfl) (by simp) ?_
  intro e
  have I := Inv.start hB
  refine WP.seq ?_
  refine WP.region ?_
  refine Ops.go (O.box (v := .agg #[_, _]) I rfl rfl ?_)
  intro b1 w I
  refine Ops.y (v := .nilFunc) (Y.assign rfl) ?_
  refine Ops.nil ?_
  refine WP.seq ?_
  refine WP.region ?_
  refine Ops.y (v := .func _ _ _) (Y.mkfunc rfl rfl) ?_
  refine Ops.y (v := .func _ _ _) (Y.assign rfl) ?_
  refine Ops.nil ?_
  have hb0 := I.at 0 rfl
  obtain ⟨h1, le1, hb, I⟩ := I.settle
  refine WP.ret ?_
  repeat (first | refine thenE_ret ?_ | refine blockE_ret ?_)
  exact retQ.mk (vs := [.func _ _ _]) rfl ⟨rfl, trivial⟩ I.ext_of (⟨b1, rfl, (hb b1 (by simp [box])).trans hb0⟩)
theorem usesL_take {rs : List Rul} {n : Nat} (hn : n < rs.length) : usesL (rs.take (n + 1)) = usesL (rs.take n) ++ rs[n].body.xs.map fun x => (rs[n].head.pred, x) := by
  rw [List.take_succ_eq_append_getElem hn]
  unfold usesL
  rw [List.flatMap_append]
  simp only [List.flatMap_cons, List.flatMap_nil, List.append_nil]
theorem usesL_split (rs : List Rul) (n : Nat) : usesL rs = usesL (rs.take n) ++ usesL (rs.drop n) := by
  have := congrArg usesL (List.take_append_drop n rs)
  unfold usesL at this ⊢
  rw [List.flatMap_append] at this
  exact this.symm
theorem usesL_get {rs : List Rul} {n : Nat} (hn : n < rs.length) {k : Nat} (hk : k < rs[n].body.xs.length) : (usesL rs)[(usesL (rs.take n)).length + k]? = some (rs[n].head.pred, rs[n].body.xs[k]) := by
  rw [usesL_split rs (n + 1), usesL_take hn, List.append_assoc, List.getElem?_append_right (by omega), List.getElem?_append_left (by simp; omega)]
  simp [hk]
def cEnc (c : Int × Ltl) : List Value := [.int .i64 c.1, c.2.val]
set_option maxHeartbeats 2000000 in
theorem uses1_iter (p : Prg) (bp : Nat) (h : Heap) (hb : PBox h bp p) (hr : Ruls p.rules h) : Iter Tryz.prog 179 [.pointer (some ⟨bp, 0, none⟩)] cEnc (usesL p.rules.xs) h := by
  intro l J Jx hg W hle j0 hok hext hround
  have hsm := hr.is.small
  refine Calls.ofWP (args := [.func (.yield l) #[] #[], .pointer (some ⟨bp, 0, none⟩)]) Tryz.func179 rfl Tryz.ntmps179 (by kernel_rfl) (by simp) ?_
  intro e
  have I := Inv.start (hok _ _ _ j0)
  refine WP.seq ?_
  refine WP.region ?_
  refine Ops.y (v := .pointer (some ⟨_, _, none⟩)) (Y.fa fa_25_1 rfl) ?_
  refine Ops.y (v := .slice _ _ _) (Y.loadv ty_23 rfl (I.rd ((rdHb hb 1 1).le hle)) rfl rfl) ?_
  refine Ops.y (v := .int .i64 _) (Y.lens Tryz.underlying23 rfl) ?_
  refine Ops.y (v := .int .i64 _) (Y.move rfl) ?_
  refine Ops.nil ?_
  refine WP.block ?_
  refine WP.loopE (σ := Nat) (fun n => [(0, .func (.yield l) #[] #[]), (1, .pointer (some ⟨bp, 0, none⟩)), (8, p.rules.val), (9, .int .i64 p.rules.xs.length), (10, .int .i64 n)])
    (fun n w => n ≤ p.rules.xs.length ∧ ∃ h1, hg.le h1 ∧ J h1 (usesL (p.rules.xs.take n)).length w) (fun n => p.rules.xs.length - n)
    ⟨0, ⟨rfl, rfl, rfl, rfl, rfl, trivial⟩, Nat.zero_le _, hg, Heap.le.refl _, j0⟩ ?_
  rintro n e w ⟨hn, h1, gl1, j1⟩
  have I := Inv.start (hok _ _ _ j1)
  refine WP.seq ?_
  refine WP.region ?_
  refine Ops.y (v := .bool (decide _)) (Y.lti rfl rfl) ?_
  refine Ops.nil ?_
  refine WP.seq ?_
  refine WP.cond_dec rfl (fun hc => ?_) (fun hc => ?_)
  · have hn' : n < p.rules.xs.length := by omega
    have E1 := (hr.is.le (hle.trans gl1)).at hn'
    have hbd := (hr.each _ (List.getElem_mem hn')).body.le (hle.trans gl1)
    have hbs := hbd.is.small
    refine WP.skip ?_
    refine WP.seq ?_
    refine WP.block ?_
    refine WP.seq ?_
    refine WP.region ?_
    refine Ops.y (v := .pointer (some ⟨_, _, none⟩)) (Y.idxEl E1 Tryz.underlying23 Tryz.sizeOf68 rfl rfl (Int.natCast_nonneg _) rfl) ?_
    refine Ops.y (v := .agg #[_, _, _, _, _]) (Y.loadv ty_68 rfl (I.rd (E1.rd.part 0 5)) rfl rfl) ?_
    refine Ops.go (O.alloc I Tryz.zeroValue68 rfl ?_)
    intro b4 w I
    refine Ops.go (O.store (v := .agg #[_, _, _, _, _]) I ty_68 0 rfl rfl rfl rfl rfl rfl (Nat.le_of_ble_eq_true rfl) rfl ?_)
    intro w I
    refine Ops.nil ?_
    refine WP.seq ?_
    refine WP.region ?_
    refine Ops.y (v := .pointer (some ⟨_, _, none⟩)) (Y.fa fa_68_3 rfl) ?_
    refine Ops.y (v := .slice _ _ _) (Y.loadv ty_66 rfl (I.rdbox 0 rfl 4 1) rfl rfl) ?_
    refine Ops.y (v := .int .i64 _) (Y.lens Tryz.underlying66 rfl) ?_
    refine Ops.y (v := .int .i64 _) (Y.move rfl) ?_
    refine Ops.nil ?_
    have hb4 := I.at 0 rfl
    obtain ⟨h2, le2, hh4, I⟩ := I.settle
    have hb4 := (hh4 b4 (by simp [box])).trans hb4
    refine WP.block ?_
    refine WP.loopE (σ := Nat) (fun k => [(0, .func (.yield l) #[] #[]), (1, .pointer (some ⟨bp, 0, none⟩)), (8, p.rules.val), (9, .int .i64 p.rules.xs.length), (10, .int .i64 n), (4, .pointer (some ⟨b4, 0, none⟩)), (15, p.rules.xs[n].body.val), (16, .int .i64 p.rules.xs[n].body.xs.length), (17, .int .i64 k)])
      (fun k w => k ≤ p.rules.xs[n].body.xs.length ∧ ∃ h3, h2.le h3 ∧ J h3 ((usesL (p.rules.xs.take n)).length + k) w) (fun k => p.rules.xs[n].body.xs.length - k)
      ⟨0, ⟨rfl, rfl, rfl, rfl, rfl, rfl, rfl, rfl, rfl, trivial⟩, Nat.zero_le _, h2, Heap.le.refl _, hext _ _ _ _ _ j1 I⟩ ?_
    rintro k e w ⟨hk, h3, gl3, j3⟩
    have I := Inv.start (hok _ _ _ j3)
    refine WP.seq ?_
    refine WP.region ?_
    refine Ops.y (v := .bool (decide _)) (Y.lti rfl rfl) ?_
    refine Ops.nil ?_
    refine WP.seq ?_
    refine WP.cond_dec rfl (fun hd => ?_) (fun hd => ?_)
    · have hk' : k < p.rules.xs[n].body.xs.length := by omega
      have E2 := (hbd.is.le (le2.trans gl3)).at hk'
      refine WP.skip ?_
      refine WP.seq ?_
      refine WP.block ?_
      refine WP.seq ?_
      refine WP.region ?_
      refine Ops.y (v := .pointer (some ⟨_, _, none⟩)) (Y.idxEl E2 Tryz.underlying66 Tryz.sizeOf131 rfl rfl (Int.natCast_nonneg _) rfl) ?_
      refine Ops.y (v := .agg #[_, _, _]) (Y.loadv ty_131 rfl (I.rd (E2.rd.part 0 3)) rfl rfl) ?_
      refine Ops.go (O.alloc I Tryz.zeroValue131 rfl ?_)
      intro b6 w I
      refine Ops.go (O.store (v := .agg #[_, _, _]) I ty_131 0 rfl rfl rfl rfl rfl rfl (Nat.le_of_ble_eq_true rfl) rfl ?_)
      intro w I
      refine Ops.nil ?_
      refine WP.seq ?_
      refine WP.regionX (by kernel_rfl) ?_
      refine OpsX.y (v := .func _ _ _) (Y.move rfl) ?_
      refine OpsX.y (v := .pointer (some ⟨_, _, none⟩)) (Y.fa0 fa_68_0 rfl) ?_
      refine OpsX.y (v := .pointer (some ⟨_, _, none⟩)) (Y.fa0 fa_65_0 rfl) ?_
      refine OpsX.y (v := .int .i64 _) (Y.loadv ty_3 rfl (I.rd ((rdHb hb4 0 1).le gl3)) rfl rfl) ?_
      refine OpsX.y (v := .agg #[_, _, _]) (Y.loadv ty_131 rfl (I.rdbox 0 rfl 0 3) rfl rfl) ?_
      refine OpsX.yield rfl rfl (hround h3 _ _ _ (gl1.trans (le2.trans gl3)) (usesL_get hn' hk') (hext _ _ _ _ _ j3 I.ext_of)) ?_
      rintro ed w (⟨rfl, h4, gl4, j4⟩ | ⟨rfl, jx⟩)
      · refine ⟨_, rfl, ?_⟩
        refine OpsX.y (v := .bool _) (Y.not rfl) ?_
        refine OpsX.nil ?_
        refine WP.cond_f rfl ?_
        refine WP.skip ?_
        refine WP.region ?_
        refine Ops.y (v := .int .i64 _) (Y.addi rfl rfl ⟨by omega, by omega⟩) ?_
        refine Ops.y (v := .int .i64 _) (Y.move rfl) ?_
        refine Ops.nil ?_
        exact ⟨k + 1, ⟨⟨rfl, rfl, rfl, rfl, rfl, rfl, rfl, rfl, rfl, trivial⟩, by omega, h4, gl3.trans gl4, j4⟩, by omega⟩
      · refine ⟨_, rfl, ?_⟩
        refine OpsX.y (v := .bool _) (Y.not rfl) ?_
        refine OpsX.nil ?_
        refine WP.cond_t rfl ?_
        refine WP.ret ?_
        repeat (first | refine thenE_ret ?_ | refine blockE_ret ?_)
        exact ⟨.inl rfl, [], trivial, ⟨_, rfl⟩, .inr jx⟩
    refine WP.exit ?_
    refine WP.region ?_
    refine Ops.y (v := .int .i64 _) (Y.addi rfl rfl ⟨by omega, by omega⟩) ?_
    refine Ops.y (v := .int .i64 _) (Y.move rfl) ?_
    refine Ops.nil ?_
    have hk2 : k = p.rules.xs[n].body.xs.length := by omega
    exact ⟨n + 1, ⟨⟨rfl, rfl, rfl, rfl, rfl, trivial⟩, by omega, h3, gl1.trans (le2.trans gl3), by rw [usesL_take hn', List.length_append, List.length_map, ← hk2]; exact j3⟩, by omega⟩
  refine WP.exit ?_
  have hn2 : n = p.rules.xs.length := by omega
  rw [hn2, List.take_length] at j1
  exact ⟨.inr rfl, [], trivial, ⟨_, rfl⟩, .inl ⟨h1, gl1, j1⟩⟩
end Go.TF
end
section
/- Levels: the strata, raised from 0 until all hold. -/
namespace Go.TF
open Go Go.RowKit Go.Proofs
set_option maxRecDepth 20000

@[reducible] def iEnc (n : Int) : List Value := [.int .i64 n]
@[reducible] def vI (n : Int) : Value := .int .i64 n
@[reducible] def bEnc (n : Bool) : List Value := [.bool n]
@[reducible] def vB (n : Bool) : Value := .bool n
/-- What Levels and strata hand back. -/
def LevP (cs : List (Int × Ltl)) (n : Nat) (v : Value) (h : Heap) : Prop :=
  (∃ s : Sl Int, StrataR cs n (some s.xs) ∧ s.Is 1 iEnc h ∧ v = .tuple #[s.val, .bool true]) ∨ (StrataR cs n none ∧ v = .tuple #[.slice none 0 0, .bool false])
theorem boxIs {b : Nat} {L : List Int} {T : TypeId} {h : Heap} {c : Nat} (hb : h b = some (.cells (L.map vI).toArray T (0, 0))) (hs : L.length ≤ 140737488355328) : (⟨some ⟨b, 0, none⟩, c, L⟩ : Sl Int).Is 1 iEnc h :=
  ⟨fun i x hx => ⟨rfl, fun j v hv => by
    cases j with
    | zero => simp at hv; subst hv; simp only [Heap.cell, Sl.blk, Sl.off, Option.getD_some, hb]; simp [hx]
    | succ j => simp at hv⟩, hs⟩
theorem lv_some {L : List Int} {n : Nat} (hl : L.length = n) {i : Int} (h0 : 0 ≤ i) (h1 : i < n) : L[i.toNat]? = some (lv L i) := by
  have : i.toNat < L.length := by omega
  simp [lv, List.getD_eq_getElem?_getD, this]
structure LevS where
  bo : Nat
  b4 : Nat
  L : List Int
  ms : List Nat
def LevU (s : LevS) (b3 b2 b1 : Nat) (p : Prg) (L : List Int) : List SA := [box s.b4 [.slice (some ⟨s.bo, 0, none⟩) p.preds.xs.length p.preds.xs.length] 45, box s.bo (L.map vI) 3, box b3 [.bool false] 4, box b2 [.slice none 0 0] 45, box b1 p.enc 25]
structure LevJ (B : Base) (b3 b2 b1 : Nat) (p : Prg) (cs : List (Int × Ltl)) (s : LevS) (w : World) : Prop where
  inv : ∃ h1, B.h.le h1 ∧ Inv B h1 (LevU s b3 b2 b1 p s.L ++ s.ms.map markSA) w
  good : Good cs p.preds.xs.length s.L
  lt : ∀ i : Int, 0 ≤ i → i < p.preds.xs.length → lv s.L i < p.preds.xs.length
def LevJx (cs : List (Int × Ltl)) (n : Nat) (L : List Int) (j : Jmp) (L' : List Int) : Prop :=
  match j with
  | .ret => L' = L ∧ StrataR cs n none
  | .goto t => t = 0 ∧ ∃ c ∈ cs, L' = L.set c.1.toNat (lst L c) ∧ lv L c.1 < lst L c ∧ lst L c < n
  | .exit _ => False
set_option maxHeartbeats 4000000 in
theorem Levels_ok (B : Base) (hB : B.ok) (p : Prg) (hp : p.In B.h) (hr : InR (usesL p.rules.xs) p.preds.xs.length) (hn5 : p.preds.xs.length ≤ 5) : Fn Tryz.prog 94 [p.val] B (fun v h => LevP (usesL p.rules.xs) p.preds.xs.length v h) := by
  refine Fn.ofD Tryz.func94 rfl Tryz.ntmps94 (by kernel_rfl) (by simp) ?_
  intro e
  have I := Inv.start hB
  refine WPD.seq ?_
  refine WPD.region ?_
  refine Ops.go (O.box (v := .agg #[_, _]) I rfl rfl ?_)
  intro b1 w I
  refine Ops.go (O.alloc I Tryz.zeroValue45 rfl ?_)
  intro b2 w I
  refine Ops.go (O.alloc I Tryz.zeroValue4 rfl ?_)
  intro b3 w I
  refine Ops.nil ?_
  refine WPD.scopeL (σ := LevS) 0 (fun s => [(1, .pointer (some ⟨b1, 0, none⟩)), (2, .pointer (some ⟨b2, 0, none⟩)), (3, .pointer (some ⟨b3, 0, none⟩)), (4, .pointer (some ⟨s.b4, 0, none⟩))]) (fun s => s.ms.map mark)
    (LevJ B b3 b2 b1 p (usesL p.rules.xs)) (fun s => pot p.preds.xs.length s.L) rfl (by kernel_rfl) ?_ ?_
  · refine WPD.region ?_
    refine Ops.y (v := .pointer (some ⟨_, _, none⟩)) (Y.fa0 fa_25_0 rfl) ?_
    refine Ops.y (v := .slice _ _ _) (Y.loadv ty_22 rfl (I.rdbox 2 rfl 0 1) rfl rfl) ?_
    refine Ops.y (v := .int .i64 _) (Y.lens Tryz.underlying22 rfl) ?_
    refine Ops.go (O.make1 (n := p.preds.xs.length) (zc := (vI 0)) I Tryz.underlying45 et_3 rfl rfl rfl (by omega) (by omega) ?_)
    intro b11 w I
    refine Ops.go (O.alloc I Tryz.zeroValue45 rfl ?_)
    intro b4 w I
    refine Ops.go (O.store (v := .slice _ _ _) I ty_45 0 rfl rfl rfl rfl rfl rfl (Nat.le_of_ble_eq_true rfl) rfl ?_)
    intro w I
    refine Ops.nil ?_
    refine ⟨⟨b11, b4, List.replicate p.preds.xs.length 0, []⟩, ⟨rfl, rfl, rfl, rfl, trivial⟩, rfl, ⟨⟨B.h, Heap.le.refl _, ?_⟩, Good.zero _ _, fun i h0 h1 => by rw [lv_zero]; omega⟩⟩
    simp only [List.map_nil, List.append_nil, LevU, List.map_replicate]
    exact I
  · rintro ⟨bo, b4, L, ms⟩ e w ⟨⟨h1, gl1, I⟩, g, hlt⟩
    dsimp only at I g hlt ⊢
    refine WPD.seq ?_
    refine WPD.seq ?_
    refine WPD.region ?_
    refine Ops.y (v := .agg #[_, _]) (Y.loadv ty_25 rfl (I.rdbox 4 rfl 0 2) rfl rfl) ?_
    refine Ops.go (O.call I Tryz.call151 (uses_ok _ I.base_ok p) rfl ?_)
    rintro _ h2 w I le2 ⟨bp, rfl, hbp⟩
    refine Ops.nil ?_
    refine WPD.block ?_
    refine WPD.rangeFunc (σ := List Int) (LevU ⟨bo, b4, L, ms⟩ b3 b2 b1 p) (fun k L' => L' = L ∧ ∀ j, j < k → ∀ c, (usesL p.rules.xs)[j]? = some c → SatC L c) (LevJx (usesL p.rules.xs) p.preds.xs.length L) L I ⟨rfl, fun j hj => by omega⟩ rfl Tryz.call179
      (uses1_iter p bp h2 hbp (hp.rules.le (gl1.trans le2))) (fun _ => rfl) (by kernel_rfl) (by kernel_rfl) (by kernel_rfl) ?_ ?_ ?_
    · rintro l r ms' hg k c L' W hx gl I ⟨hL, hsat⟩
      obtain rfl : L = L' := hL.symm
      have hc := List.mem_of_getElem? hx
      have hh := hr.h c hc
      have hb := hr.b c hc
      have hlb := hlt _ hb.1 hb.2
      have hpb := g.pos c.2.atom.pred
      have hng := ng_le c.2
      have hlst : lst L c = lv L c.2.atom.pred + ng c.2 := rfl
      refine WPI.seq ?_
      refine WPI.region (by kernel_rfl) ?_
      refine Ops.y (v := .int .i64 _) (Y.assign rfl) ?_
      refine Ops.nil ?_
      refine WPI.region (by kernel_rfl) ?_
      refine Ops.go (O.alloc I Tryz.zeroValue131 rfl ?_)
      intro b6 w I
      refine Ops.go (O.store (v := .agg #[_, _, _]) I ty_131 0 rfl rfl rfl rfl rfl rfl (Nat.le_of_ble_eq_true rfl) rfl ?_)
      intro w I
      refine Ops.nil ?_
      refine ⟨hg, [box b6 c.2.enc 131], Heap.le.refl _, I, fun r' W2 I => ?_⟩
      refine WPI.block ?_
      refine WPI.seq ?_
      refine WPI.region (by kernel_rfl) ?_
      refine Ops.y (v := .slice _ _ _) (Y.loadv ty_45 rfl (I.rdbox 1 rfl 0 1) rfl rfl) ?_
      refine Ops.y (v := .pointer (some ⟨_, _, none⟩)) (Y.fa fa_131_1 rfl) ?_
      refine Ops.y (v := .pointer (some ⟨_, _, none⟩)) (Y.fa0 fa_65_0 rfl) ?_
      refine Ops.y (v := .int .i64 _) (Y.loadv ty_3 rfl (I.rdbox 0 rfl 1 1) rfl rfl) ?_
      refine Ops.y (v := .pointer (some ⟨_, _, none⟩)) (Y.idx Tryz.underlying45 Tryz.sizeOf3 rfl rfl hb.1 hb.2) ?_
      refine Ops.y (v := .int .i64 _) (Y.loadv ty_3 rfl (I.rdL 2 rfl (by omega) (lv_some g.len hb.1 hb.2)) rfl rfl) ?_
      refine Ops.y (v := .int .i64 _) (Y.assign rfl) ?_
      refine Ops.nil ?_
      refine WPI.seq ?_
      refine WPI.cutL (σ := Unit) (fun _ => [(1, .pointer (some ⟨b1, 0, none⟩)), (2, .pointer (some ⟨b2, 0, none⟩)), (3, .pointer (some ⟨b3, 0, none⟩)), (4, .pointer (some ⟨b4, 0, none⟩)), (5, .int .i64 c.1), (6, .pointer (some ⟨b6, 0, none⟩)), (7, .int .i64 (lst L c))])
        (fun _ w => Inv B hg ([box b6 c.2.enc 131] ++ (LevU ⟨bo, b4, L, ms⟩ b3 b2 b1 p L ++ (loopSA l r' :: ms'.map markSA))) w) ?_ ?_
      · refine WPI.seq ?_
        refine WPI.region (by kernel_rfl) ?_
        refine Ops.y (v := .pointer (some ⟨_, _, none⟩)) (Y.fa0 fa_131_0 rfl) ?_
        refine Ops.y (v := .bool _) (Y.loadv ty_4 rfl (I.rdbox 0 rfl 0 1) rfl rfl) ?_
        refine Ops.nil ?_
        refine WPI.cond rfl (fun hneg => ?_) (fun hneg => ?_)
        · refine WPI.region (by kernel_rfl) ?_
          refine Ops.y (v := .int .i64 _) (Y.move rfl) ?_
          refine Ops.y (v := .int .i64 _) (Y.addi rfl rfl ⟨by omega, by omega⟩) ?_
          refine Ops.y (v := .int .i64 _) (Y.assign rfl) ?_
          refine Ops.nil ?_
          exact ⟨(), ⟨rfl, rfl, rfl, rfl, rfl, rfl, by simp only [lst, ng, hneg]; rfl, trivial⟩, I⟩
        · refine WPI.skip ?_
          exact ⟨(), ⟨rfl, rfl, rfl, rfl, rfl, rfl, by simp only [lst, ng, hneg, Bool.false_eq_true, if_false, Int.add_zero]; rfl, trivial⟩, I⟩
      rintro _ e W2 I
      refine WPI.seq ?_
      refine WPI.seq ?_
      refine WPI.region (by kernel_rfl) ?_
      refine Ops.y (v := .int .i64 _) (Y.move rfl) ?_
      refine Ops.y (v := .slice _ _ _) (Y.loadv ty_45 rfl (I.rdbox 1 rfl 0 1) rfl rfl) ?_
      refine Ops.y (v := .int .i64 _) (Y.move rfl) ?_
      refine Ops.y (v := .pointer (some ⟨_, _, none⟩)) (Y.idx Tryz.underlying45 Tryz.sizeOf3 rfl rfl hh.1 hh.2) ?_
      refine Ops.y (v := .int .i64 _) (Y.loadv ty_3 rfl (I.rdL 2 rfl (by omega) (lv_some g.len hh.1 hh.2)) rfl rfl) ?_
      refine Ops.y (v := .bool (decide _)) (Y.lei rfl rfl) ?_
      refine Ops.nil ?_
      refine WPI.cond_dec rfl (fun h8 => ?_) (fun h8 => ?_)
      · refine WPI.exit ?_
        exact ⟨hg, L, [box b6 c.2.enc 131], Heap.le.refl _, I, rfl, fun j hj c' hc' => by
          rcases Nat.lt_succ_iff_lt_or_eq.1 hj with h' | rfl
          · exact hsat j h' c' hc'
          · rw [hx] at hc'; cases hc'; exact h8⟩
      refine WPI.skip ?_
      refine WPI.seq ?_
      refine WPI.seq ?_
      refine WPI.region (by kernel_rfl) ?_
      refine Ops.y (v := .int .i64 _) (Y.move rfl) ?_
      refine Ops.y (v := .pointer (some ⟨_, _, none⟩)) (Y.fa0 fa_25_0 rfl) ?_
      refine Ops.y (v := .slice _ _ _) (Y.loadv ty_22 rfl (I.rdbox 5 rfl 0 1) rfl rfl) ?_
      refine Ops.y (v := .int .i64 _) (Y.lens Tryz.underlying22 rfl) ?_
      refine Ops.y (v := .bool (decide _)) (Y.gei rfl rfl) ?_
      refine Ops.nil ?_
      refine WPI.cond_dec rfl (fun h9 => ?_) (fun h9 => ?_)
      · refine WPI.seq ?_
        refine WPI.region (by kernel_rfl) ?_
        refine Ops.go (O.store (v := .slice _ _ _) I ty_45 4 rfl rfl rfl rfl rfl rfl (Nat.le_of_ble_eq_true rfl) rfl ?_)
        intro w I
        refine Ops.go (O.store (v := .bool _) I ty_4 3 rfl rfl rfl rfl rfl rfl (Nat.le_of_ble_eq_true rfl) rfl ?_)
        intro w I
        refine Ops.nil ?_
        refine WPI.ret ?_
        repeat (first | refine thenE_ret ?_ | refine blockE_ret ?_)
        exact ⟨hg, L, [box b6 c.2.enc 131], Heap.le.refl _, I, rfl, g.fail hr hc h9⟩
      refine WPI.skip ?_
      refine WPI.seq ?_
      refine WPI.region (by kernel_rfl) ?_
      refine Ops.y (v := .slice _ _ _) (Y.loadv ty_45 rfl (I.rdbox 1 rfl 0 1) rfl rfl) ?_
      refine Ops.y (v := .int .i64 _) (Y.move rfl) ?_
      refine Ops.y (v := .int .i64 _) (Y.move rfl) ?_
      refine Ops.y (v := .pointer (some ⟨_, _, none⟩)) (Y.idx Tryz.underlying45 Tryz.sizeOf3 rfl rfl hh.1 hh.2) ?_
      refine Ops.go (O.store1 I ty_3 2 rfl rfl (i := c.1.toNat) (by omega) (by rw [g.len]; omega) rfl rfl rfl ?_)
      intro w I
      refine Ops.nil ?_
      refine WPI.goto ?_
      exact ⟨hg, L.set c.1.toNat (lst L c), [box b6 c.2.enc 131], Heap.le.refl _, I, rfl, c, hc, rfl, by omega, by omega⟩
    · rintro D h3 L' W gl I ⟨hL, hsat⟩
      obtain rfl : L = L' := hL.symm
      refine WPD.seq ?_
      refine WPD.region ?_
      refine Ops.y (v := .slice _ _ _) (Y.loadv ty_45 rfl (I.rdbox 0 rfl 0 1) rfl rfl) ?_
      refine Ops.go (O.store (v := .slice _ _ _) I ty_45 3 rfl rfl rfl rfl rfl rfl (Nat.le_of_ble_eq_true rfl) rfl ?_)
      intro w I
      refine Ops.go (O.store (v := .bool _) I ty_4 2 rfl rfl rfl rfl rfl rfl (Nat.le_of_ble_eq_true rfl) rfl ?_)
      intro w I
      refine Ops.nil ?_
      refine WPD.ret ?_
      repeat (first | refine thenD_ret ?_ | refine blockD_ret ?_)
      have hbo := I.at 1 rfl
      obtain ⟨h4, le4, hb4, I⟩ := (I.front 1 rfl).settle
      have hs : ∀ c ∈ usesL p.rules.xs, SatC L c := fun c hc => by
        obtain ⟨j, hj, rfl⟩ := List.getElem_of_mem hc
        exact hsat j hj _ (List.getElem?_eq_getElem hj)
      show doneQ _ _ _ _ _ _ _ _
      exact ⟨.inl rfl, D :: ms, [box b4 [.slice (some ⟨bo, 0, none⟩) p.preds.xs.length p.preds.xs.length] 45, box b3 [.bool true] 4, box b2 [.slice (some ⟨bo, 0, none⟩) p.preds.xs.length p.preds.xs.length] 45, box b1 p.enc 25], h4,
        [.slice (some ⟨bo, 0, none⟩) p.preds.xs.length p.preds.xs.length, .bool true], rfl, I, fun w2 I2 => ⟨⟨b2, 0, 1, false, _, rfl, ty_45, I2.rdbox 2 rfl 0 1, rfl, rfl⟩, ⟨b3, 0, 1, false, _, rfl, ty_4, I2.rdbox 1 rfl 0 1, rfl, rfl⟩, trivial⟩,
        .inl ⟨⟨some ⟨bo, 0, none⟩, p.preds.xs.length, L⟩, g.done hs, boxIs ((hb4 bo (by simp [box])).trans hbo) (by rw [g.len]; omega), by simp [tup, Sl.val, g.len]⟩⟩
    · rintro D c h3 L' W gl I hx
      cases c with
      | ret =>
        obtain ⟨hL, hno⟩ := hx
        obtain rfl : L = L' := hL.symm
        refine blockD_ret (thenD_ret ?_)
        show doneQ _ _ _ _ _ _ _ _
        exact ⟨.inl rfl, D :: ms, LevU ⟨bo, b4, L, ms⟩ b3 b2 b1 p L, h3, [.slice none 0 0, .bool false], rfl, I, fun w2 I2 => ⟨⟨b2, 0, 1, false, _, rfl, ty_45, I2.rdbox 3 rfl 0 1, rfl, rfl⟩, ⟨b3, 0, 1, false, _, rfl, ty_4, I2.rdbox 2 rfl 0 1, rfl, rfl⟩, trivial⟩, .inr ⟨hno, rfl⟩⟩
      | goto t =>
        obtain ⟨rfl, c, hc, rfl, k1, k2⟩ := hx
        have hh := hr.h c hc
        exact (show (0 = 0 ∧ _) from ⟨rfl, ⟨bo, b4, L.set c.1.toNat (lst L c), D :: ms⟩, ⟨⟨rfl, rfl, rfl, rfl, trivial⟩, rfl, ⟨⟨h3, (gl1.trans le2).trans gl, I⟩, g.raise hr hc, fun i h0 h1 => by
          rw [lv_set hh.1 (by rw [g.len]; exact hh.2) _ _ h0]; split
          · exact k2
          · exact hlt i h0 h1⟩⟩, pot_set_lt hh.1 (by rw [g.len]; exact hh.2) k1 (hlt _ hh.1 hh.2)⟩)
      | exit id => exact hx.elim
end Go.TF
end
section
/- strata, of the document: the same strata. -/
namespace Go.TF
open Go Go.RowKit Go.Proofs
set_option maxRecDepth 20000

end Go.TF
end
section
/- Names; sameness of lists; predicates that programs are checked by. -/
namespace Go.TF
open Go Go.RowKit Go.Proofs
set_option maxRecDepth 20000

theorem low_iff (b : UInt8) : lowB b = true ↔ 97 ≤ b.toNat ∧ b.toNat ≤ 122 := by simp [lowB]
theorem all_low {s : ByteArray} (h : ∀ j, ∀ hj : j < s.size, lowB (s[j]'hj) = true) : s.data.toList.all lowB = true := by
  rw [List.all_eq_true]
  intro b hb
  obtain ⟨j, hj, rfl⟩ := List.getElem_of_mem hb
  exact h j (by simpa using hj)
theorem not_low {s : ByteArray} {j : Nat} (hj : j < s.size) (h : lowB (s[j]'hj) ≠ true) : s.data.toList.all lowB = false := by
  rw [List.all_eq_false]
  exact ⟨s[j]'hj, List.mem_iff_getElem.2 ⟨j, by simpa using hj, rfl⟩, h⟩
theorem Name1_ok (B : Base) (hB : B.ok) (r : Int) : Fn Tryz.prog 164 [.int .i32 r] B (fun v _ => v = .bool (decide (r < 97 ∨ 122 < r))) := by
  by_cases h : r < 97
  · refine Fn.of Tryz.func164 rfl Tryz.ntmps164 (by kernel_rfl) (by simp) ?_
    intro e
    have I := Inv.start hB
    refine WP.seq ?_
    refine WP.region ?_
    refine Ops.y (v := .bool _) (Y.assign rfl) ?_
    refine Ops.nil ?_
    refine WP.seq ?_
    refine WP.region ?_
    refine Ops.y (v := .int .i32 _) (Y.move rfl) ?_
    refine Ops.y (v := .bool true) (Y.dec_t (Y.lti rfl rfl) (h)) ?_
    refine Ops.y (v := .bool _) (Y.move rfl) ?_
    refine Ops.gf rfl ?_
    refine Ops.gf rfl ?_
    refine Ops.y (v := .bool _) (Y.pick_t rfl rfl) ?_
    refine Ops.y (v := .bool _) (Y.assign rfl) ?_
    refine Ops.nil ?_
    refine WP.ret ?_
    repeat (first | refine thenE_ret ?_ | refine blockE_ret ?_)
    exact retQ.mk (vs := [.bool _]) rfl ⟨rfl, trivial⟩ I.ext_of (by simp only [tup]; rw [decide_eq_true (Or.inl h)])
  · refine Fn.of Tryz.func164 rfl Tryz.ntmps164 (by kernel_rfl) (by simp) ?_
    intro e
    have I := Inv.start hB
    refine WP.seq ?_
    refine WP.region ?_
    refine Ops.y (v := .bool _) (Y.assign rfl) ?_
    refine Ops.nil ?_
    refine WP.seq ?_
    refine WP.region ?_
    refine Ops.y (v := .int .i32 _) (Y.move rfl) ?_
    refine Ops.y (v := .bool false) (Y.dec_f (Y.lti rfl rfl) (h)) ?_
    refine Ops.y (v := .bool _) (Y.move rfl) ?_
    refine Ops.ygt rfl (v := .int .i32 _) (Y.move rfl) ?_
    refine Ops.ygt rfl (v := .bool (decide _)) (Y.gti rfl rfl) ?_
    refine Ops.y (v := .bool _) (Y.pick_f rfl rfl) ?_
    refine Ops.y (v := .bool _) (Y.assign rfl) ?_
    refine Ops.nil ?_
    refine WP.ret ?_
    repeat (first | refine thenE_ret ?_ | refine blockE_ret ?_)
    exact retQ.mk (vs := [.bool _]) rfl ⟨rfl, trivial⟩ I.ext_of (by simp only [tup]; congr 1; rw [decide_eq_decide]; omega)
/-- What indexFunc hands back: not negative, just if a byte is no low letter. -/
def IdxP (s : ByteArray) (v : Value) : Prop := ∃ r : Int, v = .int .i64 r ∧ decide (0 ≤ r) = !(s.data.toList.all lowB)
theorem indexFunc_ok (B : Base) (hB : B.ok) (s : ByteArray) : Fn Tryz.prog 194 [.string s, .func (.func 164) #[] #[], .bool true] B (fun v _ => IdxP s v) := by
  refine Fn.of Tryz.func194 rfl Tryz.ntmps194 (by kernel_rfl) (by simp) ?_
  intro e
  have I := Inv.start hB
  refine WP.seq ?_
  refine WP.region ?_
  refine Ops.y (v := .int .i64 _) (Y.assign rfl) ?_
  refine Ops.nil ?_
  refine WP.seq ?_
  refine WP.seq ?_
  refine WP.region ?_
  refine Ops.y (v := .string _) (Y.move rfl) ?_
  refine Ops.go (O.ranges I Tryz.underlying9 rfl ?_)
  intro b10 w I
  refine Ops.nil ?_
  refine WP.block ?_
  refine WP.loopE (σ := Nat) (fun _ => [(0, .string s), (1, .func (.func 164) #[] #[]), (2, .bool true), (10, .pointer (some ⟨b10, 0, none⟩))]) (fun k w => Inv B B.h [sit b10 s k] w ∧ k ≤ s.size ∧ ∀ j, j < k → ∀ hj : j < s.size, lowB (s[j]'hj) = true) (fun k => s.size - k)
    ⟨0, ⟨rfl, rfl, rfl, rfl, trivial⟩, I, Nat.zero_le _, fun j hj => by omega⟩ ?_
  rintro k e w ⟨I, hk, hn⟩
  refine WP.seq ?_
  refine WP.region ?_
  refine Ops.go (O.nexts I 0 rfl rfl ?_ ?_)
  · intro hend
    refine Ops.y (v := .bool _) (Y.extract rfl rfl) ?_
    refine Ops.nil ?_
    refine WP.seq ?_
    refine WP.cond_f rfl ?_
    refine WP.exit ?_
    refine WP.seq ?_
    refine WP.region ?_
    refine Ops.y (v := .int .i64 _) (Y.assign rfl) ?_
    refine Ops.nil ?_
    refine WP.ret ?_
    repeat (first | refine thenE_ret ?_ | refine blockE_ret ?_)
    exact retQ.mk (vs := [.int .i64 _]) rfl ⟨rfl, trivial⟩ I.ext_of (⟨-1, rfl, by rw [all_low (fun j hj => hn j (by omega) hj)]; rfl⟩)
  · intro hlt w I
    refine Ops.y (v := .bool _) (Y.extract rfl rfl) ?_
    refine Ops.nil ?_
    refine WP.seq ?_
    refine WP.cond_t rfl ?_
    refine WP.skip ?_
    refine WP.block ?_
    refine WP.seq ?_
    refine WP.region ?_
    refine Ops.y (v := .int .i64 _) (Y.extract rfl rfl) ?_
    refine Ops.y (v := .int .i32 _) (Y.extract rfl rfl) ?_
    refine Ops.y (v := .int .i64 _) (Y.assign rfl) ?_
    refine Ops.y (v := .int .i32 _) (Y.assign rfl) ?_
    refine Ops.nil ?_
    by_cases ha : (s[k]'hlt).toNat < 128
    · rw [decode_ascii s k hlt ha] at I ⊢
      by_cases hlow : lowB (s[k]'hlt) = true
      · have hl := (low_iff _).1 hlow
        refine WP.seq ?_
        refine WP.region ?_
        refine Ops.y (v := .func _ _ _) (Y.move rfl) ?_
        refine Ops.y (v := .int .i32 _) (Y.move rfl) ?_
        refine Ops.go (O.callcv I Tryz.call164 (fs := []) (cs := []) rfl (Name1_ok _ I.base_ok _) rfl ?_)
        intro w I
        refine Ops.y (v := .bool _) (Y.move rfl) ?_
        refine Ops.y (v := .bool false) (Y.dec_f (Y.eqb Tryz.underlying4 rfl rfl) ((by rw [decide_eq_false (by omega)]; decide))) ?_
        refine Ops.nil ?_
        refine WP.cond_f rfl ?_
        refine WP.skip ?_
        exact ⟨k + 1, ⟨⟨rfl, rfl, rfl, rfl, trivial⟩, I, hlt, fun j hj hj' => by
          rcases Nat.lt_succ_iff_lt_or_eq.1 hj with h' | rfl
          · exact hn j h' hj'
          · exact hlow⟩, by omega⟩
      · have hl : ¬ (97 ≤ (s[k]'hlt).toNat ∧ (s[k]'hlt).toNat ≤ 122) := fun h => hlow ((low_iff _).2 h)
        refine WP.seq ?_
        refine WP.region ?_
        refine Ops.y (v := .func _ _ _) (Y.move rfl) ?_
        refine Ops.y (v := .int .i32 _) (Y.move rfl) ?_
        refine Ops.go (O.callcv I Tryz.call164 (fs := []) (cs := []) rfl (Name1_ok _ I.base_ok _) rfl ?_)
        intro w I
        refine Ops.y (v := .bool _) (Y.move rfl) ?_
        refine Ops.y (v := .bool true) (Y.dec_t (Y.eqb Tryz.underlying4 rfl rfl) ((by rw [decide_eq_true (by omega)]))) ?_
        refine Ops.nil ?_
        refine WP.cond_t rfl ?_
        refine WP.seq ?_
        refine WP.region ?_
        refine Ops.y (v := .int .i64 _) (Y.move rfl) ?_
        refine Ops.y (v := .int .i64 _) (Y.assign rfl) ?_
        refine Ops.nil ?_
        refine WP.ret ?_
        repeat (first | refine thenE_ret ?_ | refine blockE_ret ?_)
        exact retQ.mk (vs := [.int .i64 _]) rfl ⟨rfl, trivial⟩ I.ext_of (⟨k, rfl, by rw [not_low hlt hlow]; simp⟩)
    · have hd := decode_high s k hlt (by omega)
      refine WP.seq ?_
      refine WP.region ?_
      refine Ops.y (v := .func _ _ _) (Y.move rfl) ?_
      refine Ops.y (v := .int .i32 _) (Y.move rfl) ?_
      refine Ops.go (O.callcv I Tryz.call164 (fs := []) (cs := []) rfl (Name1_ok _ I.base_ok _) rfl ?_)
      intro w I
      refine Ops.y (v := .bool _) (Y.move rfl) ?_
      refine Ops.y (v := .bool true) (Y.dec_t (Y.eqb Tryz.underlying4 rfl rfl) ((by rw [decide_eq_true (by omega)]))) ?_
      refine Ops.nil ?_
      refine WP.cond_t rfl ?_
      refine WP.seq ?_
      refine WP.region ?_
      refine Ops.y (v := .int .i64 _) (Y.move rfl) ?_
      refine Ops.y (v := .int .i64 _) (Y.assign rfl) ?_
      refine Ops.nil ?_
      refine WP.ret ?_
      repeat (first | refine thenE_ret ?_ | refine blockE_ret ?_)
      exact retQ.mk (vs := [.int .i64 _]) rfl ⟨rfl, trivial⟩ I.ext_of (⟨k, rfl, by rw [not_low hlt (fun h => by have := (low_iff _).1 h; omega)]; simp⟩)
theorem SIndexFunc_ok (B : Base) (hB : B.ok) (s : ByteArray) : Fn Tryz.prog 184 [.string s, .func (.func 164) #[] #[]] B (fun v _ => IdxP s v) := by
  refine Fn.of Tryz.func184 rfl Tryz.ntmps184 (by kernel_rfl) (by simp) ?_
  intro e
  have I := Inv.start hB
  refine WP.seq ?_
  refine WP.region ?_
  refine Ops.y (v := .int .i64 _) (Y.assign rfl) ?_
  refine Ops.nil ?_
  refine WP.seq ?_
  refine WP.region ?_
  refine Ops.y (v := .string _) (Y.move rfl) ?_
  refine Ops.y (v := .func _ _ _) (Y.move rfl) ?_
  refine Ops.go (O.call I Tryz.call194 (indexFunc_ok _ I.base_ok s) rfl ?_)
  rintro _ h2 w I le2 ⟨r, rfl, hr⟩
  refine Ops.y (v := .int .i64 _) (Y.assign rfl) ?_
  refine Ops.nil ?_
  refine WP.ret ?_
  repeat (first | refine thenE_ret ?_ | refine blockE_ret ?_)
  exact retQ.mk (vs := [.int .i64 _]) rfl ⟨rfl, trivial⟩ I.ext_of (⟨r, rfl, hr⟩)
theorem SContainsFunc_ok (B : Base) (hB : B.ok) (s : ByteArray) : Fn Tryz.prog 163 [.string s, .func (.func 164) #[] #[]] B (fun v _ => v = .bool !(s.data.toList.all lowB)) := by
  refine Fn.of Tryz.func163 rfl Tryz.ntmps163 (by kernel_rfl) (by simp) ?_
  intro e
  have I := Inv.start hB
  refine WP.seq ?_
  refine WP.region ?_
  refine Ops.y (v := .bool _) (Y.assign rfl) ?_
  refine Ops.nil ?_
  refine WP.seq ?_
  refine WP.region ?_
  refine Ops.y (v := .string _) (Y.move rfl) ?_
  refine Ops.y (v := .func _ _ _) (Y.move rfl) ?_
  refine Ops.go (O.call I Tryz.call184 (SIndexFunc_ok _ I.base_ok s) rfl ?_)
  rintro _ h2 w I le2 ⟨r, rfl, hr⟩
  refine Ops.y (v := .bool (decide _)) (Y.gei rfl rfl) ?_
  refine Ops.y (v := .bool _) (Y.assign rfl) ?_
  refine Ops.nil ?_
  refine WP.ret ?_
  repeat (first | refine thenE_ret ?_ | refine blockE_ret ?_)
  exact retQ.mk (vs := [.bool _]) rfl ⟨rfl, trivial⟩ I.ext_of (by simp only [tup]; rw [hr])
theorem Name_ok (B : Base) (hB : B.ok) (s : ByteArray) (hs : s.size ≤ 140737488355328) : Fn Tryz.prog 123 [.string s] B (fun v _ => v = .bool (isName s)) := by
  by_cases h1 : (0 : Int) < s.size
  · by_cases h2 : (s.size : Int) ≤ 8
    · refine Fn.of Tryz.func123 rfl Tryz.ntmps123 (by kernel_rfl) (by simp) ?_
      intro e
      have I := Inv.start hB
      refine WP.seq ?_
      refine WP.region ?_
      refine Ops.y (v := .bool _) (Y.assign rfl) ?_
      refine Ops.nil ?_
      refine WP.seq ?_
      refine WP.region ?_
      refine Ops.y (v := .string _) (Y.move rfl) ?_
      refine Ops.y (v := .int .i64 _) (Y.lenstr Tryz.underlying9 rfl) ?_
      refine Ops.y (v := .bool true) (Y.dec_t (Y.gti rfl rfl) (h1)) ?_
      refine Ops.y (v := .bool _) (Y.move rfl) ?_
      refine Ops.ygt rfl (v := .string _) (Y.move rfl) ?_
      refine Ops.ygt rfl (v := .int .i64 _) (Y.lenstr Tryz.underlying9 rfl) ?_
      refine Ops.ygt rfl (v := .bool true) (Y.dec_t (Y.lei rfl rfl) (h2)) ?_
      refine Ops.y (v := .bool _) (Y.pick_t rfl rfl) ?_
      refine Ops.y (v := .bool _) (Y.move rfl) ?_
      refine Ops.ygt rfl (v := .string _) (Y.move rfl) ?_
      refine Ops.gt rfl (O.callv I Tryz.call163 (SContainsFunc_ok _ I.base_ok s) rfl ?_)
      intro w I
      refine Ops.ygt rfl (v := .bool _) (Y.not rfl) ?_
      refine Ops.y (v := .bool _) (Y.pick_t rfl rfl) ?_
      refine Ops.y (v := .bool _) (Y.assign rfl) ?_
      refine Ops.nil ?_
      refine WP.ret ?_
      repeat (first | refine thenE_ret ?_ | refine blockE_ret ?_)
      exact retQ.mk (vs := [.bool _]) rfl ⟨rfl, trivial⟩ I.ext_of (by simp only [tup, isName]; rw [decide_eq_true (show 1 ≤ s.size by omega), decide_eq_true (show s.size ≤ 8 by omega)]; simp)
    · refine Fn.of Tryz.func123 rfl Tryz.ntmps123 (by kernel_rfl) (by simp) ?_
      intro e
      have I := Inv.start hB
      refine WP.seq ?_
      refine WP.region ?_
      refine Ops.y (v := .bool _) (Y.assign rfl) ?_
      refine Ops.nil ?_
      refine WP.seq ?_
      refine WP.region ?_
      refine Ops.y (v := .string _) (Y.move rfl) ?_
      refine Ops.y (v := .int .i64 _) (Y.lenstr Tryz.underlying9 rfl) ?_
      refine Ops.y (v := .bool true) (Y.dec_t (Y.gti rfl rfl) (h1)) ?_
      refine Ops.y (v := .bool _) (Y.move rfl) ?_
      refine Ops.ygt rfl (v := .string _) (Y.move rfl) ?_
      refine Ops.ygt rfl (v := .int .i64 _) (Y.lenstr Tryz.underlying9 rfl) ?_
      refine Ops.ygt rfl (v := .bool false) (Y.dec_f (Y.lei rfl rfl) (h2)) ?_
      refine Ops.y (v := .bool _) (Y.pick_t rfl rfl) ?_
      refine Ops.y (v := .bool _) (Y.move rfl) ?_
      refine Ops.gf rfl ?_
      refine Ops.gf rfl ?_
      refine Ops.gf rfl ?_
      refine Ops.y (v := .bool _) (Y.pick_f rfl rfl) ?_
      refine Ops.y (v := .bool _) (Y.assign rfl) ?_
      refine Ops.nil ?_
      refine WP.ret ?_
      repeat (first | refine thenE_ret ?_ | refine blockE_ret ?_)
      exact retQ.mk (vs := [.bool _]) rfl ⟨rfl, trivial⟩ I.ext_of (by simp only [tup, isName]; rw [decide_eq_false (show ¬ s.size ≤ 8 by omega)]; simp)
  · refine Fn.of Tryz.func123 rfl Tryz.ntmps123 (by kernel_rfl) (by simp) ?_
    intro e
    have I := Inv.start hB
    refine WP.seq ?_
    refine WP.region ?_
    refine Ops.y (v := .bool _) (Y.assign rfl) ?_
    refine Ops.nil ?_
    refine WP.seq ?_
    refine WP.region ?_
    refine Ops.y (v := .string _) (Y.move rfl) ?_
    refine Ops.y (v := .int .i64 _) (Y.lenstr Tryz.underlying9 rfl) ?_
    refine Ops.y (v := .bool false) (Y.dec_f (Y.gti rfl rfl) (h1)) ?_
    refine Ops.y (v := .bool _) (Y.move rfl) ?_
    refine Ops.gf rfl ?_
    refine Ops.gf rfl ?_
    refine Ops.gf rfl ?_
    refine Ops.y (v := .bool _) (Y.pick_f rfl rfl) ?_
    refine Ops.y (v := .bool _) (Y.move rfl) ?_
    refine Ops.gf rfl ?_
    refine Ops.gf rfl ?_
    refine Ops.gf rfl ?_
    refine Ops.y (v := .bool _) (Y.pick_f rfl rfl) ?_
    refine Ops.y (v := .bool _) (Y.assign rfl) ?_
    refine Ops.nil ?_
    refine WP.ret ?_
    repeat (first | refine thenE_ret ?_ | refine blockE_ret ?_)
    exact retQ.mk (vs := [.bool _]) rfl ⟨rfl, trivial⟩ I.ext_of (by simp only [tup, isName]; rw [decide_eq_false (show ¬ 1 ≤ s.size by omega)]; simp)
end Go.TF
end
section
/- prog.Check. -/
namespace Go.TF
open Go Go.RowKit Go.Proofs
set_option maxRecDepth 20000

theorem Check2_ok (B : Base) (hB : B.ok) (x : Prd) (hx : x.name.size ≤ 140737488355328) : Fn Tryz.prog 122 [x.val] B (fun v _ => v = .bool !(isName x.name)) := by
  refine Fn.of Tryz.func122 rfl Tryz.ntmps122 (by kernel_rfl) (by simp) ?_
  intro e
  have I := Inv.start hB
  refine WP.seq ?_
  refine WP.region ?_
  refine Ops.go (O.box (v := .agg #[_, _, _]) I rfl rfl ?_)
  intro b1 w I
  refine Ops.y (v := .bool _) (Y.assign rfl) ?_
  refine Ops.nil ?_
  refine WP.seq ?_
  refine WP.region ?_
  refine Ops.y (v := .pointer (some ⟨_, _, none⟩)) (Y.fa0 fa_62_0 rfl) ?_
  refine Ops.y (v := .string _) (Y.loadv ty_9 rfl (I.rdbox 0 rfl 0 1) rfl rfl) ?_
  refine Ops.go (O.callv I Tryz.call123 (Name_ok _ I.base_ok x.name hx) rfl ?_)
  intro w I
  refine Ops.y (v := .bool _) (Y.not rfl) ?_
  refine Ops.y (v := .bool _) (Y.assign rfl) ?_
  refine Ops.nil ?_
  refine WP.ret ?_
  repeat (first | refine thenE_ret ?_ | refine blockE_ret ?_)
  exact retQ.mk (vs := [.bool _]) rfl ⟨rfl, trivial⟩ I.ext_of (rfl)
theorem Check4_ok (B : Base) (hB : B.ok) (x : Prd) : Fn Tryz.prog 125 [x.val] B (fun v _ => v = .bool (badArity x)) := by
  by_cases h : x.arity < 0
  · refine Fn.of Tryz.func125 rfl Tryz.ntmps125 (by kernel_rfl) (by simp) ?_
    intro e
    have I := Inv.start hB
    refine WP.seq ?_
    refine WP.region ?_
    refine Ops.go (O.box (v := .agg #[_, _, _]) I rfl rfl ?_)
    intro b1 w I
    refine Ops.y (v := .bool _) (Y.assign rfl) ?_
    refine Ops.nil ?_
    refine WP.seq ?_
    refine WP.region ?_
    refine Ops.y (v := .pointer (some ⟨_, _, none⟩)) (Y.fa fa_62_1 rfl) ?_
    refine Ops.y (v := .int .i64 _) (Y.loadv ty_3 rfl (I.rdbox 0 rfl 1 1) rfl rfl) ?_
    refine Ops.y (v := .bool true) (Y.dec_t (Y.lti rfl rfl) (h)) ?_
    refine Ops.y (v := .bool _) (Y.move rfl) ?_
    refine Ops.gf rfl ?_
    refine Ops.gf rfl ?_
    refine Ops.gf rfl ?_
    refine Ops.y (v := .bool _) (Y.pick_t rfl rfl) ?_
    refine Ops.y (v := .bool _) (Y.assign rfl) ?_
    refine Ops.nil ?_
    refine WP.ret ?_
    repeat (first | refine thenE_ret ?_ | refine blockE_ret ?_)
    exact retQ.mk (vs := [.bool _]) rfl ⟨rfl, trivial⟩ I.ext_of (by simp only [tup, badArity]; rw [decide_eq_true (Or.inl h)])
  · refine Fn.of Tryz.func125 rfl Tryz.ntmps125 (by kernel_rfl) (by simp) ?_
    intro e
    have I := Inv.start hB
    refine WP.seq ?_
    refine WP.region ?_
    refine Ops.go (O.box (v := .agg #[_, _, _]) I rfl rfl ?_)
    intro b1 w I
    refine Ops.y (v := .bool _) (Y.assign rfl) ?_
    refine Ops.nil ?_
    refine WP.seq ?_
    refine WP.region ?_
    refine Ops.y (v := .pointer (some ⟨_, _, none⟩)) (Y.fa fa_62_1 rfl) ?_
    refine Ops.y (v := .int .i64 _) (Y.loadv ty_3 rfl (I.rdbox 0 rfl 1 1) rfl rfl) ?_
    refine Ops.y (v := .bool false) (Y.dec_f (Y.lti rfl rfl) (h)) ?_
    refine Ops.y (v := .bool _) (Y.move rfl) ?_
    refine Ops.ygt rfl (v := .pointer (some ⟨_, _, none⟩)) (Y.fa fa_62_1 rfl) ?_
    refine Ops.ygt rfl (v := .int .i64 _) (Y.loadv ty_3 rfl (I.rdbox 0 rfl 1 1) rfl rfl) ?_
    refine Ops.ygt rfl (v := .bool (decide _)) (Y.gti rfl rfl) ?_
    refine Ops.y (v := .bool _) (Y.pick_f rfl rfl) ?_
    refine Ops.y (v := .bool _) (Y.assign rfl) ?_
    refine Ops.nil ?_
    refine WP.ret ?_
    repeat (first | refine thenE_ret ?_ | refine blockE_ret ?_)
    exact retQ.mk (vs := [.bool _]) rfl ⟨rfl, trivial⟩ I.ext_of (by simp only [tup, badArity]; congr 1; rw [decide_eq_decide]; omega)
theorem Check5_ok (B : Base) (hB : B.ok) (x : Prd) : Fn Tryz.prog 126 [x.val] B (fun v _ => v = .bool (badKind x)) := by
  by_cases h : x.kind < 0
  · refine Fn.of Tryz.func126 rfl Tryz.ntmps126 (by kernel_rfl) (by simp) ?_
    intro e
    have I := Inv.start hB
    refine WP.seq ?_
    refine WP.region ?_
    refine Ops.go (O.box (v := .agg #[_, _, _]) I rfl rfl ?_)
    intro b1 w I
    refine Ops.y (v := .bool _) (Y.assign rfl) ?_
    refine Ops.nil ?_
    refine WP.seq ?_
    refine WP.region ?_
    refine Ops.y (v := .pointer (some ⟨_, _, none⟩)) (Y.fa fa_62_2 rfl) ?_
    refine Ops.y (v := .int .i64 _) (Y.loadv ty_3 rfl (I.rdbox 0 rfl 2 1) rfl rfl) ?_
    refine Ops.y (v := .bool true) (Y.dec_t (Y.lti rfl rfl) (h)) ?_
    refine Ops.y (v := .bool _) (Y.move rfl) ?_
    refine Ops.gf rfl ?_
    refine Ops.gf rfl ?_
    refine Ops.gf rfl ?_
    refine Ops.y (v := .bool _) (Y.pick_t rfl rfl) ?_
    refine Ops.y (v := .bool _) (Y.assign rfl) ?_
    refine Ops.nil ?_
    refine WP.ret ?_
    repeat (first | refine thenE_ret ?_ | refine blockE_ret ?_)
    exact retQ.mk (vs := [.bool _]) rfl ⟨rfl, trivial⟩ I.ext_of (by simp only [tup, badKind]; rw [decide_eq_true (Or.inl h)])
  · refine Fn.of Tryz.func126 rfl Tryz.ntmps126 (by kernel_rfl) (by simp) ?_
    intro e
    have I := Inv.start hB
    refine WP.seq ?_
    refine WP.region ?_
    refine Ops.go (O.box (v := .agg #[_, _, _]) I rfl rfl ?_)
    intro b1 w I
    refine Ops.y (v := .bool _) (Y.assign rfl) ?_
    refine Ops.nil ?_
    refine WP.seq ?_
    refine WP.region ?_
    refine Ops.y (v := .pointer (some ⟨_, _, none⟩)) (Y.fa fa_62_2 rfl) ?_
    refine Ops.y (v := .int .i64 _) (Y.loadv ty_3 rfl (I.rdbox 0 rfl 2 1) rfl rfl) ?_
    refine Ops.y (v := .bool false) (Y.dec_f (Y.lti rfl rfl) (h)) ?_
    refine Ops.y (v := .bool _) (Y.move rfl) ?_
    refine Ops.ygt rfl (v := .pointer (some ⟨_, _, none⟩)) (Y.fa fa_62_2 rfl) ?_
    refine Ops.ygt rfl (v := .int .i64 _) (Y.loadv ty_3 rfl (I.rdbox 0 rfl 2 1) rfl rfl) ?_
    refine Ops.ygt rfl (v := .bool (decide _)) (Y.gti rfl rfl) ?_
    refine Ops.y (v := .bool _) (Y.pick_f rfl rfl) ?_
    refine Ops.y (v := .bool _) (Y.assign rfl) ?_
    refine Ops.nil ?_
    refine WP.ret ?_
    repeat (first | refine thenE_ret ?_ | refine blockE_ret ?_)
    exact retQ.mk (vs := [.bool _]) rfl ⟨rfl, trivial⟩ I.ext_of (by simp only [tup, badKind]; congr 1; rw [decide_eq_decide]; omega)
theorem PChk1_ok (B : Base) (hB : B.ok) (p : Prg) (b : Nat) (hb : PBox B.h b p) (hl : Prds p.preds B.h) (f : FuncId) (ent : Enters Tryz.prog f) (fs cs : List Value) (q : Prd → Bool) (hq : PredFn Tryz.prog f fs cs B.h Prd.val p.preds.xs q) :
    Fn Tryz.prog 121 [.func (.func f) fs.toArray cs.toArray, .pointer (some ⟨b, 0, none⟩)] B (fun v _ => v = .bool (p.preds.xs.any q)) := by
  refine Fn.of Tryz.func121 rfl Tryz.ntmps121 (by kernel_rfl) (by simp) ?_
  intro e
  have I := Inv.start hB
  refine WP.seq ?_
  refine WP.region ?_
  refine Ops.y (v := .bool _) (Y.assign rfl) ?_
  refine Ops.nil ?_
  refine WP.seq ?_
  refine WP.region ?_
  refine Ops.y (v := .pointer (some ⟨_, _, none⟩)) (Y.fa0 fa_25_0 rfl) ?_
  refine Ops.y (v := .slice _ _ _) (Y.loadv ty_22 rfl (I.rd (rdHb hb 0 1)) rfl rfl) ?_
  refine Ops.y (v := .func _ _ _) (Y.move rfl) ?_
  refine Ops.go (O.callv I Tryz.call104 (ContainsFuncPrd_ok _ I.base_ok p.preds hl f ent fs cs q hq) rfl ?_)
  intro w I
  refine Ops.y (v := .bool _) (Y.assign rfl) ?_
  refine Ops.nil ?_
  refine WP.ret ?_
  repeat (first | refine thenE_ret ?_ | refine blockE_ret ?_)
  exact retQ.mk (vs := [.bool _]) rfl ⟨rfl, trivial⟩ I.ext_of (rfl)

/-! ### A predicate that keeps something -/
theorem IndexFuncPrd_S (l : Sl Prd) (h0 : Heap) (hl : l.Is 3 Prd.enc h0) (f : FuncId) (ent : Enters Tryz.prog f) (fs cs : List Value) (J : Heap → Nat → World → Prop) (q : Nat → Bool)
    (hok : ∀ hg k W, J hg k W → Base.ok ⟨W, hg⟩)
    (hp : ∀ hg k x W, h0.le hg → l.xs[k]? = some x → J hg k W → Calls Tryz.prog f (fs ++ [x.val] ++ cs).toArray W fun ed W' => ed = .returned (.bool (q k)) ∧ ∃ hg', hg.le hg' ∧ J hg' (k + 1) W') (hg : Heap) (W : World) (hle : h0.le hg) (j0 : J hg 0 W) :
    Calls Tryz.prog 155 [l.val, .func (.func f) fs.toArray cs.toArray].toArray W (fun ed W' => ∃ r : Int, ed = .returned (.int .i64 r) ∧ decide (0 ≤ r) = (List.range l.xs.length).any q ∧ ∃ hg' k, hg.le hg' ∧ J hg' k W') := by
  have hsm := hl.small
  refine Calls.ofWP (args := [l.val, .func (.func f) fs.toArray cs.toArray]) Tryz.func155 rfl Tryz.ntmps155 (by kernel_rfl) (by simp) ?_
  intro e
  refine WP.seq ?_
  refine WP.region ?_
  refine Ops.y (v := .int .i64 _) (Y.assign rfl) ?_
  refine Ops.nil ?_
  refine WP.seq ?_
  refine WP.seq ?_
  refine WP.region ?_
  refine Ops.y (v := .slice _ _ _) (Y.move rfl) ?_
  refine Ops.y (v := .int .i64 _) (Y.lens Tryz.underlying22 rfl) ?_
  refine Ops.y (v := .int .i64 _) (Y.move rfl) ?_
  refine Ops.nil ?_
  refine WP.block ?_
  refine WP.loopE (σ := Nat) (fun k => [(0, l.val), (1, .func (.func f) fs.toArray cs.toArray), (7, .int .i64 l.xs.length), (8, .int .i64 k)]) (fun k w => k ≤ l.xs.length ∧ (∀ j, j < k → q j = false) ∧ ∃ h1, hg.le h1 ∧ J h1 k w) (fun k => l.xs.length - k)
    ⟨0, ⟨rfl, rfl, rfl, rfl, trivial⟩, Nat.zero_le _, fun j hj => by omega, hg, Heap.le.refl _, j0⟩ ?_
  rintro k e w ⟨hk, hn, h1, gl1, j1⟩
  have I := Inv.start (hok _ _ _ j1)
  refine WP.seq ?_
  refine WP.region ?_
  refine Ops.y (v := .bool (decide _)) (Y.lti rfl rfl) ?_
  refine Ops.nil ?_
  refine WP.seq ?_
  refine WP.cond_dec rfl (fun h => ?_) (fun h => ?_)
  · have hk' : k < l.xs.length := by omega
    have E1 := (hl.le (hle.trans gl1)).at hk'
    refine WP.skip ?_
    refine WP.seq ?_
    refine WP.block ?_
    refine WP.seq ?_
    refine WP.region ?_
    refine Ops.y (v := .int .i64 _) (Y.move rfl) ?_
    refine Ops.y (v := .int .i64 _) (Y.assign rfl) ?_
    refine Ops.nil ?_
    refine WP.seq ?_
    refine WP.region ?_
    refine Ops.y (v := .func _ _ _) (Y.move rfl) ?_
    refine Ops.y (v := .slice _ _ _) (Y.move rfl) ?_
    refine Ops.y (v := .int .i64 _) (Y.move rfl) ?_
    refine Ops.y (v := .pointer (some ⟨_, _, none⟩)) (Y.idxEl E1 Tryz.underlying22 Tryz.sizeOf62 rfl rfl (Int.natCast_nonneg _) rfl) ?_
    refine Ops.y (v := .agg #[_, _, _]) (Y.loadv ty_62 rfl (I.rd (E1.rd.part 0 3)) rfl rfl) ?_
    refine Ops.go (O.callcs ent rfl (hp h1 k _ _ (hle.trans gl1) (List.getElem?_eq_getElem hk') j1) rfl ?_)
    rintro ed w ⟨rfl, h2, gl2, j2⟩
    refine ⟨_, rfl, ?_⟩
    refine Ops.nil ?_
    refine WP.cond rfl (fun hb => ?_) (fun hb => ?_)
    · refine WP.seq ?_
      refine WP.region ?_
      refine Ops.y (v := .int .i64 _) (Y.move rfl) ?_
      refine Ops.y (v := .int .i64 _) (Y.assign rfl) ?_
      refine Ops.nil ?_
      refine WP.ret ?_
      repeat (first | refine thenE_ret ?_ | refine blockE_ret ?_)
      exact ⟨.inl rfl, [.int .i64 k], ⟨rfl, trivial⟩, k, rfl, by rw [decide_eq_true (Int.natCast_nonneg _)]; exact (List.any_eq_true.2 ⟨k, List.mem_range.2 hk', hb⟩).symm, h2, k + 1, gl1.trans gl2, j2⟩
    refine WP.skip ?_
    refine WP.region ?_
    refine Ops.y (v := .int .i64 _) (Y.addi rfl rfl ⟨by omega, by omega⟩) ?_
    refine Ops.y (v := .int .i64 _) (Y.move rfl) ?_
    refine Ops.nil ?_
    exact ⟨k + 1, ⟨⟨rfl, rfl, rfl, rfl, trivial⟩, hk', fun j hj => by
      rcases Nat.lt_succ_iff_lt_or_eq.1 hj with h' | rfl
      · exact hn j h'
      · exact hb, h2, gl1.trans gl2, j2⟩, by omega⟩
  refine WP.exit ?_
  refine WP.seq ?_
  refine WP.region ?_
  refine Ops.y (v := .int .i64 _) (Y.assign rfl) ?_
  refine Ops.nil ?_
  refine WP.ret ?_
  repeat (first | refine thenE_ret ?_ | refine blockE_ret ?_)
  exact ⟨.inl rfl, [.int .i64 (-1)], ⟨rfl, trivial⟩, -1, rfl, by
    rw [decide_eq_false (by omega)]
    symm
    rw [List.any_eq_false]
    intro j hj
    rw [hn j (by have := List.mem_range.1 hj; omega)]; decide, h1, k, gl1, j1⟩
theorem ContainsFuncPrd_S (l : Sl Prd) (h0 : Heap) (hl : l.Is 3 Prd.enc h0) (f : FuncId) (ent : Enters Tryz.prog f) (fs cs : List Value) (J : Heap → Nat → World → Prop) (q : Nat → Bool)
    (hok : ∀ hg k W, J hg k W → Base.ok ⟨W, hg⟩)
    (hp : ∀ hg k x W, h0.le hg → l.xs[k]? = some x → J hg k W → Calls Tryz.prog f (fs ++ [x.val] ++ cs).toArray W fun ed W' => ed = .returned (.bool (q k)) ∧ ∃ hg', hg.le hg' ∧ J hg' (k + 1) W') (hg : Heap) (W : World) (hle : h0.le hg) (j0 : J hg 0 W) :
    Calls Tryz.prog 104 [l.val, .func (.func f) fs.toArray cs.toArray].toArray W (fun ed W' => ed = .returned (.bool ((List.range l.xs.length).any q)) ∧ ∃ hg' k, hg.le hg' ∧ J hg' k W') := by
  refine Calls.ofWP (args := [l.val, .func (.func f) fs.toArray cs.toArray]) Tryz.func104 rfl Tryz.ntmps104 (by kernel_rfl) (by simp) ?_
  intro e
  have I := Inv.start (hok _ _ _ j0)
  refine WP.seq ?_
  refine WP.region ?_
  refine Ops.y (v := .bool _) (Y.assign rfl) ?_
  refine Ops.nil ?_
  refine WP.seq ?_
  refine WP.region ?_
  refine Ops.y (v := .slice _ _ _) (Y.move rfl) ?_
  refine Ops.y (v := .func _ _ _) (Y.move rfl) ?_
  refine Ops.go (O.calls Tryz.call155 (IndexFuncPrd_S l h0 hl f ent fs cs J q hok hp hg _ hle j0) rfl ?_)
  rintro ed w ⟨r, rfl, hr, h2, k, gl2, j2⟩
  refine ⟨_, rfl, ?_⟩
  refine Ops.y (v := .bool (decide _)) (Y.gei rfl rfl) ?_
  refine Ops.y (v := .bool _) (Y.assign rfl) ?_
  refine Ops.nil ?_
  refine WP.ret ?_
  repeat (first | refine thenE_ret ?_ | refine blockE_ret ?_)
  exact ⟨.inl rfl, [.bool _], ⟨rfl, trivial⟩, by rw [← hr]; rfl, h2, k, gl2, j2⟩
theorem Check1_S (p : Prg) (b : Nat) (h0 : Heap) (hb : PBox h0 b p) (hl : Prds p.preds h0) (f : FuncId) (ent : Enters Tryz.prog f) (fs cs : List Value) (J : Heap → Nat → World → Prop) (q : Nat → Bool)
    (hok : ∀ hg k W, J hg k W → Base.ok ⟨W, hg⟩)
    (hp : ∀ hg k x W, h0.le hg → p.preds.xs[k]? = some x → J hg k W → Calls Tryz.prog f (fs ++ [x.val] ++ cs).toArray W fun ed W' => ed = .returned (.bool (q k)) ∧ ∃ hg', hg.le hg' ∧ J hg' (k + 1) W') (hg : Heap) (W : World) (hle : h0.le hg) (j0 : J hg 0 W) :
    Calls Tryz.prog 121 [.func (.func f) fs.toArray cs.toArray, .pointer (some ⟨b, 0, none⟩)].toArray W (fun ed W' => ed = .returned (.bool ((List.range p.preds.xs.length).any q)) ∧ ∃ hg' k, hg.le hg' ∧ J hg' k W') := by
  refine Calls.ofWP (args := [.func (.func f) fs.toArray cs.toArray, .pointer (some ⟨b, 0, none⟩)]) Tryz.func121 rfl Tryz.ntmps121 (by kernel_rfl) (by simp) ?_
  intro e
  have I := Inv.start (hok _ _ _ j0)
  refine WP.seq ?_
  refine WP.region ?_
  refine Ops.y (v := .bool _) (Y.assign rfl) ?_
  refine Ops.nil ?_
  refine WP.seq ?_
  refine WP.region ?_
  refine Ops.y (v := .pointer (some ⟨_, _, none⟩)) (Y.fa0 fa_25_0 rfl) ?_
  refine Ops.y (v := .slice _ _ _) (Y.loadv ty_22 rfl (I.rd ((rdHb hb 0 1).le hle)) rfl rfl) ?_
  refine Ops.y (v := .func _ _ _) (Y.move rfl) ?_
  refine Ops.go (O.calls Tryz.call104 (ContainsFuncPrd_S p.preds h0 hl f ent fs cs J q hok hp hg _ hle j0) rfl ?_)
  rintro ed w ⟨rfl, h2, k, gl2, j2⟩
  refine ⟨_, rfl, ?_⟩
  refine Ops.y (v := .bool _) (Y.assign rfl) ?_
  refine Ops.nil ?_
  refine WP.ret ?_
  repeat (first | refine thenE_ret ?_ | refine blockE_ret ?_)
  exact ⟨.inl rfl, [.bool _], ⟨rfl, trivial⟩, rfl, h2, k, gl2, j2⟩
theorem Check3_S (B : Base) (h : Heap) (b4 bm : Nat) (es : List (ByteArray × Int)) (W : World) (I : Inv B h [box b4 [.map (some bm)] 156, smap bm es] W) (x : Prd) (hr : I64 ((slook es x.name).getD 0 + 1)) :
    Calls Tryz.prog 124 [x.val, .pointer (some ⟨b4, 0, none⟩)].toArray W (fun ed W' => ed = .returned (.bool (decide (1 < (slook es x.name).getD 0 + 1))) ∧ Inv B h [box b4 [.map (some bm)] 156, smap bm (sset es x.name ((slook es x.name).getD 0 + 1))] W') := by
  refine Calls.ofWP (args := [x.val, .pointer (some ⟨b4, 0, none⟩)]) Tryz.func124 rfl Tryz.ntmps124 (by kernel_rfl) (by simp) ?_
  intro e
  refine WP.seq ?_
  refine WP.region ?_
  refine Ops.go (O.box (v := .agg #[_, _, _]) I rfl rfl ?_)
  intro b2 w I
  refine Ops.y (v := .bool _) (Y.assign rfl) ?_
  refine Ops.nil ?_
  refine WP.seq ?_
  refine WP.region ?_
  refine Ops.y (v := .map _) (Y.loadv ty_156 rfl (I.rdbox 1 rfl 0 1) rfl rfl) ?_
  refine Ops.y (v := .pointer (some ⟨_, _, none⟩)) (Y.fa0 fa_62_0 rfl) ?_
  refine Ops.y (v := .string _) (Y.loadv ty_9 rfl (I.rdbox 0 rfl 0 1) rfl rfl) ?_
  refine Ops.y (v := .int .i64 _) (Y.lookups I Tryz.underlying156 Tryz.underlying9 Tryz.zeroValue3 2 rfl rfl rfl) ?_
  refine Ops.y (v := .int .i64 _) (Y.addi rfl rfl hr) ?_
  refine Ops.go (O.mapsets I Tryz.underlying156 Tryz.underlying9 2 rfl rfl rfl rfl ?_)
  intro w I
  refine Ops.nil ?_
  refine WP.seq ?_
  refine WP.region ?_
  refine Ops.y (v := .map _) (Y.loadv ty_156 rfl (I.rdbox 1 rfl 0 1) rfl rfl) ?_
  refine Ops.y (v := .pointer (some ⟨_, _, none⟩)) (Y.fa0 fa_62_0 rfl) ?_
  refine Ops.y (v := .string _) (Y.loadv ty_9 rfl (I.rdbox 0 rfl 0 1) rfl rfl) ?_
  refine Ops.y (v := .int .i64 _) (Y.lookups I Tryz.underlying156 Tryz.underlying9 Tryz.zeroValue3 2 rfl rfl rfl) ?_
  refine Ops.y (v := .bool (decide _)) (Y.gti rfl rfl) ?_
  refine Ops.y (v := .bool _) (Y.assign rfl) ?_
  refine Ops.nil ?_
  refine WP.ret ?_
  repeat (first | refine thenE_ret ?_ | refine blockE_ret ?_)
  have hs : slook (sset es x.name ((slook es x.name).getD 0 + 1)) x.name = some ((slook es x.name).getD 0 + 1) := by rw [slook_sset, if_pos rfl]
  exact ⟨.inl rfl, [.bool (decide (1 < (slook es x.name).getD 0 + 1))], ⟨by rw [hs]; rfl, trivial⟩, rfl, I.drop⟩
end Go.TF
end
section
/- prog.Check, whole. -/
namespace Go.TF
open Go Go.RowKit Go.Proofs
set_option maxRecDepth 20000

def SeenJ (B : Base) (h0 : Heap) (l : List Prd) (b4 bm : Nat) (hg : Heap) (k : Nat) (W : World) : Prop :=
  h0.le hg ∧ ∃ es, Inv B hg [box b4 [.map (some bm)] 156, smap bm es] W ∧ ∀ s, (slook es s).getD 0 = (((l.take k).countP fun y => decide (y.name = s) : Nat) : Int)
theorem early_iff {l : List Prd} {k : Nat} {x : Prd} (hx : l[k]? = some x) : early l k = decide ((1 : Int) < (((l.take k).countP fun y => decide (y.name = x.name) : Nat) : Int) + 1) := by
  have hd : (l.getD k default).name = x.name := by simp [List.getD_eq_getElem?_getD, hx]
  unfold early
  rw [hd]
  by_cases h : (l.take k).any (fun y => decide (y.name = x.name)) = true
  · rw [h]
    rw [List.any_eq_true] at h
    have := List.countP_pos_iff.2 h
    exact (decide_eq_true (by omega)).symm
  · have h' : (l.take k).any (fun y => decide (y.name = x.name)) = false := by simpa using h
    rw [h']
    have h0 : ¬ 0 < (l.take k).countP fun y => decide (y.name = x.name) := fun hp => h (List.any_eq_true.2 (List.countP_pos_iff.1 hp))
    exact (decide_eq_false (by omega)).symm
theorem seen_round (B : Base) (h0 : Heap) (l : List Prd) (b4 bm : Nat) (h5 : l.length ≤ 5) (hg : Heap) (k : Nat) (x : Prd) (W : World) (hx : l[k]? = some x) (j : SeenJ B h0 l b4 bm hg k W) :
    Calls Tryz.prog 124 (([] : List Value) ++ [x.val] ++ [Value.pointer (some ⟨b4, 0, none⟩)]).toArray W fun ed W' => ed = .returned (.bool (early l k)) ∧ ∃ hg', hg.le hg' ∧ SeenJ B h0 l b4 bm hg' (k + 1) W' := by
  obtain ⟨gl, es, I, hes⟩ := j
  have hk := (List.getElem?_eq_some_iff.1 hx).1
  have hle : (l.take k).countP (fun y => decide (y.name = x.name)) ≤ 5 := Nat.le_trans List.countP_le_length (by simp; omega)
  refine (Check3_S B hg b4 bm es W I x (by rw [hes]; exact ⟨by omega, by omega⟩)).mono ?_
  rintro ed W' ⟨rfl, I'⟩
  refine ⟨by rw [early_iff hx, hes], hg, Heap.le.refl _, gl, _, I', fun s => ?_⟩
  have hx' : l[k] = x := (List.getElem?_eq_some_iff.1 hx).2
  rw [slook_sset, List.take_succ_eq_append_getElem hk, List.countP_append, hx']
  by_cases e : s = x.name
  · subst e; simp [hes]
  · rw [if_neg e, hes]
    simp [Ne.symm e]
set_option maxHeartbeats 4000000 in
theorem PCheck_ok (B : Base) (hB : B.ok) (p : Prg) (hp : p.In B.h) (hnm : p.Nm) : Fn Tryz.prog 56 [p.val] B (fun v _ => v = .int .i64 (checkProg p)) := by
  refine Fn.of Tryz.func56 rfl Tryz.ntmps56 (by kernel_rfl) (by simp) ?_
  intro e
  have I := Inv.start hB
  refine WP.seq ?_
  refine WP.region ?_
  refine Ops.go (O.box (v := .agg #[_, _]) I rfl rfl ?_)
  intro b1 w I
  refine Ops.y (v := .int .i64 _) (Y.assign rfl) ?_
  refine Ops.nil ?_
  have hb1 := I.at 0 rfl
  obtain ⟨h1, le1, hh1, I⟩ := I.settle
  have hb1 : PBox h1 b1 p := (hh1 b1 (by simp [box])).trans hb1
  have hp := hp.le le1
  have hsp := hp.preds.small
  have hsr := hp.rules.is.small
  refine WP.seq ?_
  refine WP.seq ?_
  by_cases o0 : 5 < (p.preds.xs.length : Int)
  · refine WP.region ?_
    refine Ops.y (v := .pointer (some ⟨_, _, none⟩)) (Y.fa0 fa_25_0 rfl) ?_
    refine Ops.y (v := .slice _ _ _) (Y.loadv ty_22 rfl (I.rd (rdHb hb1 0 1)) rfl rfl) ?_
    refine Ops.y (v := .int .i64 _) (Y.lens Tryz.underlying22 rfl) ?_
    refine Ops.y (v := .bool true) (Y.dec_t (Y.gti rfl rfl) (o0)) ?_
    refine Ops.y (v := .bool _) (Y.move rfl) ?_
    refine Ops.gf rfl ?_
    refine Ops.gf rfl ?_
    refine Ops.gf rfl ?_
    refine Ops.gf rfl ?_
    refine Ops.y (v := .bool _) (Y.pick_t rfl rfl) ?_
    refine Ops.nil ?_
    refine WP.cond_t rfl ?_
    refine WP.seq ?_
    refine WP.region ?_
    refine Ops.y (v := .int .i64 _) (Y.assign rfl) ?_
    refine Ops.nil ?_
    refine WP.ret ?_
    repeat (first | refine thenE_ret ?_ | refine blockE_ret ?_)
    exact retQ.mk (vs := [.int .i64 _]) rfl ⟨rfl, trivial⟩ I.ext_of (by simp only [tup, checkProg]; rw [if_pos (by omega)])
  by_cases o1 : 8 < (p.rules.xs.length : Int)
  · refine WP.region ?_
    refine Ops.y (v := .pointer (some ⟨_, _, none⟩)) (Y.fa0 fa_25_0 rfl) ?_
    refine Ops.y (v := .slice _ _ _) (Y.loadv ty_22 rfl (I.rd (rdHb hb1 0 1)) rfl rfl) ?_
    refine Ops.y (v := .int .i64 _) (Y.lens Tryz.underlying22 rfl) ?_
    refine Ops.y (v := .bool false) (Y.dec_f (Y.gti rfl rfl) (o0)) ?_
    refine Ops.y (v := .bool _) (Y.move rfl) ?_
    refine Ops.ygt rfl (v := .pointer (some ⟨_, _, none⟩)) (Y.fa fa_25_1 rfl) ?_
    refine Ops.ygt rfl (v := .slice _ _ _) (Y.loadv ty_23 rfl (I.rd (rdHb hb1 1 1)) rfl rfl) ?_
    refine Ops.ygt rfl (v := .int .i64 _) (Y.lens Tryz.underlying23 rfl) ?_
    refine Ops.ygt rfl (v := .bool true) (Y.dec_t (Y.gti rfl rfl) (o1)) ?_
    refine Ops.y (v := .bool _) (Y.pick_f rfl rfl) ?_
    refine Ops.nil ?_
    refine WP.cond_t rfl ?_
    refine WP.seq ?_
    refine WP.region ?_
    refine Ops.y (v := .int .i64 _) (Y.assign rfl) ?_
    refine Ops.nil ?_
    refine WP.ret ?_
    repeat (first | refine thenE_ret ?_ | refine blockE_ret ?_)
    exact retQ.mk (vs := [.int .i64 _]) rfl ⟨rfl, trivial⟩ I.ext_of (by simp only [tup, checkProg]; rw [if_pos (by omega)])
  refine WP.region ?_
  refine Ops.y (v := .pointer (some ⟨_, _, none⟩)) (Y.fa0 fa_25_0 rfl) ?_
  refine Ops.y (v := .slice _ _ _) (Y.loadv ty_22 rfl (I.rd (rdHb hb1 0 1)) rfl rfl) ?_
  refine Ops.y (v := .int .i64 _) (Y.lens Tryz.underlying22 rfl) ?_
  refine Ops.y (v := .bool false) (Y.dec_f (Y.gti rfl rfl) (o0)) ?_
  refine Ops.y (v := .bool _) (Y.move rfl) ?_
  refine Ops.ygt rfl (v := .pointer (some ⟨_, _, none⟩)) (Y.fa fa_25_1 rfl) ?_
  refine Ops.ygt rfl (v := .slice _ _ _) (Y.loadv ty_23 rfl (I.rd (rdHb hb1 1 1)) rfl rfl) ?_
  refine Ops.ygt rfl (v := .int .i64 _) (Y.lens Tryz.underlying23 rfl) ?_
  refine Ops.ygt rfl (v := .bool false) (Y.dec_f (Y.gti rfl rfl) (o1)) ?_
  refine Ops.y (v := .bool _) (Y.pick_f rfl rfl) ?_
  refine Ops.nil ?_
  refine WP.cond_f rfl ?_
  have c0 : ¬ (5 < p.preds.xs.length ∨ 8 < p.rules.xs.length) := by omega
  refine WP.skip ?_
  refine WP.seq ?_
  refine WP.region ?_
  refine Ops.y (v := .func _ _ _) (Y.mkfunc rfl rfl) ?_
  refine Ops.y (v := .func _ _ _) (Y.assign rfl) ?_
  refine Ops.nil ?_
  refine WP.seq ?_
  refine WP.region ?_
  refine Ops.go (O.mkmaps I ?_)
  intro bm w I
  refine Ops.go (O.alloc I Tryz.zeroValue156 rfl ?_)
  intro b4 w I
  refine Ops.go (O.store (v := .map _) I ty_156 0 rfl rfl rfl rfl rfl rfl (Nat.le_of_ble_eq_true rfl) rfl ?_)
  intro w I
  refine Ops.nil ?_
  refine WP.seq ?_
  refine WP.block ?_
  refine WP.seq ?_
  refine WP.region ?_
  refine Ops.y (v := .func _ _ _) (Y.move rfl) ?_
  refine Ops.go (O.callcv I Tryz.call121 (fs := []) (cs := [.pointer (some ⟨b1, 0, none⟩)]) rfl (PChk1_ok _ I.base_ok p b1 hb1 hp.preds 122 Tryz.call122 [] [] (fun x => !isName x.name) (fun B' hB' _ x hx => Check2_ok B' hB' x (hnm x hx))) rfl ?_)
  intro w I
  refine Ops.y (v := .bool _) (Y.assign rfl) ?_
  refine Ops.nil ?_
  refine WP.cond rfl (fun c1 => ?_) (fun c1 => ?_)
  · refine WP.seq ?_
    refine WP.region ?_
    refine Ops.y (v := .int .i64 _) (Y.assign rfl) ?_
    refine Ops.nil ?_
    refine WP.ret ?_
    repeat (first | refine thenE_ret ?_ | refine blockE_ret ?_)
    exact retQ.mk (vs := [.int .i64 _]) rfl ⟨rfl, trivial⟩ I.ext_of (by simp only [tup, checkProg]; rw [if_neg c0, if_pos c1])
  refine WP.seq ?_
  refine WP.region ?_
  refine Ops.y (v := .func _ _ _) (Y.move rfl) ?_
  refine Ops.y (v := .func _ _ _) (Y.mkfunc rfl rfl) ?_
  refine Ops.go (O.callcs Tryz.call121 (fs := []) (cs := [.pointer (some ⟨b1, 0, none⟩)]) rfl (Check1_S p b1 h1 hb1 hp.preds 124 Tryz.call124 [] [.pointer (some ⟨b4, 0, none⟩)] (SeenJ B h1 p.preds.xs b4 bm) (early p.preds.xs)
    (fun hg k W ⟨_, es, I, _⟩ => I.base_ok) (fun hg k x W _ hx j => seen_round B h1 p.preds.xs b4 bm (by omega) hg k x W hx j) h1 _ (Heap.le.refl _) ⟨Heap.le.refl _, [], I, fun s => by simp [slook]⟩) rfl ?_)
  rintro ed w ⟨rfl, h2, k2, gl2, gl3, es, I, _⟩
  refine ⟨_, rfl, ?_⟩
  have hb1 : PBox h2 b1 p := gl2 _ _ hb1
  have hp := hp.le gl2
  refine Ops.y (v := .bool _) (Y.assign rfl) ?_
  refine Ops.nil ?_
  refine WP.cond rfl (fun c2 => ?_) (fun c2 => ?_)
  · refine WP.seq ?_
    refine WP.region ?_
    refine Ops.y (v := .int .i64 _) (Y.assign rfl) ?_
    refine Ops.nil ?_
    refine WP.ret ?_
    repeat (first | refine thenE_ret ?_ | refine blockE_ret ?_)
    exact retQ.mk (vs := [.int .i64 _]) rfl ⟨rfl, trivial⟩ I.ext_of (by simp only [tup, checkProg]; rw [if_neg c0, if_neg (by rw [c1]; decide), if_pos (show twice p.preds.xs = true from c2)])
  refine WP.seq ?_
  refine WP.region ?_
  refine Ops.y (v := .func _ _ _) (Y.move rfl) ?_
  refine Ops.go (O.callcv I Tryz.call121 (fs := []) (cs := [.pointer (some ⟨b1, 0, none⟩)]) rfl (PChk1_ok _ I.base_ok p b1 hb1 hp.preds 125 Tryz.call125 [] [] badArity (fun B' hB' _ x _ => Check4_ok B' hB' x)) rfl ?_)
  intro w I
  refine Ops.y (v := .bool _) (Y.assign rfl) ?_
  refine Ops.nil ?_
  refine WP.cond rfl (fun c3 => ?_) (fun c3 => ?_)
  · refine WP.seq ?_
    refine WP.region ?_
    refine Ops.y (v := .int .i64 _) (Y.assign rfl) ?_
    refine Ops.nil ?_
    refine WP.ret ?_
    repeat (first | refine thenE_ret ?_ | refine blockE_ret ?_)
    exact retQ.mk (vs := [.int .i64 _]) rfl ⟨rfl, trivial⟩ I.ext_of (by simp only [tup, checkProg]; rw [if_neg c0, if_neg (by rw [c1]; decide), if_neg (by unfold twice; rw [c2]; decide), if_pos c3])
  refine WP.seq ?_
  refine WP.region ?_
  refine Ops.y (v := .func _ _ _) (Y.move rfl) ?_
  refine Ops.go (O.callcv I Tryz.call121 (fs := []) (cs := [.pointer (some ⟨b1, 0, none⟩)]) rfl (PChk1_ok _ I.base_ok p b1 hb1 hp.preds 126 Tryz.call126 [] [] badKind (fun B' hB' _ x _ => Check5_ok B' hB' x)) rfl ?_)
  intro w I
  refine Ops.y (v := .bool _) (Y.assign rfl) ?_
  refine Ops.nil ?_
  refine WP.cond rfl (fun c4 => ?_) (fun c4 => ?_)
  · refine WP.seq ?_
    refine WP.region ?_
    refine Ops.y (v := .int .i64 _) (Y.assign rfl) ?_
    refine Ops.nil ?_
    refine WP.ret ?_
    repeat (first | refine thenE_ret ?_ | refine blockE_ret ?_)
    exact retQ.mk (vs := [.int .i64 _]) rfl ⟨rfl, trivial⟩ I.ext_of (by simp only [tup, checkProg]; rw [if_neg c0, if_neg (by rw [c1]; decide), if_neg (by unfold twice; rw [c2]; decide), if_neg (by rw [c3]; decide), if_pos c4])
  have e4 : checkProg p = if rulesErr p.preds.xs p.rules.xs ≠ 0 then rulesErr p.preds.xs p.rules.xs else @ite Int (∃ M, Sol (usesL p.rules.xs) p.preds.xs.length M) (Classical.propDecidable _) 0 8 := by
    unfold checkProg; rw [if_neg c0, if_neg (by rw [c1]; decide), if_neg (by unfold twice; rw [c2]; decide), if_neg (by rw [c3]; decide), if_neg (by rw [c4]; decide)]
  refine WP.skip ?_
  refine WP.seq ?_
  refine WP.seq ?_
  refine WP.region ?_
  refine Ops.y (v := .pointer (some ⟨_, _, none⟩)) (Y.fa fa_25_1 rfl) ?_
  refine Ops.y (v := .slice _ _ _) (Y.loadv ty_23 rfl (I.rd (rdHb hb1 1 1)) rfl rfl) ?_
  refine Ops.y (v := .int .i64 _) (Y.lens Tryz.underlying23 rfl) ?_
  refine Ops.y (v := .int .i64 _) (Y.move rfl) ?_
  refine Ops.nil ?_
  refine WP.block ?_
  refine WP.loopE (σ := Nat) (fun k => [(1, .pointer (some ⟨b1, 0, none⟩)), (36, p.rules.val), (37, .int .i64 p.rules.xs.length), (38, .int .i64 k)]) (fun k w => Inv B h2 [] w ∧ k ≤ p.rules.xs.length ∧ ∀ j, j < k → ∀ hj : j < p.rules.xs.length, checkRule p.preds.xs p.rules.xs[j] = 0) (fun k => p.rules.xs.length - k)
    ⟨0, ⟨rfl, rfl, rfl, rfl, trivial⟩, I.clear, Nat.zero_le _, fun j hj => by omega⟩ ?_
  rintro k e w ⟨I, hk, hn⟩
  refine WP.seq ?_
  refine WP.region ?_
  refine Ops.y (v := .bool (decide _)) (Y.lti rfl rfl) ?_
  refine Ops.nil ?_
  refine WP.seq ?_
  refine WP.cond_dec rfl (fun h14 => ?_) (fun h14 => ?_)
  · have hk' : k < p.rules.xs.length := by omega
    have E1 := hp.rules.is.at hk'
    refine WP.skip ?_
    refine WP.seq ?_
    refine WP.block ?_
    refine WP.seq ?_
    refine WP.region ?_
    refine Ops.y (v := .pointer (some ⟨_, _, none⟩)) (Y.idxEl E1 Tryz.underlying23 Tryz.sizeOf68 rfl rfl (Int.natCast_nonneg _) rfl) ?_
    refine Ops.y (v := .agg #[_, _, _, _, _]) (Y.loadv ty_68 rfl (I.rd (E1.rd.part 0 5)) rfl rfl) ?_
    refine Ops.go (O.alloc I Tryz.zeroValue68 rfl ?_)
    intro b6 w I
    refine Ops.go (O.store (v := .agg #[_, _, _, _, _]) I ty_68 0 rfl rfl rfl rfl rfl rfl (Nat.le_of_ble_eq_true rfl) rfl ?_)
    intro w I
    refine Ops.nil ?_
    refine WP.seq ?_
    refine WP.region ?_
    refine Ops.y (v := .pointer (some ⟨_, _, none⟩)) (Y.fa0 fa_25_0 rfl) ?_
    refine Ops.y (v := .slice _ _ _) (Y.loadv ty_22 rfl (I.rd (rdHb hb1 0 1)) rfl rfl) ?_
    refine Ops.y (v := .agg #[_, _, _, _, _]) (Y.loadv ty_68 rfl (I.rdbox 0 rfl 0 5) rfl rfl) ?_
    refine Ops.go (O.callv I Tryz.call127 (RCheck_ok _ I.base_ok p.preds hp.preds p.rules.xs[k] (hp.rules.each _ (List.getElem_mem hk'))) rfl ?_)
    intro w I
    refine Ops.y (v := .int .i64 _) (Y.assign rfl) ?_
    refine Ops.nil ?_
    refine WP.seq ?_
    refine WP.region ?_
    refine Ops.y (v := .int .i64 _) (Y.move rfl) ?_
    refine Ops.y (v := .bool (decide _)) (Y.nei rfl rfl) ?_
    refine Ops.nil ?_
    refine WP.cond_dec rfl (fun h17 => ?_) (fun h17 => ?_)
    · refine WP.seq ?_
      refine WP.region ?_
      refine Ops.y (v := .int .i64 _) (Y.move rfl) ?_
      refine Ops.y (v := .int .i64 _) (Y.assign rfl) ?_
      refine Ops.nil ?_
      refine WP.ret ?_
      repeat (first | refine thenE_ret ?_ | refine blockE_ret ?_)
      exact retQ.mk (vs := [.int .i64 _]) rfl ⟨rfl, trivial⟩ I.ext_of (by simp only [tup, e4]; rw [rulesErr_at hk' hn h17, if_pos h17])
    refine WP.skip ?_
    refine WP.region ?_
    refine Ops.y (v := .int .i64 _) (Y.addi rfl rfl ⟨by omega, by omega⟩) ?_
    refine Ops.y (v := .int .i64 _) (Y.move rfl) ?_
    refine Ops.nil ?_
    exact ⟨k + 1, ⟨⟨rfl, rfl, rfl, rfl, trivial⟩, I.drop, hk', fun j hj hj' => by
      rcases Nat.lt_succ_iff_lt_or_eq.1 hj with h' | rfl
      · exact hn j h' hj'
      · exact Decidable.not_not.1 h17⟩, by omega⟩
  have hr0 : rulesErr p.preds.xs p.rules.xs = 0 := rulesErr_zero.2 fun r hr => by
    obtain ⟨j, hj, rfl⟩ := List.getElem_of_mem hr
    exact hn j (by omega) hj
  have e5 : checkProg p = @ite Int (∃ M, Sol (usesL p.rules.xs) p.preds.xs.length M) (Classical.propDecidable _) 0 8 := by rw [e4, if_neg (by rw [hr0]; decide)]
  refine WP.exit ?_
  refine WP.seq ?_
  refine WP.seq ?_
  refine WP.region ?_
  refine Ops.y (v := .agg #[_, _]) (Y.loadv ty_25 rfl (I.rd (rdHb hb1 0 2)) rfl rfl) ?_
  refine Ops.go (O.call I Tryz.call94 (Levels_ok _ I.base_ok p hp (inR_of hr0) (by omega)) rfl ?_)
  rintro v52 h3 w I le3 hL
  rcases hL with ⟨s, hS, hI, rfl⟩ | ⟨hno, rfl⟩
  · refine Ops.y (v := .tuple #[_, _]) (Y.move rfl) ?_
    refine Ops.y (v := .slice _ _ _) (Y.extract rfl rfl) ?_
    refine Ops.y (v := .bool _) (Y.extract rfl rfl) ?_
    refine Ops.y (v := .slice _ _ _) (Y.assign rfl) ?_
    refine Ops.y (v := .bool _) (Y.assign rfl) ?_
    refine Ops.nil ?_
    refine WP.seq ?_
    refine WP.region ?_
    refine Ops.y (v := .bool _) (Y.move rfl) ?_
    refine Ops.y (v := .bool _) (Y.not rfl) ?_
    refine Ops.nil ?_
    refine WP.cond_f rfl ?_
    refine WP.skip ?_
    refine WP.seq ?_
    refine WP.region ?_
    refine Ops.y (v := .int .i64 _) (Y.assign rfl) ?_
    refine Ops.nil ?_
    refine WP.ret ?_
    repeat (first | refine thenE_ret ?_ | refine blockE_ret ?_)
    exact retQ.mk (vs := [.int .i64 _]) rfl ⟨rfl, trivial⟩ I.ext_of (by simp only [tup, e5]; rw [if_pos ⟨_, hS.sol⟩])
  · refine Ops.y (v := .tuple #[_, _]) (Y.move rfl) ?_
    refine Ops.y (v := .slice _ _ _) (Y.extract rfl rfl) ?_
    refine Ops.y (v := .bool _) (Y.extract rfl rfl) ?_
    refine Ops.y (v := .slice _ _ _) (Y.assign rfl) ?_
    refine Ops.y (v := .bool _) (Y.assign rfl) ?_
    refine Ops.nil ?_
    refine WP.seq ?_
    refine WP.region ?_
    refine Ops.y (v := .bool _) (Y.move rfl) ?_
    refine Ops.y (v := .bool _) (Y.not rfl) ?_
    refine Ops.nil ?_
    refine WP.cond_t rfl ?_
    refine WP.seq ?_
    refine WP.region ?_
    refine Ops.y (v := .int .i64 _) (Y.assign rfl) ?_
    refine Ops.nil ?_
    refine WP.ret ?_
    repeat (first | refine thenE_ret ?_ | refine blockE_ret ?_)
    exact retQ.mk (vs := [.int .i64 _]) rfl ⟨rfl, trivial⟩ I.ext_of (by simp only [tup, e5]; rw [if_neg (fun ⟨M, hM⟩ => hno M hM)])
end Go.TF
end
section
/- What is asked; one step, and all steps of a rule. -/
namespace Go.TF
open Go Go.RowKit Go.Proofs
set_option maxRecDepth 20000

structure Askd (p : Prg) (f : List Fct) (n : Int) : Prop where
  prog : checkProg p = 0
  fok : FOk p.preds.xs f
  n : 0 ≤ n ∧ n < p.rules.xs.length
theorem Askd.rule {p : Prg} {f : List Fct} {n : Int} (h : Askd p f n) : ∃ r, p.rules.xs[n.toNat]? = some r ∧ ROk p.preds.xs r := by
  have hn : n.toNat < p.rules.xs.length := by have := h.n; omega
  refine ⟨_, List.getElem?_eq_getElem hn, rok_of h.fok.len h.fok.preds ?_⟩
  exact rulesErr_zero.1 (checkProg_ok h.prog).2.2.1 _ (List.getElem_mem hn)
def AllR (r : List Stp × Int) : Sp := fun v h => ∃ s : Sl Stp, v = .tuple #[s.val, .int .i64 r.2] ∧ s.xs = r.1 ∧ Stps s h
theorem AllR.mono {r : List Stp × Int} : MonoS (AllR r) := fun _ _ _ hl ⟨s, a, b, c⟩ => ⟨s, a, b, c.le hl⟩
end Go.TF
end
section
/- slices.Insert of one fact; adding a fact. -/
namespace Go.TF
open Go Go.RowKit Go.Proofs
set_option maxRecDepth 20000

theorem over_app (A Z X : List Value) : over (A ++ Z) A.length X = A ++ X ++ Z.drop X.length := by
  unfold over
  rw [List.take_left, List.drop_append, List.drop_of_length_le (by omega), List.nil_append, Nat.add_sub_cancel_left]
theorem over_end {L D : List Value} {o : Nat} (h : o + D.length = L.length) : over L o D = L.take o ++ D := by
  unfold over
  rw [List.drop_of_length_le (by omega), List.append_nil]
theorem ins_grow (A Z X D : List Value) (h : X.length + D.length = Z.length) : over (over (A ++ Z) A.length X) (A.length + X.length) D = A ++ X ++ D := by
  rw [over_app, over_end (by simp only [List.length_append, List.length_drop]; omega)]
  rw [← List.length_append, List.take_left]
theorem ins_shift (A D Y X : List Value) (h : X.length = Y.length) : over (over (A ++ (D ++ Y)) (A.length + X.length) D) A.length X = A ++ X ++ D := by
  rw [over_end (L := A ++ (D ++ Y)) (o := A.length + X.length) (by simp only [List.length_append]; omega), List.take_append, List.take_of_length_le (by omega), Nat.add_sub_cancel_left, List.append_assoc, over_app]
  congr 1
  have hl : ((D ++ Y).take X.length).length = X.length := by simp only [List.length_take, List.length_append]; omega
  rw [List.drop_append, List.drop_of_length_le (by omega), hl, Nat.sub_self]; rfl
theorem flat_ins (xs : List Fct) (x : Fct) (i : Nat) : (xs.take i ++ x :: xs.drop i).flatMap Fct.enc = (xs.take i).flatMap Fct.enc ++ x.enc ++ (xs.drop i).flatMap Fct.enc := by
  rw [List.flatMap_append, List.flatMap_cons, List.append_assoc]
theorem fct_one (xs : List Fct) : oneCells (xs.flatMap Fct.enc) = true := by
  simp only [oneCells, List.all_flatMap]
  rw [List.all_eq_true]
  intro x _; rfl
theorem ovl_run (vs : Array Value) (w : World) : (callFunc 176 vs).run Tryz.prog w = ((Extern.SlicesOverlaps.overlaps #[26, 26] #[4] vs).run Tryz.prog w).andThen fun v w' => .ok (.value v) w' :=
  run_callFunc_extern Tryz.func176 (by kernel_rfl) (by kernel_rfl) (by kernel_rfl) (e := Extern.SlicesOverlaps.overlaps #[26, 26] #[4]) (by kernel_rfl) vs w
set_option maxHeartbeats 2000000 in
/-- One fact put in. -/
theorem Insert_ok {B : Base} {h : Heap} {M : List SA} {w : World} {v : Value} {n : Nat} {xs : List Fct} (I : Inv B h (ownSl 52 4 v n (xs.flatMap Fct.enc) :: M) w) (hn : n = xs.length) (i : Nat) (hi : i ≤ n) (x : Fct) (u : Nat) (hu : h u = some (.cells x.enc.toArray 52 (0, 0))) (hb : n ≤ 1000000000) :
    Calls Tryz.prog 136 [v, .int .i64 i, .slice (some ⟨u, 0, none⟩) (1 : Nat) (1 : Nat)].toArray w
      (fun ed w' => ∃ v' h', ed = .returned v' ∧ h.le h' ∧ Inv B h' (ownSl 52 4 v' (n + 1) ((xs.take i ++ x :: xs.drop i).flatMap Fct.enc) :: M) w') := by
  have hux : RdH h u 0 x.enc := fun j y hj => by simp only [Heap.cell, hu, Nat.zero_add]; simpa using hj
  have hfl : ∀ y : Fct, y.enc.length = 4 := fun _ => rfl
  by_cases hend : i = n
  · have hfin : (xs.take i ++ x :: xs.drop i).flatMap Fct.enc = xs.flatMap Fct.enc ++ x.enc := by
      rw [flat_ins, hend, hn, List.take_length, List.drop_length]; simp
    rw [hfin]
    rcases (I.at 0 rfl).2 with ⟨rfl, h0⟩ | ⟨gg, cap, cur, rfl, _, hg, hnc, hcm, _⟩
    · obtain rfl : n = 0 := by simpa using h0
      obtain rfl : i = 0 := hend
      refine Calls.ofWP (args := [.slice none 0 0, .int .i64 (0 : Nat), .slice (some ⟨u, 0, none⟩) (1 : Nat) (1 : Nat)]) Tryz.func136 rfl Tryz.ntmps136 (by kernel_rfl) (by simp) ?_
      intro e
      refine WP.seq ?_
      refine WP.region ?_
      refine Ops.y (v := .slice _ _ _) (Y.assign rfl) ?_
      refine Ops.nil ?_
      refine WP.seq ?_
      refine WP.region ?_
      refine Ops.y (v := .slice _ _ _) (Y.move rfl) ?_
      refine Ops.y (v := .int .i64 _) (Y.move rfl) ?_
      refine Ops.y (v := .slice _ _ _) (Y.slicenil Tryz.underlying26 Tryz.sizeOf52 rfl (.inr ⟨_, _, rfl, rfl⟩) (.inl rfl)) ?_
      refine Ops.nil ?_
      refine WP.seq ?_
      refine WP.region ?_
      refine Ops.y (v := .slice _ _ _) (Y.move rfl) ?_
      refine Ops.y (v := .int .i64 _) (Y.lens Tryz.underlying26 rfl) ?_
      refine Ops.y (v := .int .i64 _) (Y.assign rfl) ?_
      refine Ops.nil ?_
      refine WP.seq ?_
      refine WP.seq ?_
      refine WP.region ?_
      refine Ops.y (v := .int .i64 _) (Y.move rfl) ?_
      refine Ops.y (v := .bool false) (Y.dec_f (Y.eqi rfl rfl) ((by decide))) ?_
      refine Ops.nil ?_
      refine WP.cond_f rfl ?_
      refine WP.skip ?_
      refine WP.seq ?_
      refine WP.region ?_
      refine Ops.y (v := .slice _ _ _) (Y.move rfl) ?_
      refine Ops.y (v := .int .i64 _) (Y.lens Tryz.underlying26 rfl) ?_
      refine Ops.y (v := .int .i64 _) (Y.assign rfl) ?_
      refine Ops.nil ?_
      refine WP.seq ?_
      refine WP.seq ?_
      refine WP.region ?_
      refine Ops.y (v := .int .i64 _) (Y.move rfl) ?_
      refine Ops.y (v := .int .i64 _) (Y.move rfl) ?_
      refine Ops.y (v := .bool true) (Y.dec_t (Y.eqi rfl rfl) ((by decide))) ?_
      refine Ops.nil ?_
      refine WP.cond_t rfl ?_
      refine WP.seq ?_
      refine WP.region ?_
      refine Ops.y (v := .slice _ _ _) (Y.move rfl) ?_
      refine Ops.y (v := .slice _ _ _) (Y.move rfl) ?_
      refine Ops.go (O.append I Tryz.underlying26 et_52 0 rfl rfl rfl (I.rd hux) rfl rfl (by decide) (by omega) (by omega) ?_)
      intro g2 c2 w I
      refine Ops.y (v := .slice _ _ _) (Y.assign rfl) ?_
      refine Ops.nil ?_
      refine WP.ret ?_
      repeat (first | refine thenE_ret ?_ | refine blockE_ret ?_)
      exact ⟨.inl rfl, [.slice (some ⟨g2, 0, none⟩) (0 + 1) c2], ⟨rfl, trivial⟩, _, _, rfl, Heap.le.refl _, I⟩
    · simp only [maxLen] at hcm
      refine Calls.ofWP (args := [.slice (some ⟨gg, 0, none⟩) n cap, .int .i64 i, .slice (some ⟨u, 0, none⟩) (1 : Nat) (1 : Nat)]) Tryz.func136 rfl Tryz.ntmps136 (by kernel_rfl) (by simp) ?_
      intro e
      refine WP.seq ?_
      refine WP.region ?_
      refine Ops.y (v := .slice _ _ _) (Y.assign rfl) ?_
      refine Ops.nil ?_
      refine WP.seq ?_
      refine WP.region ?_
      refine Ops.y (v := .slice _ _ _) (Y.move rfl) ?_
      refine Ops.y (v := .int .i64 _) (Y.move rfl) ?_
      refine Ops.y (v := .slice _ _ _) (Y.slicesl (l := i) (h := n) Tryz.underlying26 Tryz.sizeOf52 rfl (.inr ⟨_, _, rfl, rfl⟩) (.inl ⟨rfl, rfl⟩) (by omega) (by omega)) ?_
      refine Ops.nil ?_
      refine WP.seq ?_
      refine WP.region ?_
      refine Ops.y (v := .slice _ _ _) (Y.move rfl) ?_
      refine Ops.y (v := .int .i64 _) (Y.lens Tryz.underlying26 rfl) ?_
      refine Ops.y (v := .int .i64 _) (Y.assign rfl) ?_
      refine Ops.nil ?_
      refine WP.seq ?_
      refine WP.seq ?_
      refine WP.region ?_
      refine Ops.y (v := .int .i64 _) (Y.move rfl) ?_
      refine Ops.y (v := .bool false) (Y.dec_f (Y.eqi rfl rfl) ((by decide))) ?_
      refine Ops.nil ?_
      refine WP.cond_f rfl ?_
      refine WP.skip ?_
      refine WP.seq ?_
      refine WP.region ?_
      refine Ops.y (v := .slice _ _ _) (Y.move rfl) ?_
      refine Ops.y (v := .int .i64 _) (Y.lens Tryz.underlying26 rfl) ?_
      refine Ops.y (v := .int .i64 _) (Y.assign rfl) ?_
      refine Ops.nil ?_
      refine WP.seq ?_
      refine WP.seq ?_
      refine WP.region ?_
      refine Ops.y (v := .int .i64 _) (Y.move rfl) ?_
      refine Ops.y (v := .int .i64 _) (Y.move rfl) ?_
      refine Ops.y (v := .bool true) (Y.dec_t (Y.eqi rfl rfl) ((by omega))) ?_
      refine Ops.nil ?_
      refine WP.cond_t rfl ?_
      refine WP.seq ?_
      refine WP.region ?_
      refine Ops.y (v := .slice _ _ _) (Y.move rfl) ?_
      refine Ops.y (v := .slice _ _ _) (Y.move rfl) ?_
      refine Ops.go (O.append I Tryz.underlying26 et_52 0 rfl rfl rfl (I.rd hux) rfl rfl (by decide) (by omega) (by omega) ?_)
      intro g2 c2 w I
      refine Ops.y (v := .slice _ _ _) (Y.assign rfl) ?_
      refine Ops.nil ?_
      refine WP.ret ?_
      repeat (first | refine thenE_ret ?_ | refine blockE_ret ?_)
      exact ⟨.inl rfl, [.slice (some ⟨g2, 0, none⟩) (n + 1) c2], ⟨rfl, trivial⟩, _, _, rfl, Heap.le.refl _, I⟩
  rcases (I.at 0 rfl).2 with ⟨rfl, h0⟩ | ⟨gg, cap, cur, rfl, _, hg, hnc, hcm, _⟩
  · exfalso; have : n = 0 := by simpa using h0
    omega
  simp only [maxLen] at hcm
  have hAl : ((xs.take i).flatMap Fct.enc).length = i * 4 := by rw [flat_len hfl, List.length_take]; congr 1; omega
  have hDl : ((xs.drop i).flatMap Fct.enc).length = (n - i) * 4 := by rw [flat_len hfl, List.length_drop, hn]
  rw [flat_ins]
  refine Calls.ofWP (args := [.slice (some ⟨gg, 0, none⟩) n cap, .int .i64 i, .slice (some ⟨u, 0, none⟩) (1 : Nat) (1 : Nat)]) Tryz.func136 rfl Tryz.ntmps136 (by kernel_rfl) (by simp) ?_
  intro e
  refine WP.seq ?_
  refine WP.region ?_
  refine Ops.y (v := .slice _ _ _) (Y.assign rfl) ?_
  refine Ops.nil ?_
  refine WP.seq ?_
  refine WP.region ?_
  refine Ops.y (v := .slice _ _ _) (Y.move rfl) ?_
  refine Ops.y (v := .int .i64 _) (Y.move rfl) ?_
  refine Ops.y (v := .slice _ _ _) (Y.slicesl (l := i) (h := n) Tryz.underlying26 Tryz.sizeOf52 rfl (.inr ⟨_, _, rfl, rfl⟩) (.inl ⟨rfl, rfl⟩) (by omega) (by omega)) ?_
  refine Ops.nil ?_
  refine WP.seq ?_
  refine WP.region ?_
  refine Ops.y (v := .slice _ _ _) (Y.move rfl) ?_
  refine Ops.y (v := .int .i64 _) (Y.lens Tryz.underlying26 rfl) ?_
  refine Ops.y (v := .int .i64 _) (Y.assign rfl) ?_
  refine Ops.nil ?_
  refine WP.seq ?_
  refine WP.seq ?_
  refine WP.region ?_
  refine Ops.y (v := .int .i64 _) (Y.move rfl) ?_
  refine Ops.y (v := .bool false) (Y.dec_f (Y.eqi rfl rfl) ((by decide))) ?_
  refine Ops.nil ?_
  refine WP.cond_f rfl ?_
  refine WP.skip ?_
  refine WP.seq ?_
  refine WP.region ?_
  refine Ops.y (v := .slice _ _ _) (Y.move rfl) ?_
  refine Ops.y (v := .int .i64 _) (Y.lens Tryz.underlying26 rfl) ?_
  refine Ops.y (v := .int .i64 _) (Y.assign rfl) ?_
  refine Ops.nil ?_
  refine WP.seq ?_
  refine WP.seq ?_
  refine WP.region ?_
  refine Ops.y (v := .int .i64 _) (Y.move rfl) ?_
  refine Ops.y (v := .int .i64 _) (Y.move rfl) ?_
  refine Ops.y (v := .bool false) (Y.dec_f (Y.eqi rfl rfl) ((by omega))) ?_
  refine Ops.nil ?_
  refine WP.cond_f rfl ?_
  refine WP.skip ?_
  refine WP.seq ?_
  refine WP.seq ?_
  refine WP.region ?_
  refine Ops.y (v := .int .i64 _) (Y.move rfl) ?_
  refine Ops.y (v := .int .i64 _) (Y.move rfl) ?_
  refine Ops.y (v := .int .i64 _) (Y.addi rfl rfl ⟨by omega, by omega⟩) ?_
  refine Ops.y (v := .slice _ _ _) (Y.move rfl) ?_
  refine Ops.y (v := .int .i64 _) (Y.caps Tryz.underlying26 rfl) ?_
  refine Ops.y (v := .bool (decide _)) (Y.gti rfl rfl) ?_
  refine Ops.nil ?_
  refine WP.cond_dec rfl (fun h8 => ?_) (fun h8 => ?_)
  · have hRd : Rd w gg 0 ((xs.take i).flatMap Fct.enc) := by
      have := I.rdOwn 0 rfl 0 (i * 4)
      rwa [List.drop_zero, flat_take hfl] at this
    have hgw : gg < w.heap.size := ((I.own _ (List.mem_cons_self ..)).2 gg (by simp [ownSl, Value.ownBlock])).2.1
    refine WP.seq ?_
    refine WP.region ?_
    refine Ops.y (v := .slice _ _ _) (Y.move rfl) ?_
    refine Ops.y (v := .int .i64 _) (Y.move rfl) ?_
    refine Ops.y (v := .slice _ _ _) (Y.cutO (l := 0) (h' := i) Tryz.underlying26 Tryz.sizeOf52 rfl (.inl ⟨rfl, rfl⟩) (.inr ⟨_, _, rfl, rfl⟩) (by omega) (by omega) (by omega)) ?_
    refine Ops.y (v := .int .i64 _) (Y.move rfl) ?_
    refine Ops.y (v := .int .i64 _) (Y.move rfl) ?_
    refine Ops.y (v := .int .i64 _) (Y.addi rfl rfl ⟨by omega, by omega⟩) ?_
    refine Ops.y (v := .int .i64 _) (Y.move rfl) ?_
    refine Ops.y (v := .int .i64 _) (Y.subi rfl rfl ⟨by omega, by omega⟩) ?_
    refine Ops.go (O.appendZ (n := i) (m := n + 1 - i) I Tryz.underlying26 Tryz.underlying3 et_52 rfl hRd hAl (congrArg (Value.int .i64) (by omega)) (by omega) (by omega) (by omega) (by omega) ?_ hgw)
    intro g2 c2 w I hne
    refine Ops.y (v := .slice _ _ _) (Y.assign rfl) ?_
    refine Ops.nil ?_
    have hs2 := (I.shapeOwn 0 rfl).2
    have hZl : ((Builtin.zeroCells (Value.agg #[.int .i64 0, .int .i64 0, .int .i64 0, .int .i64 0]).cells (n + 1 - i)).toList).length = (n + 1 - i) * 4 := by rw [Array.length_toList, size_zeroCells]; rfl
    generalize (Builtin.zeroCells (Value.agg #[.int .i64 0, .int .i64 0, .int .i64 0, .int .i64 0]).cells (n + 1 - i)).toList = Z at I hZl
    rw [show i + (n + 1 - i) = n + 1 by omega] at I hs2 ⊢
    refine WP.seq ?_
    refine WP.region ?_
    refine Ops.y (v := .slice _ _ _) (Y.move rfl) ?_
    refine Ops.y (v := .int .i64 _) (Y.move rfl) ?_
    refine Ops.y (v := .slice _ _ _) (Y.cutO (l := i) (h' := n + 1) Tryz.underlying26 Tryz.sizeOf52 rfl (.inr ⟨_, _, rfl, rfl⟩) (.inl ⟨rfl, rfl⟩) (by omega) (by omega) (by omega)) ?_
    refine Ops.y (v := .slice _ _ _) (Y.move rfl) ?_
    refine Ops.go (O.copy I Tryz.underlying26 et_52 0 rfl rfl rfl (q := 1) (by simp only [Nat.min_def]; split <;> omega) (by omega) (I.rd hux) rfl rfl ?_)
    intro w I
    refine Ops.nil ?_
    refine WP.seq ?_
    refine WP.regionF mixed I 8 (by kernel_rfl) ?_
    refine OpsF.y_ (v := .slice _ _ _) (fun _ => runs_none _) (fun _ w us hl I => Y.move rfl) ?_
    refine OpsF.y_ (v := .int .i64 _) (fun _ => runs_none _) (fun _ w us hl I => Y.move rfl) ?_
    refine OpsF.y_ (v := .int .i64 _) (fun _ => runs_none _) (fun _ w us hl I => Y.move rfl) ?_
    refine OpsF.y_ (v := .int .i64 _) (fun _ => runs_none _) (fun _ w us hl I => Y.addi rfl rfl ⟨by omega, by omega⟩) ?_
    refine OpsF.y_ (v := .slice _ _ _) (fun _ => runs_none _) (fun _ w us hl I => Y.cutO (l := i + 1) (h' := n + 1) Tryz.underlying26 Tryz.sizeOf52 rfl (.inr ⟨_, _, rfl, rfl⟩) (.inl ⟨rfl, rfl⟩) (by omega) (by omega) (by omega)) ?_
    refine OpsF.y_ (v := .slice _ _ _) (fun _ => runs_none _) (fun _ w us hl I => Y.move rfl) ?_
    refine OpsF.y_ (v := .int .i64 _) (fun _ => runs_none _) (fun _ w us hl I => Y.move rfl) ?_
    refine OpsF.y_ (v := .slice _ _ _) (fun _ => runs_none _) (fun _ w us hl I => Y.cutO (l := i) (h' := n) Tryz.underlying26 Tryz.sizeOf52 rfl (.inr ⟨_, _, rfl, rfl⟩) (.inl ⟨rfl, rfl⟩) (by omega) (by omega) (by omega)) ?_
    refine OpsF.nil ?_
    intro _ w hl I
    have hRd2 : Rd w gg (i * 4) ((xs.drop i).flatMap Fct.enc) := by have := I.rdOwn 1 rfl (i * 4) ((n - i) * 4); rwa [flat_drop hfl, List.take_of_length_le (by omega)] at this
    refine Ops.go (O.copy I Tryz.underlying26 et_52 0 rfl rfl rfl (q := n - i) (by simp only [Nat.min_def]; split <;> omega) (by omega) hRd2 hDl (fct_one _) ?_)
    intro w I
    refine Ops.nil ?_
    refine WP.seq ?_
    refine WP.region ?_
    refine Ops.y (v := .slice _ _ _) (Y.move rfl) ?_
    refine Ops.y (v := .slice _ _ _) (Y.assign rfl) ?_
    refine Ops.nil ?_
    refine WP.ret ?_
    repeat (first | refine thenE_ret ?_ | refine blockE_ret ?_)
    have hI : over (over ((xs.take i).flatMap Fct.enc ++ Z) (i * 4) x.enc) ((i + 1) * 4) ((xs.drop i).flatMap Fct.enc) = (xs.take i).flatMap Fct.enc ++ x.enc ++ (xs.drop i).flatMap Fct.enc := by
      have := ins_grow ((xs.take i).flatMap Fct.enc) Z x.enc ((xs.drop i).flatMap Fct.enc) (by rw [hZl, hDl, hfl]; omega)
      rwa [hAl, hfl, show i * 4 + 4 = (i + 1) * 4 by omega] at this
    have I := I.weak (M' := _ :: M) (List.Sublist.cons_cons _ (List.sublist_cons_self _ _))
    try simp only [List.set_cons_zero] at I
    rw [hI] at I
    exact ⟨.inl rfl, [.slice (some ⟨g2, 0, none⟩) (n + 1) c2], ⟨rfl, trivial⟩, _, _, rfl, hl, I⟩
  · have hcn : n + 1 ≤ cap := by omega
    obtain ⟨Yz, hYl, I⟩ := I.widen (m := 1) hcn
    have hou := ((I.own _ (List.mem_cons_self ..)).2 gg (by simp [ownSl, Value.ownBlock])).2.2
    have hne : u ≠ gg := fun e => by rw [← e, hu] at hou; cases hou
    refine WP.skip ?_
    refine WP.seq ?_
    refine WP.region ?_
    refine Ops.y (v := .slice _ _ _) (Y.move rfl) ?_
    refine Ops.y (v := .int .i64 _) (Y.move rfl) ?_
    refine Ops.y (v := .int .i64 _) (Y.move rfl) ?_
    refine Ops.y (v := .int .i64 _) (Y.addi rfl rfl ⟨by omega, by omega⟩) ?_
    refine Ops.y (v := .slice _ _ _) (Y.cutO (l := 0) (h' := n + 1) Tryz.underlying26 Tryz.sizeOf52 rfl (.inl ⟨rfl, rfl⟩) (.inr ⟨_, _, rfl, rfl⟩) (by omega) (by omega) (by omega)) ?_
    refine Ops.y (v := .slice _ _ _) (Y.assign rfl) ?_
    refine Ops.nil ?_
    have hsB := (I.shapeOwn 0 rfl).1
    have hsA : w.shape? u = some (52, 4) := by simp [World.shape?, I.imm _ _ hu]
    have hfr : ∀ o, w.frozen? ⟨u, o, none⟩ = false := fun o => by simp [World.frozen?, I.imm _ _ hu]
    refine WP.seq ?_
    refine WP.seq ?_
    refine WP.region ?_
    refine Ops.y (v := .slice _ _ _) (Y.move rfl) ?_
    refine Ops.y (v := .slice _ _ _) (Y.move rfl) ?_
    refine Ops.y (v := .int .i64 _) (Y.move rfl) ?_
    refine Ops.y (v := .int .i64 _) (Y.move rfl) ?_
    refine Ops.y (v := .int .i64 _) (Y.addi rfl rfl ⟨by omega, by omega⟩) ?_
    refine Ops.y (v := .slice _ _ _) (Y.cutO (l := i + 1) (h' := n + 1) Tryz.underlying26 Tryz.sizeOf52 rfl (.inr ⟨_, _, rfl, rfl⟩) (.inl ⟨rfl, rfl⟩) (by omega) (by omega) (by omega)) ?_
    refine Ops.y (v := _) (O.overlaps ovl_run Tryz.underlying26 Tryz.sizeOf52 rfl rfl hne hsA hsB (by omega) hfr) ?_
    refine Ops.y (v := .bool _) (Y.not rfl) ?_
    refine Ops.nil ?_
    refine WP.cond_t rfl ?_
    refine WP.seq ?_
    refine WP.regionF mixed I 8 (by kernel_rfl) ?_
    refine OpsF.y_ (v := .slice _ _ _) (fun _ => runs_none _) (fun _ w us hl I => Y.move rfl) ?_
    refine OpsF.y_ (v := .int .i64 _) (fun _ => runs_none _) (fun _ w us hl I => Y.move rfl) ?_
    refine OpsF.y_ (v := .int .i64 _) (fun _ => runs_none _) (fun _ w us hl I => Y.move rfl) ?_
    refine OpsF.y_ (v := .int .i64 _) (fun _ => runs_none _) (fun _ w us hl I => Y.addi rfl rfl ⟨by omega, by omega⟩) ?_
    refine OpsF.y_ (v := .slice _ _ _) (fun _ => runs_none _) (fun _ w us hl I => Y.cutO (l := i + 1) (h' := n + 1) Tryz.underlying26 Tryz.sizeOf52 rfl (.inr ⟨_, _, rfl, rfl⟩) (.inl ⟨rfl, rfl⟩) (by omega) (by omega) (by omega)) ?_
    refine OpsF.y_ (v := .slice _ _ _) (fun _ => runs_none _) (fun _ w us hl I => Y.move rfl) ?_
    refine OpsF.y_ (v := .int .i64 _) (fun _ => runs_none _) (fun _ w us hl I => Y.move rfl) ?_
    refine OpsF.y_ (v := .slice _ _ _) (fun _ => runs_none _) (fun _ w us hl I => Y.cutO (l := i) (h' := n + 1) Tryz.underlying26 Tryz.sizeOf52 rfl (.inr ⟨_, _, rfl, rfl⟩) (.inl ⟨rfl, rfl⟩) (by omega) (by omega) (by omega)) ?_
    refine OpsF.nil ?_
    intro _ w hl I
    have hRd2 : Rd w gg (i * 4) ((xs.drop i).flatMap Fct.enc) := by have := I.rdOwn 0 rfl (i * 4) ((n - i) * 4); rwa [List.drop_append_of_le_length (by rw [flat_len hfl]; omega), flat_drop hfl, List.take_left' hDl] at this
    refine Ops.go (O.copy I Tryz.underlying26 et_52 0 rfl rfl rfl (q := n - i) (by simp only [Nat.min_def]; split <;> omega) (by omega) hRd2 hDl (fct_one _) ?_)
    intro w I
    refine Ops.nil ?_
    refine WP.seq ?_
    refine WP.region ?_
    refine Ops.y (v := .slice _ _ _) (Y.move rfl) ?_
    refine Ops.y (v := .int .i64 _) (Y.move rfl) ?_
    refine Ops.y (v := .slice _ _ _) (Y.cutO (l := i) (h' := n + 1) Tryz.underlying26 Tryz.sizeOf52 rfl (.inr ⟨_, _, rfl, rfl⟩) (.inl ⟨rfl, rfl⟩) (by omega) (by omega) (by omega)) ?_
    refine Ops.y (v := .slice _ _ _) (Y.move rfl) ?_
    refine Ops.go (O.copy I Tryz.underlying26 et_52 0 rfl rfl rfl (q := 1) (by simp only [Nat.min_def]; split <;> omega) (by omega) (I.rd (hux.le hl)) rfl rfl ?_)
    intro w I
    refine Ops.nil ?_
    refine WP.seq ?_
    refine WP.region ?_
    refine Ops.y (v := .slice _ _ _) (Y.move rfl) ?_
    refine Ops.y (v := .slice _ _ _) (Y.assign rfl) ?_
    refine Ops.nil ?_
    refine WP.ret ?_
    repeat (first | refine thenE_ret ?_ | refine blockE_ret ?_)
    have hI : over (over (xs.flatMap Fct.enc ++ Yz) ((i + 1) * 4) ((xs.drop i).flatMap Fct.enc)) (i * 4) x.enc = (xs.take i).flatMap Fct.enc ++ x.enc ++ (xs.drop i).flatMap Fct.enc := by
      have := ins_shift ((xs.take i).flatMap Fct.enc) ((xs.drop i).flatMap Fct.enc) Yz x.enc (by rw [hYl, hfl])
      rw [hAl, hfl, show i * 4 + 4 = (i + 1) * 4 by omega, ← List.append_assoc, ← List.flatMap_append, List.take_append_drop] at this
      exact this
    try simp only [List.set_cons_zero] at I
    rw [hI] at I
    exact ⟨.inl rfl, [.slice (some ⟨gg, 0, none⟩) (n + 1) cap], ⟨rfl, trivial⟩, _, _, rfl, hl, I⟩
end Go.TF
end
section
/- Adding a fact, as base and the document do. -/
namespace Go.TF
open Go Go.RowKit Go.Proofs
set_option maxRecDepth 20000

theorem srt_place {f : List Fct} (hp : ∀ y ∈ f, PF y) (hs : SrtF f) : ∀ i, (hi : i < f.length) → (i : Int) ≤ placeF f[i]
  | 0, hi => (hp _ (List.getElem_mem hi)).place.1
  | i + 1, hi => by
    have h1 := srt_place hp hs i (by omega)
    have h2 := hs.get (i := i) (j := i + 1) (by omega) hi
    omega
theorem srt_len {f : List Fct} (hp : ∀ y ∈ f, PF y) (hs : SrtF f) : f.length ≤ 125 := by
  rcases Nat.lt_or_ge 125 f.length with h | h
  · have h1 := srt_place hp hs 125 h
    have h2 := (hp _ (List.getElem_mem h)).place.2
    omega
  · exact h
theorem FOk.len125 {l : List Prd} {f : List Fct} (ok : FOk l f) : f.length ≤ 125 := srt_len ok.pf ok.srt
def CloneP (xs : List Fct) (h0 : Heap) : Value → Heap → Prop := fun v h => ∃ s : Sl Fct, v = s.val ∧ s.xs = xs ∧ OwnH 52 4 s Fct.enc h0 h ∧ (s.xs = [] → s.cap = 0)
theorem CloneP.mono {xs : List Fct} {h0 : Heap} : MonoS (CloneP xs h0) := fun _ _ _ hl hx => by
  obtain ⟨s, h1, h2, h3, h4⟩ := hx
  exact ⟨s, h1, h2, h3.le hl, h4⟩
theorem fct_inj {x y : Fct} (h : x.enc = y.enc) : x = y := by
  cases x; cases y; simp only [Fct.enc, List.cons.injEq, Value.int.injEq, true_and, and_true] at h; simp only [Fct.mk.injEq]; exact h
theorem lit_apart {s : Sl Fct} {u : Nat} {h0 h : Heap} {x : Fct} (o : OwnH 52 4 s Fct.enc h0 h) (s0 : s.xs = [] → s.cap = 0) (hu : h u = some (.cells x.enc.toArray 52 (0, 0))) (hx : x ∉ s.xs) : s.at_ ≠ some ⟨u, 0, none⟩ := by
  intro e
  rcases o with rfl | ⟨g, cur, e1, e2, e3, e4, e5, e6, e7⟩
  · cases e
  · rw [e1] at e
    have : g = u := by simpa using e
    subst this
    rw [e3] at hu
    have hc : cur = x.enc.toArray := by simpa using hu
    subst hc
    have hcap : s.cap = 1 := by simp only [List.size_toArray, Fct.enc, List.length_cons, List.length_nil] at e6; omega
    match hs : s.xs with
    | [] => have := s0 hs; omega
    | [y] =>
      rw [hs] at e7
      have : x.enc = y.enc := by simpa [Fct.enc] using e7
      exact hx (by rw [hs, fct_inj this]; simp)
    | _ :: _ :: _ => rw [hs] at e4; simp only [List.length_cons] at e4; omega
theorem flat_set (v : Int) : ∀ (xs : List Fct) (i : Nat) (hi : i < xs.length), (xs.flatMap Fct.enc).set (i * 4 + 3) (.int .i64 v) = (xs.set i ⟨xs[i].pred, xs[i].a, xs[i].b, v⟩).flatMap Fct.enc
  | [], i, hi => absurd hi (Nat.not_lt_zero _)
  | x :: xs, 0, _ => by simp [Fct.enc]
  | x :: xs, i + 1, hi => by
    have := flat_set v xs i (by simpa using hi)
    simp only [List.flatMap_cons, List.set_cons_succ, List.getElem_cons_succ]
    rw [← this, List.set_append, if_neg (by simp only [Fct.enc, List.length_cons, List.length_nil]; omega)]
    congr 2
    show (i + 1) * 4 + 3 - 4 = _
    omega
theorem isF_mem {f : List Fct} {x : Fct} (h : isF f x = false) : x ∉ f := fun hx => by
  have : lkF f (placeF x) = none := by unfold isF at h; cases hk : lkF f (placeF x) <;> simp_all
  exact lkF_none.1 this x hx rfl
/-- What adding hands back. -/
def PutP (r : List Fct × Bool) (v : Value) (h : Heap) : Prop := ∃ s : Sl Fct, v = .tuple #[s.val, .bool r.2] ∧ s.xs = r.1 ∧ Fcts s h
/-- What adding hands back is the call's own. -/
def PutO (h0 : Heap) (r : List Fct × Bool) (v : Value) (h : Heap) : Prop := ∃ s : Sl Fct, v = .tuple #[s.val, .bool r.2] ∧ s.xs = r.1 ∧ Fcts s h ∧ OwnH 52 4 s Fct.enc h0 h
theorem PutO.put {h0 h : Heap} {r : List Fct × Bool} {v : Value} (x : PutO h0 r v h) : PutP r v h := by obtain ⟨s, a, b, c, _⟩ := x; exact ⟨s, a, b, c⟩
set_option maxHeartbeats 1000000 in
theorem Put_own (B : Base) (hB : B.ok) (l : Sl Prd) (hls : Prds l B.h) (f : Sl Fct) (hf : Fcts f B.h) (ok : FOk l.xs f.xs) (x : Fct) (hx : factFine l.xs x = true) : Fn Tryz.prog 67 [l.val, f.val, x.val] B (PutO B.h (addF (predOf l.xs x.pred).kind f.xs x)) := by
  have px := fine_pf ok.len hx
  have hiff := isF_iff (x := x) ok.srt
  have h01 := (fine_iff.1 hx).1
  have hk : x.pred.toNat < l.xs.length := by omega
  have E2 := hls.at hk
  have hpo : l.xs[x.pred.toNat] = predOf l.xs x.pred := (predOf_getE h01.1 h01.2).symm
  have hkd := fine_kind hx
  rw [← hpo] at hkd
  have h125 := ok.len125
  refine Fn.of Tryz.func67 rfl Tryz.ntmps67 (by kernel_rfl) (by simp) ?_
  intro e
  have I := Inv.start hB
  refine WP.seq ?_
  refine WP.region ?_
  refine Ops.go (O.box (v := .agg #[_, _, _, _]) I rfl rfl ?_)
  intro b5 w I
  refine Ops.y (v := .slice _ _ _) (Y.assign rfl) ?_
  refine Ops.y (v := .bool _) (Y.assign rfl) ?_
  refine Ops.nil ?_
  refine WP.seq ?_
  refine WP.region ?_
  refine Ops.y (v := .slice _ _ _) (Y.move rfl) ?_
  refine Ops.y (v := .agg #[_, _, _, _]) (Y.loadv ty_52 rfl (I.rdbox 0 rfl 0 4) rfl rfl) ?_
  refine Ops.go (O.callv I Tryz.call70 (Seek_ok _ I.base_ok f hf ok.pf ok.srt x px) rfl ?_)
  intro w I
  refine Ops.y (v := .tuple #[_, _]) (Y.move rfl) ?_
  refine Ops.y (v := .int .i64 _) (Y.extract rfl rfl) ?_
  refine Ops.y (v := .bool _) (Y.extract rfl rfl) ?_
  refine Ops.y (v := .int .i64 _) (Y.assign rfl) ?_
  refine Ops.y (v := .bool _) (Y.assign rfl) ?_
  refine Ops.nil ?_
  cases hi : isF f.xs x
  · refine WP.seq ?_
    refine WP.seq ?_
    refine WP.region ?_
    refine Ops.y (v := .bool _) (Y.move rfl) ?_
    refine Ops.y (v := .bool true) (Y.b (Y.not rfl) ((by first | rfl | (rw [hi]; rfl)))) ?_
    refine Ops.nil ?_
    refine WP.cond_t rfl ?_
    refine WP.seq ?_
    refine WP.regionF mixed I 5 (by kernel_rfl) ?_
    refine OpsF.y_ (v := .slice _ _ _) (fun _ => runs_none _) (fun _ w us hl I => Y.move rfl) ?_
    refine OpsF.x_ (Φ := CloneP f.xs B.h) CloneP.mono (fun _ => runs_none _) ?_ ?_
    · intro _ w hl I
      try unfold AllL
      refine O.call I Tryz.call63 (CloneFct_ok _ I.base_ok f (hf.le hl) (by omega)) rfl ?_
      rintro _ h2 w I hl' ⟨s, rfl, es, o, s0⟩
      exact ⟨_, hl', I, ⟨s, rfl, es, o.older hl, s0⟩⟩
    refine OpsF.y_ (v := .int .i64 _) (fun _ => runs_none _) (fun _ w us hl I => Y.move rfl) ?_
    refine OpsF.y_ (v := .agg #[_, _, _, _]) (fun _ => runs_none _) (fun _ w us hl I => Y.loadv ty_52 rfl (I.rdbox 0 rfl 0 4) rfl rfl) ?_
    refine OpsF.x_ (Φ := LitW 52 x.enc 1) LitW.mono (fun _ => runs_none _) ?_ ?_
    · intro _ w hl I u21 q21
      exact O.mklit (cs := x.enc) I Tryz.underlying26 Tryz.sizeOf52 Tryz.zeroValue52 (by decide) (by decide) rfl rfl (fun v h w I le sl => ⟨h, le, I, sl⟩)
    refine OpsF.nil ?_
    intro _ w hl I u21 q21 u24 q24
    obtain ⟨s, rfl, es, o, s0⟩ := q21 rfl
    obtain ⟨u, rfl, hu⟩ := q24 rfl
    have hne := lit_apart o s0 hu (by rw [es]; exact isF_mem hi)
    obtain ⟨h6, I, mono6, keep6⟩ := I.unsettle o (Heap.le.refl _)
    refine Ops.go (O.calls Tryz.call136 (Insert_ok I rfl (posF f.xs x) (by rw [es]; exact posF_le) x u ((keep6 u _ hu).resolve_right hne) (by rw [es]; omega)) rfl ?_)
    rintro ed w ⟨v7, h7, rfl, le7, I⟩
    refine ⟨_, rfl, ?_⟩
    have hB6 := I.ext
    obtain ⟨h8, s8, le8, rfl, hx8, o8, I⟩ := I.settleO (by have := posF_le (f := f.xs) (x := x); simp only [List.length_append, List.length_cons, List.length_take, List.length_drop, es]; omega)
    refine Ops.y (v := .slice _ _ _) (Y.assign rfl) ?_
    refine Ops.y (v := .bool _) (Y.assign rfl) ?_
    refine Ops.nil ?_
    refine WP.ret ?_
    repeat (first | refine thenE_ret ?_ | refine blockE_ret ?_)
    exact retQ.mk (vs := [.slice _ _ _, .bool _]) rfl ⟨rfl, rfl, trivial⟩ I.ext_of (by rw [addF_new ok.srt hi]; exact ⟨s8, rfl, by rw [hx8, es], ⟨o8.in (fun _ => rfl), by rw [hx8, es]; simp only [List.length_append, List.length_cons, List.length_take, List.length_drop]; omega⟩, o8.older hB6⟩)
  · obtain ⟨hlt, he⟩ := hiff.1 hi
    have E1 := hf.at hlt
    have ha := addF_old (k := (predOf l.xs x.pred).kind) ok.srt hlt he
    refine WP.seq ?_
    refine WP.seq ?_
    refine WP.region ?_
    refine Ops.y (v := .bool _) (Y.move rfl) ?_
    refine Ops.y (v := .bool false) (Y.b (Y.not rfl) ((by first | rfl | (rw [hi]; rfl)))) ?_
    refine Ops.nil ?_
    refine WP.cond_f rfl ?_
    refine WP.skip ?_
    refine WP.seq ?_
    refine WP.regionQ mixed I (by kernel_rfl) ?_
    refine OpsQ.y (v := .slice _ _ _) (fun w I => Y.move rfl) ?_
    refine OpsQ.y (v := .pointer (some ⟨_, _, none⟩)) (fun w I => Y.fa0 fa_52_0 rfl) ?_
    refine OpsQ.y (v := .int .i64 _) (fun w I => Y.loadv ty_3 rfl (I.rdbox 0 rfl 0 1) rfl rfl) ?_
    refine OpsQ.y (v := .pointer (some ⟨_, _, none⟩)) (fun w I => Y.idxEl E2 Tryz.underlying22 Tryz.sizeOf62 rfl rfl h01.1 rfl) ?_
    refine OpsQ.y (v := .pointer (some ⟨_, _, none⟩)) (fun w I => Y.fa fa_62_2 rfl) ?_
    refine OpsQ.y (v := .int .i64 _) (fun w I => Y.loadv ty_3 rfl (I.rd (E2.rd.part 2 1)) rfl rfl) ?_
    refine OpsQ.y (v := .slice _ _ _) (fun w I => Y.move rfl) ?_
    refine OpsQ.y (v := .int .i64 _) (fun w I => Y.move rfl) ?_
    refine OpsQ.y (v := .pointer (some ⟨_, _, none⟩)) (fun w I => Y.idxEl E1 Tryz.underlying26 Tryz.sizeOf52 rfl rfl (Int.natCast_nonneg _) rfl) ?_
    refine OpsQ.y (v := .pointer (some ⟨_, _, none⟩)) (fun w I => Y.fa fa_52_3 rfl) ?_
    refine OpsQ.y (v := .int .i64 _) (fun w I => Y.loadv ty_3 rfl (I.rd (E1.rd.part 3 1)) rfl rfl) ?_
    refine OpsQ.y (v := .pointer (some ⟨_, _, none⟩)) (fun w I => Y.fa fa_52_3 rfl) ?_
    refine OpsQ.y (v := .int .i64 _) (fun w I => Y.loadv ty_3 rfl (I.rdbox 0 rfl 3 1) rfl rfl) ?_
    refine OpsQ.c (fun w I => QC.callv I Tryz.call137 (Joined_ok _ I.base_ok _ _ _ hkd) rfl) ?_
    refine OpsQ.y (v := .int .i64 _) (fun w I => Y.assign rfl) ?_
    refine OpsQ.nil ?_
    intro w I
    refine WP.seq ?_
    refine WP.seq ?_
    refine WP.region ?_
    refine Ops.y (v := .int .i64 _) (Y.move rfl) ?_
    refine Ops.y (v := .slice _ _ _) (Y.move rfl) ?_
    refine Ops.y (v := .int .i64 _) (Y.move rfl) ?_
    refine Ops.y (v := .pointer (some ⟨_, _, none⟩)) (Y.idxEl E1 Tryz.underlying26 Tryz.sizeOf52 rfl rfl (Int.natCast_nonneg _) rfl) ?_
    refine Ops.y (v := .pointer (some ⟨_, _, none⟩)) (Y.fa fa_52_3 rfl) ?_
    refine Ops.y (v := .int .i64 _) (Y.loadv ty_3 rfl (I.rd (E1.rd.part 3 1)) rfl rfl) ?_
    refine Ops.y (v := .bool (decide _)) (Y.eqi rfl rfl) ?_
    refine Ops.nil ?_
    refine WP.cond_dec rfl (fun h5 => ?_) (fun h5 => ?_)
    · rw [hpo] at h5
      refine WP.seq ?_
      refine WP.region ?_
      refine Ops.y (v := .slice _ _ _) (Y.move rfl) ?_
      refine Ops.go (O.call I Tryz.call63 (CloneFct_ok _ I.base_ok f hf (by omega)) rfl ?_)
      rintro _ h2 w I le2 ⟨s, rfl, es, o, s0⟩
      refine Ops.y (v := .slice _ _ _) (Y.assign rfl) ?_
      refine Ops.y (v := .bool _) (Y.assign rfl) ?_
      refine Ops.nil ?_
      have hset : f.xs.set (posF f.xs x) ⟨f.xs[posF f.xs x].pred, f.xs[posF f.xs x].a, f.xs[posF f.xs x].b, joinV (predOf l.xs x.pred).kind f.xs[posF f.xs x].v x.v⟩ = f.xs := by rw [h5]; exact List.set_getElem_self _
      refine WP.ret ?_
      repeat (first | refine thenE_ret ?_ | refine blockE_ret ?_)
      exact retQ.mk (vs := [.slice _ _ _, .bool _]) rfl ⟨rfl, rfl, trivial⟩ I.ext_of (by rw [ha, hset]; exact ⟨s, by rw [decide_eq_false (fun h => h h5)]; rfl, es, ⟨o.in (fun _ => rfl), by rw [es]; omega⟩, o⟩)
    rw [hpo] at h5
    refine WP.skip ?_
    refine WP.seq ?_
    refine WP.region ?_
    refine Ops.y (v := .slice _ _ _) (Y.move rfl) ?_
    refine Ops.go (O.call I Tryz.call63 (CloneFct_ok _ I.base_ok f hf (by omega)) rfl ?_)
    rintro _ h2 w I le2 ⟨s, rfl, es, o, s0⟩
    refine Ops.y (v := .slice _ _ _) (Y.assign rfl) ?_
    refine Ops.nil ?_
    obtain ⟨a, c, ys⟩ := s
    dsimp only at es
    subst es
    have E3 := (o.in (fun _ => rfl)).el (List.getElem?_eq_getElem hlt)
    obtain ⟨g, rfl⟩ : ∃ g, a = some ⟨g, 0, none⟩ := by
      rcases o with o | ⟨g, cur, e1, _⟩
      · have := congrArg Sl.xs o; dsimp only at this; rw [this] at hlt; simp at hlt
      · exact ⟨g, e1⟩
    obtain ⟨h6, I, mono6, keep6⟩ := I.unsettle o (Heap.le.refl _)
    refine WP.seq ?_
    refine WP.region ?_
    refine Ops.y (v := .slice _ _ _) (Y.move rfl) ?_
    refine Ops.y (v := .int .i64 _) (Y.move rfl) ?_
    refine Ops.y (v := .int .i64 _) (Y.move rfl) ?_
    refine Ops.y (v := .pointer (some ⟨_, _, none⟩)) (Y.idxEl E3 Tryz.underlying26 Tryz.sizeOf52 rfl rfl (Int.natCast_nonneg _) rfl) ?_
    refine Ops.y (v := .pointer (some ⟨_, _, none⟩)) (Y.fa fa_52_3 rfl) ?_
    refine Ops.go (O.storeS (v := .int .i64 _) I ty_3 et_52 0 rfl rfl rfl rfl rfl (by rw [flat_len (enc := Fct.enc) (k := 4) (fun _ => rfl)]; simp only [Sl.off, Option.getD_some]; omega) ?_)
    intro w I
    refine Ops.nil ?_
    have I : Inv B h6 [ownSl 52 4 (.slice (some ⟨g, 0, none⟩) f.xs.length c) f.xs.length ((f.xs.set (posF f.xs x) ⟨f.xs[posF f.xs x].pred, f.xs[posF f.xs x].a, f.xs[posF f.xs x].b, joinV (predOf l.xs x.pred).kind f.xs[posF f.xs x].v x.v⟩).flatMap Fct.enc), box b5 x.enc 52] w := by
      rw [← flat_set, ← hpo]
      have J := I
      simp only [Sl.off, Option.getD_some, Nat.zero_add] at J
      exact J
    have hB6 := I.ext
    obtain ⟨h8, s8, le8, hv8, hx8, o8, I⟩ := I.settleO (by rw [List.length_set])
    refine WP.seq ?_
    refine WP.region ?_
    refine Ops.y (v := .slice _ _ _) (Y.move rfl) ?_
    refine Ops.y (v := .slice _ _ _) (Y.assign rfl) ?_
    refine Ops.y (v := .bool _) (Y.assign rfl) ?_
    refine Ops.nil ?_
    refine WP.ret ?_
    repeat (first | refine thenE_ret ?_ | refine blockE_ret ?_)
    exact retQ.mk (vs := [.slice _ _ _, .bool _]) rfl ⟨rfl, rfl, trivial⟩ I.ext_of (by rw [ha]; exact ⟨s8, by rw [hv8, decide_eq_true h5]; rfl, hx8, ⟨o8.in (fun _ => rfl), by rw [hx8, List.length_set]; omega⟩, o8.older hB6⟩)
theorem nilF {h : Heap} : Fcts ⟨none, 0, []⟩ h := ⟨fun i x hx => by simp at hx, by simp⟩
structure AddS where
  k : Nat
  n : Nat
  a : Option Addr
  c : Nat
  acc : List Fct
  th : Bool
  ch : Bool
structure AddJ (B : Base) (b5 : Nat) (x : Fct) (kd : Int) (f : List Fct) (s : AddS) (w : World) : Prop where
  inv : ∃ h1, B.h.le h1 ∧ Inv B h1 [ownSl 52 4 (.slice s.a s.n s.c) s.n (s.acc.flatMap Fct.enc), box b5 x.enc 52] w
  n : s.n = s.acc.length
  k : s.k ≤ f.length
  le : s.n ≤ s.k + 1
  lo : s.th = false → s.acc = f.take s.k ∧ s.ch = false ∧ ∀ j, j < s.k → ∀ hj : j < f.length, placeF f[j] < placeF x
  hi : s.th = true → addF kd f x = (s.acc ++ f.drop s.k, s.ch) ∧ ∀ j, s.k ≤ j → ∀ hj : j < f.length, placeF x < placeF f[j]
end Go.TF
end
section
/- The laws of facts: each returns true. -/
namespace Go.TF
open Go Go.RowKit Go.Proofs
set_option maxRecDepth 20000

def pathsC : List Fct := [⟨0, 0, 1, 0⟩, ⟨0, 1, 2, 0⟩, ⟨1, 0, 1, 4⟩]
theorem paths_ok (B : Base) (hB : B.ok) : Fn Tryz.prog 90 [] B (fun v h => ∃ s : Sl Fct, v = s.val ∧ s.xs = pathsC ∧ Fcts s h) := by
  refine Fn.of Tryz.func90 rfl Tryz.ntmps90 (by kernel_rfl) (by simp) ?_
  intro e
  have I := Inv.start hB
  refine WP.seq ?_
  refine WP.region ?_
  refine Ops.y (v := .slice _ _ _) (Y.assign rfl) ?_
  refine Ops.nil ?_
  refine WP.seq ?_
  refine WP.region ?_
  refine Ops.y (v := .agg #[.int .i64 _, .int .i64 _, .int .i64 _, .int .i64 _]) (Y.build pl_52 Tryz.zeroValue52 rfl rfl) ?_
  refine Ops.y (v := .agg #[.int .i64 _, .int .i64 _, .int .i64 _, .int .i64 _]) (Y.build pl_52 Tryz.zeroValue52 rfl rfl) ?_
  refine Ops.y (v := .agg #[.int .i64 _, .int .i64 _, .int .i64 _, .int .i64 _]) (Y.build pl_52 Tryz.zeroValue52 rfl rfl) ?_
  refine Ops.go (O.mksl (xs := [⟨0, 0, 1, 0⟩, ⟨0, 1, 2, 0⟩, ⟨1, 0, 1, 4⟩]) (enc := Fct.enc) I Tryz.underlying26 Tryz.sizeOf52 Tryz.zeroValue52 rfl (Nat.le_of_ble_eq_true rfl) rfl rfl (by decide) (fun _ => rfl) ?_)
  intro b4 h4 w I le4 sl4
  refine Ops.y (v := .slice _ _ _) (Y.assign rfl) ?_
  refine Ops.nil ?_
  refine WP.ret ?_
  repeat (first | refine thenE_ret ?_ | refine blockE_ret ?_)
  exact retQ.mk (vs := [.slice _ _ _]) rfl ⟨rfl, trivial⟩ I.ext_of (⟨⟨some ⟨b4, 0, none⟩, 3, [⟨0, 0, 1, 0⟩, ⟨0, 1, 2, 0⟩, ⟨1, 0, 1, 4⟩]⟩, rfl, rfl, sl4, by simp⟩)
theorem Under_at (B : Base) (hB : B.ok) (l : Sl Prd) (hl : Prds l B.h) (f g : Sl Fct) (hf : Fcts f B.h) (hg : Fcts g B.h) (r : Bool × Int) (h : underOf l.xs f.xs g.xs = r) : Fn Tryz.prog 50 [l.val, f.val, g.val] B (fun v _ => v = vBE r) := h ▸ Under_ok B hB l hl f g hf hg
theorem SameFacts_at (B : Base) (hB : B.ok) (f g : Sl Fct) (hf : Fcts f B.h) (hg : Fcts g B.h) (h : f.xs = g.xs) : Fn Tryz.prog 21 [f.val, g.val] B (fun v _ => v = .bool true) := by
  have := SameFacts_ok B hB f g hf hg
  rwa [decide_eq_true h] at this
theorem underOf_of {l : List Prd} {f g : List Fct} (okf : FOk l f) (okg : FOk l g) : underOf l f g = (underF l f g, 0) := by
  unfold underOf
  rw [if_neg (by simp [checkFacts_ok.2 okf]), if_neg (by simp [checkFacts_ok.2 okg])]
end Go.TF
end
section
/- What is checked of programs, wherever they lie; what the roads' strata and needs are: plain. -/
namespace Go.TF
open Go

theorem ne_true {b : Bool} (h : b = false) : ¬ b = true := by rw [h]; decide
def cEr (c : Int × Ltl) : Int × Ltl := (c.1, c.2.er)
theorem usesL_er (rs : List Rul) : usesL (rs.map Rul.er) = (usesL rs).map cEr := by
  induction rs with
  | nil => rfl
  | cons r rs ih =>
    unfold usesL at ih ⊢
    simp only [List.map_cons, List.flatMap_cons, List.map_append, ih]
    congr 1
    simp [Rul.er, cEr, Function.comp_def, Atm.er]
theorem sol_er {cs : List (Int × Ltl)} {n : Nat} {L : List Int} : Sol (cs.map cEr) n L ↔ Sol cs n L :=
  ⟨fun h => ⟨h.len, h.pos, fun c hc => h.sat (cEr c) (List.mem_map_of_mem hc)⟩, fun h => ⟨h.len, h.pos, fun c hc => by obtain ⟨d, hd, rfl⟩ := List.mem_map.1 hc; exact h.sat d hd⟩⟩
theorem least_er {cs : List (Int × Ltl)} {n : Nat} {L : List Int} (h : Least (cs.map cEr) n L) : Least cs n L := ⟨sol_er.1 h.sol, fun M hM => h.least M (sol_er.2 hM)⟩
theorem rulesErr_er (l : List Prd) (rs : List Rul) : rulesErr l (rs.map Rul.er) = rulesErr l rs := by
  induction rs with
  | nil => rfl
  | cons r rs ih => simp only [List.map_cons, rulesErr, checkRule_er, ih]
theorem checkProg_er (p : Prg) : checkProg p.er = checkProg p := by
  have h1 : p.er.preds.xs = p.preds.xs := rfl
  have h2 : p.er.rules.xs = p.rules.xs.map Rul.er := rfl
  unfold checkProg
  rw [h1, h2, List.length_map, rulesErr_er, usesL_er]
  rw [show (∃ M, Sol ((usesL p.rules.xs).map cEr) p.preds.xs.length M) = (∃ M, Sol (usesL p.rules.xs) p.preds.xs.length M) from propext ⟨fun ⟨M, h⟩ => ⟨M, sol_er.1 h⟩, fun ⟨M, h⟩ => ⟨M, sol_er.2 h⟩⟩]

/-! ### The roads -/
theorem lv3 {a b c : Int} (ha : 0 ≤ a) (hb : 0 ≤ b) (hc : 0 ≤ c) (i : Int) : 0 ≤ lv [a, b, c] i := by
  unfold lv
  rw [List.getD_eq_getElem?_getD]
  match i.toNat with
  | 0 => exact ha
  | 1 => exact hb
  | 2 => exact hc
  | _ + 3 => exact Int.le_refl 0
theorem roads_least : Least (usesL roadsC.rules.xs) 3 [0, 0, 1] := by
  refine ⟨⟨rfl, lv3 (by decide) (by decide) (by decide), ?_⟩, fun M hM i => ?_⟩
  · have : ∀ c ∈ usesL roadsC.rules.xs, lst [0, 0, 1] c ≤ lv [0, 0, 1] c.1 := by decide
    exact this
  · have h2 := hM.sat (2, ⟨true, aT 1 [tV 0, tV 0]⟩) (List.mem_of_getElem? (i := 4) rfl)
    have h1 := hM.pos 1
    have e : lst M (2, ⟨true, aT 1 [tV 0, tV 0]⟩) = lv M 1 + 1 := rfl
    unfold SatC at h2
    rw [e] at h2
    dsimp only at h2
    have hi := hM.pos i
    have key : lv [0, 0, 1] i = if i = 2 then 1 else 0 := by
      unfold lv
      rw [List.getD_eq_getElem?_getD]
      by_cases e : i = 2
      · subst e; rfl
      · rw [if_neg e]
        have : i.toNat ≠ 2 := by omega
        match h : i.toNat with
        | 0 => rfl
        | 1 => rfl
        | 2 => exact absurd h this
        | _ + 3 => rfl
    rw [key]
    split
    · rename_i e; subst e; omega
    · exact hi
theorem roads_check : checkProg roadsC = 0 := by
  unfold checkProg
  rw [if_neg (by decide), if_neg (ne_true (show (roadsC.preds.xs.any fun x => !isName x.name) = false by kernel_rfl)), if_neg (ne_true (show twice roadsC.preds.xs = false by kernel_rfl)), if_neg (ne_true (show roadsC.preds.xs.any badArity = false by kernel_rfl)), if_neg (ne_true (show roadsC.preds.xs.any badKind = false by kernel_rfl)), if_neg (by rw [show rulesErr roadsC.preds.xs roadsC.rules.xs = 0 by kernel_rfl]; decide)]
  exact if_pos ⟨_, roads_least.sol⟩
end Go.TF
end
section
/- What must be in any case; no literal is not; what holds of less holds of more. -/
namespace Go.TF
open Go Go.RowKit Go.Proofs
set_option maxRecDepth 20000

/-! ### Wherever they lie -/
theorem litOf_er2 (r : Rul) (k : Int) : (litOf r.er k).atom.args.xs = (litOf r k).atom.args.xs ∧ (litOf r.er k).atom.pred = (litOf r k).atom.pred := by
  have h : r.er.body.xs = r.body.xs.map Ltl.er := rfl
  unfold litOf
  rw [h, List.getD_eq_getElem?_getD, List.getD_eq_getElem?_getD, List.getElem?_map]
  cases r.body.xs[k.toNat]? <;> exact ⟨rfl, rfl⟩
theorem groundF_of {a b : Atm} (h : a.args.xs = b.args.xs ∧ a.pred = b.pred) (x : Vrs) : groundF a x = groundF b x := by
  obtain ⟨p, s⟩ := a; obtain ⟨q, t⟩ := b
  obtain ⟨h1, h2⟩ := h
  dsimp only at h1 h2
  subst h2
  unfold groundF
  simp only [argv, h1]
theorem holdsB_er (f : List Fct) (r : Rul) (x : Vrs) : holdsB f r.er x = holdsB f r x := by
  have h : r.er.body.xs = r.body.xs.map Ltl.er := rfl
  unfold holdsB
  rw [h, List.all_map]
  rfl
theorem headF_er (l : List Prd) (f : List Fct) (r : Rul) (x : Vrs) : headF l f r.er x = headF l f r x := by
  unfold headF headV
  rw [groundF_of (litOf_er2 r r.er.src)]
  rfl
theorem stepsF_er (f : List Fct) (n : Int) (r : Rul) : stepsF f n r.er = stepsF f n r := by
  have h : r.er.body.xs = r.body.xs.map Ltl.er := rfl
  have hs : standsR r.er = standsR r := by
    funext v
    unfold standsR
    rw [h, List.any_map]
    rfl
  unfold stepsF stdOk
  rw [hs]
  simp only [holdsB_er]
/-! ### The roads -/
section
variable {p : Prg} {h : Heap} (hp : RoadsAt p h)
include hp
theorem rd_preds : p.preds.xs = roadsC.preds.xs := by have := congrArg (fun q : Prg => q.preds.xs) hp.er; exact this
theorem rd_len : p.rules.xs.length = 7 := by have := congrArg (fun q : Prg => q.rules.xs.length) hp.er; simpa [Prg.er, roadsC] using this
end
section
variable (B : Base) (hB : B.ok) (p : Prg) (hp : p.In B.h) (hnm : p.Nm) (f : Sl Fct) (hf : Fcts f B.h) (n : Int)
include hB hp hnm hf
end
/-! ### No literal is not -/
/-! ### What holds of less holds of more -/
theorem isF_up {l : List Prd} {f g : List Fct} (hu : underF l f g = true) {y : Fct} (h : isF f y = true) : isF g y = true := by
  unfold isF at *
  cases hl : lkF f (placeF y) with
  | none => rw [hl] at h; cases h
  | some v =>
    obtain ⟨z, hz, e, _⟩ := lkF_mem hl
    obtain ⟨u, h1, _⟩ := underF_iff.1 hu z hz
    rw [← e, h1]; rfl
end Go.TF
end
section
/- CheckProg, of the document; Strata; StrataOf. -/
namespace Go.TF
open Go Go.RowKit Go.Proofs
set_option maxRecDepth 20000

end Go.TF
end
section
/- What the document says of a step and of all steps of a rule. -/
namespace Go.TF
open Go Go.RowKit Go.Proofs
set_option maxRecDepth 20000

end Go.TF
end
section
/- What stands in a rule; all steps of a rule, as the document tells them. -/
namespace Go.TF
open Go Go.RowKit Go.Proofs
set_option maxRecDepth 20000

end Go.TF
end
section
/- Ranging over an iterator: what is known may grow from round to round. -/
namespace Go.TF
open Go Go.RowKit

/-- What a round owes at its end. -/
def roundQH (B : Base) (hg : Heap) {σ : Type} (U : σ → List SA) (T : List SA) (Jn : σ → Heap → Prop) (Jx : Jmp → σ → Heap → Prop) : Exit → Env → World → Prop
  | .normal, _, W => ∃ h2 s X, hg.le h2 ∧ Inv B h2 (X ++ (U s ++ T)) W ∧ Jn s h2
  | .ret, _, W => ∃ h2 s X, hg.le h2 ∧ Inv B h2 (X ++ (U s ++ T)) W ∧ Jx .ret s h2
  | .exit id, _, W => ∃ h2 s X, hg.le h2 ∧ Inv B h2 (X ++ (U s ++ T)) W ∧ Jx (.exit id) s h2
  | .goto t, _, W => ∃ h2 s X, hg.le h2 ∧ Inv B h2 (X ++ (U s ++ T)) W ∧ Jx (.goto t) s h2
  | _, _, _ => False
theorem WPD.rangeFuncH {α σ : Type} {P : Program} {N : Nat} {e : Env} {w : World} {Q : Exit → Env → World → List Deferred → Prop} {B : Base} {h : Heap} {ms : List Nat} {g : Operand} {ps : Array Tmp} {assign body : Code} {gf : FuncId} {lb : List Value}
    {encs : α → List Value} {xs : List α} (U : σ → List SA) (Jc : Nat → σ → Heap → Prop) (Jx : Jmp → σ → Heap → Prop) (mono : ∀ k s h h', h.le h' → Jc k s h → Jc k s h') (s0 : σ) (I : Inv B h (U s0 ++ ms.map markSA) w) (j0 : Jc 0 s0 h)
    (hg : ev e g = .func (.func gf) #[] lb.toArray) (eg : Enters P gf) (it : Iter P gf lb encs xs h) (hps : ∀ x, (encs x).length = ps.size) (hpN : ps.toList.all (· < N) = true) (hsa : slotsOk N assign = true) (hsb : slotsOk N body = true)
    (round : ∀ (l : Nat) (r : Loop) (ms' : List Nat) (hg : Heap) (k : Nat) (x : α) (s : σ) (W : World), xs[k]? = some x → h.le hg → Inv B hg (U s ++ (loopSA l r :: ms'.map markSA)) W → Jc k s hg →
      WPI P N l assign (argE e (ps.toList.zip (encs x))) W (thenE (fun e1 W1 => ∃ h1 X, hg.le h1 ∧ Inv B h1 (X ++ (U s ++ (loopSA l r :: ms'.map markSA))) W1 ∧
        ∀ r' W2, Inv B h1 (X ++ (U s ++ (loopSA l r' :: ms'.map markSA))) W2 → WPI P N l body e1 W2 (roundQH B h1 U (loopSA l r' :: ms'.map markSA) (Jc (k + 1)) Jx)) (fun _ _ _ => False)))
    (hdone : ∀ D h2 s W, h.le h2 → Inv B h2 (U s ++ (D :: ms).map markSA) W → Jc xs.length s h2 → Q .normal e W ((D :: ms).map mark))
    (hstop : ∀ D c h2 s W, h.le h2 → Inv B h2 (U s ++ (D :: ms).map markSA) W → Jx c s h2 → Q c.ex e W ((D :: ms).map mark)) :
    WPD P N (ms.map mark) (.rangeFunc g ps assign body) e w Q := by
  intro _ a h1 h2 h3
  subst h3
  refine (wpIn_wide (n := 1)).1 (wpIn_rangeFunc ?_)
  intro fn _
  obtain ⟨rec, hrec⟩ : ∃ rec : LoopState → Option Code → Loop, rec = fun st pe => { state := st, pending := pe, fn, tmps := a.tmps, params := ps, assign, body, defers := w.heap.size } := ⟨_, rfl⟩
  obtain ⟨l, hl⟩ : ∃ l, l = w.heap.size + 1 := ⟨_, rfl⟩
  obtain ⟨W1, hW1⟩ : ∃ W1, (w.alloc (.deferred (some []))).alloc (.loop (rec .ready none)) = W1 := ⟨_, rfl⟩
  have I1 : Inv B h (U s0 ++ (loopSA l (rec .ready none) :: (w.heap.size :: ms).map markSA)) W1 := by
    have J1 : Inv B h (markSA w.heap.size :: (U s0 ++ ms.map markSA)) (w.alloc (.deferred (some []))) := I.gain (Grow.alloc w _) (World.alloc_heap_new w _) (fun b hb => by simp [markSA] at hb; subst hb; simp)
    have J2 : Inv B h (loopSA l (rec .ready none) :: (markSA w.heap.size :: (U s0 ++ ms.map markSA))) W1 := by
      rw [← hW1]
      refine J1.gain (Grow.alloc _ _) ?_ (fun b hb => ?_)
      · have := World.alloc_heap_new (w.alloc (.deferred (some []))) (.loop (rec .ready none))
        rw [World.size_alloc] at this
        rw [hl]; exact this
      · simp [loopSA] at hb; subst hb; rw [hl]; simp
    refine J2.perm ?_
    refine List.perm_middle.trans ?_
    refine List.Perm.cons _ ?_
    exact List.perm_middle
  refine ⟨l, [mark w.heap.size], W1, { target := .fn (.func gf) lb.toArray, args := #[.func (.yield l) #[] #[]] }, W1, gf, #[.func (.yield l) #[] #[]] ++ lb.toArray, W1, ?_, ?_, fun _ _ => trivial, ?_, (fun hd => by cases hd), ?_⟩
  · rw [← hW1, hrec, hl]; exact run_enterLoop_outer _ _ _ _ _
  · rw [eval_env]
    have hg' : ev (env a) g = .func (.func gf) #[] lb.toArray := hg
    simp only [resolve, hg']
    simp [go_sem]
    rfl
  · simp [invoke, go_sem]; exact eg _ _
  · refine callsIn_wide.2 ?_
    refine (it l (fun hg k W => h.le hg ∧ ∃ s, Inv B hg (U s ++ (loopSA l (rec .ready none) :: (w.heap.size :: ms).map markSA)) W ∧ Jc k s hg)
      (fun W => ∃ c hg s, h.le hg ∧ Inv B hg (U s ++ (loopSA l (rec .done (some c.code)) :: (w.heap.size :: ms).map markSA)) W ∧ Jx c s hg) h W1 (Heap.le.refl h) ⟨Heap.le.refl h, s0, I1, j0⟩
      (fun hg k W ⟨_, s, I, _⟩ => I.base_ok) (fun hg k W hg' W' ⟨g1, s, I, hj⟩ X => ⟨g1.trans X.ext, s, I.called X, mono _ _ _ _ X.ext hj⟩) ?_).mono ?_
    · rintro hg' k x W g0 hx ⟨g1, s, IW, hj⟩
      have hL := IW.getLoop
      have hy := run_yield (P := P) (args := (encs x).toArray) hL (by rw [hrec]; simpa using hps x)
      refine ⟨_, _, _, _, hy, roundIn_of_wpIn trivial ?_⟩
      rw [hrec]
      have hfold : (ps.zip (encs x).toArray).foldl (fun tmps (t, a) => tmps.setIfInBounds t a) a.tmps = (ps.toList.zip (encs x)).foldl (fun t p => t.setIfInBounds p.1 p.2) a.tmps := by
        rw [← Array.foldl_toList]; simp
      have hE := env_args (N := N) (ps.toList.zip (encs x)) a.tmps h1 (fun p hp => by
        have := (List.all_eq_true.1 hpN) p.1 (List.of_mem_zip hp).1
        simpa using this)
      have henv : env { tmps := a.tmps, defers := [] } = env a := rfl
      rw [henv] at hE
      have hR := round l (rec .ready none) (w.heap.size :: ms) hg' k x s W hx g1 IW hj hsa { tmps := (ps.toList.zip (encs x)).foldl (fun t p => t.setIfInBounds p.1 p.2) a.tmps, defers := [] } hE.2 rfl hE.1
      simp only [hfold]
      refine wpIn_mono hR ?_
      rintro x1 a1 w1 ⟨k1, k2, k3⟩
      cases x1 <;> simp only [thenE] at k3 <;> first | exact k3.elim | skip
      obtain ⟨hg1, X, gl1, IX, hb⟩ := k3
      have IX' : Inv B hg1 ((X ++ U s) ++ (loopSA l (rec .ready none) :: (w.heap.size :: ms).map markSA)) w1 := by rw [List.append_assoc]; exact IX
      refine ⟨_, run_beginRound IX'.getLoop (by rw [hrec]), ?_⟩
      have I2 := IX'.setLoop { rec .ready none with state := .busy }
      rw [List.append_assoc] at I2
      refine wpIn_mono (hb _ _ I2 hsb a1 k1 k2 rfl) ?_
      have fin : ∀ (jump : Option Code) (h2 : Heap) (s2 : σ) (X2 : List SA) (W3 : World), Inv B h2 (X2 ++ (U s2 ++ (loopSA l { rec .ready none with state := .busy } :: (w.heap.size :: ms).map markSA))) W3 →
          ∃ W4, (Instr.endRound l jump).run P W3 = .ok (.bool jump.isNone) W4 ∧ Inv B h2 (U s2 ++ (loopSA l (rec (if jump.isNone then .ready else .done) jump) :: (w.heap.size :: ms).map markSA)) W4 := fun jump h2 s2 X2 W3 I3 => by
        have I3' : Inv B h2 (U s2 ++ (loopSA l { rec .ready none with state := .busy } :: (w.heap.size :: ms).map markSA)) W3 := I3.weak (List.sublist_append_right _ _)
        have := run_endRound (P := P) jump I3'.getLoop
        refine ⟨_, this, ?_⟩
        have I4 := I3'.setLoop (rec (if jump.isNone then .ready else .done) jump)
        rw [hrec] at I4 ⊢
        exact I4
      rintro x2 a2 w2 ⟨q1, q2, q3⟩
      cases x2 <;> simp only [roundQH] at q3 <;> simp only [roundPost] <;> first | exact q3.elim | skip
      · obtain ⟨h2, s2, X2, gl2, I3, hj2⟩ := q3
        obtain ⟨W4, hr, I4⟩ := fin none h2 s2 X2 _ I3
        exact ⟨_, _, hr, .inl ⟨rfl, h2, gl1.trans gl2, (g1.trans gl1).trans gl2, s2, (by rw [hrec] at I4; exact I4), hj2⟩⟩
      · rename_i id
        obtain ⟨h2, s2, X2, gl2, I3, hj2⟩ := q3
        obtain ⟨W4, hr, I4⟩ := fin (some (.exit id)) h2 s2 X2 _ I3
        exact ⟨_, _, hr, .inr ⟨rfl, .exit id, h2, s2, (g1.trans gl1).trans gl2, (by rw [hrec] at I4; exact I4), hj2⟩⟩
      · rename_i t
        obtain ⟨h2, s2, X2, gl2, I3, hj2⟩ := q3
        obtain ⟨W4, hr, I4⟩ := fin (some (.goto t)) h2 s2 X2 _ I3
        exact ⟨_, _, hr, .inr ⟨rfl, .goto t, h2, s2, (g1.trans gl1).trans gl2, (by rw [hrec] at I4; exact I4), hj2⟩⟩
      · obtain ⟨h2, s2, X2, gl2, I3, hj2⟩ := q3
        obtain ⟨W4, hr, I4⟩ := fin (some .ret) h2 s2 X2 _ I3
        exact ⟨_, _, hr, .inr ⟨rfl, .ret, h2, s2, (g1.trans gl1).trans gl2, (by rw [hrec] at I4; exact I4), hj2⟩⟩
    · rintro ed W2 ⟨⟨v, rfl⟩, (⟨hg', gl, g1, s, I2, hj⟩ | ⟨c, hg', s, g1, I2, hj⟩)⟩
      · refine ⟨none, _, by have := run_endLoop (P := P) I2.getLoop (by rw [hrec]; simp); rw [hrec] at this; exact this, ?_⟩
        have I3 := (I2.setLoop { rec .ready none with state := .exhausted }).outLoop
        refine ⟨h1, ?_⟩
        have hq := hdone w.heap.size hg' s _ g1 (by rw [hrec] at I3; exact I3) hj
        have hq' : Q .normal (env a) (W2.putObj l (.loop { rec .ready none with state := .exhausted })) (mark w.heap.size :: a.defers) := by rw [h2]; rw [hrec]; exact hq
        rw [hrec] at hq'
        exact hq'
      · refine ⟨some c.code, _, by have := run_endLoop (P := P) I2.getLoop (by rw [hrec]; simp); rw [hrec] at this; exact this, ?_⟩
        have I3 := (I2.setLoop { rec .done (some c.code) with state := .exhausted }).outLoop
        have hq := hstop w.heap.size c hg' s _ g1 (by rw [hrec] at I3; exact I3) hj
        have hq' : Q c.ex (env a) (W2.putObj l (.loop { rec .done (some c.code) with state := .exhausted })) (mark w.heap.size :: a.defers) := by rw [h2]; rw [hrec]; exact hq
        rw [hrec] at hq'
        cases c with
        | ret => exact wpIn_ret ⟨h1, hq'⟩
        | exit id => exact wpIn_exit ⟨h1, hq'⟩
        | goto t => exact wpIn_goto ⟨h1, hq'⟩

theorem WPD.regionQ {P : Program} {N : Nat} {D : List Deferred} {e : Env} {w : World} {Q : Exit → Env → World → List Deferred → Prop} {id : Nat} {ops : Array Oper} {B : Base} {h : Heap} {M : List SA} (hm : Mixed P) (I : Inv B h M w) (hB : Region.lexB .any ops = true)
    (k : OpsQ P ops (Inv B h M) ops.toList e (fun e' => ∀ w', Inv B h M w' → Q .normal e' w' D)) : WPD P N D (.region id ops true) e w Q := WPD.of (WP.regionQ hm I hB k)
theorem O.yx {P : Program} {o : Oper} {e : Env} {w : World} {B : Base} {h : Heap} {M : List SA} {Φ : Sp} {v : Value} (I : Inv B h M w) (hy : Y P o e w v) (hv : Φ v h) : Op1 P o e w (fun u w' => ∃ h2, h.le h2 ∧ Inv B h2 M w' ∧ Φ u h2) := by
  unfold Op1; rw [hy]; exact ⟨h, Heap.le.refl _, I, hv⟩
theorem O.yd {P : Program} {o : Oper} {e : Env} {w : World} {B : Base} {h : Heap} {M : List SA} {v v' : Value} (I : Inv B h M w) (hy : Y P o e w v) (hv : v = v') : Op1 P o e w (fun u w' => u = v' ∧ Inv B h M w') := by
  unfold Op1; rw [hy]; exact ⟨hv, I⟩
end Go.TF
end
section
/- Strata, StrataOf, NeedsOf. -/
namespace Go.TF
open Go Go.RowKit Go.Proofs
set_option maxRecDepth 20000

theorem heads_in {p : Prg} (h : rulesErr p.preds.xs p.rules.xs = 0) : ∀ r ∈ p.rules.xs, 0 ≤ r.head.pred ∧ r.head.pred < p.preds.xs.length := fun r hr => checkAtom_in' (checkRule_ok (rulesErr_zero.1 h r hr)).1
theorem boxIsB {b : Nat} {L : List Bool} {T : TypeId} {h : Heap} {c : Nat} (hb : h b = some (.cells (L.map vB).toArray T (0, 0))) (hs : L.length ≤ 140737488355328) : (⟨some ⟨b, 0, none⟩, c, L⟩ : Sl Bool).Is 1 bEnc h :=
  ⟨fun i x hx => ⟨rfl, fun j v hv => by
    cases j with
    | zero => simp at hv; subst hv; simp only [Heap.cell, Sl.blk, Sl.off, Option.getD_some, hb]; simp [hx]
    | succ j => simp at hv⟩, hs⟩
theorem bv_some {L : List Bool} {n : Nat} (hl : L.length = n) {i : Int} (h0 : 0 ≤ i) (h1 : i < n) : L[i.toNat]? = some (bv L i) := by
  have : i.toNat < L.length := by omega
  simp [bv, List.getD_eq_getElem?_getD, this]
end Go.TF
end
section
/- A round: asked, which rules, what they tell; put one behind the other. -/
namespace Go.TF
open Go Go.RowKit Go.Proofs
set_option maxRecDepth 20000

noncomputable def askR (p : Prg) (f : List Fct) : Int := if checkProg p ≠ 0 then checkProg p else checkFacts p.preds.xs f
theorem askR_iff {p : Prg} {f : List Fct} : askR p f = 0 ↔ checkProg p = 0 ∧ FOk p.preds.xs f := by
  unfold askR
  constructor
  · intro h
    split at h
    · rename_i h1; exact absurd h h1
    · rename_i h1; exact ⟨Decidable.not_not.1 h1, checkFacts_ok.1 h⟩
  · rintro ⟨h1, h2⟩
    rw [if_neg (by omega)]; exact checkFacts_ok.2 h2
theorem rules_rok {p : Prg} (h : checkProg p = 0) {f : List Fct} (okf : FOk p.preds.xs f) : ∀ r ∈ p.rules.xs, ROk p.preds.xs r := fun r hr =>
  rok_of okf.len okf.preds (rulesErr_zero.1 (checkProg_ok h).2.2.1 r hr)
/-- A test of a rule's number, as a function that keeps cs. -/
def OfC (P : Program) (g : FuncId) (cs : List Value) (h : Heap) (len : Nat) (q : Nat → Bool) : Prop :=
  Enters P g ∧ ∀ B : Base, B.ok → h.le B.h → ∀ n : Nat, n < len → Fn P g ([.int .i64 n] ++ cs) B (fun v _ => v = .bool (q n))
theorem OfC.le {P : Program} {g : FuncId} {cs : List Value} {h h' : Heap} {len : Nat} {q : Nat → Bool} (o : OfC P g cs h len q) (hl : h.le h') : OfC P g cs h' len q := ⟨o.1, fun B hB hle => o.2 B hB (hl.trans hle)⟩
theorem ROf_ok (B : Base) (hB : B.ok) (p : Prg) (s : Sl Int) (st : Int) : Fn Tryz.prog 65 [p.val, s.val, .int .i64 st] B (fun v h => ∃ b4 b3 b5, v = .func (.func 132) #[] #[.pointer (some ⟨b4, 0, none⟩), .pointer (some ⟨b3, 0, none⟩), .pointer (some ⟨b5, 0, none⟩)] ∧ Known h b4 [s.val] ∧ Known h b3 p.enc ∧ Known h b5 [.int .i64 st]) := by
  refine Fn.of Tryz.func65 rfl Tryz.ntmps65 (by kernel_rfl) (by simp) ?_
  intro e
  have I := Inv.start hB
  refine WP.seq ?_
  refine WP.region ?_
  refine Ops.go (O.box (v := .agg #[_, _]) I rfl rfl ?_)
  intro b3 w I
  refine Ops.go (O.box (v := .slice _ _ _) I rfl rfl ?_)
  intro b4 w I
  refine Ops.go (O.box (v := .int .i64 _) I rfl rfl ?_)
  intro b5 w I
  refine Ops.y (v := .nilFunc) (Y.assign rfl) ?_
  refine Ops.nil ?_
  refine WP.seq ?_
  refine WP.region ?_
  refine Ops.y (v := .func _ _ _) (Y.mkfunc rfl rfl) ?_
  refine Ops.y (v := .func _ _ _) (Y.assign rfl) ?_
  refine Ops.nil ?_
  obtain ⟨h5, le5, k5, I⟩ := I.settleBox
  obtain ⟨h4, le4, k4, I⟩ := I.settleBox
  obtain ⟨h3, le3, k3, I⟩ := I.settleBox
  refine WP.ret ?_
  repeat (first | refine thenE_ret ?_ | refine blockE_ret ?_)
  exact retQ.mk (vs := [.func _ _ _]) rfl ⟨rfl, trivial⟩ I.ext_of (⟨b4, b3, b5, rfl, k4.le le3, k3, k5.le (le4.trans le3)⟩)
theorem ROf1_ok (p : Prg) (s : Sl Int) (st : Int) (b4 b3 b5 : Nat) {h : Heap} (k4 : Known h b4 [s.val]) (k3 : Known h b3 p.enc) (k5 : Known h b5 [.int .i64 st]) (hp : p.In h) (hs : s.Is 1 iEnc h) (hl : s.xs.length = p.preds.xs.length) (hin : ∀ r ∈ p.rules.xs, 0 ≤ r.head.pred ∧ r.head.pred < p.preds.xs.length) :
    OfC Tryz.prog 132 [.pointer (some ⟨b4, 0, none⟩), .pointer (some ⟨b3, 0, none⟩), .pointer (some ⟨b5, 0, none⟩)] h p.rules.xs.length (ofQ p s.xs st) := by
  refine ⟨Tryz.call132, fun B hB hle n hn => ?_⟩
  have k4 := k4.le hle
  have k3 := k3.le hle
  have k5 := k5.le hle
  have hp := hp.le hle
  have Er := hp.rules.is.at hn
  obtain ⟨i0, i1⟩ := hin _ (List.getElem_mem hn)
  have El1 := (hs.le hle).el.el (lv_some hl i0 i1)
  have hq : ofQ p s.xs st n = decide (lv s.xs p.rules.xs[n].head.pred = st) := by unfold ofQ; rw [List.getD_eq_getElem?_getD, List.getElem?_eq_getElem hn]; rfl
  show Fn Tryz.prog 132 [.int .i64 n, .pointer (some ⟨b4, 0, none⟩), .pointer (some ⟨b3, 0, none⟩), .pointer (some ⟨b5, 0, none⟩)] B _
  refine Fn.of Tryz.func132 rfl Tryz.ntmps132 (by kernel_rfl) (by simp) ?_
  intro e
  have I := Inv.start hB
  refine WP.seq ?_
  refine WP.region ?_
  refine Ops.y (v := .bool _) (Y.assign rfl) ?_
  refine Ops.nil ?_
  refine WP.seq ?_
  refine WP.regionQ mixed I (by kernel_rfl) ?_
  refine OpsQ.y (v := .slice _ _ _) (fun w I => Y.loadv ty_45 rfl (I.rd (k4.rd.part 0 1)) rfl rfl) ?_
  refine OpsQ.y (v := .pointer (some ⟨_, _, none⟩)) (fun w I => Y.fa fa_25_1 rfl) ?_
  refine OpsQ.y (v := .slice _ _ _) (fun w I => Y.loadv ty_23 rfl (I.rd (k3.rd.part 1 1)) rfl rfl) ?_
  refine OpsQ.y (v := .int .i64 _) (fun w I => Y.move rfl) ?_
  refine OpsQ.y (v := .pointer (some ⟨_, _, none⟩)) (fun w I => Y.idxEl Er Tryz.underlying23 Tryz.sizeOf68 rfl rfl (Int.natCast_nonneg _) rfl) ?_
  refine OpsQ.y (v := .pointer (some ⟨_, _, none⟩)) (fun w I => Y.fa0 fa_68_0 rfl) ?_
  refine OpsQ.y (v := .pointer (some ⟨_, _, none⟩)) (fun w I => Y.fa0 fa_65_0 rfl) ?_
  refine OpsQ.y (v := .int .i64 _) (fun w I => Y.loadv ty_3 rfl (I.rd (Er.rd.part 0 1)) rfl rfl) ?_
  refine OpsQ.y (v := .pointer (some ⟨_, _, none⟩)) (fun w I => Y.idxEl El1 Tryz.underlying45 Tryz.sizeOf3 rfl rfl i0 rfl) ?_
  refine OpsQ.y (v := .int .i64 _) (fun w I => Y.loadv ty_3 rfl (I.rd (El1.rd.part 0 1)) rfl rfl) ?_
  refine OpsQ.y (v := .int .i64 _) (fun w I => Y.loadv ty_3 rfl (I.rd (k5.rd.part 0 1)) rfl rfl) ?_
  refine OpsQ.y (v := .bool (decide _)) (fun w I => Y.eqi rfl rfl) ?_
  refine OpsQ.y (v := .bool _) (fun w I => Y.assign rfl) ?_
  refine OpsQ.nil ?_
  intro w I
  refine WP.ret ?_
  repeat (first | refine thenE_ret ?_ | refine blockE_ret ?_)
  exact retQ.mk (vs := [.bool _]) rfl ⟨rfl, trivial⟩ I.ext_of (by simp only [tup]; rw [hq])
theorem Told_ok (B : Base) (hB : B.ok) (p : Prg) (f : Sl Fct) (g : FuncId) (cs : List Value) : Fn Tryz.prog 64 [p.val, f.val, .func (.func g) #[] cs.toArray] B (fun v h => ∃ b3 b5 b4, v = .func (.func 130) #[] #[.pointer (some ⟨b3, 0, none⟩), .pointer (some ⟨b5, 0, none⟩), .pointer (some ⟨b4, 0, none⟩)] ∧ Known h b3 p.enc ∧ Known h b5 [.func (.func g) #[] cs.toArray] ∧ Known h b4 [f.val]) := by
  refine Fn.of Tryz.func64 rfl Tryz.ntmps64 (by kernel_rfl) (by simp) ?_
  intro e
  have I := Inv.start hB
  refine WP.seq ?_
  refine WP.region ?_
  refine Ops.go (O.box (v := .agg #[_, _]) I rfl rfl ?_)
  intro b3 w I
  refine Ops.go (O.box (v := .slice _ _ _) I rfl rfl ?_)
  intro b4 w I
  refine Ops.go (O.box (v := .func _ _ _) I rfl rfl ?_)
  intro b5 w I
  refine Ops.y (v := .nilFunc) (Y.assign rfl) ?_
  refine Ops.nil ?_
  refine WP.seq ?_
  refine WP.region ?_
  refine Ops.y (v := .func _ _ _) (Y.mkfunc rfl rfl) ?_
  refine Ops.y (v := .func _ _ _) (Y.assign rfl) ?_
  refine Ops.nil ?_
  obtain ⟨h5, le5, k5, I⟩ := I.settleBox
  obtain ⟨h4, le4, k4, I⟩ := I.settleBox
  obtain ⟨h3, le3, k3, I⟩ := I.settleBox
  refine WP.ret ?_
  repeat (first | refine thenE_ret ?_ | refine blockE_ret ?_)
  exact retQ.mk (vs := [.func _ _ _]) rfl ⟨rfl, trivial⟩ I.ext_of (⟨b3, b5, b4, rfl, k3, k5.le (le4.trans le3), k4.le le3⟩)
def tEnc (t : Stp × Fct) : List Value := [t.1.val, t.2.val]
set_option maxHeartbeats 4000000 in
theorem Told1_iter (p : Prg) (f : Sl Fct) (g : FuncId) (cs : List Value) (q : Nat → Bool) (bp bo bf : Nat) (h : Heap) (kp : Known h bp p.enc) (ko : Known h bo [.func (.func g) #[] cs.toArray]) (kf : Known h bf [f.val]) (hp : p.In h) (hf : Fcts f h)
    (hpr : checkProg p = 0) (okf : FOk p.preds.xs f.xs) (ho : OfC Tryz.prog g cs h p.rules.xs.length q) :
    Iter Tryz.prog 130 [.pointer (some ⟨bp, 0, none⟩), .pointer (some ⟨bo, 0, none⟩), .pointer (some ⟨bf, 0, none⟩)] tEnc (toldL p.preds.xs f.xs p.rules.xs q) h := by
  intro l J Jx hg W hle j0 hok hext hround
  have hsm := hp.rules.is.small
  refine Calls.ofWP (args := [.func (.yield l) #[] #[], .pointer (some ⟨bp, 0, none⟩), .pointer (some ⟨bo, 0, none⟩), .pointer (some ⟨bf, 0, none⟩)]) Tryz.func130 rfl Tryz.ntmps130 (by kernel_rfl) (by simp) ?_
  intro e
  have I := Inv.start (hok _ _ _ j0)
  have kp0 := kp.le hle
  refine WP.seq ?_
  refine WP.region ?_
  refine Ops.y (v := .pointer (some ⟨_, _, none⟩)) (Y.fa fa_25_1 rfl) ?_
  refine Ops.y (v := .slice _ _ _) (Y.loadv ty_23 rfl (I.rd (kp0.rd.part 1 1)) rfl rfl) ?_
  refine Ops.y (v := .int .i64 _) (Y.lens Tryz.underlying23 rfl) ?_
  refine Ops.y (v := .int .i64 _) (Y.move rfl) ?_
  refine Ops.nil ?_
  refine WP.block ?_
  refine WP.loopE (σ := Nat) (fun n => [(0, .func (.yield l) #[] #[]), (1, .pointer (some ⟨bp, 0, none⟩)), (2, .pointer (some ⟨bo, 0, none⟩)), (3, .pointer (some ⟨bf, 0, none⟩)), (12, .int .i64 p.rules.xs.length), (13, .int .i64 n)])
    (fun n w => n ≤ p.rules.xs.length ∧ ∃ h1, hg.le h1 ∧ J h1 (toldK p.preds.xs f.xs p.rules.xs q n).length w) (fun n => p.rules.xs.length - n)
    ⟨0, ⟨rfl, rfl, rfl, rfl, rfl, rfl, trivial⟩, Nat.zero_le _, hg, Heap.le.refl _, j0⟩ ?_
  rintro n e w ⟨hn, h1, gl1, j1⟩
  have I := Inv.start (hok _ _ _ j1)
  have l1 := hle.trans gl1
  have kp := kp.le l1
  have ko := ko.le l1
  have kf := kf.le l1
  have hp := hp.le l1
  have hf := hf.le l1
  refine WP.seq ?_
  refine WP.region ?_
  refine Ops.y (v := .bool (decide _)) (Y.lti rfl rfl) ?_
  refine Ops.nil ?_
  refine WP.seq ?_
  refine WP.cond_dec rfl (fun hc => ?_) (fun hc => ?_)
  · have hn' : n < p.rules.xs.length := by omega
    have hr : p.rules.xs[n]? = some p.rules.xs[n] := List.getElem?_eq_getElem hn'
    have hr' : p.rules.xs[(n : Int).toNat]? = some p.rules.xs[n] := by rw [Int.toNat_natCast]; exact hr
    have ok := rules_rok hpr okf _ (List.getElem_mem hn')
    have hgd : p.rules.xs.getD n default = p.rules.xs[n] := by rw [List.getD_eq_getElem?_getD, hr]; rfl
    refine WP.skip ?_
    refine WP.seq ?_
    refine WP.block ?_
    refine WP.seq ?_
    refine WP.region ?_
    refine Ops.y (v := .int .i64 _) (Y.move rfl) ?_
    refine Ops.y (v := .int .i64 _) (Y.assign rfl) ?_
    refine Ops.nil ?_
    refine WP.seq ?_
    refine WP.seq ?_
    refine WP.region ?_
    refine Ops.y (v := .func _ _ _) (Y.loadv ty_102 rfl (I.rd (ko.rd.part 0 1)) rfl rfl) ?_
    refine Ops.y (v := .int .i64 _) (Y.move rfl) ?_
    refine Ops.go (O.callcv I ho.1 (fs := []) (cs := cs) rfl (ho.2 _ I.base_ok l1 n hn') rfl ?_)
    intro w I
    refine Ops.y (v := .bool _) (Y.not rfl) ?_
    refine Ops.nil ?_
    refine WP.cond rfl (fun h3 => ?_) (fun h3 => ?_)
    · have hq : q n = false := by simpa using h3
      have hN : toldN p.preds.xs f.xs p.rules.xs q n = [] := by unfold toldN; rw [hq]; rfl
      refine WP.exit ?_
      refine WP.region ?_
      refine Ops.y (v := .int .i64 _) (Y.addi rfl rfl ⟨by omega, by omega⟩) ?_
      refine Ops.y (v := .int .i64 _) (Y.move rfl) ?_
      refine Ops.nil ?_
      exact ⟨n + 1, ⟨⟨rfl, rfl, rfl, rfl, rfl, rfl, trivial⟩, by omega, h1, gl1, by rw [toldK_succ, hN, List.append_nil]; exact hext _ _ _ _ _ j1 I.ext_of⟩, by omega⟩
    have hq : q n = true := by simpa using h3
    have hN : toldN p.preds.xs f.xs p.rules.xs q n = (stepsF f.xs n p.rules.xs[n]).map fun s => (s, headF p.preds.xs f.xs p.rules.xs[n] s.vars) := by unfold toldN; rw [hq, if_pos rfl, hgd]
    refine WP.skip ?_
    refine WP.seq ?_
    refine WP.region ?_
    refine Ops.y (v := .agg #[_, _]) (Y.loadv ty_25 rfl (I.rd (kp.rd.part 0 2)) rfl rfl) ?_
    refine Ops.y (v := .slice _ _ _) (Y.loadv ty_26 rfl (I.rd (kf.rd.part 0 1)) rfl rfl) ?_
    refine Ops.y (v := .int .i64 _) (Y.move rfl) ?_
    refine Ops.go (O.call I Tryz.call131 (Steps_ok _ I.base_ok p hp f hf n p.rules.xs[n] (by omega) hr' ok okf) rfl ?_)
    rintro _ h2 w I le2 ⟨s, rfl, hs, is⟩
    refine Ops.y (v := .int .i64 _) (Y.lens Tryz.underlying36 rfl) ?_
    refine Ops.y (v := .int .i64 _) (Y.move rfl) ?_
    refine Ops.nil ?_
    have kp := kp.le le2
    have ko := ko.le le2
    have kf := kf.le le2
    have hp := hp.le le2
    have hf := hf.le le2
    have hss := is.small
    refine WP.block ?_
    refine WP.loopE (σ := Nat) (fun k => [(0, .func (.yield l) #[] #[]), (1, .pointer (some ⟨bp, 0, none⟩)), (2, .pointer (some ⟨bo, 0, none⟩)), (3, .pointer (some ⟨bf, 0, none⟩)), (12, .int .i64 p.rules.xs.length), (13, .int .i64 n), (5, .int .i64 n), (23, s.val), (24, .int .i64 s.xs.length), (25, .int .i64 k)])
      (fun k w => k ≤ s.xs.length ∧ ∃ h3, h2.le h3 ∧ J h3 ((toldK p.preds.xs f.xs p.rules.xs q n).length + k) w) (fun k => s.xs.length - k)
      ⟨0, ⟨rfl, rfl, rfl, rfl, rfl, rfl, rfl, rfl, rfl, rfl, trivial⟩, Nat.zero_le _, h2, Heap.le.refl _, hext _ _ _ _ _ j1 I.ext_of⟩ ?_
    rintro k e w ⟨hk, h3, gl3, j3⟩
    have I := Inv.start (hok _ _ _ j3)
    have kp := kp.le gl3
    have ko := ko.le gl3
    have kf := kf.le gl3
    have hp := hp.le gl3
    have hf := hf.le gl3
    refine WP.seq ?_
    refine WP.region ?_
    refine Ops.y (v := .bool (decide _)) (Y.lti rfl rfl) ?_
    refine Ops.nil ?_
    refine WP.seq ?_
    refine WP.cond_dec rfl (fun h5 => ?_) (fun h5 => ?_)
    · have hk' : k < s.xs.length := by omega
      have E := (is.le gl3).at hk'
      have hmem : s.xs[k] ∈ stepsF f.xs n p.rules.xs[n] := hs ▸ List.getElem_mem hk'
      obtain ⟨_, hvs, hhf⟩ := steps_holds hmem
      obtain ⟨y, hy⟩ : ∃ y, headF p.preds.xs f.xs p.rules.xs[n] s.xs[k].vars = y := ⟨_, rfl⟩
      have hyF : holdsF p.preds.xs f.xs p.rules.xs[n] s.xs[k].vars = (true, y) := by unfold holdsF; rw [if_pos hhf, hy]
      have hget : (toldN p.preds.xs f.xs p.rules.xs q n)[k]? = some (s.xs[k], y) := by rw [hN, List.getElem?_map, ← hs, List.getElem?_eq_getElem hk', ← hy]; rfl
      refine WP.skip ?_
      refine WP.seq ?_
      refine WP.block ?_
      refine WP.seq ?_
      refine WP.region ?_
      refine Ops.y (v := .pointer (some ⟨_, _, none⟩)) (Y.idxEl E Tryz.underlying36 Tryz.sizeOf82 rfl rfl (Int.natCast_nonneg _) rfl) ?_
      refine Ops.y (v := .agg #[_, _, _, _]) (Y.loadv ty_82 rfl (I.rd (E.rd.part 0 4)) rfl rfl) ?_
      refine Ops.go (O.alloc I Tryz.zeroValue82 rfl ?_)
      intro b7 w I
      refine Ops.go (O.store (v := .agg #[_, _, _, _]) I ty_82 0 rfl rfl rfl rfl rfl rfl (Nat.le_of_ble_eq_true rfl) rfl ?_)
      intro w I
      refine Ops.nil ?_
      refine WP.seq ?_
      refine WP.region ?_
      refine Ops.y (v := .agg #[_, _]) (Y.loadv ty_25 rfl (I.rd (kp.rd.part 0 2)) rfl rfl) ?_
      refine Ops.y (v := .slice _ _ _) (Y.loadv ty_26 rfl (I.rd (kf.rd.part 0 1)) rfl rfl) ?_
      refine Ops.y (v := .int .i64 _) (Y.move rfl) ?_
      refine Ops.y (v := .pointer (some ⟨_, _, none⟩)) (Y.fa fa_82_1 rfl) ?_
      refine Ops.y (v := .agg #[_, _, _]) (Y.loadv ty_80 rfl (I.rdbox 0 rfl 1 3) rfl rfl) ?_
      refine Ops.go (O.callv I Tryz.call84 (FOf_at _ I.base_ok p hp f hf n p.rules.xs[n] (by omega) hr' ok okf s.xs[k].vars hvs (true, y) hyF) rfl ?_)
      intro w I
      refine Ops.y (v := .tuple #[_, _]) (Y.move rfl) ?_
      refine Ops.y (v := .bool _) (Y.extract rfl rfl) ?_
      refine Ops.y (v := .agg #[_, _, _, _]) (Y.extract rfl rfl) ?_
      refine Ops.go (O.alloc I Tryz.zeroValue52 rfl ?_)
      intro b9 w I
      refine Ops.y (v := .bool _) (Y.assign rfl) ?_
      refine Ops.go (O.store (v := .agg #[_, _, _, _]) I ty_52 0 rfl rfl rfl rfl rfl rfl (Nat.le_of_ble_eq_true rfl) rfl ?_)
      intro w I
      refine Ops.nil ?_
      refine WP.seq ?_
      refine WP.regionX (by kernel_rfl) ?_
      refine OpsX.y (v := .func _ _ _) (Y.move rfl) ?_
      refine OpsX.y (v := .agg #[_, _, _, _]) (Y.loadv ty_82 rfl (I.rdbox 1 rfl 0 4) rfl rfl) ?_
      refine OpsX.y (v := .agg #[_, _, _, _]) (Y.loadv ty_52 rfl (I.rdbox 0 rfl 0 4) rfl rfl) ?_
      refine OpsX.yield rfl rfl (hround h3 _ _ _ (gl1.trans (le2.trans gl3)) (toldK_get hn' hget) (hext _ _ _ _ _ j3 I.ext_of)) ?_
      rintro ed w (⟨rfl, h4, gl4, j4⟩ | ⟨rfl, jx⟩)
      · refine ⟨_, rfl, ?_⟩
        refine OpsX.y (v := .bool _) (Y.not rfl) ?_
        refine OpsX.nil ?_
        refine WP.cond_f rfl ?_
        refine WP.skip ?_
        refine WP.region ?_
        refine Ops.y (v := .int .i64 _) (Y.addi rfl rfl ⟨by omega, by omega⟩) ?_
        refine Ops.y (v := .int .i64 _) (Y.move rfl) ?_
        refine Ops.nil ?_
        exact ⟨k + 1, ⟨⟨rfl, rfl, rfl, rfl, rfl, rfl, rfl, rfl, rfl, rfl, trivial⟩, by omega, h4, gl3.trans gl4, j4⟩, by omega⟩
      · refine ⟨_, rfl, ?_⟩
        refine OpsX.y (v := .bool _) (Y.not rfl) ?_
        refine OpsX.nil ?_
        refine WP.cond_t rfl ?_
        refine WP.ret ?_
        repeat (first | refine thenE_ret ?_ | refine blockE_ret ?_)
        exact ⟨.inl rfl, [], trivial, ⟨_, rfl⟩, .inr jx⟩
    obtain rfl : k = s.xs.length := by omega
    refine WP.exit ?_
    refine WP.region ?_
    refine Ops.y (v := .int .i64 _) (Y.addi rfl rfl ⟨by omega, by omega⟩) ?_
    refine Ops.y (v := .int .i64 _) (Y.move rfl) ?_
    refine Ops.nil ?_
    exact ⟨n + 1, ⟨⟨rfl, rfl, rfl, rfl, rfl, rfl, trivial⟩, by omega, h3, gl1.trans (le2.trans gl3), by rw [toldK_succ, hN, List.length_append, List.length_map, ← hs]; exact j3⟩, by omega⟩
  obtain rfl : n = p.rules.xs.length := by omega
  refine WP.exit ?_
  exact ⟨.inr rfl, [], trivial, ⟨_, rfl⟩, .inl ⟨h1, gl1, j1⟩⟩
end Go.TF
end
