/- Texts SpSub Nai1 Prog9 RoadsM Prog10 ProgLaw ProgLaw2 Nai2 SpSemi SpTrace Tra1 Base19 Base20 Base21 SpTrace2 Tra2 Tra3. -/
import Derived.Test.YtgblgeddpegplaaGreatU8
import Derived.Test.YtgblgeddpegplaaGreatU4
import Derived.Test.YtgblgeddpegplaaGreatU7
import Derived.Test.YtgblgeddpegplaaGreatU6
import Derived.Test.YtgblgeddpegplaaGreatU2
section
/- A program of some of another's rules: right too, no stratum greater; what is needed follows alike: plain. -/
namespace Go.TF
open Go

theorem chk_preds {p : Prg} (h : checkProg p = 0) : ∀ x ∈ p.preds.xs, predFine x = true := by
  unfold checkProg at h
  split at h
  · cases h
  split at h
  · cases h
  split at h
  · cases h
  split at h
  · cases h
  split at h
  · cases h
  rename_i h1 h2 h3 h4 h5
  intro x hx
  have a : badArity x ≠ true := fun e => h4 (List.any_eq_true.2 ⟨x, hx, e⟩)
  have b : badKind x ≠ true := fun e => h5 (List.any_eq_true.2 ⟨x, hx, e⟩)
  simp only [badArity, badKind, ne_eq, decide_eq_true_eq, not_or, Int.not_lt] at a b
  simp only [predFine, decide_eq_true_eq]
  omega
theorem chk_nil {p : Prg} (h : checkProg p = 0) : FOk p.preds.xs [] := fok_nil (checkProg_ok h).1 (chk_preds h)
theorem chk_rok {p : Prg} (h : checkProg p = 0) : ∀ r ∈ p.rules.xs, ROk p.preds.xs r := rules_rok h (chk_nil h)
theorem sol_sub {rs rs' : List Rul} {n : Nat} {K : List Int} (hR : ∀ r, r ∈ rs' → r ∈ rs) (h : Sol (usesL rs) n K) : Sol (usesL rs') n K := ⟨h.len, h.pos, fun c hc => by
  unfold usesL at hc
  obtain ⟨r, hr, hc⟩ := List.mem_flatMap.1 hc
  obtain ⟨x, hx, rfl⟩ := List.mem_map.1 hc
  exact h.sat _ (mem_uses (hR r hr) hx)⟩
/-- No stratum is greater. -/
theorem strata_sub {p q : Prg} (hp : q.preds.xs = p.preds.xs) (hR : ∀ r, r ∈ q.rules.xs → r ∈ p.rules.xs) (h : checkProg p = 0) (h2 : checkProg q = 0) (i : Int) : lv (strataM q) i ≤ lv (strataM p) i :=
  (strataM_least h2).least _ (by rw [hp]; exact sol_sub hR (strataM_least h).sol) i
theorem most_sub {K M : List Int} (hl : K.length = M.length) (h : ∀ i, lv K i ≤ lv M i) : mostL K ≤ mostL M := by
  rcases mostL_of K with e | e
  · rw [e]; exact mostL_ge M
  · obtain ⟨j, hj, e⟩ := List.getElem_of_mem e
    have h1 := h j
    rw [lv_get hj, lv_get (hl ▸ hj), e] at h1
    exact Int.le_trans h1 (mostL_mem (List.getElem_mem _))
/-- The whole model: closed, of right facts. -/
theorem mod_closed {p : Prg} {M : List Int} {f : List Fct} {rs : List Int} (h : checkProg p = 0) (hM : Least (usesL p.rules.xs) p.preds.xs.length M) (m : ModK p M (numS M) f rs) : MJ p M (numS M) f ∧ ∀ t ∈ toldL p.preds.xs f p.rules.xs (fun _ => true), underF p.preds.xs [t.2] f = true := by
  obtain ⟨k1, k2, k3, _, _⟩ := checkProg_ok h
  have rk := chk_rok h
  have j := modK_mj rk hM.sol (chk_nil h) m
  refine ⟨j, fun t ht => ?_⟩
  obtain ⟨n, r, hr, _, hs, he⟩ := mem_told.1 ht
  obtain ⟨i0, i1⟩ := heads_in k3 r (List.mem_of_getElem? hr)
  have h0 := hM.sol.pos r.head.pred
  have hle : lv M r.head.pred ≤ mostL M := by
    have : r.head.pred.toNat < M.length := by rw [hM.sol.len]; omega
    have e := lv_get this
    rw [Int.toNat_of_nonneg i0] at e
    rw [e]; exact mostL_mem (List.getElem_mem _)
  have hs2 := j.still (lv M r.head.pred).toNat (by unfold numS; omega)
  unfold turnT at hs2
  rw [turn_no j.fok (told_fine rk j.fok)] at hs2
  exact hs2 t (mem_told.2 ⟨n, r, hr, (ofQ_iff hr).2 (by omega), hs, he⟩)
/-! ### Only what is needed -/
section
variable {l : List Prd} {N : List Bool}
def nd (N : List Bool) (x : Fct) : Bool := bv N x.pred
theorem addF_front {k : Int} {x : Fct} : ∀ {g : List Fct}, (∀ z ∈ g, placeF x < placeF z) → (addF k g x).1 = x :: g
  | [], _ => rfl
  | z :: g, h => by
    have := h z List.mem_cons_self
    rw [addF, if_neg (by omega), if_pos this]
theorem nd_add {k : Int} {x : Fct} : ∀ {f : List Fct}, SrtF f → (∀ y ∈ f, placeF y = placeF x → y.pred = x.pred) → (addF k f x).1.filter (nd N) = if nd N x = true then (addF k (f.filter (nd N)) x).1 else f.filter (nd N)
  | [], _, _ => by
    rw [addF]
    cases h : nd N x <;> simp [h, addF]
  | y :: r, hs, hx => by
    obtain ⟨s1, s2⟩ := List.pairwise_cons.1 hs
    have ih := nd_add (k := k) (x := x) s2 fun z hz => hx z (List.mem_cons_of_mem _ hz)
    rw [addF]
    split
    · rename_i e
      have hp := hx y List.mem_cons_self e
      have hy : nd N y = nd N x := by unfold nd; rw [hp]
      have hy2 : nd N (⟨y.pred, y.a, y.b, joinV k y.v x.v⟩ : Fct) = nd N x := hy
      cases h : nd N x
      · simp [hy, hy2, h]
      · rw [List.filter_cons, if_pos (by rw [hy2, h]), if_pos rfl, List.filter_cons, if_pos (by rw [hy, h]), addF, if_pos e]
    · rename_i e
      split
      · rename_i e2
        cases h : nd N x
        · simp [h]
        · rw [List.filter_cons, if_pos h, if_pos rfl, addF_front]
          intro z hz
          obtain ⟨hz, _⟩ := List.mem_filter.1 hz
          rcases List.mem_cons.1 hz with rfl | hz
          · exact e2
          · exact Int.lt_trans e2 (s1 z hz)
      · rename_i e2
        show (y :: (addF k r x).1).filter _ = _
        rw [List.filter_cons, ih]
        cases h : nd N x
        · simp only [Bool.false_eq_true, if_false]
          rw [List.filter_cons]
        · simp only [if_true]
          cases hy : nd N y
          · simp [hy]
          · rw [if_pos rfl, List.filter_cons, if_pos hy, addF, if_neg e, if_neg e2]
theorem nd_fok {f : List Fct} (h : FOk l f) : FOk l (f.filter (nd N)) := ⟨h.len, h.preds, fun x hx => h.fine x (List.mem_filter.1 hx).1, h.srt.sublist List.filter_sublist⟩
theorem nd_look {f : List Fct} (h : FOk l f) {y : Fct} (hy : PF y) (hn : nd N y = true) : lkF (f.filter (nd N)) (placeF y) = lkF f (placeF y) := by
  have ho := nd_fok (N := N) h
  cases hl : lkF f (placeF y) with
  | none =>
    refine lkF_none.2 fun z hz => lkF_none.1 hl z (List.mem_filter.1 hz).1
  | some v =>
    obtain ⟨z, hz, e, ev⟩ := lkF_mem hl
    refine (lkF_some ho.srt).2 ⟨z, List.mem_filter.2 ⟨hz, ?_⟩, e, ev⟩
    have := ((fine_pf h.len (h.fine z hz)).inj hy e).1
    unfold nd at hn ⊢
    rw [this]; exact hn
theorem nd_run : ∀ (ts : List (Stp × Fct)) (s : List Fct × Bool), FOk l s.1 → (∀ t ∈ ts, factFine l t.2 = true) → ∀ b, (runL l s ts).1.filter (nd N) = (runL l (s.1.filter (nd N), b) (ts.filter fun t => nd N t.2)).1
  | [], s, _, _, b => rfl
  | t :: ts, s, hs, hf, b => by
    have hx := hf t List.mem_cons_self
    have ih := nd_run ts (putS l s t.2) (addF_fok hs hx) fun u hu => hf u (List.mem_cons_of_mem _ hu)
    have hadd := nd_add (N := N) (k := (predOf l t.2.pred).kind) (x := t.2) hs.srt fun y hy e => same_pred hs.len (hs.fine y hy) hx e
    show (runL l (putS l s t.2) ts).1.filter _ = _
    cases h : nd N t.2
    · rw [List.filter_cons, if_neg (by rw [h]; decide), ih b]
      rw [h] at hadd
      rw [show (putS l s t.2).1.filter (nd N) = s.1.filter (nd N) from hadd]
    · rw [List.filter_cons, if_pos h]
      rw [h] at hadd
      show _ = (runL l (putS l (s.1.filter (nd N), b) t.2) _).1
      rw [ih (putS l (s.1.filter (nd N), b) t.2).2]
      rw [show (putS l s t.2).1.filter (nd N) = (putS l (s.1.filter (nd N), b) t.2).1 from hadd]
end
structure Only (p q : Prg) (N : List Bool) : Prop where
  preds : q.preds.xs = p.preds.xs
  rules : ∀ r, r ∈ q.rules.xs ↔ r ∈ p.rules.xs ∧ bv N r.head.pred = true
  cp : checkProg p = 0
  cq : checkProg q = 0
  closed : ClosedN (usesL p.rules.xs) N
section
variable {p q : Prg} {N : List Bool} (o : Only p q N)
include o
theorem Only.sub : ∀ r, r ∈ q.rules.xs → r ∈ p.rules.xs := fun r hr => ((o.rules r).1 hr).1
theorem Only.body {r : Rul} (hr : r ∈ p.rules.xs) (hn : bv N r.head.pred = true) {x : Ltl} (hx : x ∈ r.body.xs) : bv N x.atom.pred = true := o.closed _ (mem_uses hr hx) hn
theorem Only.lv {i : Int} (hn : bv N i = true) : lv (strataM q) i = lv (strataM p) i := by
  have hle := strata_sub o.preds o.sub o.cp o.cq
  refine Int.le_antisymm (hle i) ?_
  have hLp := strataM_least o.cp
  have hLq := strataM_least o.cq
  rw [o.preds] at hLq
  have hcomb : ∃ L : List Int, L.length = p.preds.xs.length ∧ ∀ i, Go.TF.lv L i = if bv N i = true then Go.TF.lv (strataM q) i else Go.TF.lv (strataM p) i := by
    refine ⟨(List.range p.preds.xs.length).map fun (j : Nat) => if bv N j = true then Go.TF.lv (strataM q) j else Go.TF.lv (strataM p) j, by simp, fun i => ?_⟩
    have hbv : bv N i = bv N (i.toNat : Int) := rfl
    have hlq : Go.TF.lv (strataM q) i = Go.TF.lv (strataM q) (i.toNat : Int) := rfl
    have hlp : Go.TF.lv (strataM p) i = Go.TF.lv (strataM p) (i.toNat : Int) := rfl
    rw [hbv, hlq, hlp]
    show (List.map _ _).getD i.toNat 0 = _
    generalize i.toNat = j
    by_cases hi : j < p.preds.xs.length
    · rw [List.getD_eq_getElem?_getD, List.getElem?_map, List.getElem?_range hi]; rfl
    · have e1 : Go.TF.lv (strataM q) (j : Int) = 0 := by unfold Go.TF.lv; rw [List.getD_eq_getElem?_getD, List.getElem?_eq_none (by rw [hLq.sol.len, Int.toNat_natCast]; omega)]; rfl
      have e2 : Go.TF.lv (strataM p) (j : Int) = 0 := by unfold Go.TF.lv; rw [List.getD_eq_getElem?_getD, List.getElem?_eq_none (by rw [hLp.sol.len, Int.toNat_natCast]; omega)]; rfl
      rw [e1, e2, List.getD_eq_getElem?_getD, List.getElem?_eq_none (by rw [List.length_map, List.length_range]; omega)]
      split <;> rfl
  obtain ⟨L, h1, h2⟩ := hcomb
  have hS : Sol (usesL p.rules.xs) p.preds.xs.length L := by
    refine ⟨h1, fun i => ?_, fun c hc => ?_⟩
    · rw [h2]; split
      · exact hLq.sol.pos i
      · exact hLp.sol.pos i
    · unfold usesL at hc
      obtain ⟨r, hr, hc⟩ := List.mem_flatMap.1 hc
      obtain ⟨x, hx, rfl⟩ := List.mem_map.1 hc
      unfold SatC lst
      dsimp only
      rw [h2, h2]
      by_cases hn : bv N r.head.pred = true
      · rw [if_pos hn, if_pos (o.body hr hn hx)]
        exact hLq.sol.sat _ (mem_uses ((o.rules r).2 ⟨hr, hn⟩) hx)
      · rw [if_neg hn]
        have h3 := hLp.sol.sat _ (mem_uses hr hx)
        unfold SatC lst at h3
        dsimp only at h3
        split
        · have := hle x.atom.pred; omega
        · exact h3
  have := hLp.least L hS i
  rw [h2, if_pos hn] at this
  exact this
theorem Only.hold {f : List Fct} (okf : FOk p.preds.xs f) {r : Rul} (hr : r ∈ p.rules.xs) (hn : bv N r.head.pred = true) {x : Vrs} (hx : VsOk x) : holdsB (f.filter (nd N)) r x = holdsB f r x ∧ headF p.preds.xs (f.filter (nd N)) r x = headF p.preds.xs f r x := by
  have rk := chk_rok o.cp
  have hlit : ∀ t ∈ r.body.xs, lkF (f.filter (nd N)) (placeF (groundF t.atom x)) = lkF f (placeF (groundF t.atom x)) := fun t ht => by
    have ao := aok_of (rk r hr).preds ((rk r hr).body t ht)
    exact nd_look okf (ao.pf (rk r hr).five hx 0) (o.body hr hn ht)
  constructor
  · unfold holdsB
    rw [Bool.eq_iff_iff, List.all_eq_true, List.all_eq_true]
    have key : ∀ t ∈ r.body.xs, litOk (f.filter (nd N)) x t = litOk f x t := fun t ht => by unfold litOk isF; rw [hlit t ht]
    exact ⟨fun h t ht => (key t ht) ▸ h t ht, fun h t ht => (key t ht).symm ▸ h t ht⟩
  · unfold headF headV
    by_cases h0 : 0 ≤ r.src
    · rw [if_pos h0, if_pos h0, hlit _ (litOf_mem ⟨h0, (rk r hr).src.2⟩)]
    · rw [if_neg h0, if_neg h0]
theorem Only.told {f : List Fct} (okf : FOk p.preds.xs f) (s : Int) (y : Fct) : (∃ t ∈ toldL q.preds.xs (f.filter (nd N)) q.rules.xs (ofQ q (strataM q) s), t.2 = y) ↔ ∃ t ∈ toldL p.preds.xs f p.rules.xs (ofQ p (strataM p) s), t.2 = y ∧ nd N y = true := by
  constructor
  · rintro ⟨t, ht, rfl⟩
    obtain ⟨n, r, hr, hq, hs, he⟩ := mem_told.1 ht
    obtain ⟨hrp, hn⟩ := (o.rules r).1 (List.mem_of_getElem? hr)
    obtain ⟨m, hm, em⟩ := List.getElem_of_mem hrp
    have hm' : p.rules.xs[m]? = some r := by rw [List.getElem?_eq_getElem hm, em]
    have hlv := (ofQ_iff hr).1 hq
    rw [o.lv hn] at hlv
    unfold stepsF at hs
    obtain ⟨v, hv, ev⟩ := List.mem_map.1 hs
    obtain ⟨v1, v2⟩ := List.mem_filter.1 hv
    have hh := o.hold okf hrp hn (mem_vecs.1 v1)
    have hvv : t.1.vars = v := by rw [← ev]
    refine ⟨(⟨(m : Int), v⟩, t.2), mem_told.2 ⟨m, r, hm', (ofQ_iff hm').2 hlv, ?_, ?_⟩, rfl, ?_⟩
    · unfold stepsF; exact List.mem_map.2 ⟨v, List.mem_filter.2 ⟨v1, by rw [← hh.1]; exact v2⟩, rfl⟩
    · rw [he, hvv, o.preds]; exact hh.2
    · rw [he]; exact hn
  · rintro ⟨t, ht, rfl, hn⟩
    obtain ⟨n, r, hr, hq, hs, he⟩ := mem_told.1 ht
    have hrp := List.mem_of_getElem? hr
    have hn : bv N r.head.pred = true := by rw [he] at hn; exact hn
    obtain ⟨m, hm, em⟩ := List.getElem_of_mem ((o.rules r).2 ⟨hrp, hn⟩)
    have hm' : q.rules.xs[m]? = some r := by rw [List.getElem?_eq_getElem hm, em]
    have hlv := (ofQ_iff hr).1 hq
    rw [← o.lv hn] at hlv
    unfold stepsF at hs
    obtain ⟨v, hv, ev⟩ := List.mem_map.1 hs
    obtain ⟨v1, v2⟩ := List.mem_filter.1 hv
    have hh := o.hold okf hrp hn (mem_vecs.1 v1)
    have hvv : t.1.vars = v := by rw [← ev]
    refine ⟨(⟨(m : Int), v⟩, t.2), mem_told.2 ⟨m, r, hm', (ofQ_iff hm').2 hlv, ?_, ?_⟩, rfl⟩
    · unfold stepsF; exact List.mem_map.2 ⟨v, List.mem_filter.2 ⟨v1, by rw [hh.1]; exact v2⟩, rfl⟩
    · rw [he, hvv, o.preds]; exact hh.2.symm
theorem Only.turn {f : List Fct} (okf : FOk p.preds.xs f) (s : Int) : (turnT q (strataM q) s (f.filter (nd N))).1 = (turnT p (strataM p) s f).1.filter (nd N) := by
  have rk := chk_rok o.cp
  have rkq := chk_rok o.cq
  rw [o.preds] at rkq
  have okF := nd_fok (N := N) okf
  have tp := told_fine (q := ofQ p (strataM p) s) rk okf
  have tq : ∀ t ∈ toldL q.preds.xs (f.filter (nd N)) q.rules.xs (ofQ q (strataM q) s), factFine p.preds.xs t.2 = true := by rw [o.preds]; exact told_fine rkq okF
  have e := nd_run (N := N) _ (f, false) okf tp false
  show (runL q.preds.xs (f.filter (nd N), false) _).1 = (runL p.preds.xs (f, false) _).1.filter (nd N)
  rw [e]
  have t2 : ∀ t ∈ (toldL p.preds.xs f p.rules.xs (ofQ p (strataM p) s)).filter (fun t => nd N t.2), factFine p.preds.xs t.2 = true := fun t ht => tp t (List.mem_filter.1 ht).1
  have r1 := run_up _ (f.filter (nd N), false) okF tq
  have r2 := run_up _ (f.filter (nd N), false) okF t2
  have hpq : runL q.preds.xs = runL p.preds.xs := by rw [o.preds]
  rw [hpq]
  refine under_anti r1.fok r2.fok (run_least r2.fok _ (f.filter (nd N), false) okF tq r2.up fun t ht => ?_) (run_least r1.fok _ (f.filter (nd N), false) okF t2 r1.up fun t ht => ?_)
  · obtain ⟨u, hu, e1, e2⟩ := (o.told okf s t.2).1 ⟨t, ht, rfl⟩
    rw [← e1]
    exact r2.each u (List.mem_filter.2 ⟨hu, by rw [e1]; exact e2⟩)
  · obtain ⟨h1, h2⟩ := List.mem_filter.1 ht
    obtain ⟨u, hu, e1⟩ := (o.told okf s t.2).2 ⟨t, h1, rfl, h2⟩
    rw [← e1]
    exact r1.each u hu
theorem Only.clo {s : Int} {f r : List Fct} {n : Nat} (h : Clo (turnT p (strataM p) s) f r n) : FOk p.preds.xs f → ∃ m, Clo (turnT q (strataM q) s) (f.filter (nd N)) (r.filter (nd N)) m := by
  have rk := chk_rok o.cp
  have rkq := chk_rok o.cq
  have chg : ∀ g, FOk p.preds.xs g → (turnT q (strataM q) s (g.filter (nd N))).2 = decide ((turnT q (strataM q) s (g.filter (nd N))).1 ≠ g.filter (nd N)) := fun g okg => turn_chg (by rw [o.preds]; exact nd_fok okg) (told_fine rkq (by rw [o.preds]; exact nd_fok okg))
  induction h with
  | @stop f h =>
    intro okf
    refine ⟨0, .stop ?_⟩
    rw [chg f okf, o.turn okf]
    have h1 : (turnT p (strataM p) s f).2 = decide ((turnT p (strataM p) s f).1 ≠ f) := turn_chg okf (told_fine rk okf)
    rw [h] at h1
    have h2 := of_decide_eq_false h1.symm
    rw [Decidable.not_not.1 h2]
    exact decide_eq_false fun hh => hh rfl
  | @step f r n h c ih =>
    intro okf
    obtain ⟨m, cm⟩ := ih (turn_fok okf (told_fine rk okf))
    rw [← o.turn okf] at cm
    cases hc : (turnT q (strataM q) s (f.filter (nd N))).2
    · have h1 := chg f okf
      rw [hc] at h1
      have h2 := Decidable.not_not.1 (of_decide_eq_false h1.symm)
      rw [h2] at cm
      exact ⟨m, cm⟩
    · exact ⟨m + 1, .step hc cm⟩
theorem Only.mod : ∀ {k : Nat} {f : List Fct} {rs : List Int}, ModK p (strataM p) k f rs → ∃ rs', ModK q (strataM q) k (f.filter (nd N)) rs'
  | 0, f, rs, ⟨h, _⟩ => ⟨[], by rw [h]; rfl, rfl⟩
  | k + 1, f, rs, ⟨f0, r0, n, a, b, _⟩ => by
    have j := modK_mj (chk_rok o.cp) (strataM_least o.cp).sol (chk_nil o.cp) a
    obtain ⟨rs', m⟩ := Only.mod a
    obtain ⟨n', c⟩ := o.clo b j.fok
    exact ⟨_, _, _, _, m, c, rfl⟩
theorem Only.most : numS (strataM q) ≤ numS (strataM p) := by
  have := most_sub (K := strataM q) (M := strataM p) (by rw [(strataM_least o.cq).sol.len, (strataM_least o.cp).sol.len, o.preds]) (strata_sub o.preds o.sub o.cp o.cq)
  unfold numS; omega
theorem Only.model {f g : List Fct} {rs rs' : List Int} (m : ModK p (strataM p) (numS (strataM p)) f rs) (m2 : ModK q (strataM q) (numS (strataM q)) g rs') : g = f.filter (nd N) := by
  obtain ⟨rs2, h⟩ := o.mod m
  have hLq := strataM_least o.cq
  have key : ∀ (d k : Nat), k = numS (strataM q) + d → ∀ {f rs}, ModK q (strataM q) k f rs → ∃ rs', ModK q (strataM q) (numS (strataM q)) f rs' := by
    intro d
    induction d with
    | zero => intro k hk f rs h; rw [hk] at h; exact ⟨rs, h⟩
    | succ d ih =>
      intro k hk f rs h
      rw [show k = (numS (strataM q) + d) + 1 by omega] at h
      obtain ⟨f0, r0, n, a, b, _⟩ := h
      have hno : ∀ g, (turnT q (strataM q) ((numS (strataM q) + d : Nat) : Int) g).2 = false := fun g => by
        have : toldL q.preds.xs g q.rules.xs (ofQ q (strataM q) ((numS (strataM q) + d : Nat) : Int)) = [] := by
          refine List.eq_nil_iff_forall_not_mem.2 fun t ht => ?_
          obtain ⟨n, r, hr, hq, _, _⟩ := mem_told.1 ht
          have e := (ofQ_iff hr).1 hq
          obtain ⟨_, _, k3, _, _⟩ := checkProg_ok o.cq
          obtain ⟨i0, i1⟩ := heads_in k3 r (List.mem_of_getElem? hr)
          have hlt : r.head.pred.toNat < (strataM q).length := by rw [hLq.sol.len]; omega
          have e2 := lv_get hlt
          rw [Int.toNat_of_nonneg i0] at e2
          have := mostL_mem (List.getElem_mem hlt)
          have := mostL_ge (strataM q)
          rw [e2] at e
          unfold numS at e
          omega
        unfold turnT
        rw [this]; rfl
      cases b with
      | stop _ => exact ih _ rfl a
      | step h2 _ => rw [hno] at h2; cases h2
  have hm := o.most
  obtain ⟨rs3, h3⟩ := key (numS (strataM p) - numS (strataM q)) _ (by omega) h
  exact ((h3.uniq m2).1)
end
end Go.TF
end
section
/- Naive: how many strata; rounds of each until none changes anything; and the document's. -/
namespace Go.TF
open Go Go.RowKit Go.Proofs
set_option maxRecDepth 20000

theorem mostL_take {L : List Int} {k : Nat} (hk : k < L.length) : mostL (L.take (k + 1)) = max (mostL (L.take k)) L[k] := by
  unfold mostL; rw [List.take_succ_eq_append_getElem hk, List.foldl_append]; rfl
theorem mostL_small {L : List Int} (h : ∀ x ∈ L, 0 ≤ x ∧ x ≤ 5) : mostL L ≤ 5 := by
  rcases mostL_of L with e | e
  · omega
  · exact (h _ e).2
theorem numS_eq (L : List Int) : ((numS L : Nat) : Int) = mostL L + 1 := by have := mostL_ge L; unfold numS; omega
theorem least_small {p : Prg} {L : List Int} (h : checkProg p = 0) (hL : Least (usesL p.rules.xs) p.preds.xs.length L) : ∀ x ∈ L, 0 ≤ x ∧ x ≤ 5 := fun x hx => by
  obtain ⟨k1, _, k3, _, _⟩ := checkProg_ok h
  obtain ⟨j, hj, rfl⟩ := List.getElem_of_mem hx
  have hl := hL.sol.len
  have h1 := hL.sol.pos j
  have h2 := least_lt (inR_of k3) hL (i := (j : Int)) (by omega) (by omega)
  rw [lv_get hj] at h1 h2
  omega
theorem NStrata_ok (B : Base) (hB : B.ok) (s : Sl Int) (hs : s.Is 1 iEnc B.h) (hb : ∀ x ∈ s.xs, 0 ≤ x ∧ x ≤ 5) : Fn Tryz.prog 62 [s.val] B (fun v _ => v = .int .i64 (numS s.xs : Nat)) := by
  have hsm := hs.small
  refine Fn.of Tryz.func62 rfl Tryz.ntmps62 (by kernel_rfl) (by simp) ?_
  intro e
  have I := Inv.start hB
  refine WP.seq ?_
  refine WP.region ?_
  refine Ops.y (v := .int .i64 _) (Y.assign rfl) ?_
  refine Ops.nil ?_
  refine WP.seq ?_
  refine WP.region ?_
  refine Ops.y (v := .int .i64 _) (Y.assign rfl) ?_
  refine Ops.nil ?_
  refine WP.seq ?_
  refine WP.seq ?_
  refine WP.region ?_
  refine Ops.y (v := .slice _ _ _) (Y.move rfl) ?_
  refine Ops.y (v := .int .i64 _) (Y.lens Tryz.underlying45 rfl) ?_
  refine Ops.y (v := .int .i64 _) (Y.move rfl) ?_
  refine Ops.nil ?_
  refine WP.block ?_
  refine WP.loopE (σ := Nat) (fun k => [(3, .int .i64 (mostL (s.xs.take k) + 1)), (6, s.val), (7, .int .i64 s.xs.length), (8, .int .i64 k)]) (fun k w => Inv B B.h [] w ∧ k ≤ s.xs.length) (fun k => s.xs.length - k)
    ⟨0, ⟨rfl, rfl, rfl, rfl, trivial⟩, I, Nat.zero_le _⟩ ?_
  rintro k e w ⟨I, hk⟩
  refine WP.seq ?_
  refine WP.region ?_
  refine Ops.y (v := .bool (decide _)) (Y.lti rfl rfl) ?_
  refine Ops.nil ?_
  refine WP.seq ?_
  refine WP.cond_dec rfl (fun h3 => ?_) (fun h3 => ?_)
  · have hk' : k < s.xs.length := by omega
    have E := hs.at hk'
    have hx := hb _ (List.getElem_mem hk')
    refine WP.skip ?_
    refine WP.seq ?_
    refine WP.block ?_
    refine WP.seq ?_
    refine WP.region ?_
    refine Ops.y (v := .pointer (some ⟨_, _, none⟩)) (Y.idxEl E Tryz.underlying45 Tryz.sizeOf3 rfl rfl (Int.natCast_nonneg _) rfl) ?_
    refine Ops.y (v := .int .i64 _) (Y.loadv ty_3 rfl (I.rd (E.rd.part 0 1)) rfl rfl) ?_
    refine Ops.y (v := .int .i64 _) (Y.assign rfl) ?_
    refine Ops.nil ?_
    refine WP.region ?_
    refine Ops.y (v := .int .i64 _) (Y.move rfl) ?_
    refine Ops.y (v := .int .i64 _) (Y.move rfl) ?_
    refine Ops.y (v := .int .i64 _) (Y.addi rfl rfl ⟨by omega, by omega⟩) ?_
    refine Ops.y (v := .int .i64 _) (Y.max2 rfl rfl) ?_
    refine Ops.y (v := .int .i64 _) (Y.assign rfl) ?_
    refine Ops.nil ?_
    refine WP.region ?_
    refine Ops.y (v := .int .i64 _) (Y.addi rfl rfl ⟨by omega, by omega⟩) ?_
    refine Ops.y (v := .int .i64 _) (Y.move rfl) ?_
    refine Ops.nil ?_
    exact ⟨k + 1, ⟨⟨congrArg (Value.int .i64) (by rw [mostL_take hk']; omega), rfl, rfl, rfl, trivial⟩, I, by omega⟩, by omega⟩
  obtain rfl : k = s.xs.length := by omega
  refine WP.exit ?_
  refine WP.seq ?_
  refine WP.region ?_
  refine Ops.y (v := .int .i64 _) (Y.move rfl) ?_
  refine Ops.y (v := .int .i64 _) (Y.assign rfl) ?_
  refine Ops.nil ?_
  refine WP.ret ?_
  repeat (first | refine thenE_ret ?_ | refine blockE_ret ?_)
  exact retQ.mk (vs := [.int .i64 _]) rfl ⟨rfl, trivial⟩ I.ext_of (by simp only [tup]; rw [List.take_length, numS_eq])
theorem most_ok (B : Base) (hB : B.ok) (s : Sl Int) (hs : s.Is 1 iEnc B.h) : Fn Tryz.prog 76 [s.val] B (fun v _ => v = .int .i64 (mostL s.xs)) := by
  have hsm := hs.small
  refine Fn.of Tryz.func76 rfl Tryz.ntmps76 (by kernel_rfl) (by simp) ?_
  intro e
  have I := Inv.start hB
  refine WP.seq ?_
  refine WP.region ?_
  refine Ops.y (v := .int .i64 _) (Y.assign rfl) ?_
  refine Ops.nil ?_
  refine WP.seq ?_
  refine WP.region ?_
  refine Ops.y (v := .int .i64 _) (Y.assign rfl) ?_
  refine Ops.nil ?_
  refine WP.seq ?_
  refine WP.seq ?_
  refine WP.region ?_
  refine Ops.y (v := .int .i64 _) (Y.assign rfl) ?_
  refine Ops.nil ?_
  refine WP.block ?_
  refine WP.loopE (σ := Nat) (fun k => [(0, s.val), (3, .int .i64 (mostL (s.xs.take k))), (4, .int .i64 k)]) (fun k w => Inv B B.h [] w ∧ k ≤ s.xs.length) (fun k => s.xs.length - k)
    ⟨0, ⟨rfl, rfl, rfl, trivial⟩, I, Nat.zero_le _⟩ ?_
  rintro k e w ⟨I, hk⟩
  refine WP.seq ?_
  refine WP.seq ?_
  refine WP.region ?_
  refine Ops.y (v := .int .i64 _) (Y.move rfl) ?_
  refine Ops.y (v := .slice _ _ _) (Y.move rfl) ?_
  refine Ops.y (v := .int .i64 _) (Y.lens Tryz.underlying45 rfl) ?_
  refine Ops.y (v := .bool (decide _)) (Y.lti rfl rfl) ?_
  refine Ops.nil ?_
  refine WP.cond_dec rfl (fun h3 => ?_) (fun h3 => ?_)
  · have hk' : k < s.xs.length := by omega
    have E := hs.at hk'
    refine WP.skip ?_
    refine WP.seq ?_
    refine WP.block ?_
    refine WP.region ?_
    refine Ops.y (v := .int .i64 _) (Y.move rfl) ?_
    refine Ops.y (v := .slice _ _ _) (Y.move rfl) ?_
    refine Ops.y (v := .int .i64 _) (Y.move rfl) ?_
    refine Ops.y (v := .pointer (some ⟨_, _, none⟩)) (Y.idxEl E Tryz.underlying45 Tryz.sizeOf3 rfl rfl (Int.natCast_nonneg _) rfl) ?_
    refine Ops.y (v := .int .i64 _) (Y.loadv ty_3 rfl (I.rd (E.rd.part 0 1)) rfl rfl) ?_
    refine Ops.y (v := .int .i64 _) (Y.max2 rfl rfl) ?_
    refine Ops.y (v := .int .i64 _) (Y.assign rfl) ?_
    refine Ops.nil ?_
    refine WP.region ?_
    refine Ops.y (v := .int .i64 _) (Y.move rfl) ?_
    refine Ops.y (v := .int .i64 _) (Y.addi rfl rfl ⟨by omega, by omega⟩) ?_
    refine Ops.y (v := .int .i64 _) (Y.assign rfl) ?_
    refine Ops.nil ?_
    exact ⟨k + 1, ⟨⟨rfl, congrArg (Value.int .i64) (by rw [mostL_take hk']), rfl, trivial⟩, I, by omega⟩, by omega⟩
  obtain rfl : k = s.xs.length := by omega
  refine WP.exit ?_
  refine WP.seq ?_
  refine WP.region ?_
  refine Ops.y (v := .int .i64 _) (Y.move rfl) ?_
  refine Ops.y (v := .int .i64 _) (Y.assign rfl) ?_
  refine Ops.nil ?_
  refine WP.ret ?_
  repeat (first | refine thenE_ret ?_ | refine blockE_ret ?_)
  exact retQ.mk (vs := [.int .i64 _]) rfl ⟨rfl, trivial⟩ I.ext_of (by simp only [tup]; rw [List.take_length])
def RecP (p : Prg) (v : Value) (h : Heap) : Prop := ∃ (s : Sl Fct) (r : Sl Int), v = .tuple #[s.val, r.val] ∧ Fcts s h ∧ r.Is 1 iEnc h ∧ ModK p (strataM p) (numS (strataM p)) s.xs r.xs
def RecO (h0 : Heap) (p : Prg) (v : Value) (h : Heap) : Prop := ∃ (s : Sl Fct) (r : Sl Int), v = .tuple #[s.val, r.val] ∧ Fcts s h ∧ r.Is 1 iEnc h ∧ ModK p (strataM p) (numS (strataM p)) s.xs r.xs ∧ OwnH 52 4 s Fct.enc h0 h
theorem RecO.rec {h0 h : Heap} {p : Prg} {v : Value} (x : RecO h0 p v h) : RecP p v h := by obtain ⟨s, r, a, b, c, d, _⟩ := x; exact ⟨s, r, a, b, c, d⟩
theorem PutO.mono {h0 : Heap} {r : List Fct × Bool} : MonoS (PutO h0 r) := fun _ _ _ hl ⟨s, a, b, c, d⟩ => ⟨s, a, b, c.le hl, d.le hl⟩
def SlO (h0 : Heap) (xs : List Fct) : Sp := fun v h => ∃ s : Sl Fct, v = s.val ∧ s.xs = xs ∧ Fcts s h ∧ OwnH 52 4 s Fct.enc h0 h
theorem SlO.mono {h0 : Heap} {xs : List Fct} : MonoS (SlO h0 xs) := fun _ _ _ hl ⟨s, a, b, c, d⟩ => ⟨s, a, b, c.le hl, d.le hl⟩
theorem put_mid {a : List Int} {t : List Int} {x y : Int} {k : Nat} (h : a.length = k) : (a ++ x :: t).set k y = a ++ y :: t := by subst h; simp
theorem get_mid {a : List Int} {t : List Int} {x : Int} {k : Nat} (h : a.length = k) : (a ++ x :: t)[k]? = some x := by subst h; simp
set_option maxHeartbeats 4000000 in
theorem Reckon_own (B : Base) (hB : B.ok) (p : Prg) (hp : p.In B.h) (hpr : checkProg p = 0) : Fn Tryz.prog 86 [p.val] B (RecO B.h p) := by
  obtain ⟨k1, k2, k3, _, _⟩ := checkProg_ok hpr
  have rk := chk_rok hpr
  have ok0 := chk_nil hpr
  refine Fn.of Tryz.func86 rfl Tryz.ntmps86 (by kernel_rfl) (by simp) ?_
  intro e
  have I := Inv.start hB
  refine WP.seq ?_
  refine WP.region ?_
  refine Ops.go (O.box (v := .agg #[_, _]) I rfl rfl ?_)
  intro b1 w I
  refine Ops.y (v := .slice _ _ _) (Y.assign rfl) ?_
  refine Ops.y (v := .slice _ _ _) (Y.assign rfl) ?_
  refine Ops.nil ?_
  refine WP.seq ?_
  refine WP.region ?_
  refine Ops.y (v := .agg #[_, _]) (Y.loadv ty_25 rfl (I.rdbox 0 rfl 0 2) rfl rfl) ?_
  refine Ops.go (O.call I Tryz.call94 (Levels_ok _ I.base_ok p hp (inR_of k3) k1) rfl ?_)
  rintro v13 h1 w I le1 hL
  rcases hL with ⟨s, hS, hI, rfl⟩ | ⟨hno, rfl⟩
  rotate_left
  exact absurd (strataM_least hpr).sol (hno _)
  refine Ops.y (v := .tuple #[_, _]) (Y.move rfl) ?_
  refine Ops.y (v := .slice _ _ _) (Y.extract rfl rfl) ?_
  refine Ops.y (v := .bool _) (Y.extract rfl rfl) ?_
  refine Ops.y (v := .slice _ _ _) (Y.assign rfl) ?_
  refine Ops.y (v := .bool _) (Y.assign rfl) ?_
  refine Ops.nil ?_
  have hS : Least (usesL p.rules.xs) p.preds.xs.length s.xs := hS
  have eM := strataM_eq hS
  have hb5 := least_small hpr hS
  have hN5 := mostL_small hb5
  have hNe := numS_eq s.xs
  obtain ⟨N, hN⟩ : ∃ N, numS s.xs = N := ⟨_, rfl⟩
  refine WP.seq ?_
  refine WP.region ?_
  refine Ops.y (v := .slice _ _ _) (Y.assign rfl) ?_
  refine Ops.nil ?_
  refine WP.seq ?_
  refine WP.region ?_
  refine Ops.y (v := .slice _ _ _) (Y.move rfl) ?_
  refine Ops.go (O.callv I Tryz.call62 (hN ▸ NStrata_ok _ I.base_ok s hI hb5) rfl ?_)
  intro w I
  refine Ops.go (O.make1 (n := N) (zc := (vI 0)) I Tryz.underlying45 et_3 rfl rfl rfl (by omega) (by omega) ?_)
  intro b18 w I
  refine Ops.y (v := .slice _ _ _) (Y.assign rfl) ?_
  refine Ops.nil ?_
  rw [← List.map_replicate (f := vI)] at I
  refine WP.seq ?_
  refine WP.seq ?_
  refine WP.region ?_
  refine Ops.y (v := .slice _ _ _) (Y.move rfl) ?_
  refine Ops.y (v := .int .i64 _) (Y.lens Tryz.underlying45 rfl) ?_
  refine Ops.y (v := .int .i64 _) (Y.move rfl) ?_
  refine Ops.nil ?_
  refine WP.block ?_
  refine WP.loopE (σ := Nat × Sl Fct × List Int × Heap) (fun s' => [(1, .pointer (some ⟨b1, 0, none⟩)), (4, s.val), (6, s'.2.1.val), (7, .slice (some ⟨b18, 0, none⟩) N N), (20, .int .i64 N), (21, .int .i64 s'.1)])
    (fun s' w => Inv B s'.2.2.2 [box b18 ((s'.2.2.1 ++ List.replicate (N - s'.1) 0).map vI) 3, box b1 p.enc 25] w ∧ s'.1 ≤ N ∧ h1.le s'.2.2.2 ∧ ModK p s.xs s'.1 s'.2.1.xs s'.2.2.1 ∧ Fcts s'.2.1 s'.2.2.2 ∧ OwnH 52 4 s'.2.1 Fct.enc B.h s'.2.2.2) (fun s' => N - s'.1)
    ⟨(0, ⟨none, 0, []⟩, [], h1), ⟨rfl, rfl, rfl, rfl, rfl, rfl, trivial⟩, I, Nat.zero_le _, Heap.le.refl _, ⟨rfl, rfl⟩, fnil, .inl rfl⟩ ?_
  rintro ⟨k, f, r0, hh⟩ e w ⟨I, hk, gl, hm, hf, ho⟩
  dsimp only at I hk gl hm hf ho ⊢
  have hrl := hm.len
  refine WP.seq ?_
  refine WP.region ?_
  refine Ops.y (v := .bool (decide _)) (Y.lti rfl rfl) ?_
  refine Ops.nil ?_
  refine WP.seq ?_
  refine WP.cond_dec rfl (fun h5 => ?_) (fun h5 => ?_)
  · have hk' : k < N := by omega
    have j0 := modK_mj rk hS.sol ok0 hm
    refine WP.skip ?_
    refine WP.seq ?_
    refine WP.block ?_
    refine WP.seq ?_
    refine WP.region ?_
    refine Ops.y (v := .int .i64 _) (Y.move rfl) ?_
    refine Ops.y (v := .int .i64 _) (Y.assign rfl) ?_
    refine Ops.nil ?_
    rw [show N - k = (N - k - 1) + 1 by omega, List.replicate_succ] at I
    refine WP.block ?_
    refine WP.loopE (σ := Nat × Sl Fct × Heap) (fun s' => [(1, .pointer (some ⟨b1, 0, none⟩)), (4, s.val), (6, s'.2.1.val), (7, .slice (some ⟨b18, 0, none⟩) N N), (8, .int .i64 k), (20, .int .i64 N), (21, .int .i64 k)])
      (fun s' w => Inv B s'.2.2 [box b18 ((r0 ++ (s'.1 : Int) :: List.replicate (N - k - 1) 0).map vI) 3, box b1 p.enc 25] w ∧ h1.le s'.2.2 ∧ FOk p.preds.xs s'.2.1.xs ∧ CloB (turnT p s.xs k) f.xs s'.1 s'.2.1.xs ∧ Fcts s'.2.1 s'.2.2 ∧ s'.1 ≤ potF p.preds.xs s'.2.1.xs ∧ OwnH 52 4 s'.2.1 Fct.enc B.h s'.2.2) (fun s' => 2001 - potF p.preds.xs s'.2.1.xs)
      ⟨(0, f, hh), ⟨rfl, rfl, rfl, rfl, rfl, rfl, rfl, trivial⟩, I, gl, j0.fok, CloB.zero, hf, Nat.zero_le _, ho⟩ ?_
    rintro ⟨m, u, h2⟩ e w ⟨I, gl2, okf, cb, hu, hmp, hou⟩
    dsimp only at I gl2 okf cb hu hmp hou ⊢
    have hp2 := hp.le (le1.trans gl2)
    have hI2 := hI.le gl2
    have hpl := potF_le p.preds.xs u.xs
    have tf := told_fine (q := ofQ p s.xs k) rk okf
    obtain ⟨tr, htr⟩ : ∃ t, turnL p.preds.xs u.xs (toldL p.preds.xs u.xs p.rules.xs (ofQ p s.xs k)) = t := ⟨_, rfl⟩
    have htT : turnT p s.xs k u.xs = tr := htr
    refine WP.block ?_
    refine WP.seq ?_
    refine WP.regionF mixed I 12 (by kernel_rfl) ?_
    refine OpsF.y_ (v := .agg #[_, _]) (fun _ => runs_none _) (fun _ w us hl I => Y.loadv ty_25 rfl (I.rdbox 1 rfl 0 2) rfl rfl) ?_
    refine OpsF.y_ (v := .slice _ _ _) (fun _ => runs_none _) (fun _ w us hl I => Y.move rfl) ?_
    refine OpsF.y_ (v := .agg #[_, _]) (fun _ => runs_none _) (fun _ w us hl I => Y.loadv ty_25 rfl (I.rdbox 1 rfl 0 2) rfl rfl) ?_
    refine OpsF.y_ (v := .slice _ _ _) (fun _ => runs_none _) (fun _ w us hl I => Y.move rfl) ?_
    refine OpsF.y_ (v := .int .i64 _) (fun _ => runs_none _) (fun _ w us hl I => Y.move rfl) ?_
    refine OpsF.x_ (Φ := ROfS p s.xs k) ROfS.mono (fun _ => runs_none _) ?_ ?_
    · intro _ w hl I
      try unfold AllL
      refine O.call I Tryz.call65 (ROf_ok _ I.base_ok p s k) rfl ?_
      rintro _ h5 w I hl' ⟨b4, b3, b5, rfl, k4, k3', k5⟩
      exact ⟨_, hl', I, ⟨_, rfl, ROf1_ok p s k b4 b3 b5 k4 k3' k5 ((hp2.le hl).le hl') ((hI2.le hl).le hl') hS.sol.len (heads_in k3)⟩⟩
    refine OpsF.x_ (Φ := PutO B.h tr) PutO.mono (fun _ => runs_none _) ?_ ?_
    · intro _ w hl I u30 q30
      obtain ⟨cs, rfl, hoc⟩ := q30 rfl
      try unfold AllL
      refine O.call I Tryz.call95 (htr ▸ Turn_own _ I.base_ok p (hp2.le hl) hpr u (hu.le hl) okf 132 cs _ hoc) rfl ?_
      rintro _ h6 w I hl' ⟨s9, a9, b9, c9, d9⟩
      exact ⟨_, hl', I, ⟨s9, a9, b9, c9, d9.older (((le1.trans gl2).trans hl))⟩⟩
    refine OpsF.x_ (Φ := PutO B.h tr) PutO.mono (fun _ => runs_none _) ?_ ?_
    · intro _ w hl I u30 q30 u31 q31
      exact O.yx I (Y.move rfl) (q31 rfl)
    refine OpsF.x_ (Φ := SlO B.h tr.1) SlO.mono (fun _ => runs_none _) ?_ ?_
    · intro _ w hl I u30 q30 u31 q31 u24 q24
      obtain ⟨s6, rfl, e6, i6, o6⟩ := q24 rfl
      exact O.yx I (Y.extract rfl rfl) (⟨s6, rfl, e6, i6, o6⟩)
    refine OpsF.d_ (v := .bool tr.2) (fun _ => runs_none _) ?_ ?_
    · intro _ w hl I u30 q30 u31 q31 u24 q24 u32 q32
      obtain ⟨s6, rfl, e6, i6, o6⟩ := q24 rfl
      exact O.yd I (Y.extract rfl rfl) (rfl)
    refine OpsF.x_ (Φ := SlO B.h tr.1) SlO.mono (fun _ => runs_none _) ?_ ?_
    · intro _ w hl I u30 q30 u31 q31 u24 q24 u32 q32
      exact O.yx I (Y.assign rfl) (q32 rfl)
    refine OpsF.y_ (v := .bool _) (fun _ => runs_none _) (fun _ w us hl I => Y.assign rfl) ?_
    refine OpsF.nil ?_
    intro _ w hl I u30 q30 u31 q31 u24 q24 u32 q32 u9 q9
    refine Ops.nil ?_
    obtain ⟨s6, rfl, hs6, is6, os6⟩ := q9 rfl
    have hf6 : Fcts s6 _ := is6
    have okg : FOk p.preds.xs s6.xs := by rw [hs6, ← htr]; exact turn_fok okf tf
    refine WP.seq ?_
    refine WP.seq ?_
    refine WP.region ?_
    refine Ops.y (v := .bool _) (Y.move rfl) ?_
    refine Ops.y (v := .bool _) (Y.not rfl) ?_
    refine Ops.nil ?_
    refine WP.cond rfl (fun h8 => ?_) (fun h8 => ?_)
    · have h8 : tr.2 = false := by simpa using h8
      refine WP.exit ?_
      refine WP.region ?_
      refine Ops.y (v := .int .i64 _) (Y.addi rfl rfl ⟨by omega, by omega⟩) ?_
      refine Ops.y (v := .int .i64 _) (Y.move rfl) ?_
      refine Ops.nil ?_
      exact ⟨(k + 1, u, r0 ++ [(m : Int)], _), ⟨⟨rfl, rfl, rfl, rfl, rfl, rfl, trivial⟩, by rw [List.append_assoc, List.singleton_append, show N - (k + 1) = N - k - 1 by omega]; exact I, by dsimp only; omega, gl2.trans hl, ⟨f.xs, r0, m, hm, cb.done (by rw [htT]; exact h8), rfl⟩, hu.le hl, hou.le hl⟩, by dsimp only; omega⟩
    have h8 : tr.2 = true := by simpa using h8
    have hne : s6.xs ≠ u.xs := by
      have := turn_chg okf tf
      rw [htr, h8] at this
      rw [hs6]; exact of_decide_eq_true this.symm
    have hlt := potF_lt okf okg (by rw [hs6, ← htr]; exact turn_above okf tf) hne
    have hpl2 := potF_le p.preds.xs s6.xs
    refine WP.skip ?_
    refine WP.seq ?_
    refine WP.region ?_
    refine Ops.y (v := .slice _ _ _) (Y.move rfl) ?_
    refine Ops.y (v := .slice _ _ _) (Y.assign rfl) ?_
    refine Ops.nil ?_
    refine WP.region ?_
    refine Ops.y (v := .slice _ _ _) (Y.move rfl) ?_
    refine Ops.y (v := .int .i64 _) (Y.move rfl) ?_
    refine Ops.y (v := .pointer (some ⟨_, _, none⟩)) (Y.idx Tryz.underlying45 Tryz.sizeOf3 rfl rfl (by omega) (by omega)) ?_
    refine Ops.y (v := .int .i64 _) (Y.loadv ty_3 rfl (I.rdL 0 rfl (by omega) (get_mid hrl)) rfl rfl) ?_
    refine Ops.y (v := .int .i64 _) (Y.addi rfl rfl ⟨by omega, by omega⟩) ?_
    refine Ops.y (v := .pointer (some ⟨_, _, none⟩)) (Y.idx Tryz.underlying45 Tryz.sizeOf3 rfl rfl (by omega) (by omega)) ?_
    refine Ops.go (O.store1 I ty_3 0 rfl rfl (i := k) (v := (m : Int) + 1) (by omega) (by simp; omega) rfl rfl rfl ?_)
    intro w I
    refine Ops.nil ?_
    rw [put_mid hrl] at I
    exact ⟨(m + 1, s6, _), ⟨⟨rfl, rfl, rfl, rfl, rfl, rfl, rfl, trivial⟩, I, gl2.trans hl, okg, by have := cb.next (by rw [htT]; exact h8); rw [htT, ← hs6] at this; exact this, is6, by dsimp only; omega, os6⟩, by dsimp only; omega⟩
  obtain rfl : k = N := by omega
  rw [Nat.sub_self, List.replicate_zero, List.append_nil] at I
  have hbo := I.at 0 rfl
  obtain ⟨h4, le4, hb4, I⟩ := (I.front 0 rfl).settle
  refine WP.exit ?_
  refine WP.seq ?_
  refine WP.region ?_
  refine Ops.y (v := .slice _ _ _) (Y.move rfl) ?_
  refine Ops.y (v := .slice _ _ _) (Y.move rfl) ?_
  refine Ops.y (v := .slice _ _ _) (Y.assign rfl) ?_
  refine Ops.y (v := .slice _ _ _) (Y.assign rfl) ?_
  refine Ops.nil ?_
  refine WP.ret ?_
  repeat (first | refine thenE_ret ?_ | refine blockE_ret ?_)
  exact retQ.mk (vs := [.slice _ _ _, .slice _ _ _]) rfl ⟨rfl, rfl, trivial⟩ I.ext_of (⟨f, ⟨some ⟨b18, 0, none⟩, k, r0⟩, by simp only [tup, Sl.val, hrl], hf.le le4, boxIs ((hb4 b18 (by simp [box])).trans hbo) (by rw [hrl]; omega), by rw [eM, hN]; exact hm, ho.le le4⟩)
theorem Reckon_ok (B : Base) (hB : B.ok) (p : Prg) (hp : p.In B.h) (hpr : checkProg p = 0) : Fn Tryz.prog 86 [p.val] B (RecP p) := (Reckon_own B hB p hp hpr).mono fun _ _ _ h => h.rec
def ModP (p : Prg) (v : Value) (h : Heap) : Prop := (checkProg p ≠ 0 ∧ v = .tuple #[.slice none 0 0, .int .i64 (checkProg p)]) ∨ (checkProg p = 0 ∧ ∃ (s : Sl Fct) (rs : List Int), v = .tuple #[s.val, .int .i64 0] ∧ Fcts s h ∧ ModK p (strataM p) (numS (strataM p)) s.xs rs)
theorem Model_ok (B : Base) (hB : B.ok) (p : Prg) (hp : p.In B.h) (hnm : p.Nm) : Fn Tryz.prog 28 [p.val] B (ModP p) := by
  refine Fn.of Tryz.func28 rfl Tryz.ntmps28 (by kernel_rfl) (by simp) ?_
  intro e
  have I := Inv.start hB
  refine WP.seq ?_
  refine WP.region ?_
  refine Ops.go (O.box (v := .agg #[_, _]) I rfl rfl ?_)
  intro b1 w I
  refine Ops.y (v := .slice _ _ _) (Y.assign rfl) ?_
  refine Ops.y (v := .int .i64 _) (Y.assign rfl) ?_
  refine Ops.nil ?_
  refine WP.seq ?_
  refine WP.seq ?_
  refine WP.region ?_
  refine Ops.y (v := .agg #[_, _]) (Y.loadv ty_25 rfl (I.rdbox 0 rfl 0 2) rfl rfl) ?_
  refine Ops.go (O.callv I Tryz.call56 (PCheck_ok _ I.base_ok p hp hnm) rfl ?_)
  intro w I
  refine Ops.y (v := .int .i64 _) (Y.assign rfl) ?_
  refine Ops.nil ?_
  refine WP.seq ?_
  refine WP.region ?_
  refine Ops.y (v := .int .i64 _) (Y.move rfl) ?_
  refine Ops.y (v := .bool (decide _)) (Y.nei rfl rfl) ?_
  refine Ops.nil ?_
  refine WP.cond_dec rfl (fun h => ?_) (fun h => ?_)
  · refine WP.seq ?_
    refine WP.region ?_
    refine Ops.y (v := .int .i64 _) (Y.move rfl) ?_
    refine Ops.y (v := .slice _ _ _) (Y.assign rfl) ?_
    refine Ops.y (v := .int .i64 _) (Y.assign rfl) ?_
    refine Ops.nil ?_
    refine WP.ret ?_
    repeat (first | refine thenE_ret ?_ | refine blockE_ret ?_)
    exact retQ.mk (vs := [.slice _ _ _, .int .i64 _]) rfl ⟨rfl, rfl, trivial⟩ I.ext_of (.inl ⟨h, rfl⟩)
  have hpr := Decidable.not_not.1 h
  refine WP.skip ?_
  refine WP.seq ?_
  refine WP.region ?_
  refine Ops.y (v := .agg #[_, _]) (Y.loadv ty_25 rfl (I.rdbox 0 rfl 0 2) rfl rfl) ?_
  refine Ops.go (O.call I Tryz.call86 (Reckon_ok _ I.base_ok p hp hpr) rfl ?_)
  rintro _ h3 w I le3 ⟨s, r, rfl, hs, hr, hm⟩
  refine Ops.y (v := .tuple #[_, _]) (Y.move rfl) ?_
  refine Ops.y (v := .slice _ _ _) (Y.extract rfl rfl) ?_
  refine Ops.y (v := .slice _ _ _) (Y.extract rfl rfl) ?_
  refine Ops.y (v := .slice _ _ _) (Y.assign rfl) ?_
  refine Ops.y (v := .slice _ _ _) (Y.assign rfl) ?_
  refine Ops.nil ?_
  refine WP.seq ?_
  refine WP.region ?_
  refine Ops.y (v := .slice _ _ _) (Y.move rfl) ?_
  refine Ops.y (v := .slice _ _ _) (Y.assign rfl) ?_
  refine Ops.y (v := .int .i64 _) (Y.assign rfl) ?_
  refine Ops.nil ?_
  refine WP.ret ?_
  repeat (first | refine thenE_ret ?_ | refine blockE_ret ?_)
  exact retQ.mk (vs := [.slice _ _ _, .int .i64 _]) rfl ⟨rfl, rfl, trivial⟩ I.ext_of (.inr ⟨hpr, s, r.xs, rfl, hs, hm⟩)
def MofP (p : Prg) (v : Value) (h : Heap) : Prop := ∃ (s : Sl Fct) (rs : List Int), v = s.val ∧ Fcts s h ∧ ModK p (strataM p) (numS (strataM p)) s.xs rs
def RofP (p : Prg) (v : Value) (h : Heap) : Prop := ∃ (r : Sl Int) (f : List Fct), v = r.val ∧ r.Is 1 iEnc h ∧ ModK p (strataM p) (numS (strataM p)) f r.xs
theorem MofP.mono {p : Prg} : MonoS (MofP p) := fun _ _ _ hl ⟨s, r, a, b, c⟩ => ⟨s, r, a, b.le hl, c⟩
theorem RofP.mono {p : Prg} : MonoS (RofP p) := fun _ _ _ hl ⟨s, r, a, b, c⟩ => ⟨s, r, a, b.le hl, c⟩
end Go.TF
end
section
/- Needs: who is needed, by a queue. -/
namespace Go.TF
open Go Go.RowKit Go.Proofs
set_option maxRecDepth 20000

structure NdS where
  g : Nat
  o : Nat
  c : Nat
  q : List Int
  N : List Bool
  ms : List Nat
@[reducible] def NdU (b8 bo b2 : Nat) (p : Prg) (g o c : Nat) (q : List Int) (N : List Bool) : List SA := [box b8 [.slice (some ⟨g, o, none⟩) (q.map vI).length c] 45, ownQ 3 g o c (q.map vI), box bo (N.map vB) 4, box b2 p.enc 25]
structure NdJ (B : Base) (b8 bo b2 : Nat) (p : Prg) (pr : Int) (s : NdS) (w : World) : Prop where
  inv : ∃ h1, B.h.le h1 ∧ Inv B h1 (NdU b8 bo b2 p s.g s.o s.c s.q s.N ++ s.ms.map markSA) w
  len : s.N.length = p.preds.xs.length
  snd : ∀ i : Int, 0 ≤ i → i < p.preds.xs.length → bv s.N i = true → Reach (usesL p.rules.xs) pr i
  qin : ∀ x ∈ s.q, (0 ≤ x ∧ x < p.preds.xs.length) ∧ Reach (usesL p.rules.xs) pr x
  clo : ∀ c ∈ usesL p.rules.xs, bv s.N c.1 = true → bv s.N c.2.atom.pred = true ∨ c.2.atom.pred ∈ s.q
  has : bv s.N pr = true ∨ pr ∈ s.q
  small : s.q.length ≤ 1 + 24 * trues s.N
end Go.TF
end
section
/- The roads, their arrays the caller's own. -/
namespace Go.TF
open Go Go.RowKit Go.Proofs
set_option maxRecDepth 20000

def prC : List Prd := [⟨bEdge, 2, 0⟩, ⟨bFar, 2, 2⟩, ⟨bLone, 1, 0⟩]
structure RoadsM (v : Value) (h : Heap) (M : List SA) (bp br : Nat) (r0 r1 r2 r3 r4 r5 r6 : Rul) : Prop where
  val : v = .agg #[.slice (some ⟨bp, 0, none⟩) 3 3, .slice (some ⟨br, 0, none⟩) 7 7]
  own : M = [box br ([r0, r1, r2, r3, r4, r5, r6].flatMap Rul.enc) 68, box bp (prC.flatMap Prd.enc) 62]
  is : ∀ x ∈ [r0, r1, r2, r3, r4, r5, r6], x.In h
  cap : ∀ x ∈ [r0, r1, r2, r3, r4, r5, r6], x.body.xs.length ≤ x.body.cap
  er : [r0, r1, r2, r3, r4, r5, r6].map Rul.er = roadsC.rules.xs
end Go.TF
end
section
/- What the laws of programs begin with. -/
namespace Go.TF
open Go Go.RowKit Go.Proofs
set_option maxRecDepth 20000

def LtlS (x : Ltl) : Sp := fun u h => ∃ y : Ltl, u = y.val ∧ y.er = x ∧ y.In h
theorem LtlS.mono {x : Ltl} : MonoS (LtlS x) := fun _ _ _ hl ⟨s, a, b, c⟩ => ⟨s, a, b, c.le hl⟩
def LtlsS (xs : List Ltl) : Sp := fun u h => ∃ s : Sl Ltl, u = s.val ∧ s.xs.map Ltl.er = xs ∧ Ltls s h ∧ s.at_ = some ⟨s.blk, s.off, none⟩
theorem LtlsS.mono {xs : List Ltl} : MonoS (LtlsS xs) := fun _ _ _ hl ⟨s, a, b, c, d⟩ => ⟨s, a, b, c.le hl, d⟩
def LtlsF (xs : List Ltl) : Sp := fun u h => ∃ s : Sl Ltl, u = s.val ∧ s.xs.map Ltl.er = xs ∧ Ltls s h ∧ s.at_ = some ⟨s.blk, s.off, none⟩ ∧ s.cap = s.xs.length
theorem LtlsF.mono {xs : List Ltl} : MonoS (LtlsF xs) := fun _ _ _ hl ⟨s, a, b, c, d⟩ => ⟨s, a, b, c.le hl, d⟩
theorem RoadsAt.nm {p : Prg} {h : Heap} (x : RoadsAt p h) : p.Nm := by
  unfold Prg.Nm
  rw [x.preds]
  decide
theorem RoadsAt.check {p : Prg} {h : Heap} (x : RoadsAt p h) : checkProg p = 0 := by rw [← checkProg_er, x.er, roads_check]
theorem RoadsAt.uses {p : Prg} {h : Heap} (x : RoadsAt p h) : (usesL p.rules.xs).map cEr = usesL roadsC.rules.xs := by
  rw [← usesL_er]
  have := congrArg (fun q : Prg => q.rules.xs) x.er
  exact congrArg usesL this
theorem RoadsAt.len {p : Prg} {h : Heap} (x : RoadsAt p h) : p.preds.xs.length = 3 := by rw [x.preds]; rfl
end Go.TF
end
section
/- The laws of programs: each returns true. -/
namespace Go.TF
open Go Go.RowKit Go.Proofs
set_option maxRecDepth 20000

theorem PrgOk.nm {p : Prg} {h : Heap} (x : PrgOk p h) : p.Nm := fun y hy => by
  have := (x.preds.each y hy).name
  have h2 : reachBytes ≤ 140737488355328 := by decide
  omega
end Go.TF
end
section
/- The other two laws of programs: each returns true. -/
namespace Go.TF
open Go Go.RowKit Go.Proofs
set_option maxRecDepth 20000

def chooseI (c n : Int) : Int := (if c < 0 then -(c + 1) else c).tmod n
theorem chooseI_in {c n : Int} (hn : 0 < n) : 0 ≤ chooseI c n ∧ chooseI c n < n :=
  ⟨Int.tmod_nonneg _ (by split <;> omega), Int.tmod_lt_of_pos _ hn⟩
theorem choose_ok (B : Base) (hB : B.ok) (c n : Int) (hc : I64 c) (hn : 0 < n) : Fn Tryz.prog 46 [.int .i64 c, .int .i64 n] B (fun v _ => v = .int .i64 (chooseI c n)) := by
  unfold I64 at hc
  refine Fn.of Tryz.func46 rfl Tryz.ntmps46 (by kernel_rfl) (by simp) ?_
  intro e
  have I := Inv.start hB
  refine WP.seq ?_
  refine WP.region ?_
  refine Ops.y (v := .int .i64 _) (Y.assign rfl) ?_
  refine Ops.nil ?_
  refine WP.seq ?_
  refine WP.seq ?_
  refine WP.region ?_
  refine Ops.y (v := .int .i64 _) (Y.move rfl) ?_
  refine Ops.y (v := .bool (decide _)) (Y.lti rfl rfl) ?_
  refine Ops.nil ?_
  refine WP.cond_dec rfl (fun h => ?_) (fun h => ?_)
  · refine WP.region ?_
    refine Ops.y (v := .int .i64 _) (Y.move rfl) ?_
    refine Ops.y (v := .int .i64 _) (Y.addi rfl rfl ⟨by omega, by omega⟩) ?_
    refine Ops.y (v := .int .i64 _) (Y.negi rfl ⟨by omega, by omega⟩) ?_
    refine Ops.y (v := .int .i64 _) (Y.assign rfl) ?_
    refine Ops.nil ?_
    refine WP.seq ?_
    refine WP.region ?_
    refine Ops.y (v := .int .i64 _) (Y.move rfl) ?_
    refine Ops.y (v := .int .i64 _) (Y.move rfl) ?_
    refine Ops.y (v := .int .i64 _) (Y.remi rfl rfl (by omega)) ?_
    refine Ops.y (v := .int .i64 _) (Y.assign rfl) ?_
    refine Ops.nil ?_
    refine WP.ret ?_
    repeat (first | refine thenE_ret ?_ | refine blockE_ret ?_)
    exact retQ.mk (vs := [.int .i64 _]) rfl ⟨rfl, trivial⟩ I.ext_of (by simp only [tup, chooseI]; rw [if_pos h])
  · refine WP.skip ?_
    refine WP.seq ?_
    refine WP.region ?_
    refine Ops.y (v := .int .i64 _) (Y.move rfl) ?_
    refine Ops.y (v := .int .i64 _) (Y.move rfl) ?_
    refine Ops.y (v := .int .i64 _) (Y.remi rfl rfl (by omega)) ?_
    refine Ops.y (v := .int .i64 _) (Y.assign rfl) ?_
    refine Ops.nil ?_
    refine WP.ret ?_
    repeat (first | refine thenE_ret ?_ | refine blockE_ret ?_)
    exact retQ.mk (vs := [.int .i64 _]) rfl ⟨rfl, trivial⟩ I.ext_of (by simp only [tup, chooseI]; rw [if_neg h])
def Asked (L : List Int) (k : Int) (cs : List (Int × Ltl)) : Prop := lv L k = 0 ∨ ∃ c ∈ cs, c.1 = k ∧ lv L k = lst L c
theorem Least.asked {cs : List (Int × Ltl)} {n : Nat} {L : List Int} (hr : InR cs n) (h : Least cs n L) {k : Int} (k0 : 0 ≤ k) (k1 : k < n) : Asked L k cs := by
  refine Classical.byContradiction fun hno => ?_
  unfold Asked at hno
  have hz : lv L k ≠ 0 := fun e => hno (.inl e)
  have hc : ∀ c ∈ cs, c.1 = k → lv L k ≠ lst L c := fun c hc e e2 => hno (.inr ⟨c, hc, e, e2⟩)
  have hp := h.sol.pos k
  have hkl : k < L.length := by rw [h.sol.len]; exact k1
  have hle : ∀ i : Int, 0 ≤ i → lv (L.set k.toNat (lv L k - 1)) i ≤ lv L i := fun i h0 => by
    rw [lv_set k0 hkl _ _ h0]; split
    · rename_i e; subst e; omega
    · omega
  have hM : Sol cs n (L.set k.toNat (lv L k - 1)) := by
    refine ⟨by simp [h.sol.len], fun i => ?_, fun c hcm => ?_⟩
    · have key : ∀ i : Int, 0 ≤ i → 0 ≤ lv (L.set k.toNat (lv L k - 1)) i := fun i h0 => by
        rw [lv_set k0 hkl _ _ h0]; split
        · omega
        · exact h.sol.pos i
      by_cases h0 : 0 ≤ i
      · exact key i h0
      · rw [lv_neg _ (by omega)]; exact key 0 (Int.le_refl 0)
    · have hh := hr.h c hcm
      have hb := hr.b c hcm
      have hs := h.sol.sat c hcm
      have h2 := hle _ hb.1
      unfold SatC lst at hs ⊢
      rw [lv_set k0 hkl _ c.1 hh.1]
      split
      · rename_i e
        have := hc c hcm e
        unfold lst at this
        rw [e] at hs; omega
      · omega
  have := h.least _ hM k
  rw [lv_set k0 hkl _ _ k0, if_pos rfl] at this
  omega
theorem Least.lt {cs : List (Int × Ltl)} {n : Nat} {L : List Int} (hr : InR cs n) (h : Least cs n L) {i : Int} (h0 : 0 ≤ i) (h1 : i < n) : lv L i < n := by
  obtain ⟨M', hM', hlt⟩ := h.sol.small hr
  exact Int.lt_of_le_of_lt (h.least M' hM' i) (hlt i h0 h1)
theorem Reach.trans {cs : List (Int × Ltl)} {a b c : Int} (h : Reach cs a b) (k : Reach cs b c) : Reach cs a c := by
  induction k with
  | refl => exact h
  | step _ hu ih => exact .step ih hu
end Go.TF
end
section
/- The roads' model; what must be in any case of the model. -/
namespace Go.TF
open Go Go.RowKit Go.Proofs
set_option maxRecDepth 20000

def rdM0 : List Fct := ((cloF (turnT roadsC [0, 0, 1] 0) 8 []).getD ([], 0)).1
def rdM : List Fct := ((cloF (turnT roadsC [0, 0, 1] 1) 8 rdM0).getD ([], 0)).1
theorem rdM0_clo : cloF (turnT roadsC [0, 0, 1] 0) 8 [] = some (rdM0, 4) := by kernel_rfl
theorem rdM_clo : cloF (turnT roadsC [0, 0, 1] 1) 8 rdM0 = some (rdM, 1) := by kernel_rfl
section
variable {p : Prg} {h : Heap} (hp : RoadsAt p h)
include hp
theorem rd_ofQs (st : Int) (n : Nat) (hn : n < 7) : ofQ p [0, 0, 1] st n = ofQ roadsC [0, 0, 1] st n := by
  have h1 : (p.rules.xs.map Rul.er).getD n default = roadsC.rules.xs.getD n default := by rw [rd_rules hp]
  have h2 : n < p.rules.xs.length := by rw [rd_len hp]; exact hn
  rw [List.getD_eq_getElem?_getD, List.getElem?_map, List.getElem?_eq_getElem h2] at h1
  unfold ofQ
  rw [← h1, List.getD_eq_getElem?_getD, List.getElem?_eq_getElem h2]
  rfl
theorem rd_told (st : Int) (f : List Fct) : toldL p.preds.xs f p.rules.xs (ofQ p [0, 0, 1] st) = toldL roadsC.preds.xs f roadsC.rules.xs (ofQ roadsC [0, 0, 1] st) := by
  rw [rd_preds hp, ← rd_rules hp, toldL_er]
  exact toldK_congr fun n hn => rd_ofQs hp st n (by rw [rd_len hp] at hn; exact hn)
theorem rd_turn (st : Int) : turnT p [0, 0, 1] st = turnT roadsC [0, 0, 1] st := by
  funext f
  unfold turnT
  rw [rd_told hp, rd_preds hp]
theorem rd_getR (n : Nat) : (p.rules.xs.getD n default).er = roadsC.rules.xs.getD n default := by
  rw [← rd_rules hp, List.getD_eq_getElem?_getD, List.getD_eq_getElem?_getD, List.getElem?_map]
  cases p.rules.xs[n]? <;> rfl
theorem rd_mod : ModK p (strataM p) (numS (strataM p)) rdM [4, 1] := by
  rw [rd_strata hp, show numS [0, 0, 1] = 2 by decide]
  refine ⟨rdM0, [4], 1, ⟨[], [], 4, ⟨rfl, rfl⟩, ?_, rfl⟩, ?_, rfl⟩
  · rw [rd_turn hp]; exact cloF_clo rdM0_clo
  · rw [rd_turn hp]; exact cloF_clo rdM_clo
end
end Go.TF
end
section
/- Only what is new is used, and the same follows: plain. -/
namespace Go.TF
open Go

theorem addF_len {k : Int} {x : Fct} : ∀ {f : List Fct}, (addF k f x).1.length ≤ f.length + 1 ∧ f.length ≤ (addF k f x).1.length
  | [] => by simp [addF]
  | y :: r => by
    have ih := addF_len (k := k) (x := x) (f := r)
    rw [addF]
    split
    · simp
    · split
      · simp
      · show (y :: (addF k r x).1).length ≤ _ ∧ _ ≤ (y :: (addF k r x).1).length
        simp only [List.length_cons]; omega
def newB (p : Prg) (M : List Int) (st : Int) (fr : List Fct) (s : Stp) : Bool := (p.rules.xs.getD s.rule.toNat default).body.xs.any fun x => !x.neg && decide (lv M x.atom.pred = st) && isF fr (groundF x.atom s.vars)
def freshF (f g : List Fct) : List Fct := g.filter fun x => decide (lkF f (placeF x) ≠ some x.v)
def semiQ (p : Prg) (M : List Int) (st : Int) (b : Bool) (fr : List Fct) (t : Stp × Fct) : Bool := b || newB p M st fr t.1
def semiL (p : Prg) (M : List Int) (st : Int) (b : Bool) (fr f : List Fct) : List (Stp × Fct) := (toldL p.preds.xs f p.rules.xs (ofQ p M st)).filter (semiQ p M st b fr)
def semiT (p : Prg) (M : List Int) (st : Int) (b : Bool) (fr f : List Fct) : List Fct := (turnL p.preds.xs f (semiL p M st b fr f)).1
inductive SClo (p : Prg) (M : List Int) (st : Int) : Bool → List Fct → List Fct → List Fct → Nat → Prop
  | stop {b : Bool} {fr f g : List Fct} {n : Nat} (hg : semiT p M st b fr f = g) (hn : (semiL p M st b fr f).length = n) (h : freshF f g = []) : SClo p M st b fr f g n
  | step {b : Bool} {fr f g r : List Fct} {n m : Nat} (hg : semiT p M st b fr f = g) (hn : (semiL p M st b fr f).length = n) (h : freshF f g ≠ []) (c : SClo p M st false (freshF f g) g r m) : SClo p M st b fr f r (n + m)
theorem SClo.uniq {p : Prg} {M : List Int} {st : Int} {b : Bool} {fr f r : List Fct} {n : Nat} (h : SClo p M st b fr f r n) : ∀ {r' : List Fct} {n' : Nat}, SClo p M st b fr f r' n' → r' = r ∧ n' = n := by
  induction h with
  | stop hg hn h =>
    intro r' n' h'
    cases h' with
    | stop hg' hn' h' => exact ⟨hg'.symm.trans hg, hn'.symm.trans hn⟩
    | step hg' hn' h' c' => exact absurd (hg.symm.trans hg' ▸ h) h'
  | step hg hn h c ih =>
    intro r' n' h'
    cases h' with
    | stop hg' hn' h' => exact absurd (hg'.symm.trans hg ▸ h') h
    | step hg' hn' h' c' =>
      have e := hg'.symm.trans hg
      subst e
      obtain ⟨rfl, rfl⟩ := ih c'
      exact ⟨rfl, by rw [← hn, ← hn']⟩
def SCloB (p : Prg) (M : List Int) (st : Int) (f0 : List Fct) (k : Nat) (b : Bool) (fr f : List Fct) : Prop := ∀ r n, SClo p M st b fr f r n → SClo p M st true [] f0 r (k + n)
theorem SCloB.zero {p : Prg} {M : List Int} {st : Int} {f : List Fct} : SCloB p M st f 0 true [] f := fun r n h => by rw [Nat.zero_add]; exact h
theorem SCloB.next {p : Prg} {M : List Int} {st : Int} {f0 fr f g : List Fct} {k n : Nat} {b : Bool} (h : SCloB p M st f0 k b fr f) (hg : semiT p M st b fr f = g) (hn : (semiL p M st b fr f).length = n) (hf : freshF f g ≠ []) : SCloB p M st f0 (k + n) false (freshF f g) g := fun r m c => by
  rw [Nat.add_assoc]; exact h r (n + m) (.step hg hn hf c)
theorem SCloB.done {p : Prg} {M : List Int} {st : Int} {f0 fr f g : List Fct} {k n : Nat} {b : Bool} (h : SCloB p M st f0 k b fr f) (hg : semiT p M st b fr f = g) (hn : (semiL p M st b fr f).length = n) (hf : freshF f g = []) : SClo p M st true [] f0 g (k + n) := h g n (.stop hg hn hf)
def SemK (p : Prg) (M : List Int) : Nat → List Fct → Nat → Prop
  | 0, f, c => f = [] ∧ c = 0
  | k + 1, f, c => ∃ f0 c0 c1, SemK p M k f0 c0 ∧ SClo p M k true [] f0 f c1 ∧ c = c0 + c1
theorem SemK.uniq {p : Prg} {M : List Int} : ∀ {k : Nat} {f f' : List Fct} {c c' : Nat}, SemK p M k f c → SemK p M k f' c' → f' = f ∧ c' = c
  | 0, _, _, _, _, ⟨h1, h2⟩, ⟨h3, h4⟩ => ⟨h3.trans h1.symm, h4.trans h2.symm⟩
  | k + 1, _, _, _, _, ⟨f0, r0, n, a, b, c⟩, ⟨f0', r0', n', a', b', c'⟩ => by
    obtain ⟨rfl, rfl⟩ := SemK.uniq a a'
    obtain ⟨rfl, rfl⟩ := b.uniq b'
    exact ⟨rfl, c'.trans c.symm⟩
structure SInv (p : Prg) (M : List Int) (st : Int) (b : Bool) (fr f : List Fct) : Prop where
  fok : FOk p.preds.xs f
  was : b = false → ∃ f', FOk p.preds.xs f' ∧ SameLv M (· ≠ st) f' f ∧ fr = freshF f' f ∧ ∀ t ∈ toldL p.preds.xs f' p.rules.xs (ofQ p M st), underF p.preds.xs [t.2] f = true
section
variable {p : Prg} {M : List Int} (rk : ∀ r ∈ p.rules.xs, ROk p.preds.xs r) (hM : Sol (usesL p.rules.xs) p.preds.xs.length M)
include rk hM
end
end Go.TF
end
section
/- Steps used one behind the other, facts as they are by then: the same follows; steps that are replayed: plain. -/
namespace Go.TF
open Go

abbrev TrS := List Fct × List Stp
def trPut (l : List Prd) (s : TrS) (x : Stp) (y : Fct) : TrS := if (addF (predOf l y.pred).kind s.1 y).2 = true then ((addF (predOf l y.pred).kind s.1 y).1, s.2 ++ [x]) else s
def trStep (l : List Prd) (r : Rul) (s : TrS) (x : Stp) : TrS := trPut l s x (headF l s.1 r x.vars)
def trL (l : List Prd) (r : Rul) (xs : List Stp) (s : TrS) : TrS := xs.foldl (trStep l r) s
def trRule (p : Prg) (n : Nat) (s : TrS) : TrS := trL p.preds.xs (p.rules.xs.getD n default) (stepsF s.1 n (p.rules.xs.getD n default)) s
def trK (p : Prg) (q : Nat → Bool) (s : TrS) : Nat → TrS
  | 0 => s
  | k + 1 => if q k = true then trRule p k (trK p q s k) else trK p q s k
abbrev trPass (p : Prg) (q : Nat → Bool) (s : TrS) : TrS := trK p q s p.rules.xs.length
theorem trL_take {l : List Prd} {r : Rul} {xs : List Stp} {s : TrS} {k : Nat} (hk : k < xs.length) : trL l r (xs.take (k + 1)) s = trStep l r (trL l r (xs.take k) s) xs[k] := by
  unfold trL; rw [List.take_succ_eq_append_getElem hk, List.foldl_append]; rfl
theorem trPut_mono {l : List Prd} {s : TrS} {x : Stp} {y : Fct} : s.2.length ≤ (trPut l s x y).2.length := by
  unfold trPut; split
  · simp
  · exact Nat.le_refl _
theorem trPut_same {l : List Prd} {s : TrS} {x : Stp} {y : Fct} (h : (trPut l s x y).2.length = s.2.length) : trPut l s x y = s ∧ (addF (predOf l y.pred).kind s.1 y).2 = false := by
  unfold trPut at h ⊢
  split at h
  · simp at h
  · rename_i hc; exact ⟨if_neg hc, by simpa using hc⟩
theorem trL_mono {l : List Prd} {r : Rul} : ∀ (xs : List Stp) (s : TrS), s.2.length ≤ (trL l r xs s).2.length
  | [], _ => Nat.le_refl _
  | x :: xs, s => Nat.le_trans trPut_mono (trL_mono xs (trStep l r s x))
theorem trL_same {l : List Prd} {r : Rul} : ∀ (xs : List Stp) (s : TrS), (trL l r xs s).2.length = s.2.length → trL l r xs s = s ∧ ∀ x ∈ xs, (addF (predOf l r.head.pred).kind s.1 (headF l s.1 r x.vars)).2 = false
  | [], s, _ => ⟨rfl, fun x hx => by simp at hx⟩
  | x :: xs, s, h => by
    have h1 : s.2.length ≤ (trStep l r s x).2.length := trPut_mono
    have h2 := trL_mono (l := l) (r := r) xs (trStep l r s x)
    have h3 : (trL l r xs (trStep l r s x)).2.length = s.2.length := h
    obtain ⟨e, hc⟩ := trPut_same (l := l) (s := s) (x := x) (y := headF l s.1 r x.vars) (show (trStep l r s x).2.length = _ by omega)
    have e : trStep l r s x = s := e
    have h4 : trL l r (x :: xs) s = trL l r xs s := congrArg (trL l r xs) e
    rw [h4] at h ⊢
    obtain ⟨i1, i2⟩ := trL_same xs s h
    refine ⟨i1, fun y hy => ?_⟩
    rcases List.mem_cons.1 hy with rfl | hy
    · exact hc
    · exact i2 y hy
theorem trK_mono {p : Prg} {q : Nat → Bool} {s : TrS} : ∀ k, s.2.length ≤ (trK p q s k).2.length
  | 0 => Nat.le_refl _
  | k + 1 => by
    have ih := trK_mono (p := p) (q := q) (s := s) k
    rw [trK]; split
    · exact Nat.le_trans ih (trL_mono _ _)
    · exact ih
theorem trK_same {p : Prg} {q : Nat → Bool} {s : TrS} : ∀ k, (trK p q s k).2.length = s.2.length → trK p q s k = s ∧ ∀ n, n < k → q n = true → ∀ x ∈ stepsF s.1 n (p.rules.xs.getD n default), (addF (predOf p.preds.xs (p.rules.xs.getD n default).head.pred).kind s.1 (headF p.preds.xs s.1 (p.rules.xs.getD n default) x.vars)).2 = false
  | 0, _ => ⟨rfl, fun n hn => by omega⟩
  | k + 1, h => by
    have ih := trK_same (p := p) (q := q) (s := s) k
    have hm := trK_mono (p := p) (q := q) (s := s) k
    rw [trK] at h ⊢
    split at h
    · rename_i hq
      have h1 : (trK p q s k).2.length ≤ (trRule p k (trK p q s k)).2.length := trL_mono _ _
      obtain ⟨e, i2⟩ := ih (by omega)
      rw [e] at h ⊢
      obtain ⟨e2, i3⟩ := trL_same _ s h
      rw [if_pos hq]
      refine ⟨e2, fun n hn hqn => ?_⟩
      rcases Nat.lt_succ_iff_lt_or_eq.1 hn with hlt | rfl
      · exact i2 n hlt hqn
      · exact i3
    · rename_i hq
      obtain ⟨e, i2⟩ := ih h
      rw [if_neg hq]
      refine ⟨e, fun n hn hqn => ?_⟩
      rcases Nat.lt_succ_iff_lt_or_eq.1 hn with hlt | rfl
      · exact i2 n hlt hqn
      · exact absurd hqn hq
inductive TClo (T : TrS → TrS) : TrS → TrS → Prop
  | stop {s g : TrS} (hg : T s = g) (h : g.2.length = s.2.length) : TClo T s g
  | step {s g r : TrS} (hg : T s = g) (h : g.2.length ≠ s.2.length) (c : TClo T g r) : TClo T s r
theorem TClo.uniq {T : TrS → TrS} {s r : TrS} (h : TClo T s r) : ∀ {r' : TrS}, TClo T s r' → r' = r := by
  induction h with
  | stop hg h =>
    intro r' h'
    cases h' with
    | stop hg' h' => exact hg'.symm.trans hg
    | step hg' h' c' => exact absurd (hg'.symm.trans hg ▸ h) h'
  | step hg h c ih =>
    intro r' h'
    cases h' with
    | stop hg' h' => exact absurd (hg'.symm.trans hg ▸ h') h
    | step hg' h' c' => exact ih (hg'.symm.trans hg ▸ c')
def TCloB (T : TrS → TrS) (s0 s : TrS) : Prop := ∀ r, TClo T s r → TClo T s0 r
theorem TCloB.next {T : TrS → TrS} {s0 s g : TrS} (h : TCloB T s0 s) (hg : T s = g) (hl : g.2.length ≠ s.2.length) : TCloB T s0 g := fun r c => h r (.step hg hl c)
def TraK (p : Prg) (M : List Int) : Nat → TrS → Prop
  | 0, s => s = ([], [])
  | k + 1, s => ∃ s0, TraK p M k s0 ∧ TClo (trPass p (ofQ p M k)) s0 s
theorem TraK.uniq {p : Prg} {M : List Int} : ∀ {k : Nat} {s s' : TrS}, TraK p M k s → TraK p M k s' → s' = s
  | 0, _, _, h1, h2 => h2.trans h1.symm
  | k + 1, _, _, ⟨s0, a, b⟩, ⟨s0', a', b'⟩ => by
    obtain rfl := TraK.uniq a a'
    exact b.uniq b'
/-! ### Replays -/
def repL (p : Prg) : List Stp → Nat → List Fct → (List Fct × Nat) × Int
  | [], k, f => ((f, k), 0)
  | x :: xs, k, f => if 0 ≤ x.rule ∧ x.rule < p.rules.xs.length then
      if vsB x.vars = true then
        if (holdsF p.preds.xs f (p.rules.xs.getD x.rule.toNat default) x.vars).1 = true then repL p xs (k + 1) (addL p.preds.xs f (holdsF p.preds.xs f (p.rules.xs.getD x.rule.toNat default) x.vars).2)
        else (([], k), 1)
      else (([], k), 3)
    else (([], k), 7)
noncomputable def replayOf (p : Prg) (xs : List Stp) : (List Fct × Nat) × Int := if checkProg p ≠ 0 then (([], 0), checkProg p) else if 4096 < xs.length then (([], 0), 2) else repL p xs 0 []
theorem repL_app {p : Prg} : ∀ {xs ys : List Stp} {k m : Nat} {f g : List Fct}, repL p xs k f = ((g, m), 0) → repL p (xs ++ ys) k f = repL p ys m g
  | [], ys, k, m, f, g, h => by
    rw [repL] at h
    injection h with h _
    injection h with h1 h2
    subst h1; subst h2; rfl
  | x :: xs, ys, k, m, f, g, h => by
    rw [List.cons_append, repL]
    rw [repL] at h
    split at h
    · split at h
      · split at h
        · rename_i h1 h2 h3
          rw [if_pos h1, if_pos h2, if_pos h3]
          exact repL_app h
        · injection h with _ h; cases h
      · injection h with _ h; cases h
    · injection h with _ h; cases h
/-! ### One step behind the other -/
structure Fires (p : Prg) (M : List Int) (st : Int) (f : List Fct) (n : Nat) (r : Rul) (x : Stp) : Prop where
  rule : p.rules.xs[n]? = some r
  lev : lv M r.head.pred = st
  num : x.rule = n
  vs : VsOk x.vars
  std : stdOk r x.vars = true
  holds : holdsB f r x.vars = true
inductive TSteps (p : Prg) (M : List Int) (st : Int) (s0 : TrS) : TrS → Prop
  | refl : TSteps p M st s0 s0
  | next {s : TrS} {n : Nat} {r : Rul} {x : Stp} (h : TSteps p M st s0 s) (hf : Fires p M st s.1 n r x) : TSteps p M st s0 (trStep p.preds.xs r s x)
theorem TSteps.trans {p : Prg} {M : List Int} {st : Int} {s0 s1 s2 : TrS} (h : TSteps p M st s0 s1) (h2 : TSteps p M st s1 s2) : TSteps p M st s0 s2 := by
  induction h2 with
  | refl => exact h
  | next _ hf ih => exact ih.next hf
structure TG (p : Prg) (M : List Int) (st : Int) (f0 f : List Fct) : Prop where
  fok : FOk p.preds.xs f
  up : underF p.preds.xs f0 f = true
  off : SameLv M (· ≠ st) f0 f
theorem same_off {M : List Int} {st : Int} {f g : List Fct} (h : SameLv M (· ≠ st) f g) : SameLv M (· < st) f g := fun y hy hl => h y hy (by omega)
theorem same_trans {M : List Int} {P : Int → Prop} {f g k : List Fct} (h : SameLv M P f g) (h2 : SameLv M P g k) : SameLv M P f k := fun y hy hl => (h y hy hl).trans (h2 y hy hl)
def ClosedAt (p : Prg) (M : List Int) (st : Int) (b : List Fct) : Prop := ∀ t ∈ toldL p.preds.xs b p.rules.xs (ofQ p M st), underF p.preds.xs [t.2] b = true
section
variable {p : Prg} {M : List Int} (rk : ∀ r ∈ p.rules.xs, ROk p.preds.xs r) (hM : Sol (usesL p.rules.xs) p.preds.xs.length M)
theorem fires_steps {st : Int} {f : List Fct} {n : Nat} {r : Rul} {x : Stp} (hr : p.rules.xs[n]? = some r) (hl : lv M r.head.pred = st) (hx : x ∈ stepsF f n r) : Fires p M st f n r x := by
  obtain ⟨h1, h2, h3⟩ := steps_holds hx
  unfold stepsF at hx
  obtain ⟨v, hv, e⟩ := List.mem_map.1 hx
  obtain ⟨_, w2⟩ := List.mem_filter.1 hv
  rw [Bool.and_eq_true] at w2
  exact ⟨hr, hl, h1, h2, by rw [← e]; exact w2.1, h3⟩
theorem fires_told {st : Int} {f : List Fct} {n : Nat} {r : Rul} {x : Stp} (h : Fires p M st f n r x) : (x, headF p.preds.xs f r x.vars) ∈ toldL p.preds.xs f p.rules.xs (ofQ p M st) := by
  refine mem_told.2 ⟨n, r, h.rule, (ofQ_iff h.rule).2 h.lev, ?_, rfl⟩
  unfold stepsF
  refine List.mem_map.2 ⟨x.vars, List.mem_filter.2 ⟨mem_vecs.2 h.vs, by rw [h.std, h.holds]; rfl⟩, ?_⟩
  have := h.num
  obtain ⟨a, b⟩ := x
  dsimp only at this ⊢
  rw [this]
include rk
theorem fires_fine {st : Int} {f : List Fct} (okf : FOk p.preds.xs f) {n : Nat} {r : Rul} {x : Stp} (h : Fires p M st f n r x) : factFine p.preds.xs (headF p.preds.xs f r x.vars) = true := headF_fine (rk r (List.mem_of_getElem? h.rule)) okf h.vs h.holds
theorem tg_step {st : Int} {f0 : List Fct} {s : TrS} (ok0 : FOk p.preds.xs f0) (g : TG p M st f0 s.1) {n : Nat} {r : Rul} {x : Stp} (h : Fires p M st s.1 n r x) : TG p M st f0 (trStep p.preds.xs r s x).1 := by
  have hf := fires_fine rk g.fok h
  unfold trStep trPut
  split
  · refine ⟨addF_fok g.fok hf, under_trans ok0 g.fok (addF_fok g.fok hf) g.up (under_add g.fok hf), fun y hy hl => ?_⟩
    rw [g.off y hy hl]
    show _ = lkF (addL p.preds.xs s.1 (headF p.preds.xs s.1 r x.vars)) (placeF y)
    rw [lkF_addL g.fok, if_neg]
    intro e
    have := (hy.inj (fine_pf g.fok.len hf) e).1
    exact hl (by rw [this]; exact h.lev)
  · exact g
theorem tsteps_tg {st : Int} {s0 s : TrS} (ok0 : FOk p.preds.xs s0.1) (h : TSteps p M st s0 s) : TG p M st s0.1 s.1 := by
  induction h with
  | refl => exact ⟨ok0, under_refl ok0, fun _ _ _ => rfl⟩
  | next _ hf ih => exact tg_step rk ok0 ih hf
include hM
/-- A step that holds goes on to hold. -/
theorem fires_up {st : Int} {f0 f : List Fct} (g : TG p M st f0 f) {n : Nat} {r : Rul} {x : Stp} (h : Fires p M st f0 n r x) : Fires p M st f n r x :=
  ⟨h.rule, h.lev, h.num, h.vs, h.std, holds_next rk hM g.up (same_off g.off) (List.mem_of_getElem? h.rule) (Int.le_of_eq h.lev) h.vs h.holds⟩
theorem trL_steps {st : Int} {n : Nat} {r : Rul} (hr : p.rules.xs[n]? = some r) (hl : lv M r.head.pred = st) {s0 : TrS} (ok0 : FOk p.preds.xs s0.1) : ∀ (xs : List Stp) (s : TrS), (∀ x ∈ xs, x ∈ stepsF s0.1 n r) → TSteps p M st s0 s → TSteps p M st s0 (trL p.preds.xs r xs s)
  | [], _, _, h => h
  | x :: xs, _, hx, h => trL_steps hr hl ok0 xs _ (fun y hy => hx y (List.mem_cons_of_mem _ hy)) (h.next (fires_up rk hM (tsteps_tg rk ok0 h) (fires_steps hr hl (hx x List.mem_cons_self))))
theorem trK_steps {st : Int} {s0 : TrS} (ok0 : FOk p.preds.xs s0.1) : ∀ k, k ≤ p.rules.xs.length → TSteps p M st s0 (trK p (ofQ p M st) s0 k)
  | 0, _ => .refl
  | k + 1, hk => by
    have ih := trK_steps (st := st) ok0 k (by omega)
    rw [trK]
    split
    · rename_i hq
      have hr : p.rules.xs[k]? = some p.rules.xs[k] := List.getElem?_eq_getElem (by omega)
      have hg : p.rules.xs.getD k default = p.rules.xs[k] := by rw [List.getD_eq_getElem?_getD, hr]; rfl
      unfold trRule
      rw [hg]
      exact ih.trans (trL_steps rk hM hr ((ofQ_iff hr).1 hq) (tsteps_tg rk ok0 ih).fok _ _ (fun x hx => hx) .refl)
    · exact ih
theorem tclo_steps {st : Int} {s0 s : TrS} (h : TClo (trPass p (ofQ p M st)) s0 s) : FOk p.preds.xs s0.1 → TSteps p M st s0 s ∧ ClosedAt p M st s.1 := by
  induction h with
  | @stop s g hg h =>
    intro ok0
    have hs := trK_steps rk hM (st := st) ok0 _ (Nat.le_refl _)
    rw [show trK p (ofQ p M st) s p.rules.xs.length = g from hg] at hs
    refine ⟨hs, ?_⟩
    obtain ⟨e, i⟩ := trK_same (p := p) (q := ofQ p M st) (s := s) p.rules.xs.length (by rw [show trK p (ofQ p M st) s p.rules.xs.length = g from hg]; exact h)
    rw [show trK p (ofQ p M st) s p.rules.xs.length = g from hg] at e
    subst e
    intro t ht
    obtain ⟨n, r, hr, hq, hst, he⟩ := mem_told.1 ht
    have hgd : p.rules.xs.getD n default = r := by rw [List.getD_eq_getElem?_getD, hr]; rfl
    have := i n (List.getElem?_eq_some_iff.1 hr).1 hq t.1 (by rw [hgd]; exact hst)
    rw [hgd, ← he] at this
    have hfine := told_fine rk ok0 t ht
    have hp : t.2.pred = r.head.pred := by rw [he]; rfl
    rw [← hp] at this
    have h1 := under_one ok0 hfine
    rwa [show addL p.preds.xs g.1 t.2 = g.1 from addF_same this] at h1
  | @step s g r hg h c ih =>
    intro ok0
    have hs := trK_steps rk hM (st := st) ok0 _ (Nat.le_refl _)
    rw [show trK p (ofQ p M st) s p.rules.xs.length = g from hg] at hs
    obtain ⟨i1, i2⟩ := ih (tsteps_tg rk ok0 hs).fok
    exact ⟨hs.trans i1, i2⟩
/-- What a step tells is under all that is closed and above. -/
theorem fires_under {st : Int} {f b : List Fct} (okf : FOk p.preds.xs f) (okb : FOk p.preds.xs b) (hu : underF p.preds.xs f b = true) (hs : SameLv M (· < st) f b) (hc : ClosedAt p M st b) {n : Nat} {r : Rul} {x : Stp} (h : Fires p M st f n r x) : underF p.preds.xs [headF p.preds.xs f r x.vars] b = true := by
  have hrm := List.mem_of_getElem? h.rule
  have hb := holds_next rk hM hu hs hrm (Int.le_of_eq h.lev) h.vs h.holds
  have hB : Fires p M st b n r x := ⟨h.rule, h.lev, h.num, h.vs, h.std, hb⟩
  have h1 := hc _ (fires_told hB)
  have f1 := fires_fine rk okf h
  have f2 := fires_fine rk okb hB
  refine under_trans (fok_one okf.len okf.preds f1) (fok_one okf.len okf.preds f2) okb (underF_iff.2 fun y hy => ?_) h1
  rw [List.mem_singleton.1 hy]
  exact ⟨_, lkF_sing _ _ rfl, headV_le (rk r hrm) okf okb h.vs hu h.holds⟩
theorem tsteps_least {st : Int} {s0 s : TrS} {b : List Fct} (ok0 : FOk p.preds.xs s0.1) (okb : FOk p.preds.xs b) (hu : underF p.preds.xs s0.1 b = true) (hs : SameLv M (· < st) s0.1 b) (hc : ClosedAt p M st b) (h : TSteps p M st s0 s) : underF p.preds.xs s.1 b = true := by
  induction h with
  | refl => exact hu
  | @next s n r x h hf ih =>
    have g := tsteps_tg rk ok0 h
    have hb := fires_under rk hM g.fok okb ih (same_trans (same_symm (same_off g.off)) hs) hc hf
    unfold trStep trPut
    split
    · exact add_least g.fok okb (fires_fine rk g.fok hf) ih hb
    · exact ih
structure CloL (p : Prg) (M : List Int) (st : Int) (f0 f : List Fct) : Prop where
  tg : TG p M st f0 f
  least : ∀ b, FOk p.preds.xs b → underF p.preds.xs f0 b = true → SameLv M (· < st) f0 b → ClosedAt p M st b → underF p.preds.xs f b = true
theorem clo_least {st : Int} {f0 f : List Fct} {n : Nat} (h : Clo (turnT p M st) f0 f n) (ok0 : FOk p.preds.xs f0) : CloL p M st f0 f ∧ ClosedAt p M st f := by
  have j : CloL p M st f0 f := by
    refine h.inv (J := CloL p M st f0) ⟨⟨ok0, under_refl ok0, fun _ _ _ => rfl⟩, fun b _ hu _ _ => hu⟩ fun g j _ => ?_
    have tg := told_fine (q := ofQ p M st) rk j.tg.fok
    have okg : FOk p.preds.xs (turnT p M st g).1 := turn_fok j.tg.fok tg
    refine ⟨⟨okg, under_trans ok0 j.tg.fok okg j.tg.up (turn_above j.tg.fok tg), same_trans j.tg.off fun y hy hl => (run_off hy hl _ (g, false) j.tg.fok tg (told_lv (p := p) (M := M) (f := g) (s := st))).symm⟩, fun b okb hu hs hc => ?_⟩
    have hgb := j.least b okb hu hs hc
    refine run_least okb _ (g, false) j.tg.fok tg hgb fun t ht => ?_
    obtain ⟨n, r, hr, hq, hst, he⟩ := mem_told.1 ht
    rw [he]
    exact fires_under rk hM j.tg.fok okb hgb (same_trans (same_symm (same_off j.tg.off)) hs) hc (fires_steps hr ((ofQ_iff hr).1 hq) hst)
  exact ⟨j, (turn_no j.tg.fok (told_fine (q := ofQ p M st) rk j.tg.fok)).1 h.end_⟩
omit hM rk in
theorem rep_one {st : Int} {f : List Fct} {n : Nat} {r : Rul} {x : Stp} (k : Nat) (h : Fires p M st f n r x) : repL p [x] k f = ((addL p.preds.xs f (headF p.preds.xs f r x.vars), k + 1), 0) := by
  have hlt := (List.getElem?_eq_some_iff.1 h.rule).1
  have hgd : p.rules.xs.getD x.rule.toNat default = r := by rw [h.num, Int.toNat_natCast, List.getD_eq_getElem?_getD, h.rule]; rfl
  have hh : holdsF p.preds.xs f r x.vars = (true, headF p.preds.xs f r x.vars) := by unfold holdsF; rw [if_pos h.holds]
  rw [repL, hgd, hh, if_pos (by have := h.num; omega), if_pos (vsB_iff.2 h.vs), if_pos rfl, repL]
structure TR (p : Prg) (s : TrS) : Prop where
  len : s.1.length ≤ s.2.length
  fok : FOk p.preds.xs s.1
  pre : ∀ k, k ≤ s.2.length → ∃ f, repL p (s.2.take k) 0 [] = ((f, k), 0) ∧ FOk p.preds.xs f ∧ underF p.preds.xs f s.1 = true
  all : repL p s.2 0 [] = ((s.1, s.2.length), 0)
omit hM in
theorem tr_steps {st : Int} {s0 s : TrS} (j0 : TR p s0) (h : TSteps p M st s0 s) : TR p s := by
  induction h with
  | refl => exact j0
  | @next s n r x h hf ih =>
    have g := tsteps_tg rk j0.fok h
    have hfine := fires_fine rk g.fok hf
    unfold trStep trPut
    split
    · have okA : FOk p.preds.xs (addL p.preds.xs s.1 (headF p.preds.xs s.1 r x.vars)) := addF_fok g.fok hfine
      have hup : underF p.preds.xs s.1 (addL p.preds.xs s.1 (headF p.preds.xs s.1 r x.vars)) = true := under_add g.fok hfine
      have hall : repL p (s.2 ++ [x]) 0 [] = ((addL p.preds.xs s.1 (headF p.preds.xs s.1 r x.vars), s.2.length + 1), 0) := by rw [repL_app ih.all, rep_one _ hf]
      refine ⟨?_, okA, fun k hk => ?_, ?_⟩
      · have h1 : (addF (predOf p.preds.xs (headF p.preds.xs s.1 r x.vars).pred).kind s.1 (headF p.preds.xs s.1 r x.vars)).1.length ≤ s.1.length + 1 := addF_len.1
        have h2 := ih.len
        rw [List.length_append, List.length_singleton]
        exact Nat.le_trans h1 (by omega)
      · rw [List.length_append, List.length_singleton] at hk
        by_cases hl : k ≤ s.2.length
        · obtain ⟨f, e1, e2, e3⟩ := ih.pre k hl
          exact ⟨f, by rw [List.take_append_of_le_length hl]; exact e1, e2, under_trans e2 g.fok okA e3 hup⟩
        · obtain rfl : k = s.2.length + 1 := by omega
          exact ⟨_, by rw [List.take_of_length_le (by simp)]; exact hall, okA, under_refl okA⟩
      · rw [List.length_append, List.length_singleton]; exact hall
    · exact ih
theorem traK_modK (h0 : FOk p.preds.xs []) : ∀ {k : Nat} {s : TrS} {f : List Fct} {rs : List Int}, TraK p M k s → ModK p M k f rs → s.1 = f ∧ TR p s
  | 0, s, f, rs, h1, ⟨h2, _⟩ => by
    rw [h1, h2]
    exact ⟨rfl, Nat.le_refl _, h0, fun k hk => ⟨[], by rw [Nat.le_zero.1 hk]; rfl, h0, rfl⟩, rfl⟩
  | k + 1, s, f, rs, ⟨s0, a, c⟩, ⟨f0, r0, n, a', c', _⟩ => by
    obtain ⟨e, tr0⟩ := traK_modK h0 a a'
    obtain ⟨ts, hc⟩ := tclo_steps rk hM c tr0.fok
    obtain ⟨cl, hc'⟩ := clo_least rk hM (e ▸ c') tr0.fok
    have g := tsteps_tg rk tr0.fok ts
    refine ⟨under_anti g.fok cl.tg.fok (tsteps_least rk hM tr0.fok cl.tg.fok cl.tg.up (same_off cl.tg.off) hc' ts) (cl.least s.1 g.fok g.up (same_off g.off) hc), tr_steps rk tr0 ts⟩
end
/-! ### What is replayed follows -/
def nrmV (r : Rul) (x : Vrs) : Vrs := ⟨if standsR r 0 = true then x.x0 else 0, if standsR r 1 = true then x.x1 else 0, if standsR r 2 = true then x.x2 else 0⟩
theorem nrm_at {r : Rul} {x : Vrs} {v : Int} (hv : 0 ≤ v ∧ v < 3) (hs : standsR r v = true) : (nrmV r x).at v = x.at v := by
  have : v = 0 ∨ v = 1 ∨ v = 2 := by omega
  rcases this with rfl | rfl | rfl <;> simp [Vrs.at, nrmV, hs]
theorem nrm_std (r : Rul) (x : Vrs) : stdOk r (nrmV r x) = true := by
  unfold stdOk nrmV
  cases standsR r 0 <;> cases standsR r 1 <;> cases standsR r 2 <;> simp
theorem nrm_ok {r : Rul} {x : Vrs} (h : VsOk x) : VsOk (nrmV r x) := by
  have h0 := h.h0; have h1 := h.h1; have h2 := h.h2
  refine ⟨?_, ?_, ?_⟩ <;> simp only [nrmV] <;> split <;> omega
theorem nrm_argv {l : List Prd} {r : Rul} {a : Atm} {x : Vrs} (ao : AOk l a) (hs : ∀ t ∈ a.args.xs, t.var = true → standsR r t.n = true) (i : Nat) : argv a (nrmV r x) i = argv a x i := by
  by_cases hi : i < a.args.xs.length
  · rw [argv_get hi, argv_get hi]
    unfold tv
    split
    · rename_i hv
      exact nrm_at (ao.var (List.getElem_mem hi) hv) (hs _ (List.getElem_mem hi) hv)
    · rfl
  · rw [argv_none (by omega), argv_none (by omega)]
theorem stands_head {r : Rul} : ∀ t ∈ r.head.args.xs, t.var = true → standsR r t.n = true := fun t ht hv => by
  unfold standsR; rw [Bool.or_eq_true]; exact .inl (stands_mem ht hv)
theorem stands_body {r : Rul} {u : Ltl} (hu : u ∈ r.body.xs) : ∀ t ∈ u.atom.args.xs, t.var = true → standsR r t.n = true := fun t ht hv => by
  unfold standsR; rw [Bool.or_eq_true]; exact .inr (List.any_eq_true.2 ⟨u, hu, stands_mem ht hv⟩)
theorem nrm_ground {l : List Prd} {r : Rul} (ok : ROk l r) {u : Ltl} (hu : u ∈ r.body.xs) (x : Vrs) : groundF u.atom (nrmV r x) = groundF u.atom x := by
  have ao := aok_of ok.preds (ok.body u hu)
  unfold groundF
  rw [nrm_argv ao (stands_body hu), nrm_argv ao (stands_body hu)]
theorem nrm_holds {l : List Prd} {f : List Fct} {r : Rul} (ok : ROk l r) (x : Vrs) : holdsB f r (nrmV r x) = holdsB f r x ∧ headF l f r (nrmV r x) = headF l f r x := by
  constructor
  · unfold holdsB
    have key : ∀ u ∈ r.body.xs, litOk f (nrmV r x) u = litOk f x u := fun u hu => by unfold litOk; rw [nrm_ground ok hu]
    rw [Bool.eq_iff_iff, List.all_eq_true, List.all_eq_true]
    exact ⟨fun h u hu => (key u hu) ▸ h u hu, fun h u hu => (key u hu).symm ▸ h u hu⟩
  · have ao := aok_of ok.preds ok.head
    unfold headF headV
    rw [nrm_argv ao stands_head, nrm_argv ao stands_head]
    by_cases h0 : 0 ≤ r.src
    · rw [if_pos h0, if_pos h0, nrm_ground ok (litOf_mem ⟨h0, ok.src.2⟩)]
    · rw [if_neg h0, if_neg h0]
theorem rep_fok {p : Prg} (rk : ∀ r ∈ p.rules.xs, ROk p.preds.xs r) : ∀ {xs : List Stp} {k m : Nat} {f g : List Fct}, FOk p.preds.xs f → repL p xs k f = ((g, m), 0) → FOk p.preds.xs g
  | [], k, m, f, g, okf, h => by
    rw [repL] at h; injection h with h _; injection h with h _; rw [← h]; exact okf
  | x :: xs, k, m, f, g, okf, h => by
    rw [repL] at h
    split at h
    · rename_i h1
      split at h
      · rename_i h2
        split at h
        · rename_i h3
          have hlt : x.rule.toNat < p.rules.xs.length := by omega
          have hgd : p.rules.xs.getD x.rule.toNat default = p.rules.xs[x.rule.toNat] := by rw [List.getD_eq_getElem?_getD, List.getElem?_eq_getElem hlt]; rfl
          rw [hgd] at h h3
          have hb : holdsB f p.rules.xs[x.rule.toNat] x.vars = true := by unfold holdsF at h3; split at h3 <;> first | assumption | cases h3
          have hh : holdsF p.preds.xs f p.rules.xs[x.rule.toNat] x.vars = (true, headF p.preds.xs f p.rules.xs[x.rule.toNat] x.vars) := by unfold holdsF; rw [if_pos hb]
          rw [hh] at h
          exact rep_fok rk (addF_fok okf (headF_fine (rk _ (List.getElem_mem hlt)) okf (vsB_iff.1 h2) hb)) h
        · injection h with _ h; cases h
      · injection h with _ h; cases h
    · injection h with _ h; cases h
theorem rep_sound {p : Prg} (rk : ∀ r ∈ p.rules.xs, ROk p.preds.xs r) {b : List Fct} (okb : FOk p.preds.xs b) (hpos : p.rules.xs.all posR = true) (hcl : ∀ t ∈ toldL p.preds.xs b p.rules.xs fun _ => true, underF p.preds.xs [t.2] b = true) : ∀ {xs : List Stp} {k m : Nat} {f g : List Fct}, FOk p.preds.xs f → underF p.preds.xs f b = true → repL p xs k f = ((g, m), 0) → underF p.preds.xs g b = true
  | [], k, m, f, g, _, hu, h => by
    rw [repL] at h; injection h with h _; injection h with h _; rw [← h]; exact hu
  | x :: xs, k, m, f, g, okf, hu, h => by
    rw [repL] at h
    split at h
    · rename_i h1
      split at h
      · rename_i h2
        split at h
        · rename_i h3
          have hlt : x.rule.toNat < p.rules.xs.length := by omega
          have hr : p.rules.xs[x.rule.toNat]? = some p.rules.xs[x.rule.toNat] := List.getElem?_eq_getElem hlt
          have hgd : p.rules.xs.getD x.rule.toNat default = p.rules.xs[x.rule.toNat] := by rw [List.getD_eq_getElem?_getD, hr]; rfl
          rw [hgd] at h h3
          generalize p.rules.xs[x.rule.toNat] = r at *
          have hrm := List.mem_of_getElem? hr
          have ok := rk r hrm
          have hv := vsB_iff.1 h2
          have hb : holdsB f r x.vars = true := by unfold holdsF at h3; split at h3 <;> first | assumption | cases h3
          have hh : holdsF p.preds.xs f r x.vars = (true, headF p.preds.xs f r x.vars) := by unfold holdsF; rw [if_pos hb]
          rw [hh] at h
          have hfine := headF_fine ok okf hv hb
          refine rep_sound rk okb hpos hcl (addF_fok okf hfine) (add_least okf okb hfine hu ?_) h
          have hbb := holdsB_up hu (List.all_eq_true.1 hpos r hrm) hb
          obtain ⟨n1, n2⟩ := nrm_holds (f := b) ok x.vars
          have hmem : ((⟨(x.rule.toNat : Int), nrmV r x.vars⟩ : Stp), headF p.preds.xs b r x.vars) ∈ toldL p.preds.xs b p.rules.xs fun _ => true := by
            refine mem_told.2 ⟨x.rule.toNat, r, hr, rfl, ?_, n2.symm⟩
            unfold stepsF
            exact List.mem_map.2 ⟨nrmV r x.vars, List.mem_filter.2 ⟨mem_vecs.2 (nrm_ok hv), by rw [nrm_std, n1, hbb]; rfl⟩, rfl⟩
          have h4 := hcl _ hmem
          have f2 := headF_fine ok okb hv hbb
          refine under_trans (fok_one okf.len okf.preds hfine) (fok_one okf.len okf.preds f2) okb (underF_iff.2 fun y hy => ?_) h4
          rw [List.mem_singleton.1 hy]
          exact ⟨_, lkF_sing _ _ rfl, headV_le ok okf okb hv hu hb⟩
        · injection h with _ h; cases h
      · injection h with _ h; cases h
    · injection h with _ h; cases h
end Go.TF
end
section
/- The roads' trace, and a replay of the roads. -/
namespace Go.TF
open Go Go.RowKit Go.Proofs
set_option maxRecDepth 20000

def trcF (T : TrS → TrS) : Nat → TrS → Option TrS
  | 0, _ => none
  | k + 1, s => if (T s).2.length = s.2.length then some (T s) else trcF T k (T s)
theorem trcF_clo {T : TrS → TrS} : ∀ {k : Nat} {s r : TrS}, trcF T k s = some r → TClo T s r
  | 0, _, _, h => by cases h
  | k + 1, s, r, h => by
    rw [trcF] at h
    split at h
    · rename_i h2
      injection h with h
      exact .stop h (by rw [← h]; exact h2)
    · rename_i h2
      exact .step rfl h2 (trcF_clo h)
theorem trStep_er (l : List Prd) (r : Rul) : trStep l r.er = trStep l r := by
  funext s x
  unfold trStep
  rw [headF_er]
theorem trRule_er {p q : Prg} {n : Nat} (hp : p.preds.xs = q.preds.xs) (hr : (p.rules.xs.getD n default).er = q.rules.xs.getD n default) (s : TrS) : trRule p n s = trRule q n s := by
  unfold trRule trL
  rw [← hr, hp, trStep_er, stepsF_er]
theorem trK_congr {p q : Prg} {o o' : Nat → Bool} {s : TrS} : ∀ {k : Nat}, (∀ n, n < k → o n = o' n) → (∀ n s, n < k → trRule p n s = trRule q n s) → trK p o s k = trK q o' s k
  | 0, _, _ => rfl
  | k + 1, h1, h2 => by
    have ih := trK_congr (p := p) (q := q) (s := s) (fun n hn => h1 n (Nat.lt_succ_of_lt hn)) fun n s hn => h2 n s (Nat.lt_succ_of_lt hn)
    rw [trK, trK, h1 k (Nat.lt_succ_self k), ih, h2 k _ (Nat.lt_succ_self k)]
def rdT0 : TrS := (trcF (trPass roadsC (ofQ roadsC [0, 0, 1] 0)) 8 ([], [])).getD ([], [])
def rdT : TrS := (trcF (trPass roadsC (ofQ roadsC [0, 0, 1] 1)) 8 rdT0).getD ([], [])
theorem rdT0_clo : trcF (trPass roadsC (ofQ roadsC [0, 0, 1] 0)) 8 ([], []) = some rdT0 := by kernel_rfl
theorem rdT_clo : trcF (trPass roadsC (ofQ roadsC [0, 0, 1] 1)) 8 rdT0 = some rdT := by kernel_rfl
theorem rdT_len : rdT.2.length = 17 := by kernel_rfl
def bad2 : List Stp := [⟨0, ⟨0, 0, 0⟩⟩, ⟨5, ⟨0, 0, 0⟩⟩]
theorem rdBad : repL roadsC bad2 0 [] = (([], 1), 1) := by kernel_rfl
theorem repL_er {p q : Prg} (hp : p.preds.xs = q.preds.xs) (hr : p.rules.xs.map Rul.er = q.rules.xs) : ∀ (xs : List Stp) (k : Nat) (f : List Fct), repL p xs k f = repL q xs k f
  | [], _, _ => rfl
  | x :: xs, k, f => by
    have hl : q.rules.xs.length = p.rules.xs.length := by rw [← hr, List.length_map]
    have hg : (p.rules.xs.getD x.rule.toNat default).er = q.rules.xs.getD x.rule.toNat default := by
      rw [← hr, List.getD_eq_getElem?_getD, List.getD_eq_getElem?_getD, List.getElem?_map]
      cases p.rules.xs[x.rule.toNat]? <;> rfl
    rw [repL, repL, hl, ← hp, ← hg, holdsF_er]
    split
    · split
      · split
        · exact repL_er hp hr xs _ _
        · rfl
      · rfl
    · rfl
section
variable {p : Prg} {h : Heap} (hp : RoadsAt p h)
include hp
theorem rd_trPass (st : Int) (s : TrS) : trPass p (ofQ p [0, 0, 1] st) s = trPass roadsC (ofQ roadsC [0, 0, 1] st) s := by
  unfold trPass
  rw [rd_len hp]
  exact trK_congr (fun n hn => rd_ofQs hp st n hn) fun n s _ => trRule_er (rd_preds hp) (rd_getR hp n) s
theorem rd_traK : TraK p (strataM p) (numS (strataM p)) rdT := by
  rw [rd_strata hp, show numS [0, 0, 1] = 2 by decide]
  have e : ∀ st, trPass p (ofQ p [0, 0, 1] st) = trPass roadsC (ofQ roadsC [0, 0, 1] st) := fun st => funext fun s => rd_trPass hp st s
  refine ⟨rdT0, ⟨([], []), rfl, ?_⟩, ?_⟩
  · have := trcF_clo rdT0_clo; rw [← e] at this; exact this
  · have := trcF_clo rdT_clo; rw [← e] at this; exact this
theorem rd_bad : replayOf p bad2 = (([], 1), 1) := by
  unfold replayOf
  rw [if_neg (fun h => h hp.check), if_neg (by decide), repL_er (rd_preds hp) (rd_rules hp)]
  exact rdBad
theorem rd_rep : replayOf p rdT.2 = ((rdM, 17), 0) := by
  have hck := hp.check
  obtain ⟨e, tr⟩ := traK_modK (chk_rok hck) (strataM_least hck).sol (chk_nil hck) (rd_traK hp) (rd_mod hp)
  unfold replayOf
  rw [if_neg (fun h => h hck), if_neg (by rw [rdT_len]; decide), tr.all, e, rdT_len]
end
end Go.TF
end
section
/- What is owned read by a call as if known for good; boxes taken back; elements of an owned slice. -/
namespace Go.TF
open Go Go.RowKit Go.Proofs

section
variable {P : Program} {e : Env} {w : World} {B : Base} {h : Heap} {M : List SA} {t : TypeId} {pos : String} {af : Array Edge} {g : Option (Nat × Bool)} {d : Option Nat} {K : Value → World → Prop}
end
section
variable {P : Program} {N : Nat} {D : List Deferred} {e : Env} {w : World} {Q : Exit → Env → World → List Deferred → Prop}
theorem WPD.cond_decT {c : Operand} {x y : Code} {p : Prop} [Decidable p] (hc : ev e c = .bool (decide p)) (hp : p) (ht : WPD P N D x e w Q) : WPD P N D (.cond c x y) e w Q :=
  WPD.cond_dec hc (fun _ => ht) (fun h => (h hp).elim)
theorem WPD.cond_decF {c : Operand} {x y : Code} {p : Prop} [Decidable p] (hc : ev e c = .bool (decide p)) (hp : ¬p) (hf : WPD P N D y e w Q) : WPD P N D (.cond c x y) e w Q :=
  WPD.cond_dec hc (fun h => (hp h).elim) (fun _ => hf)
theorem WPD.regionF {id : Nat} {ops : Array Oper} {B : Base} {h : Heap} {M : List SA} (hm : Mixed P) (I : Inv B h M w) (m : Nat) (hB : flowB ops m = true)
    (k : OpsF P ops B M h [] (ops.toList.take m) e (fun L e' => ∀ h1 w1, h.le h1 → Inv B h1 M w1 → AllL (fun _ => true) h1 L e' fun e'' => Ops P ops (ops.toList.drop m) e'' w1 (fun e3 w3 => Q .normal e3 w3 D))) : WPD P N D (.region id ops true) e w Q := WPD.of (WP.regionF hm I m hB k)
theorem WPD.cutK {x : Code} {K : Env → World → List Deferred → Prop} {σ : Type} (kv : σ → List (Nat × Value)) (J : σ → World → Prop) (Df : σ → List Deferred)
    (hx : WPD P N D x e w (thenD (fun e' w' D' => ∃ s, Has e' (kv s) ∧ D' = Df s ∧ J s w') Q)) (hy : ∀ s e' w', J s w' → K (E e' (kv s)) w' (Df s)) : WPD P N D x e w (thenD K Q) := by
  refine hx.mono ?_
  intro x e' w' D' h
  cases x <;> first | exact h | skip
  obtain ⟨s, h1, rfl, h2⟩ := h
  have := hy s e' w' h2
  rwa [E_self h1] at this
end
section
variable {α : Type} {p : α → Bool} {xs : List α}
end
end Go.TF
end
section
/- A region in which a slice is made, and then turned into another, while what is loaded may be loaded ahead or behind. -/
namespace Go.TF
open Go Go.RowKit

structure DlS where
  h : Heap
  o2 : Option Value
  o4 : Option Value
def pcD (T k n m : Nat) (c2 c4 : List Value) (o2 o4 : Option Value) : List SA := match o4 with
  | some v => [ownSl T k v m c4]
  | none => match o2 with
    | some v => [ownSl T k v n c2]
    | none => []
structure JDl (B : Base) (M : List SA) (T k n m : Nat) (c2 c4 : List Value) (i2 i4 : Nat) (D : Nat → Bool) (s : DlS) (w : World) : Prop where
  h2 : s.o2.isSome = D i2
  h4 : s.o4.isSome = D i4
  ord : D i4 = true → D i2 = true
  inv : Inv B s.h (pcD T k n m c2 c4 s.o2 s.o4 ++ M) w
structure RDl (s s' : DlS) : Prop where
  h : s.h.le s'.h
  h2 : ∀ v, s.o2 = some v → s'.o2 = some v
  h4 : ∀ v, s.o4 = some v → s'.o4 = some v
theorem RDl.pre : Pre RDl := ⟨fun _ => ⟨Heap.le.refl _, fun _ h => h, fun _ h => h⟩, fun _ _ _ h k => ⟨h.h.trans k.h, fun b e => k.h2 b (h.h2 b e), fun b e => k.h4 b (h.h4 b e)⟩⟩
def AtD2 (u : Value) (s : DlS) : Prop := s.o2 = some u
def AtD4 (u : Value) (s : DlS) : Prop := s.o4 = some u
theorem AtD2.mono : MonoG RDl AtD2 := fun _ _ _ r h => r.h2 _ h
theorem AtD4.mono : MonoG RDl AtD4 := fun _ _ _ r h => r.h4 _ h
section
variable {P : Program} {o : Oper} {e : Env} {B : Base} {M : List SA} {T k n m : Nat} {c2 c4 : List Value} {i2 i4 i : Nat} {D : Nat → Bool} {s : DlS} {w : World}
theorem JDl.base (j : JDl B M T k n m c2 c4 i2 i4 D s w) : Inv B s.h M w := j.inv.weak (List.sublist_append_right _ _)
theorem JDl.set (h : i2 ≠ i ∧ i4 ≠ i) : ∀ D s w, JDl B M T k n m c2 c4 i2 i4 D s w → JDl B M T k n m c2 c4 i2 i4 (setD D i) s w := fun D s w j => by
  have e : ∀ x, x ≠ i → setD D i x = D x := fun x hx => by simp [setD, hx]
  exact ⟨by rw [e _ h.1]; exact j.h2, by rw [e _ h.2]; exact j.h4, by rw [e _ h.1, e _ h.2]; exact j.ord, j.inv⟩
theorem JDl.first (j : JDl B M T k n m c2 c4 i2 i4 D s w) (hD : D i2 = false) (h24 : i4 ≠ i2) (hop : Inv B s.h M w → Op1 P o e w fun u w' => ∃ h', s.h.le h' ∧ Inv B h' (ownSl T k u n c2 :: M) w') :
    Op1 P o e w fun u w' => ∃ s', RDl s s' ∧ JDl B M T k n m c2 c4 i2 i4 (setD D i2) s' w' ∧ AtD2 u s' := by
  have h2 : s.o2 = none := by have := j.h2; rw [hD] at this; cases h : s.o2 <;> simp_all
  have hD4 : D i4 = false := by
    cases h : D i4
    · rfl
    · rw [j.ord h] at hD; cases hD
  have h4 : s.o4 = none := by have := j.h4; rw [hD4] at this; cases h : s.o4 <;> simp_all
  refine (hop j.base).mono fun u w' ⟨h', hl, I⟩ => ⟨⟨h', some u, none⟩, ⟨hl, fun v hv => (by rw [h2] at hv; cases hv), fun v hv => (by rw [h4] at hv; cases hv)⟩, ⟨?_, ?_, fun hh => ?_, I⟩, rfl⟩
  · simp [setD]
  · rw [show setD D i2 i4 = D i4 by simp [setD, h24], hD4]; rfl
  · simp [setD]
end
theorem WPD.regionG {σ : Type} {P : Program} {N : Nat} {D : List Deferred} {e : Env} {w : World} {Q : Exit → Env → World → List Deferred → Prop} {id : Nat} {ops : Array Oper} {J : (Nat → Bool) → σ → World → Prop} {R : σ → σ → Prop} (hm : Mixed P) (hR : Pre R) (s0 : σ) (I : J (fun _ => false) s0 w.drew) (m : Nat) (hB : flowB ops m = true)
    (k : OpsG P ops J R s0 0 [] (ops.toList.take m) e (fun L e' => ∀ D' h1 w1, (∀ j, j < m → D' j = true) → R s0 h1 → J D' h1 w1 → AllG (fun _ => true) h1 L e' fun e'' => Ops P ops (ops.toList.drop m) e'' w1 (fun e3 w3 => Q .normal e3 w3 D))) : WPD P N D (.region id ops true) e w Q := WPD.of (WP.regionG hm hR s0 I m hB k)
end Go.TF
end
section
/- A region in which a literal is made and appended to what the call owns, while what is loaded may be loaded ahead or behind. -/
namespace Go.TF
open Go Go.RowKit

structure ApS where
  h : Heap
  o7 : Option (Nat × Nat)
def pcA (T k n m : Nat) (v : Value) (xs x : List Value) (o7 : Option (Nat × Nat)) : SA := match o7 with
  | none => ownSl T k v n xs
  | some y => ownSl T k (.slice (some ⟨y.1, 0, none⟩) (n + m) y.2) (n + m) (xs ++ x)
structure JAp (B : Base) (M : List SA) (T k n m : Nat) (v : Value) (xs x : List Value) (i7 : Nat) (D : Nat → Bool) (s : ApS) (w : World) : Prop where
  h7 : s.o7.isSome = D i7
  inv : Inv B s.h (pcA T k n m v xs x s.o7 :: M) w
structure RAp (s s' : ApS) : Prop where
  h : s.h.le s'.h
  h7 : ∀ y, s.o7 = some y → s'.o7 = some y
theorem RAp.pre : Pre RAp := ⟨fun _ => ⟨Heap.le.refl _, fun _ h => h⟩, fun _ _ _ h k => ⟨h.h.trans k.h, fun y e => k.h7 y (h.h7 y e)⟩⟩
def AtAp (N : Nat) (u : Value) (s : ApS) : Prop := ∃ g c, u = .slice (some ⟨g, 0, none⟩) N c ∧ s.o7 = some (g, c)
theorem AtAp.mono {N : Nat} : MonoG RAp (AtAp N) := fun _ _ _ r ⟨g, c, h1, h2⟩ => ⟨g, c, h1, r.h7 _ h2⟩
def KnA (Φ : Sp) (u : Value) (s : ApS) : Prop := Φ u s.h
theorem KnA.mono {Φ : Sp} (hm : MonoS Φ) : MonoG RAp (KnA Φ) := fun _ _ _ r h => hm _ _ _ r.h h
section
variable {P : Program} {o : Oper} {e : Env} {B : Base} {M : List SA} {T k n m : Nat} {v : Value} {xs x : List Value} {i7 i : Nat} {D : Nat → Bool} {s : ApS} {w : World}
theorem JAp.base (j : JAp B M T k n m v xs x i7 D s w) : Inv B s.h M w := j.inv.drop
theorem JAp.set (h : i7 ≠ i) : ∀ D s w, JAp B M T k n m v xs x i7 D s w → JAp B M T k n m v xs x i7 (setD D i) s w := fun D s w j => ⟨by rw [show setD D i i7 = D i7 by simp [setD, h]]; exact j.h7, j.inv⟩
/-- What makes known more, and turns nothing. -/
theorem JAp.know {Φ : Sp} (j : JAp B M T k n m v xs x i7 D s w) (h : i7 ≠ i) (hop : ∀ N, Inv B s.h N w → Op1 P o e w fun u w' => ∃ h', s.h.le h' ∧ Inv B h' N w' ∧ Φ u h') :
    Op1 P o e w fun u w' => ∃ s', RAp s s' ∧ JAp B M T k n m v xs x i7 (setD D i) s' w' ∧ KnA Φ u s' :=
  (hop _ j.inv).mono fun u w' ⟨h', hl, I, hu⟩ => ⟨⟨h', s.o7⟩, ⟨hl, fun _ e => e⟩, ⟨by rw [show setD D i i7 = D i7 by simp [setD, h]]; exact j.h7, I⟩, hu⟩
theorem JAp.app (j : JAp B M T k n m v xs x i7 D s w) (hD : D i7 = false) (hop : Inv B s.h (ownSl T k v n xs :: M) w → Op1 P o e w fun u w' => ∃ g c, u = .slice (some ⟨g, 0, none⟩) (n + m) c ∧ Inv B s.h (ownSl T k (.slice (some ⟨g, 0, none⟩) (n + m) c) (n + m) (xs ++ x) :: M) w') :
    Op1 P o e w fun u w' => ∃ s', RAp s s' ∧ JAp B M T k n m v xs x i7 (setD D i7) s' w' ∧ AtAp (n + m) u s' := by
  have h7 : s.o7 = none := by have := j.h7; rw [hD] at this; cases h : s.o7 <;> simp_all
  have I := j.inv
  rw [h7] at I
  exact (hop I).mono fun u w' ⟨g, c, e, I⟩ => ⟨⟨s.h, some (g, c)⟩, ⟨Heap.le.refl _, fun y e => (by rw [h7] at e; cases e)⟩, ⟨by simp [setD], I⟩, g, c, e, rfl⟩
end
end Go.TF
end
section
/- Each step that is noted makes the facts more: plain. -/
namespace Go.TF
open Go

theorem put_chg {l : List Prd} {f : List Fct} {y : Fct} (okf : FOk l f) (hy : factFine l y = true) : (addF (predOf l y.pred).kind f y).2 = decide ((addF (predOf l y.pred).kind f y).1 ≠ f) := by
  have h := turn_chg (ts := [((default : Stp), y)]) okf (by intro t ht; rw [List.mem_singleton.1 ht]; exact hy)
  have e : turnL l f [((default : Stp), y)] = putS l (f, false) y := rfl
  rw [e] at h
  exact (Bool.false_or _).symm.trans h
section
variable {p : Prg} {M : List Int} (rk : ∀ r ∈ p.rules.xs, ROk p.preds.xs r)
include rk
theorem tstep_pot {st : Int} {s : TrS} (okf : FOk p.preds.xs s.1) {n : Nat} {r : Rul} {x : Stp} (h : Fires p M st s.1 n r x) : (trStep p.preds.xs r s x).2.length + potF p.preds.xs s.1 ≤ potF p.preds.xs (trStep p.preds.xs r s x).1 + s.2.length := by
  have hfine := fires_fine rk okf h
  unfold trStep trPut
  split
  · rename_i hc
    have hne := of_decide_eq_true ((put_chg okf hfine).symm.trans hc)
    have := potF_lt okf (addF_fok okf hfine) (under_add okf hfine) hne
    rw [List.length_append, List.length_singleton]
    dsimp only
    unfold addL at this
    omega
  · omega
theorem tsteps_pot {st : Int} {s0 s : TrS} (ok0 : FOk p.preds.xs s0.1) (h : TSteps p M st s0 s) : s.2.length + potF p.preds.xs s0.1 ≤ potF p.preds.xs s.1 + s0.2.length := by
  induction h with
  | refl => omega
  | next h hf ih =>
    have := tstep_pot rk (tsteps_tg rk ok0 h).fok hf
    omega
theorem tsteps_len {st : Int} {s0 s : TrS} (ok0 : FOk p.preds.xs s0.1) (h : TSteps p M st s0 s) (hl : s0.2.length ≤ potF p.preds.xs s0.1) : s.2.length ≤ potF p.preds.xs s.1 := by
  have := tsteps_pot rk ok0 h
  omega
end
/-- What is behind a loop of passes. -/
def TJ (T : TrS → TrS) (s0 : TrS) (again : Bool) (s : TrS) : Prop := again = true ∧ TCloB T s0 s ∨ again = false ∧ TClo T s0 s
theorem TJ.zero {T : TrS → TrS} {s : TrS} : TJ T s true s := .inl ⟨rfl, fun _ h => h⟩
theorem TJ.next {T : TrS → TrS} {s0 s g : TrS} (h : TJ T s0 true s) (hg : T s = g) : TJ T s0 (decide (g.2.length ≠ s.2.length)) g := by
  have hb : TCloB T s0 s := by
    rcases h with ⟨_, h⟩ | ⟨h, _⟩
    · exact h
    · cases h
  by_cases hl : g.2.length = s.2.length
  · exact .inr ⟨decide_eq_false (fun h => h hl), hb _ (.stop hg hl)⟩
  · exact .inl ⟨decide_eq_true hl, hb.next hg hl⟩
theorem TJ.done {T : TrS → TrS} {s0 s : TrS} (h : TJ T s0 false s) : TClo T s0 s := by
  rcases h with ⟨h, _⟩ | ⟨_, h⟩
  · cases h
  · exact h
end Go.TF
end
section
/- A rule is used once, and what changes something is noted. -/
namespace Go.TF
open Go Go.RowKit Go.Proofs
set_option maxRecDepth 20000

theorem StpsR.mono {xs : List Stp} : MonoS (StpsR xs) := fun _ _ _ hl ⟨s, a, b, c⟩ => ⟨s, a, b, c.le hl⟩
structure TrW where
  f : Sl Fct
  a : Option Addr
  c : Nat
  xs : List Stp
  h : Heap
set_option maxHeartbeats 8000000 in
theorem ClerkRule_ok {B : Base} {h : Heap} {M : List SA} {w : World} {bc : Nat} {p : Prg} {L : List Int} {st : Int} {f : Sl Fct} {a : Option Addr} {c m : Nat} {xs : List Stp} (I : Inv B h (box bc [p.preds.val, p.rules.val, f.val, .slice a m c] 121 :: ownSl 82 4 (.slice a m c) m (xs.flatMap Stp.enc) :: M) w) (hm : m = xs.length)
    (hp : p.In h) (hf : Fcts f h) (rk : ∀ r ∈ p.rules.xs, ROk p.preds.xs r) (hM : Sol (usesL p.rules.xs) p.preds.xs.length L) (n : Nat) (r : Rul) (hr : p.rules.xs[n]? = some r) (hlv : lv L r.head.pred = st) (okf : FOk p.preds.xs f.xs) (hlen : xs.length ≤ potF p.preds.xs f.xs) :
    Calls Tryz.prog 82 [.pointer (some ⟨bc, 0, none⟩), .int .i64 n].toArray w
      (fun ed w' => ∃ (f' : Sl Fct) (a' : Option Addr) (c' : Nat) (xs' : List Stp) (h' : Heap), ed = .returned (.bool (decide ((xs'.length : Int) > xs.length))) ∧ h.le h' ∧ (f'.xs, xs') = trRule p n (f.xs, xs) ∧ Fcts f' h' ∧
        Inv B h' (box bc [p.preds.val, p.rules.val, f'.val, .slice a' xs'.length c'] 121 :: ownSl 82 4 (.slice a' xs'.length c') xs'.length (xs'.flatMap Stp.enc) :: M) w') := by
  subst hm
  have ok := rk r (List.mem_of_getElem? hr)
  have hr' : p.rules.xs[(n : Int).toNat]? = some r := by rw [Int.toNat_natCast]; exact hr
  have hgd : p.rules.xs.getD n default = r := by rw [List.getD_eq_getElem?_getD, hr]; rfl
  have hpl := potF_le p.preds.xs f.xs
  refine Calls.ofWP (args := [.pointer (some ⟨bc, 0, none⟩), .int .i64 n]) Tryz.func82 rfl Tryz.ntmps82 (by kernel_rfl) (by simp) ?_
  intro e
  refine WP.seq ?_
  refine WP.region ?_
  refine Ops.y (v := .bool _) (Y.assign rfl) ?_
  refine Ops.nil ?_
  refine WP.seq ?_
  refine WP.region ?_
  refine Ops.y (v := .pointer (some ⟨_, _, none⟩)) (Y.move rfl) ?_
  refine Ops.y (v := .pointer (some ⟨_, _, none⟩)) (Y.nilp rfl) ?_
  refine Ops.y (v := .pointer (some ⟨_, _, none⟩)) (Y.fa fa_121_2 rfl) ?_
  refine Ops.y (v := .slice _ _ _) (Y.loadv ty_36 rfl (I.rdbox 0 rfl 3 1) rfl rfl) ?_
  refine Ops.y (v := .int .i64 _) (Y.lens Tryz.underlying36 rfl) ?_
  refine Ops.y (v := .int .i64 _) (Y.assign rfl) ?_
  refine Ops.nil ?_
  refine WP.seq ?_
  refine WP.seq ?_
  refine WP.regionF mixed I 12 (by kernel_rfl) ?_
  refine OpsF.y_ (v := .pointer (some ⟨_, _, none⟩)) (fun _ => runs_none _) (fun _ w us hl I => Y.move rfl) ?_
  refine OpsF.y_ (v := .pointer (some ⟨_, _, none⟩)) (fun _ => runs_none _) (fun _ w us hl I => Y.nilp rfl) ?_
  refine OpsF.y_ (v := .pointer (some ⟨_, _, none⟩)) (fun _ => runs_none _) (fun _ w us hl I => Y.fa0 fa_121_0 rfl) ?_
  refine OpsF.y_ (v := .agg #[_, _]) (fun _ => runs_none _) (fun _ w us hl I => Y.loadv ty_25 rfl (I.rdbox 0 rfl 0 2) rfl rfl) ?_
  refine OpsF.y_ (v := .pointer (some ⟨_, _, none⟩)) (fun _ => runs_none _) (fun _ w us hl I => Y.move rfl) ?_
  refine OpsF.y_ (v := .pointer (some ⟨_, _, none⟩)) (fun _ => runs_none _) (fun _ w us hl I => Y.nilp rfl) ?_
  refine OpsF.y_ (v := .pointer (some ⟨_, _, none⟩)) (fun _ => runs_none _) (fun _ w us hl I => Y.fa fa_121_1 rfl) ?_
  refine OpsF.y_ (v := .slice _ _ _) (fun _ => runs_none _) (fun _ w us hl I => Y.loadv ty_26 rfl (I.rdbox 0 rfl 2 1) rfl rfl) ?_
  refine OpsF.y_ (v := .int .i64 _) (fun _ => runs_none _) (fun _ w us hl I => Y.move rfl) ?_
  refine OpsF.x_ (Φ := StpsR (stepsF f.xs n r)) StpsR.mono (fun _ => runs_none _) ?_ ?_
  · intro _ w hl I
    try unfold AllL
    refine O.call I Tryz.call131 (Steps_ok _ I.base_ok p (hp.le hl) f (hf.le hl) n r (by omega) hr' ok okf) rfl ?_
    rintro _ h9 w I hl' hx
    exact ⟨_, hl', I, hx⟩
  refine OpsF.d_ (v := .int .i64 (stepsF f.xs n r).length) (fun _ => runs_none _) ?_ ?_
  · intro _ w hl I u26 q26
    obtain ⟨s9, rfl, e9, i9⟩ := q26 rfl
    exact O.yd I (Y.lens Tryz.underlying36 rfl) (by rw [e9])
  refine OpsF.y_ (v := .int .i64 _) (fun _ => runs_none _) (fun _ w us hl I => Y.move rfl) ?_
  refine OpsF.nil ?_
  intro _ w hl I u26 q26
  refine Ops.nil ?_
  obtain ⟨ss, rfl, hss, iss⟩ := q26 rfl
  obtain ⟨SS, hSS⟩ : ∃ t, stepsF f.xs n r = t := ⟨_, rfl⟩
  rw [hSS] at hss
  rw [hSS]
  subst hss
  rename_i h2
  have hsm := iss.small
  refine WP.block ?_
  refine WP.loopE (σ := Nat × TrW) (fun s => [(0, .pointer (some ⟨bc, 0, none⟩)), (1, .int .i64 n), (5, .int .i64 xs.length), (26, ss.val), (27, .int .i64 ss.xs.length), (28, .int .i64 s.1)])
    (fun s w => Inv B s.2.h (box bc [p.preds.val, p.rules.val, s.2.f.val, .slice s.2.a s.2.xs.length s.2.c] 121 :: ownSl 82 4 (.slice s.2.a s.2.xs.length s.2.c) s.2.xs.length (s.2.xs.flatMap Stp.enc) :: M) w ∧ s.1 ≤ ss.xs.length ∧ h2.le s.2.h ∧ (s.2.f.xs, s.2.xs) = trL p.preds.xs r (ss.xs.take s.1) (f.xs, xs) ∧ Fcts s.2.f s.2.h) (fun s => ss.xs.length - s.1)
    ⟨(0, ⟨f, a, c, xs, h2⟩), ⟨rfl, rfl, rfl, rfl, rfl, rfl, trivial⟩, I, Nat.zero_le _, Heap.le.refl _, rfl, hf.le hl⟩ ?_
  rintro ⟨j, f1, a1, c1, xs1, g3⟩ e w ⟨I, hj, gl, hs, hf1⟩
  dsimp only at I hj gl hs hf1 ⊢
  have hst : ∀ x ∈ ss.xs, x ∈ stepsF f.xs n r := fun x hx => hSS ▸ hx
  have hts : TSteps p L st (f.xs, xs) (f1.xs, xs1) := by
    rw [hs]; exact trL_steps rk hM hr hlv okf _ _ (fun x hx => hst x (List.mem_of_mem_take hx)) .refl
  have okf1 : FOk p.preds.xs f1.xs := (tsteps_tg rk okf hts).fok
  have hpl1 := potF_le p.preds.xs f1.xs
  have hlen1 : xs1.length ≤ potF p.preds.xs f1.xs := tsteps_len rk okf hts hlen
  have gl2 := hl.trans gl
  refine WP.seq ?_
  refine WP.region ?_
  refine Ops.y (v := .bool (decide _)) (Y.lti rfl rfl) ?_
  refine Ops.nil ?_
  refine WP.seq ?_
  refine WP.cond_dec rfl (fun h3 => ?_) (fun h3 => ?_)
  · have hjj : j < ss.xs.length := by omega
    have E := (iss.le gl).at hjj
    have hfi : Fires p L st f1.xs n r ss.xs[j] := fires_up rk hM (tsteps_tg rk okf hts) (fires_steps hr hlv (hst _ (List.getElem_mem hjj)))
    obtain ⟨y, hy⟩ : ∃ y, headF p.preds.xs f1.xs r ss.xs[j].vars = y := ⟨_, rfl⟩
    have hyF : holdsF p.preds.xs f1.xs r ss.xs[j].vars = (true, y) := by unfold holdsF; rw [if_pos hfi.holds, hy]
    have hfine : factFine p.preds.xs y = true := hy ▸ fires_fine rk okf1 hfi
    have hnx : trPut p.preds.xs (f1.xs, xs1) ss.xs[j] y = trL p.preds.xs r (ss.xs.take (j + 1)) (f.xs, xs) := by
      rw [trL_take hjj, ← hs, ← hy]; rfl
    refine WP.skip ?_
    refine WP.seq ?_
    refine WP.block ?_
    refine WP.seq ?_
    refine WP.region ?_
    refine Ops.y (v := .pointer (some ⟨_, _, none⟩)) (Y.idxEl E Tryz.underlying36 Tryz.sizeOf82 rfl rfl (Int.natCast_nonneg _) rfl) ?_
    refine Ops.y (v := .agg #[_, _, _, _]) (Y.loadv ty_82 rfl (I.rd (E.rd.part 0 4)) rfl rfl) ?_
    refine Ops.go (O.alloc I Tryz.zeroValue82 rfl ?_)
    intro b7 w I
    refine Ops.go (O.store (v := .agg #[_, _, _, _]) I ty_82 0 rfl rfl rfl rfl rfl rfl (Nat.le_of_ble_eq_true rfl) rfl ?_)
    intro w I
    refine Ops.nil ?_
    refine WP.seq ?_
    refine WP.regionG mixed RBx.pre ⟨g3, none, none⟩ (J := JBx B ([box b7 ss.xs[j].enc 82, box bc [p.preds.val, p.rules.val, f1.val, .slice a1 xs1.length c1] 121, ownSl 82 4 (.slice a1 xs1.length c1) xs1.length (xs1.flatMap Stp.enc)] ++ M) 52 [.int .i64 0, .int .i64 0, .int .i64 0, .int .i64 0] y.enc 15 99 17) ⟨rfl, rfl, fun h => (by cases h), I.drew⟩ 18 (by kernel_rfl) ?_
    refine OpsG.y_ (v := .pointer (some ⟨_, _, none⟩)) (fun _ => runsG_none _) RBx.pre (JBx.set (by decide)) (fun _ s w us hl hj => have I := hj.base; have hl := hl.h; Y.move rfl) ?_
    refine OpsG.y_ (v := .pointer (some ⟨_, _, none⟩)) (fun _ => runsG_none _) RBx.pre (JBx.set (by decide)) (fun _ s w us hl hj => have I := hj.base; have hl := hl.h; Y.nilp rfl) ?_
    refine OpsG.y_ (v := .pointer (some ⟨_, _, none⟩)) (fun _ => runsG_none _) RBx.pre (JBx.set (by decide)) (fun _ s w us hl hj => have I := hj.base; have hl := hl.h; Y.fa0 fa_121_0 rfl) ?_
    refine OpsG.y_ (v := .agg #[_, _]) (fun _ => runsG_none _) RBx.pre (JBx.set (by decide)) (fun _ s w us hl hj => have I := hj.base; have hl := hl.h; Y.loadv ty_25 rfl (I.rdbox 1 rfl 0 2) rfl rfl) ?_
    refine OpsG.y_ (v := .pointer (some ⟨_, _, none⟩)) (fun _ => runsG_none _) RBx.pre (JBx.set (by decide)) (fun _ s w us hl hj => have I := hj.base; have hl := hl.h; Y.move rfl) ?_
    refine OpsG.y_ (v := .pointer (some ⟨_, _, none⟩)) (fun _ => runsG_none _) RBx.pre (JBx.set (by decide)) (fun _ s w us hl hj => have I := hj.base; have hl := hl.h; Y.nilp rfl) ?_
    refine OpsG.y_ (v := .pointer (some ⟨_, _, none⟩)) (fun _ => runsG_none _) RBx.pre (JBx.set (by decide)) (fun _ s w us hl hj => have I := hj.base; have hl := hl.h; Y.fa fa_121_1 rfl) ?_
    refine OpsG.y_ (v := .slice _ _ _) (fun _ => runsG_none _) RBx.pre (JBx.set (by decide)) (fun _ s w us hl hj => have I := hj.base; have hl := hl.h; Y.loadv ty_26 rfl (I.rdbox 1 rfl 2 1) rfl rfl) ?_
    refine OpsG.y_ (v := .int .i64 _) (fun _ => runsG_none _) RBx.pre (JBx.set (by decide)) (fun _ s w us hl hj => have I := hj.base; have hl := hl.h; Y.move rfl) ?_
    refine OpsG.y_ (v := .pointer (some ⟨_, _, none⟩)) (fun _ => runsG_none _) RBx.pre (JBx.set (by decide)) (fun _ s w us hl hj => have I := hj.base; have hl := hl.h; Y.fa fa_82_1 rfl) ?_
    refine OpsG.y_ (v := .agg #[_, _, _]) (fun _ => runsG_none _) RBx.pre (JBx.set (by decide)) (fun _ s w us hl hj => have I := hj.base; have hl := hl.h; Y.loadv ty_80 rfl (I.rdbox 0 rfl 1 3) rfl rfl) ?_
    refine OpsG.c_ (by decide) (fun _ s w us hl hj => have I := hj.inv; have hl := hl.h; O.callv I Tryz.call84 (FOf_at _ I.base_ok p ((hp.le gl2).le hl) f1 (hf1.le hl) n r (by omega) hr' ok okf1 ss.xs[j].vars hfi.vs (true, y) hyF) rfl (fun w' I' => ⟨rfl, ⟨hj.h7, hj.h8, hj.ord, I'⟩⟩)) ?_
    refine OpsG.y_ (v := .tuple #[_, _]) (fun _ => runsG_none _) RBx.pre (JBx.set (by decide)) (fun _ s w us hl hj => have I := hj.base; have hl := hl.h; Y.move rfl) ?_
    refine OpsG.y_ (v := .bool _) (fun _ => runsG_none _) RBx.pre (JBx.set (by decide)) (fun _ s w us hl hj => have I := hj.base; have hl := hl.h; Y.extract rfl rfl) ?_
    refine OpsG.y_ (v := .agg #[_, _, _, _]) (fun _ => runsG_none _) RBx.pre (JBx.set (by decide)) (fun _ s w us hl hj => have I := hj.base; have hl := hl.h; Y.extract rfl rfl) ?_
    refine OpsG.make7 Tryz.zeroValue52 rfl (by decide) (by decide) ?_
    refine OpsG.y_ (v := .bool _) (fun _ => runsG_none _) RBx.pre (JBx.set (by decide)) (fun _ s w us hl hj => have I := hj.base; have hl := hl.h; Y.assign rfl) ?_
    refine OpsG.store7 ty_52 rfl rfl (fun s => by intro u9 q9; exact ⟨q9 rfl, rfl⟩) rfl rfl (by decide) (by decide) ?_
    refine OpsG.nil ?_
    intro D s' w hD hl hj' u9 q9
    refine Ops.nil ?_
    obtain ⟨b9, rfl, h9⟩ := q9 rfl
    have I := hj'.inv
    rw [h9, hD 17 (by omega)] at I
    have hl := hl.h
    generalize s'.o8 = o8 at I
    generalize s'.h = h12 at I hl
    have I : Inv B h12 ([box b9 y.enc 52, box b7 ss.xs[j].enc 82, box bc [p.preds.val, p.rules.val, f1.val, .slice a1 xs1.length c1] 121, ownSl 82 4 (.slice a1 xs1.length c1) xs1.length (xs1.flatMap Stp.enc)] ++ M) w := by
      cases o8 with
      | none => exact I
      | some b8 => exact I.weak (List.Sublist.cons_cons _ (List.sublist_cons_self _ _))
    have gl3 := gl2.trans hl
    obtain ⟨tr, htr⟩ : ∃ t, addF (predOf p.preds.xs y.pred).kind f1.xs y = t := ⟨_, rfl⟩
    have hput : trPut p.preds.xs (f1.xs, xs1) ss.xs[j] y = if tr.2 = true then (tr.1, xs1 ++ [ss.xs[j]]) else (f1.xs, xs1) := by unfold trPut; rw [htr]
    refine WP.seq ?_
    refine WP.regionF mixed I 16 (by kernel_rfl) ?_
    refine OpsF.y_ (v := .pointer (some ⟨_, _, none⟩)) (fun _ => runs_none _) (fun _ w us hl I => Y.move rfl) ?_
    refine OpsF.y_ (v := .pointer (some ⟨_, _, none⟩)) (fun _ => runs_none _) (fun _ w us hl I => Y.nilp rfl) ?_
    refine OpsF.y_ (v := .pointer (some ⟨_, _, none⟩)) (fun _ => runs_none _) (fun _ w us hl I => Y.fa0 fa_121_0 rfl) ?_
    refine OpsF.y_ (v := .pointer (some ⟨_, _, none⟩)) (fun _ => runs_none _) (fun _ w us hl I => Y.fa0 fa_25_0 rfl) ?_
    refine OpsF.y_ (v := .slice _ _ _) (fun _ => runs_none _) (fun _ w us hl I => Y.loadv ty_22 rfl (I.rdbox 2 rfl 0 1) rfl rfl) ?_
    refine OpsF.y_ (v := .pointer (some ⟨_, _, none⟩)) (fun _ => runs_none _) (fun _ w us hl I => Y.move rfl) ?_
    refine OpsF.y_ (v := .pointer (some ⟨_, _, none⟩)) (fun _ => runs_none _) (fun _ w us hl I => Y.nilp rfl) ?_
    refine OpsF.y_ (v := .pointer (some ⟨_, _, none⟩)) (fun _ => runs_none _) (fun _ w us hl I => Y.fa fa_121_1 rfl) ?_
    refine OpsF.y_ (v := .slice _ _ _) (fun _ => runs_none _) (fun _ w us hl I => Y.loadv ty_26 rfl (I.rdbox 2 rfl 2 1) rfl rfl) ?_
    refine OpsF.y_ (v := .agg #[_, _, _, _]) (fun _ => runs_none _) (fun _ w us hl I => Y.loadv ty_52 rfl (I.rdbox 0 rfl 0 4) rfl rfl) ?_
    refine OpsF.x_ (Φ := PutP tr) PutP.mono (fun _ => runs_none _) ?_ ?_
    · intro _ w hl I
      try unfold AllL
      refine O.call I Tryz.call67 (htr ▸ Put_ok _ I.base_ok p.preds (hp.preds.le (gl3.trans hl)) f1 (hf1.le (‹g3.le h12›.trans hl)) okf1 y hfine) rfl ?_
      rintro _ h6 w I hl' hx
      exact ⟨_, hl', I, hx⟩
    refine OpsF.x_ (Φ := PutP tr) PutP.mono (fun _ => runs_none _) ?_ ?_
    · intro _ w hl I u58 q58
      exact O.yx I (Y.move rfl) (q58 rfl)
    refine OpsF.x_ (Φ := SlS 4 Fct.enc tr.1) SlS.mono (fun _ => runs_none _) ?_ ?_
    · intro _ w hl I u58 q58 u47 q47
      obtain ⟨s6, rfl, e6, i6⟩ := q47 rfl
      exact O.yx I (Y.extract rfl rfl) (⟨s6, rfl, e6, i6⟩)
    refine OpsF.d_ (v := .bool tr.2) (fun _ => runs_none _) ?_ ?_
    · intro _ w hl I u58 q58 u47 q47 u59 q59
      obtain ⟨s6, rfl, e6, i6⟩ := q47 rfl
      exact O.yd I (Y.extract rfl rfl) (rfl)
    refine OpsF.x_ (Φ := SlS 4 Fct.enc tr.1) SlS.mono (fun _ => runs_none _) ?_ ?_
    · intro _ w hl I u58 q58 u47 q47 u59 q59
      exact O.yx I (Y.assign rfl) (q59 rfl)
    refine OpsF.y_ (v := .bool _) (fun _ => runs_none _) (fun _ w us hl I => Y.assign rfl) ?_
    refine OpsF.nil ?_
    intro _ w hl I u58 q58 u47 q47 u59 q59 u10 q10
    refine Ops.nil ?_
    obtain ⟨s6, rfl, hs6, is6⟩ := q10 rfl
    refine WP.seq ?_
    refine WP.region ?_
    refine Ops.y (v := .bool _) (Y.move rfl) ?_
    refine Ops.nil ?_
    refine WP.cond rfl (fun h7 => ?_) (fun h7 => ?_)
    · have h7 : tr.2 = true := h7
      rw [if_pos h7] at hput
      refine WP.seq ?_
      refine WP.region ?_
      refine Ops.y (v := .pointer (some ⟨_, _, none⟩)) (Y.move rfl) ?_
      refine Ops.y (v := .slice _ _ _) (Y.move rfl) ?_
      refine Ops.y (v := .pointer (some ⟨_, _, none⟩)) (Y.nilp rfl) ?_
      refine Ops.y (v := .pointer (some ⟨_, _, none⟩)) (Y.fa fa_121_1 rfl) ?_
      refine Ops.go (O.store (v := .slice _ _ _) I ty_26 2 rfl rfl rfl rfl rfl rfl (Nat.le_of_ble_eq_true rfl) rfl ?_)
      intro w I
      refine Ops.nil ?_
      refine WP.regionG mixed RAp.pre ⟨_, none⟩ (J := JAp B ([box b9 y.enc 52, box b7 ss.xs[j].enc 82, box bc [p.preds.val, p.rules.val, s6.val, .slice a1 xs1.length c1] 121] ++ M) 82 4 xs1.length 1 (.slice a1 xs1.length c1) (xs1.flatMap Stp.enc) ss.xs[j].enc 7) ⟨rfl, (I.front 3 rfl).drew⟩ 8 (by kernel_rfl) ?_
      refine OpsG.y_ (v := .pointer (some ⟨_, _, none⟩)) (fun _ => runsG_none _) RAp.pre (JAp.set (by decide)) (fun _ s w us hl hj => have I := hj.base; have hl := hl.h; Y.move rfl) ?_
      refine OpsG.y_ (v := .pointer (some ⟨_, _, none⟩)) (fun _ => runsG_none _) RAp.pre (JAp.set (by decide)) (fun _ s w us hl hj => have I := hj.base; have hl := hl.h; Y.move rfl) ?_
      refine OpsG.y_ (v := .pointer (some ⟨_, _, none⟩)) (fun _ => runsG_none _) RAp.pre (JAp.set (by decide)) (fun _ s w us hl hj => have I := hj.base; have hl := hl.h; Y.nilp rfl) ?_
      refine OpsG.y_ (v := .pointer (some ⟨_, _, none⟩)) (fun _ => runsG_none _) RAp.pre (JAp.set (by decide)) (fun _ s w us hl hj => have I := hj.base; have hl := hl.h; Y.fa fa_121_2 rfl) ?_
      refine OpsG.y_ (v := .slice _ _ _) (fun _ => runsG_none _) RAp.pre (JAp.set (by decide)) (fun _ s w us hl hj => have I := hj.base; have hl := hl.h; Y.loadv ty_36 rfl (I.rdbox 2 rfl 3 1) rfl rfl) ?_
      refine OpsG.y_ (v := .agg #[_, _, _, _]) (fun _ => runsG_none _) RAp.pre (JAp.set (by decide)) (fun _ s w us hl hj => have I := hj.base; have hl := hl.h; Y.loadv ty_82 rfl (I.rdbox 1 rfl 0 4) rfl rfl) ?_
      refine OpsG.x_ (Φ := KnA (LitW 82 ss.xs[j].enc 1)) (KnA.mono LitW.mono) (fun _ => runsG_none _) (fun D' z w hDk hl hj => AllG.all fun us => ?_) ?_
      · refine hj.know (by decide) fun N I => ?_
        exact O.mklit (cs := ss.xs[j].enc) I Tryz.underlying36 Tryz.sizeOf82 Tryz.zeroValue82 (by decide) (by decide) rfl rfl (fun v h w I le sl => ⟨h, le, I, sl⟩)
      refine OpsG.x_ (Φ := AtAp (xs1.length + 1)) AtAp.mono (fun _ => runsG_none _) (fun D' z w hDk hl hj => ?_) ?_
      · intro u72 q72
        obtain ⟨bl, rfl, hbl⟩ := q72 rfl
        refine hj.app hDk fun I => ?_
        have kb : Known z.h bl ss.xs[j].enc := ⟨fun j v hv => by simp [Heap.cell, hbl, hv]⟩
        refine O.append I Tryz.underlying36 et_82 0 rfl rfl rfl (I.rd kb.rd) rfl rfl (by decide) (by omega) (by omega) ?_
        intro g c w I
        exact ⟨g, c, rfl, I⟩
      refine OpsG.nil ?_
      intro D z w hD hl hj u72 q72 u73 q73
      obtain ⟨g, c2, rfl, h7⟩ := q73 rfl
      have I := hj.inv
      rw [h7] at I
      have I := I.perm (List.perm_middle (l₁ := [_, _, _]))
      refine Ops.y (v := .pointer (some ⟨_, _, none⟩)) (Y.nilp rfl) ?_
      refine Ops.y (v := .pointer (some ⟨_, _, none⟩)) (Y.fa fa_121_2 rfl) ?_
      refine Ops.go (O.store (v := .slice _ _ _) I ty_36 2 rfl rfl rfl rfl rfl rfl (Nat.le_of_ble_eq_true rfl) rfl ?_)
      intro w I
      refine Ops.nil ?_
      refine WP.region ?_
      refine Ops.y (v := .int .i64 _) (Y.addi rfl rfl ⟨by omega, by omega⟩) ?_
      refine Ops.y (v := .int .i64 _) (Y.move rfl) ?_
      refine Ops.nil ?_
      have e1 : (xs1 ++ [ss.xs[j]]).length = xs1.length + 1 := by simp
      have I := I.weak (M' := box bc [p.preds.val, p.rules.val, s6.val, .slice (some ⟨g, 0, none⟩) (xs1 ++ [ss.xs[j]]).length c2] 121 :: ownSl 82 4 (.slice (some ⟨g, 0, none⟩) (xs1 ++ [ss.xs[j]]).length c2) (xs1 ++ [ss.xs[j]]).length ((xs1 ++ [ss.xs[j]]).flatMap Stp.enc) :: M) (by rw [e1, List.flatMap_append, List.flatMap_singleton]; exact .cons _ (.cons _ (List.Sublist.refl _)))
      exact ⟨(j + 1, ⟨s6, some ⟨g, 0, none⟩, c2, xs1 ++ [ss.xs[j]], _⟩), ⟨⟨rfl, rfl, rfl, rfl, rfl, rfl, trivial⟩, I, by dsimp only; omega, ((gl.trans ‹g3.le h12›).trans ‹h12.le _›).trans hl.h, by dsimp only; rw [← hnx, hput, hs6], is6.le hl.h⟩, by dsimp only; omega⟩
    · have h7 : tr.2 = false := by simpa using h7
      rw [h7, if_neg (by decide)] at hput
      refine WP.skip ?_
      refine WP.region ?_
      refine Ops.y (v := .int .i64 _) (Y.addi rfl rfl ⟨by omega, by omega⟩) ?_
      refine Ops.y (v := .int .i64 _) (Y.move rfl) ?_
      refine Ops.nil ?_
      exact ⟨(j + 1, ⟨f1, a1, c1, xs1, _⟩), ⟨⟨rfl, rfl, rfl, rfl, rfl, rfl, trivial⟩, I.weak (.cons _ (.cons _ (List.Sublist.refl _))), by dsimp only; omega, (gl.trans ‹g3.le h12›).trans hl, by dsimp only; rw [← hnx, hput], (hf1.le ‹g3.le h12›).le hl⟩, by dsimp only; omega⟩
  · obtain rfl : j = ss.xs.length := by omega
    rw [List.take_length] at hs
    refine WP.exit ?_
    refine WP.seq ?_
    refine WP.region ?_
    refine Ops.y (v := .pointer (some ⟨_, _, none⟩)) (Y.move rfl) ?_
    refine Ops.y (v := .pointer (some ⟨_, _, none⟩)) (Y.nilp rfl) ?_
    refine Ops.y (v := .pointer (some ⟨_, _, none⟩)) (Y.fa fa_121_2 rfl) ?_
    refine Ops.y (v := .slice _ _ _) (Y.loadv ty_36 rfl (I.rdbox 0 rfl 3 1) rfl rfl) ?_
    refine Ops.y (v := .int .i64 _) (Y.lens Tryz.underlying36 rfl) ?_
    refine Ops.y (v := .int .i64 _) (Y.move rfl) ?_
    refine Ops.y (v := .bool (decide _)) (Y.gti rfl rfl) ?_
    refine Ops.y (v := .bool _) (Y.assign rfl) ?_
    refine Ops.nil ?_
    refine WP.ret ?_
    repeat (first | refine thenE_ret ?_ | refine blockE_ret ?_)
    exact ⟨.inl rfl, [.bool (decide ((xs1.length : Int) > xs.length))], ⟨rfl, trivial⟩, f1, a1, c1, xs1, g3, rfl, gl2, by rw [hs]; unfold trRule; rw [hgd, hSS], hf1, I⟩
end Go.TF
end
section
/- The trace: each rule of a stratum once and once more, until nothing is noted. -/
namespace Go.TF
open Go Go.RowKit Go.Proofs
set_option maxRecDepth 20000

/-- What begins at its row's start, if it is not nil. -/
def Sl.Fl {α : Type} (s : Sl α) : Prop := s = ⟨none, 0, []⟩ ∨ ∃ g, s.at_ = some ⟨g, 0, none⟩ ∧ s.xs.length ≤ s.cap
theorem OwnH.fl {α : Type} {el k : Nat} {s : Sl α} {enc : α → List Value} {h0 h : Heap} (o : OwnH el k s enc h0 h) : s.Fl := by
  rcases o with o | ⟨g, cur, h1, _, _, h4, _⟩
  · exact .inl o
  · exact .inr ⟨g, h1, h4⟩
def TraP (p : Prg) (v : Value) (h : Heap) : Prop := (checkProg p ≠ 0 ∧ v = .tuple #[.slice none 0 0, .int .i64 (checkProg p)]) ∨ (checkProg p = 0 ∧ ∃ (s : Sl Stp) (f : List Fct), v = .tuple #[s.val, .int .i64 0] ∧ Stps s h ∧ s.Fl ∧ s.xs.length ≤ 2000 ∧ TraK p (strataM p) (numS (strataM p)) (f, s.xs))
@[reducible] def trM (p : Prg) (b1 bc : Nat) (s : TrW) : List SA := [box bc [p.preds.val, p.rules.val, s.f.val, .slice s.a s.xs.length s.c] 121, ownSl 82 4 (.slice s.a s.xs.length s.c) s.xs.length (s.xs.flatMap Stp.enc), box b1 p.enc 25]
structure TrJ (p : Prg) (s : TrW) (h0 : Heap) : Prop where
  le : h0.le s.h
  fok : FOk p.preds.xs s.f.xs
  fin : Fcts s.f s.h
  len : s.xs.length ≤ potF p.preds.xs s.f.xs
set_option maxHeartbeats 8000000 in
theorem Trace_ok (B : Base) (hB : B.ok) (p : Prg) (hp : p.In B.h) (hnm : p.Nm) : Fn Tryz.prog 22 [p.val] B (TraP p) := by
  refine Fn.of Tryz.func22 rfl Tryz.ntmps22 (by kernel_rfl) (by simp) ?_
  intro e
  have I := Inv.start hB
  refine WP.seq ?_
  refine WP.region ?_
  refine Ops.go (O.box (v := .agg #[_, _]) I rfl rfl ?_)
  intro b1 w I
  refine Ops.y (v := .slice _ _ _) (Y.assign rfl) ?_
  refine Ops.y (v := .int .i64 _) (Y.assign rfl) ?_
  refine Ops.nil ?_
  by_cases hpr : checkProg p ≠ 0
  · refine WP.seq ?_
    refine WP.region ?_
    refine Ops.y (v := .agg #[_, _]) (Y.loadv ty_25 rfl (I.rdbox 0 rfl 0 2) rfl rfl) ?_
    refine Ops.go (O.call I Tryz.call61 (Strata_ok _ I.base_ok p hp hnm) rfl ?_)
    rintro v h1 w I le1 hS
    rcases hS with ⟨_, rfl⟩ | ⟨h0, _⟩
    rotate_left
    exact absurd h0 hpr
    refine Ops.y (v := .tuple #[_, _]) (Y.move rfl) ?_
    refine Ops.y (v := .slice _ _ _) (Y.extract rfl rfl) ?_
    refine Ops.y (v := .int .i64 _) (Y.extract rfl rfl) ?_
    refine Ops.y (v := .slice _ _ _) (Y.assign rfl) ?_
    refine Ops.y (v := .int .i64 _) (Y.assign rfl) ?_
    refine Ops.nil ?_
    refine WP.seq ?_
    refine WP.seq ?_
    refine WP.region ?_
    refine Ops.y (v := .int .i64 _) (Y.move rfl) ?_
    refine Ops.y (v := .bool (decide _)) (Y.nei rfl rfl) ?_
    refine Ops.nil ?_
    refine WP.cond_decT rfl (hpr) ?_
    refine WP.seq ?_
    refine WP.region ?_
    refine Ops.y (v := .int .i64 _) (Y.move rfl) ?_
    refine Ops.y (v := .slice _ _ _) (Y.assign rfl) ?_
    refine Ops.y (v := .int .i64 _) (Y.assign rfl) ?_
    refine Ops.nil ?_
    refine WP.ret ?_
    repeat (first | refine thenE_ret ?_ | refine blockE_ret ?_)
    exact retQ.mk (vs := [.slice _ _ _, .int .i64 _]) rfl ⟨rfl, rfl, trivial⟩ I.ext_of (.inl ⟨hpr, rfl⟩)
  have hpr := Decidable.not_not.1 hpr
  obtain ⟨k1, k2, k3, _, _⟩ := checkProg_ok hpr
  have rk := chk_rok hpr
  have ok0 := chk_nil hpr
  refine WP.seq ?_
  refine WP.region ?_
  refine Ops.y (v := .agg #[_, _]) (Y.loadv ty_25 rfl (I.rdbox 0 rfl 0 2) rfl rfl) ?_
  refine Ops.go (O.call I Tryz.call61 (Strata_ok _ I.base_ok p hp hnm) rfl ?_)
  rintro v h1 w I le1 hS
  rcases hS with ⟨h0, _⟩ | ⟨_, s, hS, hI, rfl⟩
  exact absurd hpr h0
  refine Ops.y (v := .tuple #[_, _]) (Y.move rfl) ?_
  refine Ops.y (v := .slice _ _ _) (Y.extract rfl rfl) ?_
  refine Ops.y (v := .int .i64 _) (Y.extract rfl rfl) ?_
  refine Ops.y (v := .slice _ _ _) (Y.assign rfl) ?_
  refine Ops.y (v := .int .i64 _) (Y.assign rfl) ?_
  refine Ops.nil ?_
  have eM := strataM_eq hS
  have hsl : s.xs.length = p.preds.xs.length := hS.sol.len
  have hb5 := least_small hpr hS
  have hN5 := mostL_small hb5
  have hNe := numS_eq s.xs
  obtain ⟨N, hN⟩ : ∃ N, numS s.xs = N := ⟨_, rfl⟩
  have hsr := hp.rules.is.small
  refine WP.seq ?_
  refine WP.seq ?_
  refine WP.region ?_
  refine Ops.y (v := .int .i64 _) (Y.move rfl) ?_
  refine Ops.y (v := .bool (decide _)) (Y.nei rfl rfl) ?_
  refine Ops.nil ?_
  refine WP.cond_decF rfl ((fun h => h rfl)) ?_
  refine WP.skip ?_
  refine WP.seq ?_
  refine WP.region ?_
  refine Ops.y (v := .agg #[_, _]) (Y.loadv ty_25 rfl (I.rdbox 0 rfl 0 2) rfl rfl) ?_
  refine Ops.y (v := .agg #[.slice _ _ _, .slice _ _ _, .slice _ _ _, .slice _ _ _]) (Y.build pl_121 Tryz.zeroValue121 rfl rfl) ?_
  refine Ops.go (O.box (v := .agg #[_, _, _, _]) I rfl rfl ?_)
  intro b21 w I
  refine Ops.y (v := .pointer (some ⟨_, _, none⟩)) (Y.assign rfl) ?_
  refine Ops.nil ?_
  refine WP.seq ?_
  refine WP.seq ?_
  refine WP.region ?_
  refine Ops.y (v := .slice _ _ _) (Y.move rfl) ?_
  refine Ops.go (O.callv I Tryz.call62 (hN ▸ NStrata_ok _ I.base_ok s hI hb5) rfl ?_)
  intro w I
  refine Ops.y (v := .int .i64 _) (Y.move rfl) ?_
  refine Ops.nil ?_
  have I := I.nilSl 82 4
  refine WP.block ?_
  refine WP.loopE (σ := Nat × TrW) (fun s' => [(1, .pointer (some ⟨b1, 0, none⟩)), (4, s.val), (6, .pointer (some ⟨b21, 0, none⟩)), (23, .int .i64 N), (24, .int .i64 s'.1)])
    (fun s' w => Inv B s'.2.h (trM p b1 b21 s'.2) w ∧ s'.1 ≤ N ∧ TrJ p s'.2 h1 ∧ TraK p s.xs s'.1 (s'.2.f.xs, s'.2.xs)) (fun s' => N - s'.1)
    ⟨(0, ⟨⟨none, 0, []⟩, none, 0, [], h1⟩), ⟨rfl, rfl, rfl, rfl, rfl, trivial⟩, I.perm (List.Perm.swap ..), Nat.zero_le _, ⟨Heap.le.refl _, ok0, fnil, Nat.zero_le _⟩, rfl⟩ ?_
  rintro ⟨k, f0, a0, c0, xs0, g0⟩ e w ⟨I, hk, j0, hm⟩
  dsimp only at I hk j0 hm ⊢
  refine WP.seq ?_
  refine WP.region ?_
  refine Ops.y (v := .bool (decide _)) (Y.lti rfl rfl) ?_
  refine Ops.nil ?_
  refine WP.seq ?_
  refine WP.cond_dec rfl (fun h6 => ?_) (fun h6 => ?_)
  · have hk' : k < N := by omega
    have hp0 := hp.le (le1.trans j0.le)
    have hI0 := hI.le j0.le
    refine WP.skip ?_
    refine WP.seq ?_
    refine WP.block ?_
    refine WP.seq ?_
    refine WP.region ?_
    refine Ops.y (v := .int .i64 _) (Y.move rfl) ?_
    refine Ops.y (v := .int .i64 _) (Y.assign rfl) ?_
    refine Ops.nil ?_
    refine WP.seq ?_
    refine WP.region ?_
    refine Ops.y (v := .agg #[_, _]) (Y.loadv ty_25 rfl (I.rdbox 2 rfl 0 2) rfl rfl) ?_
    refine Ops.y (v := .slice _ _ _) (Y.move rfl) ?_
    refine Ops.y (v := .int .i64 _) (Y.move rfl) ?_
    refine Ops.go (O.call I Tryz.call65 (ROf_ok _ I.base_ok p s k) rfl ?_)
    rintro _ h8 w I le8 ⟨b4, b3, b5, rfl, k4, k3', k5⟩
    refine Ops.y (v := .func _ _ _) (Y.assign rfl) ?_
    refine Ops.nil ?_
    have hoc := ROf1_ok p s k b4 b3 b5 k4 k3' k5 (hp0.le le8) (hI0.le le8) hS.sol.len (heads_in k3)
    obtain ⟨cs, hcs⟩ : ∃ cs, cs = [Value.pointer (some ⟨b4, 0, none⟩), .pointer (some ⟨b3, 0, none⟩), .pointer (some ⟨b5, 0, none⟩)] := ⟨_, rfl⟩
    rw [← hcs] at hoc
    refine WP.seq ?_
    refine WP.region ?_
    refine Ops.y (v := .bool _) (Y.assign rfl) ?_
    refine Ops.nil ?_
    refine WP.block ?_
    refine WP.loopE (σ := Bool × TrW) (fun s' => [(1, .pointer (some ⟨b1, 0, none⟩)), (4, s.val), (6, .pointer (some ⟨b21, 0, none⟩)), (23, .int .i64 N), (24, .int .i64 k), (7, .int .i64 k), (8, .func (.func 132) #[] cs.toArray), (9, .bool s'.1)])
      (fun s' w => Inv B s'.2.h (trM p b1 b21 s'.2) w ∧ TrJ p s'.2 h8 ∧ TJ (trPass p (ofQ p s.xs k)) (f0.xs, xs0) s'.1 (s'.2.f.xs, s'.2.xs)) (fun s' => 2 * (2001 - potF p.preds.xs s'.2.f.xs) + if s'.1 = true then 1 else 0)
      ⟨(true, ⟨f0, a0, c0, xs0, h8⟩), ⟨rfl, rfl, rfl, rfl, rfl, rfl, by rw [hcs]; rfl, rfl, trivial⟩, I, ⟨Heap.le.refl _, j0.fok, j0.fin.le le8, j0.len⟩, TJ.zero⟩ ?_
    rintro ⟨ag, f1, a1, c1, xs1, g1⟩ e w ⟨I, j1, tj⟩
    dsimp only at I j1 tj ⊢
    have hpl1 := potF_le p.preds.xs f1.xs
    refine WP.seq ?_
    refine WP.seq ?_
    refine WP.region ?_
    refine Ops.y (v := .bool _) (Y.move rfl) ?_
    refine Ops.nil ?_
    refine WP.cond rfl (fun h10 => ?_) (fun h10 => ?_)
    · obtain rfl : ag = true := h10
      refine WP.skip ?_
      refine WP.block ?_
      refine WP.seq ?_
      refine WP.region ?_
      refine Ops.y (v := .bool _) (Y.assign rfl) ?_
      refine Ops.nil ?_
      refine WP.seq ?_
      refine WP.region ?_
      refine Ops.y (v := .pointer (some ⟨_, _, none⟩)) (Y.fa fa_25_1 rfl) ?_
      refine Ops.y (v := .slice _ _ _) (Y.loadv ty_23 rfl (I.rdbox 2 rfl 1 1) rfl rfl) ?_
      refine Ops.y (v := .int .i64 _) (Y.lens Tryz.underlying23 rfl) ?_
      refine Ops.y (v := .int .i64 _) (Y.move rfl) ?_
      refine Ops.nil ?_
      refine WP.block ?_
      obtain ⟨q, hq⟩ : ∃ q, ofQ p s.xs k = q := ⟨_, rfl⟩
      have hsteps : ∀ n, n ≤ p.rules.xs.length → TSteps p s.xs k (f1.xs, xs1) (trK p q (f1.xs, xs1) n) := fun n hn => by rw [← hq]; exact trK_steps rk hS.sol (s0 := (f1.xs, xs1)) j1.fok n hn
      refine WP.loopE (σ := Nat × TrW) (fun s' => [(1, .pointer (some ⟨b1, 0, none⟩)), (4, s.val), (6, .pointer (some ⟨b21, 0, none⟩)), (23, .int .i64 N), (24, .int .i64 k), (7, .int .i64 k), (8, .func (.func 132) #[] cs.toArray), (9, .bool (decide (s'.2.xs.length ≠ xs1.length))), (34, .int .i64 p.rules.xs.length), (35, .int .i64 s'.1)])
        (fun s' w => Inv B s'.2.h (trM p b1 b21 s'.2) w ∧ s'.1 ≤ p.rules.xs.length ∧ g1.le s'.2.h ∧ Fcts s'.2.f s'.2.h ∧ (s'.2.f.xs, s'.2.xs) = trK p q (f1.xs, xs1) s'.1) (fun s' => p.rules.xs.length - s'.1)
        ⟨(0, ⟨f1, a1, c1, xs1, g1⟩), ⟨rfl, rfl, rfl, rfl, rfl, rfl, rfl, congrArg Value.bool (by simp), rfl, rfl, trivial⟩, I, Nat.zero_le _, Heap.le.refl _, j1.fin, rfl⟩ ?_
      rintro ⟨n, f2, a2, c2, xs2, g2⟩ e w ⟨I, hn, gl2, hf2, hs2⟩
      dsimp only at I hn gl2 hf2 hs2 ⊢
      have hts := hsteps n hn
      rw [← hs2] at hts
      have okf2 : FOk p.preds.xs f2.xs := (tsteps_tg rk (s0 := (f1.xs, xs1)) j1.fok hts).fok
      have hl1 := j1.len
      dsimp only at hl1
      have hl2 : xs2.length ≤ potF p.preds.xs f2.xs := tsteps_len rk (s0 := (f1.xs, xs1)) j1.fok hts hl1
      have hmono : xs1.length ≤ xs2.length := by have := trK_mono (p := p) (q := q) (s := (f1.xs, xs1)) n; rw [← hs2] at this; exact this
      have hpl2 := potF_le p.preds.xs f2.xs
      refine WP.seq ?_
      refine WP.region ?_
      refine Ops.y (v := .bool (decide _)) (Y.lti rfl rfl) ?_
      refine Ops.nil ?_
      refine WP.seq ?_
      refine WP.cond_dec rfl (fun h13 => ?_) (fun h13 => ?_)
      · have hn' : n < p.rules.xs.length := by omega
        have hr : p.rules.xs[n]? = some p.rules.xs[n] := List.getElem?_eq_getElem hn'
        refine WP.skip ?_
        refine WP.seq ?_
        refine WP.block ?_
        refine WP.seq ?_
        refine WP.region ?_
        refine Ops.y (v := .int .i64 _) (Y.move rfl) ?_
        refine Ops.y (v := .int .i64 _) (Y.assign rfl) ?_
        refine Ops.nil ?_
        cases hqn : q n
        · have hk2 : trK p q (f1.xs, xs1) (n + 1) = (f2.xs, xs2) := by rw [trK, hqn, if_neg (by decide), ← hs2]
          refine WP.seq ?_
          refine WP.region ?_
          refine Ops.y (v := .func _ _ _) (Y.move rfl) ?_
          refine Ops.y (v := .int .i64 _) (Y.move rfl) ?_
          refine Ops.go (O.callcv I hoc.1 (fs := []) (cs := cs) rfl (hoc.2 _ I.base_ok (j1.le.trans gl2) n hn') rfl ?_)
          intro w I
          refine Ops.y (v := .bool false) (Y.b (Y.move rfl) ((by rw [hq]; exact hqn))) ?_
          refine Ops.gf rfl ?_
          refine Ops.gf rfl ?_
          refine Ops.gf rfl ?_
          refine Ops.y (v := .bool _) (Y.pick_f rfl rfl) ?_
          refine Ops.nil ?_
          refine WP.cond_f rfl ?_
          refine WP.skip ?_
          refine WP.region ?_
          refine Ops.y (v := .int .i64 _) (Y.addi rfl rfl ⟨by omega, by omega⟩) ?_
          refine Ops.y (v := .int .i64 _) (Y.move rfl) ?_
          refine Ops.nil ?_
          exact ⟨(n + 1, ⟨f2, a2, c2, xs2, g2⟩), ⟨⟨rfl, rfl, rfl, rfl, rfl, rfl, rfl, rfl, rfl, rfl, trivial⟩, I, by dsimp only; omega, gl2, hf2, hk2.symm⟩, by dsimp only; omega⟩
        · have hlv : lv s.xs p.rules.xs[n].head.pred = k := (ofQ_iff hr).1 (by rw [hq]; exact hqn)
          refine WP.seq ?_
          refine WP.region ?_
          refine Ops.y (v := .func _ _ _) (Y.move rfl) ?_
          refine Ops.y (v := .int .i64 _) (Y.move rfl) ?_
          refine Ops.go (O.callcv I hoc.1 (fs := []) (cs := cs) rfl (hoc.2 _ I.base_ok (j1.le.trans gl2) n hn') rfl ?_)
          intro w I
          refine Ops.y (v := .bool true) (Y.b (Y.move rfl) ((by rw [hq]; exact hqn))) ?_
          refine Ops.ygt rfl (v := .pointer (some ⟨_, _, none⟩)) (Y.move rfl) ?_
          refine Ops.ygt rfl (v := .int .i64 _) (Y.move rfl) ?_
          refine Ops.gt rfl (O.calls Tryz.call82 (ClerkRule_ok I rfl (hp0.le (le8.trans (j1.le.trans gl2))) hf2 rk hS.sol n _ hr hlv okf2 hl2) rfl ?_)
          rintro ed w ⟨f3, a3, c3, xs3, g3, rfl, le3, htr, hf3, I⟩
          refine ⟨_, rfl, ?_⟩
          refine Ops.y (v := .bool _) (Y.pick_t rfl rfl) ?_
          refine Ops.nil ?_
          have hk2 : trK p q (f1.xs, xs1) (n + 1) = (f3.xs, xs3) := by rw [trK, hqn, if_pos rfl, ← hs2, htr]
          have hmono2 : xs2.length ≤ xs3.length := by have := trL_mono (l := p.preds.xs) (r := p.rules.xs.getD n default) (stepsF f2.xs n (p.rules.xs.getD n default)) (f2.xs, xs2); rw [show trL _ _ _ _ = (f3.xs, xs3) from htr.symm] at this; exact this
          refine WP.cond_dec rfl (fun h15 => ?_) (fun h15 => ?_)
          · dsimp only at h15
            refine WP.region ?_
            refine Ops.y (v := .bool _) (Y.assign rfl) ?_
            refine Ops.nil ?_
            refine WP.region ?_
            refine Ops.y (v := .int .i64 _) (Y.addi rfl rfl ⟨by omega, by omega⟩) ?_
            refine Ops.y (v := .int .i64 _) (Y.move rfl) ?_
            refine Ops.nil ?_
            exact ⟨(n + 1, ⟨f3, a3, c3, xs3, g3⟩), ⟨⟨rfl, rfl, rfl, rfl, rfl, rfl, rfl, congrArg Value.bool (decide_eq_true (by dsimp only; omega)).symm, rfl, rfl, trivial⟩, I, by dsimp only; omega, gl2.trans le3, hf3, hk2.symm⟩, by dsimp only; omega⟩
          · dsimp only at h15
            have he : xs3.length = xs2.length := by omega
            refine WP.skip ?_
            refine WP.region ?_
            refine Ops.y (v := .int .i64 _) (Y.addi rfl rfl ⟨by omega, by omega⟩) ?_
            refine Ops.y (v := .int .i64 _) (Y.move rfl) ?_
            refine Ops.nil ?_
            exact ⟨(n + 1, ⟨f3, a3, c3, xs3, g3⟩), ⟨⟨rfl, rfl, rfl, rfl, rfl, rfl, rfl, congrArg Value.bool (by rw [he]), rfl, rfl, trivial⟩, I, by dsimp only; omega, gl2.trans le3, hf3, hk2.symm⟩, by dsimp only; omega⟩
      · obtain rfl : n = p.rules.xs.length := by omega
        have hpot := tsteps_pot rk (s0 := (f1.xs, xs1)) j1.fok hts
        dsimp only at hpot
        have hT : trPass p (ofQ p s.xs k) (f1.xs, xs1) = (f2.xs, xs2) := by rw [hq]; exact hs2.symm
        refine WP.exit ?_
        refine ⟨(decide (xs2.length ≠ xs1.length), ⟨f2, a2, c2, xs2, g2⟩), ⟨⟨rfl, rfl, rfl, rfl, rfl, rfl, rfl, rfl, trivial⟩, I, ⟨j1.le.trans gl2, okf2, hf2, hl2⟩, TJ.next tj hT⟩, ?_⟩
        dsimp only
        by_cases he : xs2.length = xs1.length
        · rw [decide_eq_false (fun h => h he)]; simp; omega
        · rw [decide_eq_true he]; simp; omega
    · obtain rfl : ag = false := by simpa using h10
      refine WP.exit ?_
      refine WP.region ?_
      refine Ops.y (v := .int .i64 _) (Y.addi rfl rfl ⟨by omega, by omega⟩) ?_
      refine Ops.y (v := .int .i64 _) (Y.move rfl) ?_
      refine Ops.nil ?_
      exact ⟨(k + 1, ⟨f1, a1, c1, xs1, g1⟩), ⟨⟨rfl, rfl, rfl, rfl, rfl, trivial⟩, I, by dsimp only; omega, ⟨j0.le.trans (le8.trans j1.le), j1.fok, j1.fin, j1.len⟩, (f0.xs, xs0), hm, tj.done⟩, by dsimp only; omega⟩
  · obtain rfl : k = N := by omega
    have hpl0 := potF_le p.preds.xs f0.xs
    have hl0 := j0.len
    dsimp only at hl0
    refine WP.exit ?_
    refine WP.seq ?_
    refine WP.region ?_
    refine Ops.y (v := .pointer (some ⟨_, _, none⟩)) (Y.move rfl) ?_
    refine Ops.y (v := .pointer (some ⟨_, _, none⟩)) (Y.nilp rfl) ?_
    refine Ops.y (v := .pointer (some ⟨_, _, none⟩)) (Y.fa fa_121_2 rfl) ?_
    refine Ops.y (v := .slice _ _ _) (Y.loadv ty_36 rfl (I.rdbox 0 rfl 3 1) rfl rfl) ?_
    refine Ops.y (v := .slice _ _ _) (Y.assign rfl) ?_
    refine Ops.y (v := .int .i64 _) (Y.assign rfl) ?_
    refine Ops.nil ?_
    obtain ⟨h5, ss, le5, hv5, hx5, ow5, I⟩ := (I.front 1 rfl).settleO rfl
    have in5 := ow5.in stp_len
    have hl5 : ss.xs.length = xs0.length := by rw [hx5]
    refine WP.ret ?_
    repeat (first | refine thenE_ret ?_ | refine blockE_ret ?_)
    exact retQ.mk (vs := [.slice _ _ _, .int .i64 _]) rfl ⟨rfl, rfl, trivial⟩ I.ext_of (.inr ⟨hpr, ss, f0.xs, by rw [hv5]; rfl, ⟨in5, by omega⟩, ow5.fl, by omega, by rw [eM, hN, hx5]; exact hm⟩)
end Go.TF
end
