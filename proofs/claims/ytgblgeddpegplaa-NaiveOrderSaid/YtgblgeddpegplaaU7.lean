/- Texts SpNaive2 RndLaw2 SpSub SpSum Sum1 Base19 SlFuncs2 SlDel Base20 Base21 Base22 Sum2 Sum3 Base23 Prog9 RoadsM Prog10 Sum4 Nai1 ProgLaw ProgLaw2 Nai2 Sum5 Nai4. -/
import Derived.Test.YtgblgeddpegplaaU4
import Derived.Test.YtgblgeddpegplaaU6
import Derived.Test.YtgblgeddpegplaaU2
import Derived.Test.YtgblgeddpegplaaU3
import Derived.Test.YtgblgeddpegplaaU5
section
/- The model is closed, each of its facts is told, it is the least, and the order of the rules is nothing to it: plain. -/
namespace Go.TF
open Go

theorem mem_uses {rs : List Rul} {r : Rul} {x : Ltl} (hr : r ∈ rs) (hx : x ∈ r.body.xs) : (r.head.pred, x) ∈ usesL rs := by
  unfold usesL
  exact List.mem_flatMap.2 ⟨r, hr, List.mem_map.2 ⟨x, hx, rfl⟩⟩
def SameLv (M : List Int) (P : Int → Prop) (f g : List Fct) : Prop := ∀ y : Fct, PF y → P (lv M y.pred) → lkF f (placeF y) = lkF g (placeF y)
theorem isF_lv {M : List Int} {P : Int → Prop} {f g : List Fct} (h : SameLv M P f g) {y : Fct} (hy : PF y) (hp : P (lv M y.pred)) : isF f y = isF g y := by unfold isF; rw [h y hy hp]
theorem ng_ge (x : Ltl) : 0 ≤ ng x := by unfold ng; split <;> omega
theorem same_symm {M : List Int} {P : Int → Prop} {f g : List Fct} (h : SameLv M P f g) : SameLv M P g f := fun y a b => (h y a b).symm
theorem lit_lv {p : Prg} {M : List Int} (hM : Sol (usesL p.rules.xs) p.preds.xs.length M) {r : Rul} (hr : r ∈ p.rules.xs) {x : Ltl} (hx : x ∈ r.body.xs) : lv M x.atom.pred + ng x ≤ lv M r.head.pred := hM.sat _ (mem_uses hr hx)
theorem run_off {l : List Prd} {M : List Int} {st : Int} {y : Fct} (hy : PF y) (hl : lv M y.pred ≠ st) : ∀ (ts : List (Stp × Fct)) (s : List Fct × Bool), FOk l s.1 → (∀ t ∈ ts, factFine l t.2 = true) → (∀ t ∈ ts, lv M t.2.pred = st) → lkF (runL l s ts).1 (placeF y) = lkF s.1 (placeF y)
  | [], s, _, _, _ => rfl
  | t :: ts, s, hs, hf, ht => by
    have hx := hf t List.mem_cons_self
    have := run_off hy hl ts (putS l s t.2) (addF_fok hs hx) (fun u hu => hf u (List.mem_cons_of_mem _ hu)) fun u hu => ht u (List.mem_cons_of_mem _ hu)
    refine this.trans ?_
    show lkF (addL l s.1 t.2) (placeF y) = _
    rw [lkF_addL hs, if_neg]
    intro e
    have := (hy.inj (fine_pf hs.len hx) e).1
    exact hl (by rw [this]; exact ht t List.mem_cons_self)
theorem run_mem {l : List Prd} {y : Fct} : ∀ (ts : List (Stp × Fct)) (s : List Fct × Bool), y ∈ (runL l s ts).1 → (∃ z ∈ s.1, placeF z = placeF y) ∨ ∃ t ∈ ts, placeF t.2 = placeF y
  | [], s, h => .inl ⟨y, h, rfl⟩
  | t :: ts, s, h => by
    rcases run_mem ts (putS l s t.2) h with ⟨z, hz, e⟩ | ⟨u, hu, e⟩
    · rcases mem_addF hz with hz | rfl | ⟨y', hy', e', rfl⟩
      · exact .inl ⟨z, hz, e⟩
      · exact .inr ⟨t, List.mem_cons_self, e⟩
      · exact .inl ⟨y', hy', e⟩
    · exact .inr ⟨u, List.mem_cons_of_mem _ hu, e⟩
theorem fok_nil {l : List Prd} (h5 : l.length ≤ 5) (hp : ∀ p ∈ l, predFine p = true) : FOk l [] := ⟨h5, hp, fun x hx => by simp at hx, List.Pairwise.nil⟩
section
variable {p : Prg} {M : List Int} (rk : ∀ r ∈ p.rules.xs, ROk p.preds.xs r) (hM : Sol (usesL p.rules.xs) p.preds.xs.length M)
theorem ofQ_iff {s : Int} {n : Nat} {r : Rul} (hr : p.rules.xs[n]? = some r) : ofQ p M s n = true ↔ lv M r.head.pred = s := by
  unfold ofQ
  rw [List.getD_eq_getElem?_getD, hr, decide_eq_true_eq]
  rfl
theorem told_lv {f : List Fct} {s : Int} : ∀ t ∈ toldL p.preds.xs f p.rules.xs (ofQ p M s), lv M t.2.pred = s := fun t ht => by
  obtain ⟨n, r, hr, hq, hs, he⟩ := mem_told.1 ht
  rw [he]; exact (ofQ_iff hr).1 hq
include rk hM
/-- What holds ahead of a round holds behind it. -/
theorem holds_next {f g : List Fct} {s : Int} (hu : underF p.preds.xs f g = true) (hs : SameLv M (· < s) f g) {r : Rul} (hr : r ∈ p.rules.xs) (hl : lv M r.head.pred ≤ s) {x : Vrs} (hx : VsOk x) (h : holdsB f r x = true) : holdsB g r x = true := by
  unfold holdsB at *
  rw [List.all_eq_true] at *
  intro t ht
  have h1 := h t ht
  unfold litOk at h1 ⊢
  rw [decide_eq_true_eq] at h1 ⊢
  have hlv := lit_lv hM hr ht
  cases hn : t.neg
  · rw [hn] at h1
    have := isF_up hu (y := groundF t.atom x) (by simpa using h1)
    rw [this]; decide
  · rw [hn] at h1
    have hng : ng t = 1 := by unfold ng; rw [hn]; rfl
    have ao := aok_of (rk r hr).preds ((rk r hr).body t ht)
    have pf := ao.pf (rk r hr).five hx 0
    have e := isF_lv hs (y := groundF t.atom x) pf (show lv M t.atom.pred < s by omega)
    rw [← e]
    exact h1
theorem holds_same {f g : List Fct} {s : Int} (hs : SameLv M (· ≤ s) f g) {r : Rul} (hr : r ∈ p.rules.xs) (hl : lv M r.head.pred ≤ s) {x : Vrs} (hx : VsOk x) : holdsB f r x = holdsB g r x ∧ headF p.preds.xs f r x = headF p.preds.xs g r x := by
  have hlit : ∀ t ∈ r.body.xs, lkF f (placeF (groundF t.atom x)) = lkF g (placeF (groundF t.atom x)) := fun t ht => by
    have hlv := lit_lv hM hr ht
    have := ng_ge t
    have ao := aok_of (rk r hr).preds ((rk r hr).body t ht)
    exact hs _ (ao.pf (rk r hr).five hx 0) (show lv M t.atom.pred ≤ s by omega)
  constructor
  · unfold holdsB
    rw [Bool.eq_iff_iff, List.all_eq_true, List.all_eq_true]
    have key : ∀ t ∈ r.body.xs, litOk f x t = litOk g x t := fun t ht => by unfold litOk isF; rw [hlit t ht]
    exact ⟨fun h t ht => (key t ht) ▸ h t ht, fun h t ht => (key t ht).symm ▸ h t ht⟩
  · unfold headF headV
    by_cases h0 : 0 ≤ r.src
    · rw [if_pos h0, if_pos h0, hlit _ (litOf_mem ⟨h0, (rk r hr).src.2⟩)]
    · rw [if_neg h0, if_neg h0]
theorem steps_same {f g : List Fct} {s : Int} (hs : SameLv M (· ≤ s) f g) {r : Rul} (hr : r ∈ p.rules.xs) (hl : lv M r.head.pred ≤ s) (n : Int) : ∀ x, x ∈ stepsF f n r → x ∈ stepsF g n r := fun x hx => by
  unfold stepsF at *
  obtain ⟨v, hv, e⟩ := List.mem_map.1 hx
  obtain ⟨h1, h2⟩ := List.mem_filter.1 hv
  refine List.mem_map.2 ⟨v, List.mem_filter.2 ⟨h1, ?_⟩, e⟩
  rw [← (holds_same rk hM hs hr hl (mem_vecs.1 h1)).1]
  exact h2
theorem told_same {f g : List Fct} {s : Int} (hs : SameLv M (· ≤ s) f g) : ∀ t, t ∈ toldL p.preds.xs f p.rules.xs (ofQ p M s) → t ∈ toldL p.preds.xs g p.rules.xs (ofQ p M s) := fun t ht => by
  obtain ⟨n, r, hr, hq, hst, he⟩ := mem_told.1 ht
  have hrm := List.mem_of_getElem? hr
  have hl := (ofQ_iff hr).1 hq
  refine mem_told.2 ⟨n, r, hr, hq, steps_same rk hM hs hrm (Int.le_of_eq hl) n _ hst, ?_⟩
  rw [he]
  exact (holds_same rk hM hs hrm (Int.le_of_eq hl) (steps_holds hst).2.1).2
theorem turn_still {f g : List Fct} {s : Int} (okf : FOk p.preds.xs f) (okg : FOk p.preds.xs g) (hs : SameLv M (· ≤ s) f g) (h : (turnT p M s f).2 = false) : (turnT p M s g).2 = false := by
  unfold turnT at *
  rw [turn_no okf (told_fine rk okf)] at h
  rw [turn_no okg (told_fine rk okg)]
  intro t ht
  have ht' := told_same rk hM (same_symm hs) t ht
  have h1 := h t ht'
  have hfine := told_fine rk okf t ht'
  rw [underF_iff] at h1 ⊢
  intro z hz
  obtain ⟨v, k1, k2⟩ := h1 z hz
  rw [List.mem_singleton.1 hz] at k1 k2 ⊢
  exact ⟨v, by rw [← hs _ (fine_pf okf.len hfine) (Int.le_of_eq (told_lv t ht'))]; exact k1, k2⟩
/-- A fact that is told. -/
def TldF (p : Prg) (f : List Fct) (y : Fct) : Prop := ∃ (n : Nat) (r : Rul) (x : Vrs), p.rules.xs[n]? = some r ∧ VsOk x ∧ stdOk r x = true ∧ holdsB f r x = true ∧ placeF (headF p.preds.xs f r x) = placeF y
structure MJ (p : Prg) (M : List Int) (k : Nat) (f : List Fct) : Prop where
  fok : FOk p.preds.xs f
  still : ∀ s : Nat, s < k → (turnT p M s f).2 = false
  lev : ∀ y ∈ f, lv M y.pred ≤ k
  told : ∀ y ∈ f, TldF p f y
theorem mj_next {k : Nat} {f : List Fct} (j : MJ p M k f) : MJ p M k (turnT p M k f).1 := by
  have tf := told_fine (q := ofQ p M k) rk j.fok
  have tl := told_lv (p := p) (M := M) (f := f) (s := k)
  have hu : underF p.preds.xs f (turnT p M k f).1 = true := turn_above j.fok tf
  have okg : FOk p.preds.xs (turnT p M k f).1 := turn_fok j.fok tf
  have hoff : SameLv M (· ≠ (k : Int)) f (turnT p M k f).1 := fun y hy hl => (run_off hy hl _ (f, false) j.fok tf tl).symm
  have hlt : SameLv M (· < (k : Int)) f (turnT p M k f).1 := fun y hy hl => hoff y hy (Int.ne_of_lt hl)
  have hold : ∀ y, TldF p f y → lv M y.pred ≤ k → PF y → TldF p (turnT p M k f).1 y := fun y ⟨n, r, x, h1, h2, h3, h4, h5⟩ hl hy => by
    have hrm := List.mem_of_getElem? h1
    have hp1 : (headF p.preds.xs f r x).pred = y.pred := ((fine_pf j.fok.len (headF_fine (rk r hrm) j.fok h2 h4)).inj hy h5).1
    exact ⟨n, r, x, h1, h2, h3, holds_next rk hM hu hlt hrm (by rw [show r.head.pred = y.pred from hp1]; exact hl) h2 h4, h5⟩
  have hmem : ∀ y ∈ (turnT p M k f).1, lv M y.pred ≤ k ∧ TldF p (turnT p M k f).1 y := fun y hy => by
    have hyf := fine_pf okg.len (okg.fine y hy)
    rcases run_mem _ (f, false) hy with ⟨z, hz, e⟩ | ⟨t, ht, e⟩
    · have hzp : z.pred = y.pred := ((fine_pf j.fok.len (j.fok.fine z hz)).inj hyf e).1
      have hl := j.lev z hz
      obtain ⟨n, r, x, h1, h2, h3, h4, h5⟩ := hold z (j.told z hz) hl (fine_pf j.fok.len (j.fok.fine z hz))
      exact ⟨hzp ▸ hl, n, r, x, h1, h2, h3, h4, h5.trans e⟩
    · have htp : t.2.pred = y.pred := ((fine_pf j.fok.len (tf t ht)).inj hyf e).1
      have hl := tl t ht
      obtain ⟨n, r, hr, hq, hs, he⟩ := mem_told.1 ht
      unfold stepsF at hs
      obtain ⟨v, hv, ev⟩ := List.mem_map.1 hs
      obtain ⟨v1, v2⟩ := List.mem_filter.1 hv
      rw [Bool.and_eq_true] at v2
      have hvv : t.1.vars = v := by rw [← ev]
      rw [hvv] at he
      obtain ⟨n', r', x', h1, h2, h3, h4, h5⟩ := hold t.2 ⟨n, r, v, hr, mem_vecs.1 v1, v2.1, v2.2, by rw [he]⟩ (Int.le_of_eq hl) (fine_pf j.fok.len (tf t ht))
      exact ⟨by rw [← htp]; exact Int.le_of_eq hl, n', r', x', h1, h2, h3, h4, h5.trans e⟩
  refine ⟨okg, fun s hs => ?_, fun y hy => (hmem y hy).1, fun y hy => (hmem y hy).2⟩
  exact turn_still rk hM j.fok okg (fun y hy hl => hoff y hy (by omega)) (j.still s hs)
theorem modK_mj (h0 : FOk p.preds.xs []) : ∀ {k : Nat} {f : List Fct} {rs : List Int}, ModK p M k f rs → MJ p M k f
  | 0, f, _, ⟨h, _⟩ => by subst h; exact ⟨h0, fun s hs => by omega, fun y hy => by simp at hy, fun y hy => by simp at hy⟩
  | k + 1, f, _, ⟨f0, r0, n, a, b, _⟩ => by
    have j := modK_mj h0 a
    have j2 : MJ p M k f := b.inv (J := MJ p M k) j fun g hg _ => mj_next rk hM hg
    refine ⟨j2.fok, fun s hs => ?_, fun y hy => by have := j2.lev y hy; omega, j2.told⟩
    rcases Nat.lt_succ_iff_lt_or_eq.1 hs with h | rfl
    · exact j2.still s h
    · exact b.end_
end
/-! ### In whatever order -/
theorem turn_rules {p q : Prg} {M : List Int} (hp : p.preds.xs = q.preds.xs) (hR : ∀ r, r ∈ p.rules.xs ↔ r ∈ q.rules.xs) (rk : ∀ r ∈ p.rules.xs, ROk p.preds.xs r) {f : List Fct} (okf : FOk p.preds.xs f) (s : Int) : turnT p M s f = turnT q M s f := by
  have rk2 : ∀ r ∈ q.rules.xs, ROk p.preds.xs r := fun r hr => rk r ((hR r).2 hr)
  have key : ∀ (p q : Prg), p.preds.xs = q.preds.xs → (∀ r, r ∈ p.rules.xs → r ∈ q.rules.xs) → ∀ t ∈ toldL p.preds.xs f p.rules.xs (ofQ p M s), ∃ u ∈ toldL p.preds.xs f q.rules.xs (ofQ q M s), u.2 = t.2 := fun p q hp hR t ht => by
    obtain ⟨n, r, hr, hq, hs, he⟩ := mem_told.1 ht
    obtain ⟨m, hm, em⟩ := List.getElem_of_mem (hR r (List.mem_of_getElem? hr))
    have hm' : q.rules.xs[m]? = some r := by rw [List.getElem?_eq_getElem hm, em]
    unfold stepsF at hs
    obtain ⟨v, hv, ev⟩ := List.mem_map.1 hs
    refine ⟨(⟨(m : Int), v⟩, t.2), mem_told.2 ⟨m, r, hm', (ofQ_iff hm').2 ((ofQ_iff hr).1 hq), ?_, ?_⟩, rfl⟩
    · unfold stepsF; exact List.mem_map.2 ⟨v, hv, rfl⟩
    · rw [he, show t.1.vars = v by rw [← ev]]
  have tp := told_fine (q := ofQ p M s) rk okf
  have tq := told_fine (q := ofQ q M s) rk2 okf
  have rp := run_up _ (f, false) okf tp
  have rq := run_up _ (f, false) okf tq
  have e1 : (turnT p M s f).1 = (turnT q M s f).1 := by
    show (runL p.preds.xs (f, false) _).1 = (runL q.preds.xs (f, false) _).1
    rw [← hp]
    refine under_anti rp.fok rq.fok (run_least rq.fok _ (f, false) okf tp rq.up fun t ht => ?_) (run_least rp.fok _ (f, false) okf tq rp.up fun t ht => ?_)
    · obtain ⟨u, hu, e⟩ := key p q hp (fun r => (hR r).1) t ht
      rw [← e]; exact rq.each u hu
    · obtain ⟨u, hu, e⟩ := key q p hp.symm (fun r => (hR r).2) t (hp ▸ ht)
      rw [← e]; exact rp.each u (hp ▸ hu)
  have e2 : (turnT p M s f).2 = (turnT q M s f).2 := by
    have h1 : (turnT p M s f).2 = decide ((turnT p M s f).1 ≠ f) := turn_chg okf tp
    have h2 : (turnT q M s f).2 = decide ((turnT q M s f).1 ≠ f) := by unfold turnT; rw [← hp]; exact turn_chg okf tq
    rw [h1, h2, e1]
  exact Prod.ext e1 e2
theorem modK_rules {p q : Prg} {M : List Int} (hp : p.preds.xs = q.preds.xs) (hR : ∀ r, r ∈ p.rules.xs ↔ r ∈ q.rules.xs) (rk : ∀ r ∈ p.rules.xs, ROk p.preds.xs r) (h0 : FOk p.preds.xs []) : ∀ {k : Nat} {f : List Fct} {rs : List Int}, ModK p M k f rs → FOk p.preds.xs f ∧ ModK q M k f rs
  | 0, f, rs, h => ⟨by rw [h.1]; exact h0, h⟩
  | k + 1, f, rs, ⟨f0, r0, n, a, c, e⟩ => by
    obtain ⟨ok0, a'⟩ := modK_rules hp hR rk h0 a
    have key : ∀ {f0 f : List Fct} {n : Nat}, Clo (turnT p M k) f0 f n → FOk p.preds.xs f0 → FOk p.preds.xs f ∧ Clo (turnT q M k) f0 f n := fun {f0 f n} c => by
      induction c with
      | stop h => intro ok; exact ⟨ok, .stop (by rw [← turn_rules hp hR rk ok]; exact h)⟩
      | step h c ih =>
        intro ok
        have e := turn_rules (M := M) hp hR rk ok (k : Int)
        obtain ⟨i1, i2⟩ := ih (turn_fok ok (told_fine rk ok))
        exact ⟨i1, .step (by rw [← e]; exact h) (by rw [← e]; exact i2)⟩
    obtain ⟨i1, i2⟩ := key c ok0
    exact ⟨i1, f0, r0, n, a', i2, e⟩
theorem least_rules {rs rs' : List Rul} {n : Nat} {M : List Int} (hR : ∀ r, r ∈ rs → r ∈ rs') (h : Least (usesL rs) n M) (hR2 : ∀ r, r ∈ rs' → r ∈ rs) : Least (usesL rs') n M := by
  have key : ∀ (rs rs' : List Rul), (∀ r, r ∈ rs' → r ∈ rs) → ∀ K, Sol (usesL rs) n K → Sol (usesL rs') n K := fun _ _ hR K h => ⟨h.len, h.pos, fun c hc => by
    unfold usesL at hc
    obtain ⟨r, hr, hc⟩ := List.mem_flatMap.1 hc
    obtain ⟨x, hx, rfl⟩ := List.mem_map.1 hc
    exact h.sat _ (mem_uses (hR r hr) hx)⟩
  exact ⟨key _ _ hR2 _ h.sol, fun K hK => h.least K (key _ _ hR _ hK)⟩
end Go.TF
end
section
/- The laws of a round, the other two: each returns true. -/
namespace Go.TF
open Go Go.RowKit Go.Proofs
set_option maxRecDepth 20000

def sumN (L : List Int) : Nat := (L.map Int.toNat).sum
theorem sum_min : ∀ (L M : List Int), L.length = M.length → (∀ x ∈ L, 0 ≤ x) → (∀ x ∈ M, 0 ≤ x) → sumN (List.zipWith min L M) ≤ sumN L ∧ (sumN (List.zipWith min L M) = sumN L → ∀ (j : Nat) (h1 : j < L.length) (h2 : j < M.length), L[j] ≤ M[j])
  | [], _, _, _, _ => ⟨by simp [sumN], fun _ j h1 => by simp at h1⟩
  | _ :: _, [], h, _, _ => by simp at h
  | a :: L, b :: M, h, hp, hp2 => by
    obtain ⟨i1, i2⟩ := sum_min L M (by simpa using h) (fun x hx => hp x (List.mem_cons_of_mem _ hx)) fun x hx => hp2 x (List.mem_cons_of_mem _ hx)
    have hb := hp2 b List.mem_cons_self
    have ha := hp a List.mem_cons_self
    have e1 : sumN (List.zipWith min (a :: L) (b :: M)) = (min a b).toNat + sumN (List.zipWith min L M) := by simp [sumN]
    have e2 : sumN (a :: L) = a.toNat + sumN L := by simp [sumN]
    rw [e1, e2]
    refine ⟨by omega, fun e j h1 h2 => ?_⟩
    cases j with
    | zero => show a ≤ b; omega
    | succ j => exact i2 (by omega) j (by simpa using h1) (by simpa using h2)
theorem least_ex {cs : List (Int × Ltl)} {n : Nat} {M0 : List Int} (h0 : Sol cs n M0) : ∃ L, Least cs n L := by
  have hmin : ∀ k : Nat, ∀ L, Sol cs n L → sumN L = k → ∃ L, Sol cs n L ∧ ∀ M, Sol cs n M → sumN L ≤ sumN M := by
    intro k
    induction k using Nat.strongRecOn with
    | ind k ih =>
      intro L hL hk
      by_cases hx : ∃ M, Sol cs n M ∧ sumN M < k
      · obtain ⟨M, hM, hlt⟩ := hx
        exact ih _ hlt M hM rfl
      · refine ⟨L, hL, fun M hM => ?_⟩
        rcases Nat.lt_or_ge (sumN M) k with h | h
        · exact absurd ⟨M, hM, h⟩ hx
        · omega
  obtain ⟨L, hL, hm⟩ := hmin _ M0 h0 rfl
  refine ⟨L, hL, fun M hM i => ?_⟩
  have hlv : ∀ i, lv (List.zipWith min L M) i = min (lv L i) (lv M i) := fun i => by
    simp only [lv, List.getD_eq_getElem?_getD, List.getElem?_zipWith]
    by_cases hi : i.toNat < n
    · rw [List.getElem?_eq_getElem (by rw [hL.len]; exact hi), List.getElem?_eq_getElem (by rw [hM.len]; exact hi)]; rfl
    · rw [List.getElem?_eq_none (by rw [hL.len]; omega), List.getElem?_eq_none (by rw [hM.len]; omega)]; rfl
  have hS : Sol cs n (List.zipWith min L M) := by
    refine ⟨by rw [List.length_zipWith, hL.len, hM.len, Nat.min_self], fun i => ?_, fun c hc => ?_⟩
    · rw [hlv]; have := hL.pos i; have := hM.pos i; omega
    · have h1 := hL.sat c hc
      have h2 := hM.sat c hc
      unfold SatC lst at *
      rw [hlv, hlv]; omega
  have hnn : ∀ K, Sol cs n K → ∀ x ∈ K, 0 ≤ x := fun K hK x hx => by
    obtain ⟨j, hj, rfl⟩ := List.getElem_of_mem hx
    have := hK.pos j
    rw [lv_get hj] at this; exact this
  obtain ⟨s1, s2⟩ := sum_min L M (hL.len.trans hM.len.symm) (hnn L hL) (hnn M hM)
  have := s2 (Nat.le_antisymm s1 (hm _ hS))
  by_cases hi : i.toNat < n
  · simp only [lv, List.getD_eq_getElem?_getD]
    rw [List.getElem?_eq_getElem (by rw [hL.len]; exact hi), List.getElem?_eq_getElem (by rw [hM.len]; exact hi)]
    exact this _ _ _
  · simp only [lv, List.getD_eq_getElem?_getD]
    rw [List.getElem?_eq_none (by rw [hL.len]; omega), List.getElem?_eq_none (by rw [hM.len]; omega)]; exact Int.le_refl _
theorem strataM_least {p : Prg} (h : checkProg p = 0) : Least (usesL p.rules.xs) p.preds.xs.length (strataM p) := by
  obtain ⟨_, _, _, M, hM⟩ := checkProg_ok h
  obtain ⟨L, hL⟩ := least_ex hM
  rw [strataM_eq hL]; exact hL
theorem least_lt {cs : List (Int × Ltl)} {n : Nat} {L : List Int} (hr : InR cs n) (h : Least cs n L) {i : Int} (h0 : 0 ≤ i) (h1 : i < n) : lv L i < n := by
  obtain ⟨M', hM', hlt⟩ := h.sol.small hr
  exact Int.lt_of_le_of_lt (h.least M' hM' i) (hlt i h0 h1)
end Go.TF
end
section
/- A program of some of another's rules: right too, no stratum greater; what is needed follows alike: plain. -/
namespace Go.TF
open Go

theorem chk_preds {p : Prg} (h : checkProg p = 0) : ∀ x ∈ p.preds.xs, predFine x = true := by
  unfold checkProg at h
  split at h
  · cases h
  split at h
  · cases h
  split at h
  · cases h
  split at h
  · cases h
  split at h
  · cases h
  rename_i h1 h2 h3 h4 h5
  intro x hx
  have a : badArity x ≠ true := fun e => h4 (List.any_eq_true.2 ⟨x, hx, e⟩)
  have b : badKind x ≠ true := fun e => h5 (List.any_eq_true.2 ⟨x, hx, e⟩)
  simp only [badArity, badKind, ne_eq, decide_eq_true_eq, not_or, Int.not_lt] at a b
  simp only [predFine, decide_eq_true_eq]
  omega
theorem chk_nil {p : Prg} (h : checkProg p = 0) : FOk p.preds.xs [] := fok_nil (checkProg_ok h).1 (chk_preds h)
theorem chk_rok {p : Prg} (h : checkProg p = 0) : ∀ r ∈ p.rules.xs, ROk p.preds.xs r := rules_rok h (chk_nil h)
theorem sol_sub {rs rs' : List Rul} {n : Nat} {K : List Int} (hR : ∀ r, r ∈ rs' → r ∈ rs) (h : Sol (usesL rs) n K) : Sol (usesL rs') n K := ⟨h.len, h.pos, fun c hc => by
  unfold usesL at hc
  obtain ⟨r, hr, hc⟩ := List.mem_flatMap.1 hc
  obtain ⟨x, hx, rfl⟩ := List.mem_map.1 hc
  exact h.sat _ (mem_uses (hR r hr) hx)⟩
theorem checkProg_sub {p q : Prg} (hp : q.preds.xs = p.preds.xs) (hl : q.rules.xs.length ≤ 8) (hR : ∀ r, r ∈ q.rules.xs → r ∈ p.rules.xs) (h : checkProg p = 0) : checkProg q = 0 := by
  obtain ⟨k1, k2, k3, M, hM⟩ := checkProg_ok h
  have k3' : rulesErr p.preds.xs q.rules.xs = 0 := rulesErr_zero.2 fun r hr => rulesErr_zero.1 k3 r (hR r hr)
  unfold checkProg at h ⊢
  rw [hp]
  split at h
  · cases h
  rw [if_neg (by omega)]
  split at h
  · cases h
  rename_i g2
  rw [if_neg g2]
  split at h
  · cases h
  rename_i g3
  rw [if_neg g3]
  split at h
  · cases h
  rename_i g4
  rw [if_neg g4]
  split at h
  · cases h
  rename_i g5
  rw [if_neg g5, if_neg (by rw [k3']; exact fun h => h rfl), if_pos ⟨M, sol_sub hR hM⟩]
/-- No stratum is greater. -/
theorem strata_sub {p q : Prg} (hp : q.preds.xs = p.preds.xs) (hR : ∀ r, r ∈ q.rules.xs → r ∈ p.rules.xs) (h : checkProg p = 0) (h2 : checkProg q = 0) (i : Int) : lv (strataM q) i ≤ lv (strataM p) i :=
  (strataM_least h2).least _ (by rw [hp]; exact sol_sub hR (strataM_least h).sol) i
theorem most_sub {K M : List Int} (hl : K.length = M.length) (h : ∀ i, lv K i ≤ lv M i) : mostL K ≤ mostL M := by
  rcases mostL_of K with e | e
  · rw [e]; exact mostL_ge M
  · obtain ⟨j, hj, e⟩ := List.getElem_of_mem e
    have h1 := h j
    rw [lv_get hj, lv_get (hl ▸ hj), e] at h1
    exact Int.le_trans h1 (mostL_mem (List.getElem_mem _))
/-! ### Only what is needed -/
section
variable {l : List Prd} {N : List Bool}
def nd (N : List Bool) (x : Fct) : Bool := bv N x.pred
theorem addF_front {k : Int} {x : Fct} : ∀ {g : List Fct}, (∀ z ∈ g, placeF x < placeF z) → (addF k g x).1 = x :: g
  | [], _ => rfl
  | z :: g, h => by
    have := h z List.mem_cons_self
    rw [addF, if_neg (by omega), if_pos this]
theorem nd_add {k : Int} {x : Fct} : ∀ {f : List Fct}, SrtF f → (∀ y ∈ f, placeF y = placeF x → y.pred = x.pred) → (addF k f x).1.filter (nd N) = if nd N x = true then (addF k (f.filter (nd N)) x).1 else f.filter (nd N)
  | [], _, _ => by
    rw [addF]
    cases h : nd N x <;> simp [h, addF]
  | y :: r, hs, hx => by
    obtain ⟨s1, s2⟩ := List.pairwise_cons.1 hs
    have ih := nd_add (k := k) (x := x) s2 fun z hz => hx z (List.mem_cons_of_mem _ hz)
    rw [addF]
    split
    · rename_i e
      have hp := hx y List.mem_cons_self e
      have hy : nd N y = nd N x := by unfold nd; rw [hp]
      have hy2 : nd N (⟨y.pred, y.a, y.b, joinV k y.v x.v⟩ : Fct) = nd N x := hy
      cases h : nd N x
      · simp [hy, hy2, h]
      · rw [List.filter_cons, if_pos (by rw [hy2, h]), if_pos rfl, List.filter_cons, if_pos (by rw [hy, h]), addF, if_pos e]
    · rename_i e
      split
      · rename_i e2
        cases h : nd N x
        · simp [h]
        · rw [List.filter_cons, if_pos h, if_pos rfl, addF_front]
          intro z hz
          obtain ⟨hz, _⟩ := List.mem_filter.1 hz
          rcases List.mem_cons.1 hz with rfl | hz
          · exact e2
          · exact Int.lt_trans e2 (s1 z hz)
      · rename_i e2
        show (y :: (addF k r x).1).filter _ = _
        rw [List.filter_cons, ih]
        cases h : nd N x
        · simp only [Bool.false_eq_true, if_false]
          rw [List.filter_cons]
        · simp only [if_true]
          cases hy : nd N y
          · simp [hy]
          · rw [if_pos rfl, List.filter_cons, if_pos hy, addF, if_neg e, if_neg e2]
theorem nd_fok {f : List Fct} (h : FOk l f) : FOk l (f.filter (nd N)) := ⟨h.len, h.preds, fun x hx => h.fine x (List.mem_filter.1 hx).1, h.srt.sublist List.filter_sublist⟩
theorem nd_look {f : List Fct} (h : FOk l f) {y : Fct} (hy : PF y) (hn : nd N y = true) : lkF (f.filter (nd N)) (placeF y) = lkF f (placeF y) := by
  have ho := nd_fok (N := N) h
  cases hl : lkF f (placeF y) with
  | none =>
    refine lkF_none.2 fun z hz => lkF_none.1 hl z (List.mem_filter.1 hz).1
  | some v =>
    obtain ⟨z, hz, e, ev⟩ := lkF_mem hl
    refine (lkF_some ho.srt).2 ⟨z, List.mem_filter.2 ⟨hz, ?_⟩, e, ev⟩
    have := ((fine_pf h.len (h.fine z hz)).inj hy e).1
    unfold nd at hn ⊢
    rw [this]; exact hn
theorem nd_run : ∀ (ts : List (Stp × Fct)) (s : List Fct × Bool), FOk l s.1 → (∀ t ∈ ts, factFine l t.2 = true) → ∀ b, (runL l s ts).1.filter (nd N) = (runL l (s.1.filter (nd N), b) (ts.filter fun t => nd N t.2)).1
  | [], s, _, _, b => rfl
  | t :: ts, s, hs, hf, b => by
    have hx := hf t List.mem_cons_self
    have ih := nd_run ts (putS l s t.2) (addF_fok hs hx) fun u hu => hf u (List.mem_cons_of_mem _ hu)
    have hadd := nd_add (N := N) (k := (predOf l t.2.pred).kind) (x := t.2) hs.srt fun y hy e => same_pred hs.len (hs.fine y hy) hx e
    show (runL l (putS l s t.2) ts).1.filter _ = _
    cases h : nd N t.2
    · rw [List.filter_cons, if_neg (by rw [h]; decide), ih b]
      rw [h] at hadd
      rw [show (putS l s t.2).1.filter (nd N) = s.1.filter (nd N) from hadd]
    · rw [List.filter_cons, if_pos h]
      rw [h] at hadd
      show _ = (runL l (putS l (s.1.filter (nd N), b) t.2) _).1
      rw [ih (putS l (s.1.filter (nd N), b) t.2).2]
      rw [show (putS l s t.2).1.filter (nd N) = (putS l (s.1.filter (nd N), b) t.2).1 from hadd]
end
structure Only (p q : Prg) (N : List Bool) : Prop where
  preds : q.preds.xs = p.preds.xs
  rules : ∀ r, r ∈ q.rules.xs ↔ r ∈ p.rules.xs ∧ bv N r.head.pred = true
  cp : checkProg p = 0
  cq : checkProg q = 0
  closed : ClosedN (usesL p.rules.xs) N
section
variable {p q : Prg} {N : List Bool} (o : Only p q N)
include o
theorem Only.sub : ∀ r, r ∈ q.rules.xs → r ∈ p.rules.xs := fun r hr => ((o.rules r).1 hr).1
theorem Only.body {r : Rul} (hr : r ∈ p.rules.xs) (hn : bv N r.head.pred = true) {x : Ltl} (hx : x ∈ r.body.xs) : bv N x.atom.pred = true := o.closed _ (mem_uses hr hx) hn
theorem Only.lv {i : Int} (hn : bv N i = true) : lv (strataM q) i = lv (strataM p) i := by
  have hle := strata_sub o.preds o.sub o.cp o.cq
  refine Int.le_antisymm (hle i) ?_
  have hLp := strataM_least o.cp
  have hLq := strataM_least o.cq
  rw [o.preds] at hLq
  have hcomb : ∃ L : List Int, L.length = p.preds.xs.length ∧ ∀ i, Go.TF.lv L i = if bv N i = true then Go.TF.lv (strataM q) i else Go.TF.lv (strataM p) i := by
    refine ⟨(List.range p.preds.xs.length).map fun (j : Nat) => if bv N j = true then Go.TF.lv (strataM q) j else Go.TF.lv (strataM p) j, by simp, fun i => ?_⟩
    have hbv : bv N i = bv N (i.toNat : Int) := rfl
    have hlq : Go.TF.lv (strataM q) i = Go.TF.lv (strataM q) (i.toNat : Int) := rfl
    have hlp : Go.TF.lv (strataM p) i = Go.TF.lv (strataM p) (i.toNat : Int) := rfl
    rw [hbv, hlq, hlp]
    show (List.map _ _).getD i.toNat 0 = _
    generalize i.toNat = j
    by_cases hi : j < p.preds.xs.length
    · rw [List.getD_eq_getElem?_getD, List.getElem?_map, List.getElem?_range hi]; rfl
    · have e1 : Go.TF.lv (strataM q) (j : Int) = 0 := by unfold Go.TF.lv; rw [List.getD_eq_getElem?_getD, List.getElem?_eq_none (by rw [hLq.sol.len, Int.toNat_natCast]; omega)]; rfl
      have e2 : Go.TF.lv (strataM p) (j : Int) = 0 := by unfold Go.TF.lv; rw [List.getD_eq_getElem?_getD, List.getElem?_eq_none (by rw [hLp.sol.len, Int.toNat_natCast]; omega)]; rfl
      rw [e1, e2, List.getD_eq_getElem?_getD, List.getElem?_eq_none (by rw [List.length_map, List.length_range]; omega)]
      split <;> rfl
  obtain ⟨L, h1, h2⟩ := hcomb
  have hS : Sol (usesL p.rules.xs) p.preds.xs.length L := by
    refine ⟨h1, fun i => ?_, fun c hc => ?_⟩
    · rw [h2]; split
      · exact hLq.sol.pos i
      · exact hLp.sol.pos i
    · unfold usesL at hc
      obtain ⟨r, hr, hc⟩ := List.mem_flatMap.1 hc
      obtain ⟨x, hx, rfl⟩ := List.mem_map.1 hc
      unfold SatC lst
      dsimp only
      rw [h2, h2]
      by_cases hn : bv N r.head.pred = true
      · rw [if_pos hn, if_pos (o.body hr hn hx)]
        exact hLq.sol.sat _ (mem_uses ((o.rules r).2 ⟨hr, hn⟩) hx)
      · rw [if_neg hn]
        have h3 := hLp.sol.sat _ (mem_uses hr hx)
        unfold SatC lst at h3
        dsimp only at h3
        split
        · have := hle x.atom.pred; omega
        · exact h3
  have := hLp.least L hS i
  rw [h2, if_pos hn] at this
  exact this
theorem Only.hold {f : List Fct} (okf : FOk p.preds.xs f) {r : Rul} (hr : r ∈ p.rules.xs) (hn : bv N r.head.pred = true) {x : Vrs} (hx : VsOk x) : holdsB (f.filter (nd N)) r x = holdsB f r x ∧ headF p.preds.xs (f.filter (nd N)) r x = headF p.preds.xs f r x := by
  have rk := chk_rok o.cp
  have hlit : ∀ t ∈ r.body.xs, lkF (f.filter (nd N)) (placeF (groundF t.atom x)) = lkF f (placeF (groundF t.atom x)) := fun t ht => by
    have ao := aok_of (rk r hr).preds ((rk r hr).body t ht)
    exact nd_look okf (ao.pf (rk r hr).five hx 0) (o.body hr hn ht)
  constructor
  · unfold holdsB
    rw [Bool.eq_iff_iff, List.all_eq_true, List.all_eq_true]
    have key : ∀ t ∈ r.body.xs, litOk (f.filter (nd N)) x t = litOk f x t := fun t ht => by unfold litOk isF; rw [hlit t ht]
    exact ⟨fun h t ht => (key t ht) ▸ h t ht, fun h t ht => (key t ht).symm ▸ h t ht⟩
  · unfold headF headV
    by_cases h0 : 0 ≤ r.src
    · rw [if_pos h0, if_pos h0, hlit _ (litOf_mem ⟨h0, (rk r hr).src.2⟩)]
    · rw [if_neg h0, if_neg h0]
theorem Only.told {f : List Fct} (okf : FOk p.preds.xs f) (s : Int) (y : Fct) : (∃ t ∈ toldL q.preds.xs (f.filter (nd N)) q.rules.xs (ofQ q (strataM q) s), t.2 = y) ↔ ∃ t ∈ toldL p.preds.xs f p.rules.xs (ofQ p (strataM p) s), t.2 = y ∧ nd N y = true := by
  constructor
  · rintro ⟨t, ht, rfl⟩
    obtain ⟨n, r, hr, hq, hs, he⟩ := mem_told.1 ht
    obtain ⟨hrp, hn⟩ := (o.rules r).1 (List.mem_of_getElem? hr)
    obtain ⟨m, hm, em⟩ := List.getElem_of_mem hrp
    have hm' : p.rules.xs[m]? = some r := by rw [List.getElem?_eq_getElem hm, em]
    have hlv := (ofQ_iff hr).1 hq
    rw [o.lv hn] at hlv
    unfold stepsF at hs
    obtain ⟨v, hv, ev⟩ := List.mem_map.1 hs
    obtain ⟨v1, v2⟩ := List.mem_filter.1 hv
    have hh := o.hold okf hrp hn (mem_vecs.1 v1)
    have hvv : t.1.vars = v := by rw [← ev]
    refine ⟨(⟨(m : Int), v⟩, t.2), mem_told.2 ⟨m, r, hm', (ofQ_iff hm').2 hlv, ?_, ?_⟩, rfl, ?_⟩
    · unfold stepsF; exact List.mem_map.2 ⟨v, List.mem_filter.2 ⟨v1, by rw [← hh.1]; exact v2⟩, rfl⟩
    · rw [he, hvv, o.preds]; exact hh.2
    · rw [he]; exact hn
  · rintro ⟨t, ht, rfl, hn⟩
    obtain ⟨n, r, hr, hq, hs, he⟩ := mem_told.1 ht
    have hrp := List.mem_of_getElem? hr
    have hn : bv N r.head.pred = true := by rw [he] at hn; exact hn
    obtain ⟨m, hm, em⟩ := List.getElem_of_mem ((o.rules r).2 ⟨hrp, hn⟩)
    have hm' : q.rules.xs[m]? = some r := by rw [List.getElem?_eq_getElem hm, em]
    have hlv := (ofQ_iff hr).1 hq
    rw [← o.lv hn] at hlv
    unfold stepsF at hs
    obtain ⟨v, hv, ev⟩ := List.mem_map.1 hs
    obtain ⟨v1, v2⟩ := List.mem_filter.1 hv
    have hh := o.hold okf hrp hn (mem_vecs.1 v1)
    have hvv : t.1.vars = v := by rw [← ev]
    refine ⟨(⟨(m : Int), v⟩, t.2), mem_told.2 ⟨m, r, hm', (ofQ_iff hm').2 hlv, ?_, ?_⟩, rfl⟩
    · unfold stepsF; exact List.mem_map.2 ⟨v, List.mem_filter.2 ⟨v1, by rw [hh.1]; exact v2⟩, rfl⟩
    · rw [he, hvv, o.preds]; exact hh.2.symm
theorem Only.turn {f : List Fct} (okf : FOk p.preds.xs f) (s : Int) : (turnT q (strataM q) s (f.filter (nd N))).1 = (turnT p (strataM p) s f).1.filter (nd N) := by
  have rk := chk_rok o.cp
  have rkq := chk_rok o.cq
  rw [o.preds] at rkq
  have okF := nd_fok (N := N) okf
  have tp := told_fine (q := ofQ p (strataM p) s) rk okf
  have tq : ∀ t ∈ toldL q.preds.xs (f.filter (nd N)) q.rules.xs (ofQ q (strataM q) s), factFine p.preds.xs t.2 = true := by rw [o.preds]; exact told_fine rkq okF
  have e := nd_run (N := N) _ (f, false) okf tp false
  show (runL q.preds.xs (f.filter (nd N), false) _).1 = (runL p.preds.xs (f, false) _).1.filter (nd N)
  rw [e]
  have t2 : ∀ t ∈ (toldL p.preds.xs f p.rules.xs (ofQ p (strataM p) s)).filter (fun t => nd N t.2), factFine p.preds.xs t.2 = true := fun t ht => tp t (List.mem_filter.1 ht).1
  have r1 := run_up _ (f.filter (nd N), false) okF tq
  have r2 := run_up _ (f.filter (nd N), false) okF t2
  have hpq : runL q.preds.xs = runL p.preds.xs := by rw [o.preds]
  rw [hpq]
  refine under_anti r1.fok r2.fok (run_least r2.fok _ (f.filter (nd N), false) okF tq r2.up fun t ht => ?_) (run_least r1.fok _ (f.filter (nd N), false) okF t2 r1.up fun t ht => ?_)
  · obtain ⟨u, hu, e1, e2⟩ := (o.told okf s t.2).1 ⟨t, ht, rfl⟩
    rw [← e1]
    exact r2.each u (List.mem_filter.2 ⟨hu, by rw [e1]; exact e2⟩)
  · obtain ⟨h1, h2⟩ := List.mem_filter.1 ht
    obtain ⟨u, hu, e1⟩ := (o.told okf s t.2).2 ⟨t, h1, rfl, h2⟩
    rw [← e1]
    exact r1.each u hu
theorem Only.clo {s : Int} {f r : List Fct} {n : Nat} (h : Clo (turnT p (strataM p) s) f r n) : FOk p.preds.xs f → ∃ m, Clo (turnT q (strataM q) s) (f.filter (nd N)) (r.filter (nd N)) m := by
  have rk := chk_rok o.cp
  have rkq := chk_rok o.cq
  have chg : ∀ g, FOk p.preds.xs g → (turnT q (strataM q) s (g.filter (nd N))).2 = decide ((turnT q (strataM q) s (g.filter (nd N))).1 ≠ g.filter (nd N)) := fun g okg => turn_chg (by rw [o.preds]; exact nd_fok okg) (told_fine rkq (by rw [o.preds]; exact nd_fok okg))
  induction h with
  | @stop f h =>
    intro okf
    refine ⟨0, .stop ?_⟩
    rw [chg f okf, o.turn okf]
    have h1 : (turnT p (strataM p) s f).2 = decide ((turnT p (strataM p) s f).1 ≠ f) := turn_chg okf (told_fine rk okf)
    rw [h] at h1
    have h2 := of_decide_eq_false h1.symm
    rw [Decidable.not_not.1 h2]
    exact decide_eq_false fun hh => hh rfl
  | @step f r n h c ih =>
    intro okf
    obtain ⟨m, cm⟩ := ih (turn_fok okf (told_fine rk okf))
    rw [← o.turn okf] at cm
    cases hc : (turnT q (strataM q) s (f.filter (nd N))).2
    · have h1 := chg f okf
      rw [hc] at h1
      have h2 := Decidable.not_not.1 (of_decide_eq_false h1.symm)
      rw [h2] at cm
      exact ⟨m, cm⟩
    · exact ⟨m + 1, .step hc cm⟩
theorem Only.mod : ∀ {k : Nat} {f : List Fct} {rs : List Int}, ModK p (strataM p) k f rs → ∃ rs', ModK q (strataM q) k (f.filter (nd N)) rs'
  | 0, f, rs, ⟨h, _⟩ => ⟨[], by rw [h]; rfl, rfl⟩
  | k + 1, f, rs, ⟨f0, r0, n, a, b, _⟩ => by
    have j := modK_mj (chk_rok o.cp) (strataM_least o.cp).sol (chk_nil o.cp) a
    obtain ⟨rs', m⟩ := Only.mod a
    obtain ⟨n', c⟩ := o.clo b j.fok
    exact ⟨_, _, _, _, m, c, rfl⟩
theorem Only.most : numS (strataM q) ≤ numS (strataM p) := by
  have := most_sub (K := strataM q) (M := strataM p) (by rw [(strataM_least o.cq).sol.len, (strataM_least o.cp).sol.len, o.preds]) (strata_sub o.preds o.sub o.cp o.cq)
  unfold numS; omega
theorem Only.model {f g : List Fct} {rs rs' : List Int} (m : ModK p (strataM p) (numS (strataM p)) f rs) (m2 : ModK q (strataM q) (numS (strataM q)) g rs') : g = f.filter (nd N) := by
  obtain ⟨rs2, h⟩ := o.mod m
  have hLq := strataM_least o.cq
  have key : ∀ (d k : Nat), k = numS (strataM q) + d → ∀ {f rs}, ModK q (strataM q) k f rs → ∃ rs', ModK q (strataM q) (numS (strataM q)) f rs' := by
    intro d
    induction d with
    | zero => intro k hk f rs h; rw [hk] at h; exact ⟨rs, h⟩
    | succ d ih =>
      intro k hk f rs h
      rw [show k = (numS (strataM q) + d) + 1 by omega] at h
      obtain ⟨f0, r0, n, a, b, _⟩ := h
      have hno : ∀ g, (turnT q (strataM q) ((numS (strataM q) + d : Nat) : Int) g).2 = false := fun g => by
        have : toldL q.preds.xs g q.rules.xs (ofQ q (strataM q) ((numS (strataM q) + d : Nat) : Int)) = [] := by
          refine List.eq_nil_iff_forall_not_mem.2 fun t ht => ?_
          obtain ⟨n, r, hr, hq, _, _⟩ := mem_told.1 ht
          have e := (ofQ_iff hr).1 hq
          obtain ⟨_, _, k3, _, _⟩ := checkProg_ok o.cq
          obtain ⟨i0, i1⟩ := heads_in k3 r (List.mem_of_getElem? hr)
          have hlt : r.head.pred.toNat < (strataM q).length := by rw [hLq.sol.len]; omega
          have e2 := lv_get hlt
          rw [Int.toNat_of_nonneg i0] at e2
          have := mostL_mem (List.getElem_mem hlt)
          have := mostL_ge (strataM q)
          rw [e2] at e
          unfold numS at e
          omega
        unfold turnT
        rw [this]; rfl
      cases b with
      | stop _ => exact ih _ rfl a
      | step h2 _ => rw [hno] at h2; cases h2
  have hm := o.most
  obtain ⟨rs3, h3⟩ := key (numS (strataM p) - numS (strataM q)) _ (by omega) h
  exact ((h3.uniq m2).1)
end
end Go.TF
end
section
/- Two programs in one, and one without a rule: plain. -/
namespace Go.TF
open Go

instance : DecidableEq Trm := fun a b => decidable_of_iff (a.var = b.var ∧ a.n = b.n) (by cases a; cases b; simp)
instance : DecidableEq Prd := fun a b => decidable_of_iff (a.name = b.name ∧ a.arity = b.arity ∧ a.kind = b.kind) (by cases a; cases b; simp)
end Go.TF
end
section
/- Sameness of predicates, atoms, programs. -/
namespace Go.TF
open Go Go.RowKit Go.Proofs
set_option maxRecDepth 20000

theorem toList_eq {a b : ByteArray} : (a.toList == b.toList) = decide (a = b) := by rw [← beq_bytes, beq_toListBytes]
end Go.TF
end
section
/- What is owned read by a call as if known for good; boxes taken back; elements of an owned slice. -/
namespace Go.TF
open Go Go.RowKit Go.Proofs

section
variable {P : Program} {e : Env} {w : World} {B : Base} {h : Heap} {M : List SA} {t : TypeId} {pos : String} {af : Array Edge} {g : Option (Nat × Bool)} {d : Option Nat} {K : Value → World → Prop}
theorem flat_overG {α : Type} {enc : α → List Value} {k : Nat} (hk : ∀ x, (enc x).length = k) (zs : List α) (i : Nat) (y : α) (hi : i < zs.length) : over (zs.flatMap enc) (i * k) (enc y) = (zs.set i y).flatMap enc := by
  unfold over
  rw [flat_take hk, hk, show i * k + k = (i + 1) * k by rw [Nat.add_mul, Nat.one_mul], flat_drop hk, List.set_eq_take_append_cons_drop, if_pos hi, List.flatMap_append, List.flatMap_cons, List.append_assoc]
end
section
variable {P : Program} {N : Nat} {D : List Deferred} {e : Env} {w : World} {Q : Exit → Env → World → List Deferred → Prop}
theorem WPD.cond_decT {c : Operand} {x y : Code} {p : Prop} [Decidable p] (hc : ev e c = .bool (decide p)) (hp : p) (ht : WPD P N D x e w Q) : WPD P N D (.cond c x y) e w Q :=
  WPD.cond_dec hc (fun _ => ht) (fun h => (h hp).elim)
theorem WPD.cond_decF {c : Operand} {x y : Code} {p : Prop} [Decidable p] (hc : ev e c = .bool (decide p)) (hp : ¬p) (hf : WPD P N D y e w Q) : WPD P N D (.cond c x y) e w Q :=
  WPD.cond_dec hc (fun h => (hp h).elim) (fun _ => hf)
theorem WPD.regionF {id : Nat} {ops : Array Oper} {B : Base} {h : Heap} {M : List SA} (hm : Mixed P) (I : Inv B h M w) (m : Nat) (hB : flowB ops m = true)
    (k : OpsF P ops B M h [] (ops.toList.take m) e (fun L e' => ∀ h1 w1, h.le h1 → Inv B h1 M w1 → AllL (fun _ => true) h1 L e' fun e'' => Ops P ops (ops.toList.drop m) e'' w1 (fun e3 w3 => Q .normal e3 w3 D))) : WPD P N D (.region id ops true) e w Q := WPD.of (WP.regionF hm I m hB k)
theorem WPD.cutK {x : Code} {K : Env → World → List Deferred → Prop} {σ : Type} (kv : σ → List (Nat × Value)) (J : σ → World → Prop) (Df : σ → List Deferred)
    (hx : WPD P N D x e w (thenD (fun e' w' D' => ∃ s, Has e' (kv s) ∧ D' = Df s ∧ J s w') Q)) (hy : ∀ s e' w', J s w' → K (E e' (kv s)) w' (Df s)) : WPD P N D x e w (thenD K Q) := by
  refine hx.mono ?_
  intro x e' w' D' h
  cases x <;> first | exact h | skip
  obtain ⟨s, h1, rfl, h2⟩ := h
  have := hy s e' w' h2
  rwa [E_self h1] at this
end
section
variable {α : Type} {p : α → Bool} {xs : List α}
end
end Go.TF
end
section
/- slices.IndexFunc, ContainsFunc at rules and literals. -/
namespace Go.TF
open Go Go.RowKit Go.Proofs
set_option maxRecDepth 10000
end Go.TF
end
section
/- slices.DeleteFunc at this program's types, of a slice of the call's own. -/
namespace Go.TF
open Go Go.RowKit Go.Proofs
set_option maxRecDepth 20000

end Go.TF
end
section
/- A region in which a slice is made, and then turned into another, while what is loaded may be loaded ahead or behind. -/
namespace Go.TF
open Go Go.RowKit

structure DlS where
  h : Heap
  o2 : Option Value
  o4 : Option Value
def pcD (T k n m : Nat) (c2 c4 : List Value) (o2 o4 : Option Value) : List SA := match o4 with
  | some v => [ownSl T k v m c4]
  | none => match o2 with
    | some v => [ownSl T k v n c2]
    | none => []
structure JDl (B : Base) (M : List SA) (T k n m : Nat) (c2 c4 : List Value) (i2 i4 : Nat) (D : Nat → Bool) (s : DlS) (w : World) : Prop where
  h2 : s.o2.isSome = D i2
  h4 : s.o4.isSome = D i4
  ord : D i4 = true → D i2 = true
  inv : Inv B s.h (pcD T k n m c2 c4 s.o2 s.o4 ++ M) w
structure RDl (s s' : DlS) : Prop where
  h : s.h.le s'.h
  h2 : ∀ v, s.o2 = some v → s'.o2 = some v
  h4 : ∀ v, s.o4 = some v → s'.o4 = some v
theorem RDl.pre : Pre RDl := ⟨fun _ => ⟨Heap.le.refl _, fun _ h => h, fun _ h => h⟩, fun _ _ _ h k => ⟨h.h.trans k.h, fun b e => k.h2 b (h.h2 b e), fun b e => k.h4 b (h.h4 b e)⟩⟩
def AtD2 (u : Value) (s : DlS) : Prop := s.o2 = some u
def AtD4 (u : Value) (s : DlS) : Prop := s.o4 = some u
theorem AtD2.mono : MonoG RDl AtD2 := fun _ _ _ r h => r.h2 _ h
theorem AtD4.mono : MonoG RDl AtD4 := fun _ _ _ r h => r.h4 _ h
section
variable {P : Program} {o : Oper} {e : Env} {B : Base} {M : List SA} {T k n m : Nat} {c2 c4 : List Value} {i2 i4 i : Nat} {D : Nat → Bool} {s : DlS} {w : World}
theorem JDl.base (j : JDl B M T k n m c2 c4 i2 i4 D s w) : Inv B s.h M w := j.inv.weak (List.sublist_append_right _ _)
theorem JDl.set (h : i2 ≠ i ∧ i4 ≠ i) : ∀ D s w, JDl B M T k n m c2 c4 i2 i4 D s w → JDl B M T k n m c2 c4 i2 i4 (setD D i) s w := fun D s w j => by
  have e : ∀ x, x ≠ i → setD D i x = D x := fun x hx => by simp [setD, hx]
  exact ⟨by rw [e _ h.1]; exact j.h2, by rw [e _ h.2]; exact j.h4, by rw [e _ h.1, e _ h.2]; exact j.ord, j.inv⟩
theorem JDl.first (j : JDl B M T k n m c2 c4 i2 i4 D s w) (hD : D i2 = false) (h24 : i4 ≠ i2) (hop : Inv B s.h M w → Op1 P o e w fun u w' => ∃ h', s.h.le h' ∧ Inv B h' (ownSl T k u n c2 :: M) w') :
    Op1 P o e w fun u w' => ∃ s', RDl s s' ∧ JDl B M T k n m c2 c4 i2 i4 (setD D i2) s' w' ∧ AtD2 u s' := by
  have h2 : s.o2 = none := by have := j.h2; rw [hD] at this; cases h : s.o2 <;> simp_all
  have hD4 : D i4 = false := by
    cases h : D i4
    · rfl
    · rw [j.ord h] at hD; cases hD
  have h4 : s.o4 = none := by have := j.h4; rw [hD4] at this; cases h : s.o4 <;> simp_all
  refine (hop j.base).mono fun u w' ⟨h', hl, I⟩ => ⟨⟨h', some u, none⟩, ⟨hl, fun v hv => (by rw [h2] at hv; cases hv), fun v hv => (by rw [h4] at hv; cases hv)⟩, ⟨?_, ?_, fun hh => ?_, I⟩, rfl⟩
  · simp [setD]
  · rw [show setD D i2 i4 = D i4 by simp [setD, h24], hD4]; rfl
  · simp [setD]
theorem JDl.second (j : JDl B M T k n m c2 c4 i2 i4 D s w) (hD : D i4 = false) (h24 : i2 ≠ i4) {u2 : Value} (hu : AtD2 u2 s) (hop : Inv B s.h (ownSl T k u2 n c2 :: M) w → Op1 P o e w fun u w' => ∃ h', s.h.le h' ∧ Inv B h' (ownSl T k u m c4 :: M) w') :
    Op1 P o e w fun u w' => ∃ s', RDl s s' ∧ JDl B M T k n m c2 c4 i2 i4 (setD D i4) s' w' ∧ AtD4 u s' := by
  have h4 : s.o4 = none := by have := j.h4; rw [hD] at this; cases h : s.o4 <;> simp_all
  have h2 : s.o2 = some u2 := hu
  have I := j.inv
  rw [h4, h2] at I
  have hD2 : D i2 = true := by rw [← j.h2, h2]; rfl
  refine (hop I).mono fun u w' ⟨h', hl, I⟩ => ⟨⟨h', some u2, some u⟩, ⟨hl, fun v hv => (by rw [h2] at hv; exact hv), fun v hv => (by rw [h4] at hv; cases hv)⟩, ⟨?_, ?_, fun _ => ?_, I⟩, rfl⟩
  · rw [show setD D i4 i2 = D i2 by simp [setD, h24], hD2]; rfl
  · simp [setD]
  · rw [show setD D i4 i2 = D i2 by simp [setD, h24], hD2]
end
theorem WPD.regionG {σ : Type} {P : Program} {N : Nat} {D : List Deferred} {e : Env} {w : World} {Q : Exit → Env → World → List Deferred → Prop} {id : Nat} {ops : Array Oper} {J : (Nat → Bool) → σ → World → Prop} {R : σ → σ → Prop} (hm : Mixed P) (hR : Pre R) (s0 : σ) (I : J (fun _ => false) s0 w.drew) (m : Nat) (hB : flowB ops m = true)
    (k : OpsG P ops J R s0 0 [] (ops.toList.take m) e (fun L e' => ∀ D' h1 w1, (∀ j, j < m → D' j = true) → R s0 h1 → J D' h1 w1 → AllG (fun _ => true) h1 L e' fun e'' => Ops P ops (ops.toList.drop m) e'' w1 (fun e3 w3 => Q .normal e3 w3 D))) : WPD P N D (.region id ops true) e w Q := WPD.of (WP.regionG hm hR s0 I m hB k)
end Go.TF
end
section
/- A region in which a literal is made and appended to what the call owns, while what is loaded may be loaded ahead or behind. -/
namespace Go.TF
open Go Go.RowKit

structure ApS where
  h : Heap
  o7 : Option (Nat × Nat)
def pcA (T k n m : Nat) (v : Value) (xs x : List Value) (o7 : Option (Nat × Nat)) : SA := match o7 with
  | none => ownSl T k v n xs
  | some y => ownSl T k (.slice (some ⟨y.1, 0, none⟩) (n + m) y.2) (n + m) (xs ++ x)
structure JAp (B : Base) (M : List SA) (T k n m : Nat) (v : Value) (xs x : List Value) (i7 : Nat) (D : Nat → Bool) (s : ApS) (w : World) : Prop where
  h7 : s.o7.isSome = D i7
  inv : Inv B s.h (pcA T k n m v xs x s.o7 :: M) w
structure RAp (s s' : ApS) : Prop where
  h : s.h.le s'.h
  h7 : ∀ y, s.o7 = some y → s'.o7 = some y
theorem RAp.pre : Pre RAp := ⟨fun _ => ⟨Heap.le.refl _, fun _ h => h⟩, fun _ _ _ h k => ⟨h.h.trans k.h, fun y e => k.h7 y (h.h7 y e)⟩⟩
def AtAp (N : Nat) (u : Value) (s : ApS) : Prop := ∃ g c, u = .slice (some ⟨g, 0, none⟩) N c ∧ s.o7 = some (g, c)
theorem AtAp.mono {N : Nat} : MonoG RAp (AtAp N) := fun _ _ _ r ⟨g, c, h1, h2⟩ => ⟨g, c, h1, r.h7 _ h2⟩
def KnA (Φ : Sp) (u : Value) (s : ApS) : Prop := Φ u s.h
theorem KnA.mono {Φ : Sp} (hm : MonoS Φ) : MonoG RAp (KnA Φ) := fun _ _ _ r h => hm _ _ _ r.h h
section
variable {P : Program} {o : Oper} {e : Env} {B : Base} {M : List SA} {T k n m : Nat} {v : Value} {xs x : List Value} {i7 i : Nat} {D : Nat → Bool} {s : ApS} {w : World}
theorem JAp.base (j : JAp B M T k n m v xs x i7 D s w) : Inv B s.h M w := j.inv.drop
theorem JAp.set (h : i7 ≠ i) : ∀ D s w, JAp B M T k n m v xs x i7 D s w → JAp B M T k n m v xs x i7 (setD D i) s w := fun D s w j => ⟨by rw [show setD D i i7 = D i7 by simp [setD, h]]; exact j.h7, j.inv⟩
/-- What makes known more, and turns nothing. -/
theorem JAp.know {Φ : Sp} (j : JAp B M T k n m v xs x i7 D s w) (h : i7 ≠ i) (hop : ∀ N, Inv B s.h N w → Op1 P o e w fun u w' => ∃ h', s.h.le h' ∧ Inv B h' N w' ∧ Φ u h') :
    Op1 P o e w fun u w' => ∃ s', RAp s s' ∧ JAp B M T k n m v xs x i7 (setD D i) s' w' ∧ KnA Φ u s' :=
  (hop _ j.inv).mono fun u w' ⟨h', hl, I, hu⟩ => ⟨⟨h', s.o7⟩, ⟨hl, fun _ e => e⟩, ⟨by rw [show setD D i i7 = D i7 by simp [setD, h]]; exact j.h7, I⟩, hu⟩
theorem JAp.app (j : JAp B M T k n m v xs x i7 D s w) (hD : D i7 = false) (hop : Inv B s.h (ownSl T k v n xs :: M) w → Op1 P o e w fun u w' => ∃ g c, u = .slice (some ⟨g, 0, none⟩) (n + m) c ∧ Inv B s.h (ownSl T k (.slice (some ⟨g, 0, none⟩) (n + m) c) (n + m) (xs ++ x) :: M) w') :
    Op1 P o e w fun u w' => ∃ s', RAp s s' ∧ JAp B M T k n m v xs x i7 (setD D i7) s' w' ∧ AtAp (n + m) u s' := by
  have h7 : s.o7 = none := by have := j.h7; rw [hD] at this; cases h : s.o7 <;> simp_all
  have I := j.inv
  rw [h7] at I
  exact (hop I).mono fun u w' ⟨g, c, e, I⟩ => ⟨⟨s.h, some (g, c)⟩, ⟨Heap.le.refl _, fun y e => (by rw [h7] at e; cases e)⟩, ⟨by simp [setD], I⟩, g, c, e, rfl⟩
end
end Go.TF
end
section
/- A region in which a variable is made, and a slice is made and turned into another; what is known may grow in it. -/
namespace Go.TF
open Go Go.RowKit

structure UnS where
  h : Heap
  o2 : Option Value
  o4 : Option Value
  o7 : Option Nat
def pcB (o7 : Option Nat) (z : List Value) (Tb : TypeId) : List SA := match o7 with
  | none => []
  | some b => [box b z Tb]
structure JUn (B : Base) (M : List SA) (T k n m : Nat) (c2 c4 : List Value) (Tb : TypeId) (z : List Value) (i2 i4 i7 : Nat) (D : Nat → Bool) (s : UnS) (w : World) : Prop where
  h2 : s.o2.isSome = D i2
  h4 : s.o4.isSome = D i4
  h7 : s.o7.isSome = D i7
  ord : D i4 = true → D i2 = true
  inv : Inv B s.h (pcD T k n m c2 c4 s.o2 s.o4 ++ (pcB s.o7 z Tb ++ M)) w
structure RUn (s s' : UnS) : Prop where
  h : s.h.le s'.h
  h2 : ∀ v, s.o2 = some v → s'.o2 = some v
  h4 : ∀ v, s.o4 = some v → s'.o4 = some v
  h7 : ∀ v, s.o7 = some v → s'.o7 = some v
theorem RUn.pre : Pre RUn := ⟨fun _ => ⟨Heap.le.refl _, fun _ h => h, fun _ h => h, fun _ h => h⟩, fun _ _ _ h k => ⟨h.h.trans k.h, fun b e => k.h2 b (h.h2 b e), fun b e => k.h4 b (h.h4 b e), fun b e => k.h7 b (h.h7 b e)⟩⟩
def AtU2 (u : Value) (s : UnS) : Prop := s.o2 = some u
def AtU4 (u : Value) (s : UnS) : Prop := s.o4 = some u
def AtU7 (u : Value) (s : UnS) : Prop := ∃ b, u = .pointer (some ⟨b, 0, none⟩) ∧ s.o7 = some b
def KnUn (Φ : Sp) (u : Value) (s : UnS) : Prop := Φ u s.h
theorem AtU2.mono : MonoG RUn AtU2 := fun _ _ _ r h => r.h2 _ h
theorem AtU4.mono : MonoG RUn AtU4 := fun _ _ _ r h => r.h4 _ h
theorem AtU7.mono : MonoG RUn AtU7 := fun _ _ _ r ⟨b, h1, h2⟩ => ⟨b, h1, r.h7 b h2⟩
theorem KnUn.mono {Φ : Sp} (hm : MonoS Φ) : MonoG RUn (KnUn Φ) := fun _ _ _ r h => hm _ _ _ r.h h
/-- A pair, the second the slice that was turned. -/
def PrU (Ψ : Sp) (u : Value) (s : UnS) : Prop := ∃ x v, u = .agg #[x, v] ∧ Ψ x s.h ∧ s.o4 = some v
theorem PrU.mono {Ψ : Sp} (hm : MonoS Ψ) : MonoG RUn (PrU Ψ) := fun _ _ _ r ⟨x, v, a, b, c⟩ => ⟨x, v, a, hm _ _ _ r.h b, r.h4 _ c⟩
section
variable {P : Program} {o : Oper} {e : Env} {B : Base} {M : List SA} {T k n m : Nat} {c2 c4 : List Value} {Tb : TypeId} {z : List Value} {i2 i4 i7 i : Nat} {D : Nat → Bool} {s : UnS} {w : World}
theorem JUn.base (j : JUn B M T k n m c2 c4 Tb z i2 i4 i7 D s w) : Inv B s.h M w := j.inv.weak ((List.sublist_append_right _ _).trans (List.sublist_append_right _ _))
theorem JUn.set (h : i2 ≠ i ∧ i4 ≠ i ∧ i7 ≠ i) : ∀ D s w, JUn B M T k n m c2 c4 Tb z i2 i4 i7 D s w → JUn B M T k n m c2 c4 Tb z i2 i4 i7 (setD D i) s w := fun D s w j => by
  have e : ∀ x, x ≠ i → setD D i x = D x := fun x hx => by simp [setD, hx]
  exact ⟨by rw [e _ h.1]; exact j.h2, by rw [e _ h.2.1]; exact j.h4, by rw [e _ h.2.2]; exact j.h7, by rw [e _ h.1, e _ h.2.1]; exact j.ord, j.inv⟩
theorem JUn.know {Φ : Sp} (j : JUn B M T k n m c2 c4 Tb z i2 i4 i7 D s w) (h : i2 ≠ i ∧ i4 ≠ i ∧ i7 ≠ i) (hop : ∀ N, Inv B s.h N w → Op1 P o e w fun u w' => ∃ h', s.h.le h' ∧ Inv B h' N w' ∧ Φ u h') :
    Op1 P o e w fun u w' => ∃ s', RUn s s' ∧ JUn B M T k n m c2 c4 Tb z i2 i4 i7 (setD D i) s' w' ∧ KnUn Φ u s' :=
  (hop _ j.inv).mono fun u w' ⟨h', hl, I, hu⟩ => by
    have e : ∀ x, x ≠ i → setD D i x = D x := fun x hx => by simp [setD, hx]
    exact ⟨⟨h', s.o2, s.o4, s.o7⟩, ⟨hl, fun _ e => e, fun _ e => e, fun _ e => e⟩, ⟨by rw [e _ h.1]; exact j.h2, by rw [e _ h.2.1]; exact j.h4, by rw [e _ h.2.2]; exact j.h7, by rw [e _ h.1, e _ h.2.1]; exact j.ord, I⟩, hu⟩
theorem JUn.first (j : JUn B M T k n m c2 c4 Tb z i2 i4 i7 D s w) (hD : D i2 = false) (h24 : i4 ≠ i2) (h27 : i7 ≠ i2) (hop : ∀ N, Inv B s.h N w → Op1 P o e w fun u w' => ∃ h', s.h.le h' ∧ Inv B h' (ownSl T k u n c2 :: N) w') :
    Op1 P o e w fun u w' => ∃ s', RUn s s' ∧ JUn B M T k n m c2 c4 Tb z i2 i4 i7 (setD D i2) s' w' ∧ AtU2 u s' := by
  have h2 : s.o2 = none := by have := j.h2; rw [hD] at this; cases h : s.o2 <;> simp_all
  have hD4 : D i4 = false := by
    cases h : D i4
    · rfl
    · rw [j.ord h] at hD; cases hD
  have h4 : s.o4 = none := by have := j.h4; rw [hD4] at this; cases h : s.o4 <;> simp_all
  have I := j.inv
  rw [h2, h4] at I
  refine (hop _ I).mono fun u w' ⟨h', hl, I⟩ => ⟨⟨h', some u, none, s.o7⟩, ⟨hl, fun v hv => (by rw [h2] at hv; cases hv), fun v hv => (by rw [h4] at hv; cases hv), fun v hv => hv⟩, ⟨?_, ?_, ?_, fun hh => ?_, I⟩, rfl⟩
  · simp [setD]
  · rw [show setD D i2 i4 = D i4 by simp [setD, h24], hD4]; rfl
  · rw [show setD D i2 i7 = D i7 by simp [setD, h27]]; exact j.h7
  · simp [setD]
theorem JUn.second (j : JUn B M T k n m c2 c4 Tb z i2 i4 i7 D s w) (hD : D i4 = false) (h24 : i2 ≠ i4) (h47 : i7 ≠ i4) {u2 : Value} (hu : AtU2 u2 s) (hop : ∀ N, Inv B s.h (ownSl T k u2 n c2 :: N) w → Op1 P o e w fun u w' => ∃ h', s.h.le h' ∧ Inv B h' (ownSl T k u m c4 :: N) w') :
    Op1 P o e w fun u w' => ∃ s', RUn s s' ∧ JUn B M T k n m c2 c4 Tb z i2 i4 i7 (setD D i4) s' w' ∧ AtU4 u s' := by
  have h4 : s.o4 = none := by have := j.h4; rw [hD] at this; cases h : s.o4 <;> simp_all
  have h2 : s.o2 = some u2 := hu
  have I := j.inv
  rw [h4, h2] at I
  have hD2 : D i2 = true := by rw [← j.h2, h2]; rfl
  refine (hop _ I).mono fun u w' ⟨h', hl, I⟩ => ⟨⟨h', some u2, some u, s.o7⟩, ⟨hl, fun v hv => (by rw [h2] at hv; exact hv), fun v hv => (by rw [h4] at hv; cases hv), fun v hv => hv⟩, ⟨?_, ?_, ?_, fun _ => ?_, I⟩, rfl⟩
  · rw [show setD D i4 i2 = D i2 by simp [setD, h24], hD2]; rfl
  · simp [setD]
  · rw [show setD D i4 i7 = D i7 by simp [setD, h47]]; exact j.h7
  · rw [show setD D i4 i2 = D i2 by simp [setD, h24], hD2]
theorem JUn.make {d : Option Nat} {t : TypeId} {pos : String} {af : Array Edge} {zv : Value} (j : JUn B M T k n m c2 c4 Tb z i2 i4 i7 D s w) (hz : Zero P Tb zv) (hc : zv.cells = z.toArray) (hD : D i7 = false) (h27 : i2 ≠ i7) (h47 : i4 ≠ i7) :
    Op1 P ⟨d, .alloc Tb, t, pos, af, none⟩ e w fun u w' => ∃ s', RUn s s' ∧ JUn B M T k n m c2 c4 Tb z i2 i4 i7 (setD D i7) s' w' ∧ AtU7 u s' := by
  have h7 : s.o7 = none := by have := j.h7; rw [hD] at this; cases h : s.o7 <;> simp_all
  have I := j.inv
  rw [h7] at I
  refine O.alloc I hz hc fun b w' I' => ⟨⟨s.h, s.o2, s.o4, some b⟩, ⟨Heap.le.refl _, fun _ e => e, fun _ e => e, fun v hv => (by rw [h7] at hv; cases hv)⟩, ⟨?_, ?_, ?_, ?_, ?_⟩, b, rfl, rfl⟩
  · rw [show setD D i7 i2 = D i2 by simp [setD, h27]]; exact j.h2
  · rw [show setD D i7 i4 = D i4 by simp [setD, h47]]; exact j.h4
  · simp [setD]
  · rw [show setD D i7 i2 = D i2 by simp [setD, h27], show setD D i7 i4 = D i4 by simp [setD, h47]]; exact j.ord
  · exact I'.perm List.perm_middle
theorem JUn.box (j : JUn B M T k n m c2 c4 Tb z i2 i4 i7 D s w) {b : Nat} (h : s.o7 = some b) : Inv B s.h (box b z Tb :: M) w := by
  have I := j.inv
  rw [h] at I
  exact I.weak (List.sublist_append_right _ _)
theorem JUn.turned (j : JUn B M T k n m c2 c4 Tb z i2 i4 i7 D s w) {v : Value} (h : s.o4 = some v) : Inv B s.h (ownSl T k v m c4 :: M) w := by
  have I := j.inv
  rw [h] at I
  exact I.weak (.cons_cons _ (List.sublist_append_right _ _))
theorem JUn.both (j : JUn B M T k n m c2 c4 Tb z i2 i4 i7 D s w) {v : Value} (h : s.o4 = some v) {b : Nat} (h7 : s.o7 = some b) : Inv B s.h (ownSl T k v m c4 :: Go.TF.box b z Tb :: M) w := by
  have I := j.inv
  rw [h, h7] at I
  exact I
/-- What is only looked at. -/
theorem JUn.look {Φ : Sq UnS} {v : Value} (j : JUn B M T k n m c2 c4 Tb z i2 i4 i7 D s w) (h : i2 ≠ i ∧ i4 ≠ i ∧ i7 ≠ i) (hy : Y P o e w v) (hv : Φ v s) :
    Op1 P o e w fun u w' => ∃ s', RUn s s' ∧ JUn B M T k n m c2 c4 Tb z i2 i4 i7 (setD D i) s' w' ∧ Φ u s' := by
  unfold Op1; rw [hy]; exact ⟨s, RUn.pre.refl s, JUn.set h _ _ _ j, hv⟩
end
/-! ### A slice that begins empty and is appended to twice -/
structure U3S where
  h : Heap
  o1 : Option Value
  o2 : Option Value
  o4 : Option Value
  o7 : Option Nat
def pc3 (T k n m : Nat) (c2 c4 : List Value) (o1 o2 o4 : Option Value) : List SA := match o2, o4, o1 with
  | some _, some v, _ => [ownSl T k v m c4]
  | some v, none, _ => [ownSl T k v n c2]
  | none, _, some v => [ownSl T k v 0 []]
  | none, _, none => []
structure JU3 (B : Base) (M : List SA) (T k n m : Nat) (c2 c4 : List Value) (Tb : TypeId) (z : List Value) (i1 i2 i4 i7 : Nat) (D : Nat → Bool) (s : U3S) (w : World) : Prop where
  h1 : s.o1.isSome = D i1
  h2 : s.o2.isSome = D i2
  h4 : s.o4.isSome = D i4
  h7 : s.o7.isSome = D i7
  ord : D i4 = true → D i2 = true
  ord1 : D i2 = true → D i1 = true
  inv : Inv B s.h (pc3 T k n m c2 c4 s.o1 s.o2 s.o4 ++ (pcB s.o7 z Tb ++ M)) w
structure RU3 (s s' : U3S) : Prop where
  h : s.h.le s'.h
  h1 : ∀ v, s.o1 = some v → s'.o1 = some v
  h2 : ∀ v, s.o2 = some v → s'.o2 = some v
  h4 : ∀ v, s.o4 = some v → s'.o4 = some v
  h7 : ∀ v, s.o7 = some v → s'.o7 = some v
theorem RU3.pre : Pre RU3 := ⟨fun _ => ⟨Heap.le.refl _, fun _ h => h, fun _ h => h, fun _ h => h, fun _ h => h⟩, fun _ _ _ h k => ⟨h.h.trans k.h, fun b e => k.h1 b (h.h1 b e), fun b e => k.h2 b (h.h2 b e), fun b e => k.h4 b (h.h4 b e), fun b e => k.h7 b (h.h7 b e)⟩⟩
def At31 (u : Value) (s : U3S) : Prop := s.o1 = some u
def At32 (u : Value) (s : U3S) : Prop := s.o2 = some u
def At34 (u : Value) (s : U3S) : Prop := s.o4 = some u ∧ s.o2.isSome = true
def At37 (u : Value) (s : U3S) : Prop := ∃ b, u = .pointer (some ⟨b, 0, none⟩) ∧ s.o7 = some b
def KnU3 (Φ : Sp) (u : Value) (s : U3S) : Prop := Φ u s.h
theorem At31.mono : MonoG RU3 At31 := fun _ _ _ r h => r.h1 _ h
theorem At32.mono : MonoG RU3 At32 := fun _ _ _ r h => r.h2 _ h
theorem At34.mono : MonoG RU3 At34 := fun _ _ _ r ⟨h, k⟩ => ⟨r.h4 _ h, by obtain ⟨v, hv⟩ := Option.isSome_iff_exists.1 k; rw [r.h2 _ hv]; rfl⟩
theorem At37.mono : MonoG RU3 At37 := fun _ _ _ r ⟨b, h1, h2⟩ => ⟨b, h1, r.h7 b h2⟩
theorem KnU3.mono {Φ : Sp} (hm : MonoS Φ) : MonoG RU3 (KnU3 Φ) := fun _ _ _ r h => hm _ _ _ r.h h
def Pr3 (Ψ : Sp) (u : Value) (s : U3S) : Prop := ∃ x v, u = .agg #[x, v] ∧ Ψ x s.h ∧ At34 v s
theorem Pr3.mono {Ψ : Sp} (hm : MonoS Ψ) : MonoG RU3 (Pr3 Ψ) := fun _ _ _ r ⟨x, v, a, b, c⟩ => ⟨x, v, a, hm _ _ _ r.h b, At34.mono _ _ _ r c⟩
section
variable {P : Program} {o : Oper} {e : Env} {B : Base} {M : List SA} {T k n m : Nat} {c2 c4 : List Value} {Tb : TypeId} {z : List Value} {i1 i2 i4 i7 i : Nat} {D : Nat → Bool} {s : U3S} {w : World}
theorem JU3.base (j : JU3 B M T k n m c2 c4 Tb z i1 i2 i4 i7 D s w) : Inv B s.h M w := j.inv.weak ((List.sublist_append_right _ _).trans (List.sublist_append_right _ _))
theorem JU3.set (h : i1 ≠ i ∧ i2 ≠ i ∧ i4 ≠ i ∧ i7 ≠ i) : ∀ D s w, JU3 B M T k n m c2 c4 Tb z i1 i2 i4 i7 D s w → JU3 B M T k n m c2 c4 Tb z i1 i2 i4 i7 (setD D i) s w := fun D s w j => by
  have e : ∀ x, x ≠ i → setD D i x = D x := fun x hx => by simp [setD, hx]
  exact ⟨by rw [e _ h.1]; exact j.h1, by rw [e _ h.2.1]; exact j.h2, by rw [e _ h.2.2.1]; exact j.h4, by rw [e _ h.2.2.2]; exact j.h7, by rw [e _ h.2.1, e _ h.2.2.1]; exact j.ord, by rw [e _ h.1, e _ h.2.1]; exact j.ord1, j.inv⟩
theorem JU3.know {Φ : Sp} (j : JU3 B M T k n m c2 c4 Tb z i1 i2 i4 i7 D s w) (h : i1 ≠ i ∧ i2 ≠ i ∧ i4 ≠ i ∧ i7 ≠ i) (hop : ∀ N, Inv B s.h N w → Op1 P o e w fun u w' => ∃ h', s.h.le h' ∧ Inv B h' N w' ∧ Φ u h') :
    Op1 P o e w fun u w' => ∃ s', RU3 s s' ∧ JU3 B M T k n m c2 c4 Tb z i1 i2 i4 i7 (setD D i) s' w' ∧ KnU3 Φ u s' :=
  (hop _ j.inv).mono fun u w' ⟨h', hl, I, hu⟩ => by
    have q := JU3.set (B := B) (M := M) (T := T) (k := k) (n := n) (m := m) (c2 := c2) (c4 := c4) (Tb := Tb) (z := z) h D s w j
    exact ⟨⟨h', s.o1, s.o2, s.o4, s.o7⟩, ⟨hl, fun _ e => e, fun _ e => e, fun _ e => e, fun _ e => e⟩, ⟨q.h1, q.h2, q.h4, q.h7, q.ord, q.ord1, I⟩, hu⟩
theorem JU3.look {Φ : Sq U3S} {v : Value} (j : JU3 B M T k n m c2 c4 Tb z i1 i2 i4 i7 D s w) (h : i1 ≠ i ∧ i2 ≠ i ∧ i4 ≠ i ∧ i7 ≠ i) (hy : Y P o e w v) (hv : Φ v s) :
    Op1 P o e w fun u w' => ∃ s', RU3 s s' ∧ JU3 B M T k n m c2 c4 Tb z i1 i2 i4 i7 (setD D i) s' w' ∧ Φ u s' := by
  unfold Op1; rw [hy]; exact ⟨s, RU3.pre.refl s, JU3.set h _ _ _ j, hv⟩
theorem JU3.first (j : JU3 B M T k n m c2 c4 Tb z i1 i2 i4 i7 D s w) (hD : D i1 = false) (h : i2 ≠ i1 ∧ i4 ≠ i1 ∧ i7 ≠ i1) (hop : ∀ N, Inv B s.h N w → Op1 P o e w fun u w' => ∃ h', s.h.le h' ∧ Inv B h' (ownSl T k u 0 [] :: N) w') :
    Op1 P o e w fun u w' => ∃ s', RU3 s s' ∧ JU3 B M T k n m c2 c4 Tb z i1 i2 i4 i7 (setD D i1) s' w' ∧ At31 u s' := by
  have e : ∀ x, x ≠ i1 → setD D i1 x = D x := fun x hx => by simp [setD, hx]
  have h1 : s.o1 = none := by have := j.h1; rw [hD] at this; cases h : s.o1 <;> simp_all
  have hD2 : D i2 = false := by
    cases h : D i2
    · rfl
    · rw [j.ord1 h] at hD; cases hD
  have h2 : s.o2 = none := by have := j.h2; rw [hD2] at this; cases h : s.o2 <;> simp_all
  have I := j.inv
  have hpc : pc3 T k n m c2 c4 s.o1 s.o2 s.o4 = [] := by rw [h1, h2]; cases s.o4 <;> rfl
  rw [hpc] at I
  refine (hop _ I).mono fun u w' ⟨h', hl, I⟩ => ⟨⟨h', some u, none, s.o4, s.o7⟩, ⟨hl, fun v hv => (by rw [h1] at hv; cases hv), fun v hv => (by rw [h2] at hv; cases hv), fun v hv => hv, fun v hv => hv⟩, ⟨?_, ?_, ?_, ?_, ?_, ?_, ?_⟩, rfl⟩
  · simp [setD]
  · rw [e _ h.1, hD2]; rfl
  · rw [e _ h.2.1]; exact j.h4
  · rw [e _ h.2.2]; exact j.h7
  · rw [e _ h.1, e _ h.2.1]; exact j.ord
  · rw [e _ h.1, hD2]; exact fun h => by cases h
  · cases s.o4 <;> exact I
theorem JU3.second (j : JU3 B M T k n m c2 c4 Tb z i1 i2 i4 i7 D s w) (hD : D i2 = false) (h : i1 ≠ i2 ∧ i4 ≠ i2 ∧ i7 ≠ i2) {u2 : Value} (hu : At31 u2 s) (hop : ∀ N, Inv B s.h (ownSl T k u2 0 [] :: N) w → Op1 P o e w fun u w' => ∃ h', s.h.le h' ∧ Inv B h' (ownSl T k u n c2 :: N) w') :
    Op1 P o e w fun u w' => ∃ s', RU3 s s' ∧ JU3 B M T k n m c2 c4 Tb z i1 i2 i4 i7 (setD D i2) s' w' ∧ At32 u s' := by
  have e : ∀ x, x ≠ i2 → setD D i2 x = D x := fun x hx => by simp [setD, hx]
  have h2 : s.o2 = none := by have := j.h2; rw [hD] at this; cases h : s.o2 <;> simp_all
  have h1 : s.o1 = some u2 := hu
  have hD4 : D i4 = false := by
    cases h : D i4
    · rfl
    · rw [j.ord h] at hD; cases hD
  have h4 : s.o4 = none := by have := j.h4; rw [hD4] at this; cases h : s.o4 <;> simp_all
  have hD1 : D i1 = true := by rw [← j.h1, h1]; rfl
  have I := j.inv
  rw [h1, h2, h4] at I
  refine (hop _ I).mono fun u w' ⟨h', hl, I⟩ => ⟨⟨h', some u2, some u, none, s.o7⟩, ⟨hl, fun v hv => (by rw [h1] at hv; exact hv), fun v hv => (by rw [h2] at hv; cases hv), fun v hv => (by rw [h4] at hv; cases hv), fun v hv => hv⟩, ⟨?_, ?_, ?_, ?_, ?_, ?_, I⟩, rfl⟩
  · rw [e _ h.1, hD1]; rfl
  · simp [setD]
  · rw [e _ h.2.1, hD4]; rfl
  · rw [e _ h.2.2]; exact j.h7
  · rw [e _ h.2.1, hD4]; exact fun h => by cases h
  · rw [e _ h.1]; exact fun _ => hD1
theorem JU3.make {d : Option Nat} {t : TypeId} {pos : String} {af : Array Edge} {zv : Value} (j : JU3 B M T k n m c2 c4 Tb z i1 i2 i4 i7 D s w) (hz : Zero P Tb zv) (hc : zv.cells = z.toArray) (hD : D i7 = false) (h : i1 ≠ i7 ∧ i2 ≠ i7 ∧ i4 ≠ i7) :
    Op1 P ⟨d, .alloc Tb, t, pos, af, none⟩ e w fun u w' => ∃ s', RU3 s s' ∧ JU3 B M T k n m c2 c4 Tb z i1 i2 i4 i7 (setD D i7) s' w' ∧ At37 u s' := by
  have e : ∀ x, x ≠ i7 → setD D i7 x = D x := fun x hx => by simp [setD, hx]
  have h7 : s.o7 = none := by have := j.h7; rw [hD] at this; cases h : s.o7 <;> simp_all
  have I := j.inv
  rw [h7] at I
  refine O.alloc I hz hc fun b w' I' => ⟨⟨s.h, s.o1, s.o2, s.o4, some b⟩, ⟨Heap.le.refl _, fun _ e => e, fun _ e => e, fun _ e => e, fun v hv => (by rw [h7] at hv; cases hv)⟩, ⟨?_, ?_, ?_, ?_, ?_, ?_, ?_⟩, b, rfl, rfl⟩
  · rw [e _ h.1]; exact j.h1
  · rw [e _ h.2.1]; exact j.h2
  · rw [e _ h.2.2]; exact j.h4
  · simp [setD]
  · rw [e _ h.2.1, e _ h.2.2]; exact j.ord
  · rw [e _ h.1, e _ h.2.1]; exact j.ord1
  · exact I'.perm List.perm_middle
theorem JU3.piece (j : JU3 B M T k n m c2 c4 Tb z i1 i2 i4 i7 D s w) {v : Value} (h : At34 v s) : Inv B s.h (ownSl T k v m c4 :: (pcB s.o7 z Tb ++ M)) w := by
  have I := j.inv
  obtain ⟨u, hu⟩ := Option.isSome_iff_exists.1 h.2
  rw [hu, h.1] at I
  cases h1 : s.o1 <;> rw [h1] at I <;> exact I
theorem JU3.turned (j : JU3 B M T k n m c2 c4 Tb z i1 i2 i4 i7 D s w) {v : Value} (h : At34 v s) : Inv B s.h (ownSl T k v m c4 :: M) w := (j.piece h).weak (.cons_cons _ (List.sublist_append_right _ _))
theorem JU3.both (j : JU3 B M T k n m c2 c4 Tb z i1 i2 i4 i7 D s w) {v : Value} (h : At34 v s) {b : Nat} (h7 : s.o7 = some b) : Inv B s.h (ownSl T k v m c4 :: Go.TF.box b z Tb :: M) w := by
  have I := j.piece h
  rw [h7] at I
  exact I
end
end Go.TF
end
section
/- Slices of rules: room, one behind the other, one taken out. -/
namespace Go.TF
open Go Go.RowKit Go.Proofs
set_option maxRecDepth 20000

/-- A slice that the call made, with what it holds. -/
def OwS {α : Type} (T k : Nat) (enc : α → List Value) (h0 : Heap) (xs : List α) : Sp := fun v h => ∃ s : Sl α, v = s.val ∧ s.xs = xs ∧ OwnH T k s enc h0 h
theorem OwS.mono {α : Type} {T k : Nat} {enc : α → List Value} {h0 : Heap} {xs : List α} : MonoS (OwS T k enc h0 xs) := fun _ _ _ hl ⟨s, a, b, c⟩ => ⟨s, a, b, c.le hl⟩
section
variable {P : Program} {e : Env} {w : World} {t : TypeId} {pos : String} {af : Array Edge} {g : Option (Nat × Bool)} {d : Option Nat}
end
theorem rul_len (x : Rul) : x.enc.length = 5 := rfl
/-! ### Cuts of what is known -/
section
variable {P : Program} {e : Env} {w : World} {t : TypeId} {pos : String} {af : Array Edge} {g : Option (Nat × Bool)} {d : Option Nat} {α : Type}
end
end Go.TF
end
section
/- Two programs in one, one without a rule: the program's answer and the document's. -/
namespace Go.TF
open Go Go.RowKit Go.Proofs
set_option maxRecDepth 20000

/-- Two slices in one struct. -/
def Pr2 (Φ Ψ : Sp) : Sp := fun u h => ∃ x y, u = .agg #[x, y] ∧ Φ x h ∧ Ψ y h
theorem Pr2.mono' {Φ Ψ : Sp} (h1 : MonoS Φ) (h2 : MonoS Ψ) : MonoS (Pr2 Φ Ψ) := fun _ _ _ hl ⟨x, y, a, b, c⟩ => ⟨x, y, a, h1 _ _ _ hl b, h2 _ _ _ hl c⟩
@[reducible] def PdS (h0 : Heap) (xs : List Prd) : Sp := OwS 56 3 Prd.enc h0 xs
@[reducible] def RlS (h0 : Heap) (xs : List Rul) : Sp := OwS 49 5 Rul.enc h0 xs
def PgS (h0 : Heap) (ps : List Prd) (rs : List Rul) : Sp := Pr2 (PdS h0 ps) (RlS h0 rs)
theorem PgS.mono {h0 : Heap} {ps : List Prd} {rs : List Rul} : MonoS (PgS h0 ps rs) := Pr2.mono' OwS.mono OwS.mono
theorem PdS.mono {h0 : Heap} {xs : List Prd} : MonoS (PdS h0 xs) := OwS.mono
theorem RlS.mono {h0 : Heap} {xs : List Rul} : MonoS (RlS h0 xs) := OwS.mono
/-- What comes: a program, its slices made by the call. -/
def SumO (h0 : Heap) (r : (List Prd × List Rul) × Int) (v : Value) (h : Heap) : Prop := ∃ a : Prg, v = .tuple #[a.val, .int .i64 r.2] ∧ a.preds.xs = r.1.1 ∧ a.rules.xs = r.1.2 ∧ OwnH 56 3 a.preds Prd.enc h0 h ∧ OwnH 49 5 a.rules Rul.enc h0 h
theorem own_prg {a : Prg} {h0 h : Heap} (hl : h0.le h) (o1 : OwnH 56 3 a.preds Prd.enc h0 h) (o2 : OwnH 49 5 a.rules Rul.enc h0 h) (h1 : a.preds.xs.length ≤ 5) (h2 : a.rules.xs.length ≤ 16) (he : ∀ r ∈ a.rules.xs, r.In h0) : a.In h :=
  ⟨⟨o1.in (fun _ => rfl), by omega⟩, ⟨⟨o2.in rul_len, by omega⟩, fun x hx => (he x hx).le hl⟩⟩
theorem SumO.err {h0 h : Heap} {e : Int} : SumO h0 (([], []), e) (.tuple #[.agg #[.slice none 0 0, .slice none 0 0], .int .i64 e]) h := ⟨⟨⟨none, 0, []⟩, ⟨none, 0, []⟩⟩, rfl, rfl, rfl, .inl rfl, .inl rfl⟩
/-- An empty literal. -/
def EmS {α : Type} (T k : Nat) (enc : α → List Value) (h0 : Heap) : Sp := fun v h => ∃ s : Sl α, v = s.val ∧ OwnH T k s enc h0 h ∧ s.xs = [] ∧ s.cap = 0 ∧ ∃ b, s.at_ = some ⟨b, 0, none⟩
theorem EmS.mono {α : Type} {T k : Nat} {enc : α → List Value} {h0 : Heap} : MonoS (EmS T k enc h0) := fun _ _ _ hl ⟨s, a, b, c⟩ => ⟨s, a, b.le hl, c⟩
/-- What comes, known for good. -/
def SumR (r : (List Prd × List Rul) × Int) (v : Value) (h : Heap) : Prop := ∃ a : Prg, v = .tuple #[a.val, .int .i64 r.2] ∧ a.preds.xs = r.1.1 ∧ a.rules.xs = r.1.2 ∧ a.In h ∧ a.Nm
theorem SumO.sum {r : (List Prd × List Rul) × Int} {h0 h : Heap} {v : Value} (x : SumO h0 r v h) (hl : h0.le h) (h5 : r.1.1.length ≤ 5) (h16 : r.1.2.length ≤ 16) (hn : ∀ x ∈ r.1.1, x.name.size ≤ 140737488355328) (hr : ∀ y ∈ r.1.2, y.In h0) : SumR r v h := by
  obtain ⟨a, rfl, e1, e2, o1, o2⟩ := x
  exact ⟨a, rfl, e1, e2, own_prg hl o1 o2 (by rw [e1]; exact h5) (by rw [e2]; exact h16) (by rw [e2]; exact hr), by unfold Prg.Nm; rw [e1]; exact hn⟩
section
variable (B : Base) (hB : B.ok) (p q : Prg) (hp : p.In B.h) (hq : q.In B.h) (hnm : p.Nm) (hnq : q.Nm)
include hB hp hq hnm hnq
end
section
variable (B : Base) (hB : B.ok) (p : Prg) (hp : p.In B.h) (hnm : p.Nm) (n : Int)
include hB hp hnm
end
theorem SumR.mono {r : (List Prd × List Rul) × Int} : MonoS (SumR r) := fun _ _ _ hl ⟨a, b, c, d, e, f⟩ => ⟨a, b, c, d, e.le hl, f⟩
end Go.TF
end
section
/- A region in which a variable is made and written with what the region itself yields. -/
namespace Go.TF
open Go Go.RowKit

structure StS where
  h : Heap
  o7 : Option Nat
  c : Option (List Value)
structure JSt (B : Base) (M : List SA) (Tb : TypeId) (z : List Value) (Ψ : List Value → Heap → Prop) (i7 i9 : Nat) (D : Nat → Bool) (s : StS) (w : World) : Prop where
  h7 : s.o7.isSome = D i7
  hc : s.c.isSome = D i9
  ord : D i9 = true → D i7 = true
  ok : ∀ cs, s.c = some cs → Ψ cs s.h
  inv : Inv B s.h (pcB s.o7 (s.c.getD z) Tb ++ M) w
structure RSt (s s' : StS) : Prop where
  h : s.h.le s'.h
  h7 : ∀ v, s.o7 = some v → s'.o7 = some v
theorem RSt.pre : Pre RSt := ⟨fun _ => ⟨Heap.le.refl _, fun _ h => h⟩, fun _ _ _ h k => ⟨h.h.trans k.h, fun b e => k.h7 b (h.h7 b e)⟩⟩
def AtS7 (u : Value) (s : StS) : Prop := ∃ b, u = .pointer (some ⟨b, 0, none⟩) ∧ s.o7 = some b
def KnSt (Φ : Sp) (u : Value) (s : StS) : Prop := Φ u s.h
theorem AtS7.mono : MonoG RSt AtS7 := fun _ _ _ r ⟨b, h1, h2⟩ => ⟨b, h1, r.h7 b h2⟩
theorem KnSt.mono {Φ : Sp} (hm : MonoS Φ) : MonoG RSt (KnSt Φ) := fun _ _ _ r h => hm _ _ _ r.h h
section
variable {P : Program} {o : Oper} {e : Env} {B : Base} {M : List SA} {Tb : TypeId} {z : List Value} {Ψ : List Value → Heap → Prop} {i7 i9 i : Nat} {D : Nat → Bool} {s : StS} {w : World}
theorem JSt.base (j : JSt B M Tb z Ψ i7 i9 D s w) : Inv B s.h M w := j.inv.weak (List.sublist_append_right _ _)
theorem JSt.set (h : i7 ≠ i ∧ i9 ≠ i) : ∀ D s w, JSt B M Tb z Ψ i7 i9 D s w → JSt B M Tb z Ψ i7 i9 (setD D i) s w := fun D s w j => by
  have e : ∀ x, x ≠ i → setD D i x = D x := fun x hx => by simp [setD, hx]
  exact ⟨by rw [e _ h.1]; exact j.h7, by rw [e _ h.2]; exact j.hc, by rw [e _ h.1, e _ h.2]; exact j.ord, j.ok, j.inv⟩
theorem JSt.look {Φ : Sq StS} {v : Value} (j : JSt B M Tb z Ψ i7 i9 D s w) (h : i7 ≠ i ∧ i9 ≠ i) (hy : Y P o e w v) (hv : Φ v s) :
    Op1 P o e w fun u w' => ∃ s', RSt s s' ∧ JSt B M Tb z Ψ i7 i9 (setD D i) s' w' ∧ Φ u s' := by
  unfold Op1; rw [hy]; exact ⟨s, RSt.pre.refl s, JSt.set h _ _ _ j, hv⟩
theorem JSt.make {d : Option Nat} {t : TypeId} {pos : String} {af : Array Edge} {zv : Value} (j : JSt B M Tb z Ψ i7 i9 D s w) (hz : Zero P Tb zv) (hc : zv.cells = z.toArray) (hD : D i7 = false) (h : i9 ≠ i7) :
    Op1 P ⟨d, .alloc Tb, t, pos, af, none⟩ e w fun u w' => ∃ s', RSt s s' ∧ JSt B M Tb z Ψ i7 i9 (setD D i7) s' w' ∧ AtS7 u s' := by
  have e : ∀ x, x ≠ i7 → setD D i7 x = D x := fun x hx => by simp [setD, hx]
  have h7 : s.o7 = none := by have := j.h7; rw [hD] at this; cases h : s.o7 <;> simp_all
  have hD9 : D i9 = false := by
    cases h : D i9
    · rfl
    · rw [j.ord h] at hD; cases hD
  have hc9 : s.c = none := by have := j.hc; rw [hD9] at this; cases h : s.c <;> simp_all
  have I := j.inv
  rw [h7] at I
  refine O.alloc I hz hc fun b w' I' => ⟨⟨s.h, some b, none⟩, ⟨Heap.le.refl _, fun v hv => (by rw [h7] at hv; cases hv)⟩, ⟨?_, ?_, ?_, fun cs hcs => (by cases hcs), I'⟩, b, rfl, rfl⟩
  · simp [setD]
  · rw [e _ h, hD9]; rfl
  · rw [e _ h, hD9]; exact fun h => by cases h
theorem JSt.put {t : TypeId} {pos : String} {af : Array Edge} {a x : Operand} {n : Nat} {ag : Bool} {v : Value} {c : List Value} (j : JSt B M Tb z Ψ i7 i9 D s w) (hT : Ty P Tb n ag) (hz : z.length = n) (hcl : c.length = n) (hD : D i9 = false) (h : i7 ≠ i9) {u : Value} (hu : AtS7 u s) (ha : ev e a = u) (hx : ev e x = v) (hv : v.cells = c.toArray) (h1 : oneCells c = true) (hΨ : Ψ c s.h) :
    Op1 P ⟨none, .store Tb a x, t, pos, af, none⟩ e w fun u w' => ∃ s', RSt s s' ∧ JSt B M Tb z Ψ i7 i9 (setD D i9) s' w' ∧ u = undef := by
  have e' : ∀ x, x ≠ i9 → setD D i9 x = D x := fun x hx => by simp [setD, hx]
  obtain ⟨b, rfl, hb⟩ := hu
  have hc9 : s.c = none := by have := j.hc; rw [hD] at this; cases h : s.c <;> simp_all
  have hD7 : D i7 = true := by rw [← j.h7, hb]; rfl
  have I := j.inv
  rw [hb, hc9] at I
  refine O.store (cs' := c) I hT 0 rfl ha hx hv hcl h1 (by show 0 + c.length ≤ z.length; omega) ?_ fun w' I' => ⟨⟨s.h, some b, some c⟩, ⟨Heap.le.refl _, fun v hv => (by rw [hb] at hv; exact hv)⟩, ⟨?_, ?_, fun _ => ?_, fun cs hcs => ?_, I'⟩, rfl⟩
  · show putAt z 0 c = c
    rw [putAt_eq _ _ _ (Nat.zero_le _)]
    simp [hcl, hz]
  · rw [e' _ h, hD7]; rfl
  · simp [setD]
  · rw [e' _ h]; exact hD7
  · injection hcs with hcs; subst hcs; exact hΨ
theorem JSt.fin (j : JSt B M Tb z Ψ i7 i9 D s w) (hD : D i9 = true) {b : Nat} (h7 : s.o7 = some b) : ∃ cs, Ψ cs s.h ∧ Inv B s.h (box b cs Tb :: M) w := by
  have hc := j.hc
  rw [hD] at hc
  obtain ⟨cs, hcs⟩ := Option.isSome_iff_exists.1 hc
  have I := j.inv
  rw [h7, hcs] at I
  exact ⟨cs, j.ok cs hcs, I⟩
end
end Go.TF
end
section
/- Needs: who is needed, by a queue. -/
namespace Go.TF
open Go Go.RowKit Go.Proofs
set_option maxRecDepth 20000

structure NdS where
  g : Nat
  o : Nat
  c : Nat
  q : List Int
  N : List Bool
  ms : List Nat
@[reducible] def NdU (b8 bo b2 : Nat) (p : Prg) (g o c : Nat) (q : List Int) (N : List Bool) : List SA := [box b8 [.slice (some ⟨g, o, none⟩) (q.map vI).length c] 40, ownQ 3 g o c (q.map vI), box bo (N.map vB) 4, box b2 p.enc 25]
structure NdJ (B : Base) (b8 bo b2 : Nat) (p : Prg) (pr : Int) (s : NdS) (w : World) : Prop where
  inv : ∃ h1, B.h.le h1 ∧ Inv B h1 (NdU b8 bo b2 p s.g s.o s.c s.q s.N ++ s.ms.map markSA) w
  len : s.N.length = p.preds.xs.length
  snd : ∀ i : Int, 0 ≤ i → i < p.preds.xs.length → bv s.N i = true → Reach (usesL p.rules.xs) pr i
  qin : ∀ x ∈ s.q, (0 ≤ x ∧ x < p.preds.xs.length) ∧ Reach (usesL p.rules.xs) pr x
  clo : ∀ c ∈ usesL p.rules.xs, bv s.N c.1 = true → bv s.N c.2.atom.pred = true ∨ c.2.atom.pred ∈ s.q
  has : bv s.N pr = true ∨ pr ∈ s.q
  small : s.q.length ≤ 1 + 24 * trues s.N
end Go.TF
end
section
/- The roads, their arrays the caller's own. -/
namespace Go.TF
open Go Go.RowKit Go.Proofs
set_option maxRecDepth 20000

def prC : List Prd := [⟨bEdge, 2, 0⟩, ⟨bFar, 2, 2⟩, ⟨bLone, 1, 0⟩]
structure RoadsM (v : Value) (h : Heap) (M : List SA) (bp br : Nat) (r0 r1 r2 r3 r4 r5 r6 : Rul) : Prop where
  val : v = .agg #[.slice (some ⟨bp, 0, none⟩) 3 3, .slice (some ⟨br, 0, none⟩) 7 7]
  own : M = [box br ([r0, r1, r2, r3, r4, r5, r6].flatMap Rul.enc) 49, box bp (prC.flatMap Prd.enc) 56]
  is : ∀ x ∈ [r0, r1, r2, r3, r4, r5, r6], x.In h
  cap : ∀ x ∈ [r0, r1, r2, r3, r4, r5, r6], x.body.xs.length ≤ x.body.cap
  er : [r0, r1, r2, r3, r4, r5, r6].map Rul.er = roadsC.rules.xs
end Go.TF
end
section
/- What the laws of programs begin with. -/
namespace Go.TF
open Go Go.RowKit Go.Proofs
set_option maxRecDepth 20000

def LtlS (x : Ltl) : Sp := fun u h => ∃ y : Ltl, u = y.val ∧ y.er = x ∧ y.In h
theorem LtlS.mono {x : Ltl} : MonoS (LtlS x) := fun _ _ _ hl ⟨s, a, b, c⟩ => ⟨s, a, b, c.le hl⟩
def LtlsS (xs : List Ltl) : Sp := fun u h => ∃ s : Sl Ltl, u = s.val ∧ s.xs.map Ltl.er = xs ∧ Ltls s h ∧ s.at_ = some ⟨s.blk, s.off, none⟩
theorem LtlsS.mono {xs : List Ltl} : MonoS (LtlsS xs) := fun _ _ _ hl ⟨s, a, b, c, d⟩ => ⟨s, a, b, c.le hl, d⟩
def LtlsF (xs : List Ltl) : Sp := fun u h => ∃ s : Sl Ltl, u = s.val ∧ s.xs.map Ltl.er = xs ∧ Ltls s h ∧ s.at_ = some ⟨s.blk, s.off, none⟩ ∧ s.cap = s.xs.length
theorem LtlsF.mono {xs : List Ltl} : MonoS (LtlsF xs) := fun _ _ _ hl ⟨s, a, b, c, d⟩ => ⟨s, a, b, c.le hl, d⟩
theorem RoadsAt.nm {p : Prg} {h : Heap} (x : RoadsAt p h) : p.Nm := by
  unfold Prg.Nm
  rw [x.preds]
  decide
theorem RoadsAt.check {p : Prg} {h : Heap} (x : RoadsAt p h) : checkProg p = 0 := by rw [← checkProg_er, x.er, roads_check]
theorem RoadsAt.uses {p : Prg} {h : Heap} (x : RoadsAt p h) : (usesL p.rules.xs).map cEr = usesL roadsC.rules.xs := by
  rw [← usesL_er]
  have := congrArg (fun q : Prg => q.rules.xs) x.er
  exact congrArg usesL this
theorem RoadsAt.len {p : Prg} {h : Heap} (x : RoadsAt p h) : p.preds.xs.length = 3 := by rw [x.preds]; rfl
end Go.TF
end
section
/- What must be of sums in any case; the law of sums. -/
namespace Go.TF
open Go Go.RowKit Go.Proofs
set_option maxRecDepth 20000

def RdS : Sp := fun v h => ∃ p : Prg, v = p.val ∧ RoadsAt p h ∧ p.rules.xs.length ≤ p.rules.cap
theorem RdS.mono : MonoS RdS := fun _ _ _ hl ⟨p, a, b, c⟩ => ⟨p, a, ⟨b.is.le hl, b.er, b.cap⟩, c⟩
def RpS : Sp := fun v h => ∃ s : Sl Prd, v = s.val ∧ Prds s h ∧ s.xs = roadsC.preds.xs
theorem RpS.mono : MonoS RpS := fun _ _ _ hl ⟨p, a, b, c⟩ => ⟨p, a, b.le hl, c⟩
def RrS : Sp := fun v h => ∃ s : Sl Rul, v = s.val ∧ Ruls s h ∧ s.xs.map Rul.er = roadsC.rules.xs ∧ s.xs.length ≤ s.cap
theorem RrS.mono : MonoS RrS := fun _ _ _ hl ⟨p, a, b, c⟩ => ⟨p, a, b.le hl, c⟩
def R6S : Sp := fun v h => ∃ s : Sl Rul, v = s.val ∧ Ruls s h ∧ s.xs.map Rul.er = roadsC.rules.xs.drop 6
theorem R6S.mono : MonoS R6S := fun _ _ _ hl ⟨p, a, b, c⟩ => ⟨p, a, b.le hl, c⟩
def R2S : Sp := fun v h => ∃ a : Prg, v = a.val ∧ a.In h ∧ a.preds.xs = roadsC.preds.xs ∧ a.rules.xs.map Rul.er = roadsC.rules.xs.drop 6
theorem R2S.mono : MonoS R2S := fun _ _ _ hl ⟨p, a, b, c⟩ => ⟨p, a, b.le hl, c⟩
def EqS (v0 : Value) : Sp := fun v _ => v = v0
theorem EqS.mono {v0 : Value} : MonoS (EqS v0) := fun _ _ _ _ h => h
/-- The union, as it comes and its parts. -/
def UtS : Sp := fun v h => ∃ a : Prg, v = .tuple #[a.val, .int .i64 0] ∧ a.In h ∧ a.er = roadsC
theorem UtS.mono : MonoS UtS := fun _ _ _ hl ⟨p, a, b, c⟩ => ⟨p, a, b.le hl, c⟩
def UpS : Sp := fun v h => ∃ a : Prg, v = a.val ∧ a.In h ∧ a.er = roadsC
theorem UpS.mono : MonoS UpS := fun _ _ _ hl ⟨p, a, b, c⟩ => ⟨p, a, b.le hl, c⟩
section
variable (B : Base) (hB : B.ok) (p q : Prg) (hp : p.In B.h) (hq : q.In B.h) (hnm : p.Nm) (hnq : q.Nm) (r : (List Prd × List Rul) × Int)
include hB hp hnm
include hq hnq
end
end Go.TF
end
section
/- Naive: how many strata; rounds of each until none changes anything; and the document's. -/
namespace Go.TF
open Go Go.RowKit Go.Proofs
set_option maxRecDepth 20000

theorem mostL_take {L : List Int} {k : Nat} (hk : k < L.length) : mostL (L.take (k + 1)) = max (mostL (L.take k)) L[k] := by
  unfold mostL; rw [List.take_succ_eq_append_getElem hk, List.foldl_append]; rfl
theorem mostL_small {L : List Int} (h : ∀ x ∈ L, 0 ≤ x ∧ x ≤ 5) : mostL L ≤ 5 := by
  rcases mostL_of L with e | e
  · omega
  · exact (h _ e).2
theorem numS_eq (L : List Int) : ((numS L : Nat) : Int) = mostL L + 1 := by have := mostL_ge L; unfold numS; omega
theorem least_small {p : Prg} {L : List Int} (h : checkProg p = 0) (hL : Least (usesL p.rules.xs) p.preds.xs.length L) : ∀ x ∈ L, 0 ≤ x ∧ x ≤ 5 := fun x hx => by
  obtain ⟨k1, _, k3, _, _⟩ := checkProg_ok h
  obtain ⟨j, hj, rfl⟩ := List.getElem_of_mem hx
  have hl := hL.sol.len
  have h1 := hL.sol.pos j
  have h2 := least_lt (inR_of k3) hL (i := (j : Int)) (by omega) (by omega)
  rw [lv_get hj] at h1 h2
  omega
theorem NStrata_ok (B : Base) (hB : B.ok) (s : Sl Int) (hs : s.Is 1 iEnc B.h) (hb : ∀ x ∈ s.xs, 0 ≤ x ∧ x ≤ 5) : Fn Try.prog 31 [s.val] B (fun v _ => v = .int .i64 (numS s.xs : Nat)) := by
  have hsm := hs.small
  refine Fn.of Try.func31 rfl Try.ntmps31 (by kernel_rfl) (by simp) ?_
  intro e
  have I := Inv.start hB
  refine WP.seq ?_
  refine WP.region ?_
  refine Ops.y (v := .int .i64 _) (Y.assign rfl) ?_
  refine Ops.nil ?_
  refine WP.seq ?_
  refine WP.region ?_
  refine Ops.y (v := .int .i64 _) (Y.assign rfl) ?_
  refine Ops.nil ?_
  refine WP.seq ?_
  refine WP.seq ?_
  refine WP.region ?_
  refine Ops.y (v := .slice _ _ _) (Y.move rfl) ?_
  refine Ops.y (v := .int .i64 _) (Y.lens Try.underlying40 rfl) ?_
  refine Ops.y (v := .int .i64 _) (Y.move rfl) ?_
  refine Ops.nil ?_
  refine WP.block ?_
  refine WP.loopE (σ := Nat) (fun k => [(3, .int .i64 (mostL (s.xs.take k) + 1)), (6, s.val), (7, .int .i64 s.xs.length), (8, .int .i64 k)]) (fun k w => Inv B B.h [] w ∧ k ≤ s.xs.length) (fun k => s.xs.length - k)
    ⟨0, ⟨rfl, rfl, rfl, rfl, trivial⟩, I, Nat.zero_le _⟩ ?_
  rintro k e w ⟨I, hk⟩
  refine WP.seq ?_
  refine WP.region ?_
  refine Ops.y (v := .bool (decide _)) (Y.lti rfl rfl) ?_
  refine Ops.nil ?_
  refine WP.seq ?_
  refine WP.cond_dec rfl (fun h3 => ?_) (fun h3 => ?_)
  · have hk' : k < s.xs.length := by omega
    have E := hs.at hk'
    have hx := hb _ (List.getElem_mem hk')
    refine WP.skip ?_
    refine WP.seq ?_
    refine WP.block ?_
    refine WP.seq ?_
    refine WP.region ?_
    refine Ops.y (v := .pointer (some ⟨_, _, none⟩)) (Y.idxEl E Try.underlying40 Try.sizeOf3 rfl rfl (Int.natCast_nonneg _) rfl) ?_
    refine Ops.y (v := .int .i64 _) (Y.loadv ty_3 rfl (I.rd (E.rd.part 0 1)) rfl rfl) ?_
    refine Ops.y (v := .int .i64 _) (Y.assign rfl) ?_
    refine Ops.nil ?_
    refine WP.region ?_
    refine Ops.y (v := .int .i64 _) (Y.move rfl) ?_
    refine Ops.y (v := .int .i64 _) (Y.move rfl) ?_
    refine Ops.y (v := .int .i64 _) (Y.addi rfl rfl ⟨by omega, by omega⟩) ?_
    refine Ops.y (v := .int .i64 _) (Y.max2 rfl rfl) ?_
    refine Ops.y (v := .int .i64 _) (Y.assign rfl) ?_
    refine Ops.nil ?_
    refine WP.region ?_
    refine Ops.y (v := .int .i64 _) (Y.addi rfl rfl ⟨by omega, by omega⟩) ?_
    refine Ops.y (v := .int .i64 _) (Y.move rfl) ?_
    refine Ops.nil ?_
    exact ⟨k + 1, ⟨⟨congrArg (Value.int .i64) (by rw [mostL_take hk']; omega), rfl, rfl, rfl, trivial⟩, I, by omega⟩, by omega⟩
  obtain rfl : k = s.xs.length := by omega
  refine WP.exit ?_
  refine WP.seq ?_
  refine WP.region ?_
  refine Ops.y (v := .int .i64 _) (Y.move rfl) ?_
  refine Ops.y (v := .int .i64 _) (Y.assign rfl) ?_
  refine Ops.nil ?_
  refine WP.ret ?_
  repeat (first | refine thenE_ret ?_ | refine blockE_ret ?_)
  exact retQ.mk (vs := [.int .i64 _]) rfl ⟨rfl, trivial⟩ I.ext_of (by simp only [tup]; rw [List.take_length, numS_eq])
def RecP (p : Prg) (v : Value) (h : Heap) : Prop := ∃ (s : Sl Fct) (r : Sl Int), v = .tuple #[s.val, r.val] ∧ Fcts s h ∧ r.Is 1 iEnc h ∧ ModK p (strataM p) (numS (strataM p)) s.xs r.xs
def RecO (h0 : Heap) (p : Prg) (v : Value) (h : Heap) : Prop := ∃ (s : Sl Fct) (r : Sl Int), v = .tuple #[s.val, r.val] ∧ Fcts s h ∧ r.Is 1 iEnc h ∧ ModK p (strataM p) (numS (strataM p)) s.xs r.xs ∧ OwnH 72 4 s Fct.enc h0 h
theorem RecO.rec {h0 h : Heap} {p : Prg} {v : Value} (x : RecO h0 p v h) : RecP p v h := by obtain ⟨s, r, a, b, c, d, _⟩ := x; exact ⟨s, r, a, b, c, d⟩
theorem PutO.mono {h0 : Heap} {r : List Fct × Bool} : MonoS (PutO h0 r) := fun _ _ _ hl ⟨s, a, b, c, d⟩ => ⟨s, a, b, c.le hl, d.le hl⟩
def SlO (h0 : Heap) (xs : List Fct) : Sp := fun v h => ∃ s : Sl Fct, v = s.val ∧ s.xs = xs ∧ Fcts s h ∧ OwnH 72 4 s Fct.enc h0 h
theorem SlO.mono {h0 : Heap} {xs : List Fct} : MonoS (SlO h0 xs) := fun _ _ _ hl ⟨s, a, b, c, d⟩ => ⟨s, a, b, c.le hl, d.le hl⟩
theorem put_mid {a : List Int} {t : List Int} {x y : Int} {k : Nat} (h : a.length = k) : (a ++ x :: t).set k y = a ++ y :: t := by subst h; simp
theorem get_mid {a : List Int} {t : List Int} {x : Int} {k : Nat} (h : a.length = k) : (a ++ x :: t)[k]? = some x := by subst h; simp
set_option maxHeartbeats 4000000 in
theorem Reckon_own (B : Base) (hB : B.ok) (p : Prg) (hp : p.In B.h) (hpr : checkProg p = 0) : Fn Try.prog 40 [p.val] B (RecO B.h p) := by
  obtain ⟨k1, k2, k3, _, _⟩ := checkProg_ok hpr
  have rk := chk_rok hpr
  have ok0 := chk_nil hpr
  refine Fn.of Try.func40 rfl Try.ntmps40 (by kernel_rfl) (by simp) ?_
  intro e
  have I := Inv.start hB
  refine WP.seq ?_
  refine WP.region ?_
  refine Ops.go (O.box (v := .agg #[_, _]) I rfl rfl ?_)
  intro b1 w I
  refine Ops.y (v := .slice _ _ _) (Y.assign rfl) ?_
  refine Ops.y (v := .slice _ _ _) (Y.assign rfl) ?_
  refine Ops.nil ?_
  refine WP.seq ?_
  refine WP.region ?_
  refine Ops.y (v := .agg #[_, _]) (Y.loadv ty_25 rfl (I.rdbox 0 rfl 0 2) rfl rfl) ?_
  refine Ops.go (O.call I Try.call50 (Levels_ok _ I.base_ok p hp (inR_of k3) k1) rfl ?_)
  rintro v13 h1 w I le1 hL
  rcases hL with ⟨s, hS, hI, rfl⟩ | ⟨hno, rfl⟩
  rotate_left
  exact absurd (strataM_least hpr).sol (hno _)
  refine Ops.y (v := .tuple #[_, _]) (Y.move rfl) ?_
  refine Ops.y (v := .slice _ _ _) (Y.extract rfl rfl) ?_
  refine Ops.y (v := .bool _) (Y.extract rfl rfl) ?_
  refine Ops.y (v := .slice _ _ _) (Y.assign rfl) ?_
  refine Ops.y (v := .bool _) (Y.assign rfl) ?_
  refine Ops.nil ?_
  have hS : Least (usesL p.rules.xs) p.preds.xs.length s.xs := hS
  have eM := strataM_eq hS
  have hb5 := least_small hpr hS
  have hN5 := mostL_small hb5
  have hNe := numS_eq s.xs
  obtain ⟨N, hN⟩ : ∃ N, numS s.xs = N := ⟨_, rfl⟩
  refine WP.seq ?_
  refine WP.region ?_
  refine Ops.y (v := .slice _ _ _) (Y.assign rfl) ?_
  refine Ops.nil ?_
  refine WP.seq ?_
  refine WP.region ?_
  refine Ops.y (v := .slice _ _ _) (Y.move rfl) ?_
  refine Ops.go (O.callv I Try.call31 (hN ▸ NStrata_ok _ I.base_ok s hI hb5) rfl ?_)
  intro w I
  refine Ops.go (O.make1 (n := N) (zc := (vI 0)) I Try.underlying40 et_3 rfl rfl rfl (by omega) (by omega) ?_)
  intro b18 w I
  refine Ops.y (v := .slice _ _ _) (Y.assign rfl) ?_
  refine Ops.nil ?_
  rw [← List.map_replicate (f := vI)] at I
  refine WP.seq ?_
  refine WP.seq ?_
  refine WP.region ?_
  refine Ops.y (v := .slice _ _ _) (Y.move rfl) ?_
  refine Ops.y (v := .int .i64 _) (Y.lens Try.underlying40 rfl) ?_
  refine Ops.y (v := .int .i64 _) (Y.move rfl) ?_
  refine Ops.nil ?_
  refine WP.block ?_
  refine WP.loopE (σ := Nat × Sl Fct × List Int × Heap) (fun s' => [(1, .pointer (some ⟨b1, 0, none⟩)), (4, s.val), (6, s'.2.1.val), (7, .slice (some ⟨b18, 0, none⟩) N N), (20, .int .i64 N), (21, .int .i64 s'.1)])
    (fun s' w => Inv B s'.2.2.2 [box b18 ((s'.2.2.1 ++ List.replicate (N - s'.1) 0).map vI) 3, box b1 p.enc 25] w ∧ s'.1 ≤ N ∧ h1.le s'.2.2.2 ∧ ModK p s.xs s'.1 s'.2.1.xs s'.2.2.1 ∧ Fcts s'.2.1 s'.2.2.2 ∧ OwnH 72 4 s'.2.1 Fct.enc B.h s'.2.2.2) (fun s' => N - s'.1)
    ⟨(0, ⟨none, 0, []⟩, [], h1), ⟨rfl, rfl, rfl, rfl, rfl, rfl, trivial⟩, I, Nat.zero_le _, Heap.le.refl _, ⟨rfl, rfl⟩, fnil, .inl rfl⟩ ?_
  rintro ⟨k, f, r0, hh⟩ e w ⟨I, hk, gl, hm, hf, ho⟩
  dsimp only at I hk gl hm hf ho ⊢
  have hrl := hm.len
  refine WP.seq ?_
  refine WP.region ?_
  refine Ops.y (v := .bool (decide _)) (Y.lti rfl rfl) ?_
  refine Ops.nil ?_
  refine WP.seq ?_
  refine WP.cond_dec rfl (fun h5 => ?_) (fun h5 => ?_)
  · have hk' : k < N := by omega
    have j0 := modK_mj rk hS.sol ok0 hm
    refine WP.skip ?_
    refine WP.seq ?_
    refine WP.block ?_
    refine WP.seq ?_
    refine WP.region ?_
    refine Ops.y (v := .int .i64 _) (Y.move rfl) ?_
    refine Ops.y (v := .int .i64 _) (Y.assign rfl) ?_
    refine Ops.nil ?_
    rw [show N - k = (N - k - 1) + 1 by omega, List.replicate_succ] at I
    refine WP.block ?_
    refine WP.loopE (σ := Nat × Sl Fct × Heap) (fun s' => [(1, .pointer (some ⟨b1, 0, none⟩)), (4, s.val), (6, s'.2.1.val), (7, .slice (some ⟨b18, 0, none⟩) N N), (8, .int .i64 k), (20, .int .i64 N), (21, .int .i64 k)])
      (fun s' w => Inv B s'.2.2 [box b18 ((r0 ++ (s'.1 : Int) :: List.replicate (N - k - 1) 0).map vI) 3, box b1 p.enc 25] w ∧ h1.le s'.2.2 ∧ FOk p.preds.xs s'.2.1.xs ∧ CloB (turnT p s.xs k) f.xs s'.1 s'.2.1.xs ∧ Fcts s'.2.1 s'.2.2 ∧ s'.1 ≤ potF p.preds.xs s'.2.1.xs ∧ OwnH 72 4 s'.2.1 Fct.enc B.h s'.2.2) (fun s' => 2001 - potF p.preds.xs s'.2.1.xs)
      ⟨(0, f, hh), ⟨rfl, rfl, rfl, rfl, rfl, rfl, rfl, trivial⟩, I, gl, j0.fok, CloB.zero, hf, Nat.zero_le _, ho⟩ ?_
    rintro ⟨m, u, h2⟩ e w ⟨I, gl2, okf, cb, hu, hmp, hou⟩
    dsimp only at I gl2 okf cb hu hmp hou ⊢
    have hp2 := hp.le (le1.trans gl2)
    have hI2 := hI.le gl2
    have hpl := potF_le p.preds.xs u.xs
    have tf := told_fine (q := ofQ p s.xs k) rk okf
    obtain ⟨tr, htr⟩ : ∃ t, turnL p.preds.xs u.xs (toldL p.preds.xs u.xs p.rules.xs (ofQ p s.xs k)) = t := ⟨_, rfl⟩
    have htT : turnT p s.xs k u.xs = tr := htr
    refine WP.block ?_
    refine WP.seq ?_
    refine WP.regionF mixed I 12 (by kernel_rfl) ?_
    refine OpsF.y_ (v := .agg #[_, _]) (fun _ => runs_none _) (fun _ w us hl I => Y.loadv ty_25 rfl (I.rdbox 1 rfl 0 2) rfl rfl) ?_
    refine OpsF.y_ (v := .slice _ _ _) (fun _ => runs_none _) (fun _ w us hl I => Y.move rfl) ?_
    refine OpsF.y_ (v := .agg #[_, _]) (fun _ => runs_none _) (fun _ w us hl I => Y.loadv ty_25 rfl (I.rdbox 1 rfl 0 2) rfl rfl) ?_
    refine OpsF.y_ (v := .slice _ _ _) (fun _ => runs_none _) (fun _ w us hl I => Y.move rfl) ?_
    refine OpsF.y_ (v := .int .i64 _) (fun _ => runs_none _) (fun _ w us hl I => Y.move rfl) ?_
    refine OpsF.x_ (Φ := ROfS p s.xs k) ROfS.mono (fun _ => runs_none _) ?_ ?_
    · intro _ w hl I
      try unfold AllL
      refine O.call I Try.call34 (ROf_ok _ I.base_ok p s k) rfl ?_
      rintro _ h5 w I hl' ⟨b4, b3, b5, rfl, k4, k3', k5⟩
      exact ⟨_, hl', I, ⟨_, rfl, ROf1_ok p s k b4 b3 b5 k4 k3' k5 ((hp2.le hl).le hl') ((hI2.le hl).le hl') hS.sol.len (heads_in k3)⟩⟩
    refine OpsF.x_ (Φ := PutO B.h tr) PutO.mono (fun _ => runs_none _) ?_ ?_
    · intro _ w hl I u30 q30
      obtain ⟨cs, rfl, hoc⟩ := q30 rfl
      try unfold AllL
      refine O.call I Try.call72 (htr ▸ Turn_own _ I.base_ok p (hp2.le hl) hpr u (hu.le hl) okf 63 cs _ hoc) rfl ?_
      rintro _ h6 w I hl' ⟨s9, a9, b9, c9, d9⟩
      exact ⟨_, hl', I, ⟨s9, a9, b9, c9, d9.older (((le1.trans gl2).trans hl))⟩⟩
    refine OpsF.x_ (Φ := PutO B.h tr) PutO.mono (fun _ => runs_none _) ?_ ?_
    · intro _ w hl I u30 q30 u31 q31
      exact O.yx I (Y.move rfl) (q31 rfl)
    refine OpsF.x_ (Φ := SlO B.h tr.1) SlO.mono (fun _ => runs_none _) ?_ ?_
    · intro _ w hl I u30 q30 u31 q31 u24 q24
      obtain ⟨s6, rfl, e6, i6, o6⟩ := q24 rfl
      exact O.yx I (Y.extract rfl rfl) (⟨s6, rfl, e6, i6, o6⟩)
    refine OpsF.d_ (v := .bool tr.2) (fun _ => runs_none _) ?_ ?_
    · intro _ w hl I u30 q30 u31 q31 u24 q24 u32 q32
      obtain ⟨s6, rfl, e6, i6, o6⟩ := q24 rfl
      exact O.yd I (Y.extract rfl rfl) (rfl)
    refine OpsF.x_ (Φ := SlO B.h tr.1) SlO.mono (fun _ => runs_none _) ?_ ?_
    · intro _ w hl I u30 q30 u31 q31 u24 q24 u32 q32
      exact O.yx I (Y.assign rfl) (q32 rfl)
    refine OpsF.y_ (v := .bool _) (fun _ => runs_none _) (fun _ w us hl I => Y.assign rfl) ?_
    refine OpsF.nil ?_
    intro _ w hl I u30 q30 u31 q31 u24 q24 u32 q32 u9 q9
    refine Ops.nil ?_
    obtain ⟨s6, rfl, hs6, is6, os6⟩ := q9 rfl
    have hf6 : Fcts s6 _ := is6
    have okg : FOk p.preds.xs s6.xs := by rw [hs6, ← htr]; exact turn_fok okf tf
    refine WP.seq ?_
    refine WP.seq ?_
    refine WP.region ?_
    refine Ops.y (v := .bool _) (Y.move rfl) ?_
    refine Ops.y (v := .bool _) (Y.not rfl) ?_
    refine Ops.nil ?_
    refine WP.cond rfl (fun h8 => ?_) (fun h8 => ?_)
    · have h8 : tr.2 = false := by simpa using h8
      refine WP.exit ?_
      refine WP.region ?_
      refine Ops.y (v := .int .i64 _) (Y.addi rfl rfl ⟨by omega, by omega⟩) ?_
      refine Ops.y (v := .int .i64 _) (Y.move rfl) ?_
      refine Ops.nil ?_
      exact ⟨(k + 1, u, r0 ++ [(m : Int)], _), ⟨⟨rfl, rfl, rfl, rfl, rfl, rfl, trivial⟩, by rw [List.append_assoc, List.singleton_append, show N - (k + 1) = N - k - 1 by omega]; exact I, by dsimp only; omega, gl2.trans hl, ⟨f.xs, r0, m, hm, cb.done (by rw [htT]; exact h8), rfl⟩, hu.le hl, hou.le hl⟩, by dsimp only; omega⟩
    have h8 : tr.2 = true := by simpa using h8
    have hne : s6.xs ≠ u.xs := by
      have := turn_chg okf tf
      rw [htr, h8] at this
      rw [hs6]; exact of_decide_eq_true this.symm
    have hlt := potF_lt okf okg (by rw [hs6, ← htr]; exact turn_above okf tf) hne
    have hpl2 := potF_le p.preds.xs s6.xs
    refine WP.skip ?_
    refine WP.seq ?_
    refine WP.region ?_
    refine Ops.y (v := .slice _ _ _) (Y.move rfl) ?_
    refine Ops.y (v := .slice _ _ _) (Y.assign rfl) ?_
    refine Ops.nil ?_
    refine WP.region ?_
    refine Ops.y (v := .slice _ _ _) (Y.move rfl) ?_
    refine Ops.y (v := .int .i64 _) (Y.move rfl) ?_
    refine Ops.y (v := .pointer (some ⟨_, _, none⟩)) (Y.idx Try.underlying40 Try.sizeOf3 rfl rfl (by omega) (by omega)) ?_
    refine Ops.y (v := .int .i64 _) (Y.loadv ty_3 rfl (I.rdL 0 rfl (by omega) (get_mid hrl)) rfl rfl) ?_
    refine Ops.y (v := .int .i64 _) (Y.addi rfl rfl ⟨by omega, by omega⟩) ?_
    refine Ops.y (v := .pointer (some ⟨_, _, none⟩)) (Y.idx Try.underlying40 Try.sizeOf3 rfl rfl (by omega) (by omega)) ?_
    refine Ops.go (O.store1 I ty_3 0 rfl rfl (i := k) (v := (m : Int) + 1) (by omega) (by simp; omega) rfl rfl rfl ?_)
    intro w I
    refine Ops.nil ?_
    rw [put_mid hrl] at I
    exact ⟨(m + 1, s6, _), ⟨⟨rfl, rfl, rfl, rfl, rfl, rfl, rfl, trivial⟩, I, gl2.trans hl, okg, by have := cb.next (by rw [htT]; exact h8); rw [htT, ← hs6] at this; exact this, is6, by dsimp only; omega, os6⟩, by dsimp only; omega⟩
  obtain rfl : k = N := by omega
  rw [Nat.sub_self, List.replicate_zero, List.append_nil] at I
  have hbo := I.at 0 rfl
  obtain ⟨h4, le4, hb4, I⟩ := (I.front 0 rfl).settle
  refine WP.exit ?_
  refine WP.seq ?_
  refine WP.region ?_
  refine Ops.y (v := .slice _ _ _) (Y.move rfl) ?_
  refine Ops.y (v := .slice _ _ _) (Y.move rfl) ?_
  refine Ops.y (v := .slice _ _ _) (Y.assign rfl) ?_
  refine Ops.y (v := .slice _ _ _) (Y.assign rfl) ?_
  refine Ops.nil ?_
  refine WP.ret ?_
  repeat (first | refine thenE_ret ?_ | refine blockE_ret ?_)
  exact retQ.mk (vs := [.slice _ _ _, .slice _ _ _]) rfl ⟨rfl, rfl, trivial⟩ I.ext_of (⟨f, ⟨some ⟨b18, 0, none⟩, k, r0⟩, by simp only [tup, Sl.val, hrl], hf.le le4, boxIs ((hb4 b18 (by simp [box])).trans hbo) (by rw [hrl]; omega), by rw [eM, hN]; exact hm, ho.le le4⟩)
theorem Reckon_ok (B : Base) (hB : B.ok) (p : Prg) (hp : p.In B.h) (hpr : checkProg p = 0) : Fn Try.prog 40 [p.val] B (RecP p) := (Reckon_own B hB p hp hpr).mono fun _ _ _ h => h.rec
def ModP (p : Prg) (v : Value) (h : Heap) : Prop := (checkProg p ≠ 0 ∧ v = .tuple #[.slice none 0 0, .int .i64 (checkProg p)]) ∨ (checkProg p = 0 ∧ ∃ (s : Sl Fct) (rs : List Int), v = .tuple #[s.val, .int .i64 0] ∧ Fcts s h ∧ ModK p (strataM p) (numS (strataM p)) s.xs rs)
def RndP (p : Prg) (v : Value) (h : Heap) : Prop := (checkProg p ≠ 0 ∧ v = .tuple #[.slice none 0 0, .int .i64 (checkProg p)]) ∨ (checkProg p = 0 ∧ ∃ (r : Sl Int) (f : List Fct), v = .tuple #[r.val, .int .i64 0] ∧ r.Is 1 iEnc h ∧ ModK p (strataM p) (numS (strataM p)) f r.xs)
theorem Model_ok (B : Base) (hB : B.ok) (p : Prg) (hp : p.In B.h) (hnm : p.Nm) : Fn Try.prog 13 [p.val] B (ModP p) := by
  refine Fn.of Try.func13 rfl Try.ntmps13 (by kernel_rfl) (by simp) ?_
  intro e
  have I := Inv.start hB
  refine WP.seq ?_
  refine WP.region ?_
  refine Ops.go (O.box (v := .agg #[_, _]) I rfl rfl ?_)
  intro b1 w I
  refine Ops.y (v := .slice _ _ _) (Y.assign rfl) ?_
  refine Ops.y (v := .int .i64 _) (Y.assign rfl) ?_
  refine Ops.nil ?_
  refine WP.seq ?_
  refine WP.seq ?_
  refine WP.region ?_
  refine Ops.y (v := .agg #[_, _]) (Y.loadv ty_25 rfl (I.rdbox 0 rfl 0 2) rfl rfl) ?_
  refine Ops.go (O.callv I Try.call20 (PCheck_ok _ I.base_ok p hp hnm) rfl ?_)
  intro w I
  refine Ops.y (v := .int .i64 _) (Y.assign rfl) ?_
  refine Ops.nil ?_
  refine WP.seq ?_
  refine WP.region ?_
  refine Ops.y (v := .int .i64 _) (Y.move rfl) ?_
  refine Ops.y (v := .bool (decide _)) (Y.nei rfl rfl) ?_
  refine Ops.nil ?_
  refine WP.cond_dec rfl (fun h => ?_) (fun h => ?_)
  · refine WP.seq ?_
    refine WP.region ?_
    refine Ops.y (v := .int .i64 _) (Y.move rfl) ?_
    refine Ops.y (v := .slice _ _ _) (Y.assign rfl) ?_
    refine Ops.y (v := .int .i64 _) (Y.assign rfl) ?_
    refine Ops.nil ?_
    refine WP.ret ?_
    repeat (first | refine thenE_ret ?_ | refine blockE_ret ?_)
    exact retQ.mk (vs := [.slice _ _ _, .int .i64 _]) rfl ⟨rfl, rfl, trivial⟩ I.ext_of (.inl ⟨h, rfl⟩)
  have hpr := Decidable.not_not.1 h
  refine WP.skip ?_
  refine WP.seq ?_
  refine WP.region ?_
  refine Ops.y (v := .agg #[_, _]) (Y.loadv ty_25 rfl (I.rdbox 0 rfl 0 2) rfl rfl) ?_
  refine Ops.go (O.call I Try.call40 (Reckon_ok _ I.base_ok p hp hpr) rfl ?_)
  rintro _ h3 w I le3 ⟨s, r, rfl, hs, hr, hm⟩
  refine Ops.y (v := .tuple #[_, _]) (Y.move rfl) ?_
  refine Ops.y (v := .slice _ _ _) (Y.extract rfl rfl) ?_
  refine Ops.y (v := .slice _ _ _) (Y.extract rfl rfl) ?_
  refine Ops.y (v := .slice _ _ _) (Y.assign rfl) ?_
  refine Ops.y (v := .slice _ _ _) (Y.assign rfl) ?_
  refine Ops.nil ?_
  refine WP.seq ?_
  refine WP.region ?_
  refine Ops.y (v := .slice _ _ _) (Y.move rfl) ?_
  refine Ops.y (v := .slice _ _ _) (Y.assign rfl) ?_
  refine Ops.y (v := .int .i64 _) (Y.assign rfl) ?_
  refine Ops.nil ?_
  refine WP.ret ?_
  repeat (first | refine thenE_ret ?_ | refine blockE_ret ?_)
  exact retQ.mk (vs := [.slice _ _ _, .int .i64 _]) rfl ⟨rfl, rfl, trivial⟩ I.ext_of (.inr ⟨hpr, s, r.xs, rfl, hs, hm⟩)
theorem Rounds_ok (B : Base) (hB : B.ok) (p : Prg) (hp : p.In B.h) (hnm : p.Nm) : Fn Try.prog 16 [p.val] B (RndP p) := by
  refine Fn.of Try.func16 rfl Try.ntmps16 (by kernel_rfl) (by simp) ?_
  intro e
  have I := Inv.start hB
  refine WP.seq ?_
  refine WP.region ?_
  refine Ops.go (O.box (v := .agg #[_, _]) I rfl rfl ?_)
  intro b1 w I
  refine Ops.y (v := .slice _ _ _) (Y.assign rfl) ?_
  refine Ops.y (v := .int .i64 _) (Y.assign rfl) ?_
  refine Ops.nil ?_
  refine WP.seq ?_
  refine WP.seq ?_
  refine WP.region ?_
  refine Ops.y (v := .agg #[_, _]) (Y.loadv ty_25 rfl (I.rdbox 0 rfl 0 2) rfl rfl) ?_
  refine Ops.go (O.callv I Try.call20 (PCheck_ok _ I.base_ok p hp hnm) rfl ?_)
  intro w I
  refine Ops.y (v := .int .i64 _) (Y.assign rfl) ?_
  refine Ops.nil ?_
  refine WP.seq ?_
  refine WP.region ?_
  refine Ops.y (v := .int .i64 _) (Y.move rfl) ?_
  refine Ops.y (v := .bool (decide _)) (Y.nei rfl rfl) ?_
  refine Ops.nil ?_
  refine WP.cond_dec rfl (fun h => ?_) (fun h => ?_)
  · refine WP.seq ?_
    refine WP.region ?_
    refine Ops.y (v := .int .i64 _) (Y.move rfl) ?_
    refine Ops.y (v := .slice _ _ _) (Y.assign rfl) ?_
    refine Ops.y (v := .int .i64 _) (Y.assign rfl) ?_
    refine Ops.nil ?_
    refine WP.ret ?_
    repeat (first | refine thenE_ret ?_ | refine blockE_ret ?_)
    exact retQ.mk (vs := [.slice _ _ _, .int .i64 _]) rfl ⟨rfl, rfl, trivial⟩ I.ext_of (.inl ⟨h, rfl⟩)
  have hpr := Decidable.not_not.1 h
  refine WP.skip ?_
  refine WP.seq ?_
  refine WP.region ?_
  refine Ops.y (v := .agg #[_, _]) (Y.loadv ty_25 rfl (I.rdbox 0 rfl 0 2) rfl rfl) ?_
  refine Ops.go (O.call I Try.call40 (Reckon_ok _ I.base_ok p hp hpr) rfl ?_)
  rintro _ h3 w I le3 ⟨s, r, rfl, hs, hr, hm⟩
  refine Ops.y (v := .tuple #[_, _]) (Y.move rfl) ?_
  refine Ops.y (v := .slice _ _ _) (Y.extract rfl rfl) ?_
  refine Ops.y (v := .slice _ _ _) (Y.extract rfl rfl) ?_
  refine Ops.y (v := .slice _ _ _) (Y.assign rfl) ?_
  refine Ops.y (v := .slice _ _ _) (Y.assign rfl) ?_
  refine Ops.nil ?_
  refine WP.seq ?_
  refine WP.region ?_
  refine Ops.y (v := .slice _ _ _) (Y.move rfl) ?_
  refine Ops.y (v := .slice _ _ _) (Y.assign rfl) ?_
  refine Ops.y (v := .int .i64 _) (Y.assign rfl) ?_
  refine Ops.nil ?_
  refine WP.ret ?_
  repeat (first | refine thenE_ret ?_ | refine blockE_ret ?_)
  exact retQ.mk (vs := [.slice _ _ _, .int .i64 _]) rfl ⟨rfl, rfl, trivial⟩ I.ext_of (.inr ⟨hpr, r, s.xs, rfl, hr, hm⟩)
def MofP (p : Prg) (v : Value) (h : Heap) : Prop := ∃ (s : Sl Fct) (rs : List Int), v = s.val ∧ Fcts s h ∧ ModK p (strataM p) (numS (strataM p)) s.xs rs
def RofP (p : Prg) (v : Value) (h : Heap) : Prop := ∃ (r : Sl Int) (f : List Fct), v = r.val ∧ r.Is 1 iEnc h ∧ ModK p (strataM p) (numS (strataM p)) f r.xs
theorem MofP.mono {p : Prg} : MonoS (MofP p) := fun _ _ _ hl ⟨s, r, a, b, c⟩ => ⟨s, r, a, b.le hl, c⟩
theorem RofP.mono {p : Prg} : MonoS (RofP p) := fun _ _ _ hl ⟨s, r, a, b, c⟩ => ⟨s, r, a, b.le hl, c⟩
end Go.TF
end
section
/- The laws of programs: each returns true. -/
namespace Go.TF
open Go Go.RowKit Go.Proofs
set_option maxRecDepth 20000

theorem PrgOk.nm {p : Prg} {h : Heap} (x : PrgOk p h) : p.Nm := fun y hy => by
  have := (x.preds.each y hy).name
  have h2 : reachBytes ≤ 140737488355328 := by decide
  omega
end Go.TF
end
section
/- The other two laws of programs: each returns true. -/
namespace Go.TF
open Go Go.RowKit Go.Proofs
set_option maxRecDepth 20000

def chooseI (c n : Int) : Int := (if c < 0 then -(c + 1) else c).tmod n
theorem chooseI_in {c n : Int} (hn : 0 < n) : 0 ≤ chooseI c n ∧ chooseI c n < n :=
  ⟨Int.tmod_nonneg _ (by split <;> omega), Int.tmod_lt_of_pos _ hn⟩
theorem choose_ok (B : Base) (hB : B.ok) (c n : Int) (hc : I64 c) (hn : 0 < n) : Fn Try.prog 18 [.int .i64 c, .int .i64 n] B (fun v _ => v = .int .i64 (chooseI c n)) := by
  unfold I64 at hc
  refine Fn.of Try.func18 rfl Try.ntmps18 (by kernel_rfl) (by simp) ?_
  intro e
  have I := Inv.start hB
  refine WP.seq ?_
  refine WP.region ?_
  refine Ops.y (v := .int .i64 _) (Y.assign rfl) ?_
  refine Ops.nil ?_
  refine WP.seq ?_
  refine WP.seq ?_
  refine WP.region ?_
  refine Ops.y (v := .int .i64 _) (Y.move rfl) ?_
  refine Ops.y (v := .bool (decide _)) (Y.lti rfl rfl) ?_
  refine Ops.nil ?_
  refine WP.cond_dec rfl (fun h => ?_) (fun h => ?_)
  · refine WP.region ?_
    refine Ops.y (v := .int .i64 _) (Y.move rfl) ?_
    refine Ops.y (v := .int .i64 _) (Y.addi rfl rfl ⟨by omega, by omega⟩) ?_
    refine Ops.y (v := .int .i64 _) (Y.negi rfl ⟨by omega, by omega⟩) ?_
    refine Ops.y (v := .int .i64 _) (Y.assign rfl) ?_
    refine Ops.nil ?_
    refine WP.seq ?_
    refine WP.region ?_
    refine Ops.y (v := .int .i64 _) (Y.move rfl) ?_
    refine Ops.y (v := .int .i64 _) (Y.move rfl) ?_
    refine Ops.y (v := .int .i64 _) (Y.remi rfl rfl (by omega)) ?_
    refine Ops.y (v := .int .i64 _) (Y.assign rfl) ?_
    refine Ops.nil ?_
    refine WP.ret ?_
    repeat (first | refine thenE_ret ?_ | refine blockE_ret ?_)
    exact retQ.mk (vs := [.int .i64 _]) rfl ⟨rfl, trivial⟩ I.ext_of (by simp only [tup, chooseI]; rw [if_pos h])
  · refine WP.skip ?_
    refine WP.seq ?_
    refine WP.region ?_
    refine Ops.y (v := .int .i64 _) (Y.move rfl) ?_
    refine Ops.y (v := .int .i64 _) (Y.move rfl) ?_
    refine Ops.y (v := .int .i64 _) (Y.remi rfl rfl (by omega)) ?_
    refine Ops.y (v := .int .i64 _) (Y.assign rfl) ?_
    refine Ops.nil ?_
    refine WP.ret ?_
    repeat (first | refine thenE_ret ?_ | refine blockE_ret ?_)
    exact retQ.mk (vs := [.int .i64 _]) rfl ⟨rfl, trivial⟩ I.ext_of (by simp only [tup, chooseI]; rw [if_neg h])
def Asked (L : List Int) (k : Int) (cs : List (Int × Ltl)) : Prop := lv L k = 0 ∨ ∃ c ∈ cs, c.1 = k ∧ lv L k = lst L c
theorem Least.asked {cs : List (Int × Ltl)} {n : Nat} {L : List Int} (hr : InR cs n) (h : Least cs n L) {k : Int} (k0 : 0 ≤ k) (k1 : k < n) : Asked L k cs := by
  refine Classical.byContradiction fun hno => ?_
  unfold Asked at hno
  have hz : lv L k ≠ 0 := fun e => hno (.inl e)
  have hc : ∀ c ∈ cs, c.1 = k → lv L k ≠ lst L c := fun c hc e e2 => hno (.inr ⟨c, hc, e, e2⟩)
  have hp := h.sol.pos k
  have hkl : k < L.length := by rw [h.sol.len]; exact k1
  have hle : ∀ i : Int, 0 ≤ i → lv (L.set k.toNat (lv L k - 1)) i ≤ lv L i := fun i h0 => by
    rw [lv_set k0 hkl _ _ h0]; split
    · rename_i e; subst e; omega
    · omega
  have hM : Sol cs n (L.set k.toNat (lv L k - 1)) := by
    refine ⟨by simp [h.sol.len], fun i => ?_, fun c hcm => ?_⟩
    · have key : ∀ i : Int, 0 ≤ i → 0 ≤ lv (L.set k.toNat (lv L k - 1)) i := fun i h0 => by
        rw [lv_set k0 hkl _ _ h0]; split
        · omega
        · exact h.sol.pos i
      by_cases h0 : 0 ≤ i
      · exact key i h0
      · rw [lv_neg _ (by omega)]; exact key 0 (Int.le_refl 0)
    · have hh := hr.h c hcm
      have hb := hr.b c hcm
      have hs := h.sol.sat c hcm
      have h2 := hle _ hb.1
      unfold SatC lst at hs ⊢
      rw [lv_set k0 hkl _ c.1 hh.1]
      split
      · rename_i e
        have := hc c hcm e
        unfold lst at this
        rw [e] at hs; omega
      · omega
  have := h.least _ hM k
  rw [lv_set k0 hkl _ _ k0, if_pos rfl] at this
  omega
theorem Least.lt {cs : List (Int × Ltl)} {n : Nat} {L : List Int} (hr : InR cs n) (h : Least cs n L) {i : Int} (h0 : 0 ≤ i) (h1 : i < n) : lv L i < n := by
  obtain ⟨M', hM', hlt⟩ := h.sol.small hr
  exact Int.lt_of_le_of_lt (h.least M' hM' i) (hlt i h0 h1)
theorem Reach.trans {cs : List (Int × Ltl)} {a b c : Int} (h : Reach cs a b) (k : Reach cs b c) : Reach cs a c := by
  induction k with
  | refl => exact h
  | step _ hu ih => exact .step ih hu
end Go.TF
end
section
/- The roads' model; what must be in any case of the model. -/
namespace Go.TF
open Go Go.RowKit Go.Proofs
set_option maxRecDepth 20000

def rdM0 : List Fct := ((cloF (turnT roadsC [0, 0, 1] 0) 8 []).getD ([], 0)).1
def rdM : List Fct := ((cloF (turnT roadsC [0, 0, 1] 1) 8 rdM0).getD ([], 0)).1
theorem rdM0_clo : cloF (turnT roadsC [0, 0, 1] 0) 8 [] = some (rdM0, 4) := by kernel_rfl
theorem rdM_clo : cloF (turnT roadsC [0, 0, 1] 1) 8 rdM0 = some (rdM, 1) := by kernel_rfl
section
variable {p : Prg} {h : Heap} (hp : RoadsAt p h)
include hp
theorem rd_ofQs (st : Int) (n : Nat) (hn : n < 7) : ofQ p [0, 0, 1] st n = ofQ roadsC [0, 0, 1] st n := by
  have h1 : (p.rules.xs.map Rul.er).getD n default = roadsC.rules.xs.getD n default := by rw [rd_rules hp]
  have h2 : n < p.rules.xs.length := by rw [rd_len hp]; exact hn
  rw [List.getD_eq_getElem?_getD, List.getElem?_map, List.getElem?_eq_getElem h2] at h1
  unfold ofQ
  rw [← h1, List.getD_eq_getElem?_getD, List.getElem?_eq_getElem h2]
  rfl
theorem rd_told (st : Int) (f : List Fct) : toldL p.preds.xs f p.rules.xs (ofQ p [0, 0, 1] st) = toldL roadsC.preds.xs f roadsC.rules.xs (ofQ roadsC [0, 0, 1] st) := by
  rw [rd_preds hp, ← rd_rules hp, toldL_er]
  exact toldK_congr fun n hn => rd_ofQs hp st n (by rw [rd_len hp] at hn; exact hn)
theorem rd_turn (st : Int) : turnT p [0, 0, 1] st = turnT roadsC [0, 0, 1] st := by
  funext f
  unfold turnT
  rw [rd_told hp, rd_preds hp]
theorem rd_mod : ModK p (strataM p) (numS (strataM p)) rdM [4, 1] := by
  rw [rd_strata hp, show numS [0, 0, 1] = 2 by decide]
  refine ⟨rdM0, [4], 1, ⟨[], [], 4, ⟨rfl, rfl⟩, ?_, rfl⟩, ?_, rfl⟩
  · rw [rd_turn hp]; exact cloF_clo rdM0_clo
  · rw [rd_turn hp]; exact cloF_clo rdM_clo
end
/-- The roads' model. -/
theorem rd_Model (B : Base) (hB : B.ok) (p : Prg) (hp : RoadsAt p B.h) : Fn Try.prog 13 [p.val] B (fun v h => ∃ s : Sl Fct, v = .tuple #[s.val, .int .i64 0] ∧ s.xs = rdM ∧ Fcts s h) :=
  (Model_ok B hB p hp.is hp.nm).mono fun v h' _ hv => by
    rcases hv with ⟨h1, _⟩ | ⟨_, s, rs, rfl, hs, hm⟩
    · exact absurd hp.check h1
    · exact ⟨s, rfl, ((rd_mod hp).uniq hm).1, hs⟩
theorem rd_Rounds (B : Base) (hB : B.ok) (p : Prg) (hp : RoadsAt p B.h) : Fn Try.prog 16 [p.val] B (fun v h => ∃ s : Sl Int, v = .tuple #[s.val, .int .i64 0] ∧ s.xs = [4, 1] ∧ s.Is 1 iEnc h) :=
  (Rounds_ok B hB p hp.is hp.nm).mono fun v h' _ hv => by
    rcases hv with ⟨h1, _⟩ | ⟨_, s, f, rfl, hs, hm⟩
    · exact absurd hp.check h1
    · exact ⟨s, rfl, ((rd_mod hp).uniq hm).2, hs⟩
theorem rd_find1 {p : Prg} {h : Heap} (hp : RoadsAt p h) : findOf p.preds.xs rdM ⟨1, 3, 2, 0⟩ = (3, true, 0) := by rw [rd_preds hp]; kernel_rfl
theorem rd_find2 {p : Prg} {h : Heap} (hp : RoadsAt p h) : (findOf p.preds.xs rdM ⟨2, 3, 0, 0⟩) = (0, true, 0) := by rw [rd_preds hp]; kernel_rfl
theorem rd_find3 {p : Prg} {h : Heap} (hp : RoadsAt p h) : (findOf p.preds.xs rdM ⟨2, 0, 0, 0⟩) = (0, false, 0) := by rw [rd_preds hp]; kernel_rfl
theorem SameInts_at (B : Base) (hB : B.ok) (a b : Sl Int) (ha : a.Is 1 iEnc B.h) (hb : b.Is 1 iEnc B.h) (h : a.xs = b.xs) : Fn Try.prog 19 [a.val, b.val] B (fun v _ => v = .bool true) := by
  have := SameInts_ok B hB a b ha hb
  rwa [decide_eq_true h] at this
set_option maxHeartbeats 4000000 in
theorem naiveBegun_ok (B : Base) (hB : B.ok) : Fn Try.prog 17 [] B (fun v _ => v = .bool true) := by
  refine Fn.of Try.func17 rfl Try.ntmps17 (by kernel_rfl) (by simp) ?_
  intro e
  have I := Inv.start hB
  refine WP.seq ?_
  refine WP.region ?_
  refine Ops.y (v := .bool _) (Y.assign rfl) ?_
  refine Ops.nil ?_
  refine WP.seq ?_
  refine WP.region ?_
  refine Ops.go (O.call I Try.call28 (roads_ok _ I.base_ok) rfl ?_)
  rintro _ h1 w I le1 ⟨p1, rfl, hp1⟩
  refine Ops.go (O.call I Try.call13 (rd_Model _ I.base_ok p1 hp1) rfl ?_)
  rintro _ h2 w I le2 ⟨m, rfl, em, im⟩
  refine Ops.y (v := .tuple #[_, _]) (Y.move rfl) ?_
  refine Ops.y (v := .slice _ _ _) (Y.extract rfl rfl) ?_
  refine Ops.y (v := .int .i64 _) (Y.extract rfl rfl) ?_
  refine Ops.y (v := .slice _ _ _) (Y.assign rfl) ?_
  refine Ops.y (v := .int .i64 _) (Y.assign rfl) ?_
  refine Ops.nil ?_
  refine WP.seq ?_
  refine WP.region ?_
  refine Ops.go (O.call I Try.call28 (roads_ok _ I.base_ok) rfl ?_)
  rintro _ h3 w I le3 ⟨p2, rfl, hp2⟩
  refine Ops.go (O.call I Try.call16 (rd_Rounds _ I.base_ok p2 hp2) rfl ?_)
  rintro _ h4 w I le4 ⟨r, rfl, er, ir⟩
  refine Ops.y (v := .tuple #[_, _]) (Y.move rfl) ?_
  refine Ops.y (v := .slice _ _ _) (Y.extract rfl rfl) ?_
  refine Ops.y (v := .int .i64 _) (Y.extract rfl rfl) ?_
  refine Ops.y (v := .slice _ _ _) (Y.assign rfl) ?_
  refine Ops.y (v := .int .i64 _) (Y.assign rfl) ?_
  refine Ops.nil ?_
  have im := (im.le le3).le le4
  refine WP.seq ?_
  refine WP.region ?_
  refine Ops.go (O.call I Try.call28 (roads_ok _ I.base_ok) rfl ?_)
  rintro _ h5 w I le5 ⟨p3, rfl, hp3⟩
  refine Ops.y (v := .slice _ _ _) (Y.field fd_25_0 ty_22 rfl rfl rfl rfl) ?_
  refine Ops.y (v := .slice _ _ _) (Y.move rfl) ?_
  refine Ops.y (v := .agg #[.int .i64 _, .int .i64 _, .int .i64 _, .int .i64 _]) (Y.build pl_72 Try.zeroValue72 rfl rfl) ?_
  refine Ops.go (O.callv I Try.call41 (Find_at _ I.base_ok p3.preds hp3.is.preds m (im.le le5) ⟨1, 3, 2, 0⟩ (3, true, 0) (by rw [em]; exact rd_find1 hp3)) rfl ?_)
  intro w I
  refine Ops.y (v := .tuple #[_, _, _]) (Y.move rfl) ?_
  refine Ops.y (v := .int .i64 _) (Y.extract rfl rfl) ?_
  refine Ops.y (v := .bool _) (Y.extract rfl rfl) ?_
  refine Ops.y (v := .int .i64 _) (Y.extract rfl rfl) ?_
  refine Ops.y (v := .int .i64 _) (Y.assign rfl) ?_
  refine Ops.y (v := .bool _) (Y.assign rfl) ?_
  refine Ops.y (v := .int .i64 _) (Y.assign rfl) ?_
  refine Ops.nil ?_
  refine WP.seq ?_
  refine WP.region ?_
  refine Ops.go (O.call I Try.call28 (roads_ok _ I.base_ok) rfl ?_)
  rintro _ h6 w I le6 ⟨p4, rfl, hp4⟩
  refine Ops.y (v := .slice _ _ _) (Y.field fd_25_0 ty_22 rfl rfl rfl rfl) ?_
  refine Ops.y (v := .slice _ _ _) (Y.move rfl) ?_
  refine Ops.y (v := .agg #[.int .i64 _, .int .i64 _, .int .i64 _, .int .i64 _]) (Y.build pl_72 Try.zeroValue72 rfl rfl) ?_
  refine Ops.go (O.callv I Try.call41 (Find_at _ I.base_ok p4.preds hp4.is.preds m ((im.le le5).le le6) ⟨2, 3, 0, 0⟩ (0, true, 0) (by rw [em]; exact rd_find2 hp4)) rfl ?_)
  intro w I
  refine Ops.y (v := .tuple #[_, _, _]) (Y.move rfl) ?_
  refine Ops.y (v := .int .i64 _) (Y.extract rfl rfl) ?_
  refine Ops.y (v := .bool _) (Y.extract rfl rfl) ?_
  refine Ops.y (v := .int .i64 _) (Y.extract rfl rfl) ?_
  refine Ops.y (v := .int .i64 _) (Y.assign rfl) ?_
  refine Ops.y (v := .bool _) (Y.assign rfl) ?_
  refine Ops.y (v := .int .i64 _) (Y.assign rfl) ?_
  refine Ops.nil ?_
  refine WP.seq ?_
  refine WP.region ?_
  refine Ops.go (O.call I Try.call28 (roads_ok _ I.base_ok) rfl ?_)
  rintro _ h7 w I le7 ⟨p5, rfl, hp5⟩
  refine Ops.y (v := .slice _ _ _) (Y.field fd_25_0 ty_22 rfl rfl rfl rfl) ?_
  refine Ops.y (v := .slice _ _ _) (Y.move rfl) ?_
  refine Ops.y (v := .agg #[.int .i64 _, .int .i64 _, .int .i64 _, .int .i64 _]) (Y.build pl_72 Try.zeroValue72 rfl rfl) ?_
  refine Ops.go (O.callv I Try.call41 (Find_at _ I.base_ok p5.preds hp5.is.preds m (((im.le le5).le le6).le le7) ⟨2, 0, 0, 0⟩ (0, false, 0) (by rw [em]; exact rd_find3 hp5)) rfl ?_)
  intro w I
  refine Ops.y (v := .tuple #[_, _, _]) (Y.move rfl) ?_
  refine Ops.y (v := .int .i64 _) (Y.extract rfl rfl) ?_
  refine Ops.y (v := .bool _) (Y.extract rfl rfl) ?_
  refine Ops.y (v := .int .i64 _) (Y.extract rfl rfl) ?_
  refine Ops.y (v := .int .i64 _) (Y.assign rfl) ?_
  refine Ops.y (v := .bool _) (Y.assign rfl) ?_
  refine Ops.y (v := .int .i64 _) (Y.assign rfl) ?_
  refine Ops.nil ?_
  have n1 : m.xs.length = 17 := by rw [em]; kernel_rfl
  have ir := ((ir.le le5).le le6).le le7
  refine WP.seq ?_
  refine WP.region ?_
  refine Ops.y (v := .int .i64 _) (Y.move rfl) ?_
  refine Ops.y (v := .bool true) (Y.dec_t (Y.eqi rfl rfl) (rfl)) ?_
  refine Ops.y (v := .bool _) (Y.move rfl) ?_
  refine Ops.ygt rfl (v := .int .i64 _) (Y.move rfl) ?_
  refine Ops.ygt rfl (v := .bool true) (Y.dec_t (Y.eqi rfl rfl) (rfl)) ?_
  refine Ops.y (v := .bool _) (Y.pick_t rfl rfl) ?_
  refine Ops.y (v := .bool _) (Y.move rfl) ?_
  refine Ops.ygt rfl (v := .int .i64 _) (Y.move rfl) ?_
  refine Ops.ygt rfl (v := .bool true) (Y.dec_t (Y.eqi rfl rfl) (rfl)) ?_
  refine Ops.y (v := .bool _) (Y.pick_t rfl rfl) ?_
  refine Ops.y (v := .bool _) (Y.move rfl) ?_
  refine Ops.ygt rfl (v := .int .i64 _) (Y.move rfl) ?_
  refine Ops.ygt rfl (v := .bool true) (Y.dec_t (Y.eqi rfl rfl) (rfl)) ?_
  refine Ops.y (v := .bool _) (Y.pick_t rfl rfl) ?_
  refine Ops.y (v := .bool _) (Y.move rfl) ?_
  refine Ops.ygt rfl (v := .int .i64 _) (Y.move rfl) ?_
  refine Ops.ygt rfl (v := .bool true) (Y.dec_t (Y.eqi rfl rfl) (rfl)) ?_
  refine Ops.y (v := .bool _) (Y.pick_t rfl rfl) ?_
  refine Ops.y (v := .bool _) (Y.move rfl) ?_
  refine Ops.ygt rfl (v := .slice _ _ _) (Y.move rfl) ?_
  refine Ops.ygt rfl (v := .int .i64 _) (Y.lens Try.underlying33 rfl) ?_
  refine Ops.ygt rfl (v := .bool true) (Y.dec_t (Y.eqi rfl rfl) ((by rw [n1]; rfl))) ?_
  refine Ops.y (v := .bool _) (Y.pick_t rfl rfl) ?_
  refine Ops.y (v := .bool _) (Y.move rfl) ?_
  refine Ops.ygt rfl (v := .int .i64 _) (Y.move rfl) ?_
  refine Ops.ygt rfl (v := .bool true) (Y.dec_t (Y.eqi rfl rfl) (rfl)) ?_
  refine Ops.y (v := .bool _) (Y.pick_t rfl rfl) ?_
  refine Ops.y (v := .bool _) (Y.move rfl) ?_
  refine Ops.ygt rfl (v := .bool _) (Y.move rfl) ?_
  refine Ops.y (v := .bool _) (Y.pick_t rfl rfl) ?_
  refine Ops.y (v := .bool _) (Y.move rfl) ?_
  refine Ops.ygt rfl (v := .bool _) (Y.move rfl) ?_
  refine Ops.y (v := .bool _) (Y.pick_t rfl rfl) ?_
  refine Ops.y (v := .bool _) (Y.move rfl) ?_
  refine Ops.ygt rfl (v := .bool _) (Y.move rfl) ?_
  refine Ops.ygt rfl (v := .bool true) (Y.b (Y.not rfl) (rfl)) ?_
  refine Ops.y (v := .bool _) (Y.pick_t rfl rfl) ?_
  refine Ops.y (v := .bool _) (Y.move rfl) ?_
  refine Ops.ygt rfl (v := .slice _ _ _) (Y.move rfl) ?_
  refine Ops.gt rfl (O.mksl (xs := [(4 : Int), 1]) (enc := iEnc) I Try.underlying40 Try.sizeOf3 Try.zeroValue3 rfl (Nat.le_of_ble_eq_true rfl) rfl rfl (by decide) (fun _ => rfl) ?_)
  intro b90 h90 w I le90 sl90
  refine Ops.gt rfl (O.callv I Try.call19 (SameInts_at _ I.base_ok r ⟨some ⟨b90, 0, none⟩, 2, [4, 1]⟩ (ir.le le90) ⟨sl90, by simp⟩ er) rfl ?_)
  intro w I
  refine Ops.y (v := .bool _) (Y.pick_t rfl rfl) ?_
  refine Ops.y (v := .bool _) (Y.assign rfl) ?_
  refine Ops.nil ?_
  refine WP.ret ?_
  repeat (first | refine thenE_ret ?_ | refine blockE_ret ?_)
  exact retQ.mk (vs := [.bool _]) rfl ⟨rfl, trivial⟩ I.ext_of (rfl)
end Go.TF
end
section
/- The laws of sums: each returns true. -/
namespace Go.TF
open Go Go.RowKit Go.Proofs
set_option maxRecDepth 20000

/-- The same rules, in whatever order: the same follows. -/
theorem mod_rules {a b : Prg} {f g : List Fct} {rs rs' : List Int} (hp : a.preds.xs = b.preds.xs) (hR : ∀ r, r ∈ a.rules.xs ↔ r ∈ b.rules.xs) (ha : checkProg a = 0) (_ : checkProg b = 0)
    (m : ModK a (strataM a) (numS (strataM a)) f rs) (m2 : ModK b (strataM b) (numS (strataM b)) g rs') : f = g ∧ rs = rs' := by
  have e : strataM b = strataM a := strataM_eq (hp ▸ least_rules (fun r hr => (hR r).1 hr) (strataM_least ha) fun r hr => (hR r).2 hr)
  rw [e] at m2
  have := (modK_rules hp hR (chk_rok ha) (chk_nil ha) m).2
  exact ⟨(m2.uniq this).1, (m2.uniq this).2⟩
end Go.TF
end
section
/- Rules in another order: the law returns true. -/
namespace Go.TF
open Go Go.RowKit Go.Proofs
set_option maxRecDepth 20000

theorem swap_mem {rs : List Rul} {a b : Nat} (ha : a < rs.length) (hb : b < rs.length) (r : Rul) : r ∈ rs ↔ r ∈ (rs.set a rs[b]).set b rs[a] := by
  constructor
  · intro h
    obtain ⟨k, hk, rfl⟩ := List.getElem_of_mem h
    have hb' : b < (rs.set a rs[b]).length := by simpa using hb
    by_cases e1 : k = a
    · subst e1
      exact List.mem_of_getElem (i := b) (h := by simpa using hb) (by simp)
    · by_cases e2 : k = b
      · subst e2
        by_cases e3 : a = k
        · exact absurd e3.symm e1
        · exact List.mem_of_getElem (i := a) (h := by simpa using ha) (by rw [List.getElem_set_ne (Ne.symm e3)]; simp)
      · exact List.mem_of_getElem (i := k) (h := by simpa using hk) (by rw [List.getElem_set_ne (Ne.symm e2), List.getElem_set_ne (Ne.symm e1)])
  · intro h
    rcases List.mem_or_eq_of_mem_set h with h | rfl
    · rcases List.mem_or_eq_of_mem_set h with h | rfl
      · exact h
      · exact List.getElem_mem _
    · exact List.getElem_mem _
theorem order_in {p : Prg} {h : Heap} {s : Sl Rul} {ws : List Rul} (hp : p.In h) (hs : s.In 5 Rul.enc h) (e : s.xs = ws) (hm : ∀ r, r ∈ p.rules.xs ↔ r ∈ ws) (hl : ws.length ≤ 8) (hpr : checkProg p = 0) :
    Prg.In ⟨p.preds, s⟩ h ∧ checkProg ⟨p.preds, s⟩ = 0 ∧ ∀ r, r ∈ p.rules.xs ↔ r ∈ s.xs := by
  subst e
  exact ⟨⟨hp.preds, ⟨⟨hs, by show s.xs.length ≤ _; omega⟩, fun r hr => hp.rules.each r ((hm r).2 hr)⟩⟩, checkProg_sub (p := p) rfl hl (fun r hr => (hm r).2 hr) hpr, hm⟩
set_option maxHeartbeats 16000000 in
theorem NaiveOrder_ok (B : Base) (hB : B.ok) (p : Prg) (hp : p.In B.h) (hnm : p.Nm) (i j : Int) (hi : I64 i) (hj : I64 j) : Fn Try.prog 5 [p.val, .int .i64 i, .int .i64 j] B (fun v _ => v = .bool true) := by
  refine Fn.of Try.func5 rfl Try.ntmps5 (by kernel_rfl) (by simp) ?_
  intro e
  have I := Inv.start hB
  refine WP.seq ?_
  refine WP.region ?_
  refine Ops.go (O.box (v := .agg #[_, _]) I rfl rfl ?_)
  intro b3 w I
  refine Ops.y (v := .bool _) (Y.assign rfl) ?_
  refine Ops.nil ?_
  by_cases hpr : checkProg p ≠ 0
  · refine WP.seq ?_
    refine WP.region ?_
    refine Ops.y (v := .agg #[_, _]) (Y.loadv ty_25 rfl (I.rdbox 0 rfl 0 2) rfl rfl) ?_
    refine Ops.go (O.call I Try.call13 (Model_ok _ I.base_ok p hp hnm) rfl ?_)
    rintro v18 h1 w I le1 hv
    rcases hv with ⟨_, rfl⟩ | ⟨h, _⟩
    rotate_left
    exact absurd h hpr
    refine Ops.y (v := .tuple #[_, _]) (Y.move rfl) ?_
    refine Ops.y (v := .slice _ _ _) (Y.extract rfl rfl) ?_
    refine Ops.y (v := .int .i64 _) (Y.extract rfl rfl) ?_
    refine Ops.y (v := .slice _ _ _) (Y.assign rfl) ?_
    refine Ops.y (v := .int .i64 _) (Y.assign rfl) ?_
    refine Ops.nil ?_
    have hp := hp.le le1
    refine WP.seq ?_
    refine WP.region ?_
    refine Ops.y (v := .agg #[_, _]) (Y.loadv ty_25 rfl (I.rdbox 0 rfl 0 2) rfl rfl) ?_
    refine Ops.go (O.call I Try.call16 (Rounds_ok _ I.base_ok p hp hnm) rfl ?_)
    rintro v23 h2 w I le2 hv
    rcases hv with ⟨_, rfl⟩ | ⟨h, _⟩
    rotate_left
    exact absurd h hpr
    refine Ops.y (v := .tuple #[_, _]) (Y.move rfl) ?_
    refine Ops.y (v := .slice _ _ _) (Y.extract rfl rfl) ?_
    refine Ops.y (v := .int .i64 _) (Y.extract rfl rfl) ?_
    refine Ops.y (v := .slice _ _ _) (Y.assign rfl) ?_
    refine Ops.y (v := .int .i64 _) (Y.assign rfl) ?_
    refine Ops.nil ?_
    refine WP.seq ?_
    refine WP.seq ?_
    refine WP.region ?_
    refine Ops.y (v := .int .i64 _) (Y.move rfl) ?_
    refine Ops.y (v := .bool true) (Y.dec_t (Y.nei rfl rfl) (hpr)) ?_
    refine Ops.y (v := .bool _) (Y.move rfl) ?_
    refine Ops.gf rfl ?_
    refine Ops.gf rfl ?_
    refine Ops.y (v := .bool _) (Y.pick_t rfl rfl) ?_
    refine Ops.y (v := .bool _) (Y.move rfl) ?_
    refine Ops.gf rfl ?_
    refine Ops.gf rfl ?_
    refine Ops.gf rfl ?_
    refine Ops.gf rfl ?_
    refine Ops.y (v := .bool _) (Y.pick_t rfl rfl) ?_
    refine Ops.nil ?_
    refine WP.cond_t rfl ?_
    refine WP.seq ?_
    refine WP.region ?_
    refine Ops.go (O.callv I Try.call17 (naiveBegun_ok _ I.base_ok) rfl ?_)
    intro w I
    refine Ops.y (v := .bool _) (Y.assign rfl) ?_
    refine Ops.nil ?_
    refine WP.ret ?_
    repeat (first | refine thenE_ret ?_ | refine blockE_ret ?_)
    exact retQ.mk (vs := [.bool _]) rfl ⟨rfl, trivial⟩ I.ext_of (rfl)
  have hpr := Decidable.not_not.1 hpr
  obtain ⟨n5, n8, _⟩ := checkProg_ok hpr
  refine WP.seq ?_
  refine WP.region ?_
  refine Ops.y (v := .agg #[_, _]) (Y.loadv ty_25 rfl (I.rdbox 0 rfl 0 2) rfl rfl) ?_
  refine Ops.go (O.call I Try.call13 (Model_ok _ I.base_ok p hp hnm) rfl ?_)
  rintro v18 h1 w I le1 hv
  rcases hv with ⟨h, _⟩ | ⟨_, s, rs, rfl, hs, hm⟩
  exact absurd hpr h
  refine Ops.y (v := .tuple #[_, _]) (Y.move rfl) ?_
  refine Ops.y (v := .slice _ _ _) (Y.extract rfl rfl) ?_
  refine Ops.y (v := .int .i64 _) (Y.extract rfl rfl) ?_
  refine Ops.y (v := .slice _ _ _) (Y.assign rfl) ?_
  refine Ops.y (v := .int .i64 _) (Y.assign rfl) ?_
  refine Ops.nil ?_
  have hp := hp.le le1
  refine WP.seq ?_
  refine WP.region ?_
  refine Ops.y (v := .agg #[_, _]) (Y.loadv ty_25 rfl (I.rdbox 0 rfl 0 2) rfl rfl) ?_
  refine Ops.go (O.call I Try.call16 (Rounds_ok _ I.base_ok p hp hnm) rfl ?_)
  rintro v23 h2 w I le2 hv
  rcases hv with ⟨h, _⟩ | ⟨_, r, f0, rfl, hr, hm0⟩
  exact absurd hpr h
  refine Ops.y (v := .tuple #[_, _]) (Y.move rfl) ?_
  refine Ops.y (v := .slice _ _ _) (Y.extract rfl rfl) ?_
  refine Ops.y (v := .int .i64 _) (Y.extract rfl rfl) ?_
  refine Ops.y (v := .slice _ _ _) (Y.assign rfl) ?_
  refine Ops.y (v := .int .i64 _) (Y.assign rfl) ?_
  refine Ops.nil ?_
  have hp := hp.le le2
  have hs := hs.le le2
  by_cases h0 : (p.rules.xs.length : Int) = 0
  · refine WP.seq ?_
    refine WP.seq ?_
    refine WP.region ?_
    refine Ops.y (v := .int .i64 _) (Y.move rfl) ?_
    refine Ops.y (v := .bool false) (Y.dec_f (Y.nei rfl rfl) ((fun h => h rfl))) ?_
    refine Ops.y (v := .bool _) (Y.move rfl) ?_
    refine Ops.ygt rfl (v := .int .i64 _) (Y.move rfl) ?_
    refine Ops.ygt rfl (v := .bool false) (Y.dec_f (Y.nei rfl rfl) ((fun h => h rfl))) ?_
    refine Ops.y (v := .bool _) (Y.pick_f rfl rfl) ?_
    refine Ops.y (v := .bool _) (Y.move rfl) ?_
    refine Ops.ygt rfl (v := .pointer (some ⟨_, _, none⟩)) (Y.fa fa_25_1 rfl) ?_
    refine Ops.ygt rfl (v := .slice _ _ _) (Y.loadv ty_23 rfl (I.rdbox 0 rfl 1 1) rfl rfl) ?_
    refine Ops.ygt rfl (v := .int .i64 _) (Y.lens Try.underlying23 rfl) ?_
    refine Ops.ygt rfl (v := .bool true) (Y.dec_t (Y.eqi rfl rfl) (h0)) ?_
    refine Ops.y (v := .bool _) (Y.pick_f rfl rfl) ?_
    refine Ops.nil ?_
    refine WP.cond_t rfl ?_
    refine WP.seq ?_
    refine WP.region ?_
    refine Ops.go (O.callv I Try.call17 (naiveBegun_ok _ I.base_ok) rfl ?_)
    intro w I
    refine Ops.y (v := .bool _) (Y.assign rfl) ?_
    refine Ops.nil ?_
    refine WP.ret ?_
    repeat (first | refine thenE_ret ?_ | refine blockE_ret ?_)
    exact retQ.mk (vs := [.bool _]) rfl ⟨rfl, trivial⟩ I.ext_of (rfl)
  refine WP.seq ?_
  refine WP.seq ?_
  refine WP.region ?_
  refine Ops.y (v := .int .i64 _) (Y.move rfl) ?_
  refine Ops.y (v := .bool false) (Y.dec_f (Y.nei rfl rfl) ((fun h => h rfl))) ?_
  refine Ops.y (v := .bool _) (Y.move rfl) ?_
  refine Ops.ygt rfl (v := .int .i64 _) (Y.move rfl) ?_
  refine Ops.ygt rfl (v := .bool false) (Y.dec_f (Y.nei rfl rfl) ((fun h => h rfl))) ?_
  refine Ops.y (v := .bool _) (Y.pick_f rfl rfl) ?_
  refine Ops.y (v := .bool _) (Y.move rfl) ?_
  refine Ops.ygt rfl (v := .pointer (some ⟨_, _, none⟩)) (Y.fa fa_25_1 rfl) ?_
  refine Ops.ygt rfl (v := .slice _ _ _) (Y.loadv ty_23 rfl (I.rdbox 0 rfl 1 1) rfl rfl) ?_
  refine Ops.ygt rfl (v := .int .i64 _) (Y.lens Try.underlying23 rfl) ?_
  refine Ops.ygt rfl (v := .bool false) (Y.dec_f (Y.eqi rfl rfl) (h0)) ?_
  refine Ops.y (v := .bool _) (Y.pick_f rfl rfl) ?_
  refine Ops.nil ?_
  refine WP.cond_f rfl ?_
  have hn0 : (0 : Int) < p.rules.xs.length := by omega
  obtain ⟨a0, a1⟩ := chooseI_in (c := i) hn0
  obtain ⟨d0, d1⟩ := chooseI_in (c := j) hn0
  obtain ⟨a, hA⟩ : ∃ a : Nat, chooseI i p.rules.xs.length = a := ⟨_, (Int.toNat_of_nonneg a0).symm⟩
  obtain ⟨b, hBb⟩ : ∃ b : Nat, chooseI j p.rules.xs.length = b := ⟨_, (Int.toNat_of_nonneg d0).symm⟩
  have ha : a < p.rules.xs.length := by omega
  have hb : b < p.rules.xs.length := by omega
  have Ea := hp.rules.is.at ha
  have Eb := hp.rules.is.at hb
  refine WP.skip ?_
  refine WP.seq ?_
  refine WP.regionF mixed I 12 (by kernel_rfl) ?_
  refine OpsF.y_ (v := .int .i64 _) (fun _ => runs_none _) (fun _ w us hl I => Y.move rfl) ?_
  refine OpsF.y_ (v := .pointer (some ⟨_, _, none⟩)) (fun _ => runs_none _) (fun _ w us hl I => Y.fa fa_25_1 rfl) ?_
  refine OpsF.y_ (v := .slice _ _ _) (fun _ => runs_none _) (fun _ w us hl I => Y.loadv ty_23 rfl (I.rdbox 0 rfl 1 1) rfl rfl) ?_
  refine OpsF.y_ (v := .int .i64 _) (fun _ => runs_none _) (fun _ w us hl I => Y.lens Try.underlying23 rfl) ?_
  refine OpsF.c_ (fun _ => runs_none _) (fun _ w us hl I => O.callv I Try.call18 (hA ▸ choose_ok _ I.base_ok i p.rules.xs.length hi hn0) rfl (fun w' I' => ⟨rfl, I'⟩)) ?_
  refine OpsF.y_ (v := .int .i64 _) (fun _ => runs_none _) (fun _ w us hl I => Y.move rfl) ?_
  refine OpsF.y_ (v := .pointer (some ⟨_, _, none⟩)) (fun _ => runs_none _) (fun _ w us hl I => Y.fa fa_25_1 rfl) ?_
  refine OpsF.y_ (v := .slice _ _ _) (fun _ => runs_none _) (fun _ w us hl I => Y.loadv ty_23 rfl (I.rdbox 0 rfl 1 1) rfl rfl) ?_
  refine OpsF.y_ (v := .int .i64 _) (fun _ => runs_none _) (fun _ w us hl I => Y.lens Try.underlying23 rfl) ?_
  refine OpsF.c_ (fun _ => runs_none _) (fun _ w us hl I => O.callv I Try.call18 (hBb ▸ choose_ok _ I.base_ok j p.rules.xs.length hj hn0) rfl (fun w' I' => ⟨rfl, I'⟩)) ?_
  refine OpsF.y_ (v := .int .i64 _) (fun _ => runs_none _) (fun _ w us hl I => Y.assign rfl) ?_
  refine OpsF.y_ (v := .int .i64 _) (fun _ => runs_none _) (fun _ w us hl I => Y.assign rfl) ?_
  refine OpsF.nil ?_
  intro _ w hl I
  try unfold AllL
  refine Ops.nil ?_
  have gl := (le1.trans le2).trans hl
  have hp := hp.le hl
  have hs := hs.le hl
  have hr := hr.le hl
  have Ea := Ea.le hl
  have Eb := Eb.le hl
  rename_i h5
  refine WP.seq ?_
  refine WP.region ?_
  refine Ops.y (v := .agg #[_, _]) (Y.loadv ty_25 rfl (I.rdbox 0 rfl 0 2) rfl rfl) ?_
  refine Ops.go (O.alloc I Try.zeroValue25 rfl ?_)
  intro b13 w I
  refine Ops.go (O.store (v := .agg #[_, _]) I ty_25 0 rfl rfl rfl rfl rfl rfl (Nat.le_of_ble_eq_true rfl) rfl ?_)
  intro w I
  refine Ops.nil ?_
  refine WP.seq ?_
  refine WP.region ?_
  refine Ops.go (O.mkE (α := Rul) Rul.enc I Try.underlying23 Try.sizeOf49 ?_)
  intro s52 h52 w I le52 e52 c52 a52 o52
  refine Ops.y (v := .pointer (some ⟨_, _, none⟩)) (Y.fa fa_25_1 rfl) ?_
  refine Ops.y (v := .slice _ _ _) (Y.loadv ty_23 rfl (I.rdbox 1 rfl 1 1) rfl rfl) ?_
  refine Ops.go (O.appendE (α := Rul) I Try.underlying23 et_49 rul_len o52 le52 e52 c52 a52 (hp.rules.is.el.le le52) rfl rfl (by omega) (by omega) ?_)
  intro rr h7 w I le7 hrx o7 r0
  refine Ops.y (v := .pointer (some ⟨_, _, none⟩)) (Y.fa fa_25_1 rfl) ?_
  refine Ops.go (O.store (v := rr.val) I ty_23 0 rfl rfl rfl rfl rfl rfl (Nat.le_of_ble_eq_true rfl) rfl ?_)
  intro w I
  refine Ops.nil ?_
  have hrl : 0 < rr.xs.length := by rw [hrx]; omega
  obtain ⟨gg, hga⟩ : ∃ gg, rr.at_ = some ⟨gg, 0, none⟩ := by
    rcases o7 with e | ⟨gg, _, hga, _⟩
    · rw [e] at hrl; exact absurd hrl (by simp)
    · exact ⟨gg, hga⟩
  obtain ⟨ra, rc, rx⟩ := rr
  dsimp only at hga hrx hrl
  subst hga
  obtain ⟨h8, I, mono8, _⟩ := I.unsettle o7 gl
  have le8 : h5.le h8 := mono8 _ (le52.trans le7) (Heap.le.refl _)
  have hp := hp.le le8
  have hs := hs.le le8
  have hr := hr.le le8
  have Ea := Ea.le le8
  have Eb := Eb.le le8
  have hrn : rx.length = p.rules.xs.length := by rw [hrx]
  have I : Inv B h8 [ownSl 49 5 (.slice (some ⟨gg, 0, none⟩) rx.length rc) rx.length (rx.flatMap Rul.enc), box b13 [p.preds.val, .slice (some ⟨gg, 0, none⟩) rx.length rc] 25, box b3 p.enc 25] w := I
  refine WP.seq ?_
  refine WP.regionF mixed I 9 (by kernel_rfl) ?_
  refine OpsF.y_ (v := .pointer (some ⟨_, _, none⟩)) (fun _ => runs_none _) (fun _ w us hl I => Y.fa fa_25_1 rfl) ?_
  refine OpsF.y_ (v := .slice _ _ _) (fun _ => runs_none _) (fun _ w us hl I => Y.loadv ty_23 rfl (I.rdbox 1 rfl 1 1) rfl rfl) ?_
  refine OpsF.y_ (v := .int .i64 _) (fun _ => runs_none _) (fun _ w us hl I => Y.move rfl) ?_
  refine OpsF.y_ (v := .pointer (some ⟨_, _, none⟩)) (fun _ => runs_none _) (fun _ w us hl I => Y.fa fa_25_1 rfl) ?_
  refine OpsF.y_ (v := .slice _ _ _) (fun _ => runs_none _) (fun _ w us hl I => Y.loadv ty_23 rfl (I.rdbox 2 rfl 1 1) rfl rfl) ?_
  refine OpsF.y_ (v := .int .i64 _) (fun _ => runs_none _) (fun _ w us hl I => Y.move rfl) ?_
  refine OpsF.y_ (v := .pointer (some ⟨_, _, none⟩)) (fun _ => runs_none _) (fun _ w us hl I => Y.idxEl Eb Try.underlying23 Try.sizeOf49 rfl rfl (Int.natCast_nonneg _) rfl) ?_
  refine OpsF.y_ (v := .agg #[_, _, _, _, _]) (fun _ => runs_none _) (fun _ w us hl I => Y.loadv ty_49 rfl (I.rd ((Eb.rd.part 0 5).le hl)) rfl rfl) ?_
  refine OpsF.y_ (v := .pointer (some ⟨_, _, none⟩)) (fun _ => runs_none _) (fun _ w us hl I => Y.idx Try.underlying23 Try.sizeOf49 rfl rfl (by omega) (by omega)) ?_
  refine OpsF.nil ?_
  intro _ w hl I
  try unfold AllL
  refine Ops.go (O.storeE (vs := p.rules.xs[b].enc) I ty_49 et_49 0 rfl rfl rfl rfl rfl rfl (by rw [flat_len rul_len, rul_len]; omega) ?_)
  intro w I
  refine Ops.nil ?_
  have hl9 := hl
  have hp := hp.le hl9
  have hs := hs.le hl9
  have hr := hr.le hl9
  have Ea := Ea.le hl9
  rename_i h9 _ _
  obtain ⟨ys, hys⟩ : ∃ ys, rx.set a p.rules.xs[b] = ys := ⟨_, rfl⟩
  have hyn : ys.length = p.rules.xs.length := by rw [← hys, List.length_set]; exact hrn
  have I : Inv B h9 [ownSl 49 5 (.slice (some ⟨gg, 0, none⟩) rx.length rc) rx.length (ys.flatMap Rul.enc), box b13 [p.preds.val, .slice (some ⟨gg, 0, none⟩) rx.length rc] 25, box b3 p.enc 25] w := by
    rw [← hys, ← flat_overG rul_len _ _ _ (by omega)]
    have J := I
    simp only [Int.toNat_natCast, Nat.zero_add] at J
    exact J
  refine WP.seq ?_
  refine WP.regionF mixed I 9 (by kernel_rfl) ?_
  refine OpsF.y_ (v := .pointer (some ⟨_, _, none⟩)) (fun _ => runs_none _) (fun _ w us hl I => Y.fa fa_25_1 rfl) ?_
  refine OpsF.y_ (v := .slice _ _ _) (fun _ => runs_none _) (fun _ w us hl I => Y.loadv ty_23 rfl (I.rdbox 1 rfl 1 1) rfl rfl) ?_
  refine OpsF.y_ (v := .int .i64 _) (fun _ => runs_none _) (fun _ w us hl I => Y.move rfl) ?_
  refine OpsF.y_ (v := .pointer (some ⟨_, _, none⟩)) (fun _ => runs_none _) (fun _ w us hl I => Y.fa fa_25_1 rfl) ?_
  refine OpsF.y_ (v := .slice _ _ _) (fun _ => runs_none _) (fun _ w us hl I => Y.loadv ty_23 rfl (I.rdbox 2 rfl 1 1) rfl rfl) ?_
  refine OpsF.y_ (v := .int .i64 _) (fun _ => runs_none _) (fun _ w us hl I => Y.move rfl) ?_
  refine OpsF.y_ (v := .pointer (some ⟨_, _, none⟩)) (fun _ => runs_none _) (fun _ w us hl I => Y.idxEl Ea Try.underlying23 Try.sizeOf49 rfl rfl (Int.natCast_nonneg _) rfl) ?_
  refine OpsF.y_ (v := .agg #[_, _, _, _, _]) (fun _ => runs_none _) (fun _ w us hl I => Y.loadv ty_49 rfl (I.rd ((Ea.rd.part 0 5).le hl)) rfl rfl) ?_
  refine OpsF.y_ (v := .pointer (some ⟨_, _, none⟩)) (fun _ => runs_none _) (fun _ w us hl I => Y.idx Try.underlying23 Try.sizeOf49 rfl rfl (by omega) (by omega)) ?_
  refine OpsF.nil ?_
  intro _ w hl I
  try unfold AllL
  refine Ops.go (O.storeE (vs := p.rules.xs[a].enc) I ty_49 et_49 0 rfl rfl rfl rfl rfl rfl (by rw [flat_len rul_len, rul_len]; omega) ?_)
  intro w I
  refine Ops.nil ?_
  have hl10 := hl
  have hp := hp.le hl10
  have hs := hs.le hl10
  have hr := hr.le hl10
  have Ea := Ea.le hl10
  rename_i h10 _ _
  obtain ⟨zs, hzs⟩ : ∃ zs, ys.set b p.rules.xs[a] = zs := ⟨_, rfl⟩
  have hzn : zs.length = p.rules.xs.length := by rw [← hzs, List.length_set]; exact hyn
  have hmem : ∀ r, r ∈ p.rules.xs ↔ r ∈ zs := by rw [← hzs, ← hys, hrx]; exact swap_mem ha hb
  have I : Inv B h10 [ownSl 49 5 (.slice (some ⟨gg, 0, none⟩) rx.length rc) rx.length (zs.flatMap Rul.enc), box b13 [p.preds.val, .slice (some ⟨gg, 0, none⟩) rx.length rc] 25, box b3 p.enc 25] w := by
    rw [← hzs, ← flat_overG rul_len _ _ _ (by omega)]
    have J := I
    simp only [Int.toNat_natCast, Nat.zero_add] at J
    exact J
  refine WP.seq ?_
  refine WP.seq ?_
  refine WP.region ?_
  refine Ops.y (v := .pointer (some ⟨_, _, none⟩)) (Y.fa fa_25_1 rfl) ?_
  refine Ops.y (v := .slice _ _ _) (Y.loadv ty_23 rfl (I.rdbox 1 rfl 1 1) rfl rfl) ?_
  refine Ops.y (v := .int .i64 _) (Y.lens Try.underlying23 rfl) ?_
  refine Ops.y (v := .bool (decide _)) (Y.lti rfl rfl) ?_
  refine Ops.nil ?_
  refine WP.cond_dec rfl (fun hlt => ?_) (fun hlt => ?_)
  · refine WP.regionG mixed RAp.pre ⟨h10, none⟩ (J := JAp B [box b13 [p.preds.val, .slice (some ⟨gg, 0, none⟩) rx.length rc] 25, box b3 p.enc 25] 49 5 rx.length 1 (.slice (some ⟨gg, 0, none⟩) rx.length rc) (zs.flatMap Rul.enc) p.rules.xs[a].enc 8) ⟨rfl, I.drew⟩ 9 (by kernel_rfl) ?_
    refine OpsG.y_ (v := .pointer (some ⟨_, _, none⟩)) (fun _ => runsG_none _) RAp.pre (JAp.set (by decide)) (fun _ s w us hl hj => have I := hj.base; have hl := hl.h; Y.fa fa_25_1 rfl) ?_
    refine OpsG.y_ (v := .slice _ _ _) (fun _ => runsG_none _) RAp.pre (JAp.set (by decide)) (fun _ s w us hl hj => have I := hj.base; have hl := hl.h; Y.loadv ty_23 rfl (I.rdbox 0 rfl 1 1) rfl rfl) ?_
    refine OpsG.y_ (v := .pointer (some ⟨_, _, none⟩)) (fun _ => runsG_none _) RAp.pre (JAp.set (by decide)) (fun _ s w us hl hj => have I := hj.base; have hl := hl.h; Y.fa fa_25_1 rfl) ?_
    refine OpsG.y_ (v := .slice _ _ _) (fun _ => runsG_none _) RAp.pre (JAp.set (by decide)) (fun _ s w us hl hj => have I := hj.base; have hl := hl.h; Y.loadv ty_23 rfl (I.rdbox 1 rfl 1 1) rfl rfl) ?_
    refine OpsG.y_ (v := .int .i64 _) (fun _ => runsG_none _) RAp.pre (JAp.set (by decide)) (fun _ s w us hl hj => have I := hj.base; have hl := hl.h; Y.move rfl) ?_
    refine OpsG.y_ (v := .pointer (some ⟨_, _, none⟩)) (fun _ => runsG_none _) RAp.pre (JAp.set (by decide)) (fun _ s w us hl hj => have I := hj.base; have hl := hl.h; Y.idxEl Ea Try.underlying23 Try.sizeOf49 rfl rfl (Int.natCast_nonneg _) rfl) ?_
    refine OpsG.y_ (v := .agg #[_, _, _, _, _]) (fun _ => runsG_none _) RAp.pre (JAp.set (by decide)) (fun _ s w us hl hj => have I := hj.base; have hl := hl.h; Y.loadv ty_49 rfl (I.rd ((Ea.rd.part 0 5).le hl)) rfl rfl) ?_
    refine OpsG.x_ (Φ := KnA (LitW 49 p.rules.xs[a].enc 1)) (KnA.mono LitW.mono) (fun _ => runsG_none _) (fun D' z w hDk hl hj => AllG.all fun us => ?_) ?_
    · refine hj.know (by decide) fun N I => ?_
      exact O.mklit (cs := p.rules.xs[a].enc) I Try.underlying23 Try.sizeOf49 Try.zeroValue49 (by decide) (by decide) rfl rfl (fun v h w I le sl => ⟨h, le, I, sl⟩)
    refine OpsG.x_ (Φ := AtAp (rx.length + 1)) AtAp.mono (fun _ => runsG_none _) (fun D' z w hDk hl hj => ?_) ?_
    · intro u86 q86
      obtain ⟨bl, rfl, hbl⟩ := q86 rfl
      refine hj.app hDk fun I => ?_
      have kb : Known z.h bl p.rules.xs[a].enc := ⟨fun j v hv => by simp [Heap.cell, hbl, hv]⟩
      refine O.append I Try.underlying23 et_49 0 rfl rfl rfl (I.rd kb.rd) rfl rfl (by decide) (by omega) (by omega) ?_
      intro g c w I
      exact ⟨g, c, rfl, I⟩
    refine OpsG.nil ?_
    intro D z w hD hl hj u86 q86 u87 q87
    obtain ⟨g, c2, rfl, h7⟩ := q87 rfl
    have I := hj.inv
    rw [h7] at I
    refine Ops.y (v := .pointer (some ⟨_, _, none⟩)) (Y.fa fa_25_1 rfl) ?_
    refine Ops.go (O.store (v := .slice _ _ _) I ty_23 1 rfl rfl rfl rfl rfl rfl (Nat.le_of_ble_eq_true rfl) rfl ?_)
    intro w I
    refine Ops.nil ?_
    have hl11 := hl.h
    have e1 : rx.length + 1 = (zs ++ [p.rules.xs[a]]).length := by rw [List.length_append, List.length_singleton, hzn, hrn]
    have I : Inv B z.h [ownSl 49 5 (.slice (some ⟨g, 0, none⟩) (rx.length + 1) c2) (rx.length + 1) ((zs ++ [p.rules.xs[a]]).flatMap Rul.enc), box b13 [p.preds.val, .slice (some ⟨g, 0, none⟩) (rx.length + 1) c2] 25, box b3 p.enc 25] w := by rw [List.flatMap_append, List.flatMap_singleton]; exact I
    obtain ⟨h12, s2, le12, hv2, e2, in2, I⟩ := I.settleSl rul_len e1
    have I : Inv B h12 [box b13 [p.preds.val, s2.val] 25, box b3 p.enc 25] w := by rw [hv2]; exact I
    have hs := (hs.le hl11).le le12
    have hr := (hr.le hl11).le le12
    obtain ⟨qi, qc, qm⟩ := order_in ((hp.le hl11).le le12) in2 e2 (fun r => by rw [List.mem_append, hmem r, List.mem_singleton]; exact ⟨.inl, fun h => h.elim id fun h => h ▸ (hmem _).1 (List.getElem_mem ha)⟩) (by rw [← e1]; omega) hpr
    refine WP.seq ?_
    refine WP.region ?_
    refine Ops.y (v := .agg #[_, _]) (Y.loadv ty_25 rfl (I.rdbox 0 rfl 0 2) rfl rfl) ?_
    refine Ops.go (O.call I Try.call13 (Model_ok _ I.base_ok ⟨p.preds, s2⟩ qi hnm) rfl ?_)
    rintro v90 h13 w I le13 hv
    rcases hv with ⟨h, _⟩ | ⟨_, m, r1, rfl, hm2, mk⟩
    exact absurd qc h
    refine Ops.y (v := .tuple #[_, _]) (Y.move rfl) ?_
    refine Ops.y (v := .slice _ _ _) (Y.extract rfl rfl) ?_
    refine Ops.y (v := .int .i64 _) (Y.extract rfl rfl) ?_
    refine Ops.y (v := .slice _ _ _) (Y.assign rfl) ?_
    refine Ops.y (v := .int .i64 _) (Y.assign rfl) ?_
    refine Ops.nil ?_
    refine WP.seq ?_
    refine WP.region ?_
    refine Ops.y (v := .agg #[_, _]) (Y.loadv ty_25 rfl (I.rdbox 0 rfl 0 2) rfl rfl) ?_
    refine Ops.go (O.call I Try.call16 (Rounds_ok _ I.base_ok ⟨p.preds, s2⟩ (qi.le le13) hnm) rfl ?_)
    rintro v95 h14 w I le14 hv
    rcases hv with ⟨h, _⟩ | ⟨_, r2, f2, rfl, hr2, mk2⟩
    exact absurd qc h
    refine Ops.y (v := .tuple #[_, _]) (Y.move rfl) ?_
    refine Ops.y (v := .slice _ _ _) (Y.extract rfl rfl) ?_
    refine Ops.y (v := .int .i64 _) (Y.extract rfl rfl) ?_
    refine Ops.y (v := .slice _ _ _) (Y.assign rfl) ?_
    refine Ops.y (v := .int .i64 _) (Y.assign rfl) ?_
    refine Ops.nil ?_
    refine WP.seq ?_
    refine WP.region ?_
    refine Ops.go (O.callv I Try.call17 (naiveBegun_ok _ I.base_ok) rfl ?_)
    intro w I
    refine Ops.y (v := .bool _) (Y.move rfl) ?_
    refine Ops.ygt rfl (v := .int .i64 _) (Y.move rfl) ?_
    refine Ops.ygt rfl (v := .bool true) (Y.dec_t (Y.eqi rfl rfl) (rfl)) ?_
    refine Ops.y (v := .bool _) (Y.pick_t rfl rfl) ?_
    refine Ops.y (v := .bool _) (Y.move rfl) ?_
    refine Ops.ygt rfl (v := .int .i64 _) (Y.move rfl) ?_
    refine Ops.ygt rfl (v := .bool true) (Y.dec_t (Y.eqi rfl rfl) (rfl)) ?_
    refine Ops.y (v := .bool _) (Y.pick_t rfl rfl) ?_
    refine Ops.y (v := .bool _) (Y.move rfl) ?_
    refine Ops.ygt rfl (v := .slice _ _ _) (Y.move rfl) ?_
    refine Ops.ygt rfl (v := .slice _ _ _) (Y.move rfl) ?_
    refine Ops.gt rfl (O.callv I Try.call15 (SameFacts_at _ I.base_ok s m ((hs.le le13).le le14) (hm2.le le14) (mod_rules (a := p) (b := ⟨p.preds, s2⟩) rfl qm hpr qc hm mk).1) rfl ?_)
    intro w I
    refine Ops.y (v := .bool _) (Y.pick_t rfl rfl) ?_
    refine Ops.y (v := .bool _) (Y.move rfl) ?_
    refine Ops.ygt rfl (v := .slice _ _ _) (Y.move rfl) ?_
    refine Ops.ygt rfl (v := .slice _ _ _) (Y.move rfl) ?_
    refine Ops.gt rfl (O.callv I Try.call19 (SameInts_at _ I.base_ok r r2 ((hr.le le13).le le14) hr2 (mod_rules (a := p) (b := ⟨p.preds, s2⟩) rfl qm hpr qc hm0 mk2).2) rfl ?_)
    intro w I
    refine Ops.y (v := .bool _) (Y.pick_t rfl rfl) ?_
    refine Ops.y (v := .bool _) (Y.assign rfl) ?_
    refine Ops.nil ?_
    refine WP.ret ?_
    repeat (first | refine thenE_ret ?_ | refine blockE_ret ?_)
    exact retQ.mk (vs := [.bool _]) rfl ⟨rfl, trivial⟩ I.ext_of (rfl)
  · obtain ⟨h12, s2, le12, hv2, e2, in2, I⟩ := I.settleSl rul_len (hrn.trans hzn.symm)
    have I : Inv B h12 [box b13 [p.preds.val, s2.val] 25, box b3 p.enc 25] w := by rw [hv2]; exact I
    have hs := hs.le le12
    have hr := hr.le le12
    obtain ⟨qi, qc, qm⟩ := order_in (hp.le le12) in2 e2 hmem (by omega) hpr
    refine WP.skip ?_
    refine WP.seq ?_
    refine WP.region ?_
    refine Ops.y (v := .agg #[_, _]) (Y.loadv ty_25 rfl (I.rdbox 0 rfl 0 2) rfl rfl) ?_
    refine Ops.go (O.call I Try.call13 (Model_ok _ I.base_ok ⟨p.preds, s2⟩ qi hnm) rfl ?_)
    rintro v90 h13 w I le13 hv
    rcases hv with ⟨h, _⟩ | ⟨_, m, r1, rfl, hm2, mk⟩
    exact absurd qc h
    refine Ops.y (v := .tuple #[_, _]) (Y.move rfl) ?_
    refine Ops.y (v := .slice _ _ _) (Y.extract rfl rfl) ?_
    refine Ops.y (v := .int .i64 _) (Y.extract rfl rfl) ?_
    refine Ops.y (v := .slice _ _ _) (Y.assign rfl) ?_
    refine Ops.y (v := .int .i64 _) (Y.assign rfl) ?_
    refine Ops.nil ?_
    refine WP.seq ?_
    refine WP.region ?_
    refine Ops.y (v := .agg #[_, _]) (Y.loadv ty_25 rfl (I.rdbox 0 rfl 0 2) rfl rfl) ?_
    refine Ops.go (O.call I Try.call16 (Rounds_ok _ I.base_ok ⟨p.preds, s2⟩ (qi.le le13) hnm) rfl ?_)
    rintro v95 h14 w I le14 hv
    rcases hv with ⟨h, _⟩ | ⟨_, r2, f2, rfl, hr2, mk2⟩
    exact absurd qc h
    refine Ops.y (v := .tuple #[_, _]) (Y.move rfl) ?_
    refine Ops.y (v := .slice _ _ _) (Y.extract rfl rfl) ?_
    refine Ops.y (v := .int .i64 _) (Y.extract rfl rfl) ?_
    refine Ops.y (v := .slice _ _ _) (Y.assign rfl) ?_
    refine Ops.y (v := .int .i64 _) (Y.assign rfl) ?_
    refine Ops.nil ?_
    refine WP.seq ?_
    refine WP.region ?_
    refine Ops.go (O.callv I Try.call17 (naiveBegun_ok _ I.base_ok) rfl ?_)
    intro w I
    refine Ops.y (v := .bool _) (Y.move rfl) ?_
    refine Ops.ygt rfl (v := .int .i64 _) (Y.move rfl) ?_
    refine Ops.ygt rfl (v := .bool true) (Y.dec_t (Y.eqi rfl rfl) (rfl)) ?_
    refine Ops.y (v := .bool _) (Y.pick_t rfl rfl) ?_
    refine Ops.y (v := .bool _) (Y.move rfl) ?_
    refine Ops.ygt rfl (v := .int .i64 _) (Y.move rfl) ?_
    refine Ops.ygt rfl (v := .bool true) (Y.dec_t (Y.eqi rfl rfl) (rfl)) ?_
    refine Ops.y (v := .bool _) (Y.pick_t rfl rfl) ?_
    refine Ops.y (v := .bool _) (Y.move rfl) ?_
    refine Ops.ygt rfl (v := .slice _ _ _) (Y.move rfl) ?_
    refine Ops.ygt rfl (v := .slice _ _ _) (Y.move rfl) ?_
    refine Ops.gt rfl (O.callv I Try.call15 (SameFacts_at _ I.base_ok s m ((hs.le le13).le le14) (hm2.le le14) (mod_rules (a := p) (b := ⟨p.preds, s2⟩) rfl qm hpr qc hm mk).1) rfl ?_)
    intro w I
    refine Ops.y (v := .bool _) (Y.pick_t rfl rfl) ?_
    refine Ops.y (v := .bool _) (Y.move rfl) ?_
    refine Ops.ygt rfl (v := .slice _ _ _) (Y.move rfl) ?_
    refine Ops.ygt rfl (v := .slice _ _ _) (Y.move rfl) ?_
    refine Ops.gt rfl (O.callv I Try.call19 (SameInts_at _ I.base_ok r r2 ((hr.le le13).le le14) hr2 (mod_rules (a := p) (b := ⟨p.preds, s2⟩) rfl qm hpr qc hm0 mk2).2) rfl ?_)
    intro w I
    refine Ops.y (v := .bool _) (Y.pick_t rfl rfl) ?_
    refine Ops.y (v := .bool _) (Y.assign rfl) ?_
    refine Ops.nil ?_
    refine WP.ret ?_
    repeat (first | refine thenE_ret ?_ | refine blockE_ret ?_)
    exact retQ.mk (vs := [.bool _]) rfl ⟨rfl, trivial⟩ I.ext_of (rfl)
end Go.TF
end
