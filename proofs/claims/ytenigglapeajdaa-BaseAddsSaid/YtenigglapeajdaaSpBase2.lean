/- What holds of adding and being under: plain. -/
import Derived.Test.YtenigglapeajdaaSpBase
namespace Go.TF
open Go

theorem fine_v {l : List Prd} {x : Fct} (h : factFine l x = true) : VOk (predOf l x.pred).kind x.v := (fine_iff.1 h).2.2.2.2.2
theorem same_pred {l : List Prd} {x y : Fct} (hl : l.length ≤ 5) (hx : factFine l x = true) (hy : factFine l y = true) (h : placeF x = placeF y) : x.pred = y.pred := ((fine_pf hl hx).inj (fine_pf hl hy) h).1
theorem FOk.look {l : List Prd} {f : List Fct} (h : FOk l f) {x : Fct} (hx : factFine l x = true) {v : Int} (hv : lkF f (placeF x) = some v) : VOk (predOf l x.pred).kind v := by
  obtain ⟨y, hy, e, rfl⟩ := lkF_mem hv
  have := fine_v (h.fine y hy)
  rwa [same_pred h.len (h.fine y hy) hx e] at this
theorem newV_ok {k : Int} {o : Option Int} {x : Fct} (ho : ∀ v, o = some v → VOk k v) (hx : VOk k x.v) : VOk k (newV k o x) := by
  cases o with
  | none => exact hx
  | some v => exact joinV_ok (ho v rfl) hx
theorem newV_again {k : Int} {o : Option Int} {x : Fct} (ho : ∀ v, o = some v → VOk k v) (hx : VOk k x.v) : newV k (some (newV k o x)) x = newV k o x := by
  cases o with
  | none => exact joinV_idem hx
  | some v =>
    show joinV k (joinV k v x.v) x.v = joinV k v x.v
    rw [joinV_assoc (ho v rfl) hx hx, joinV_idem hx]
theorem newV_swap {k : Int} {o : Option Int} {x y : Fct} (ho : ∀ v, o = some v → VOk k v) (hx : VOk k x.v) (hy : VOk k y.v) : newV k (some (newV k o x)) y = newV k (some (newV k o y)) x := by
  cases o with
  | none => exact joinV_comm hx hy
  | some v =>
    show joinV k (joinV k v x.v) y.v = joinV k (joinV k v y.v) x.v
    rw [joinV_assoc (ho v rfl) hx hy, joinV_comm hx hy, ← joinV_assoc (ho v rfl) hy hx]
section
variable {l : List Prd} {f g : List Fct} {x y : Fct}
abbrev addL (l : List Prd) (f : List Fct) (x : Fct) : List Fct := (addF (predOf l x.pred).kind f x).1
theorem lkF_addL (h : FOk l f) (p : Int) : lkF (addL l f x) p = if p = placeF x then some (newV (predOf l x.pred).kind (lkF f p) x) else lkF f p := lkF_addF h.srt p
theorem FOk.ext (hf : FOk l f) (hg : FOk l g) (h : ∀ p, lkF f p = lkF g p) : f = g := lkF_ext hf.pf hg.pf hf.srt hg.srt h
theorem add_again (hf : FOk l f) (hx : factFine l x = true) : addF (predOf l x.pred).kind (addL l f x) x = (addL l f x, false) := by
  have hc : (addF (predOf l x.pred).kind (addL l f x) x).2 = false := by
    rw [addF_chg (addF_srt hf.srt)]
    simp only [decide_eq_false_iff_not, Decidable.not_not]
    rw [lkF_addF hf.srt, if_pos rfl, newV_again (fun v hv => hf.look hx hv) (fine_v hx)]
  exact Prod.ext (addF_same hc) hc
theorem under_iff' : underF l f g = true ↔ ∀ x ∈ f, ∃ v, lkF g (placeF x) = some v ∧ LeV (predOf l x.pred).kind x.v v := underF_iff
theorem under_add (hf : FOk l f) (hx : factFine l x = true) : underF l f (addL l f x) = true := by
  refine underF_iff.2 fun z hz => ?_
  rw [lkF_addL hf]
  have hzf := hf.fine z hz
  split
  · rename_i e
    rw [lkF_of_mem hf.srt hz]
    refine ⟨_, rfl, ?_⟩
    have := same_pred hf.len hzf hx e
    rw [this]
    have hv := fine_v hzf
    rw [this] at hv
    exact leV_up hv (fine_v hx)
  · exact ⟨z.v, lkF_of_mem hf.srt hz, joinV_idem (fine_v hzf)⟩
theorem under_one (hf : FOk l f) (hx : factFine l x = true) : underF l [x] (addL l f x) = true := by
  refine underF_iff.2 fun z hz => ?_
  obtain rfl : z = x := by simpa using hz
  rw [lkF_addL hf, if_pos rfl]
  refine ⟨_, rfl, ?_⟩
  have hv := fine_v hx
  cases h : lkF f (placeF z) with
  | none => exact joinV_idem hv
  | some v =>
    have := hf.look hx h
    show joinV _ z.v (joinV _ v z.v) = joinV _ v z.v
    rw [joinV_comm this hv]
    exact leV_up hv this
theorem fok_one (hl : l.length ≤ 5) (hp : ∀ p ∈ l, predFine p = true) (hx : factFine l x = true) : FOk l [x] := ⟨hl, hp, fun z hz => by rw [List.mem_singleton.1 hz]; exact hx, List.pairwise_singleton _ _⟩
theorem add_swap (hf : FOk l f) (hx : factFine l x = true) (hy : factFine l y = true) : addL l (addL l f x) y = addL l (addL l f y) x := by
  have h1 := addF_fok hf hx
  have h2 := addF_fok hf hy
  refine (addF_fok h1 hy).ext (addF_fok h2 hx) fun p => ?_
  rw [lkF_addL h1, lkF_addL h2, lkF_addL hf, lkF_addL hf]
  by_cases ex : p = placeF x
  · by_cases ey : p = placeF y
    · simp only [if_pos ex, if_pos ey]
      have e : y.pred = x.pred := same_pred hf.len hy hx (by omega)
      rw [e]
      have hv := fine_v hy
      rw [e] at hv
      rw [newV_swap (fun v hv => hf.look hx (by rw [← ex]; exact hv)) (fine_v hx) hv]
    · simp only [if_pos ex, if_neg ey]
  · by_cases ey : p = placeF y
    · simp only [if_neg ex, if_pos ey]
    · simp only [if_neg ex, if_neg ey]
theorem add_chg (hf : FOk l f) : (addF (predOf l x.pred).kind f x).2 = decide (addL l f x ≠ f) := by
  cases h : (addF (predOf l x.pred).kind f x).2
  · rw [show addL l f x = f from addF_same h]; simp
  · symm; rw [decide_eq_true_eq]; intro e
    rw [addF_chg hf.srt, decide_eq_true_eq] at h
    have := lkF_addL (x := x) hf (placeF x)
    rw [if_pos rfl, e] at this
    exact h this
theorem under_refl (hf : FOk l f) : underF l f f = true := underF_iff.2 fun z hz => ⟨z.v, lkF_of_mem hf.srt hz, joinV_idem (fine_v (hf.fine z hz))⟩
theorem under_trans {k : List Fct} (hf : FOk l f) (hg : FOk l g) (hk : FOk l k) (h1 : underF l f g = true) (h2 : underF l g k = true) : underF l f k = true := underF_iff.2 fun z hz => by
  have hzf := hf.fine z hz
  obtain ⟨v, hv, l1⟩ := underF_iff.1 h1 z hz
  obtain ⟨z', hz', e, rfl⟩ := lkF_mem hv
  obtain ⟨u, hu, l2⟩ := underF_iff.1 h2 z' hz'
  have ep := same_pred hf.len (hg.fine z' hz') hzf e
  rw [e] at hu
  rw [ep] at l2
  have hv' := fine_v (hg.fine z' hz')
  rw [ep] at hv'
  exact ⟨u, hu, leV_trans (fine_v hzf) hv' (hk.look hzf hu) l1 l2⟩
theorem under_anti (hf : FOk l f) (hg : FOk l g) (h1 : underF l f g = true) (h2 : underF l g f = true) : f = g := by
  have key : ∀ {f g : List Fct}, FOk l f → FOk l g → underF l f g = true → underF l g f = true → ∀ p v, lkF f p = some v → lkF g p = some v := fun {f g} hf hg h1 h2 p v hv => by
    obtain ⟨z, hz, rfl, rfl⟩ := lkF_mem hv
    obtain ⟨u, hu, l1⟩ := underF_iff.1 h1 z hz
    obtain ⟨z', hz', e, rfl⟩ := lkF_mem hu
    obtain ⟨t, ht, l2⟩ := underF_iff.1 h2 z' hz'
    rw [e, hv] at ht
    cases ht
    have ep := same_pred hf.len (hg.fine z' hz') (hf.fine z hz) e
    rw [ep] at l2
    have hv' := fine_v (hg.fine z' hz')
    rw [ep] at hv'
    rw [hu, leV_antisymm (fine_v (hf.fine z hz)) hv' l1 l2]
  refine hf.ext hg fun p => ?_
  cases h : lkF f p with
  | some v => exact (key hf hg h1 h2 p v h).symm
  | none =>
    cases h' : lkF g p with
    | none => rfl
    | some v => rw [key hg hf h2 h1 p v h'] at h; cases h
theorem under_both (hf : FOk l f) (hg : FOk l g) : (underF l f g && underF l g f) = decide (f = g) := by
  by_cases e : f = g
  · subst e; rw [under_refl hf]; simp
  · rw [decide_eq_false e]
    cases h1 : underF l f g
    · rfl
    · cases h2 : underF l g f
      · rfl
      · exact absurd (under_anti hf hg h1 h2) e
end
end Go.TF
