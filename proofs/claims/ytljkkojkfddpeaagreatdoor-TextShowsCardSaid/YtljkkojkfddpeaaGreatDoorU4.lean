/- Texts Base26 SpTxt2 SpTxt3 Str1 Base21 Base27 SlFuncs Txp1 Prog1 Prog2. -/
import Derived.Test.YtljkkojkfddpeaaGreatDoorU2
import Derived.Test.YtljkkojkfddpeaaGreatDoorU3
import Derived.Lib.LaidTab
import Derived.WideLaws
import Derived.Laws.Runes
section
/- Calls that may panic: one operation, a region in the order of the text, a region that draws its order; a function's contract. -/
namespace Go.TF
open Go Go.RowKit

abbrev PX := List PanicEntry → World → Prop
/-- One operation: what it yields, or the panic that leaves it. -/
def Op1P (P : Program) (X : PX) (o : Oper) (e : Env) (w : World) (K : Value → World → Prop) : Prop :=
  match (execOp (ev e) o).run P w with
  | .ok (.value v) w' => K v w'
  | .ok .skip w' => K undef w'
  | .ok (.enter f args) w' => Calls P f args w' fun
      | .returned v, w'' => K v w''
      | .panicked ch, w'' => X ch w''
      | _, _ => False
  | .halt (.panic v) w' => X [{ v := v, recovered := false }] w'
  | _ => False
theorem wp_of_Op1P {P : Program} {X : PX} {o : Oper} {a : Act} {w : World} {next : Act → World → Prop} {Q : Exit → Act → World → Prop}
    (hX : ∀ ch w', X ch w' → Q (.panic ch) a w') (h : Op1P P X o (env a) w fun v w' => next (a.put o.dst v) w') : o.wp P a w next Q := by
  unfold Op1P at h
  unfold Oper.wp
  rw [eval_env]
  generalize (execOp (ev (env a)) o).run P w = r at *
  cases r with
  | ok n w' =>
    cases n <;> simp only at h <;> first | exact h.elim | exact h | skip
    exact Calls.mono h fun e w'' he => by cases e <;> first | exact he | exact hX _ _ he | exact he.elim
  | halt x w' => cases x <;> simp only at h <;> first | exact h.elim | exact hX _ _ h
theorem Op1P.mono {P : Program} {X : PX} {o : Oper} {e : Env} {w : World} {K K' : Value → World → Prop} (h : Op1P P X o e w K) (hk : ∀ v w', K v w' → K' v w') : Op1P P X o e w K' := by
  unfold Op1P at *
  generalize (execOp (ev e) o).run P w = r at *
  cases r with
  | ok n w' =>
    cases n <;> simp only at h ⊢ <;> first | exact h.elim | exact hk _ _ h | skip
    exact Calls.mono h fun e w'' he => by cases e <;> first | exact hk _ _ he | exact he | exact he.elim
  | halt x w' => cases x <;> first | exact h.elim | exact h
theorem Op1P.of {P : Program} {X : PX} {o : Oper} {e : Env} {w : World} {K : Value → World → Prop} (h : Op1 P o e w K) : Op1P P X o e w K := by
  unfold Op1 at h
  unfold Op1P
  generalize (execOp (ev e) o).run P w = r at *
  cases r with
  | ok n w' =>
    cases n <;> simp only at h ⊢ <;> first | exact h.elim | exact h | skip
    exact Calls.mono h fun e w'' he => by cases e <;> first | exact he | exact he.elim
  | halt x w' => exact h.elim
def OpsP (P : Program) (X : PX) (full : Array Oper) : List Oper → Env → World → (Env → World → Prop) → Prop
  | [], e, w, K => K e w
  | o :: rest, e, w, K => if runs full e o then Op1P P X o e w (fun v w' => OpsP P X full rest (updo e o.dst v) w' K) else OpsP P X full rest (updo e o.dst undef) w K
theorem OpsP.sound {P : Program} {X : PX} {full : Array Oper} {Q : Exit → Act → World → Prop} {N : Nat} {D : List Deferred} (hX : ∀ a ch w', a.tmps.size = N → a.defers = D → X ch w' → Q (.panic ch) a w') : ∀ (l : List Oper) (a : Act) (w : World) (K : Env → World → Prop),
    dstsOk N l = true → a.tmps.size = N → a.defers = D → (∀ a' w', a'.tmps.size = N → a'.defers = D → K (env a') w' → Q .normal a' w') → OpsP P X full l (env a) w K → wpList P full Q l a w
  | [], a, w, K, _, hs, hd, hK, h => by simp only [OpsP] at h; exact hK _ _ hs hd h
  | o :: rest, a, w, K, hds, hs, hd, hK, h => by
    simp only [dstsOk, List.all_cons, Bool.and_eq_true] at hds
    have hput : ∀ v, env (a.put o.dst v) = updo (env a) o.dst v := fun v => env_puto a o.dst v (by rw [hs]; exact hds.1)
    simp only [wpList, wanted_env]
    simp only [OpsP] at h
    split
    · rename_i hr
      rw [if_pos hr] at h
      refine .inl (wp_of_Op1P (fun ch w' => hX a ch w' hs hd) (h.mono fun v w' hh => ?_))
      rw [← hput] at hh
      exact OpsP.sound hX rest _ _ K hds.2 (by rw [size_put, hs]) (by rw [defers_put, hd]) hK hh
    · rename_i hr
      rw [if_neg hr] at h
      rw [← hput] at h
      exact OpsP.sound hX rest _ _ K hds.2 (by rw [size_put, hs]) (by rw [defers_put, hd]) hK h
theorem WP.regionP {P : Program} {N : Nat} {D : List Deferred} {e : Env} {w : World} {Q : Exit → Env → World → Prop} {id : Nat} {ops : Array Oper} (X : PX) (hX : ∀ e ch w', X ch w' → Q (.panic ch) e w') (h : OpsP P X ops ops.toList e w (fun e' w' => Q .normal e' w')) : WP P N D (.region id ops false) e w Q := by
  intro hs a h1 h2 h3
  subst h3
  exact wp_region_list (OpsP.sound (fun a ch w' g1 g2 g3 => ⟨g1, g2, hX _ _ _ g3⟩) _ a w _ hs h1 h2 (fun _ _ g1 g2 g3 => ⟨g1, g2, g3⟩) h)
section
variable {P : Program} {X : PX} {full : Array Oper} {rest : List Oper} {e : Env} {w : World} {K : Env → World → Prop}
theorem OpsP.nil (h : K e w) : OpsP P X full [] e w K := h
/-- An operation that may panic. -/
theorem OpsP.p {d : Option Nat} {op : Op} {t : TypeId} {pos : String} {af : Array Edge} (h : Op1P P X ⟨d, op, t, pos, af, none⟩ e w (fun v w' => OpsP P X full rest (updo e d v) w' K)) :
    OpsP P X full (⟨d, op, t, pos, af, none⟩ :: rest) e w K := by simpa [OpsP, runs] using h
theorem OpsP.go {d : Option Nat} {op : Op} {t : TypeId} {pos : String} {af : Array Edge} (h : Op1 P ⟨d, op, t, pos, af, none⟩ e w (fun v w' => OpsP P X full rest (updo e d v) w' K)) :
    OpsP P X full (⟨d, op, t, pos, af, none⟩ :: rest) e w K := OpsP.p (.of h)
theorem OpsP.y {d : Nat} {op : Op} {t : TypeId} {pos : String} {af : Array Edge} {v : Value} (hy : Y P ⟨some d, op, t, pos, af, none⟩ e w v) (h : OpsP P X full rest (upd e d v) w K) :
    OpsP P X full (⟨some d, op, t, pos, af, none⟩ :: rest) e w K := OpsP.go (by unfold Op1; rw [hy]; exact h)
theorem OpsP.gt {d : Option Nat} {op : Op} {t : TypeId} {pos : String} {af : Array Edge} {j : Nat} {b : Bool} (hg : yieldE full e j = some b) (h : Op1 P ⟨d, op, t, pos, af, some (j, b)⟩ e w (fun v w' => OpsP P X full rest (updo e d v) w' K)) :
    OpsP P X full (⟨d, op, t, pos, af, some (j, b)⟩ :: rest) e w K := by
  have h' := Op1P.of (X := X) h
  simpa [OpsP, runs, hg] using h'
theorem OpsP.ygt {d : Nat} {op : Op} {t : TypeId} {pos : String} {af : Array Edge} {v : Value} {j : Nat} {b : Bool} (hg : yieldE full e j = some b) (hy : Y P ⟨some d, op, t, pos, af, some (j, b)⟩ e w v) (h : OpsP P X full rest (upd e d v) w K) :
    OpsP P X full (⟨some d, op, t, pos, af, some (j, b)⟩ :: rest) e w K := OpsP.gt hg (by unfold Op1; rw [hy]; exact h)
theorem OpsP.gf {d : Option Nat} {op : Op} {t : TypeId} {pos : String} {af : Array Edge} {j : Nat} {b : Bool} (hg : (yieldE full e j == some b) = false) (h : OpsP P X full rest (updo e d undef) w K) :
    OpsP P X full (⟨d, op, t, pos, af, some (j, b)⟩ :: rest) e w K := by simpa [OpsP, runs, hg] using h
end
theorem Op1P_congr {P : Program} {X : PX} {ops : Array Oper} {o : Oper} {f g : Env} {w : World} {K : Value → World → Prop} (hs : ∀ cs b, o.op ≠ .select cs b) (h : ∀ d ∈ o.looksAt ops, f d = g d) (k : Op1P P X o f w K) : Op1P P X o g w K := by
  unfold Op1P at *
  rw [execOp_congr o hs (ρ' := ev f)]
  · exact k
  · intro x hx
    cases x with
    | tmp t => exact (h t (List.mem_append_left _ (List.mem_filterMap.2 ⟨.tmp t, by simpa using hx, rfl⟩))).symm
    | _ => rfl
section
variable {P : Program} {X : PX} {ops : Array Oper} {m : Nat}
theorem wpOp_ofP {Q : Exit → Act → World → Prop} {i : Nat} {o : Oper} {a : Act} {w : World} {K : Act → World → Prop} (hX : ∀ ch w', X ch w' → Q (.panic ch) a w') (hi : ops[i]? = some o)
    (h : if runs ops (env a) o then Op1P P X o (env a) w (fun v w' => K (a.put o.dst v) w') else K (a.put o.dst undef) w) : wpOp P ops Q i K a w := by
  unfold wpOp
  simp only [hi, wanted_env]
  split
  · rename_i hr; rw [if_pos hr] at h; exact .inl (wp_of_Op1P hX h)
  · rename_i hr; rw [if_neg hr] at h; exact h
theorem flow_tailP {Q : Exit → Act → World → Prop} {K : Env → World → Prop} {N : Nat} {D : List Deferred} (hX : ∀ a ch w', a.tmps.size = N → a.defers = D → X ch w' → Q (.panic ch) a w') (hF : Flow ops m) (hds : dstsOk N ops.toList = true) (hQ : ∀ a w, a.tmps.size = N → a.defers = D → K (env a) w → Q .normal a w) :
    ∀ (fuel k : Nat) (l : Array Bool) (a : Act) (w : World), m ≤ k → k ≤ ops.size → ops.size - k ≤ fuel → l.size = ops.size → (∀ j, l.getD j false = true ↔ j < k) → a.tmps.size = N → a.defers = D →
      OpsP P X ops (ops.toList.drop k) (env a) w K → wpAny P .any ops Q fuel l a w := by
  have done : ∀ (k : Nat) (l : Array Bool) (a : Act) (w : World), k ≤ ops.size → l.size = ops.size → (∀ j, l.getD j false = true ↔ j < k) → a.tmps.size = N → a.defers = D →
      OpsP P X ops (ops.toList.drop k) (env a) w K → Region.ready .any ops l = [] → Q .normal a w := fun k l a w hk hs hl hn hd h hr => by
    by_cases hlt : k < ops.size
    · have : k ∈ Region.ready .any ops l := by
        refine mem_ready.2 ⟨?_, ops[k], by simp [hlt], fun e he hb => (hl _).2 (hF.back k ops[k] (by simp [hlt]) e he hb)⟩
        rw [getD_tf (by omega)]
        cases hh : l.getD k false
        · rfl
        · exact absurd ((hl k).1 hh) (by omega)
      rw [hr] at this; cases this
    · rw [List.drop_eq_nil_of_le (by simp; omega)] at h
      exact hQ a w hn hd h
  intro fuel
  induction fuel with
  | zero =>
    intro k l a w hmk hk hf hs hl hn hd h
    have hr : Region.ready .any ops l = [] := by
      cases hr : Region.ready .any ops l with
      | nil => rfl
      | cons x xs =>
        have hx : x ∈ Region.ready .any ops l := by rw [hr]; exact List.mem_cons_self ..
        obtain ⟨h1, o, ho, _⟩ := mem_ready.1 hx
        have hlt : x < ops.size := (Array.getElem?_eq_some_iff.1 ho).1
        rw [getD_tf (by omega), (hl x).2 (by omega)] at h1
        cases h1
    exact ⟨hr, done k l a w hk hs hl hn hd h hr⟩
  | succ fuel ih =>
    intro k l a w hmk hk hf hs hl hn hd h
    refine ⟨done k l a w hk hs hl hn hd h, fun i hi => ?_⟩
    obtain ⟨h1, o, ho, h2⟩ := mem_ready.1 hi
    have hlt : i < ops.size := (Array.getElem?_eq_some_iff.1 ho).1
    have hge : k ≤ i := by
      rcases Nat.lt_or_ge i k with h' | h'
      · rw [getD_tf (by omega), (hl i).2 h'] at h1; cases h1
      · exact h'
    have hcl : Closed ops fun j => l.getD j false = true := fun j oj hoj hj e he hb => (hl _).2 (Nat.lt_trans (hF.back j oj hoj e he hb) ((hl j).1 hj))
    have hik : i = k := by
      rcases Nat.lt_or_ge k i with h' | h'
      · have := hF.tail _ hcl i o (by omega) ho h2 k h'
        exact absurd ((hl k).1 this) (by omega)
      · omega
    subst hik
    have hdrop : ops.toList.drop i = o :: ops.toList.drop (i + 1) := by
      have : ops.toList[i]'(by simpa using hlt) = o := by simpa [hlt] using ho
      rw [List.drop_eq_getElem_cons (by simpa using hlt), this]
    rw [hdrop] at h
    have hdo : o.dst.all (· < N) = true := (List.all_eq_true.1 hds) o (by have := Array.mem_of_getElem? ho; simpa using this)
    refine wpOp_ofP (fun ch w' => hX _ ch w' hn hd) ho ?_
    have step : ∀ v w', OpsP P X ops (ops.toList.drop (i + 1)) (updo (env a) o.dst v) w' K → wpAny P .any ops Q fuel (l.setIfInBounds i true) (a.put o.dst v) w' := fun v w' hh => by
      refine ih (i + 1) _ _ w' (by omega) (by omega) (by omega) (by simpa using hs) (fun j => ?_) (by rw [size_put, hn]) (by rw [defers_put, hd]) (by rw [env_puto a _ v (by rw [hn]; exact hdo)]; exact hh)
      rw [set_getD (by omega), hl]; omega
    simp only [OpsP] at h
    split at h
    · rename_i hr; rw [if_pos hr]; exact h.mono step
    · rename_i hr; rw [if_neg hr]; exact step _ _ h
end
section
variable {σ : Type}
def OblGP (P : Program) (X : PX) (full : Array Oper) (J : (Nat → Bool) → σ → World → Prop) (R : σ → σ → Prop) (h0 : σ) (k : Nat) (L : List (Nat × Sq σ)) (e : Env) (o : Oper) (Φ : Sq σ) : Prop :=
  ∀ D h1 w, D k = false → R h0 h1 → J D h1 w → AllG (lk full o) h1 L e fun e' => Op1P P X o e' w fun u w' => ∃ h2, R h1 h2 ∧ J (setD D k) h2 w' ∧ Φ u h2
def OpsGP (P : Program) (X : PX) (full : Array Oper) (J : (Nat → Bool) → σ → World → Prop) (R : σ → σ → Prop) (h0 : σ) : Nat → List (Nat × Sq σ) → List Oper → Env → (List (Nat × Sq σ) → Env → Prop) → Prop
  | _, L, [], e, K => K L e
  | k, L, o :: r, e, K =>
    ((∀ us, runs full (ovrG e L us) o = false) ∧ (∀ D s w, D k = false → J D s w → J (setD D k) s w) ∧ OpsGP P X full J R h0 (k + 1) L r (updo e o.dst undef) K) ∨
    ((∀ us, runs full (ovrG e L us) o = true) ∧
      ((∃ v, OblGP P X full J R h0 k L e o (fun u _ => u = v) ∧ OpsGP P X full J R h0 (k + 1) L r (updo e o.dst v) K) ∨
       (∃ d Φ, o.dst = some d ∧ MonoG R Φ ∧ OblGP P X full J R h0 k L e o Φ ∧ OpsGP P X full J R h0 (k + 1) ((d, Φ) :: L) r e K)))

section
variable (P : Program) (X : PX) (ops : Array Oper) (J : (Nat → Bool) → σ → World → Prop) (R : σ → σ → Prop) (h0 : σ) (e0 : Env)
def LSGP (Ss : List (Sq σ)) (i : Nat) : Prop := ∀ o Φ f D h1 w, ops[i]? = some o → Ss[i]? = some Φ → D i = false → R h0 h1 → J D h1 w → (∀ d ∈ o.looksAt ops, OkG ops e0 Ss i f h1 d) →
  (runs ops f o = true → Op1P P X o f w fun u w' => ∃ h2, R h1 h2 ∧ J (setD D i) h2 w' ∧ Φ u h2) ∧ (runs ops f o = false → Φ undef h1 ∧ J (setD D i) h1 w)
end
section
variable {P : Program} {X : PX} {ops : Array Oper} {J : (Nat → Bool) → σ → World → Prop} {R : σ → σ → Prop} {h0 : σ} {e0 : Env} {m : Nat}
theorem LSGP.snoc {Ss : List (Sq σ)} {Φ : Sq σ} {k : Nat} (hk : k < Ss.length) (h : LSGP P X ops J R h0 e0 Ss k) : LSGP P X ops J R h0 e0 (Ss ++ [Φ]) k := by
  intro o Ψ f D h1 w ho hp hD hl I hd
  rw [get_snoc hk] at hp
  exact h o Ψ f D h1 w ho hp hD hl I fun d hm => (OkG.snoc (by omega)).1 (hd d hm)
theorem OpsGP.sound (hF : Flow ops m) : ∀ (l : List Oper) (Ss : List (Sq σ)) (L : List (Nat × Sq σ)) (e : Env) (K : List (Nat × Sq σ) → Env → Prop), (∀ j, l[j]? = (ops.toList.take m)[Ss.length + j]?) → Ss.length + l.length = m →
    RelG ops e0 Ss L e → (∀ k, k < Ss.length → LSGP P X ops J R h0 e0 Ss k) → (∀ Φ ∈ Ss, MonoG R Φ) → OpsGP P X ops J R h0 Ss.length L l e K →
    ∃ Ss' L' e', Ss'.length = m ∧ RelG ops e0 Ss' L' e' ∧ (∀ k, k < m → LSGP P X ops J R h0 e0 Ss' k) ∧ (∀ Φ ∈ Ss', MonoG R Φ) ∧ K L' e'
  | [], Ss, L, e, K, _, hm, hr, hs, hmo, h => ⟨Ss, L, e, by simpa using hm, hr, by simpa [← hm] using hs, hmo, h⟩
  | o :: r, Ss, L, e, K, hl, hm, hr, hs, hmo, h => by
    simp only [List.length_cons] at hm
    have hi : ops[Ss.length]? = some o := by
      have := hl 0
      simp only [List.getElem?_cons_zero, Nat.add_zero, List.getElem?_take] at this
      rw [if_pos (by omega)] at this
      simpa using this.symm
    have hdst : dstO ops Ss.length = o.dst := by simp [dstO, hi]
    have hdist : ∀ k d, k < Ss.length → dstO ops k = some d → o.dst ≠ some d := fun k d hk hd hod => by
      cases hok : ops[k]? with
      | none => simp [dstO, hok] at hd
      | some ok =>
        simp [dstO, hok] at hd
        have := hF.dist k Ss.length ok o d (by omega) (by omega) hok hi hd hod
        omega
    have hagree : ∀ f h1, (∀ d ∈ o.looksAt ops, OkG ops e0 Ss Ss.length f h1 d) → ∀ d ∈ o.looksAt ops, ovrG e L f d = f d := fun f h1 hd d hdm => hr.eq f h1 d (hd d hdm)
    have hLd : ∀ f h1, (∀ d ∈ o.looksAt ops, OkG ops e0 Ss Ss.length f h1 d) → ∀ p ∈ L, lk ops o p.1 = true → p.2 (f p.1) h1 := fun f h1 hd p hp hk => by
      obtain ⟨k, k1, k2, k3⟩ := hr.sub p hp
      exact (hd p.1 (by simpa [lk] using hk)).1 k p.2 k1 k2 k3
    have next : ∀ Φ L1 e1, MonoG R Φ → LSGP P X ops J R h0 e0 (Ss ++ [Φ]) Ss.length → RelG ops e0 (Ss ++ [Φ]) L1 e1 → OpsGP P X ops J R h0 (Ss.length + 1) L1 r e1 K →
        ∃ Ss' L' e', Ss'.length = m ∧ RelG ops e0 Ss' L' e' ∧ (∀ k, k < m → LSGP P X ops J R h0 e0 Ss' k) ∧ (∀ Φ ∈ Ss', MonoG R Φ) ∧ K L' e' := fun Φ L1 e1 hΦ hls hrel hops => by
      refine OpsGP.sound hF r (Ss ++ [Φ]) L1 e1 K (fun j => ?_) (by simp; omega) hrel (fun k hk => ?_) (fun Ψ hΨ => ?_) (by rw [List.length_append]; exact hops)
      · have := hl (j + 1)
        simp only [List.getElem?_cons_succ] at this
        rw [this, List.length_append, List.length_cons, List.length_nil]; congr 1; omega
      · simp only [List.length_append, List.length_cons, List.length_nil] at hk
        by_cases hk' : k < Ss.length
        · exact (hs k hk').snoc hk'
        · have : k = Ss.length := by omega
          subst this; exact hls
      · rcases List.mem_append.1 hΨ with h1 | h1
        · exact hmo Ψ h1
        · simp at h1; subst h1; exact hΦ
    have relV : ∀ v (Φ : Sq σ), (∀ u h1, Φ u h1 → u = v) → RelG ops e0 (Ss ++ [Φ]) L (updo e o.dst v) := fun v Φ hΦ => by
      refine ⟨fun f h1 d hok => ?_, fun p hp => ?_⟩
      · cases hod : o.dst with
        | none =>
          refine hr.eq f h1 d ?_
          refine ⟨fun j Ψ hj a b => hok.1 j Ψ (by simp; omega) a (by rw [get_snoc hj]; exact b), fun hn => hok.2 fun j hj => ?_⟩
          simp only [List.length_append, List.length_cons, List.length_nil] at hj
          by_cases hj' : j < Ss.length
          · exact hn j hj'
          · have : j = Ss.length := by omega
            subst this; rw [hdst, hod]; exact fun hh => by cases hh
        | some t =>
          simp only [updo]
          by_cases hdt : d = t
          · subst hdt
            rw [ovrG_notin, upd_eq]
            · exact (hΦ _ h1 (hok.1 Ss.length Φ (by simp) (by rw [hdst, hod]) (by simp))).symm
            · intro p hp hpd
              obtain ⟨k, k1, k2, _⟩ := hr.sub p hp
              exact hdist k _ k1 k2 (by rw [hod, hpd])
          · rw [ovrG_upd_ne hdt]
            refine hr.eq f h1 d ⟨fun j Ψ hj a b => hok.1 j Ψ (by simp; omega) a (by rw [get_snoc hj]; exact b), fun hn => hok.2 fun j hj => ?_⟩
            simp only [List.length_append, List.length_cons, List.length_nil] at hj
            by_cases hj' : j < Ss.length
            · exact hn j hj'
            · have : j = Ss.length := by omega
              subst this; rw [hdst, hod]; exact fun hh => by cases hh; exact hdt rfl
      · obtain ⟨k, k1, k2, k3⟩ := hr.sub p hp
        exact ⟨k, by simp; omega, k2, by rw [get_snoc k1]; exact k3⟩
    have hsel := fun cs b => Region.noSelect_spec hF.sel Ss.length o cs b hi
    simp only [OpsGP] at h
    rcases h with ⟨hru, hJd, h⟩ | ⟨hru, ⟨v, hob, h⟩ | ⟨d, Φ, hod, hΦ, hob, h⟩⟩
    · refine next (fun u _ => u = undef) L _ (fun _ _ _ _ e => e) ?_ (relV undef _ fun _ _ e => e) h
      intro o' Φ' f D h1 w ho' hp' hD hl1 I hd
      rw [hi] at ho'; cases ho'
      simp at hp'; subst hp'
      have hd' := fun d hm => (OkG.snoc (Nat.le_refl _)).1 (hd d hm)
      refine ⟨fun hrt => ?_, fun _ => ⟨rfl, hJd D h1 w hD I⟩⟩
      rw [← runs_congr (hagree f h1 hd'), hru] at hrt
      cases hrt
    · refine next (fun u _ => u = v) L _ (fun _ _ _ _ e => e) ?_ (relV v _ fun _ _ e => e) h
      intro o' Φ' f D h1 w ho' hp' hD hl1 I hd
      rw [hi] at ho'; cases ho'
      simp at hp'; subst hp'
      have hd' := fun d hm => (OkG.snoc (Nat.le_refl _)).1 (hd d hm)
      refine ⟨fun _ => Op1P_congr hsel (hagree f h1 hd') ((hob D h1 w hD hl1 I).get f (hLd f h1 hd')), fun hrf => ?_⟩
      rw [← runs_congr (hagree f h1 hd'), hru] at hrf
      cases hrf
    · refine next Φ ((d, Φ) :: L) e hΦ ?_ ⟨fun f h1 i hok => ?_, fun p hp => ?_⟩ h
      · intro o' Φ' f D h1 w ho' hp' hD hl1 I hd
        rw [hi] at ho'; cases ho'
        simp at hp'; subst hp'
        have hd' := fun d hm => (OkG.snoc (Nat.le_refl _)).1 (hd d hm)
        refine ⟨fun _ => Op1P_congr hsel (hagree f h1 hd') ((hob D h1 w hD hl1 I).get f (hLd f h1 hd')), fun hrf => ?_⟩
        rw [← runs_congr (hagree f h1 hd'), hru] at hrf
        cases hrf
      · simp only [ovrG]
        by_cases hdt : i = d
        · subst hdt; rw [upd_eq]
        · rw [upd_ne _ _ hdt]
          refine hr.eq f h1 i ⟨fun j Ψ hj a b => hok.1 j Ψ (by simp; omega) a (by rw [get_snoc hj]; exact b), fun hn => hok.2 fun j hj => ?_⟩
          simp only [List.length_append, List.length_cons, List.length_nil] at hj
          by_cases hj' : j < Ss.length
          · exact hn j hj'
          · have : j = Ss.length := by omega
            subst this; rw [hdst, hod]; exact fun hh => by cases hh; exact hdt rfl
      · rcases List.mem_cons.1 hp with rfl | hp
        · exact ⟨Ss.length, by simp, by rw [hdst, hod], by simp⟩
        · obtain ⟨k, k1, k2, k3⟩ := hr.sub p hp
          exact ⟨k, by simp; omega, k2, by rw [get_snoc k1]; exact k3⟩

theorem flow_anyGP {Q : Exit → Act → World → Prop} {K : Env → World → Prop} {N : Nat} {D : List Deferred} {Ss : List (Sq σ)} (hX : ∀ a ch w', a.tmps.size = N → a.defers = D → X ch w' → Q (.panic ch) a w') (hF : Flow ops m) (hds : dstsOk N ops.toList = true) (hQ : ∀ a w, a.tmps.size = N → a.defers = D → K (env a) w → Q .normal a w)
    (hSs : Ss.length = m) (hls : ∀ k, k < m → LSGP P X ops J R h0 e0 Ss k) (hmo : ∀ Φ ∈ Ss, MonoG R Φ)
    (hR : Pre R) (hend : ∀ f D h1 w, (∀ j, j < m → D j = true) → R h0 h1 → J D h1 w → (∀ d, OkG ops e0 Ss m f h1 d) → OpsP P X ops (ops.toList.drop m) f w K) :
    ∀ (fuel : Nat) (l : Array Bool) (a : Act) (w : World), l.count false ≤ fuel → StG ops m J R h0 e0 Ss N D l a w → wpAny P .any ops Q fuel l a w := by
  have fin : ∀ (l : Array Bool) (a : Act) (w : World), StG ops m J R h0 e0 Ss N D l a w → (∀ j, j < m → l.getD j false = true) → OpsP P X ops (ops.toList.drop m) (env a) w K := fun l a w S hall => by
    obtain ⟨h, g1, g2, g3⟩ := S.st
    exact hend _ _ h w hall g1 g2 fun d => ⟨fun j Φ hj a b => (g3 d).1 j Φ hj (hall j hj) a b, fun hn => (g3 d).2 fun j hj _ => hn j hj⟩
  have nil : ∀ (l : Array Bool) (a : Act) (w : World), StG ops m J R h0 e0 Ss N D l a w → Region.ready .any ops l = [] → Q .normal a w := fun l a w S hr => by
    have least : ∀ n, ∀ j, j < n → j < ops.size → l.getD j false = true := by
      intro n
      induction n with
      | zero => intro j hj; omega
      | succ n ihn =>
        intro j hj hjs
        by_cases hjn : j < n
        · exact ihn j hjn hjs
        · have : j = n := by omega
          subst this
          cases hh : l.getD j false
          · exfalso
            have : j ∈ Region.ready .any ops l := mem_ready.2 ⟨by rw [getD_tf (by rw [S.size]; exact hjs)]; exact hh, ops[j], by simp [hjs], fun e he hb => by
              have := hF.back j ops[j] (by simp [hjs]) e he hb
              exact ihn e.on (by omega) (by omega)⟩
            rw [hr] at this; cases this
          · rfl
    have hms : m = ops.size := by
      rcases Nat.lt_or_ge m ops.size with h' | h'
      · exact absurd (least (m + 1) m (by omega) h') (S.tail m (Nat.le_refl m))
      · have := hF.le; omega
    have := fin l a w S fun j hj => least (j + 1) j (by omega) (by omega)
    rw [List.drop_eq_nil_of_le (by simp; omega)] at this
    exact hQ a w S.n S.d this
  intro fuel
  induction fuel with
  | zero =>
    intro l a w hc S
    have hr : Region.ready .any ops l = [] := by
      cases hr : Region.ready .any ops l with
      | nil => rfl
      | cons x xs =>
        have hx : x ∈ Region.ready .any ops l := by rw [hr]; exact List.mem_cons_self ..
        obtain ⟨h1, o, ho, _⟩ := mem_ready.1 hx
        have hlt : x < l.size := by rw [S.size]; exact (Array.getElem?_eq_some_iff.1 ho).1
        have := count_set hlt h1
        omega
    exact ⟨hr, nil l a w S hr⟩
  | succ fuel ih =>
    intro l a w hc S
    refine ⟨nil l a w S, fun i hi => ?_⟩
    obtain ⟨h1, o, ho, h2⟩ := mem_ready.1 hi
    have hlt : i < ops.size := (Array.getElem?_eq_some_iff.1 ho).1
    have hil : i < l.size := by rw [S.size]; exact hlt
    have hun : l.getD i false ≠ true := by rw [← getD_tf hil, h1]; exact fun h => by cases h
    have hdo : o.dst.all (· < N) = true := (List.all_eq_true.1 hds) o (by have := Array.mem_of_getElem? ho; simpa using this)
    have hcnt := count_set hil h1
    by_cases him : i < m
    · obtain ⟨Φ, hΦ⟩ : ∃ Φ, Ss[i]? = some Φ := ⟨Ss[i]'(by omega), by simp [hSs, him]⟩
      obtain ⟨h, g1, g2, g3⟩ := S.st
      have hDi : (fun j => l.getD j false) i = false := by simpa using hun
      have hset : (fun j => (l.setIfInBounds i true).getD j false) = setD (fun j => l.getD j false) i := by
        funext j
        rw [Bool.eq_iff_iff, set_getD hil]; simp [setD]
      have step : ∀ v w' hh, R h hh → J (setD (fun j => l.getD j false) i) hh w' → Φ v hh → wpAny P .any ops Q fuel (l.setIfInBounds i true) (a.put o.dst v) w' := fun v w' hh hle I hv => by
        refine ih _ _ w' (by omega) ⟨by simpa using S.size, fun j oj hoj hj e he hb => ?_, fun j hj hh' => ?_, by rw [size_put, S.n], by rw [defers_put, S.d], hh, hR.trans _ _ _ g1 hle, by rw [hset]; exact I, fun d => ?_⟩
        · simp only [set_getD hil] at hj ⊢
          rcases hj with rfl | hj
          · rw [ho] at hoj; cases hoj; exact .inr (h2 e he hb)
          · exact .inr (S.closed j oj hoj hj e he hb)
        · rw [set_getD hil] at hh'
          rcases hh' with rfl | hh'
          · omega
          · exact S.tail j hj hh'
        · rw [env_puto a _ v (by rw [S.n]; exact hdo)]
          have other : o.dst ≠ some d → updo (env a) o.dst v d = env a d := fun hne => by
            cases hod : o.dst with
            | none => rfl
            | some t => exact upd_ne _ _ fun e => hne (by rw [hod, e])
          by_cases hod : o.dst = some d
          · rw [hod]
            simp only [updo, upd_eq]
            refine ⟨fun j Ψ hj hlj hdj hΨ => ?_, fun hn => absurd (by simp [dstO, ho, hod]) (hn i him (by rw [set_getD hil]; exact .inl rfl))⟩
            cases hoj : ops[j]? with
            | none => simp [dstO, hoj] at hdj
            | some oj =>
              simp [dstO, hoj] at hdj
              have := hF.dist j i oj o d hj him hoj ho hdj hod
              subst this
              rw [hΦ] at hΨ; cases hΨ; exact hv
          · rw [other hod]
            refine ⟨fun j Ψ hj hlj hdj hΨ => ?_, fun hn => (g3 d).2 fun j hj hlj => hn j hj (by rw [set_getD hil]; exact .inr hlj)⟩
            rw [set_getD hil] at hlj
            rcases hlj with rfl | hlj
            · simp [dstO, ho] at hdj; exact absurd hdj hod
            · exact hmo Ψ (List.mem_of_getElem? hΨ) _ h hh hle ((g3 d).1 j Ψ hj hlj hdj hΨ)
      have hok : ∀ d ∈ o.looksAt ops, OkG ops e0 Ss i (env a) h d := fun d hd => by
        refine ⟨fun j Ψ hj hdj hΨ => ?_, fun hn => (g3 d).2 fun j hj hlj hdj => ?_⟩
        · cases hoj : ops[j]? with
          | none => simp [dstO, hoj] at hdj
          | some oj =>
            simp [dstO, hoj] at hdj
            have := (hF.reads i j o oj d him (by omega) (by omega) ho hoj hdj hd).1 hj
            exact (g3 d).1 j Ψ (by omega) (wt_L (L := fun j => l.getD j false = true) this h2) (by simp [dstO, hoj, hdj]) hΨ
        · rcases Nat.lt_trichotomy j i with h' | h' | h'
          · exact hn j h' hdj
          · subst h'; exact hun hlj
          · cases hoj : ops[j]? with
            | none => simp [dstO, hoj] at hdj
            | some oj =>
              simp [dstO, hoj] at hdj
              have := (hF.reads i j o oj d him hj (by omega) ho hoj hdj hd).2 h'
              exact hun (wt_L (L := fun j => l.getD j false = true) this (S.closed j oj hoj hlj))
      have hls' := hls i him o Φ (env a) _ h w ho hΦ hDi g1 g2 hok
      refine wpOp_ofP (fun ch w' => hX _ ch w' S.n S.d) ho ?_
      split
      · rename_i hr
        exact (hls'.1 hr).mono fun v w' ⟨hh, k1, k2, k3⟩ => step v w' hh k1 k2 k3
      · rename_i hr
        exact step undef w h (hR.refl h) (hls'.2 (by simpa using hr)).2 (hls'.2 (by simpa using hr)).1
    · have hall := hF.tail (fun j => l.getD j false = true) S.closed i o (by omega) ho h2
      have him' : i = m := by
        rcases Nat.lt_or_ge m i with h' | h'
        · exact absurd (hall m h') (S.tail m (Nat.le_refl m))
        · omega
      subst him'
      have hl : ∀ j, l.getD j false = true ↔ j < i := fun j => ⟨fun hj => by
        rcases Nat.lt_or_ge j i with h' | h'
        · exact h'
        · exact absurd hj (S.tail j h'), hall j⟩
      have hle : ops.size - i ≤ fuel + 1 := by
        have : ∀ n k (l : Array Bool), l.size = ops.size → k + n = ops.size → (∀ j, k ≤ j → l.getD j false ≠ true) → n ≤ l.count false := by
          intro n
          induction n with
          | zero => intro k l _ _ _; omega
          | succ n ihn =>
            intro k l hs hk hj
            have hks : k < l.size := by omega
            have hkf : l.getD k true = false := by
              rw [getD_tf hks]
              cases hh : l.getD k false
              · rfl
              · exact absurd hh (hj k (Nat.le_refl k))
            have h3 := ihn (k + 1) (l.setIfInBounds k true) (by simpa using hs) (by omega) (fun j hj' => by
              rw [Ne, set_getD hks]; rintro (h | h)
              · omega
              · exact hj j (by omega) h)
            have := count_set hks hkf
            omega
        have := this (ops.size - i) i l S.size (by omega) S.tail
        omega
      have hT := flow_tailP (P := P) hX hF hds hQ (fuel + 1) i l a w (Nat.le_refl i) hF.le hle S.size hl S.n S.d (fin l a w S hall)
      exact hT.2 i hi
end
end
theorem WP.regionGP {σ : Type} {P : Program} {N : Nat} {D : List Deferred} {e : Env} {w : World} {Q : Exit → Env → World → Prop} {id : Nat} {ops : Array Oper} {J : (Nat → Bool) → σ → World → Prop} {R : σ → σ → Prop} (X : PX) (hX : ∀ e ch w', X ch w' → Q (.panic ch) e w') (hm : Mixed P) (hR : Pre R) (s0 : σ) (I : J (fun _ => false) s0 w.drew) (m : Nat) (hB : flowB ops m = true)
    (k : OpsGP P X ops J R s0 0 [] (ops.toList.take m) e (fun L e' => ∀ D h1 w1, (∀ j, j < m → D j = true) → R s0 h1 → J D h1 w1 → AllG (fun _ => true) h1 L e' fun e'' => OpsP P X ops (ops.toList.drop m) e'' w1 (fun e3 w3 => Q .normal e3 w3))) : WP P N D (.region id ops true) e w Q := by
  intro hs a h1 h2 h3
  subst h3
  have hF := flow_of hB
  obtain ⟨Ss, L, e', hlen, hrel, hls, hmo, hK⟩ := OpsGP.sound (e0 := env a) hF _ [] [] (env a) _ (fun j => by simp) (by simp [hF.le]) ⟨fun f h1 d ho => (ho.2 (by simp)).symm, by simp⟩ (by simp) (by simp) k
  refine wp_region_any hm ?_
  refine flow_anyGP (K := fun e3 w3 => Q .normal e3 w3) (N := N) (D := D) (fun a ch w' g1 g2 g3 => ⟨g1, g2, hX _ _ _ g3⟩) hF hs (fun a w g1 g2 g3 => ⟨g1, g2, g3⟩) hlen hls hmo hR (fun f D h1 w1 hD hl I1 hok => ?_) ops.size _ a _ (by simp) ⟨by simp, ?_, ?_, h1, h2, s0, hR.refl s0, ?_, fun d => ⟨?_, fun _ => rfl⟩⟩
  · have hov : ovrG e' L f = f := by funext d; exact hrel.eq f h1 d (hlen ▸ hok d)
    have := (hK D h1 w1 hD hl I1).get f fun p hp _ => by
      obtain ⟨k, k1, k2, k3⟩ := hrel.sub p hp
      exact (hok p.1).1 k p.2 (hlen ▸ k1) k2 k3
    rwa [hov] at this
  · intro i o _ hl
    simp [Array.getD_eq_getD_getElem?, Array.getElem?_replicate] at hl
    split at hl <;> simp at hl
  · intro j _ hl
    simp [Array.getD_eq_getD_getElem?, Array.getElem?_replicate] at hl
    split at hl <;> simp at hl
  · have : (fun j => (Array.replicate ops.size false).getD j false) = fun _ => false := by
      funext j
      simp [Array.getD_eq_getD_getElem?, Array.getElem?_replicate]
      split <;> rfl
    rw [this]; exact I
  · intro j Φ _ hl
    simp [Array.getD_eq_getD_getElem?, Array.getElem?_replicate] at hl
    split at hl <;> simp at hl
section
variable {σ : Type} {P : Program} {X : PX} {full : Array Oper} {J : (Nat → Bool) → σ → World → Prop} {R : σ → σ → Prop} {h0 : σ} {k : Nat} {L : List (Nat × Sq σ)} {rest : List Oper} {e : Env} {K : List (Nat × Sq σ) → Env → Prop}
variable {op : Op} {t : TypeId} {pos : String} {af : Array Edge}
theorem OpsGP.nil (h : K L e) : OpsGP P X full J R h0 k L [] e K := h
theorem OpsGP.y_ {d : Nat} {g : Option (Nat × Bool)} {v : Value} (hr : ∀ us, runs full (ovrG e L us) ⟨some d, op, t, pos, af, g⟩ = true) (hR : Pre R) (hJ : ∀ D s w, J D s w → J (setD D k) s w)
    (hy : ∀ D h1 w us, R h0 h1 → J D h1 w → Y P ⟨some d, op, t, pos, af, g⟩ (ovrG e L us) w v) (h : OpsGP P X full J R h0 (k + 1) L rest (upd e d v) K) :
    OpsGP P X full J R h0 k L (⟨some d, op, t, pos, af, g⟩ :: rest) e K :=
  .inr ⟨hr, .inl ⟨v, fun D h1 w _ hl I => AllG.all fun us => by refine Op1P.of ?_; unfold Op1; rw [hy D h1 w us hl I]; exact ⟨h1, hR.refl h1, hJ D h1 w I, rfl⟩, h⟩⟩
theorem OpsGP.x_ {d : Nat} {g : Option (Nat × Bool)} {Φ : Sq σ} (hm : MonoG R Φ) (hr : ∀ us, runs full (ovrG e L us) ⟨some d, op, t, pos, af, g⟩ = true)
    (hy : OblGP P X full J R h0 k L e ⟨some d, op, t, pos, af, g⟩ Φ) (h : OpsGP P X full J R h0 (k + 1) ((d, Φ) :: L) rest e K) :
    OpsGP P X full J R h0 k L (⟨some d, op, t, pos, af, g⟩ :: rest) e K :=
  .inr ⟨hr, .inr ⟨d, Φ, rfl, hm, hy, h⟩⟩
/-- An operation that yields nothing. -/
theorem OpsGP.s_ {g : Option (Nat × Bool)} (hr : ∀ us, runs full (ovrG e L us) ⟨none, op, t, pos, af, g⟩ = true)
    (hy : OblGP P X full J R h0 k L e ⟨none, op, t, pos, af, g⟩ (fun u _ => u = undef)) (h : OpsGP P X full J R h0 (k + 1) L rest e K) :
    OpsGP P X full J R h0 k L (⟨none, op, t, pos, af, g⟩ :: rest) e K :=
  .inr ⟨hr, .inl ⟨undef, hy, h⟩⟩
end
/-! ### Contracts -/
/-- The panic that leaves a call that began at B. -/
def XP (C : List PanicEntry) (B : Base) (Pan : Prop) : PX := fun ch w => ch = C ∧ Grow B.w w ∧ Pan
/-- A contract of a function that may panic: if so, nothing that there was is turned. -/
def FnP (P : Program) (f : FuncId) (args : List Value) (B : Base) (C : List PanicEntry) (Pan : Prop) (Post : Value → Heap → Prop) : Prop :=
  Calls P f args.toArray B.w fun x w' => (∃ v h', x = .returned v ∧ Ext B w' h' ∧ Post v h') ∨ ∃ ch, x = .panicked ch ∧ XP C B Pan ch w'
theorem FnP.mono {P : Program} {f : FuncId} {args : List Value} {B : Base} {C : List PanicEntry} {Pan Pan' : Prop} {Post Post' : Value → Heap → Prop} (h : FnP P f args B C Pan Post) (hx : Pan → Pan') (hp : ∀ v h', B.h.le h' → Post v h' → Post' v h') : FnP P f args B C Pan' Post' :=
  Calls.mono h fun _ _ hh => by
    rcases hh with ⟨v, h', e, X, p⟩ | ⟨ch, e, h1, h2, h3⟩
    · exact .inl ⟨v, h', e, X, hp v h' X.ext p⟩
    · exact .inr ⟨ch, e, h1, h2, hx h3⟩
theorem FnP.fn {P : Program} {f : FuncId} {args : List Value} {B : Base} {C : List PanicEntry} {Pan : Prop} {Post : Value → Heap → Prop} (h : FnP P f args B C Pan Post) (hx : ¬ Pan) : Fn P f args B Post :=
  Calls.mono h fun _ _ hh => by
    rcases hh with hh | ⟨ch, e, h1, h2, h3⟩
    · exact hh
    · exact absurd h3 hx
/-- What such a function owes at its end. -/
def retP (P : Program) (fn : Func) (B : Base) (C : List PanicEntry) (Pan : Prop) (Post : Value → Heap → Prop) : Exit → Env → World → Prop
  | .ret, e, w | .normal, e, w => ∃ vs h', RV P e w fn.results.toList vs ∧ Ext B w h' ∧ Post (tup vs) h'
  | .panic ch, _, w => XP C B Pan ch w
  | _, _, _ => False
theorem retP.mk {P : Program} {fn : Func} {B : Base} {C : List PanicEntry} {Pan : Prop} {Post : Value → Heap → Prop} {e : Env} {w : World} {rs : List ResultVar} {vs : List Value} {h : Heap} (hr : fn.results.toList = rs) (hv : RV P e w rs vs) (X : Ext B w h) (hp : Post (tup vs) h) :
    retP P fn B C Pan Post .ret e w := ⟨vs, h, by rw [hr]; exact hv, X, hp⟩
theorem retP.fin {P : Program} {fn : Func} {B : Base} {C : List PanicEntry} {Pan : Prop} {Post : Value → Heap → Prop} {e : Env} {w : World} {rs : List ResultVar} {vs : List Value} {h : Heap} (hr : fn.results.toList = rs) (hv : RV P e w rs vs) (X : Ext B w h) (hp : Post (tup vs) h) :
    retP P fn B C Pan Post .normal e w := ⟨vs, h, by rw [hr]; exact hv, X, hp⟩
theorem FnP.of {P : Program} {f : FuncId} {fn : Func} {c : Code} {N : Nat} {args : List Value} {B : Base} {C : List PanicEntry} {Pan : Prop} {Post : Value → Heap → Prop} (hf : P.funcs[f]? = some fn) (hb : fn.body = some c) (hN : fn.ntmps = N) (hs : slotsOk N c = true)
    (hl : args.length ≤ N) (h : ∀ e, WP P N [] c (E e (argsE 0 args)) B.w (retP P fn B C Pan Post)) : FnP P f args B C Pan Post := by
  refine calls_of_wp hf hb ?_
  subst hN
  refine wp_mono (h _ hs { tmps := args.toArray ++ Array.replicate (fn.ntmps - args.toArray.size) undef, defers := [] } (by simp; omega) rfl (E_self (has_args args 0 fun j v hv => ?_)).symm) ?_
  · have hj := (List.getElem?_eq_some_iff.1 hv).1
    have hg : args[j] = v := (List.getElem?_eq_some_iff.1 hv).2
    simp [env, Array.getD_eq_getD_getElem?, Array.getElem?_append, hj, hg]
  · rintro x a' w' ⟨_, g2, g3⟩
    cases x <;> simp only [retP] at g3 <;> first | exact g3.elim | skip
    · obtain ⟨vs, h', hv, X, hp⟩ := g3
      exact ⟨g2, _, results_run rfl hv, .inl ⟨_, _, rfl, X, hp⟩⟩
    · obtain ⟨vs, h', hv, X, hp⟩ := g3
      exact ⟨g2, _, results_run rfl hv, .inl ⟨_, _, rfl, X, hp⟩⟩
    · exact ⟨g2, .inr ⟨_, rfl, g3⟩⟩
section
variable {P : Program} {e : Env} {w : World} {B : Base} {h : Heap} {M : List SA} {t : TypeId} {pos : String} {af : Array Edge} {g : Option (Nat × Bool)} {C : List PanicEntry}
theorem O.callp {d : Option Nat} {f : FuncId} {args : Array Operand} {ts : Array TypeId} {vs : List Value} {Pan Pan' : Prop} {Post : Value → Heap → Prop} {K : Value → World → Prop} (I : Inv B h M w) (hf : Enters P f) (hfn : FnP P f vs ⟨w, h⟩ C Pan Post)
    (ha : args.toList.map (ev e) = vs) (kx : Pan → Pan') (k : ∀ v h' w', Inv B h' M w' → h.le h' → Post v h' → K v w') : Op1P P (XP C B Pan') ⟨d, .call { callee := .value (.func f), args := args, argTypes := ts }, t, pos, af, g⟩ e w K := by
  have ha' : args.map (ev e) = vs.toArray := by rw [← ha]; apply Array.ext'; simp
  have : (execOp (ev e) ⟨d, .call { callee := .value (.func f), args := args, argTypes := ts }, t, pos, af, g⟩).run P w = .ok (.enter f vs.toArray) w := by
    simp [execOp, resolve, ev, Deferred.ofValue, invoke, ha', hf]
  unfold Op1P
  rw [this]
  refine Calls.mono hfn ?_
  rintro x w' (⟨v, h', rfl, X, hp⟩ | ⟨ch, rfl, h1, h2, h3⟩)
  · exact k v h' w' (I.called X) X.ext hp
  · exact ⟨h1, I.below.trans (h2.mono I.below.size), kx h3⟩
end
end Go.TF
end
section
/- Atoms, rules, programs as text; how the program reads them, how the document does; what was written is read as it was: plain. -/
namespace Go.TF
open Go

/-! ### What is written -/
def termL (t : Trm) : Bs := if t.var = true then [UInt8.ofNat (65 + t.n).toNat] else dgL t.n.toNat
def argsL (ts : List Trm) : Bs := if ts = [] then [] else [40] ++ (joinT [44] (ts.map termL) ++ [41])
def atomL (l : List Prd) (a : Atm) : Bs := tx (predOf l a.pred).name ++ argsL a.args.xs
def litL (l : List Prd) (x : Ltl) : Bs := (if x.neg = true then [33] else []) ++ atomL l x.atom
def bodyL (l : List Prd) (b : List Ltl) : Bs := if b = [] then [] else [32, 58, 45, 32] ++ joinT [44, 32] (b.map (litL l))
def srcL (r : Rul) : Bs := if 0 ≤ r.src then [35] ++ (dgL r.src.toNat ++ [43]) else []
def valL (l : List Prd) (r : Rul) : Bs := if (predOf l r.head.pred).kind ≠ 0 then [32, 61, 32] ++ (srcL r ++ dgL r.n.toNat) else []
def ruleL (l : List Prd) (r : Rul) : Bs := (atomL l r.head ++ (valL l r ++ bodyL l r.body.xs)) ++ [46]
def predW : Bs := [112, 114, 101, 100, 32]
def predL (x : Prd) : Bs := predW ++ (tx x.name ++ ([32] ++ (dgL x.arity.toNat ++ ([32] ++ dgL x.kind.toNat))))
def linesP (p : Prg) : List Bs := p.preds.xs.map predL ++ p.rules.xs.map (ruleL p.preds.xs)
def progL (p : Prg) : Bs := (linesP p).flatMap (· ++ [10])

/-! ### How the program reads -/
def predIx (l : List Prd) (s : Bs) : Option Nat := l.findIdx? fun x => decide (tx x.name = s)
def termR (w : Bs) : Option Trm := if 0 ≤ Lib.index [65, 66, 67] w ∧ w.length = 1 then some ⟨true, Lib.index [65, 66, 67] w⟩ else (numR w).map fun n => ⟨false, n⟩
def termsR : List Bs → Option (List Trm)
  | [] => some []
  | w :: r => match termR w, termsR r with | some t, some ts => some (t :: ts) | _, _ => none
def mkA (p : Nat) (ts : List Trm) : Atm := ⟨p, ⟨none, 0, ts⟩⟩
def atomR (l : List Prd) (s : Bs) : Option Atm :=
  match predIx l (Lib.cut s [40]).1 with
  | none => none
  | some k => if (Lib.cut s [40]).2.2 = false then some (mkA k []) else
    if Lib.hasSuffix (Lib.cut s [40]).2.1 [41] = false then none else (termsR (Lib.split (Lib.trimSuffix (Lib.cut s [40]).2.1 [41]) [44])).map (mkA k)
def litR (l : List Prd) (s : Bs) : Option Ltl := (atomR l (Lib.trimPrefix s [33])).map fun a => ⟨Lib.hasPrefix s [33], a⟩
def litsR (l : List Prd) : List Bs → Option (List Ltl)
  | [] => some []
  | w :: r => match litR l w, litsR l r with | some t, some ts => some (t :: ts) | _, _ => none
/-- What stands behind the '=': whence, and how much. -/
def valR (s : Bs) : Option (Int × Int) :=
  if (Lib.cut s [43]).2.2 = true then
    if Lib.hasPrefix (Lib.cut s [43]).1 [35] = false then none else
      match numR (Lib.trimPrefix (Lib.cut s [43]).1 [35]), numR (Lib.cut s [43]).2.1 with | some a, some b => some (a, b) | _, _ => none
  else (numR s).map fun n => (-1, n)
def mkR (h : Atm) (v : Int × Int) (b : List Ltl) : Rul := ⟨h, v.1, v.2, ⟨none, 0, b⟩⟩
def hdR (h : Bs) : Bs × Option (Int × Int) := ((Lib.cut h [32, 61, 32]).1, if (Lib.cut h [32, 61, 32]).2.2 = true then valR (Lib.cut h [32, 61, 32]).2.1 else some (-1, 0))
def ruleR (l : List Prd) (s : Bs) : Option Rul :=
  match (hdR (Lib.cut s [32, 58, 45, 32]).1).2 with
  | none => none
  | some v =>
    match atomR l (hdR (Lib.cut s [32, 58, 45, 32]).1).1 with
    | none => none
    | some h => if (Lib.cut s [32, 58, 45, 32]).2.2 = true then (litsR l (Lib.split (Lib.cut s [32, 58, 45, 32]).2.1 [44, 32])).map (mkR h v) else some (mkR h v [])
abbrev St := List Prd × List Rul
def predR (s : Bs) : Option Prd :=
  match Lib.split s [32] with
  | [n, a, k] => match numR a, numR k with | some a, some k => some ⟨⟨n.toArray⟩, a, k⟩ | _, _ => none
  | _ => none
def lineR (p : St) (s : Bs) : Option St :=
  if Lib.hasPrefix s predW = true ∧ Lib.hasSuffix s [46] = false then (predR (Lib.trimPrefix s predW)).map fun x => (p.1 ++ [x], p.2)
  else if Lib.hasSuffix s [46] = false then none else (ruleR p.1 (Lib.trimSuffix s [46])).map fun r => (p.1, p.2 ++ [r])
def readL : List Bs → St → Option St
  | [], p => some p
  | s :: r, p => match lineR p s with | none => none | some q => readL r q

/-! ### How the document reads -/
def predIxF (l : List Prd) (s : Bs) : Int := (List.range l.length).foldl (fun k i => if tx (l.getD i default).name = s then (i : Int) else k) (-1)
def termF (t : Bs) : Trm := if t.length = 1 ∧ 65 ≤ (t.getD 0 0).toNat then ⟨true, (t.getD 0 0).toNat - 65⟩ else ⟨false, saidL t⟩
def argsF : Nat → Bs → List Trm
  | 0, _ => []
  | f + 1, s => if (Lib.cut s [44]).2.2 = true then termF (Lib.cut s [44]).1 :: argsF f (Lib.cut s [44]).2.1
    else [termF ((Lib.cut s [44]).1.take ((Lib.cut s [44]).1.length - 1))]
def atomF (l : List Prd) (s : Bs) : Atm := ⟨predIxF l (Lib.cut s [40]).1, ⟨none, 0, if (Lib.cut s [40]).2.2 = true then argsF (s.length + 1) (Lib.cut s [40]).2.1 else []⟩⟩
def litF (l : List Prd) (t : Bs) : Ltl := if t.head? = some 33 then ⟨true, atomF l (t.drop 1)⟩ else ⟨false, atomF l t⟩
def litsF (l : List Prd) : Nat → Bs → List Ltl
  | 0, _ => []
  | f + 1, s => if (Lib.cut s [44, 32]).2.2 = true then litF l (Lib.cut s [44, 32]).1 :: litsF l f (Lib.cut s [44, 32]).2.1 else [litF l (Lib.cut s [44, 32]).1]
def valF (s : Bs) : Int × Int := if (Lib.cut s [43]).2.2 = true ∧ (Lib.cut s [43]).1 ≠ [] then (saidL ((Lib.cut s [43]).1.drop 1), saidL (Lib.cut s [43]).2.1) else (-1, saidL s)
def hdF (h : Bs) : Bs × (Int × Int) := if (Lib.cut h [32, 61, 32]).2.2 = true then ((Lib.cut h [32, 61, 32]).1, valF (Lib.cut h [32, 61, 32]).2.1) else (h, (-1, 0))
def ruleF (l : List Prd) (s : Bs) : Rul :=
  mkR (atomF l (hdF (Lib.cut s [32, 58, 45, 32]).1).1) (hdF (Lib.cut s [32, 58, 45, 32]).1).2
    (if (Lib.cut s [32, 58, 45, 32]).2.2 = true then litsF l (s.length + 1) (Lib.cut s [32, 58, 45, 32]).2.1 else [])
def predF (more : Bs) : Prd := ⟨⟨(Lib.cut more [32]).1.toArray⟩, saidL (Lib.cut (Lib.cut more [32]).2.1 [32]).1, saidL (Lib.cut (Lib.cut more [32]).2.1 [32]).2.1⟩
def isPredF (s : Bs) : Bool := (Lib.cut s [32]).2.2 && decide ((Lib.cut s [32]).1 = [112, 114, 101, 100]) && decide ((Lib.cut s [32]).2.1 ≠ []) && decide ((Lib.cut s [32]).2.1.head? ≠ some 58) && decide ((Lib.cut s [32]).2.1.head? ≠ some 61)
def lineF (p : St) (s : Bs) : St := if isPredF s = true then (p.1 ++ [predF (Lib.cut s [32]).2.1], p.2) else (p.1, p.2 ++ [ruleF p.1 (s.take (s.length - 1))])
def readF : Nat → Bs → St → St
  | 0, _, p => p
  | f + 1, s, p => if s = [] then p else readF f (Lib.cut s [10]).2.1 (lineF p (Lib.cut s [10]).1)

/-! ### Of what is right -/
section
theorem u8_of {n : Nat} (h : n < 256) : (UInt8.ofNat n).toNat = n := by rw [UInt8.toNat_ofNat']; omega
theorem termOk_of {ts : List Trm} (h : argsErr ts = 0) {t : Trm} (ht : t ∈ ts) : termOk t = true := by
  unfold argsErr at h
  split at h
  · rename_i h1; exact List.all_eq_true.1 h1 t ht
  · cases h
/-- A term that is right: one byte, a letter from A on, or a digit. -/
theorem termL_one {t : Trm} (h : termOk t = true) : ∃ c : UInt8, termL t = [c] ∧ (if t.var = true then (c.toNat : Int) = 65 + t.n ∧ 0 ≤ t.n ∧ t.n < 3 else (c.toNat : Int) = 48 + t.n ∧ 0 ≤ t.n ∧ t.n ≤ 4) := by
  obtain ⟨var, n⟩ := t
  cases var with
  | true =>
    obtain ⟨h0, h1⟩ : 0 ≤ n ∧ n < 3 := of_decide_eq_true h
    refine ⟨UInt8.ofNat (65 + n).toNat, rfl, ?_⟩
    show ((UInt8.ofNat (65 + n).toNat).toNat : Int) = 65 + n ∧ _
    exact ⟨by rw [u8_of (by omega)]; omega, h0, h1⟩
  | false =>
    obtain ⟨h0, h1⟩ : 0 ≤ n ∧ n ≤ 4 := of_decide_eq_true h
    refine ⟨UInt8.ofNat (48 + n.toNat), ?_, ?_⟩
    · show dgL n.toNat = _
      unfold dgL; rw [if_pos (by omega)]
    show ((UInt8.ofNat (48 + n.toNat)).toNat : Int) = 48 + n ∧ _
    exact ⟨by rw [u8_of (by omega)]; omega, h0, h1⟩
theorem termL_not {t : Trm} (h : termOk t = true) {c : UInt8} (hc : c.toNat < 48) : c ∉ termL t := by
  obtain ⟨d, hd, hh⟩ := termL_one h
  rw [hd]
  intro hm
  rw [List.mem_singleton] at hm
  subst hm
  split at hh <;> omega
theorem idx_abc : ∀ c : Fin 256, Lib.index [65, 66, 67] [UInt8.ofNat c.val] = if 65 ≤ c.val ∧ c.val ≤ 67 then (c.val : Int) - 65 else -1 := by decide +kernel
theorem num_dig : ∀ c : Fin 10, numR [UInt8.ofNat (48 + c.val)] = some (c.val : Int) := by decide +kernel
theorem said_dig : ∀ c : Fin 10, saidL [UInt8.ofNat (48 + c.val)] = (c.val : Int) := by decide +kernel
theorem u8_eq {c : UInt8} {n : Nat} (h : c.toNat = n) : c = UInt8.ofNat n := by subst h; simp
theorem termR_ok {t : Trm} (h : termOk t = true) : termR (termL t) = some t := by
  obtain ⟨c, hc, hh⟩ := termL_one h
  obtain ⟨var, n⟩ := t
  rw [hc]
  have hlt := c.toNat_lt
  have hi : Lib.index [65, 66, 67] [c] = if 65 ≤ c.toNat ∧ c.toNat ≤ 67 then (c.toNat : Int) - 65 else -1 := by
    have := idx_abc ⟨c.toNat, hlt⟩
    simpa using this
  unfold termR
  rw [hi]
  cases var with
  | true =>
    simp only [if_true] at hh
    rw [if_pos (show 65 ≤ c.toNat ∧ c.toNat ≤ 67 by omega), if_pos (show 0 ≤ (c.toNat : Int) - 65 ∧ [c].length = 1 from ⟨by omega, rfl⟩)]
    congr 2; omega
  | false =>
    simp only [Bool.false_eq_true, if_false] at hh
    rw [if_neg (show ¬ (65 ≤ c.toNat ∧ c.toNat ≤ 67) by omega), if_neg (fun h => absurd h.1 (by decide))]
    have := num_dig ⟨n.toNat, by omega⟩
    have hc' : c = UInt8.ofNat (48 + n.toNat) := u8_eq (by omega)
    rw [hc']
    simp only at this
    rw [this]
    simp; omega
theorem termF_ok {t : Trm} (h : termOk t = true) : termF (termL t) = t := by
  obtain ⟨c, hc, hh⟩ := termL_one h
  obtain ⟨var, n⟩ := t
  rw [hc]
  unfold termF
  cases var with
  | true =>
    simp only [if_true] at hh
    rw [if_pos ⟨rfl, by simp; omega⟩]
    simp; omega
  | false =>
    simp only [Bool.false_eq_true, if_false] at hh
    rw [if_neg (by simp; omega)]
    have := said_dig ⟨n.toNat, by omega⟩
    have hc' : c = UInt8.ofNat (48 + n.toNat) := u8_eq (by omega)
    rw [hc']
    simp only at this
    rw [this]
    simp; omega
theorem termsR_ok : ∀ {ts : List Trm}, (∀ t ∈ ts, termOk t = true) → termsR (ts.map termL) = some ts
  | [], _ => rfl
  | t :: r, h => by simp only [List.map_cons, termsR, termR_ok (h t (by simp)), termsR_ok fun x hx => h x (List.mem_cons_of_mem _ hx)]
theorem join_not {c : UInt8} {sep : Bs} (hs : c ∉ sep) : ∀ {l : List Bs}, (∀ x ∈ l, c ∉ x) → c ∉ joinT sep l
  | [], _ => by simp [joinT]
  | [x], h => h x (by simp)
  | x :: y :: r, h => by
    rw [joinT]
    simp only [List.mem_append, not_or]
    exact ⟨h x (by simp), hs, join_not hs fun z hz => h z (List.mem_cons_of_mem _ hz)⟩
theorem argsF_ok : ∀ {ts : List Trm} {f : Nat}, ts ≠ [] → (∀ t ∈ ts, termOk t = true) → ts.length ≤ f → argsF f (joinT [44] (ts.map termL) ++ [41]) = ts
  | [], _, h, _, _ => absurd rfl h
  | _ :: _, 0, _, _, h => by simp at h
  | [t], f + 1, _, h, _ => by
    have hn : (44 : UInt8) ∉ termL t ++ [41] := by
      simp only [List.mem_append, not_or]
      exact ⟨termL_not (h t (by simp)) (by decide), by decide⟩
    simp only [List.map_cons, List.map_nil, joinT, argsF]
    rw [cut_miss (List.mem_singleton.2 rfl) hn, if_neg (by simp)]
    simp [termF_ok (h t (by simp))]
  | t :: u :: r, f + 1, _, h, hl => by
    simp only [List.map_cons, joinT, argsF, List.append_assoc]
    rw [cut1 (termL_not (h t (by simp)) (by decide)), if_pos rfl, termF_ok (h t (by simp))]
    simp only
    rw [← List.map_cons (f := termL), argsF_ok (by simp) (fun x hx => h x (List.mem_cons_of_mem _ hx)) (by simp at hl ⊢; omega)]
end
/-- Predicates whose names are names, each but once. -/
structure NOk (l : List Prd) : Prop where
  name : ∀ x ∈ l, (tx x.name).all lowB = true ∧ tx x.name ≠ []
  once : twice l = false
section
variable {l : List Prd} (nk : NOk l)
include nk
theorem NOk.not {x : Prd} (hx : x ∈ l) {c : UInt8} (hc : lowB c = false) : c ∉ tx x.name := fun hm => by
  rw [(List.all_eq_true.1 (nk.name x hx).1) c hm] at hc; cases hc
theorem NOk.inj {i j : Nat} (hi : i < l.length) (hj : j < i) : l[j].name ≠ l[i].name := fun e => by
  have h := nk.once
  unfold twice at h
  rw [List.any_eq_false] at h
  refine h i (List.mem_range.2 hi) ?_
  unfold early
  rw [List.any_eq_true]
  refine ⟨l[j], ?_, ?_⟩
  · rw [List.mem_iff_getElem?]
    exact ⟨j, by rw [List.getElem?_take, if_pos hj]; simp⟩
  · have : l.getD i default = l[i] := by rw [List.getD_eq_getElem?_getD, List.getElem?_eq_getElem hi]; rfl
    rw [this, e]; simp
theorem predIx_ok {p : Int} (h : 0 ≤ p ∧ p < l.length) : predIx l (tx (predOf l p).name) = some p.toNat := by
  have hlt : p.toNat < l.length := by omega
  have he : predOf l p = l[p.toNat] := by unfold predOf; rw [List.getD_eq_getElem?_getD, List.getElem?_eq_getElem hlt]; rfl
  rw [he]
  unfold predIx
  rw [List.findIdx?_eq_some_iff_getElem]
  refine ⟨hlt, by simp, fun j hj => ?_⟩
  have := nk.inj hlt hj
  simp only [decide_eq_true_eq]
  intro e
  exact this (tx_inj.1 e)
theorem predIxF_ok {p : Int} (h : 0 ≤ p ∧ p < l.length) : predIxF l (tx (predOf l p).name) = p := by
  have hlt : p.toNat < l.length := by omega
  have he : predOf l p = l[p.toNat] := by unfold predOf; rw [List.getD_eq_getElem?_getD, List.getElem?_eq_getElem hlt]; rfl
  have hne : ∀ j, j < l.length → (tx (l.getD j default).name = tx (predOf l p).name ↔ j = p.toNat) := fun j hj => by
    have hg : l.getD j default = l[j] := by rw [List.getD_eq_getElem?_getD, List.getElem?_eq_getElem hj]; rfl
    rw [he, hg, tx_inj]
    refine ⟨fun e => ?_, fun e => by subst e; rfl⟩
    rcases Nat.lt_trichotomy j p.toNat with h1 | h1 | h1
    · exact absurd e (nk.inj hlt h1)
    · exact h1
    · exact absurd e.symm (nk.inj hj h1)
  have key : ∀ n, n ≤ l.length → (List.range n).foldl (fun k i => if tx (l.getD i default).name = tx (predOf l p).name then (i : Int) else k) (-1) = if p.toNat < n then p else -1 := by
    intro n
    induction n with
    | zero => intro _; simp
    | succ n ih =>
      intro hn
      rw [List.range_succ, List.foldl_append, ih (by omega)]
      simp only [List.foldl_cons, List.foldl_nil]
      by_cases hp : n = p.toNat
      · rw [if_pos ((hne n (by omega)).2 hp), if_pos (by omega)]; omega
      · rw [if_neg fun e => hp ((hne n (by omega)).1 e)]
        by_cases h1 : p.toNat < n
        · rw [if_pos h1, if_pos (by omega)]
        · rw [if_neg h1, if_neg (by omega)]
  unfold predIxF
  rw [key _ (Nat.le_refl _), if_pos hlt]
theorem cut_atom {a : Atm} (ao : AOk l a) : Lib.cut (atomL l a) [40] = if a.args.xs = [] then (tx (predOf l a.pred).name, [], false) else (tx (predOf l a.pred).name, joinT [44] (a.args.xs.map termL) ++ [41], true) := by
  have hn : (40 : UInt8) ∉ tx (predOf l a.pred).name := nk.not (predOf_mem ao.pred) (by decide)
  unfold atomL argsL
  split
  · rw [List.append_nil]; exact cut_miss (List.mem_singleton.2 rfl) hn
  · exact cut1 hn
omit nk in
theorem AOk.termOk {a : Atm} (ao : AOk l a) {t : Trm} (ht : t ∈ a.args.xs) : termOk t = true := termOk_of ao.err ht
omit nk in
theorem mkA_er {a : Atm} (ao : AOk l a) : mkA a.pred.toNat a.args.xs = a.er := by
  have := ao.pred
  unfold mkA Atm.er Sl.er
  congr 1
  omega
theorem atomR_ok {a : Atm} (ao : AOk l a) : atomR l (atomL l a) = some a.er := by
  unfold atomR
  rw [cut_atom nk ao]
  by_cases h : a.args.xs = []
  · rw [if_pos h]
    simp only [predIx_ok nk ao.pred, if_true]
    rw [← mkA_er ao, h]
  · rw [if_neg h]
    simp only [predIx_ok nk ao.pred, suf_app, trimS_app, Bool.true_eq_false, if_false]
    rw [split_join1 (by simpa using h) (fun x hx => ?_), termsR_ok fun t ht => AOk.termOk ao ht]
    · rw [Option.map_some, mkA_er ao]
    · obtain ⟨t, ht, rfl⟩ := List.mem_map.1 hx
      exact termL_not (AOk.termOk ao ht) (by decide)
theorem atomF_ok {a : Atm} (ao : AOk l a) : atomF l (atomL l a) = a.er := by
  have hl : a.args.xs.length ≤ (atomL l a).length + 1 := by
    unfold atomL argsL
    have hlen : ∀ {ts : List Trm}, (∀ t ∈ ts, TF.termOk t = true) → ts.length ≤ (joinT [44] (ts.map termL)).length := by
      intro ts
      induction ts with
      | nil => intro _; simp
      | cons t r ih =>
        intro h
        obtain ⟨c, hc, _⟩ := termL_one (h t (by simp))
        have := ih fun x hx => h x (List.mem_cons_of_mem _ hx)
        cases r with
        | nil => simp [joinT, hc]
        | cons u r => simp [joinT, hc] at this ⊢; omega
    have := hlen fun t ht => AOk.termOk ao ht
    split <;> simp_all <;> omega
  unfold atomF
  rw [cut_atom nk ao]
  by_cases h : a.args.xs = []
  · rw [if_pos h]
    simp only [predIxF_ok nk ao.pred, Bool.false_eq_true, if_false]
    rw [← h]; rfl
  · rw [if_neg h]
    simp only [predIxF_ok nk ao.pred, if_true]
    rw [argsF_ok h (fun t ht => AOk.termOk ao ht) hl]; rfl
theorem atomL_not {a : Atm} (ao : AOk l a) {c : UInt8} (hc : lowB c = false) (h1 : c ≠ 40 ∧ c ≠ 41 ∧ c ≠ 44) (h2 : c.toNat < 48) : c ∉ atomL l a := by
  unfold atomL argsL
  simp only [List.mem_append, not_or]
  refine ⟨nk.not (predOf_mem ao.pred) hc, ?_⟩
  split
  · simp
  · simp only [List.mem_append, not_or, List.mem_singleton]
    exact ⟨h1.1, join_not (by simpa using h1.2.2) fun x hx => by obtain ⟨t, ht, rfl⟩ := List.mem_map.1 hx; exact termL_not (AOk.termOk ao ht) h2, h1.2.1⟩
/-- A byte beyond the digits, and no letter. -/
theorem atomL_not' {a : Atm} (ao : AOk l a) {c : UInt8} (hc : lowB c = false) (h2 : 53 ≤ c.toNat) (h3 : c.toNat < 65) : c ∉ atomL l a := by
  unfold atomL argsL
  simp only [List.mem_append, not_or]
  refine ⟨nk.not (predOf_mem ao.pred) hc, ?_⟩
  split
  · simp
  · simp only [List.mem_append, not_or, List.mem_singleton]
    refine ⟨fun e => by rw [e] at h2; exact absurd h2 (by decide), join_not (fun e => by rw [List.mem_singleton] at e; rw [e] at h2; exact absurd h2 (by decide)) fun x hx => ?_, fun e => by rw [e] at h2; exact absurd h2 (by decide)⟩
    obtain ⟨t, ht, rfl⟩ := List.mem_map.1 hx
    obtain ⟨d, hd, hh⟩ := termL_one (AOk.termOk ao ht)
    rw [hd, List.mem_singleton]
    rintro rfl
    split at hh <;> omega
theorem atomL_head {a : Atm} (ao : AOk l a) : ∃ c r, atomL l a = c :: r ∧ lowB c = true := by
  obtain ⟨h1, h2⟩ := nk.name _ (predOf_mem ao.pred)
  unfold atomL
  cases hn : tx (predOf l a.pred).name with
  | nil => exact absurd hn h2
  | cons c r => rw [hn] at h1; exact ⟨c, _, rfl, by simp only [List.all_cons, Bool.and_eq_true] at h1; exact h1.1⟩
/-! ### Literals -/
theorem litR_ok {x : Ltl} (ao : AOk l x.atom) : litR l (litL l x) = some x.er := by
  obtain ⟨c, r, hc, hl⟩ := atomL_head nk ao
  unfold litR litL
  cases hx : x.neg with
  | true =>
    simp only [if_true]
    rw [trimP_app, pre_app, atomR_ok nk ao]
    simp [Ltl.er, hx]
  | false =>
    have hp : Lib.hasPrefix (atomL l x.atom) [33] = false := by
      rw [hc]
      unfold Lib.hasPrefix
      simp only [List.isPrefixOf, Bool.and_true]
      rw [beq_eq_false_iff_ne]
      rintro rfl
      cases hl
    simp only [Bool.false_eq_true, if_false, List.nil_append]
    unfold Lib.trimPrefix
    rw [hp, if_neg (by simp), atomR_ok nk ao]
    simp [Ltl.er, hx]
theorem litF_ok {x : Ltl} (ao : AOk l x.atom) : litF l (litL l x) = x.er := by
  obtain ⟨c, r, hc, hl⟩ := atomL_head nk ao
  unfold litF litL
  cases hx : x.neg with
  | true =>
    simp only [if_true, List.singleton_append, List.head?_cons, List.drop_succ_cons, List.drop_zero]
    rw [atomF_ok nk ao]
    simp [Ltl.er, hx]
  | false =>
    simp only [Bool.false_eq_true, if_false, List.nil_append]
    rw [if_neg, atomF_ok nk ao]
    · simp [Ltl.er, hx]
    · rw [hc]
      simp only [List.head?_cons, Option.some.injEq]
      rintro rfl
      cases hl
theorem litL_not {x : Ltl} (ao : AOk l x.atom) {c : UInt8} (hc : lowB c = false) (h1 : c ≠ 40 ∧ c ≠ 41 ∧ c ≠ 44) (h2 : c.toNat < 48) (h3 : c ≠ 33) : c ∉ litL l x := by
  unfold litL
  simp only [List.mem_append, not_or]
  refine ⟨?_, atomL_not nk ao hc h1 h2⟩
  split
  · simpa using h3
  · simp
theorem litsR_ok : ∀ {b : List Ltl}, (∀ x ∈ b, AOk l x.atom) → litsR l (b.map (litL l)) = some (b.map Ltl.er)
  | [], _ => rfl
  | x :: r, h => by simp only [List.map_cons, litsR, litR_ok nk (h x (by simp)), litsR_ok fun y hy => h y (List.mem_cons_of_mem _ hy)]
theorem litsF_ok : ∀ {b : List Ltl} {f : Nat}, b ≠ [] → (∀ x ∈ b, AOk l x.atom) → b.length ≤ f → litsF l f (joinT [44, 32] (b.map (litL l))) = b.map Ltl.er
  | [], _, h, _, _ => absurd rfl h
  | _ :: _, 0, _, _, h => by simp at h
  | [x], f + 1, _, h, _ => by
    simp only [List.map_cons, List.map_nil, joinT, litsF]
    rw [cut_miss (c := 32) (by simp) (litL_not nk (h x (by simp)) (by decide) (by decide) (by decide) (by decide)), if_neg (by simp)]
    rw [litF_ok nk (h x (by simp))]
  | x :: y :: r, f + 1, _, h, hl => by
    simp only [List.map_cons, joinT, litsF]
    rw [cut2 (litL_not nk (h x (by simp)) (by decide) (by decide) (by decide) (by decide)) (by decide), if_pos rfl, litF_ok nk (h x (by simp))]
    simp only
    rw [← List.map_cons (f := litL l), litsF_ok (by simp) (fun z hz => h z (List.mem_cons_of_mem _ hz)) (by simp at hl ⊢; omega), List.map_cons]
end
end Go.TF
end
section
/- What was written of a right program is read as it was, by the program and by the document: plain. -/
namespace Go.TF
open Go

theorem nok_of {p : Prg} (h : checkProg p = 0) : NOk p.preds.xs := by
  obtain ⟨h1, h2⟩ := chk_names h
  refine ⟨fun x hx => ?_, h2⟩
  have := h1 x hx
  unfold isName at this
  simp only [Bool.and_eq_true, decide_eq_true_eq] at this
  exact ⟨this.2, fun e => by have := tx_len x.name; rw [e] at this; simp at this; omega⟩
section
variable {l : List Prd} (nk : NOk l)
theorem digOf {c : UInt8} (h : digB c = false) {n : Nat} (hn : n < 100) : c ∉ dgL n := dg_not hn h
section
variable {r : Rul} (ok : ROk l r)
include ok
theorem ROk.src_lt : r.src.toNat < 100 := by have := ok.src; have := ok.len; omega
theorem ROk.n_lt : r.n.toNat < 100 := by have := ok.n; omega
theorem srcL_not {c : UInt8} (h : digB c = false) (h1 : c ≠ 35) (h2 : c ≠ 43) : c ∉ srcL r := by
  unfold srcL
  split
  · simp only [List.mem_append, not_or, List.mem_singleton]
    exact ⟨h1, digOf h ok.src_lt, h2⟩
  · simp
theorem valL_not {c : UInt8} (h : digB c = false) (h1 : c ≠ 35) (h2 : c ≠ 43) (h3 : c ∉ ([32, 61, 32] : Bs)) : c ∉ valL l r := by
  unfold valL
  split
  · simp only [List.mem_append, not_or]
    exact ⟨h3, srcL_not ok h h1 h2, digOf h ok.n_lt⟩
  · simp
theorem valR_ok : valR (srcL r ++ dgL r.n.toNat) = some (r.src, r.n) := by
  have h0 := ok.src
  have h1 := ok.n
  unfold valR srcL
  split
  · rename_i hs
    have e1 : [35] ++ (dgL r.src.toNat ++ [43]) ++ dgL r.n.toNat = ([35] ++ dgL r.src.toNat) ++ ([43] ++ dgL r.n.toNat) := by simp
    have hn : (43 : UInt8) ∉ [35] ++ dgL r.src.toNat := by
      simp only [List.mem_append, not_or, List.mem_singleton]
      exact ⟨by decide, digOf (by decide) ok.src_lt⟩
    rw [e1, cut1 hn, if_pos rfl]
    simp only
    rw [pre_app, if_neg (by simp), trimP_app, num_dg ok.src_lt, num_dg ok.n_lt]
    simp only [Option.some.injEq, Prod.mk.injEq]
    omega
  · rename_i hs
    rw [List.nil_append, cut_miss (List.mem_singleton.2 rfl) (digOf (by decide) ok.n_lt), if_neg (by simp), num_dg ok.n_lt]
    simp only [Option.map_some, Option.some.injEq, Prod.mk.injEq]
    omega
theorem valF_ok : valF (srcL r ++ dgL r.n.toNat) = (r.src, r.n) := by
  have h0 := ok.src
  have h1 := ok.n
  unfold valF srcL
  split
  · rename_i hs
    have e1 : [35] ++ (dgL r.src.toNat ++ [43]) ++ dgL r.n.toNat = ([35] ++ dgL r.src.toNat) ++ ([43] ++ dgL r.n.toNat) := by simp
    have hn : (43 : UInt8) ∉ [35] ++ dgL r.src.toNat := by
      simp only [List.mem_append, not_or, List.mem_singleton]
      exact ⟨by decide, digOf (by decide) ok.src_lt⟩
    rw [e1, cut1 hn, if_pos (by simp)]
    simp only [List.singleton_append, List.drop_succ_cons, List.drop_zero]
    rw [said_dg ok.src_lt, said_dg ok.n_lt]
    simp only [Prod.mk.injEq]
    omega
  · rename_i hs
    rw [List.nil_append, cut_miss (List.mem_singleton.2 rfl) (digOf (by decide) ok.n_lt), if_neg (by simp), said_dg ok.n_lt]
    simp only [Prod.mk.injEq]
    omega
include nk
theorem cut_head : Lib.cut (atomL l r.head ++ valL l r) [32, 61, 32] = if (predOf l r.head.pred).kind ≠ 0 then (atomL l r.head, srcL r ++ dgL r.n.toNat, true) else (atomL l r.head, [], false) := by
  have ao := aok_of ok.preds ok.head
  have hn : (61 : UInt8) ∉ atomL l r.head := atomL_not' nk ao (by decide) (by decide) (by decide)
  unfold valL
  split
  · exact cut2 hn (by decide)
  · rw [List.append_nil]; exact cut_miss (c := 61) (by simp) hn
theorem hdR_ok : hdR (atomL l r.head ++ valL l r) = (atomL l r.head, some (r.src, r.n)) := by
  unfold hdR
  rw [cut_head nk ok]
  split
  · rw [if_pos rfl, valR_ok ok]
  · rename_i hk
    have := ok.plain (Decidable.not_not.1 hk)
    rw [if_neg (by simp), this.1, this.2]
theorem hdF_ok : hdF (atomL l r.head ++ valL l r) = (atomL l r.head, (r.src, r.n)) := by
  unfold hdF
  rw [cut_head nk ok]
  split
  · rw [if_pos rfl, valF_ok ok]
  · rename_i hk
    have := ok.plain (Decidable.not_not.1 hk)
    rw [if_neg (by simp), this.1, this.2]
    have ht : valL l r = [] := by unfold valL; rw [if_neg hk]
    rw [ht, List.append_nil]
theorem cut_rule : Lib.cut (atomL l r.head ++ (valL l r ++ bodyL l r.body.xs)) [32, 58, 45, 32] = if r.body.xs = [] then (atomL l r.head ++ valL l r, [], false) else (atomL l r.head ++ valL l r, joinT [44, 32] (r.body.xs.map (litL l)), true) := by
  have ao := aok_of ok.preds ok.head
  have hn : (58 : UInt8) ∉ atomL l r.head ++ valL l r := by
    simp only [List.mem_append, not_or]
    exact ⟨atomL_not' nk ao (by decide) (by decide) (by decide), valL_not ok (by decide) (by decide) (by decide) (by decide)⟩
  rw [← List.append_assoc]
  unfold bodyL
  split
  · rw [List.append_nil]; exact cut_miss (c := 58) (by simp) hn
  · exact cut2 hn (by decide)
theorem ruleR_ok : ruleR l (atomL l r.head ++ (valL l r ++ bodyL l r.body.xs)) = some r.er := by
  have ao := aok_of ok.preds ok.head
  have ab := fun x hx => aok_of ok.preds (ok.body x hx)
  unfold ruleR
  rw [cut_rule nk ok]
  by_cases hb : r.body.xs = []
  · rw [if_pos hb]
    simp only [hdR_ok nk ok, atomR_ok nk ao, Bool.false_eq_true, if_false]
    unfold mkR Rul.er
    rw [hb]; rfl
  · rw [if_neg hb]
    simp only [hdR_ok nk ok, atomR_ok nk ao, if_true]
    rw [split_join2 (by decide) (by simpa using hb) fun x hx => ?_, litsR_ok nk ab]
    · rfl
    · obtain ⟨y, hy, rfl⟩ := List.mem_map.1 hx
      exact litL_not nk (ab y hy) (by decide) (by decide) (by decide) (by decide)
theorem ruleF_ok : ruleF l (atomL l r.head ++ (valL l r ++ bodyL l r.body.xs)) = r.er := by
  have ao := aok_of ok.preds ok.head
  have ab := fun x hx => aok_of ok.preds (ok.body x hx)
  unfold ruleF
  rw [cut_rule nk ok]
  by_cases hb : r.body.xs = []
  · rw [if_pos hb]
    simp only [hdF_ok nk ok, atomF_ok nk ao, Bool.false_eq_true, if_false]
    unfold mkR Rul.er
    rw [hb]; rfl
  · rw [if_neg hb]
    simp only [hdF_ok nk ok, atomF_ok nk ao, if_true]
    rw [litsF_ok nk hb ab ?_]
    · rfl
    · have := ok.len
      unfold bodyL
      rw [if_neg hb]
      simp
      omega
theorem ruleL_ok (p : List Rul) : lineR (l, p) (ruleL l r) = some (l, p ++ [r.er]) := by
  unfold lineR ruleL
  rw [suf_app, if_neg (by simp), if_neg (by simp), trimS_app, ruleR_ok nk ok]
  rfl
theorem ruleL_okF (p : List Rul) : lineF (l, p) (ruleL l r) = (l, p ++ [r.er]) := by
  have ao := aok_of ok.preds ok.head
  have hn : (32 : UInt8) ∉ atomL l r.head := atomL_not nk ao (by decide) (by decide) (by decide)
  have hp : isPredF (ruleL l r) = false := by
    unfold isPredF ruleL
    by_cases hk : (predOf l r.head.pred).kind ≠ 0
    · have e : (atomL l r.head ++ (valL l r ++ bodyL l r.body.xs)) ++ [46] = atomL l r.head ++ ([32] ++ (61 :: 32 :: (srcL r ++ (dgL r.n.toNat ++ (bodyL l r.body.xs ++ [46]))))) := by
        unfold valL; rw [if_pos hk]; simp
      rw [e, cut1 hn]; simp
    · have hv : valL l r = [] := by unfold valL; rw [if_neg hk]
      by_cases hb : r.body.xs = []
      · have e : (atomL l r.head ++ (valL l r ++ bodyL l r.body.xs)) ++ [46] = atomL l r.head ++ [46] := by
          unfold bodyL; rw [hv, if_pos hb]; simp
        rw [e, cut_miss (List.mem_singleton.2 rfl) (by simp only [List.mem_append, not_or, List.mem_singleton]; exact ⟨hn, by decide⟩)]
        simp
      · have e : (atomL l r.head ++ (valL l r ++ bodyL l r.body.xs)) ++ [46] = atomL l r.head ++ ([32] ++ (58 :: 45 :: 32 :: (joinT [44, 32] (r.body.xs.map (litL l)) ++ [46]))) := by
          unfold bodyL; rw [hv, if_neg hb]; simp
        rw [e, cut1 hn]; simp
  have ht : (ruleL l r).take ((ruleL l r).length - 1) = atomL l r.head ++ (valL l r ++ bodyL l r.body.xs) := by
    have ha : ∀ X : Bs, (X ++ [46]).take ((X ++ [46]).length - 1) = X := fun X => by simp
    exact ha _
  unfold lineF
  rw [hp, if_neg (by simp), ht, ruleF_ok nk ok]
theorem ruleL_nl : (10 : UInt8) ∉ ruleL l r := by
  have ao := aok_of ok.preds ok.head
  have ab := fun x hx => aok_of ok.preds (ok.body x hx)
  unfold ruleL
  simp only [List.mem_append, not_or, List.mem_singleton]
  refine ⟨⟨atomL_not nk ao (by decide) (by decide) (by decide), valL_not ok (by decide) (by decide) (by decide) (by decide), ?_⟩, by decide⟩
  unfold bodyL
  split
  · simp
  · simp only [List.mem_append, not_or]
    refine ⟨by decide, join_not (by decide) fun x hx => ?_⟩
    obtain ⟨y, hy, rfl⟩ := List.mem_map.1 hx
    exact litL_not nk (ab y hy) (by decide) (by decide) (by decide) (by decide)
end
section
variable {x : Prd} (hx : x ∈ l) (hf : predFine x = true)
include nk hx hf
theorem predR_ok : predR (tx x.name ++ ([32] ++ (dgL x.arity.toNat ++ ([32] ++ dgL x.kind.toNat)))) = some x := by
  unfold predFine at hf
  obtain ⟨a0, a2, d0, d3⟩ := of_decide_eq_true hf
  have e : tx x.name ++ ([32] ++ (dgL x.arity.toNat ++ ([32] ++ dgL x.kind.toNat))) = joinT [32] [tx x.name, dgL x.arity.toNat, dgL x.kind.toNat] := rfl
  unfold predR
  rw [e, split_join1 (by simp) fun y hy => ?_]
  · simp only [num_dg (show x.arity.toNat < 100 by omega), num_dg (show x.kind.toNat < 100 by omega), mk_tx]
    obtain ⟨n, a, k⟩ := x
    simp only [Option.some.injEq, Prd.mk.injEq, true_and]
    simp only at a0 d0
    omega
  · simp only [List.mem_cons, List.not_mem_nil, or_false] at hy
    rcases hy with rfl | rfl | rfl
    · exact nk.not hx (by decide)
    · exact digOf (by decide) (by omega)
    · exact digOf (by decide) (by omega)
theorem predL_no {c : UInt8} (h1 : lowB c = false) (h2 : digB c = false) (h3 : c ≠ 32) : c ∉ predL x := by
  unfold predFine at hf
  obtain ⟨a0, a2, d0, d3⟩ := of_decide_eq_true hf
  unfold predL
  simp only [List.mem_append, not_or, List.mem_singleton]
  refine ⟨?_, nk.not hx h1, h3, digOf h2 (by omega), h3, digOf h2 (by omega)⟩
  unfold predW
  simp only [List.mem_cons, List.not_mem_nil, or_false, not_or]
  refine ⟨?_, ?_, ?_, ?_, h3⟩ <;> (rintro rfl; cases h1)
theorem predL_ok (p : List Prd) : lineR (p, []) (predL x) = some (p ++ [x], []) := by
  unfold lineR
  rw [suf_no (predL_no nk hx hf (by decide) (by decide) (by decide))]
  unfold predL
  rw [pre_app, if_pos ⟨rfl, rfl⟩, trimP_app, predR_ok nk hx hf]
  rfl
theorem predL_okF (p : List Prd) : lineF (p, []) (predL x) = (p ++ [x], []) := by
  have hc : Lib.cut (predL x) [32] = ([112, 114, 101, 100], tx x.name ++ ([32] ++ (dgL x.arity.toNat ++ ([32] ++ dgL x.kind.toNat))), true) := cut1 (a := [112, 114, 101, 100]) (by decide)
  obtain ⟨h1, h2⟩ := nk.name x hx
  have hn : (32 : UInt8) ∉ tx x.name := nk.not hx (by decide)
  unfold predFine at hf
  obtain ⟨a0, a2, d0, d3⟩ := of_decide_eq_true hf
  obtain ⟨c, r, hcr⟩ : ∃ c r, tx x.name = c :: r := by
    cases hh : tx x.name with
    | nil => exact absurd hh h2
    | cons c r => exact ⟨c, r, rfl⟩
  have hcl : lowB c = true := by rw [hcr] at h1; simp only [List.all_cons, Bool.and_eq_true] at h1; exact h1.1
  have hp : isPredF (predL x) = true := by
    unfold isPredF
    rw [hc]
    simp only [hcr]
    have n1 : c ≠ 58 := by rintro rfl; cases hcl
    have n2 : c ≠ 61 := by rintro rfl; cases hcl
    simp [n1, n2]
  unfold lineF
  rw [hp, if_pos rfl, hc]
  simp only
  unfold predF
  rw [cut1 hn]
  simp only
  rw [cut1 (digOf (by decide) (by omega))]
  simp only
  rw [said_dg (by omega), said_dg (by omega), mk_tx]
  obtain ⟨n, a, k⟩ := x
  simp only [Prod.mk.injEq, and_true, List.append_cancel_left_eq, List.cons.injEq, Prd.mk.injEq, true_and]
  simp only at a0 d0
  omega
end
end
/-! ### Lines -/
/-- The lines of a text, as strings.Lines has them. -/
def linesS : Nat → Bs → List Bs
  | 0, _ => []
  | f + 1, s => if s = [] then [] else if 0 ≤ Lib.index s [10] then s.take ((Lib.index s [10]).toNat + 1) :: linesS f (s.drop ((Lib.index s [10]).toNat + 1)) else [s]
theorem linesS_flat : ∀ {l : List Bs} {f : Nat}, (∀ x ∈ l, (10 : UInt8) ∉ x) → l.length ≤ f → linesS f (l.flatMap (· ++ [10])) = l.map (· ++ [10])
  | [], 0, _, _ => rfl
  | [], f + 1, _, _ => by simp [linesS]
  | _ :: _, 0, _, h => by simp at h
  | x :: r, f + 1, h, hl => by
    have hi : Lib.index (x ++ ([10] ++ r.flatMap (· ++ [10]))) [10] = x.length := first_at (k := 0) rfl (h x (by simp)) fun j hj => by omega
    have e : (x :: r).flatMap (· ++ [10]) = x ++ ([10] ++ r.flatMap (· ++ [10])) := by simp [List.flatMap_cons]
    rw [e, linesS, if_neg (by simp), hi, if_pos (by omega)]
    have e1 : (x ++ ([10] ++ r.flatMap (· ++ [10]))).take ((x.length : Int).toNat + 1) = x ++ [10] := by
      rw [Int.toNat_natCast, List.take_append]
      simp [List.take_of_length_le (Nat.le_succ x.length)]
    have e2 : (x ++ ([10] ++ r.flatMap (· ++ [10]))).drop ((x.length : Int).toNat + 1) = r.flatMap (· ++ [10]) := by
      rw [Int.toNat_natCast, List.drop_append]
      simp
    rw [e1, e2, linesS_flat (fun y hy => h y (List.mem_cons_of_mem _ hy)) (by simp at hl; omega)]
    rfl
theorem readF_flat : ∀ {l : List Bs} {f : Nat} {p : St}, (∀ x ∈ l, (10 : UInt8) ∉ x) → l.length ≤ f → readF (f + 1) (l.flatMap (· ++ [10])) p = l.foldl lineF p
  | [], f, p, _, _ => by simp [readF]
  | _ :: _, 0, _, _, h => by simp at h
  | x :: r, f + 1, p, h, hl => by
    have e : (x :: r).flatMap (· ++ [10]) = x ++ ([10] ++ r.flatMap (· ++ [10])) := by simp [List.flatMap_cons]
    rw [e, readF, if_neg (by simp), cut1 (h x (by simp))]
    simp only
    rw [readF_flat (fun y hy => h y (List.mem_cons_of_mem _ hy)) (by simp at hl; omega)]
    rfl
theorem linesT_len : ∀ {l : List Bs}, l.length ≤ (l.flatMap (· ++ [10])).length
  | [] => Nat.le_refl _
  | x :: r => by
    have := linesT_len (l := r)
    simp only [List.flatMap_cons, List.length_append, List.length_cons, List.length_nil]
    omega
/-- All that is read of a text: none: it is broken. -/
def readR (s : Bs) : Option St := readL ((linesS s.length s).map fun l => Lib.trimSuffix l [10]) ([], [])
def readA (s : Bs) : St := readF (s.length + 1) s ([], [])
section
variable {p : Prg} (h : checkProg p = 0)
include h
theorem linesP_nl : ∀ x ∈ linesP p, (10 : UInt8) ∉ x := fun x hx => by
  have nk := nok_of h
  rcases List.mem_append.1 hx with hx | hx
  · obtain ⟨y, hy, rfl⟩ := List.mem_map.1 hx
    exact predL_no nk hy (chk_preds h y hy) (by decide) (by decide) (by decide)
  · obtain ⟨y, hy, rfl⟩ := List.mem_map.1 hx
    exact ruleL_nl nk (chk_rok h y hy)
theorem readL_rules : ∀ {rs : List Rul}, (∀ r ∈ rs, r ∈ p.rules.xs) → ∀ d, readL (rs.map (ruleL p.preds.xs)) (p.preds.xs, d) = some (p.preds.xs, d ++ rs.map Rul.er)
  | [], _, d => by simp [readL]
  | r :: rs, hr, d => by
    simp only [List.map_cons, readL]
    rw [ruleL_ok (nok_of h) (chk_rok h r (hr r (by simp)))]
    simp only
    rw [readL_rules (fun x hx => hr x (List.mem_cons_of_mem _ hx))]
    simp
theorem readL_preds : ∀ {qs : List Prd}, (∀ x ∈ qs, x ∈ p.preds.xs) → ∀ d t, readL (qs.map predL ++ t) (d, []) = readL t (d ++ qs, [])
  | [], _, d, t => by simp
  | x :: qs, hq, d, t => by
    simp only [List.map_cons, List.cons_append, readL]
    rw [predL_ok (nok_of h) (hq x (by simp)) (chk_preds h x (hq x (by simp)))]
    simp only
    rw [readL_preds (fun y hy => hq y (List.mem_cons_of_mem _ hy))]
    simp
theorem readR_ok : readR (progL p) = some (p.preds.xs, p.rules.xs.map Rul.er) := by
  unfold readR progL
  rw [linesS_flat (linesP_nl h) linesT_len, List.map_map]
  have e : (linesP p).map ((fun l => Lib.trimSuffix l [10]) ∘ fun x => x ++ [10]) = linesP p := by
    conv => rhs; rw [← List.map_id (linesP p)]
    refine List.map_congr_left fun x _ => ?_
    simp [trimS_app]
  rw [e]
  unfold linesP
  rw [readL_preds h (fun _ hx => hx), List.nil_append, readL_rules h (fun _ hx => hx), List.nil_append]
theorem foldF_rules : ∀ {rs : List Rul}, (∀ r ∈ rs, r ∈ p.rules.xs) → ∀ d, (rs.map (ruleL p.preds.xs)).foldl lineF (p.preds.xs, d) = (p.preds.xs, d ++ rs.map Rul.er)
  | [], _, d => by simp
  | r :: rs, hr, d => by
    simp only [List.map_cons, List.foldl_cons]
    rw [ruleL_okF (nok_of h) (chk_rok h r (hr r (by simp))), foldF_rules (fun x hx => hr x (List.mem_cons_of_mem _ hx))]
    simp
theorem foldF_preds : ∀ {qs : List Prd}, (∀ x ∈ qs, x ∈ p.preds.xs) → ∀ d, (qs.map predL).foldl lineF (d, []) = (d ++ qs, [])
  | [], _, d => by simp
  | x :: qs, hq, d => by
    simp only [List.map_cons, List.foldl_cons]
    rw [predL_okF (nok_of h) (hq x (by simp)) (chk_preds h x (hq x (by simp))), foldF_preds (fun y hy => hq y (List.mem_cons_of_mem _ hy))]
    simp
theorem readA_ok : readA (progL p) = (p.preds.xs, p.rules.xs.map Rul.er) := by
  unfold readA progL
  rw [readF_flat (linesP_nl h) linesT_len]
  unfold linesP
  rw [List.foldl_append, foldF_preds h (fun _ hx => hx), List.nil_append, foldF_rules h (fun _ hx => hx), List.nil_append]
end
end Go.TF
end
section
/- Calls of the library on texts, as contracts. -/
namespace Go.TF
open Go Go.RowKit Go.Proofs Go.Shelf
set_option maxRecDepth 20000

/-- What the package's variables hold. -/
structure Vars (h : Heap) : Prop where
  len : ∃ m, h.cell 0 0 = some (.int .i64 m)
  syn : ∃ te pe, h.cell 2 0 = some (.iface te pe)
  rng : ∃ te pe, h.cell 3 0 = some (.iface te pe)
  tab : ∃ T f, h 1 = some (.cells (Lib.pow10Tab.map fun z => Value.int .u64 z).toArray T f)
theorem Vars.le {h h' : Heap} (V : Vars h) (hl : h.le h') : Vars h' :=
  ⟨V.len.imp fun _ e => hl.cell e, V.syn.imp fun _ ⟨b, e⟩ => ⟨b, hl.cell e⟩, V.rng.imp fun _ ⟨b, e⟩ => ⟨b, hl.cell e⟩, V.tab.imp fun _ ⟨f, e⟩ => ⟨f, hl _ _ e⟩⟩
abbrev mk (l : Bs) : ByteArray := ⟨l.toArray⟩
@[reducible] def sEn (s : ByteArray) : List Value := [.string s]
abbrev Strs (l : Sl ByteArray) (h : Heap) : Prop := l.Is 1 sEn h
theorem Ext.of {B : Base} (hB : B.ok) {w : World} (g : Grow B.w w) : Ext B w B.h := (Inv.start hB).grow g
theorem Grow.drewN (w : World) (n : Nat) : Grow w (w.drewN n) := ⟨rfl, rfl, rfl, Nat.le_refl _, fun _ _ => rfl⟩
theorem Grow.bytesW (w : World) (e : TypeId) (s : ByteArray) : Grow w (Lib.bytesWorld w e s) := ⟨rfl, rfl, rfl, by rw [Lib.bytesWorld_size]; omega, fun j hj => Lib.bytesWorld_at_old w e s j hj⟩
theorem cell_ok {B : Base} (hB : B.ok) {b o : Nat} {v : Value} (h : B.h.cell b o = some v) : B.w.cell? ⟨b, o, none⟩ = some v := (Inv.start hB).cell h
theorem dec_dg : ∀ n : Fin 100, Lib.decDigits n.val = dgL n.val := by decide +kernel
theorem join_inter (sep : Bs) : ∀ l : List Bs, Lib.join l sep = joinT sep l
  | [] => by simp [Lib.join, joinT, List.intercalate]
  | [x] => by simp [Lib.join, joinT, List.intercalate]
  | x :: y :: r => by
    have ih := join_inter sep (y :: r)
    unfold Lib.join List.intercalate at ih ⊢
    rw [joinT, ← ih]
    simp [List.intersperse]
section
variable (B : Base) (hB : B.ok)
include hB
theorem CutPre_ok (s p : ByteArray) : Fn Tryz.prog 69 [.string s, .string p] B (fun v _ => v = .tuple #[.string (mk (Lib.trimPrefix (tx s) (tx p))), .bool (Lib.hasPrefix (tx s) (tx p))]) :=
  (Tryz.strings_CutPrefix s p B.w).mono (by rintro x w ⟨rfl, rfl⟩; exact ⟨_, _, rfl, Ext.of hB (Grow.refl _), rfl⟩)
theorem CutSuf_ok (s p : ByteArray) (hs : s.size ≤ 140737488355328) : Fn Tryz.prog 72 [.string s, .string p] B (fun v _ => v = .tuple #[.string (mk (Lib.trimSuffix (tx s) (tx p))), .bool (Lib.hasSuffix (tx s) (tx p))]) :=
  (Tryz.strings_CutSuffix s p B.w (by omega)).mono (by rintro x w ⟨rfl, rfl⟩; exact ⟨_, _, rfl, Ext.of hB (Grow.refl _), rfl⟩)
theorem HasSuf_ok (s p : ByteArray) (hs : s.size ≤ 140737488355328) : Fn Tryz.prog 38 [.string s, .string p] B (fun v _ => v = .bool (Lib.hasSuffix (tx s) (tx p))) :=
  (Tryz.strings_HasSuffix s p B.w (by omega)).mono (by rintro x w ⟨rfl, rfl⟩; exact ⟨_, _, rfl, Ext.of hB (Grow.refl _), rfl⟩)
theorem TrimSuf_ok (s p : ByteArray) (hs : s.size ≤ 140737488355328) : Fn Tryz.prog 31 [.string s, .string p] B (fun v _ => v = .string (mk (Lib.trimSuffix (tx s) (tx p)))) :=
  (Tryz.strings_TrimSuffix s p B.w (by omega)).mono (by rintro x w ⟨rfl, rfl⟩; exact ⟨_, _, rfl, Ext.of hB (Grow.refl _), rfl⟩)
theorem Cut_ok (V : Vars B.h) (s p : ByteArray) (hs : s.size < 4294967281) : Fn Tryz.prog 73 [.string s, .string p] B (fun v _ => v = .tuple #[.string (mk (Lib.cut (tx s) (tx p)).1), .string (mk (Lib.cut (tx s) (tx p)).2.1), .bool (Lib.cut (tx s) (tx p)).2.2]) := by
  obtain ⟨m, hm⟩ := V.len
  exact (Tryz.strings_Cut s p m B.w hs (cell_ok hB hm)).mono (by rintro x w ⟨rfl, n, rfl⟩; exact ⟨_, _, rfl, Ext.of hB (Grow.drewN _ n), rfl⟩)
theorem Index_ok (V : Vars B.h) (s p : ByteArray) (hs : s.size < 4294967281) : Fn Tryz.prog 86 [.string s, .string p] B (fun v _ => v = .int .i64 (Lib.index (tx s) (tx p))) := by
  obtain ⟨m, hm⟩ := V.len
  exact (Tryz.strings_Index s p m B.w hs (cell_ok hB hm)).mono (by rintro x w ⟨rfl, rfl⟩; exact ⟨_, _, rfl, Ext.of hB (Grow.refl _), rfl⟩)
theorem Split_ok (V : Vars B.h) (s p : ByteArray) (hs : s.size < 4294967281) (hp : 1 ≤ p.size) : Fn Tryz.prog 70 [.string s, .string p] B (fun v h => ∃ l : Sl ByteArray, v = l.val ∧ Strs l h ∧ l.xs.map tx = Lib.split (tx s) (tx p)) := by
  obtain ⟨m, hm⟩ := V.len
  refine (Tryz.strings_Split s p m B.w hs (cell_ok hB hm) hp).mono ?_
  rintro x w ⟨rfl, rfl⟩
  have hlen := Lib.splitB_all p hp 0 _ s rfl
  have hle := Lib.countB_le p hp s.size s (Nat.le_refl _)
  obtain ⟨l, hl⟩ : ∃ l, l = Lib.splitB p 0 (Lib.countB s p) s := ⟨_, rfl⟩
  rw [← hl] at hlen ⊢
  obtain ⟨h', gl, he, I⟩ := ((Inv.start hB).alloc (l.map Value.string) 9).settle
  have hb := he B.w.heap.size (by simp [box])
  rw [World.alloc_heap_new] at hb
  refine ⟨_, h', rfl, I, ⟨some ⟨B.w.heap.size, 0, none⟩, Lib.countB s p + 1, l⟩, by rw [Sl.val, hlen], ⟨fun i y hy => ⟨rfl, fun j v hj => ?_⟩, by dsimp only; omega⟩, ?_⟩
  · have : j = 0 ∧ v = .string y := by
      cases j with
      | zero => simpa [sEn] using hj.symm
      | succ j => simp [sEn] at hj
    obtain ⟨rfl, rfl⟩ := this
    unfold Heap.cell
    simp only [Sl.blk, Sl.off, Option.getD_some, hb]
    simpa using hy
  · dsimp only
    rw [hl, Lib.splitB_data]; rfl
theorem IdxByte_ok (s : ByteArray) (c : Int) : Fn Tryz.prog 68 [.string s, .int .u8 c] B (fun v _ => v = .int .i64 (Lib.indexByte (tx s) c.toNat.toUInt8)) :=
  (Tryz.strings_IndexByte s c B.w).mono (by rintro x w ⟨rfl, rfl⟩; exact ⟨_, _, rfl, Ext.of hB (Grow.refl _), rfl⟩)
theorem Itoa_ok (n : Nat) (hn : n < 100) : Fn Tryz.prog 24 [.int .i64 n] B (fun v _ => v = .string (mk (dgL n))) := by
  have := dec_dg ⟨n, hn⟩
  simp only at this
  rw [← this]
  exact (Tryz.strconv_Itoa_small n hn B.w).mono (by rintro x w ⟨rfl, rfl⟩; exact ⟨_, _, rfl, Ext.of hB (Grow.refl _), rfl⟩)
/-- strconv.Atoi: a number, and no error; or an error. -/
theorem Atoi_ok (V : Vars B.h) (s : ByteArray) (hs : s.size ≤ 140737488355328) : Fn Tryz.prog 127 [.string s] B (fun v _ => (∃ n, numR (tx s) = some n ∧ v = .tuple #[.int .i64 n, .nilIface]) ∨ (numR (tx s) = none ∧ ∃ n te pe, v = .tuple #[.int .i64 n, .iface te pe])) := by
  obtain ⟨t1, p1, h1⟩ := V.syn
  obtain ⟨t2, p2, h2⟩ := V.rng
  obtain ⟨ee, hee⟩ : ∃ ee, Lib.atoiAll (tx s) = ee := ⟨_, rfl⟩
  rcases ee with v | _ | _
  · have he := hee
    refine (Tryz.strconv_Atoi_ok s (by omega) v he B.w).mono ?_
    rintro x w ⟨rfl, hw⟩
    refine ⟨_, _, rfl, Ext.of hB ?_, .inl ⟨v, by unfold numR; rw [he], rfl⟩⟩
    rcases hw with rfl | ⟨t, rfl⟩
    · exact Grow.refl _
    · exact Grow.bytesW _ _ _
  · have he := hee
    refine (Any.strconv_Atoi_syntax Tryz.laysC172 s (by omega) he _ B.w (cell_ok hB h1) (.inr ⟨_, _, rfl⟩)).mono ?_
    rintro x w ⟨N, rfl, _, _, hw⟩
    exact ⟨_, _, rfl, Ext.of hB hw, .inr ⟨by unfold numR; rw [he], _, _, _, rfl⟩⟩
  · have he := hee
    refine (Tryz.strconv_Atoi_range s (by omega) he _ B.w (cell_ok hB h2) (.inr ⟨_, _, rfl⟩)).mono ?_
    rintro x w ⟨N, rfl, _, _, hw⟩
    exact ⟨_, _, rfl, Ext.of hB hw, .inr ⟨by unfold numR; rw [he], _, _, _, rfl⟩⟩
theorem SJoin_ok (l : Sl ByteArray) (hl : Strs l B.h) (hc : l.xs.length ≤ l.cap) (p : ByteArray) (hlen : (joinT (tx p) (l.xs.map tx)).length ≤ 140737488355328) : Fn Tryz.prog 26 [l.val, .string p] B (fun v _ => v = .string (mk (joinT (tx p) (l.xs.map tx)))) := by
  cases hx : l.xs with
  | nil =>
    have := Tryz.strings_Join_none l.at_ l.cap p B.w
    unfold Sl.val
    rw [hx]
    exact this.mono (by rintro x w ⟨rfl, rfl⟩; exact ⟨_, _, rfl, Ext.of hB (Grow.refl _), rfl⟩)
  | cons y r =>
    obtain ⟨ha, hr⟩ := hl.el 0 y (by rw [hx]; rfl)
    have hcell : ∀ j x, l.xs[j]? = some x → B.w.cell? ⟨l.blk, l.off + j, none⟩ = some (.string x) := fun j x hj => by
      have := (hl.el j x hj).2 0 (.string x) rfl
      exact cell_ok hB (by simpa using this)
    have hblk : l.blk < B.w.heap.size := World.block_lt_of_cell? B.w ⟨l.blk, l.off + 0, none⟩ (hcell 0 y (by rw [hx]; rfl))
    have := Tryz.strings_Join l.blk l.off l.cap l.xs p B.w hcell hblk hl.small hc (by rw [join_inter]; exact hlen)
    rw [join_inter] at this
    unfold Sl.val
    rw [ha, ← hx]
    exact this.mono (by rintro x w ⟨rfl, hw⟩; exact ⟨_, _, rfl, Ext.of hB hw, rfl⟩)
end
end Go.TF
end
section
/- A region in which a literal is made and appended to what the call owns, while what is loaded may be loaded ahead or behind. -/
namespace Go.TF
open Go Go.RowKit

structure ApS where
  h : Heap
  o7 : Option (Nat × Nat)
def pcA (T k n m : Nat) (v : Value) (xs x : List Value) (o7 : Option (Nat × Nat)) : SA := match o7 with
  | none => ownSl T k v n xs
  | some y => ownSl T k (.slice (some ⟨y.1, 0, none⟩) (n + m) y.2) (n + m) (xs ++ x)
structure JAp (B : Base) (M : List SA) (T k n m : Nat) (v : Value) (xs x : List Value) (i7 : Nat) (D : Nat → Bool) (s : ApS) (w : World) : Prop where
  h7 : s.o7.isSome = D i7
  inv : Inv B s.h (pcA T k n m v xs x s.o7 :: M) w
structure RAp (s s' : ApS) : Prop where
  h : s.h.le s'.h
  h7 : ∀ y, s.o7 = some y → s'.o7 = some y
theorem RAp.pre : Pre RAp := ⟨fun _ => ⟨Heap.le.refl _, fun _ h => h⟩, fun _ _ _ h k => ⟨h.h.trans k.h, fun y e => k.h7 y (h.h7 y e)⟩⟩
def AtAp (N : Nat) (u : Value) (s : ApS) : Prop := ∃ g c, u = .slice (some ⟨g, 0, none⟩) N c ∧ s.o7 = some (g, c)
theorem AtAp.mono {N : Nat} : MonoG RAp (AtAp N) := fun _ _ _ r ⟨g, c, h1, h2⟩ => ⟨g, c, h1, r.h7 _ h2⟩
def KnA (Φ : Sp) (u : Value) (s : ApS) : Prop := Φ u s.h
theorem KnA.mono {Φ : Sp} (hm : MonoS Φ) : MonoG RAp (KnA Φ) := fun _ _ _ r h => hm _ _ _ r.h h
section
variable {P : Program} {o : Oper} {e : Env} {B : Base} {M : List SA} {T k n m : Nat} {v : Value} {xs x : List Value} {i7 i : Nat} {D : Nat → Bool} {s : ApS} {w : World}
theorem JAp.base (j : JAp B M T k n m v xs x i7 D s w) : Inv B s.h M w := j.inv.drop
theorem JAp.set (h : i7 ≠ i) : ∀ D s w, JAp B M T k n m v xs x i7 D s w → JAp B M T k n m v xs x i7 (setD D i) s w := fun D s w j => ⟨by rw [show setD D i i7 = D i7 by simp [setD, h]]; exact j.h7, j.inv⟩
/-- What makes known more, and turns nothing. -/
theorem JAp.know {Φ : Sp} (j : JAp B M T k n m v xs x i7 D s w) (h : i7 ≠ i) (hop : ∀ N, Inv B s.h N w → Op1 P o e w fun u w' => ∃ h', s.h.le h' ∧ Inv B h' N w' ∧ Φ u h') :
    Op1 P o e w fun u w' => ∃ s', RAp s s' ∧ JAp B M T k n m v xs x i7 (setD D i) s' w' ∧ KnA Φ u s' :=
  (hop _ j.inv).mono fun u w' ⟨h', hl, I, hu⟩ => ⟨⟨h', s.o7⟩, ⟨hl, fun _ e => e⟩, ⟨by rw [show setD D i i7 = D i7 by simp [setD, h]]; exact j.h7, I⟩, hu⟩
theorem JAp.app (j : JAp B M T k n m v xs x i7 D s w) (hD : D i7 = false) (hop : Inv B s.h (ownSl T k v n xs :: M) w → Op1 P o e w fun u w' => ∃ g c, u = .slice (some ⟨g, 0, none⟩) (n + m) c ∧ Inv B s.h (ownSl T k (.slice (some ⟨g, 0, none⟩) (n + m) c) (n + m) (xs ++ x) :: M) w') :
    Op1 P o e w fun u w' => ∃ s', RAp s s' ∧ JAp B M T k n m v xs x i7 (setD D i7) s' w' ∧ AtAp (n + m) u s' := by
  have h7 : s.o7 = none := by have := j.h7; rw [hD] at this; cases h : s.o7 <;> simp_all
  have I := j.inv
  rw [h7] at I
  exact (hop I).mono fun u w' ⟨g, c, e, I⟩ => ⟨⟨s.h, some (g, c)⟩, ⟨Heap.le.refl _, fun y e => (by rw [h7] at e; cases e)⟩, ⟨by simp [setD], I⟩, g, c, e, rfl⟩
end
def EqV (v0 : Value) : Sp := fun v _ => v = v0
theorem EqV.mono {v0 : Value} : MonoS (EqV v0) := fun _ _ _ _ h => h
abbrev KnAp (Φ : Sp) := KnA Φ
theorem KnAp.mono {Φ : Sp} (hm : MonoS Φ) : MonoG RAp (KnAp Φ) := KnA.mono hm
end Go.TF
end
section
/- A few more operations: an error held against nil, a number as text, a panic. -/
namespace Go.TF
open Go Go.RowKit

section
variable {P : Program} {e : Env} {w : World} {t : TypeId} {pos : String} {af : Array Edge} {g : Option (Nat × Bool)} {d : Option Nat}
theorem Y.eqnilT {x : Operand} {T T' : TypeId} (hT : P.underlying T = some (.interface (P.methodsAt T))) (hx : ev e x = .nilIface) : Y P ⟨d, .binOp .eql T x (.const .nilIface) T', t, pos, af, g⟩ e w (.bool true) := by
  have hy : ev e (.const .nilIface) = .nilIface := rfl
  simp only [Y, execOp, hx, hy, eqGuard_nil_constR]
  simp [run_eql_nil_nil w T hT]
theorem Y.eqnilF {x : Operand} {T T' te : TypeId} {pe : Value} (hT : P.underlying T = some (.interface (P.methodsAt T))) (hx : ev e x = .iface te pe) : Y P ⟨d, .binOp .eql T x (.const .nilIface) T', t, pos, af, g⟩ e w (.bool false) := by
  have hy : ev e (.const .nilIface) = .nilIface := rfl
  simp [Y, execOp, hx, hy, eqGuard, run_eql_held_nil w T te pe hT]
/-- A small number as a text of one byte. -/
theorem Y.runes {x : Operand} {S T : TypeId} {k : IntKind} {n : Nat} (hS : (P.underlying S).isSome = true) (hT : Und P T .string) (hx : ev e x = .int k (n : Int)) (hn : n < 128) : Y P ⟨d, .convert S T x, t, pos, af, g⟩ e w (.string ⟨#[UInt8.ofNat n]⟩) := by
  have h1 : Utf8.encode (n : Int) = ⟨#[UInt8.ofNat n]⟩ := by
    have hv : Utf8.valid (n : Int) = true := by simp [Utf8.valid]; omega
    unfold Utf8.encode
    rw [hv]
    simp [hn]
  simp [Y, execOp, hx, run_convert_int_string w S T k n hS hT, h1]
theorem O.panic {X : PX} {x : Operand} {T : TypeId} {v : Value} {K : Value → World → Prop} (hx : ev e x = .iface T v) (k : X [{ v := .iface T v, recovered := false }] w) : Op1P P X ⟨d, .panic x, t, pos, af, g⟩ e w K := by
  have : (execOp (ev e) ⟨d, .panic x, t, pos, af, g⟩).run P w = .halt (.panic (.iface T v)) w := by
    simp [execOp, hx, Instr.panic]
  unfold Op1P
  rw [this]
  exact k
end
theorem i32_of {n : Int} (h0 : 0 ≤ n) (h1 : n < 2147483648) : IntKind.i32.wrap n = n := by
  have h64 : IntKind.i32.bits = 32 := rfl
  have hs : IntKind.i32.signed = true := rfl
  unfold IntKind.wrap
  simp only [h64, hs, Bool.true_and, Nat.add_one_sub_one]
  simp only [show (2 ^ 32 : Int) = 4294967296 from rfl, show (2 ^ (32 - 1) : Int) = 2147483648 from rfl, ge_iff_le, decide_eq_true_eq]
  split <;> omega
theorem JAp.knowP {P : Program} {X : PX} {o : Oper} {e : Env} {B : Base} {M : List SA} {T k n m : Nat} {v : Value} {xs x : List Value} {i7 i : Nat} {D : Nat → Bool} {s : ApS} {w : World} {Φ : Sp} (j : JAp B M T k n m v xs x i7 D s w) (h : i7 ≠ i) (hop : ∀ N, N = pcA T k n m v xs x s.o7 :: M → Inv B s.h N w → Op1P P X o e w fun u w' => ∃ h', s.h.le h' ∧ Inv B h' N w' ∧ Φ u h') :
    Op1P P X o e w fun u w' => ∃ s', RAp s s' ∧ JAp B M T k n m v xs x i7 (setD D i) s' w' ∧ KnA Φ u s' :=
  (hop _ rfl j.inv).mono fun u w' ⟨h', hl, I, hu⟩ => ⟨⟨h', s.o7⟩, ⟨hl, fun _ e => e⟩, ⟨by rw [show setD D i i7 = D i7 by simp [setD, h]]; exact j.h7, I⟩, hu⟩
/-- A call that may panic; what the panic tells is for the caller to say. -/
theorem O.callpX {P : Program} {X : PX} {e : Env} {w : World} {B : Base} {h : Heap} {M : List SA} {t : TypeId} {pos : String} {af : Array Edge} {g : Option (Nat × Bool)} {C : List PanicEntry} {d : Option Nat} {f : FuncId} {args : Array Operand} {ts : Array TypeId} {vs : List Value} {Pan : Prop} {Post : Value → Heap → Prop} {K : Value → World → Prop} (I : Inv B h M w) (hf : Enters P f) (hfn : FnP P f vs ⟨w, h⟩ C Pan Post)
    (ha : args.toList.map (ev e) = vs) (kx : ∀ w', Grow w w' → Pan → X C w') (k : ∀ v h' w', Inv B h' M w' → h.le h' → Post v h' → K v w') : Op1P P X ⟨d, .call { callee := .value (.func f), args := args, argTypes := ts }, t, pos, af, g⟩ e w K := by
  have ha' : args.map (ev e) = vs.toArray := by rw [← ha]; apply Array.ext'; simp
  have : (execOp (ev e) ⟨d, .call { callee := .value (.func f), args := args, argTypes := ts }, t, pos, af, g⟩).run P w = .ok (.enter f vs.toArray) w := by
    simp [execOp, resolve, ev, Deferred.ofValue, invoke, ha', hf]
  unfold Op1P
  rw [this]
  refine Calls.mono hfn ?_
  rintro x w' (⟨v, h', rfl, X, hp⟩ | ⟨ch, rfl, rfl, h2, h3⟩)
  · exact k v h' w' (I.called X) X.ext hp
  · exact kx w' h2 h3
/-- A call of a function that turns what the caller owns, or panics. -/
theorem O.callsP {P : Program} {X : PX} {e : Env} {w : World} {t : TypeId} {pos : String} {af : Array Edge} {g : Option (Nat × Bool)} {d : Option Nat} {K : Value → World → Prop} {f : FuncId} {args : Array Operand} {ts : Array TypeId} {vs : List Value} {R : Ending → World → Prop} (hf : Enters P f) (hc : Calls P f vs.toArray w R)
    (ha : args.toList.map (ev e) = vs) (k : ∀ ed w', R ed w' → (∃ v, ed = .returned v ∧ K v w') ∨ ∃ ch, ed = .panicked ch ∧ X ch w') : Op1P P X ⟨d, .call { callee := .value (.func f), args := args, argTypes := ts }, t, pos, af, g⟩ e w K := by
  have ha' : args.map (ev e) = vs.toArray := by rw [← ha]; apply Array.ext'; simp
  have : (execOp (ev e) ⟨d, .call { callee := .value (.func f), args := args, argTypes := ts }, t, pos, af, g⟩).run P w = .ok (.enter f vs.toArray) w := by
    simp [execOp, resolve, ev, Deferred.ofValue, invoke, ha', hf]
  unfold Op1P
  rw [this]
  refine Calls.mono hc ?_
  rintro ed w' h
  rcases k ed w' h with ⟨v, rfl, hk⟩ | ⟨ch, rfl, hk⟩
  · exact hk
  · exact hk
/-- What a function owes at its end that turns what the caller owns, or panics. -/
def callQP (P : Program) (fn : Func) (R : Ending → World → Prop) : Exit → Env → World → Prop
  | .ret, e, w | .normal, e, w => ∃ vs, RV P e w fn.results.toList vs ∧ R (.returned (tup vs)) w
  | .panic ch, _, w => R (.panicked ch) w
  | _, _, _ => False
theorem Calls.ofWPP {P : Program} {f : FuncId} {fn : Func} {c : Code} {N : Nat} {args : List Value} {w : World} {R : Ending → World → Prop} (hf : P.funcs[f]? = some fn) (hb : fn.body = some c) (hN : fn.ntmps = N) (hs : slotsOk N c = true)
    (hl : args.length ≤ N) (h : ∀ e, WP P N [] c (E e (argsE 0 args)) w (callQP P fn R)) : Calls P f args.toArray w R := by
  refine calls_of_wp hf hb ?_
  subst hN
  refine wp_mono (h _ hs { tmps := args.toArray ++ Array.replicate (fn.ntmps - args.toArray.size) undef, defers := [] } (by simp; omega) rfl (E_self (has_args args 0 fun j v hv => ?_)).symm) ?_
  · have hj := (List.getElem?_eq_some_iff.1 hv).1
    have hg : args[j] = v := (List.getElem?_eq_some_iff.1 hv).2
    simp [env, Array.getD_eq_getD_getElem?, Array.getElem?_append, hj, hg]
  · rintro x a' w' ⟨_, g2, g3⟩
    cases x <;> simp only [callQP] at g3 <;> first | exact g3.elim | skip
    · obtain ⟨vs, hv, hr⟩ := g3
      exact ⟨g2, _, results_run rfl hv, hr⟩
    · obtain ⟨vs, hv, hr⟩ := g3
      exact ⟨g2, _, results_run rfl hv, hr⟩
    · exact ⟨g2, g3⟩
/-- What was made behind h1 stays known where a slice that was known in h1 is written again. -/
theorem OwnH.keep {α β : Type} {el k el2 k2 : Nat} {s : Sl α} {u : Sl β} {enc : α → List Value} {enc2 : β → List Value} {h0 h1 h h' : Heap} (o : OwnH el k s enc h1 h) (ou : OwnH el2 k2 u enc2 h0 h1) (kp : ∀ b x, h b = some x → h' b = some x ∨ u.at_ = some ⟨b, 0, none⟩) : OwnH el k s enc h1 h' := by
  rcases o with o | ⟨g, cur, q1, q2, q3, q4⟩
  · exact .inl o
  · refine .inr ⟨g, cur, q1, q2, ?_, q4⟩
    rcases kp g _ q3 with h3 | h3
    · exact h3
    · exfalso
      rcases ou with rfl | ⟨g2, cur2, r1, _, r3, _⟩
      · simp at h3
      · rw [r1] at h3
        injection h3 with h3
        injection h3 with h3
        subst h3
        rw [r3] at q2; cases q2
/-- A slice of the call's own is as long as its room at most. -/
theorem ownSl_cap {w : World} {T k n c : Nat} {a : Option Addr} {xs : List Value} (h : w.ownsRow 0 T k (.slice a n c) n xs) : n ≤ c := by
  rcases h.2 with ⟨h1, h2⟩ | ⟨g, cap, cur, hv, _, _, hnc, _⟩
  · omega
  · injection hv with _ _ h3; omega
end Go.TF
end
section
/- slices.IndexFunc, ContainsFunc at this program's types, at a predicate that keeps nothing. -/
namespace Go.TF
open Go Go.RowKit Go.Proofs
set_option maxRecDepth 10000

/-- A function value that answers p at each element, whatever the world, and keeps nothing. -/
def PredFn {α : Type} (P : Program) (f : FuncId) (fs cs : List Value) (h : Heap) (val : α → Value) (xs : List α) (p : α → Bool) : Prop :=
  ∀ B' : Base, B'.ok → h.le B'.h → ∀ x ∈ xs, Fn P f (fs ++ [val x] ++ cs) B' (fun v _ => v = .bool (p x))
def idxOf {α : Type} (p : α → Bool) (xs : List α) : Int := match xs.findIdx? p with | some i => (i : Int) | none => -1
theorem idxOf_none {α : Type} {p : α → Bool} {xs : List α} (h : ∀ x ∈ xs, p x = false) : idxOf p xs = -1 := by
  have : xs.findIdx? p = none := by rw [List.findIdx?_eq_none_iff]; intro x hx; simpa using h x hx
  simp [idxOf, this]
theorem idxOf_some {α : Type} {p : α → Bool} {xs : List α} {k : Nat} (hk : k < xs.length) (h : ∀ j (hj : j < k), p (xs[j]'(by omega)) = false) (hp : p xs[k] = true) : idxOf p xs = k := by
  have : xs.findIdx? p = some k := by
    rw [List.findIdx?_eq_some_iff_getElem]
    exact ⟨hk, hp, fun j hj => by simp [h j hj]⟩
  simp [idxOf, this]
theorem idxOf_any {α : Type} (p : α → Bool) (xs : List α) : decide (0 ≤ idxOf p xs) = xs.any p := by
  unfold idxOf
  cases h : xs.findIdx? p with
  | none =>
    rw [List.findIdx?_eq_none_iff] at h
    have : xs.any p = false := by rw [List.any_eq_false]; intro x hx; simp [h x hx]
    simp [this]
  | some i =>
    rw [List.findIdx?_eq_some_iff_getElem] at h
    obtain ⟨hi, hp, _⟩ := h
    have : xs.any p = true := List.any_eq_true.2 ⟨_, List.getElem_mem hi, hp⟩
    simp [this]
theorem IndexFuncTrm_ok (B : Base) (hB : B.ok) (l : Sl Trm) (hl : l.Is 2 Trm.enc B.h) (f : FuncId) (ent : Enters Tryz.prog f) (fs cs : List Value) (p : Trm → Bool) (hp : PredFn Tryz.prog f fs cs B.h Trm.val l.xs p) :
    Fn Tryz.prog 226 [l.val, .func (.func f) fs.toArray cs.toArray] B (fun v _ => v = .int .i64 (idxOf p l.xs)) := by
  refine Fn.of Tryz.func226 rfl Tryz.ntmps226 (by kernel_rfl) (by simp) ?_
  intro e
  have I := Inv.start hB
  refine WP.seq ?_
  refine WP.region ?_
  refine Ops.y (v := .int .i64 _) (Y.assign rfl) ?_
  refine Ops.nil ?_
  refine WP.seq ?_
  refine WP.seq ?_
  refine WP.region ?_
  refine Ops.y (v := .slice _ _ _) (Y.move rfl) ?_
  refine Ops.y (v := .int .i64 _) (Y.lens Tryz.underlying59 rfl) ?_
  refine Ops.y (v := .int .i64 _) (Y.move rfl) ?_
  refine Ops.nil ?_
  refine WP.block ?_
  refine WP.loopE (σ := Nat) (fun k => [(0, l.val), (1, .func (.func f) fs.toArray cs.toArray), (7, .int .i64 l.xs.length), (8, .int .i64 k)]) (fun k w => Inv B B.h [] w ∧ k ≤ l.xs.length ∧ ∀ j (hj : j < k) (hj' : j < l.xs.length), p l.xs[j] = false) (fun k => l.xs.length - k)
    ⟨0, ⟨rfl, rfl, rfl, rfl, trivial⟩, I, Nat.zero_le _, fun j hj => (by omega)⟩ ?_
  rintro k e w ⟨I, hk, hn⟩
  have hsm := hl.small
  refine WP.seq ?_
  refine WP.region ?_
  refine Ops.y (v := .bool (decide _)) (Y.lti rfl rfl) ?_
  refine Ops.nil ?_
  refine WP.seq ?_
  refine WP.cond_dec rfl (fun h => ?_) (fun h => ?_)
  · have hk' : k < l.xs.length := by omega
    have E1 := hl.at hk'
    refine WP.skip ?_
    refine WP.seq ?_
    refine WP.block ?_
    refine WP.seq ?_
    refine WP.region ?_
    refine Ops.y (v := .int .i64 _) (Y.move rfl) ?_
    refine Ops.y (v := .int .i64 _) (Y.assign rfl) ?_
    refine Ops.nil ?_
    refine WP.seq ?_
    refine WP.region ?_
    refine Ops.y (v := .func _ _ _) (Y.move rfl) ?_
    refine Ops.y (v := .slice _ _ _) (Y.move rfl) ?_
    refine Ops.y (v := .int .i64 _) (Y.move rfl) ?_
    refine Ops.y (v := .pointer (some ⟨_, _, none⟩)) (Y.idxEl E1 Tryz.underlying59 Tryz.sizeOf109 rfl rfl (Int.natCast_nonneg _) rfl) ?_
    refine Ops.y (v := .agg #[_, _]) (Y.loadv ty_109 rfl (I.rd (E1.rd.part 0 2)) rfl rfl) ?_
    refine Ops.go (O.callcv I ent rfl (hp ⟨w, B.h⟩ I.base_ok (Heap.le.refl _) l.xs[k] (List.getElem_mem hk')) rfl ?_)
    intro w I
    refine Ops.nil ?_
    refine WP.cond rfl (fun hb => ?_) (fun hb => ?_)
    · refine WP.seq ?_
      refine WP.region ?_
      refine Ops.y (v := .int .i64 _) (Y.move rfl) ?_
      refine Ops.y (v := .int .i64 _) (Y.assign rfl) ?_
      refine Ops.nil ?_
      refine WP.ret ?_
      repeat (first | refine thenE_ret ?_ | refine blockE_ret ?_)
      exact retQ.mk (vs := [.int .i64 _]) rfl ⟨rfl, trivial⟩ I.ext_of (by simp only [tup]; rw [idxOf_some hk' (fun j hj => hn j hj (by omega)) hb])
    refine WP.skip ?_
    refine WP.region ?_
    refine Ops.y (v := .int .i64 _) (Y.addi rfl rfl ⟨by omega, by omega⟩) ?_
    refine Ops.y (v := .int .i64 _) (Y.move rfl) ?_
    refine Ops.nil ?_
    exact ⟨k + 1, ⟨⟨rfl, rfl, rfl, rfl, trivial⟩, I, by omega, fun j hj hj' => by
      rcases Nat.lt_succ_iff_lt_or_eq.1 hj with h' | h'
      · exact hn j h' hj'
      · subst h'; exact hb⟩, by omega⟩
  refine WP.exit ?_
  refine WP.seq ?_
  refine WP.region ?_
  refine Ops.y (v := .int .i64 _) (Y.assign rfl) ?_
  refine Ops.nil ?_
  refine WP.ret ?_
  repeat (first | refine thenE_ret ?_ | refine blockE_ret ?_)
  exact retQ.mk (vs := [.int .i64 _]) rfl ⟨rfl, trivial⟩ I.ext_of (by simp only [tup]; rw [idxOf_none]; intro x hx; obtain ⟨j, hj, rfl⟩ := List.getElem_of_mem hx; exact hn j (by omega) hj)
theorem ContainsFuncTrm_ok (B : Base) (hB : B.ok) (l : Sl Trm) (hl : l.Is 2 Trm.enc B.h) (f : FuncId) (ent : Enters Tryz.prog f) (fs cs : List Value) (p : Trm → Bool) (hp : PredFn Tryz.prog f fs cs B.h Trm.val l.xs p) :
    Fn Tryz.prog 199 [l.val, .func (.func f) fs.toArray cs.toArray] B (fun v _ => v = .bool (l.xs.any p)) := by
  refine Fn.of Tryz.func199 rfl Tryz.ntmps199 (by kernel_rfl) (by simp) ?_
  intro e
  have I := Inv.start hB
  refine WP.seq ?_
  refine WP.region ?_
  refine Ops.y (v := .bool _) (Y.assign rfl) ?_
  refine Ops.nil ?_
  refine WP.seq ?_
  refine WP.region ?_
  refine Ops.y (v := .slice _ _ _) (Y.move rfl) ?_
  refine Ops.y (v := .func _ _ _) (Y.move rfl) ?_
  refine Ops.go (O.callv I Tryz.call226 (IndexFuncTrm_ok _ I.base_ok l hl f ent fs cs p hp) rfl ?_)
  intro w I
  refine Ops.y (v := .bool (decide _)) (Y.gei rfl rfl) ?_
  refine Ops.y (v := .bool _) (Y.assign rfl) ?_
  refine Ops.nil ?_
  refine WP.ret ?_
  repeat (first | refine thenE_ret ?_ | refine blockE_ret ?_)
  exact retQ.mk (vs := [.bool _]) rfl ⟨rfl, trivial⟩ I.ext_of (by simp only [tup]; rw [idxOf_any])
theorem IndexFuncPrd_ok (B : Base) (hB : B.ok) (l : Sl Prd) (hl : l.Is 3 Prd.enc B.h) (f : FuncId) (ent : Enters Tryz.prog f) (fs cs : List Value) (p : Prd → Bool) (hp : PredFn Tryz.prog f fs cs B.h Prd.val l.xs p) :
    Fn Tryz.prog 114 [l.val, .func (.func f) fs.toArray cs.toArray] B (fun v _ => v = .int .i64 (idxOf p l.xs)) := by
  refine Fn.of Tryz.func114 rfl Tryz.ntmps114 (by kernel_rfl) (by simp) ?_
  intro e
  have I := Inv.start hB
  refine WP.seq ?_
  refine WP.region ?_
  refine Ops.y (v := .int .i64 _) (Y.assign rfl) ?_
  refine Ops.nil ?_
  refine WP.seq ?_
  refine WP.seq ?_
  refine WP.region ?_
  refine Ops.y (v := .slice _ _ _) (Y.move rfl) ?_
  refine Ops.y (v := .int .i64 _) (Y.lens Tryz.underlying22 rfl) ?_
  refine Ops.y (v := .int .i64 _) (Y.move rfl) ?_
  refine Ops.nil ?_
  refine WP.block ?_
  refine WP.loopE (σ := Nat) (fun k => [(0, l.val), (1, .func (.func f) fs.toArray cs.toArray), (7, .int .i64 l.xs.length), (8, .int .i64 k)]) (fun k w => Inv B B.h [] w ∧ k ≤ l.xs.length ∧ ∀ j (hj : j < k) (hj' : j < l.xs.length), p l.xs[j] = false) (fun k => l.xs.length - k)
    ⟨0, ⟨rfl, rfl, rfl, rfl, trivial⟩, I, Nat.zero_le _, fun j hj => (by omega)⟩ ?_
  rintro k e w ⟨I, hk, hn⟩
  have hsm := hl.small
  refine WP.seq ?_
  refine WP.region ?_
  refine Ops.y (v := .bool (decide _)) (Y.lti rfl rfl) ?_
  refine Ops.nil ?_
  refine WP.seq ?_
  refine WP.cond_dec rfl (fun h => ?_) (fun h => ?_)
  · have hk' : k < l.xs.length := by omega
    have E1 := hl.at hk'
    refine WP.skip ?_
    refine WP.seq ?_
    refine WP.block ?_
    refine WP.seq ?_
    refine WP.region ?_
    refine Ops.y (v := .int .i64 _) (Y.move rfl) ?_
    refine Ops.y (v := .int .i64 _) (Y.assign rfl) ?_
    refine Ops.nil ?_
    refine WP.seq ?_
    refine WP.region ?_
    refine Ops.y (v := .func _ _ _) (Y.move rfl) ?_
    refine Ops.y (v := .slice _ _ _) (Y.move rfl) ?_
    refine Ops.y (v := .int .i64 _) (Y.move rfl) ?_
    refine Ops.y (v := .pointer (some ⟨_, _, none⟩)) (Y.idxEl E1 Tryz.underlying22 Tryz.sizeOf53 rfl rfl (Int.natCast_nonneg _) rfl) ?_
    refine Ops.y (v := .agg #[_, _, _]) (Y.loadv ty_53 rfl (I.rd (E1.rd.part 0 3)) rfl rfl) ?_
    refine Ops.go (O.callcv I ent rfl (hp ⟨w, B.h⟩ I.base_ok (Heap.le.refl _) l.xs[k] (List.getElem_mem hk')) rfl ?_)
    intro w I
    refine Ops.nil ?_
    refine WP.cond rfl (fun hb => ?_) (fun hb => ?_)
    · refine WP.seq ?_
      refine WP.region ?_
      refine Ops.y (v := .int .i64 _) (Y.move rfl) ?_
      refine Ops.y (v := .int .i64 _) (Y.assign rfl) ?_
      refine Ops.nil ?_
      refine WP.ret ?_
      repeat (first | refine thenE_ret ?_ | refine blockE_ret ?_)
      exact retQ.mk (vs := [.int .i64 _]) rfl ⟨rfl, trivial⟩ I.ext_of (by simp only [tup]; rw [idxOf_some hk' (fun j hj => hn j hj (by omega)) hb])
    refine WP.skip ?_
    refine WP.region ?_
    refine Ops.y (v := .int .i64 _) (Y.addi rfl rfl ⟨by omega, by omega⟩) ?_
    refine Ops.y (v := .int .i64 _) (Y.move rfl) ?_
    refine Ops.nil ?_
    exact ⟨k + 1, ⟨⟨rfl, rfl, rfl, rfl, trivial⟩, I, by omega, fun j hj hj' => by
      rcases Nat.lt_succ_iff_lt_or_eq.1 hj with h' | h'
      · exact hn j h' hj'
      · subst h'; exact hb⟩, by omega⟩
  refine WP.exit ?_
  refine WP.seq ?_
  refine WP.region ?_
  refine Ops.y (v := .int .i64 _) (Y.assign rfl) ?_
  refine Ops.nil ?_
  refine WP.ret ?_
  repeat (first | refine thenE_ret ?_ | refine blockE_ret ?_)
  exact retQ.mk (vs := [.int .i64 _]) rfl ⟨rfl, trivial⟩ I.ext_of (by simp only [tup]; rw [idxOf_none]; intro x hx; obtain ⟨j, hj, rfl⟩ := List.getElem_of_mem hx; exact hn j (by omega) hj)
theorem ContainsFuncPrd_ok (B : Base) (hB : B.ok) (l : Sl Prd) (hl : l.Is 3 Prd.enc B.h) (f : FuncId) (ent : Enters Tryz.prog f) (fs cs : List Value) (p : Prd → Bool) (hp : PredFn Tryz.prog f fs cs B.h Prd.val l.xs p) :
    Fn Tryz.prog 55 [l.val, .func (.func f) fs.toArray cs.toArray] B (fun v _ => v = .bool (l.xs.any p)) := by
  refine Fn.of Tryz.func55 rfl Tryz.ntmps55 (by kernel_rfl) (by simp) ?_
  intro e
  have I := Inv.start hB
  refine WP.seq ?_
  refine WP.region ?_
  refine Ops.y (v := .bool _) (Y.assign rfl) ?_
  refine Ops.nil ?_
  refine WP.seq ?_
  refine WP.region ?_
  refine Ops.y (v := .slice _ _ _) (Y.move rfl) ?_
  refine Ops.y (v := .func _ _ _) (Y.move rfl) ?_
  refine Ops.go (O.callv I Tryz.call114 (IndexFuncPrd_ok _ I.base_ok l hl f ent fs cs p hp) rfl ?_)
  intro w I
  refine Ops.y (v := .bool (decide _)) (Y.gei rfl rfl) ?_
  refine Ops.y (v := .bool _) (Y.assign rfl) ?_
  refine Ops.nil ?_
  refine WP.ret ?_
  repeat (first | refine thenE_ret ?_ | refine blockE_ret ?_)
  exact retQ.mk (vs := [.bool _]) rfl ⟨rfl, trivial⟩ I.ext_of (by simp only [tup]; rw [idxOf_any])
end Go.TF
end
section
/- Package text: must, num, term, Atom: walked. -/
namespace Go.TF
open Go Go.RowKit Go.Proofs
set_option maxRecDepth 20000

/-- The panic that says that a text is broken. -/
abbrev brk : List PanicEntry := [{ v := .iface 119 (.agg #[]), recovered := false }]
theorem must_ok (B : Base) (hB : B.ok) (b : Bool) : FnP Tryz.prog 32 [.bool b] B brk (b = false) (fun v _ => b = true ∧ v = .tuple #[]) := by
  refine FnP.of Tryz.func32 rfl Tryz.ntmps32 (by kernel_rfl) (by simp) ?_
  intro e
  have I := Inv.start hB
  refine WP.seq ?_
  refine WP.region ?_
  refine Ops.y (v := .bool _) (Y.move rfl) ?_
  refine Ops.y (v := .bool _) (Y.not rfl) ?_
  refine Ops.nil ?_
  refine WP.cond rfl (fun h => ?_) (fun h => ?_)
  · refine WP.regionP _ (fun _ _ _ h => h) ?_
    refine OpsP.y (v := .agg #[]) (Y.build pl_119 Tryz.zeroValue119 rfl rfl) ?_
    refine OpsP.y (v := .iface _ _) (Y.iface Tryz.underlying119 (by intro ms h; cases h) rfl) ?_
    refine OpsP.p (O.panic rfl ?_)
    exact ⟨rfl, I.below, by simpa using h⟩
  refine WP.skip ?_
  exact retP.fin (vs := []) rfl trivial I.ext_of ⟨by simpa using h, rfl⟩
theorem num_ok (B : Base) (hB : B.ok) (V : Vars B.h) (s : ByteArray) (hs : s.size ≤ 140737488355328) : FnP Tryz.prog 71 [.string s] B brk (numR (tx s) = none) (fun v _ => ∃ n, numR (tx s) = some n ∧ v = .int .i64 n) := by
  cases hn : numR (tx s) with
  | some n =>
    have ha : Fn Tryz.prog 127 [.string s] B (fun v _ => v = .tuple #[.int .i64 n, .nilIface]) := (Atoi_ok B hB V s hs).mono fun v h' _ hv => by
      rcases hv with ⟨m, h1, h2⟩ | ⟨h1, _⟩
      · rw [hn] at h1; cases h1; exact h2
      · rw [hn] at h1; cases h1
    refine FnP.of Tryz.func71 rfl Tryz.ntmps71 (by kernel_rfl) (by simp) ?_
    intro e
    have I := Inv.start hB
    refine WP.seq ?_
    refine WP.region ?_
    refine Ops.y (v := .int .i64 _) (Y.assign rfl) ?_
    refine Ops.nil ?_
    refine WP.seq ?_
    refine WP.region ?_
    refine Ops.y (v := .string _) (Y.move rfl) ?_
    refine Ops.go (O.callv I Tryz.call127 (ha) rfl ?_)
    intro w I
    refine Ops.y (v := .tuple #[_, _]) (Y.move rfl) ?_
    refine Ops.y (v := .int .i64 _) (Y.extract rfl rfl) ?_
    refine Ops.y (v := .nilIface) (Y.extract rfl rfl) ?_
    refine Ops.y (v := .int .i64 _) (Y.assign rfl) ?_
    refine Ops.y (v := _) (Y.assign rfl) ?_
    refine Ops.nil ?_
    refine WP.seq ?_
    refine WP.regionP _ (fun _ _ _ h => h) ?_
    refine OpsP.y (v := _) (Y.move rfl) ?_
    refine OpsP.y (v := .bool true) (Y.eqnilT Tryz.underlying55 rfl) ?_
    refine OpsP.p (O.callp I Tryz.call32 (must_ok _ I.base_ok true) rfl (fun h => by cases h) ?_)
    rintro _ h w I hle ⟨_, rfl⟩
    refine OpsP.nil ?_
    refine WP.seq ?_
    refine WP.region ?_
    refine Ops.y (v := .int .i64 _) (Y.move rfl) ?_
    refine Ops.y (v := .int .i64 _) (Y.assign rfl) ?_
    refine Ops.nil ?_
    refine WP.ret ?_
    repeat (first | refine thenE_ret ?_ | refine blockE_ret ?_)
    exact retP.mk (vs := [.int .i64 _]) rfl ⟨rfl, trivial⟩ I.ext_of (⟨n, rfl, rfl⟩)
  | none =>
    have ha : Fn Tryz.prog 127 [.string s] B (fun v _ => ∃ n te pe, v = .tuple #[.int .i64 n, .iface te pe]) := (Atoi_ok B hB V s hs).mono fun v h' _ hv => by
      rcases hv with ⟨m, h1, h2⟩ | ⟨_, h1⟩
      · rw [hn] at h1; cases h1
      · exact h1
    refine FnP.of Tryz.func71 rfl Tryz.ntmps71 (by kernel_rfl) (by simp) ?_
    intro e
    have I := Inv.start hB
    refine WP.seq ?_
    refine WP.region ?_
    refine Ops.y (v := .int .i64 _) (Y.assign rfl) ?_
    refine Ops.nil ?_
    refine WP.seq ?_
    refine WP.region ?_
    refine Ops.y (v := .string _) (Y.move rfl) ?_
    refine Ops.go (O.call I Tryz.call127 (ha) rfl ?_)
    rintro _ h w I hle ⟨n, te, pe, rfl⟩
    refine Ops.y (v := .tuple #[_, _]) (Y.move rfl) ?_
    refine Ops.y (v := .int .i64 _) (Y.extract rfl rfl) ?_
    refine Ops.y (v := .iface _ _) (Y.extract rfl rfl) ?_
    refine Ops.y (v := .int .i64 _) (Y.assign rfl) ?_
    refine Ops.y (v := _) (Y.assign rfl) ?_
    refine Ops.nil ?_
    refine WP.seq ?_
    refine WP.regionP _ (fun _ _ _ h => h) ?_
    refine OpsP.y (v := _) (Y.move rfl) ?_
    refine OpsP.y (v := .bool false) (Y.eqnilF Tryz.underlying55 rfl) ?_
    refine OpsP.p (O.callp I Tryz.call32 (must_ok _ I.base_ok false) rfl (fun _ => rfl) ?_)
    rintro _ h w I hle ⟨h, _⟩
    refine OpsP.nil ?_
    cases h
theorem tTerm_ok (B : Base) (hB : B.ok) (t : Trm) (ht : termOk t = true) : Fn Tryz.prog 65 [t.val] B (fun v _ => v = .string (mk (termL t))) := by
  have hb : 0 ≤ t.n ∧ t.n ≤ 4 := by
    unfold termOk at ht
    split at ht <;> (have := of_decide_eq_true ht; omega)
  refine Fn.of Tryz.func65 rfl Tryz.ntmps65 (by kernel_rfl) (by simp) ?_
  intro e
  have I := Inv.start hB
  refine WP.seq ?_
  refine WP.region ?_
  refine Ops.go (O.box (v := .agg #[_, _]) I rfl rfl ?_)
  intro b1 w I
  refine Ops.y (v := .string _) (Y.assign rfl) ?_
  refine Ops.nil ?_
  refine WP.seq ?_
  refine WP.seq ?_
  refine WP.region ?_
  refine Ops.y (v := .pointer (some ⟨_, _, none⟩)) (Y.fa0 fa_109_0 rfl) ?_
  refine Ops.y (v := .bool _) (Y.loadv ty_4 rfl (I.rdbox 0 rfl 0 1) rfl rfl) ?_
  refine Ops.nil ?_
  refine WP.cond rfl (fun h1 => ?_) (fun h1 => ?_)
  · have hv : t.var = true := h1
    obtain ⟨c, hc⟩ : ∃ c : Nat, 65 + t.n = c := ⟨(65 + t.n).toNat, by omega⟩
    have hT : termL t = [UInt8.ofNat c] := by unfold termL; rw [if_pos hv, hc]; rfl
    refine WP.seq ?_
    refine WP.region ?_
    refine Ops.y (v := .pointer (some ⟨_, _, none⟩)) (Y.fa fa_109_1 rfl) ?_
    refine Ops.y (v := .int .i64 _) (Y.loadv ty_3 rfl (I.rdbox 0 rfl 1 1) rfl rfl) ?_
    refine Ops.y (v := .int .i64 _) (Y.addi rfl rfl ⟨by omega, by omega⟩) ?_
    refine Ops.y (v := .int .i32 _) (Y.conv (by rw [Tryz.underlying3]; rfl) Tryz.underlying21 ((i32_of (by omega) (by omega))) rfl) ?_
    refine Ops.y (v := .string ⟨#[UInt8.ofNat c]⟩) (Y.runes (by rw [Tryz.underlying21]; rfl) Tryz.underlying9 (by rw [← hc]; rfl) (by omega)) ?_
    refine Ops.y (v := .string _) (Y.assign rfl) ?_
    refine Ops.nil ?_
    refine WP.ret ?_
    repeat (first | refine thenE_ret ?_ | refine blockE_ret ?_)
    exact retQ.mk (vs := [.string _]) rfl ⟨rfl, trivial⟩ I.ext_of (by rw [hT]; rfl)
  · have hv : t.var = false := by simpa using h1
    obtain ⟨c, hc⟩ : ∃ c : Nat, t.n = c := ⟨t.n.toNat, by omega⟩
    have hT : termL t = dgL c := by unfold termL; rw [if_neg (by rw [hv]; decide), hc]; rfl
    refine WP.skip ?_
    refine WP.seq ?_
    refine WP.region ?_
    refine Ops.y (v := .pointer (some ⟨_, _, none⟩)) (Y.fa fa_109_1 rfl) ?_
    refine Ops.y (v := .int .i64 _) (Y.loadv ty_3 rfl (I.rdbox 0 rfl 1 1) rfl rfl) ?_
    refine Ops.go (O.callv I Tryz.call24 (hc ▸ Itoa_ok _ I.base_ok c (by omega)) rfl ?_)
    intro w I
    refine Ops.y (v := .string _) (Y.assign rfl) ?_
    refine Ops.nil ?_
    refine WP.ret ?_
    repeat (first | refine thenE_ret ?_ | refine blockE_ret ?_)
    exact retQ.mk (vs := [.string _]) rfl ⟨rfl, trivial⟩ I.ext_of (by rw [hT]; rfl)
theorem args_size {ts : List Trm} (h : ∀ t ∈ ts, termOk t = true) : ∀ x ∈ (ts.map termL), x.length = 1 := fun x hx => by
  obtain ⟨t, ht, rfl⟩ := List.mem_map.1 hx
  obtain ⟨c, hc, _⟩ := termL_one (h t ht)
  rw [hc]; rfl
theorem join_len {sep : Bs} {n : Nat} : ∀ {l : List Bs}, (∀ x ∈ l, x.length ≤ n) → (joinT sep l).length ≤ l.length * (n + sep.length)
  | [], _ => by simp [joinT]
  | [x], h => by
    have := h x (by simp)
    simp [joinT]; omega
  | x :: y :: r, h => by
    have ih := join_len (sep := sep) (l := y :: r) fun z hz => h z (List.mem_cons_of_mem _ hz)
    have := h x (by simp)
    rw [joinT]
    simp only [List.length_append, List.length_cons, Nat.add_mul, Nat.one_mul] at ih ⊢
    omega
theorem mk_size (a : Bs) : (mk a).size = a.length := (tx_len (mk a)).symm
theorem atomL_len {l : List Prd} {a : Atm} (ao : AOk l a) : (atomL l a).length ≤ (predOf l a.pred).name.size + 8 := by
  have hl := ao.len
  have hj := join_len (sep := [44]) (n := 1) (l := a.args.xs.map termL) fun x hx => Nat.le_of_eq (args_size (fun t ht => AOk.termOk ao ht) x hx)
  unfold atomL argsL
  rw [List.length_append, tx_len]
  split
  · simp
  · simp only [List.length_append, List.length_cons, List.length_nil, List.length_map] at hj ⊢
    omega
set_option maxHeartbeats 4000000 in
theorem TAtom_ok (B : Base) (hB : B.ok) (l : Sl Prd) (hl : Prds l B.h) (a : Atm) (ha : a.In B.h) (ao : AOk l.xs a) (hnm : (predOf l.xs a.pred).name.size ≤ 140737488355328) : Fn Tryz.prog 25 [l.val, a.val] B (fun v _ => v = .string (mk (atomL l.xs a))) := by
  have h2 := ao.len
  have Ep := hl.el.el (predOf_get ao.pred.1 ao.pred.2)
  refine Fn.of Tryz.func25 rfl Tryz.ntmps25 (by kernel_rfl) (by simp) ?_
  intro e
  have I := Inv.start hB
  refine WP.seq ?_
  refine WP.region ?_
  refine Ops.go (O.box (v := .agg #[_, _]) I rfl rfl ?_)
  intro b3 w I
  refine Ops.y (v := .string _) (Y.assign rfl) ?_
  refine Ops.nil ?_
  refine WP.seq ?_
  refine WP.region ?_
  refine Ops.y (v := .slice _ _ _) (Y.move rfl) ?_
  refine Ops.y (v := .pointer (some ⟨_, _, none⟩)) (Y.fa0 fa_61_0 rfl) ?_
  refine Ops.y (v := .int .i64 _) (Y.loadv ty_3 rfl (I.rdbox 0 rfl 0 1) rfl rfl) ?_
  refine Ops.y (v := .pointer (some ⟨_, _, none⟩)) (Y.idxEl Ep Tryz.underlying22 Tryz.sizeOf53 rfl rfl ao.pred.1 rfl) ?_
  refine Ops.y (v := .pointer (some ⟨_, _, none⟩)) (Y.fa0 fa_53_0 rfl) ?_
  refine Ops.y (v := .string _) (Y.loadv ty_9 rfl (I.rd (Ep.rd.part 0 1)) rfl rfl) ?_
  refine Ops.y (v := .string _) (Y.assign rfl) ?_
  refine Ops.nil ?_
  refine WP.seq ?_
  refine WP.seq ?_
  refine WP.region ?_
  refine Ops.y (v := .pointer (some ⟨_, _, none⟩)) (Y.fa fa_61_1 rfl) ?_
  refine Ops.y (v := .slice _ _ _) (Y.loadv ty_59 rfl (I.rdbox 0 rfl 1 1) rfl rfl) ?_
  refine Ops.y (v := .int .i64 _) (Y.lens Tryz.underlying59 rfl) ?_
  refine Ops.y (v := .bool (decide _)) (Y.eqi rfl rfl) ?_
  refine Ops.nil ?_
  refine WP.cond_dec rfl (fun h2 => ?_) (fun h2 => ?_)
  · have h0 : a.args.xs = [] := List.length_eq_zero_iff.1 (by omega)
    refine WP.seq ?_
    refine WP.region ?_
    refine Ops.y (v := .string _) (Y.move rfl) ?_
    refine Ops.y (v := .string _) (Y.assign rfl) ?_
    refine Ops.nil ?_
    refine WP.ret ?_
    repeat (first | refine thenE_ret ?_ | refine blockE_ret ?_)
    exact retQ.mk (vs := [.string _]) rfl ⟨rfl, trivial⟩ I.ext_of (by simp only [tup]; unfold atomL argsL; rw [if_pos h0, List.append_nil])
  have h0 : a.args.xs ≠ [] := fun e => h2 (by rw [e]; rfl)
  refine WP.skip ?_
  refine WP.seq ?_
  refine WP.region ?_
  refine Ops.y (v := .slice _ _ _) (Y.assign rfl) ?_
  refine Ops.nil ?_
  refine WP.seq ?_
  refine WP.seq ?_
  refine WP.region ?_
  refine Ops.y (v := .pointer (some ⟨_, _, none⟩)) (Y.fa fa_61_1 rfl) ?_
  refine Ops.y (v := .slice _ _ _) (Y.loadv ty_59 rfl (I.rdbox 0 rfl 1 1) rfl rfl) ?_
  refine Ops.y (v := .int .i64 _) (Y.lens Tryz.underlying59 rfl) ?_
  refine Ops.y (v := .int .i64 _) (Y.move rfl) ?_
  refine Ops.nil ?_
  refine WP.block ?_
  refine WP.loopE (σ := Nat × Option Addr × Nat × Heap) (fun s => [(3, .pointer (some ⟨b3, 0, none⟩)), (5, .string (predOf l.xs a.pred).name), (6, .slice s.2.1 s.1 s.2.2.1), (21, a.args.val), (22, .int .i64 a.args.xs.length), (23, .int .i64 s.1)])
    (fun s w => Inv B s.2.2.2 [ownSl 9 1 (.slice s.2.1 s.1 s.2.2.1) s.1 (((a.args.xs.take s.1).map fun t => mk (termL t)).flatMap sEn), box b3 a.enc 61] w ∧ s.1 ≤ a.args.xs.length ∧ B.h.le s.2.2.2) (fun s => a.args.xs.length - s.1)
    ⟨(0, none, 0, B.h), ⟨rfl, rfl, rfl, rfl, rfl, rfl, trivial⟩, I.nilSl 9 1, Nat.zero_le _, Heap.le.refl _⟩ ?_
  rintro ⟨k, q, c, hh⟩ e w ⟨I, hk, gl⟩
  dsimp only at I hk gl ⊢
  refine WP.seq ?_
  refine WP.region ?_
  refine Ops.y (v := .bool (decide _)) (Y.lti rfl rfl) ?_
  refine Ops.nil ?_
  refine WP.seq ?_
  refine WP.cond_dec rfl (fun h6 => ?_) (fun h6 => ?_)
  · have hk' : k < a.args.xs.length := by omega
    have E := Sl.Is.at (Atm.In.le ha gl) hk'
    have ht := AOk.termOk ao (List.getElem_mem hk')
    obtain ⟨t, hte⟩ : ∃ t, a.args.xs[k] = t := ⟨_, rfl⟩
    have hnx : a.args.xs.take (k + 1) = a.args.xs.take k ++ [t] := by rw [List.take_add_one, List.getElem?_eq_getElem hk', hte]; rfl
    rw [hte] at E ht
    refine WP.skip ?_
    refine WP.seq ?_
    refine WP.block ?_
    refine WP.seq ?_
    refine WP.region ?_
    refine Ops.y (v := .pointer (some ⟨_, _, none⟩)) (Y.idxEl E Tryz.underlying59 Tryz.sizeOf109 rfl rfl (Int.natCast_nonneg _) rfl) ?_
    refine Ops.y (v := .agg #[_, _]) (Y.loadv ty_109 rfl (I.rd (E.rd.part 0 2)) rfl rfl) ?_
    refine Ops.go (O.alloc I Tryz.zeroValue109 rfl ?_)
    intro b8 w I
    refine Ops.go (O.store (v := .agg #[_, _]) I ty_109 0 rfl rfl rfl rfl rfl rfl (Nat.le_of_ble_eq_true rfl) rfl ?_)
    intro w I
    refine Ops.nil ?_
    refine WP.region ?_
    refine Ops.y (v := .slice _ _ _) (Y.move rfl) ?_
    refine Ops.y (v := .agg #[_, _]) (Y.loadv ty_109 rfl (I.rdbox 0 rfl 0 2) rfl rfl) ?_
    refine Ops.go (O.callv I Tryz.call65 (tTerm_ok _ I.base_ok t ht) rfl ?_)
    intro w I
    refine Ops.go (O.mksl (xs := [mk (termL t)]) (enc := sEn) I Tryz.underlying66 Tryz.sizeOf9 Tryz.zeroValue9 rfl (Nat.le_of_ble_eq_true rfl) rfl rfl (by decide) (fun _ => rfl) ?_)
    intro b30 h30 w I le30 sl30
    refine Ops.go (O.append I Tryz.underlying66 et_9 1 rfl rfl rfl (I.rd (sl30 0 _ rfl).2) rfl rfl (by decide) (by omega) (by omega) ?_)
    intro b31 c31 w I
    refine Ops.y (v := .slice _ _ _) (Y.assign rfl) ?_
    refine Ops.nil ?_
    refine WP.region ?_
    refine Ops.y (v := .int .i64 _) (Y.addi rfl rfl ⟨by omega, by omega⟩) ?_
    refine Ops.y (v := .int .i64 _) (Y.move rfl) ?_
    refine Ops.nil ?_
    refine ⟨(k + 1, some ⟨b31, 0, none⟩, c31, h30), ⟨⟨rfl, rfl, rfl, rfl, rfl, rfl, trivial⟩, ?_, by dsimp only; omega, gl.trans le30⟩, by dsimp only; omega⟩
    dsimp only
    rw [hnx, List.map_append, List.flatMap_append]
    exact I.drop
  obtain rfl : k = a.args.xs.length := by omega
  rw [List.take_length] at I
  have hcap := ownSl_cap (I.at 0 rfl)
  obtain ⟨h10, s, le10, hv, hx, is, J⟩ := I.settleSl (fun _ => rfl) (by simp)
  clear I
  obtain ⟨sa, sc, sx⟩ := s
  dsimp only at hx
  subst hx
  have hv' := hv
  unfold Sl.val at hv'
  dsimp only at hv'
  injection hv' with e1 e2 e3
  subst e1; subst e3
  have I := J
  have hlen : (a.args.xs.map fun t => mk (termL t)).map tx = a.args.xs.map termL := by rw [List.map_map]; rfl
  have hj := join_len (sep := [44]) (n := 1) (l := a.args.xs.map termL) fun x hx => Nat.le_of_eq (args_size (fun t ht => AOk.termOk ao ht) x hx)
  simp only [List.length_map, List.length_cons, List.length_nil] at hj
  have hjo := SJoin_ok ⟨w, h10⟩ I.base_ok ⟨sa, sc, a.args.xs.map fun t => mk (termL t)⟩ ⟨is, by simp; omega⟩ (by simpa using hcap) ⟨#[44]⟩ (by rw [hlen]; show (joinT [44] _).length ≤ _; omega)
  rw [hlen] at hjo
  unfold Sl.val at hjo
  simp only [List.length_map] at hjo
  have z1 : ((predOf l.xs a.pred).name ++ ⟨#[40]⟩ : ByteArray).size = (predOf l.xs a.pred).name.size + 1 := by rw [ByteArray.size_append]; rfl
  have z2 : (mk (joinT (tx ⟨#[44]⟩) (a.args.xs.map termL))).size ≤ 4 := by rw [mk_size]; show (joinT [44] _).length ≤ _; omega
  refine WP.exit ?_
  refine WP.seq ?_
  refine WP.region ?_
  refine Ops.y (v := .string _) (Y.move rfl) ?_
  refine Ops.y (v := .string _) (Y.adds rfl rfl (by show _ + 1 ≤ _; omega)) ?_
  refine Ops.y (v := .slice _ _ _) (Y.move rfl) ?_
  refine Ops.go (O.callv I Tryz.call26 (hjo) rfl ?_)
  intro w I
  refine Ops.y (v := .string _) (Y.adds rfl rfl (by omega)) ?_
  refine Ops.y (v := .string _) (Y.adds rfl rfl (by rw [ByteArray.size_append]; show _ + _ + 1 ≤ _; omega)) ?_
  refine Ops.y (v := .string _) (Y.assign rfl) ?_
  refine Ops.nil ?_
  refine WP.ret ?_
  repeat (first | refine thenE_ret ?_ | refine blockE_ret ?_)
  exact retQ.mk (vs := [.string _]) rfl ⟨rfl, trivial⟩ I.ext_of (by simp only [tup]; unfold atomL argsL; rw [if_neg h0]; refine congrArg Value.string (tx_inj.1 ?_); rw [tx_app, tx_app, tx_app, List.append_assoc, List.append_assoc])
end Go.TF
end
section
/- uses: the iterator; its contract. -/
namespace Go.TF
open Go Go.RowKit Go.Proofs
set_option maxRecDepth 20000

/-- A program as it lies in a box that is never written again. -/
def PBox (h : Heap) (b : Nat) (p : Prg) : Prop := h b = some (.cells [p.preds.val, p.rules.val].toArray 25 (0, 0))
theorem uses_ok (B : Base) (hB : B.ok) (p : Prg) : Fn Tryz.prog 120 [p.val] B (fun v h' => ∃ b, v = .func (.func 162) #[] #[.pointer (some ⟨b, 0, none⟩)] ∧ PBox h' b p) := by
  refine Fn.of Tryz.func120 rfl Tryz.ntmps120 (by kernel_rfl) (by simp) ?_
  intro e
  have I := Inv.start hB
  refine WP.seq ?_
  refine WP.region ?_
  refine Ops.go (O.box (v := .agg #[_, _]) I rfl rfl ?_)
  intro b1 w I
  refine Ops.y (v := .nilFunc) (Y.assign rfl) ?_
  refine Ops.nil ?_
  refine WP.seq ?_
  refine WP.region ?_
  refine Ops.y (v := .func _ _ _) (Y.mkfunc rfl rfl) ?_
  refine Ops.y (v := .func _ _ _) (Y.assign rfl) ?_
  refine Ops.nil ?_
  have hb0 := I.at 0 rfl
  obtain ⟨h1, le1, hb, I⟩ := I.settle
  refine WP.ret ?_
  repeat (first | refine thenE_ret ?_ | refine blockE_ret ?_)
  exact retQ.mk (vs := [.func _ _ _]) rfl ⟨rfl, trivial⟩ I.ext_of (⟨b1, rfl, (hb b1 (by simp [box])).trans hb0⟩)
theorem usesL_take {rs : List Rul} {n : Nat} (hn : n < rs.length) : usesL (rs.take (n + 1)) = usesL (rs.take n) ++ rs[n].body.xs.map fun x => (rs[n].head.pred, x) := by
  rw [List.take_succ_eq_append_getElem hn]
  unfold usesL
  rw [List.flatMap_append]
  simp only [List.flatMap_cons, List.flatMap_nil, List.append_nil]
theorem usesL_split (rs : List Rul) (n : Nat) : usesL rs = usesL (rs.take n) ++ usesL (rs.drop n) := by
  have := congrArg usesL (List.take_append_drop n rs)
  unfold usesL at this ⊢
  rw [List.flatMap_append] at this
  exact this.symm
theorem usesL_get {rs : List Rul} {n : Nat} (hn : n < rs.length) {k : Nat} (hk : k < rs[n].body.xs.length) : (usesL rs)[(usesL (rs.take n)).length + k]? = some (rs[n].head.pred, rs[n].body.xs[k]) := by
  rw [usesL_split rs (n + 1), usesL_take hn, List.append_assoc, List.getElem?_append_right (by omega), List.getElem?_append_left (by simp; omega)]
  simp [hk]
def cEnc (c : Int × Ltl) : List Value := [.int .i64 c.1, c.2.val]
set_option maxHeartbeats 2000000 in
theorem uses1_iter (p : Prg) (bp : Nat) (h : Heap) (hb : PBox h bp p) (hr : Ruls p.rules h) : Iter Tryz.prog 162 [.pointer (some ⟨bp, 0, none⟩)] cEnc (usesL p.rules.xs) h := by
  intro l J Jx hg W hle j0 hok hext hround
  have hsm := hr.is.small
  refine Calls.ofWP (args := [.func (.yield l) #[] #[], .pointer (some ⟨bp, 0, none⟩)]) Tryz.func162 rfl Tryz.ntmps162 (by kernel_rfl) (by simp) ?_
  intro e
  have I := Inv.start (hok _ _ _ j0)
  refine WP.seq ?_
  refine WP.region ?_
  refine Ops.y (v := .pointer (some ⟨_, _, none⟩)) (Y.fa fa_25_1 rfl) ?_
  refine Ops.y (v := .slice _ _ _) (Y.loadv ty_23 rfl (I.rd ((rdHb hb 1 1).le hle)) rfl rfl) ?_
  refine Ops.y (v := .int .i64 _) (Y.lens Tryz.underlying23 rfl) ?_
  refine Ops.y (v := .int .i64 _) (Y.move rfl) ?_
  refine Ops.nil ?_
  refine WP.block ?_
  refine WP.loopE (σ := Nat) (fun n => [(0, .func (.yield l) #[] #[]), (1, .pointer (some ⟨bp, 0, none⟩)), (8, p.rules.val), (9, .int .i64 p.rules.xs.length), (10, .int .i64 n)])
    (fun n w => n ≤ p.rules.xs.length ∧ ∃ h1, hg.le h1 ∧ J h1 (usesL (p.rules.xs.take n)).length w) (fun n => p.rules.xs.length - n)
    ⟨0, ⟨rfl, rfl, rfl, rfl, rfl, trivial⟩, Nat.zero_le _, hg, Heap.le.refl _, j0⟩ ?_
  rintro n e w ⟨hn, h1, gl1, j1⟩
  have I := Inv.start (hok _ _ _ j1)
  refine WP.seq ?_
  refine WP.region ?_
  refine Ops.y (v := .bool (decide _)) (Y.lti rfl rfl) ?_
  refine Ops.nil ?_
  refine WP.seq ?_
  refine WP.cond_dec rfl (fun hc => ?_) (fun hc => ?_)
  · have hn' : n < p.rules.xs.length := by omega
    have E1 := (hr.is.le (hle.trans gl1)).at hn'
    have hbd := (hr.each _ (List.getElem_mem hn')).body.le (hle.trans gl1)
    have hbs := hbd.is.small
    refine WP.skip ?_
    refine WP.seq ?_
    refine WP.block ?_
    refine WP.seq ?_
    refine WP.region ?_
    refine Ops.y (v := .pointer (some ⟨_, _, none⟩)) (Y.idxEl E1 Tryz.underlying23 Tryz.sizeOf64 rfl rfl (Int.natCast_nonneg _) rfl) ?_
    refine Ops.y (v := .agg #[_, _, _, _, _]) (Y.loadv ty_64 rfl (I.rd (E1.rd.part 0 5)) rfl rfl) ?_
    refine Ops.go (O.alloc I Tryz.zeroValue64 rfl ?_)
    intro b4 w I
    refine Ops.go (O.store (v := .agg #[_, _, _, _, _]) I ty_64 0 rfl rfl rfl rfl rfl rfl (Nat.le_of_ble_eq_true rfl) rfl ?_)
    intro w I
    refine Ops.nil ?_
    refine WP.seq ?_
    refine WP.region ?_
    refine Ops.y (v := .pointer (some ⟨_, _, none⟩)) (Y.fa fa_64_3 rfl) ?_
    refine Ops.y (v := .slice _ _ _) (Y.loadv ty_62 rfl (I.rdbox 0 rfl 4 1) rfl rfl) ?_
    refine Ops.y (v := .int .i64 _) (Y.lens Tryz.underlying62 rfl) ?_
    refine Ops.y (v := .int .i64 _) (Y.move rfl) ?_
    refine Ops.nil ?_
    have hb4 := I.at 0 rfl
    obtain ⟨h2, le2, hh4, I⟩ := I.settle
    have hb4 := (hh4 b4 (by simp [box])).trans hb4
    refine WP.block ?_
    refine WP.loopE (σ := Nat) (fun k => [(0, .func (.yield l) #[] #[]), (1, .pointer (some ⟨bp, 0, none⟩)), (8, p.rules.val), (9, .int .i64 p.rules.xs.length), (10, .int .i64 n), (4, .pointer (some ⟨b4, 0, none⟩)), (15, p.rules.xs[n].body.val), (16, .int .i64 p.rules.xs[n].body.xs.length), (17, .int .i64 k)])
      (fun k w => k ≤ p.rules.xs[n].body.xs.length ∧ ∃ h3, h2.le h3 ∧ J h3 ((usesL (p.rules.xs.take n)).length + k) w) (fun k => p.rules.xs[n].body.xs.length - k)
      ⟨0, ⟨rfl, rfl, rfl, rfl, rfl, rfl, rfl, rfl, rfl, trivial⟩, Nat.zero_le _, h2, Heap.le.refl _, hext _ _ _ _ _ j1 I⟩ ?_
    rintro k e w ⟨hk, h3, gl3, j3⟩
    have I := Inv.start (hok _ _ _ j3)
    refine WP.seq ?_
    refine WP.region ?_
    refine Ops.y (v := .bool (decide _)) (Y.lti rfl rfl) ?_
    refine Ops.nil ?_
    refine WP.seq ?_
    refine WP.cond_dec rfl (fun hd => ?_) (fun hd => ?_)
    · have hk' : k < p.rules.xs[n].body.xs.length := by omega
      have E2 := (hbd.is.le (le2.trans gl3)).at hk'
      refine WP.skip ?_
      refine WP.seq ?_
      refine WP.block ?_
      refine WP.seq ?_
      refine WP.region ?_
      refine Ops.y (v := .pointer (some ⟨_, _, none⟩)) (Y.idxEl E2 Tryz.underlying62 Tryz.sizeOf68 rfl rfl (Int.natCast_nonneg _) rfl) ?_
      refine Ops.y (v := .agg #[_, _, _]) (Y.loadv ty_68 rfl (I.rd (E2.rd.part 0 3)) rfl rfl) ?_
      refine Ops.go (O.alloc I Tryz.zeroValue68 rfl ?_)
      intro b6 w I
      refine Ops.go (O.store (v := .agg #[_, _, _]) I ty_68 0 rfl rfl rfl rfl rfl rfl (Nat.le_of_ble_eq_true rfl) rfl ?_)
      intro w I
      refine Ops.nil ?_
      refine WP.seq ?_
      refine WP.regionX (by kernel_rfl) ?_
      refine OpsX.y (v := .func _ _ _) (Y.move rfl) ?_
      refine OpsX.y (v := .pointer (some ⟨_, _, none⟩)) (Y.fa0 fa_64_0 rfl) ?_
      refine OpsX.y (v := .pointer (some ⟨_, _, none⟩)) (Y.fa0 fa_61_0 rfl) ?_
      refine OpsX.y (v := .int .i64 _) (Y.loadv ty_3 rfl (I.rd ((rdHb hb4 0 1).le gl3)) rfl rfl) ?_
      refine OpsX.y (v := .agg #[_, _, _]) (Y.loadv ty_68 rfl (I.rdbox 0 rfl 0 3) rfl rfl) ?_
      refine OpsX.yield rfl rfl (hround h3 _ _ _ (gl1.trans (le2.trans gl3)) (usesL_get hn' hk') (hext _ _ _ _ _ j3 I.ext_of)) ?_
      rintro ed w (⟨rfl, h4, gl4, j4⟩ | ⟨rfl, jx⟩)
      · refine ⟨_, rfl, ?_⟩
        refine OpsX.y (v := .bool _) (Y.not rfl) ?_
        refine OpsX.nil ?_
        refine WP.cond_f rfl ?_
        refine WP.skip ?_
        refine WP.region ?_
        refine Ops.y (v := .int .i64 _) (Y.addi rfl rfl ⟨by omega, by omega⟩) ?_
        refine Ops.y (v := .int .i64 _) (Y.move rfl) ?_
        refine Ops.nil ?_
        exact ⟨k + 1, ⟨⟨rfl, rfl, rfl, rfl, rfl, rfl, rfl, rfl, rfl, trivial⟩, by omega, h4, gl3.trans gl4, j4⟩, by omega⟩
      · refine ⟨_, rfl, ?_⟩
        refine OpsX.y (v := .bool _) (Y.not rfl) ?_
        refine OpsX.nil ?_
        refine WP.cond_t rfl ?_
        refine WP.ret ?_
        repeat (first | refine thenE_ret ?_ | refine blockE_ret ?_)
        exact ⟨.inl rfl, [], trivial, ⟨_, rfl⟩, .inr jx⟩
    refine WP.exit ?_
    refine WP.region ?_
    refine Ops.y (v := .int .i64 _) (Y.addi rfl rfl ⟨by omega, by omega⟩) ?_
    refine Ops.y (v := .int .i64 _) (Y.move rfl) ?_
    refine Ops.nil ?_
    have hk2 : k = p.rules.xs[n].body.xs.length := by omega
    exact ⟨n + 1, ⟨⟨rfl, rfl, rfl, rfl, rfl, trivial⟩, by omega, h3, gl1.trans (le2.trans gl3), by rw [usesL_take hn', List.length_append, List.length_map, ← hk2]; exact j3⟩, by omega⟩
  refine WP.exit ?_
  have hn2 : n = p.rules.xs.length := by omega
  rw [hn2, List.take_length] at j1
  exact ⟨.inr rfl, [], trivial, ⟨_, rfl⟩, .inl ⟨h1, gl1, j1⟩⟩
end Go.TF
end
section
/- Levels: the strata, raised from 0 until all hold. -/
namespace Go.TF
open Go Go.RowKit Go.Proofs
set_option maxRecDepth 20000

@[reducible] def iEnc (n : Int) : List Value := [.int .i64 n]
@[reducible] def vI (n : Int) : Value := .int .i64 n
@[reducible] def vB (n : Bool) : Value := .bool n
/-- What Levels and strata hand back. -/
def LevP (cs : List (Int × Ltl)) (n : Nat) (v : Value) (h : Heap) : Prop :=
  (∃ s : Sl Int, StrataR cs n (some s.xs) ∧ s.Is 1 iEnc h ∧ v = .tuple #[s.val, .bool true]) ∨ (StrataR cs n none ∧ v = .tuple #[.slice none 0 0, .bool false])
theorem boxIs {b : Nat} {L : List Int} {T : TypeId} {h : Heap} {c : Nat} (hb : h b = some (.cells (L.map vI).toArray T (0, 0))) (hs : L.length ≤ 140737488355328) : (⟨some ⟨b, 0, none⟩, c, L⟩ : Sl Int).Is 1 iEnc h :=
  ⟨fun i x hx => ⟨rfl, fun j v hv => by
    cases j with
    | zero => simp at hv; subst hv; simp only [Heap.cell, Sl.blk, Sl.off, Option.getD_some, hb]; simp [hx]
    | succ j => simp at hv⟩, hs⟩
theorem lv_some {L : List Int} {n : Nat} (hl : L.length = n) {i : Int} (h0 : 0 ≤ i) (h1 : i < n) : L[i.toNat]? = some (lv L i) := by
  have : i.toNat < L.length := by omega
  simp [lv, List.getD_eq_getElem?_getD, this]
structure LevS where
  bo : Nat
  b4 : Nat
  L : List Int
  ms : List Nat
def LevU (s : LevS) (b3 b2 b1 : Nat) (p : Prg) (L : List Int) : List SA := [box s.b4 [.slice (some ⟨s.bo, 0, none⟩) p.preds.xs.length p.preds.xs.length] 78, box s.bo (L.map vI) 3, box b3 [.bool false] 4, box b2 [.slice none 0 0] 78, box b1 p.enc 25]
structure LevJ (B : Base) (b3 b2 b1 : Nat) (p : Prg) (cs : List (Int × Ltl)) (s : LevS) (w : World) : Prop where
  inv : ∃ h1, B.h.le h1 ∧ Inv B h1 (LevU s b3 b2 b1 p s.L ++ s.ms.map markSA) w
  good : Good cs p.preds.xs.length s.L
  lt : ∀ i : Int, 0 ≤ i → i < p.preds.xs.length → lv s.L i < p.preds.xs.length
def LevJx (cs : List (Int × Ltl)) (n : Nat) (L : List Int) (j : Jmp) (L' : List Int) : Prop :=
  match j with
  | .ret => L' = L ∧ StrataR cs n none
  | .goto t => t = 0 ∧ ∃ c ∈ cs, L' = L.set c.1.toNat (lst L c) ∧ lv L c.1 < lst L c ∧ lst L c < n
  | .exit _ => False
set_option maxHeartbeats 4000000 in
theorem Levels_ok (B : Base) (hB : B.ok) (p : Prg) (hp : p.In B.h) (hr : InR (usesL p.rules.xs) p.preds.xs.length) (hn5 : p.preds.xs.length ≤ 5) : Fn Tryz.prog 62 [p.val] B (fun v h => LevP (usesL p.rules.xs) p.preds.xs.length v h) := by
  refine Fn.ofD Tryz.func62 rfl Tryz.ntmps62 (by kernel_rfl) (by simp) ?_
  intro e
  have I := Inv.start hB
  refine WPD.seq ?_
  refine WPD.region ?_
  refine Ops.go (O.box (v := .agg #[_, _]) I rfl rfl ?_)
  intro b1 w I
  refine Ops.go (O.alloc I Tryz.zeroValue78 rfl ?_)
  intro b2 w I
  refine Ops.go (O.alloc I Tryz.zeroValue4 rfl ?_)
  intro b3 w I
  refine Ops.nil ?_
  refine WPD.scopeL (σ := LevS) 0 (fun s => [(1, .pointer (some ⟨b1, 0, none⟩)), (2, .pointer (some ⟨b2, 0, none⟩)), (3, .pointer (some ⟨b3, 0, none⟩)), (4, .pointer (some ⟨s.b4, 0, none⟩))]) (fun s => s.ms.map mark)
    (LevJ B b3 b2 b1 p (usesL p.rules.xs)) (fun s => pot p.preds.xs.length s.L) rfl (by kernel_rfl) ?_ ?_
  · refine WPD.region ?_
    refine Ops.y (v := .pointer (some ⟨_, _, none⟩)) (Y.fa0 fa_25_0 rfl) ?_
    refine Ops.y (v := .slice _ _ _) (Y.loadv ty_22 rfl (I.rdbox 2 rfl 0 1) rfl rfl) ?_
    refine Ops.y (v := .int .i64 _) (Y.lens Tryz.underlying22 rfl) ?_
    refine Ops.go (O.make1 (n := p.preds.xs.length) (zc := (vI 0)) I Tryz.underlying78 et_3 rfl rfl rfl (by omega) (by omega) ?_)
    intro b11 w I
    refine Ops.go (O.alloc I Tryz.zeroValue78 rfl ?_)
    intro b4 w I
    refine Ops.go (O.store (v := .slice _ _ _) I ty_78 0 rfl rfl rfl rfl rfl rfl (Nat.le_of_ble_eq_true rfl) rfl ?_)
    intro w I
    refine Ops.nil ?_
    refine ⟨⟨b11, b4, List.replicate p.preds.xs.length 0, []⟩, ⟨rfl, rfl, rfl, rfl, trivial⟩, rfl, ⟨⟨B.h, Heap.le.refl _, ?_⟩, Good.zero _ _, fun i h0 h1 => by rw [lv_zero]; omega⟩⟩
    simp only [List.map_nil, List.append_nil, LevU, List.map_replicate]
    exact I
  · rintro ⟨bo, b4, L, ms⟩ e w ⟨⟨h1, gl1, I⟩, g, hlt⟩
    dsimp only at I g hlt ⊢
    refine WPD.seq ?_
    refine WPD.seq ?_
    refine WPD.region ?_
    refine Ops.y (v := .agg #[_, _]) (Y.loadv ty_25 rfl (I.rdbox 4 rfl 0 2) rfl rfl) ?_
    refine Ops.go (O.call I Tryz.call120 (uses_ok _ I.base_ok p) rfl ?_)
    rintro _ h2 w I le2 ⟨bp, rfl, hbp⟩
    refine Ops.nil ?_
    refine WPD.block ?_
    refine WPD.rangeFunc (σ := List Int) (LevU ⟨bo, b4, L, ms⟩ b3 b2 b1 p) (fun k L' => L' = L ∧ ∀ j, j < k → ∀ c, (usesL p.rules.xs)[j]? = some c → SatC L c) (LevJx (usesL p.rules.xs) p.preds.xs.length L) L I ⟨rfl, fun j hj => by omega⟩ rfl Tryz.call162
      (uses1_iter p bp h2 hbp (hp.rules.le (gl1.trans le2))) (fun _ => rfl) (by kernel_rfl) (by kernel_rfl) (by kernel_rfl) ?_ ?_ ?_
    · rintro l r ms' hg k c L' W hx gl I ⟨hL, hsat⟩
      obtain rfl : L = L' := hL.symm
      have hc := List.mem_of_getElem? hx
      have hh := hr.h c hc
      have hb := hr.b c hc
      have hlb := hlt _ hb.1 hb.2
      have hpb := g.pos c.2.atom.pred
      have hng := ng_le c.2
      have hlst : lst L c = lv L c.2.atom.pred + ng c.2 := rfl
      refine WPI.seq ?_
      refine WPI.region (by kernel_rfl) ?_
      refine Ops.y (v := .int .i64 _) (Y.assign rfl) ?_
      refine Ops.nil ?_
      refine WPI.region (by kernel_rfl) ?_
      refine Ops.go (O.alloc I Tryz.zeroValue68 rfl ?_)
      intro b6 w I
      refine Ops.go (O.store (v := .agg #[_, _, _]) I ty_68 0 rfl rfl rfl rfl rfl rfl (Nat.le_of_ble_eq_true rfl) rfl ?_)
      intro w I
      refine Ops.nil ?_
      refine ⟨hg, [box b6 c.2.enc 68], Heap.le.refl _, I, fun r' W2 I => ?_⟩
      refine WPI.block ?_
      refine WPI.seq ?_
      refine WPI.region (by kernel_rfl) ?_
      refine Ops.y (v := .slice _ _ _) (Y.loadv ty_78 rfl (I.rdbox 1 rfl 0 1) rfl rfl) ?_
      refine Ops.y (v := .pointer (some ⟨_, _, none⟩)) (Y.fa fa_68_1 rfl) ?_
      refine Ops.y (v := .pointer (some ⟨_, _, none⟩)) (Y.fa0 fa_61_0 rfl) ?_
      refine Ops.y (v := .int .i64 _) (Y.loadv ty_3 rfl (I.rdbox 0 rfl 1 1) rfl rfl) ?_
      refine Ops.y (v := .pointer (some ⟨_, _, none⟩)) (Y.idx Tryz.underlying78 Tryz.sizeOf3 rfl rfl hb.1 hb.2) ?_
      refine Ops.y (v := .int .i64 _) (Y.loadv ty_3 rfl (I.rdL 2 rfl (by omega) (lv_some g.len hb.1 hb.2)) rfl rfl) ?_
      refine Ops.y (v := .int .i64 _) (Y.assign rfl) ?_
      refine Ops.nil ?_
      refine WPI.seq ?_
      refine WPI.cutL (σ := Unit) (fun _ => [(1, .pointer (some ⟨b1, 0, none⟩)), (2, .pointer (some ⟨b2, 0, none⟩)), (3, .pointer (some ⟨b3, 0, none⟩)), (4, .pointer (some ⟨b4, 0, none⟩)), (5, .int .i64 c.1), (6, .pointer (some ⟨b6, 0, none⟩)), (7, .int .i64 (lst L c))])
        (fun _ w => Inv B hg ([box b6 c.2.enc 68] ++ (LevU ⟨bo, b4, L, ms⟩ b3 b2 b1 p L ++ (loopSA l r' :: ms'.map markSA))) w) ?_ ?_
      · refine WPI.seq ?_
        refine WPI.region (by kernel_rfl) ?_
        refine Ops.y (v := .pointer (some ⟨_, _, none⟩)) (Y.fa0 fa_68_0 rfl) ?_
        refine Ops.y (v := .bool _) (Y.loadv ty_4 rfl (I.rdbox 0 rfl 0 1) rfl rfl) ?_
        refine Ops.nil ?_
        refine WPI.cond rfl (fun hneg => ?_) (fun hneg => ?_)
        · refine WPI.region (by kernel_rfl) ?_
          refine Ops.y (v := .int .i64 _) (Y.move rfl) ?_
          refine Ops.y (v := .int .i64 _) (Y.addi rfl rfl ⟨by omega, by omega⟩) ?_
          refine Ops.y (v := .int .i64 _) (Y.assign rfl) ?_
          refine Ops.nil ?_
          exact ⟨(), ⟨rfl, rfl, rfl, rfl, rfl, rfl, by simp only [lst, ng, hneg]; rfl, trivial⟩, I⟩
        · refine WPI.skip ?_
          exact ⟨(), ⟨rfl, rfl, rfl, rfl, rfl, rfl, by simp only [lst, ng, hneg, Bool.false_eq_true, if_false, Int.add_zero]; rfl, trivial⟩, I⟩
      rintro _ e W2 I
      refine WPI.seq ?_
      refine WPI.seq ?_
      refine WPI.region (by kernel_rfl) ?_
      refine Ops.y (v := .int .i64 _) (Y.move rfl) ?_
      refine Ops.y (v := .slice _ _ _) (Y.loadv ty_78 rfl (I.rdbox 1 rfl 0 1) rfl rfl) ?_
      refine Ops.y (v := .int .i64 _) (Y.move rfl) ?_
      refine Ops.y (v := .pointer (some ⟨_, _, none⟩)) (Y.idx Tryz.underlying78 Tryz.sizeOf3 rfl rfl hh.1 hh.2) ?_
      refine Ops.y (v := .int .i64 _) (Y.loadv ty_3 rfl (I.rdL 2 rfl (by omega) (lv_some g.len hh.1 hh.2)) rfl rfl) ?_
      refine Ops.y (v := .bool (decide _)) (Y.lei rfl rfl) ?_
      refine Ops.nil ?_
      refine WPI.cond_dec rfl (fun h8 => ?_) (fun h8 => ?_)
      · refine WPI.exit ?_
        exact ⟨hg, L, [box b6 c.2.enc 68], Heap.le.refl _, I, rfl, fun j hj c' hc' => by
          rcases Nat.lt_succ_iff_lt_or_eq.1 hj with h' | rfl
          · exact hsat j h' c' hc'
          · rw [hx] at hc'; cases hc'; exact h8⟩
      refine WPI.skip ?_
      refine WPI.seq ?_
      refine WPI.seq ?_
      refine WPI.region (by kernel_rfl) ?_
      refine Ops.y (v := .int .i64 _) (Y.move rfl) ?_
      refine Ops.y (v := .pointer (some ⟨_, _, none⟩)) (Y.fa0 fa_25_0 rfl) ?_
      refine Ops.y (v := .slice _ _ _) (Y.loadv ty_22 rfl (I.rdbox 5 rfl 0 1) rfl rfl) ?_
      refine Ops.y (v := .int .i64 _) (Y.lens Tryz.underlying22 rfl) ?_
      refine Ops.y (v := .bool (decide _)) (Y.gei rfl rfl) ?_
      refine Ops.nil ?_
      refine WPI.cond_dec rfl (fun h9 => ?_) (fun h9 => ?_)
      · refine WPI.seq ?_
        refine WPI.region (by kernel_rfl) ?_
        refine Ops.go (O.store (v := .slice _ _ _) I ty_78 4 rfl rfl rfl rfl rfl rfl (Nat.le_of_ble_eq_true rfl) rfl ?_)
        intro w I
        refine Ops.go (O.store (v := .bool _) I ty_4 3 rfl rfl rfl rfl rfl rfl (Nat.le_of_ble_eq_true rfl) rfl ?_)
        intro w I
        refine Ops.nil ?_
        refine WPI.ret ?_
        repeat (first | refine thenE_ret ?_ | refine blockE_ret ?_)
        exact ⟨hg, L, [box b6 c.2.enc 68], Heap.le.refl _, I, rfl, g.fail hr hc h9⟩
      refine WPI.skip ?_
      refine WPI.seq ?_
      refine WPI.region (by kernel_rfl) ?_
      refine Ops.y (v := .slice _ _ _) (Y.loadv ty_78 rfl (I.rdbox 1 rfl 0 1) rfl rfl) ?_
      refine Ops.y (v := .int .i64 _) (Y.move rfl) ?_
      refine Ops.y (v := .int .i64 _) (Y.move rfl) ?_
      refine Ops.y (v := .pointer (some ⟨_, _, none⟩)) (Y.idx Tryz.underlying78 Tryz.sizeOf3 rfl rfl hh.1 hh.2) ?_
      refine Ops.go (O.store1 I ty_3 2 rfl rfl (i := c.1.toNat) (by omega) (by rw [g.len]; omega) rfl rfl rfl ?_)
      intro w I
      refine Ops.nil ?_
      refine WPI.goto ?_
      exact ⟨hg, L.set c.1.toNat (lst L c), [box b6 c.2.enc 68], Heap.le.refl _, I, rfl, c, hc, rfl, by omega, by omega⟩
    · rintro D h3 L' W gl I ⟨hL, hsat⟩
      obtain rfl : L = L' := hL.symm
      refine WPD.seq ?_
      refine WPD.region ?_
      refine Ops.y (v := .slice _ _ _) (Y.loadv ty_78 rfl (I.rdbox 0 rfl 0 1) rfl rfl) ?_
      refine Ops.go (O.store (v := .slice _ _ _) I ty_78 3 rfl rfl rfl rfl rfl rfl (Nat.le_of_ble_eq_true rfl) rfl ?_)
      intro w I
      refine Ops.go (O.store (v := .bool _) I ty_4 2 rfl rfl rfl rfl rfl rfl (Nat.le_of_ble_eq_true rfl) rfl ?_)
      intro w I
      refine Ops.nil ?_
      refine WPD.ret ?_
      repeat (first | refine thenD_ret ?_ | refine blockD_ret ?_)
      have hbo := I.at 1 rfl
      obtain ⟨h4, le4, hb4, I⟩ := (I.front 1 rfl).settle
      have hs : ∀ c ∈ usesL p.rules.xs, SatC L c := fun c hc => by
        obtain ⟨j, hj, rfl⟩ := List.getElem_of_mem hc
        exact hsat j hj _ (List.getElem?_eq_getElem hj)
      show doneQ _ _ _ _ _ _ _ _
      exact ⟨.inl rfl, D :: ms, [box b4 [.slice (some ⟨bo, 0, none⟩) p.preds.xs.length p.preds.xs.length] 78, box b3 [.bool true] 4, box b2 [.slice (some ⟨bo, 0, none⟩) p.preds.xs.length p.preds.xs.length] 78, box b1 p.enc 25], h4,
        [.slice (some ⟨bo, 0, none⟩) p.preds.xs.length p.preds.xs.length, .bool true], rfl, I, fun w2 I2 => ⟨⟨b2, 0, 1, false, _, rfl, ty_78, I2.rdbox 2 rfl 0 1, rfl, rfl⟩, ⟨b3, 0, 1, false, _, rfl, ty_4, I2.rdbox 1 rfl 0 1, rfl, rfl⟩, trivial⟩,
        .inl ⟨⟨some ⟨bo, 0, none⟩, p.preds.xs.length, L⟩, g.done hs, boxIs ((hb4 bo (by simp [box])).trans hbo) (by rw [g.len]; omega), by simp [tup, Sl.val, g.len]⟩⟩
    · rintro D c h3 L' W gl I hx
      cases c with
      | ret =>
        obtain ⟨hL, hno⟩ := hx
        obtain rfl : L = L' := hL.symm
        refine blockD_ret (thenD_ret ?_)
        show doneQ _ _ _ _ _ _ _ _
        exact ⟨.inl rfl, D :: ms, LevU ⟨bo, b4, L, ms⟩ b3 b2 b1 p L, h3, [.slice none 0 0, .bool false], rfl, I, fun w2 I2 => ⟨⟨b2, 0, 1, false, _, rfl, ty_78, I2.rdbox 3 rfl 0 1, rfl, rfl⟩, ⟨b3, 0, 1, false, _, rfl, ty_4, I2.rdbox 2 rfl 0 1, rfl, rfl⟩, trivial⟩, .inr ⟨hno, rfl⟩⟩
      | goto t =>
        obtain ⟨rfl, c, hc, rfl, k1, k2⟩ := hx
        have hh := hr.h c hc
        exact (show (0 = 0 ∧ _) from ⟨rfl, ⟨bo, b4, L.set c.1.toNat (lst L c), D :: ms⟩, ⟨⟨rfl, rfl, rfl, rfl, trivial⟩, rfl, ⟨⟨h3, (gl1.trans le2).trans gl, I⟩, g.raise hr hc, fun i h0 h1 => by
          rw [lv_set hh.1 (by rw [g.len]; exact hh.2) _ _ h0]; split
          · exact k2
          · exact hlt i h0 h1⟩⟩, pot_set_lt hh.1 (by rw [g.len]; exact hh.2) k1 (hlt _ hh.1 hh.2)⟩)
      | exit id => exact hx.elim
end Go.TF
end
