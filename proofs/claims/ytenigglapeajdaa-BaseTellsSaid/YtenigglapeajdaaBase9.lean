/- Regions that draw their order: fresh pieces may be made in them, and what stands at their end may write. One walk in the order of the text serves every order. -/
import Derived.Test.YtenigglapeajdaaBase8
import Derived.Laws.StructEq
namespace Go.TF
open Go Go.RowKit

abbrev Sp := Value → Heap → Prop
def lk (ops : Array Oper) (o : Oper) (d : Nat) : Bool := (o.looksAt ops).contains d
def wt (o : Oper) (j : Nat) : Bool := o.after.toList.any fun e => Region.binds .any e && e.on == j
def Waits (L : Nat → Prop) (o : Oper) : Prop := ∀ e ∈ o.after, Region.binds .any e = true → L e.on
def Closed (ops : Array Oper) (L : Nat → Prop) : Prop := ∀ i o, ops[i]? = some o → L i → Waits L o
structure Flow (ops : Array Oper) (m : Nat) : Prop where
  sel : Region.noSelect ops = true
  le : m ≤ ops.size
  back : ∀ i o, ops[i]? = some o → ∀ e ∈ o.after, Region.binds .any e = true → e.on < i
  dist : ∀ i j oi oj d, i < m → j < m → ops[i]? = some oi → ops[j]? = some oj → oi.dst = some d → oj.dst = some d → i = j
  reads : ∀ i j oi oj d, i < m → j < m → i ≠ j → ops[i]? = some oi → ops[j]? = some oj → oj.dst = some d → d ∈ oi.looksAt ops → (j < i → wt oi j = true) ∧ (i < j → wt oj i = true)
  tail : ∀ L, Closed ops L → ∀ i oi, m ≤ i → ops[i]? = some oi → Waits L oi → ∀ j, j < i → L j

theorem wt_L {L : Nat → Prop} {o : Oper} {j : Nat} (h : wt o j = true) (hw : Waits L o) : L j := by
  unfold wt at h
  rw [List.any_eq_true] at h
  obtain ⟨e, he, h⟩ := h
  simp only [Bool.and_eq_true, beq_iff_eq] at h
  rw [← h.2]; exact hw e (by simpa using he) h.1

/-! ### The check -/
def fold1 (acc : List Nat) (l : List Edge) (s : Nat) : Nat := l.foldl (fun s e => bif Region.binds .any e then s ||| (2 ^ e.on) ||| acc.getD e.on 0 else s) s
def masks : List Oper → List Nat → List Nat
  | [], acc => acc
  | o :: r, acc => masks r (acc ++ [fold1 acc o.after.toList 0])
theorem fold1_spec (acc : List Nat) : ∀ (l : List Edge) (s j : Nat), (fold1 acc l s).testBit j = true → s.testBit j = true ∨ ∃ e ∈ l, Region.binds .any e = true ∧ (j = e.on ∨ (acc.getD e.on 0).testBit j = true)
  | [], s, j, h => .inl h
  | e :: l, s, j, h => by
    simp only [fold1, List.foldl_cons] at h
    have h' := fold1_spec acc l _ j h
    rcases h' with h' | ⟨e', he', hb, hh⟩
    · cases hb : Region.binds .any e
      · rw [hb] at h'; exact .inl h'
      · rw [hb] at h'
        simp only [cond_true, Nat.testBit_or, Bool.or_eq_true] at h'
        rcases h' with (h' | h') | h'
        · exact .inl h'
        · rw [Nat.testBit_two_pow] at h'; exact .inr ⟨e, List.mem_cons_self .., hb, .inl (by simpa using (of_decide_eq_true h').symm)⟩
        · exact .inr ⟨e, List.mem_cons_self .., hb, .inr h'⟩
    · exact .inr ⟨e', List.mem_cons_of_mem _ he', hb, hh⟩
theorem masks_spec {ops : Array Oper} {L : Nat → Prop} (hc : Closed ops L) : ∀ (l : List Oper) (acc : List Nat), (∀ j, l[j]? = ops[acc.length + j]?) →
    (∀ i o, i < acc.length → ops[i]? = some o → Waits L o → ∀ j, (acc.getD i 0).testBit j = true → L j) →
    ∀ i o, i < acc.length + l.length → ops[i]? = some o → Waits L o → ∀ j, ((masks l acc).getD i 0).testBit j = true → L j
  | [], acc, _, h => by simpa [masks] using h
  | o :: l, acc, hl, h => by
    have h0 : ops[acc.length]? = some o := by simpa using (hl 0).symm
    simp only [masks]
    have ih := masks_spec hc l (acc ++ [fold1 acc o.after.toList 0]) (fun j => by
      have := hl (j + 1)
      simp only [List.getElem?_cons_succ] at this
      rw [this, List.length_append, List.length_singleton]; congr 1; omega) ?_
    · intro i oi hi; exact ih i oi (by simp only [List.length_append, List.length_cons, List.length_nil] at *; omega)
    · intro i oi hi hoi hw j hj
      simp only [List.length_append, List.length_singleton] at hi
      by_cases hlt : i < acc.length
      · refine h i oi hlt hoi hw j ?_
        simpa [List.getD_eq_getElem?_getD, List.getElem?_append_left hlt] using hj
      · have hi' : i = acc.length := by omega
        subst hi'
        rw [h0] at hoi; cases hoi
        have hj' : (fold1 acc o.after.toList 0).testBit j = true := by simpa [List.getD_eq_getElem?_getD] using hj
        rcases fold1_spec acc _ _ _ hj' with h1 | ⟨e, he, hb, h1⟩
        · simp at h1
        · have hLe : L e.on := hw e (by simpa using he) hb
          rcases h1 with rfl | h1
          · exact hLe
          · by_cases hlt : e.on < acc.length
            · cases hoe : ops[e.on]? with
              | none =>
                have : acc.length < ops.size := (Array.getElem?_eq_some_iff.1 h0).1
                have := Array.getElem?_eq_none_iff.1 hoe; omega
              | some oe => exact h e.on oe hlt hoe (hc _ _ hoe hLe) j h1
            · rw [List.getD_eq_getElem?_getD, List.getElem?_eq_none (by omega)] at h1; simp at h1
def optEq (a b : Option Nat) : Bool := match a, b with | some x, some y => Nat.beq x y | _, _ => false
theorem optEq_some {a b : Option Nat} {d : Nat} (ha : a = some d) (hb : b = some d) : optEq a b = true := by subst ha; subst hb; simp [optEq]
def flowB (ops : Array Oper) (m : Nat) : Bool :=
  Region.noSelect ops && Nat.ble m ops.size &&
  (ops.toList.zipIdx.all fun p => p.1.after.toList.all fun e => !Region.binds .any e || Nat.blt e.on p.2) &&
  ((ops.toList.take m).zipIdx.all fun p => (ops.toList.take m).zipIdx.all fun q => Nat.beq p.2 q.2 ||
    (!optEq p.1.dst q.1.dst && (match q.1.dst with | some d => !lk ops p.1 d || (bif Nat.blt q.2 p.2 then wt p.1 q.2 else wt q.1 p.2) | none => true))) &&
  (let ms := masks ops.toList []
   ops.toList.zipIdx.all fun p => Nat.blt p.2 m || ((ms.getD p.2 0) &&& (2 ^ p.2 - 1)) == 2 ^ p.2 - 1)
theorem flow_of {ops : Array Oper} {m : Nat} (h : flowB ops m = true) : Flow ops m := by
  simp only [flowB, Bool.and_eq_true, List.all_eq_true] at h
  obtain ⟨⟨⟨⟨h1, h2⟩, h3⟩, h4⟩, h5⟩ := h
  have mem : ∀ {i : Nat} {o : Oper}, ops[i]? = some o → (o, i) ∈ ops.toList.zipIdx := fun {i o} ho => by
    rw [List.mem_zipIdx_iff_getElem?]; simpa using ho
  have memT : ∀ {i : Nat} {o : Oper}, i < m → ops[i]? = some o → (o, i) ∈ (ops.toList.take m).zipIdx := fun {i o} hi ho => by
    rw [List.mem_zipIdx_iff_getElem?, List.getElem?_take, if_pos hi]; simpa using ho
  refine ⟨h1, Nat.le_of_ble_eq_true h2, fun i o ho e he hb => ?_, fun i j oi oj d hi hj ho ho' hd hd' => ?_, fun i j oi oj d hi hj hne ho ho' hd hl => ?_, fun L hL i oi hi ho hw j hj => ?_⟩
  · have := h3 _ (mem ho) e (by simpa using he)
    rw [hb] at this
    simp [Nat.blt] at this
    omega
  · have := h4 _ (memT hi ho) _ (memT hj ho')
    rw [optEq_some hd hd'] at this
    simpa using this
  · have := h4 _ (memT hi ho) _ (memT hj ho')
    have hne' : Nat.beq i j = false := by cases hb : Nat.beq i j; rfl; exact absurd (Nat.eq_of_beq_eq_true hb) hne
    have hlk : lk ops oi d = true := by simpa [lk] using hl
    simp only [hne', hd, hlk, Bool.false_or, Bool.not_true, Bool.and_eq_true] at this
    have := this.2
    refine ⟨fun hlt => ?_, fun hlt => ?_⟩
    · have hb : Nat.blt j i = true := by simp [Nat.blt]; omega
      rwa [hb] at this
    · have hb : Nat.blt j i = false := by
        cases hb : Nat.blt j i
        · rfl
        · have := Nat.le_of_ble_eq_true hb; omega
      rwa [hb] at this
  · have := h5 _ (mem ho)
    simp only [Bool.or_eq_true, beq_iff_eq] at this
    rcases this with hb | hb
    · have := Nat.le_of_ble_eq_true hb; omega
    · have hbit : ((masks ops.toList []).getD i 0).testBit j = true := by
        have h6 := congrArg (fun x => Nat.testBit x j) hb
        simp only [Nat.testBit_and, Nat.testBit_two_pow_sub_one, hj, decide_true, Bool.and_true] at h6
        exact h6
      exact masks_spec hL ops.toList [] (fun j => by simp) (fun i o hi => by simp at hi) i oi (by simpa using (Array.getElem?_eq_some_iff.1 ho).1) ho hw j hbit

/-! ### The first part, in the order of the text -/
def ovr (e : Env) : List (Nat × Sp) → Env → Env
  | [], _ => e
  | p :: L, us => upd (ovr e L us) p.1 (us p.1)
def AllL (c : Nat → Bool) (h : Heap) : List (Nat × Sp) → Env → (Env → Prop) → Prop
  | [], e, k => k e
  | p :: L, e, k => AllL c h L e fun e' => ∀ u, (c p.1 = true → p.2 u h) → k (upd e' p.1 u)
theorem AllL.get {c : Nat → Bool} {h : Heap} : ∀ {L : List (Nat × Sp)} {e : Env} {k : Env → Prop}, AllL c h L e k → ∀ us, (∀ p ∈ L, c p.1 = true → p.2 (us p.1) h) → k (ovr e L us)
  | [], _, _, a, _, _ => a
  | _ :: L, _, _, a, us, hp => AllL.get (L := L) a us (fun q hq => hp q (List.mem_cons_of_mem _ hq)) (us _) (hp _ (List.mem_cons_self ..))
def MonoS (Φ : Sp) : Prop := ∀ u h h', h.le h' → Φ u h → Φ u h'
def Obl (P : Program) (full : Array Oper) (B : Base) (M : List SA) (h0 : Heap) (L : List (Nat × Sp)) (e : Env) (o : Oper) (Φ : Sp) : Prop :=
  ∀ h1 w, h0.le h1 → Inv B h1 M w → AllL (lk full o) h1 L e fun e' => Op1 P o e' w fun u w' => ∃ h2, h1.le h2 ∧ Inv B h2 M w' ∧ Φ u h2
def OpsF (P : Program) (full : Array Oper) (B : Base) (M : List SA) (h0 : Heap) : List (Nat × Sp) → List Oper → Env → (List (Nat × Sp) → Env → Prop) → Prop
  | L, [], e, K => K L e
  | L, o :: r, e, K =>
    ((∀ us, runs full (ovr e L us) o = false) ∧ OpsF P full B M h0 L r (updo e o.dst undef) K) ∨
    ((∀ us, runs full (ovr e L us) o = true) ∧
      ((∃ v, Obl P full B M h0 L e o (fun u _ => u = v) ∧ OpsF P full B M h0 L r (updo e o.dst v) K) ∨
       (∃ d Φ, o.dst = some d ∧ MonoS Φ ∧ Obl P full B M h0 L e o Φ ∧ OpsF P full B M h0 ((d, Φ) :: L) r e K)))

def dstO (ops : Array Oper) (j : Nat) : Option Nat := (ops[j]?).bind (·.dst)
theorem upd_eq (e : Env) (d : Nat) (v : Value) : upd e d v d = v := by simp [upd]
theorem upd_ne (e : Env) {d i : Nat} (v : Value) (h : i ≠ d) : upd e d v i = e i := by
  unfold upd
  cases hb : Nat.beq i d
  · rfl
  · exact absurd (Nat.eq_of_beq_eq_true hb) h
theorem ovr_notin {e us : Env} {d : Nat} : ∀ {L : List (Nat × Sp)}, (∀ p ∈ L, p.1 ≠ d) → ovr e L us d = e d
  | [], _ => rfl
  | p :: L, h => by
    simp only [ovr]
    rw [upd_ne _ _ (Ne.symm (h p (List.mem_cons_self ..)))]
    exact ovr_notin fun q hq => h q (List.mem_cons_of_mem _ hq)
theorem ovr_upd_ne {e us : Env} {d i : Nat} {v : Value} (h : i ≠ d) : ∀ (L : List (Nat × Sp)), ovr (upd e d v) L us i = ovr e L us i
  | [] => upd_ne _ _ h
  | p :: L => by
    simp only [ovr]
    by_cases hp : i = p.1
    · subst hp; rw [upd_eq, upd_eq]
    · rw [upd_ne _ _ hp, upd_ne _ _ hp, ovr_upd_ne h L]
theorem runs_congr {ops : Array Oper} {o : Oper} {f g : Env} (h : ∀ d ∈ o.looksAt ops, f d = g d) : runs ops f o = runs ops g o := by
  unfold runs
  cases hg : o.guard with
  | none => rfl
  | some p =>
    obtain ⟨j, want⟩ := p
    simp only
    unfold yieldE
    cases hd : (ops[j]?).bind (·.dst) with
    | none => rfl
    | some d =>
      simp only
      rw [h d (by simp [Oper.looksAt, hg, hd])]
theorem Op1_congr {P : Program} {ops : Array Oper} {o : Oper} {f g : Env} {w : World} {K : Value → World → Prop} (hs : ∀ cs b, o.op ≠ .select cs b) (h : ∀ d ∈ o.looksAt ops, f d = g d) (k : Op1 P o f w K) : Op1 P o g w K := by
  unfold Op1 at *
  rw [execOp_congr o hs (ρ' := ev f)]
  · exact k
  · intro x hx
    cases x with
    | tmp t => exact (h t (List.mem_append_left _ (List.mem_filterMap.2 ⟨.tmp t, by simpa using hx, rfl⟩))).symm
    | _ => rfl

section
variable (P : Program) (ops : Array Oper) (B : Base) (M : List SA) (h0 : Heap) (e0 : Env)
def OkF (Ss : List Sp) (k : Nat) (f : Env) (h : Heap) (d : Nat) : Prop :=
  (∀ j Φ, j < k → dstO ops j = some d → Ss[j]? = some Φ → Φ (f d) h) ∧ ((∀ j, j < k → dstO ops j ≠ some d) → f d = e0 d)
structure RelF (Ss : List Sp) (L : List (Nat × Sp)) (e : Env) : Prop where
  eq : ∀ f h d, OkF ops e0 Ss Ss.length f h d → ovr e L f d = f d
  sub : ∀ p ∈ L, ∃ k, k < Ss.length ∧ dstO ops k = some p.1 ∧ Ss[k]? = some p.2
def LSF (Ss : List Sp) (i : Nat) : Prop := ∀ o Φ f h1 w, ops[i]? = some o → Ss[i]? = some Φ → h0.le h1 → Inv B h1 M w → (∀ d ∈ o.looksAt ops, OkF ops e0 Ss i f h1 d) →
  (runs ops f o = true → Op1 P o f w fun u w' => ∃ h2, h1.le h2 ∧ Inv B h2 M w' ∧ Φ u h2) ∧ (runs ops f o = false → Φ undef h1)
end
section
variable {P : Program} {ops : Array Oper} {B : Base} {M : List SA} {h0 : Heap} {e0 : Env} {m : Nat}
theorem get_snoc {α : Type} {l : List α} {a : α} {k : Nat} (h : k < l.length) : (l ++ [a])[k]? = l[k]? := List.getElem?_append_left h
theorem OkF.snoc {Ss : List Sp} {Φ : Sp} {k : Nat} {f : Env} {h : Heap} {d : Nat} (hk : k ≤ Ss.length) : OkF ops e0 (Ss ++ [Φ]) k f h d ↔ OkF ops e0 Ss k f h d := by
  unfold OkF
  refine and_congr ⟨fun a j Ψ hj h1 h2 => a j Ψ hj h1 (by rw [get_snoc (by omega)]; exact h2), fun a j Ψ hj h1 h2 => a j Ψ hj h1 (by rw [get_snoc (by omega)] at h2; exact h2)⟩ Iff.rfl
theorem LSF.snoc {Ss : List Sp} {Φ : Sp} {k : Nat} (hk : k < Ss.length) (h : LSF P ops B M h0 e0 Ss k) : LSF P ops B M h0 e0 (Ss ++ [Φ]) k := by
  intro o Ψ f h1 w ho hp hl I hd
  rw [get_snoc hk] at hp
  exact h o Ψ f h1 w ho hp hl I fun d hm => (OkF.snoc (by omega)).1 (hd d hm)
theorem OpsF.sound (hF : Flow ops m) : ∀ (l : List Oper) (Ss : List Sp) (L : List (Nat × Sp)) (e : Env) (K : List (Nat × Sp) → Env → Prop), (∀ j, l[j]? = (ops.toList.take m)[Ss.length + j]?) → Ss.length + l.length = m →
    RelF ops e0 Ss L e → (∀ k, k < Ss.length → LSF P ops B M h0 e0 Ss k) → (∀ Φ ∈ Ss, MonoS Φ) → OpsF P ops B M h0 L l e K →
    ∃ Ss' L' e', Ss'.length = m ∧ RelF ops e0 Ss' L' e' ∧ (∀ k, k < m → LSF P ops B M h0 e0 Ss' k) ∧ (∀ Φ ∈ Ss', MonoS Φ) ∧ K L' e'
  | [], Ss, L, e, K, _, hm, hr, hs, hmo, h => ⟨Ss, L, e, by simpa using hm, hr, by simpa [← hm] using hs, hmo, h⟩
  | o :: r, Ss, L, e, K, hl, hm, hr, hs, hmo, h => by
    simp only [List.length_cons] at hm
    have hi : ops[Ss.length]? = some o := by
      have := hl 0
      simp only [List.getElem?_cons_zero, Nat.add_zero, List.getElem?_take] at this
      rw [if_pos (by omega)] at this
      simpa using this.symm
    have hdst : dstO ops Ss.length = o.dst := by simp [dstO, hi]
    have hdist : ∀ k d, k < Ss.length → dstO ops k = some d → o.dst ≠ some d := fun k d hk hd hod => by
      cases hok : ops[k]? with
      | none => simp [dstO, hok] at hd
      | some ok =>
        simp [dstO, hok] at hd
        have := hF.dist k Ss.length ok o d (by omega) (by omega) hok hi hd hod
        omega
    have hagree : ∀ f h1, (∀ d ∈ o.looksAt ops, OkF ops e0 Ss Ss.length f h1 d) → ∀ d ∈ o.looksAt ops, ovr e L f d = f d := fun f h1 hd d hdm => hr.eq f h1 d (hd d hdm)
    have hLd : ∀ f h1, (∀ d ∈ o.looksAt ops, OkF ops e0 Ss Ss.length f h1 d) → ∀ p ∈ L, lk ops o p.1 = true → p.2 (f p.1) h1 := fun f h1 hd p hp hk => by
      obtain ⟨k, k1, k2, k3⟩ := hr.sub p hp
      exact (hd p.1 (by simpa [lk] using hk)).1 k p.2 k1 k2 k3
    have next : ∀ Φ L1 e1, MonoS Φ → LSF P ops B M h0 e0 (Ss ++ [Φ]) Ss.length → RelF ops e0 (Ss ++ [Φ]) L1 e1 → OpsF P ops B M h0 L1 r e1 K →
        ∃ Ss' L' e', Ss'.length = m ∧ RelF ops e0 Ss' L' e' ∧ (∀ k, k < m → LSF P ops B M h0 e0 Ss' k) ∧ (∀ Φ ∈ Ss', MonoS Φ) ∧ K L' e' := fun Φ L1 e1 hΦ hls hrel hops => by
      refine OpsF.sound hF r (Ss ++ [Φ]) L1 e1 K (fun j => ?_) (by simp; omega) hrel (fun k hk => ?_) (fun Ψ hΨ => ?_) hops
      · have := hl (j + 1)
        simp only [List.getElem?_cons_succ] at this
        rw [this, List.length_append, List.length_cons, List.length_nil]; congr 1; omega
      · simp only [List.length_append, List.length_cons, List.length_nil] at hk
        by_cases hk' : k < Ss.length
        · exact (hs k hk').snoc hk'
        · have : k = Ss.length := by omega
          subst this; exact hls
      · rcases List.mem_append.1 hΨ with h1 | h1
        · exact hmo Ψ h1
        · simp at h1; subst h1; exact hΦ
    have relV : ∀ v (Φ : Sp), (∀ u h1, Φ u h1 → u = v) → RelF ops e0 (Ss ++ [Φ]) L (updo e o.dst v) := fun v Φ hΦ => by
      refine ⟨fun f h1 d hok => ?_, fun p hp => ?_⟩
      · cases hod : o.dst with
        | none =>
          refine hr.eq f h1 d ?_
          refine ⟨fun j Ψ hj a b => hok.1 j Ψ (by simp; omega) a (by rw [get_snoc hj]; exact b), fun hn => hok.2 fun j hj => ?_⟩
          simp only [List.length_append, List.length_cons, List.length_nil] at hj
          by_cases hj' : j < Ss.length
          · exact hn j hj'
          · have : j = Ss.length := by omega
            subst this; rw [hdst, hod]; exact fun hh => by cases hh
        | some t =>
          simp only [updo]
          by_cases hdt : d = t
          · subst hdt
            rw [ovr_notin, upd_eq]
            · exact (hΦ _ h1 (hok.1 Ss.length Φ (by simp) (by rw [hdst, hod]) (by simp))).symm
            · intro p hp hpd
              obtain ⟨k, k1, k2, _⟩ := hr.sub p hp
              exact hdist k _ k1 k2 (by rw [hod, hpd])
          · rw [ovr_upd_ne hdt]
            refine hr.eq f h1 d ⟨fun j Ψ hj a b => hok.1 j Ψ (by simp; omega) a (by rw [get_snoc hj]; exact b), fun hn => hok.2 fun j hj => ?_⟩
            simp only [List.length_append, List.length_cons, List.length_nil] at hj
            by_cases hj' : j < Ss.length
            · exact hn j hj'
            · have : j = Ss.length := by omega
              subst this; rw [hdst, hod]; exact fun hh => by cases hh; exact hdt rfl
      · obtain ⟨k, k1, k2, k3⟩ := hr.sub p hp
        exact ⟨k, by simp; omega, k2, by rw [get_snoc k1]; exact k3⟩
    have hsel := fun cs b => Region.noSelect_spec hF.sel Ss.length o cs b hi
    simp only [OpsF] at h
    rcases h with ⟨hru, h⟩ | ⟨hru, ⟨v, hob, h⟩ | ⟨d, Φ, hod, hΦ, hob, h⟩⟩
    · refine next (fun u _ => u = undef) L _ (fun _ _ _ _ e => e) ?_ (relV undef _ fun _ _ e => e) h
      intro o' Φ' f h1 w ho' hp' hl1 I hd
      rw [hi] at ho'; cases ho'
      simp at hp'; subst hp'
      have hd' := fun d hm => (OkF.snoc (Nat.le_refl _)).1 (hd d hm)
      refine ⟨fun hrt => ?_, fun _ => rfl⟩
      rw [← runs_congr (hagree f h1 hd'), hru] at hrt
      cases hrt
    · refine next (fun u _ => u = v) L _ (fun _ _ _ _ e => e) ?_ (relV v _ fun _ _ e => e) h
      intro o' Φ' f h1 w ho' hp' hl1 I hd
      rw [hi] at ho'; cases ho'
      simp at hp'; subst hp'
      have hd' := fun d hm => (OkF.snoc (Nat.le_refl _)).1 (hd d hm)
      refine ⟨fun _ => Op1_congr hsel (hagree f h1 hd') ((hob h1 w hl1 I).get f (hLd f h1 hd')), fun hrf => ?_⟩
      rw [← runs_congr (hagree f h1 hd'), hru] at hrf
      cases hrf
    · refine next Φ ((d, Φ) :: L) e hΦ ?_ ⟨fun f h1 i hok => ?_, fun p hp => ?_⟩ h
      · intro o' Φ' f h1 w ho' hp' hl1 I hd
        rw [hi] at ho'; cases ho'
        simp at hp'; subst hp'
        have hd' := fun d hm => (OkF.snoc (Nat.le_refl _)).1 (hd d hm)
        refine ⟨fun _ => Op1_congr hsel (hagree f h1 hd') ((hob h1 w hl1 I).get f (hLd f h1 hd')), fun hrf => ?_⟩
        rw [← runs_congr (hagree f h1 hd'), hru] at hrf
        cases hrf
      · simp only [ovr]
        by_cases hdt : i = d
        · subst hdt; rw [upd_eq]
        · rw [upd_ne _ _ hdt]
          refine hr.eq f h1 i ⟨fun j Ψ hj a b => hok.1 j Ψ (by simp; omega) a (by rw [get_snoc hj]; exact b), fun hn => hok.2 fun j hj => ?_⟩
          simp only [List.length_append, List.length_cons, List.length_nil] at hj
          by_cases hj' : j < Ss.length
          · exact hn j hj'
          · have : j = Ss.length := by omega
            subst this; rw [hdst, hod]; exact fun hh => by cases hh; exact hdt rfl
      · rcases List.mem_cons.1 hp with rfl | hp
        · exact ⟨Ss.length, by simp, by rw [hdst, hod], by simp⟩
        · obtain ⟨k, k1, k2, k3⟩ := hr.sub p hp
          exact ⟨k, by simp; omega, k2, by rw [get_snoc k1]; exact k3⟩

/-! ### Every order -/
theorem getD_tf {l : Array Bool} {i : Nat} (h : i < l.size) : l.getD i true = l.getD i false := by simp [h]
theorem count_set {l : Array Bool} {i : Nat} (h : i < l.size) (hf : l.getD i true = false) : (l.setIfInBounds i true).count false + 1 = l.count false := by
  have h1 : l[i] = false := by simpa [h] using hf
  rw [show l.setIfInBounds i true = l.set i true h by simp [Array.setIfInBounds, h], Array.count_set]
  have : 0 < l.count false := Array.count_pos_iff.2 (h1 ▸ Array.getElem_mem h)
  simp [h1]; omega
theorem set_getD {l : Array Bool} {i j : Nat} (hi : i < l.size) : (l.setIfInBounds i true).getD j false = true ↔ j = i ∨ l.getD j false = true := by
  by_cases h : i = j
  · subst h; simp [hi]
  · rw [getD_set_ne false h]; exact ⟨.inr, fun h' => h'.resolve_left (Ne.symm h)⟩
structure StF (ops : Array Oper) (m : Nat) (B : Base) (M : List SA) (h0 : Heap) (e0 : Env) (Ss : List Sp) (N : Nat) (D : List Deferred) (l : Array Bool) (a : Act) (w : World) : Prop where
  size : l.size = ops.size
  closed : Closed ops fun j => l.getD j false = true
  tail : ∀ j, m ≤ j → l.getD j false ≠ true
  n : a.tmps.size = N
  d : a.defers = D
  st : ∃ h, h0.le h ∧ Inv B h M w ∧ ∀ d, (∀ j Φ, j < m → l.getD j false = true → dstO ops j = some d → Ss[j]? = some Φ → Φ (env a d) h) ∧ ((∀ j, j < m → l.getD j false = true → dstO ops j ≠ some d) → env a d = e0 d)
theorem wpOp_of {Q : Exit → Act → World → Prop} {i : Nat} {o : Oper} {a : Act} {w : World} {K : Act → World → Prop} (hi : ops[i]? = some o)
    (h : if runs ops (env a) o then Op1 P o (env a) w (fun v w' => K (a.put o.dst v) w') else K (a.put o.dst undef) w) : wpOp P ops Q i K a w := by
  unfold wpOp
  simp only [hi, wanted_env]
  split
  · rename_i hr; rw [if_pos hr] at h; exact .inl (wp_of_Op1 h)
  · rename_i hr; rw [if_neg hr] at h; exact h
theorem flow_tail {Q : Exit → Act → World → Prop} {K : Env → World → Prop} {N : Nat} {D : List Deferred} (hF : Flow ops m) (hds : dstsOk N ops.toList = true) (hQ : ∀ a w, a.tmps.size = N → a.defers = D → K (env a) w → Q .normal a w) :
    ∀ (fuel k : Nat) (l : Array Bool) (a : Act) (w : World), m ≤ k → k ≤ ops.size → ops.size - k ≤ fuel → l.size = ops.size → (∀ j, l.getD j false = true ↔ j < k) → a.tmps.size = N → a.defers = D →
      Ops P ops (ops.toList.drop k) (env a) w K → wpAny P .any ops Q fuel l a w := by
  have done : ∀ (k : Nat) (l : Array Bool) (a : Act) (w : World), k ≤ ops.size → l.size = ops.size → (∀ j, l.getD j false = true ↔ j < k) → a.tmps.size = N → a.defers = D →
      Ops P ops (ops.toList.drop k) (env a) w K → Region.ready .any ops l = [] → Q .normal a w := fun k l a w hk hs hl hn hd h hr => by
    by_cases hlt : k < ops.size
    · have : k ∈ Region.ready .any ops l := by
        refine mem_ready.2 ⟨?_, ops[k], by simp [hlt], fun e he hb => (hl _).2 (hF.back k ops[k] (by simp [hlt]) e he hb)⟩
        rw [getD_tf (by omega)]
        cases hh : l.getD k false
        · rfl
        · exact absurd ((hl k).1 hh) (by omega)
      rw [hr] at this; cases this
    · rw [List.drop_eq_nil_of_le (by simp; omega)] at h
      exact hQ a w hn hd h
  intro fuel
  induction fuel with
  | zero =>
    intro k l a w hmk hk hf hs hl hn hd h
    have hr : Region.ready .any ops l = [] := by
      cases hr : Region.ready .any ops l with
      | nil => rfl
      | cons x xs =>
        have hx : x ∈ Region.ready .any ops l := by rw [hr]; exact List.mem_cons_self ..
        obtain ⟨h1, o, ho, _⟩ := mem_ready.1 hx
        have hlt : x < ops.size := (Array.getElem?_eq_some_iff.1 ho).1
        rw [getD_tf (by omega), (hl x).2 (by omega)] at h1
        cases h1
    exact ⟨hr, done k l a w hk hs hl hn hd h hr⟩
  | succ fuel ih =>
    intro k l a w hmk hk hf hs hl hn hd h
    refine ⟨done k l a w hk hs hl hn hd h, fun i hi => ?_⟩
    obtain ⟨h1, o, ho, h2⟩ := mem_ready.1 hi
    have hlt : i < ops.size := (Array.getElem?_eq_some_iff.1 ho).1
    have hge : k ≤ i := by
      rcases Nat.lt_or_ge i k with h' | h'
      · rw [getD_tf (by omega), (hl i).2 h'] at h1; cases h1
      · exact h'
    have hcl : Closed ops fun j => l.getD j false = true := fun j oj hoj hj e he hb => (hl _).2 (Nat.lt_trans (hF.back j oj hoj e he hb) ((hl j).1 hj))
    have hik : i = k := by
      rcases Nat.lt_or_ge k i with h' | h'
      · have := hF.tail _ hcl i o (by omega) ho h2 k h'
        exact absurd ((hl k).1 this) (by omega)
      · omega
    subst hik
    have hdrop : ops.toList.drop i = o :: ops.toList.drop (i + 1) := by
      have : ops.toList[i]'(by simpa using hlt) = o := by simpa [hlt] using ho
      rw [List.drop_eq_getElem_cons (by simpa using hlt), this]
    rw [hdrop] at h
    have hdo : o.dst.all (· < N) = true := (List.all_eq_true.1 hds) o (by have := Array.mem_of_getElem? ho; simpa using this)
    refine wpOp_of ho ?_
    have step : ∀ v w', Ops P ops (ops.toList.drop (i + 1)) (updo (env a) o.dst v) w' K → wpAny P .any ops Q fuel (l.setIfInBounds i true) (a.put o.dst v) w' := fun v w' hh => by
      refine ih (i + 1) _ _ w' (by omega) (by omega) (by omega) (by simpa using hs) (fun j => ?_) (by rw [size_put, hn]) (by rw [defers_put, hd]) (by rw [env_puto a _ v (by rw [hn]; exact hdo)]; exact hh)
      rw [set_getD (by omega), hl]; omega
    simp only [Ops] at h
    split at h
    · rename_i hr; rw [if_pos hr]; exact h.mono step
    · rename_i hr; rw [if_neg hr]; exact step _ _ h
theorem flow_any {Q : Exit → Act → World → Prop} {K : Env → World → Prop} {N : Nat} {D : List Deferred} {Ss : List Sp} (hF : Flow ops m) (hds : dstsOk N ops.toList = true) (hQ : ∀ a w, a.tmps.size = N → a.defers = D → K (env a) w → Q .normal a w)
    (hSs : Ss.length = m) (hls : ∀ k, k < m → LSF P ops B M h0 e0 Ss k) (hmo : ∀ Φ ∈ Ss, MonoS Φ)
    (hend : ∀ f h1 w, h0.le h1 → Inv B h1 M w → (∀ d, OkF ops e0 Ss m f h1 d) → Ops P ops (ops.toList.drop m) f w K) :
    ∀ (fuel : Nat) (l : Array Bool) (a : Act) (w : World), l.count false ≤ fuel → StF ops m B M h0 e0 Ss N D l a w → wpAny P .any ops Q fuel l a w := by
  have fin : ∀ (l : Array Bool) (a : Act) (w : World), StF ops m B M h0 e0 Ss N D l a w → (∀ j, j < m → l.getD j false = true) → Ops P ops (ops.toList.drop m) (env a) w K := fun l a w S hall => by
    obtain ⟨h, g1, g2, g3⟩ := S.st
    exact hend _ h w g1 g2 fun d => ⟨fun j Φ hj a b => (g3 d).1 j Φ hj (hall j hj) a b, fun hn => (g3 d).2 fun j hj _ => hn j hj⟩
  have nil : ∀ (l : Array Bool) (a : Act) (w : World), StF ops m B M h0 e0 Ss N D l a w → Region.ready .any ops l = [] → Q .normal a w := fun l a w S hr => by
    have least : ∀ n, ∀ j, j < n → j < ops.size → l.getD j false = true := by
      intro n
      induction n with
      | zero => intro j hj; omega
      | succ n ihn =>
        intro j hj hjs
        by_cases hjn : j < n
        · exact ihn j hjn hjs
        · have : j = n := by omega
          subst this
          cases hh : l.getD j false
          · exfalso
            have : j ∈ Region.ready .any ops l := mem_ready.2 ⟨by rw [getD_tf (by rw [S.size]; exact hjs)]; exact hh, ops[j], by simp [hjs], fun e he hb => by
              have := hF.back j ops[j] (by simp [hjs]) e he hb
              exact ihn e.on (by omega) (by omega)⟩
            rw [hr] at this; cases this
          · rfl
    have hms : m = ops.size := by
      rcases Nat.lt_or_ge m ops.size with h' | h'
      · exact absurd (least (m + 1) m (by omega) h') (S.tail m (Nat.le_refl m))
      · have := hF.le; omega
    have := fin l a w S fun j hj => least (j + 1) j (by omega) (by omega)
    rw [List.drop_eq_nil_of_le (by simp; omega)] at this
    exact hQ a w S.n S.d this
  intro fuel
  induction fuel with
  | zero =>
    intro l a w hc S
    have hr : Region.ready .any ops l = [] := by
      cases hr : Region.ready .any ops l with
      | nil => rfl
      | cons x xs =>
        have hx : x ∈ Region.ready .any ops l := by rw [hr]; exact List.mem_cons_self ..
        obtain ⟨h1, o, ho, _⟩ := mem_ready.1 hx
        have hlt : x < l.size := by rw [S.size]; exact (Array.getElem?_eq_some_iff.1 ho).1
        have := count_set hlt h1
        omega
    exact ⟨hr, nil l a w S hr⟩
  | succ fuel ih =>
    intro l a w hc S
    refine ⟨nil l a w S, fun i hi => ?_⟩
    obtain ⟨h1, o, ho, h2⟩ := mem_ready.1 hi
    have hlt : i < ops.size := (Array.getElem?_eq_some_iff.1 ho).1
    have hil : i < l.size := by rw [S.size]; exact hlt
    have hun : l.getD i false ≠ true := by rw [← getD_tf hil, h1]; exact fun h => by cases h
    have hdo : o.dst.all (· < N) = true := (List.all_eq_true.1 hds) o (by have := Array.mem_of_getElem? ho; simpa using this)
    have hcnt := count_set hil h1
    by_cases him : i < m
    · obtain ⟨Φ, hΦ⟩ : ∃ Φ, Ss[i]? = some Φ := ⟨Ss[i]'(by omega), by simp [hSs, him]⟩
      obtain ⟨h, g1, g2, g3⟩ := S.st
      have step : ∀ v w' hh, h.le hh → Inv B hh M w' → Φ v hh → wpAny P .any ops Q fuel (l.setIfInBounds i true) (a.put o.dst v) w' := fun v w' hh hle I hv => by
        refine ih _ _ w' (by omega) ⟨by simpa using S.size, fun j oj hoj hj e he hb => ?_, fun j hj hh' => ?_, by rw [size_put, S.n], by rw [defers_put, S.d], hh, g1.trans hle, I, fun d => ?_⟩
        · simp only [set_getD hil] at hj ⊢
          rcases hj with rfl | hj
          · rw [ho] at hoj; cases hoj; exact .inr (h2 e he hb)
          · exact .inr (S.closed j oj hoj hj e he hb)
        · rw [set_getD hil] at hh'
          rcases hh' with rfl | hh'
          · omega
          · exact S.tail j hj hh'
        · rw [env_puto a _ v (by rw [S.n]; exact hdo)]
          have other : o.dst ≠ some d → updo (env a) o.dst v d = env a d := fun hne => by
            cases hod : o.dst with
            | none => rfl
            | some t => exact upd_ne _ _ fun e => hne (by rw [hod, e])
          by_cases hod : o.dst = some d
          · rw [hod]
            simp only [updo, upd_eq]
            refine ⟨fun j Ψ hj hlj hdj hΨ => ?_, fun hn => absurd (by simp [dstO, ho, hod]) (hn i him (by rw [set_getD hil]; exact .inl rfl))⟩
            cases hoj : ops[j]? with
            | none => simp [dstO, hoj] at hdj
            | some oj =>
              simp [dstO, hoj] at hdj
              have := hF.dist j i oj o d hj him hoj ho hdj hod
              subst this
              rw [hΦ] at hΨ; cases hΨ; exact hv
          · rw [other hod]
            refine ⟨fun j Ψ hj hlj hdj hΨ => ?_, fun hn => (g3 d).2 fun j hj hlj => hn j hj (by rw [set_getD hil]; exact .inr hlj)⟩
            rw [set_getD hil] at hlj
            rcases hlj with rfl | hlj
            · simp [dstO, ho] at hdj; exact absurd hdj hod
            · exact hmo Ψ (List.mem_of_getElem? hΨ) _ h hh hle ((g3 d).1 j Ψ hj hlj hdj hΨ)
      have hok : ∀ d ∈ o.looksAt ops, OkF ops e0 Ss i (env a) h d := fun d hd => by
        refine ⟨fun j Ψ hj hdj hΨ => ?_, fun hn => (g3 d).2 fun j hj hlj hdj => ?_⟩
        · cases hoj : ops[j]? with
          | none => simp [dstO, hoj] at hdj
          | some oj =>
            simp [dstO, hoj] at hdj
            have := (hF.reads i j o oj d him (by omega) (by omega) ho hoj hdj hd).1 hj
            exact (g3 d).1 j Ψ (by omega) (wt_L (L := fun j => l.getD j false = true) this h2) (by simp [dstO, hoj, hdj]) hΨ
        · rcases Nat.lt_trichotomy j i with h' | h' | h'
          · exact hn j h' hdj
          · subst h'; exact hun hlj
          · cases hoj : ops[j]? with
            | none => simp [dstO, hoj] at hdj
            | some oj =>
              simp [dstO, hoj] at hdj
              have := (hF.reads i j o oj d him hj (by omega) ho hoj hdj hd).2 h'
              exact hun (wt_L (L := fun j => l.getD j false = true) this (S.closed j oj hoj hlj))
      have hls' := hls i him o Φ (env a) h w ho hΦ g1 g2 hok
      refine wpOp_of ho ?_
      split
      · rename_i hr
        exact (hls'.1 hr).mono fun v w' ⟨hh, k1, k2, k3⟩ => step v w' hh k1 k2 k3
      · rename_i hr
        exact step undef w h (Heap.le.refl h) g2 (hls'.2 (by simpa using hr))
    · have hall := hF.tail (fun j => l.getD j false = true) S.closed i o (by omega) ho h2
      have him' : i = m := by
        rcases Nat.lt_or_ge m i with h' | h'
        · exact absurd (hall m h') (S.tail m (Nat.le_refl m))
        · omega
      subst him'
      have hl : ∀ j, l.getD j false = true ↔ j < i := fun j => ⟨fun hj => by
        rcases Nat.lt_or_ge j i with h' | h'
        · exact h'
        · exact absurd hj (S.tail j h'), hall j⟩
      have hle : ops.size - i ≤ fuel + 1 := by
        have : ∀ n k (l : Array Bool), l.size = ops.size → k + n = ops.size → (∀ j, k ≤ j → l.getD j false ≠ true) → n ≤ l.count false := by
          intro n
          induction n with
          | zero => intro k l _ _ _; omega
          | succ n ihn =>
            intro k l hs hk hj
            have hks : k < l.size := by omega
            have hkf : l.getD k true = false := by
              rw [getD_tf hks]
              cases hh : l.getD k false
              · rfl
              · exact absurd hh (hj k (Nat.le_refl k))
            have h3 := ihn (k + 1) (l.setIfInBounds k true) (by simpa using hs) (by omega) (fun j hj' => by
              rw [Ne, set_getD hks]; rintro (h | h)
              · omega
              · exact hj j (by omega) h)
            have := count_set hks hkf
            omega
        have := this (ops.size - i) i l S.size (by omega) S.tail
        omega
      have hT := flow_tail (P := P) hF hds hQ (fuel + 1) i l a w (Nat.le_refl i) hF.le hle S.size hl S.n S.d (fin l a w S hall)
      exact hT.2 i hi
end
theorem WP.regionF {P : Program} {N : Nat} {D : List Deferred} {e : Env} {w : World} {Q : Exit → Env → World → Prop} {id : Nat} {ops : Array Oper} {B : Base} {h : Heap} {M : List SA} (hm : Mixed P) (I : Inv B h M w) (m : Nat) (hB : flowB ops m = true)
    (k : OpsF P ops B M h [] (ops.toList.take m) e (fun L e' => ∀ h1 w1, h.le h1 → Inv B h1 M w1 → AllL (fun _ => true) h1 L e' fun e'' => Ops P ops (ops.toList.drop m) e'' w1 (fun e3 w3 => Q .normal e3 w3))) : WP P N D (.region id ops true) e w Q := by
  intro hs a h1 h2 h3
  subst h3
  have hF := flow_of hB
  obtain ⟨Ss, L, e', hlen, hrel, hls, hmo, hK⟩ := OpsF.sound (e0 := env a) hF _ [] [] (env a) _ (fun j => by simp) (by simp [hF.le]) ⟨fun f h1 d ho => (ho.2 (by simp)).symm, by simp⟩ (by simp) (by simp) k
  refine wp_region_any hm ?_
  refine flow_any (K := fun e3 w3 => Q .normal e3 w3) (N := N) (D := D) hF hs (fun a w g1 g2 g3 => ⟨g1, g2, g3⟩) hlen hls hmo (fun f h1 w1 hl I1 hok => ?_) ops.size _ a _ (by simp) ⟨by simp, ?_, ?_, h1, h2, h, Heap.le.refl h, I.drew, fun d => ⟨?_, fun _ => rfl⟩⟩
  · have hov : ovr e' L f = f := by funext d; exact hrel.eq f h1 d (hlen ▸ hok d)
    have := (hK h1 w1 hl I1).get f fun p hp _ => by
      obtain ⟨k, k1, k2, k3⟩ := hrel.sub p hp
      exact (hok p.1).1 k p.2 (hlen ▸ k1) k2 k3
    rwa [hov] at this
  · intro i o _ hl
    simp [Array.getD_eq_getD_getElem?, Array.getElem?_replicate] at hl
    split at hl <;> simp at hl
  · intro j _ hl
    simp [Array.getD_eq_getD_getElem?, Array.getElem?_replicate] at hl
    split at hl <;> simp at hl
  · intro j Φ _ hl
    simp [Array.getD_eq_getD_getElem?, Array.getElem?_replicate] at hl
    split at hl <;> simp at hl

section
variable {P : Program} {full : Array Oper} {B : Base} {M : List SA} {h0 : Heap} {L : List (Nat × Sp)} {rest : List Oper} {e : Env} {K : List (Nat × Sp) → Env → Prop}
variable {op : Op} {t : TypeId} {pos : String} {af : Array Edge}
theorem OpsF.nil (h : K L e) : OpsF P full B M h0 L [] e K := h
theorem OpsF.gf {d j : Nat} {b : Bool} (hg : ∀ us, (yieldE full (ovr e L us) j == some b) = false) (h : OpsF P full B M h0 L rest (upd e d undef) K) : OpsF P full B M h0 L (⟨some d, op, t, pos, af, some (j, b)⟩ :: rest) e K :=
  .inl ⟨fun us => by simpa [runs] using hg us, h⟩
theorem OpsF.d_ {d : Nat} {g : Option (Nat × Bool)} {v : Value} (hr : ∀ us, runs full (ovr e L us) ⟨some d, op, t, pos, af, g⟩ = true)
    (hy : ∀ h1 w, h0.le h1 → Inv B h1 M w → AllL (lk full ⟨some d, op, t, pos, af, g⟩) h1 L e fun e' => Op1 P ⟨some d, op, t, pos, af, g⟩ e' w fun u w' => u = v ∧ Inv B h1 M w') (h : OpsF P full B M h0 L rest (upd e d v) K) :
    OpsF P full B M h0 L (⟨some d, op, t, pos, af, g⟩ :: rest) e K := by
  refine .inr ⟨hr, .inl ⟨v, fun h1 w hl I => ?_, h⟩⟩
  have key : ∀ (L : List (Nat × Sp)) (e : Env) (k k' : Env → Prop), (∀ x, k x → k' x) → AllL (lk full ⟨some d, op, t, pos, af, g⟩) h1 L e k → AllL (lk full ⟨some d, op, t, pos, af, g⟩) h1 L e k' := by
    intro L
    induction L with
    | nil => intro e k k' hk a; exact hk _ a
    | cons p L ih => intro e k k' hk a; exact ih e _ _ (fun x hx u hu => hk _ (hx u hu)) a
  exact key L e _ _ (fun x hx => hx.mono fun u w' ⟨a, b⟩ => ⟨h1, Heap.le.refl _, b, a⟩) (hy h1 w hl I)
theorem OpsF.x_ {d : Nat} {g : Option (Nat × Bool)} {Φ : Sp} (hm : MonoS Φ) (hr : ∀ us, runs full (ovr e L us) ⟨some d, op, t, pos, af, g⟩ = true)
    (hy : ∀ h1 w, h0.le h1 → Inv B h1 M w → AllL (lk full ⟨some d, op, t, pos, af, g⟩) h1 L e fun e' => Op1 P ⟨some d, op, t, pos, af, g⟩ e' w fun u w' => ∃ h2, h1.le h2 ∧ Inv B h2 M w' ∧ Φ u h2) (h : OpsF P full B M h0 ((d, Φ) :: L) rest e K) :
    OpsF P full B M h0 L (⟨some d, op, t, pos, af, g⟩ :: rest) e K :=
  .inr ⟨hr, .inr ⟨d, Φ, rfl, hm, hy, h⟩⟩
theorem ovr_us {e us us' : Env} {d : Nat} (h : ∀ j, j ≠ d → us j = us' j) : ∀ (L : List (Nat × Sp)) {i : Nat}, i ≠ d → ovr e L us i = ovr e L us' i
  | [], _, _ => rfl
  | p :: L, i, hi => by
    simp only [ovr]
    by_cases hp : i = p.1
    · subst hp; rw [upd_eq, upd_eq, h _ hi]
    · rw [upd_ne _ _ hp, upd_ne _ _ hp, ovr_us h L hi]
theorem AllL.all {c : Nat → Bool} {h : Heap} : ∀ {L : List (Nat × Sp)} {e : Env} {k : Env → Prop}, (∀ us, k (ovr e L us)) → AllL c h L e k
  | [], _, _, hk => hk fun _ => undef
  | p :: L, e, k, hk => AllL.all (L := L) fun us u _ => by
    have h1 := hk (upd us p.1 u)
    have h2 : upd (ovr e L (upd us p.1 u)) p.1 u = upd (ovr e L us) p.1 u := by
      funext i
      by_cases hi : i = p.1
      · subst hi; rw [upd_eq, upd_eq]
      · rw [upd_ne _ _ hi, upd_ne _ _ hi]; exact ovr_us (fun j hj => upd_ne _ _ hj) L hi
    simp only [ovr, upd_eq, h2] at h1
    exact h1
theorem OpsF.y_ {d : Nat} {g : Option (Nat × Bool)} {v : Value} (hr : ∀ us, runs full (ovr e L us) ⟨some d, op, t, pos, af, g⟩ = true)
    (hy : ∀ h1 w us, h0.le h1 → Inv B h1 M w → Y P ⟨some d, op, t, pos, af, g⟩ (ovr e L us) w v) (h : OpsF P full B M h0 L rest (upd e d v) K) :
    OpsF P full B M h0 L (⟨some d, op, t, pos, af, g⟩ :: rest) e K :=
  OpsF.d_ hr (fun h1 w hl I => AllL.all fun us => by unfold Op1; rw [hy h1 w us hl I]; exact ⟨rfl, I⟩) h
theorem OpsF.c_ {d : Nat} {g : Option (Nat × Bool)} {v : Value} (hr : ∀ us, runs full (ovr e L us) ⟨some d, op, t, pos, af, g⟩ = true)
    (hy : ∀ h1 w us, h0.le h1 → Inv B h1 M w → Op1 P ⟨some d, op, t, pos, af, g⟩ (ovr e L us) w fun u w' => u = v ∧ Inv B h1 M w') (h : OpsF P full B M h0 L rest (upd e d v) K) :
    OpsF P full B M h0 L (⟨some d, op, t, pos, af, g⟩ :: rest) e K :=
  OpsF.d_ hr (fun h1 w hl I => AllL.all fun us => hy h1 w us hl I) h
theorem runs_none (us : Env) {d : Option Nat} : runs full (ovr e L us) ⟨d, op, t, pos, af, none⟩ = true := rfl
theorem runs_g {us : Env} {d : Option Nat} {j : Nat} {b : Bool} (hg : yieldE full (ovr e L us) j = some b) : runs full (ovr e L us) ⟨d, op, t, pos, af, some (j, b)⟩ = true := by simp [runs, hg]
end
section
variable {P : Program} {e : Env} {w : World} {d : Option Nat} {t : TypeId} {pos : String} {af : Array Edge} {g : Option (Nat × Bool)}
/-- Structs held against each other. -/
theorem Y.eqst {x y : Operand} {T T' : TypeId} {xs ys : Array Value} {b : Bool} (hg : P.eqGuardType P.depth T = false) (hq : ∀ w, (Op.equalIn 10000 T (.agg xs) (.agg ys)).run P w = .ok b w) (hx : ev e x = .agg xs) (hy : ev e y = .agg ys) :
    Y P ⟨d, .binOp .eql T x y T', t, pos, af, g⟩ e w (.bool b) := by
  simp only [Y, execOp, hx, hy, Sem.run_bind, run_eqGuard_agg w .eql T x y xs ys hg, Result.andThen_ok, run_eql_struct, hq, Sem.run_pure]
theorem Y.nest {x y : Operand} {T T' : TypeId} {xs ys : Array Value} {b : Bool} (hg : P.eqGuardType P.depth T = false) (hq : ∀ w, (Op.equalIn 10000 T (.agg xs) (.agg ys)).run P w = .ok b w) (hx : ev e x = .agg xs) (hy : ev e y = .agg ys) :
    Y P ⟨d, .binOp .neq T x y T', t, pos, af, g⟩ e w (.bool !b) := by
  simp only [Y, execOp, hx, hy, Sem.run_bind, run_eqGuard_agg w .neq T x y xs ys hg, Result.andThen_ok, run_neq_struct, hq, Sem.run_pure]
theorem part_leaf {T : TypeId} (h : ∀ w, (isAgg T).run P w = .ok false w) {cs : Array Value} {o : Nat} {v : Value} (hv : cs[o]? = some v) (w : World) : (Go.part T cs o).run P w = .ok v w := by
  simp [Go.part, h, hv]
end
end Go.TF
