/- How often variables stand in atoms; what a rule's literals are: plain. -/
import Derived.Test.YtenigglapeajdaaSpRule
namespace Go.TF
open Go

theorem bT {p : Prop} [Decidable p] (h : p) : Value.bool true = .bool (decide p) := by rw [decide_eq_true h]
theorem bF {p : Prop} [Decidable p] (h : ¬p) : Value.bool false = .bool (decide p) := by rw [decide_eq_false h]
def cntT (l : List Trm) (v : Int) : Nat := l.countP fun t => t.var && decide (t.n = v)
def cntA : List Atm → Int → Nat
  | [], _ => 0
  | a :: r, v => cntT a.args.xs v + cntA r v
theorem cntA_append (l r : List Atm) (v : Int) : cntA (l ++ r) v = cntA l v + cntA r v := by
  induction l with
  | nil => simp [cntA]
  | cons a l ih => simp only [List.cons_append, cntA, ih]; omega
def CountOf (es : List (Int × Int)) (f : Int → Nat) : Prop := ∀ v, ilook es v = if f v = 0 then none else some (f v : Int)
theorem CountOf.nil : CountOf [] (cntA []) := fun _ => rfl
theorem CountOf.same {es : List (Int × Int)} {f g : Int → Nat} (h : CountOf es f) (hg : ∀ v, g v = f v) : CountOf es g := (funext hg : g = f) ▸ h
theorem CountOf.get {es : List (Int × Int)} {f : Int → Nat} (h : CountOf es f) (v : Int) : (ilook es v).getD 0 = (f v : Int) := by
  rw [h v]; split <;> simp_all
theorem CountOf.put {es : List (Int × Int)} {f g : Int → Nat} (h : CountOf es f) (n : Int) (hg : ∀ v, g v = if v = n then f v + 1 else f v) : CountOf (iset es n ((ilook es n).getD 0 + 1)) g := by
  intro v
  rw [ilook_iset, h.get n, h v, hg v]
  by_cases e : v = n
  · subst e; simp
  · simp [e]
theorem ilook_some_mem {es : List (Int × Int)} {v x : Int} (h : ilook es v = some x) : (v, x) ∈ es := by
  induction es with
  | nil => simp [ilook] at h
  | cons p r ih =>
    obtain ⟨k, w⟩ := p
    simp only [ilook] at h
    split at h
    · rename_i e; subst e; cases h; exact List.mem_cons_self ..
    · exact List.mem_cons_of_mem _ (ih h)
theorem mem_ilook {es : List (Int × Int)} {v x : Int} (h : (v, x) ∈ es) : ilook es v ≠ none := by
  induction es with
  | nil => cases h
  | cons p r ih =>
    obtain ⟨k, w⟩ := p
    simp only [ilook]
    split
    · simp
    · rename_i e
      rcases List.mem_cons.1 h with h | h
      · cases h; exact absurd rfl e
      · exact ih h
theorem cntT_le (l : List Trm) (v : Int) : cntT l v ≤ l.length := List.countP_le_length
theorem cntT_pos {l : List Trm} {v : Int} : cntT l v ≠ 0 ↔ (l.any fun t => t.var && decide (t.n = v)) = true := by
  unfold cntT
  rw [← Nat.pos_iff_ne_zero, List.countP_pos_iff, List.any_eq_true]
theorem cntA_le {l : List Atm} {m : Nat} (h : ∀ a ∈ l, a.args.xs.length ≤ m) (v : Int) : cntA l v ≤ l.length * m := by
  induction l with
  | nil => simp [cntA]
  | cons a r ih =>
    have h1 := cntT_le a.args.xs v
    have h2 := h a (List.mem_cons_self ..)
    have h3 := ih fun b hb => h b (List.mem_cons_of_mem _ hb)
    simp only [cntA, List.length_cons, Nat.add_mul]; omega
theorem cntA_pos {l : List Atm} {v : Int} : cntA l v ≠ 0 ↔ ∃ a ∈ l, standsIn a v = true := by
  induction l with
  | nil => simp [cntA]
  | cons a r ih =>
    have h1 : cntT a.args.xs v ≠ 0 ↔ standsIn a v = true := cntT_pos
    simp only [cntA, List.mem_cons, exists_eq_or_imp, ← ih, ← h1]; omega
theorem cntT_take {l : List Trm} {j : Nat} (hj : j < l.length) (v : Int) : cntT (l.take (j + 1)) v = cntT (l.take j) v + if l[j].var = true ∧ l[j].n = v then 1 else 0 := by
  rw [List.take_succ_eq_append_getElem hj]
  simp only [cntT, List.countP_append, List.countP_singleton, Bool.and_eq_true, decide_eq_true_eq]
theorem cntA_take {l : List Atm} {k : Nat} (hk : k < l.length) (v : Int) : cntA (l.take (k + 1)) v = cntA (l.take k) v + cntT l[k].args.xs v := by
  rw [List.take_succ_eq_append_getElem hk, cntA_append]; simp [cntA]
def negs (l : List Ltl) : List Atm := (l.filter (·.neg)).map (·.atom)
def poss (l : List Ltl) : List Atm := (l.filter fun x => !x.neg).map (·.atom)
theorem negs_take {l : List Ltl} {k : Nat} (hk : k < l.length) : negs (l.take (k + 1)) = negs (l.take k) ++ if l[k].neg = true then [l[k].atom] else [] := by
  rw [List.take_succ_eq_append_getElem hk]
  simp only [negs, List.filter_append, List.map_append]; congr 1; cases h : l[k].neg <;> simp [h]
theorem poss_take {l : List Ltl} {k : Nat} (hk : k < l.length) : poss (l.take (k + 1)) = poss (l.take k) ++ if l[k].neg = true then [] else [l[k].atom] := by
  rw [List.take_succ_eq_append_getElem hk]
  simp only [poss, List.filter_append, List.map_append]; congr 1; cases h : l[k].neg <;> simp [h]
theorem negs_le (l : List Ltl) : (negs l).length ≤ l.length := by unfold negs; rw [List.length_map]; exact List.length_filter_le ..
theorem poss_le (l : List Ltl) : (poss l).length ≤ l.length := by unfold poss; rw [List.length_map]; exact List.length_filter_le ..
theorem mem_negs {l : List Ltl} {a : Atm} : a ∈ negs l ↔ ∃ x ∈ l, x.neg = true ∧ x.atom = a := by simp [negs, and_assoc]
theorem mem_poss {l : List Ltl} {a : Atm} : a ∈ poss l ↔ ∃ x ∈ l, x.neg = false ∧ x.atom = a := by simp [poss, and_assoc]
theorem boundIn_iff {r : Rul} {v : Int} : boundIn r v = true ↔ cntA (poss r.body.xs) v ≠ 0 := by
  rw [cntA_pos]
  simp only [boundIn, List.any_eq_true, Bool.and_eq_true, Bool.not_eq_true', mem_poss]
  constructor
  · rintro ⟨x, hx, hn, hs⟩; exact ⟨_, ⟨x, hx, hn, rfl⟩, hs⟩
  · rintro ⟨_, ⟨x, hx, hn, rfl⟩, hs⟩; exact ⟨x, hx, hn, hs⟩
/-- A variable of the head or of a literal that is Not, and in none that is not. -/
theorem freeVar_iff {r : Rul} {v : Int} : freeVar r v = true ↔ cntA (negs r.body.xs ++ [r.head]) v ≠ 0 ∧ cntA (poss r.body.xs) v = 0 := by
  have hb := boundIn_iff (r := r) (v := v)
  rw [cntA_pos]
  simp only [freeVar, Bool.and_eq_true, Bool.or_eq_true, Bool.not_eq_true', List.any_eq_true, List.mem_append, List.mem_singleton]
  constructor
  · rintro ⟨h1, h2⟩
    have h3 : cntA (poss r.body.xs) v = 0 := Decidable.byContradiction fun h => by rw [hb.2 h] at h2; cases h2
    refine ⟨?_, h3⟩
    rcases h1 with h1 | ⟨x, hx, hs⟩
    · exact ⟨_, .inr rfl, h1⟩
    · cases hn : x.neg
      · have : boundIn r v = true := by rw [boundIn, List.any_eq_true]; exact ⟨x, hx, by simp [hn, hs]⟩
        rw [this] at h2; cases h2
      · exact ⟨_, .inl (mem_negs.2 ⟨x, hx, hn, rfl⟩), hs⟩
  · rintro ⟨⟨a, ha, hs⟩, h3⟩
    refine ⟨?_, ?_⟩
    · rcases ha with ha | rfl
      · obtain ⟨x, hx, _, rfl⟩ := mem_negs.1 ha; exact .inr ⟨x, hx, hs⟩
      · exact .inl hs
    · cases h : boundIn r v
      · rfl
      · exact absurd h3 (hb.1 h)
theorem bodyErr_ne {l : List Prd} {b : List Ltl} : bodyErr l b = 0 ↔ ∀ x ∈ b, checkAtom l x.atom = 0 := by
  induction b with
  | nil => simp [bodyErr]
  | cons x r ih =>
    simp only [bodyErr, List.mem_cons, forall_eq_or_imp]
    by_cases h : checkAtom l x.atom = 0
    · simp [h, ih]
    · simp [h]
theorem bodyErr_at {l : List Prd} {b : List Ltl} {k : Nat} (hk : k < b.length) (h1 : ∀ j, j < k → ∀ hj' : j < b.length, checkAtom l b[j].atom = 0) (h2 : checkAtom l b[k].atom ≠ 0) : bodyErr l b = checkAtom l b[k].atom := by
  induction b generalizing k with
  | nil => simp at hk
  | cons x r ih =>
    cases k with
    | zero => simp only [List.getElem_cons_zero] at h2 ⊢; simp [bodyErr, h2]
    | succ k =>
      have h0 := h1 0 (by omega) (by simp)
      simp only [List.getElem_cons_zero] at h0
      simp only [bodyErr, h0, List.getElem_cons_succ]
      simp only [List.getElem_cons_succ] at h2
      exact ih (by simpa using hk) (fun j _ hj' => by have := h1 (j + 1) (by omega) (by simpa using hj'); simpa using this) h2
theorem standsIn_small {l : List Prd} {a : Atm} (h : checkAtom l a = 0) {v : Int} (hs : standsIn a v = true) : v = 0 ∨ v = 1 ∨ v = 2 := by
  have h1 : argsErr a.args.xs = 0 := by
    unfold checkAtom at h
    split at h
    · cases h
    · split at h
      · cases h
      · exact h
  unfold argsErr at h1
  split at h1
  · rename_i hal
    rw [List.all_eq_true] at hal
    simp only [standsIn, List.any_eq_true, Bool.and_eq_true, decide_eq_true_eq] at hs
    obtain ⟨t, ht, hv, hn⟩ := hs
    have := hal t ht
    unfold termOk at this
    rw [if_pos hv] at this
    simp only [decide_eq_true_eq] at this
    omega
  · cases h1
theorem filter_shorter {α : Type} {p q : α → Bool} {l : List α} {x : α} (hx : x ∈ l) (hp : p x = false) (hq : q x = true) (hpq : ∀ y ∈ l, p y = true → q y = true) : (l.filter p).length < (l.filter q).length := by
  induction l with
  | nil => cases hx
  | cons y r ih =>
    have hle : ∀ s : List α, (∀ z ∈ s, p z = true → q z = true) → (s.filter p).length ≤ (s.filter q).length := by
      intro s hs
      induction s with
      | nil => simp
      | cons z t iht =>
        have i := iht fun u hu => hs u (List.mem_cons_of_mem _ hu)
        have j := hs z (List.mem_cons_self ..)
        simp only [List.filter_cons]
        split <;> split <;> simp_all <;> omega
    rcases List.mem_cons.1 hx with rfl | hx'
    · have := hle r fun z hz => hpq z (List.mem_cons_of_mem _ hz)
      simp only [List.filter_cons, hp, hq, if_true, Bool.false_eq_true, if_false, List.length_cons]; omega
    · have i := ih hx' fun z hz => hpq z (List.mem_cons_of_mem _ hz)
      have j := hpq y (List.mem_cons_self ..)
      simp only [List.filter_cons]
      split <;> split <;> simp_all <;> omega
theorem ents_of {ents : List MapEntry} {clock : Nat} {es : List (Int × Int)} (hi : IMap ents clock es) {q : MapEntry} (hq : q ∈ ents) : ∃ v x, (v, x) ∈ es ∧ q.key = .int .i64 v ∧ q.val = .int .i64 x := by
  have : (q.key, q.val) ∈ ents.map (fun e => (e.key, e.val)) := List.mem_map.2 ⟨q, hq, rfl⟩
  rw [hi.is] at this
  obtain ⟨⟨v, x⟩, hp, he⟩ := List.mem_map.1 this
  simp only [iV, Prod.mk.injEq] at he
  exact ⟨v, x, hp, he.1.symm, he.2.symm⟩
theorem ents_has {ents : List MapEntry} {clock : Nat} {es : List (Int × Int)} (hi : IMap ents clock es) {v x : Int} (hv : (v, x) ∈ es) : ∃ q ∈ ents, q.key = .int .i64 v := by
  have : iV (v, x) ∈ ents.map (fun e => (e.key, e.val)) := by rw [hi.is]; exact List.mem_map.2 ⟨_, hv, rfl⟩
  obtain ⟨q, hq, he⟩ := List.mem_map.1 this
  simp only [iV, Prod.mk.injEq] at he
  exact ⟨q, hq, he.1⟩
theorem nodup_inj {α β : Type} {f : α → β} {l : List α} (h : (l.map f).Nodup) {a b : α} (ha : a ∈ l) (hb : b ∈ l) (hf : f a = f b) : a = b := by
  induction l with
  | nil => cases ha
  | cons x r ih =>
    simp only [List.map_cons, List.nodup_cons, List.mem_map, not_exists, not_and] at h
    rcases List.mem_cons.1 ha with rfl | ha' <;> rcases List.mem_cons.1 hb with rfl | hb'
    · rfl
    · exact absurd hf.symm (h.1 b hb')
    · exact absurd hf (h.1 a ha')
    · exact ih h.2 ha' hb'
end Go.TF
