/- The walk's own frame: code in terms of what its slots hold (an environment), with memory told by what the call owns and by what is never written again. No program in sight. -/
import Derived.WalkKit
import Derived.WalkLawsBesides
import Derived.Orders
namespace Go.TF
open Go Go.RowKit

abbrev Env := Nat → Value
def upd (e : Env) (d : Nat) (v : Value) : Env := fun i => bif Nat.beq i d then v else e i
def updo (e : Env) (d : Option Nat) (v : Value) : Env := match d with | some d => upd e d v | none => e
def ev (e : Env) : Operand → Value
  | .tmp t => e t
  | .const v => v
  | .global g => .pointer (some ⟨g, 0, none⟩)
  | .func f => .func (.func f) #[] #[]
def env (a : Act) : Env := fun i => a.tmps.getD i undef

theorem eval_env (a : Act) : a.eval = ev (env a) := by funext x; cases x <;> rfl
theorem env_put (a : Act) (d : Nat) (v : Value) (h : d < a.tmps.size) : env (a.put (some d) v) = upd (env a) d v := by
  funext i
  simp only [env, Act.put, upd, Array.getD_eq_getD_getElem?, Array.getElem?_setIfInBounds]
  by_cases hi : d = i
  · subst hi; simp [h]
  · have : Nat.beq i d = false := by
      cases hb : Nat.beq i d
      · rfl
      · exact (hi (Nat.eq_of_beq_eq_true hb).symm).elim
    simp [hi, this]
theorem size_put (a : Act) (d : Option Nat) (v : Value) : (a.put d v).tmps.size = a.tmps.size := by cases d <;> simp [Act.put]
theorem defers_put (a : Act) (d : Option Nat) (v : Value) : (a.put d v).defers = a.defers := by cases d <;> rfl
theorem env_puto (a : Act) (d : Option Nat) (v : Value) (h : d.all (· < a.tmps.size) = true) : env (a.put d v) = updo (env a) d v := by
  cases d with
  | none => rfl
  | some d => exact env_put a d v (by simpa using h)

/-- One operation: what it yields, and the world behind it. -/
def Op1 (P : Program) (o : Oper) (e : Env) (w : World) (K : Value → World → Prop) : Prop :=
  match (execOp (ev e) o).run P w with
  | .ok (.value v) w' => K v w'
  | .ok .skip w' => K undef w'
  | .ok (.enter f args) w' => Calls P f args w' fun
      | .returned v, w'' => K v w''
      | _, _ => False
  | _ => False
theorem wp_of_Op1 {P : Program} {o : Oper} {a : Act} {w : World} {next : Act → World → Prop} {Q : Exit → Act → World → Prop}
    (h : Op1 P o (env a) w fun v w' => next (a.put o.dst v) w') : o.wp P a w next Q := by
  unfold Op1 at h
  unfold Oper.wp
  rw [eval_env]
  generalize (execOp (ev (env a)) o).run P w = r at *
  cases r with
  | ok n w' =>
    cases n <;> simp only at h <;> first | exact h.elim | exact h | skip
    exact Calls.mono h fun e w'' he => by cases e <;> first | exact he | exact he.elim
  | halt x w' => exact h.elim
theorem Op1.mono {P : Program} {o : Oper} {e : Env} {w : World} {K K' : Value → World → Prop} (h : Op1 P o e w K) (hk : ∀ v w', K v w' → K' v w') : Op1 P o e w K' := by
  unfold Op1 at *
  generalize (execOp (ev e) o).run P w = r at *
  cases r with
  | ok n w' =>
    cases n <;> simp only at h ⊢ <;> first | exact h.elim | exact hk _ _ h | skip
    exact Calls.mono h fun e w'' he => by cases e <;> first | exact hk _ _ he | exact he.elim
  | halt x w' => exact h.elim

def yieldE (ops : Array Oper) (e : Env) (j : Nat) : Option Bool :=
  match (ops[j]?).bind (·.dst) with
  | some d => match e d with | .bool b => some b | _ => none
  | none => none
def runs (ops : Array Oper) (e : Env) (o : Oper) : Bool :=
  match o.guard with
  | none => true
  | some (j, want) => yieldE ops e j == some want
theorem yielded_env (ops : Array Oper) (a : Act) (j : Nat) : yielded ops a.tmps j = yieldE ops (env a) j := by
  unfold yielded yieldE
  cases h : (ops[j]?).bind (·.dst) with
  | none => simp
  | some d =>
    simp only [Option.bind_some, env, Array.getD_eq_getD_getElem?]
    cases h2 : a.tmps[d]? with
    | none => simp [undef]
    | some v => cases v <;> rfl
theorem wanted_env (ops : Array Oper) (a : Act) (o : Oper) : Region.wanted o (yielded ops a.tmps) = runs ops (env a) o := by
  unfold Region.wanted runs
  split <;> simp_all [yielded_env]

/-- A list of operations, one behind the other. -/
def Ops (P : Program) (full : Array Oper) : List Oper → Env → World → (Env → World → Prop) → Prop
  | [], e, w, K => K e w
  | o :: rest, e, w, K => if runs full e o then Op1 P o e w (fun v w' => Ops P full rest (updo e o.dst v) w' K) else Ops P full rest (updo e o.dst undef) w K
def dstsOk (N : Nat) (l : List Oper) : Bool := l.all fun o => o.dst.all (· < N)
theorem Ops.sound {P : Program} {full : Array Oper} {Q : Exit → Act → World → Prop} {N : Nat} {D : List Deferred} : ∀ (l : List Oper) (a : Act) (w : World) (K : Env → World → Prop),
    dstsOk N l = true → a.tmps.size = N → a.defers = D → (∀ a' w', a'.tmps.size = N → a'.defers = D → K (env a') w' → Q .normal a' w') → Ops P full l (env a) w K → wpList P full Q l a w
  | [], a, w, K, _, hs, hd, hK, h => by simp only [Ops] at h; exact hK _ _ hs hd h
  | o :: rest, a, w, K, hds, hs, hd, hK, h => by
    simp only [dstsOk, List.all_cons, Bool.and_eq_true] at hds
    have hput : ∀ v, env (a.put o.dst v) = updo (env a) o.dst v := fun v => env_puto a o.dst v (by rw [hs]; exact hds.1)
    simp only [wpList, wanted_env]
    simp only [Ops] at h
    split
    · rename_i hr
      rw [if_pos hr] at h
      refine .inl (wp_of_Op1 (h.mono fun v w' hh => ?_))
      rw [← hput] at hh
      exact Ops.sound rest _ _ K hds.2 (by rw [size_put, hs]) (by rw [defers_put, hd]) hK hh
    · rename_i hr
      rw [if_neg hr] at h
      rw [← hput] at h
      exact Ops.sound rest _ _ K hds.2 (by rw [size_put, hs]) (by rw [defers_put, hd]) hK h

/-- Every slot that the code writes is there. -/
def slotsOk (N : Nat) : Code → Bool
  | .region _ ops _ => dstsOk N ops.toList
  | .seq a b => slotsOk N a && slotsOk N b
  | .cond _ a b => slotsOk N a && slotsOk N b
  | .block _ b => slotsOk N b
  | .loop b => slotsOk N b
  | .scope b => slotsOk N b
  | _ => true

/-- The code, from what its slots hold. -/
def WP (P : Program) (N : Nat) (D : List Deferred) (c : Code) (e : Env) (w : World) (Q : Exit → Env → World → Prop) : Prop :=
  slotsOk N c = true → ∀ a : Act, a.tmps.size = N → a.defers = D → env a = e → c.wp P (fun x a' w' => a'.tmps.size = N ∧ a'.defers = D ∧ Q x (env a') w') a w

def thenE (next : Env → World → Prop) (Q : Exit → Env → World → Prop) : Exit → Env → World → Prop
  | .normal, e, w => next e w
  | x, e, w => Q x e w
def blockE (id : Nat) (Q : Exit → Env → World → Prop) : Exit → Env → World → Prop
  | .exit id', e, w => if id' = id then Q .normal e w else Q (.exit id') e w
  | x, e, w => Q x e w

theorem thenE_ret {K : Env → World → Prop} {Q : Exit → Env → World → Prop} {e : Env} {w : World} (h : Q .ret e w) : thenE K Q .ret e w := h
theorem blockE_ret {id : Nat} {Q : Exit → Env → World → Prop} {e : Env} {w : World} (h : Q .ret e w) : blockE id Q .ret e w := h
section
variable {P : Program} {N : Nat} {D : List Deferred} {e : Env} {w : World} {Q : Exit → Env → World → Prop}
theorem WP.mono {c : Code} {Q' : Exit → Env → World → Prop} (h : WP P N D c e w Q) (hq : ∀ x e w, Q x e w → Q' x e w) : WP P N D c e w Q' :=
  fun hs a h1 h2 h3 => wp_mono (h hs a h1 h2 h3) fun _ _ _ ⟨g1, g2, g3⟩ => ⟨g1, g2, hq _ _ _ g3⟩
theorem WP.seq {x y : Code} (h : WP P N D x e w (thenE (fun e' w' => WP P N D y e' w' Q) Q)) : WP P N D (.seq x y) e w Q := by
  intro hs a h1 h2 h3
  simp only [slotsOk, Bool.and_eq_true] at hs
  refine wp_seq (wp_mono (h hs.1 a h1 h2 h3) ?_)
  rintro x a' w' ⟨g1, g2, g3⟩
  cases x <;> simp only [thenE] at g3 <;> first | exact ⟨g1, g2, g3⟩ | exact g3 hs.2 a' g1 g2 rfl
theorem WP.skip (h : Q .normal e w) : WP P N D .skip e w Q := fun _ _ h1 h2 h3 => wp_skip ⟨h1, h2, h3 ▸ h⟩
theorem WP.ret (h : Q .ret e w) : WP P N D .ret e w Q := fun _ _ h1 h2 h3 => wp_ret ⟨h1, h2, h3 ▸ h⟩
theorem WP.exit {id : Nat} (h : Q (.exit id) e w) : WP P N D (.exit id) e w Q := fun _ _ h1 h2 h3 => wp_exit ⟨h1, h2, h3 ▸ h⟩
theorem WP.goto {l : Nat} (h : Q (.goto l) e w) : WP P N D (.goto l) e w Q := fun _ _ h1 h2 h3 => wp_goto ⟨h1, h2, h3 ▸ h⟩
theorem WP.label {l : Nat} (h : Q .normal e w) : WP P N D (.label l) e w Q := fun _ _ h1 h2 h3 => wp_label ⟨h1, h2, h3 ▸ h⟩
theorem WP.block {id : Nat} {c : Code} (h : WP P N D c e w (blockE id Q)) : WP P N D (.block id c) e w Q := by
  intro hs a h1 h2 h3
  refine wp_block (wp_mono (h hs a h1 h2 h3) ?_)
  rintro x a' w' ⟨g1, g2, g3⟩
  cases x <;> simp only [blockE] at g3 <;> simp only [Exit.inBlock] <;> first | exact ⟨g1, g2, g3⟩ | (split at g3 <;> rename_i hi <;> simp only [hi, if_true, if_false] <;> exact ⟨g1, g2, g3⟩)
theorem WP.cond {c : Operand} {x y : Code} {b : Bool} (hc : ev e c = .bool b) (ht : b = true → WP P N D x e w Q) (hf : b = false → WP P N D y e w Q) : WP P N D (.cond c x y) e w Q := by
  intro hs a h1 h2 h3
  simp only [slotsOk, Bool.and_eq_true] at hs
  have he : a.eval c = .bool b := by rw [eval_env, h3]; exact hc
  exact wp_cond_split he (fun t => ht t hs.1 a h1 h2 h3) (fun t => hf t hs.2 a h1 h2 h3)
theorem WP.cond_dec {c : Operand} {x y : Code} {p : Prop} [Decidable p] (hc : ev e c = .bool (decide p)) (ht : p → WP P N D x e w Q) (hf : ¬ p → WP P N D y e w Q) : WP P N D (.cond c x y) e w Q :=
  WP.cond hc (fun h => ht (of_decide_eq_true h)) (fun h => hf (of_decide_eq_false h))
theorem WP.cond_decT {c : Operand} {x y : Code} {p : Prop} [Decidable p] (hc : ev e c = .bool (decide p)) (hp : p) (ht : WP P N D x e w Q) : WP P N D (.cond c x y) e w Q :=
  WP.cond_dec hc (fun _ => ht) (fun h => (h hp).elim)
theorem WP.cond_decF {c : Operand} {x y : Code} {p : Prop} [Decidable p] (hc : ev e c = .bool (decide p)) (hp : ¬p) (hf : WP P N D y e w Q) : WP P N D (.cond c x y) e w Q :=
  WP.cond_dec hc (fun h => (hp h).elim) (fun _ => hf)
theorem WP.cond_t {c : Operand} {x y : Code} (hc : ev e c = .bool true) (ht : WP P N D x e w Q) : WP P N D (.cond c x y) e w Q :=
  WP.cond hc (fun _ => ht) (fun h => by cases h)
theorem WP.cond_f {c : Operand} {x y : Code} (hc : ev e c = .bool false) (hf : WP P N D y e w Q) : WP P N D (.cond c x y) e w Q :=
  WP.cond hc (fun h => by cases h) (fun _ => hf)
theorem WP.region {id : Nat} {ops : Array Oper} (h : Ops P ops ops.toList e w (fun e' w' => Q .normal e' w')) : WP P N D (.region id ops false) e w Q := by
  intro hs a h1 h2 h3
  subst h3
  exact wp_region_list (Ops.sound _ a w _ hs h1 h2 (fun _ _ g1 g2 g3 => ⟨g1, g2, g3⟩) h)
theorem WP.loop {σ : Type} (I : σ → Env → World → Prop) (μ : σ → Nat) {c : Code} (h0 : ∃ s, I s e w)
    (round : ∀ s e w, I s e w → WP P N D c e w (thenE (fun e' w' => ∃ s', I s' e' w' ∧ μ s' < μ s) Q)) : WP P N D (.loop c) e w Q := by
  intro hs a h1 h2 h3
  obtain ⟨s0, hi0⟩ := h0
  intro b k cs
  have key : ∀ n s a w, μ s = n → a.tmps.size = N → a.defers = D → I s (env a) w →
      ∃ x a' w', (a'.tmps.size = N ∧ a'.defers = D ∧ Q x (env a') w') ∧ Arrives P (lone (b.at a (.code c :: .inLoop c :: k)) cs w) b k cs x a' w' := by
    intro n
    induction n using Nat.strongRecOn with
    | _ n ih =>
      intro s a w hn g1 g2 hI
      obtain ⟨x, a₁, w₁, ⟨q1, q2, q3⟩, harr⟩ := round s (env a) w hI hs a g1 g2 rfl b (.inLoop c :: k) cs
      cases x with
      | normal =>
        obtain ⟨s', hI₁, hlt⟩ := q3
        obtain ⟨e₂, a₂, w₂, hq₂, harr₂⟩ := ih (μ s') (hn ▸ hlt) s' a₁ w₁ rfl q1 q2 hI₁
        exact ⟨e₂, a₂, w₂, hq₂, .of_steps (Steps.trans harr (.one step_inLoop)) harr₂⟩
      | exit id => exact ⟨_, a₁, w₁, ⟨q1, q2, q3⟩, .pass (x := .inLoop c) rfl (fun _ _ => .inl (by simp)) harr⟩
      | goto l => exact ⟨_, a₁, w₁, ⟨q1, q2, q3⟩, .pass (x := .inLoop c) rfl (fun _ _ => .inl (by simp)) harr⟩
      | ret => exact ⟨_, a₁, w₁, ⟨q1, q2, q3⟩, .pass (x := .inLoop c) rfl (fun _ _ => .inl (by simp)) harr⟩
      | panic ch => exact ⟨_, a₁, w₁, ⟨q1, q2, q3⟩, .pass (x := .inLoop c) rfl (fun _ _ => .inl (by simp)) harr⟩
      | outgrown => exact ⟨_, a₁, w₁, ⟨q1, q2, q3⟩, .pass (x := .inLoop c) rfl (fun _ _ => .inl (by simp)) harr⟩
  obtain ⟨x, a', w', hq, harr⟩ := key _ s0 a w rfl h1 h2 (h3 ▸ hi0)
  exact ⟨x, a', w', hq, .of_steps (.one step_loop) harr⟩
end

/-- An environment in which the slots of a list hold what the list says. -/
def E (e : Env) : List (Nat × Value) → Env
  | [] => e
  | (i, v) :: r => upd (E e r) i v
def Has (e : Env) : List (Nat × Value) → Prop
  | [] => True
  | (i, v) :: r => e i = v ∧ Has e r
theorem upd_self {e : Env} {i : Nat} {v : Value} (h : e i = v) : upd e i v = e := by
  funext j
  unfold upd
  cases hb : Nat.beq j i
  · rfl
  · have : j = i := Nat.eq_of_beq_eq_true hb
    subst this; exact h.symm
theorem E_self {e : Env} : ∀ {l : List (Nat × Value)}, Has e l → E e l = e
  | [], _ => rfl
  | (i, v) :: r, h => by simp only [E]; rw [E_self h.2]; exact upd_self h.1

/-- A loop: s tells what the slots hold; J tells the rest. -/
theorem WP.loopE {P : Program} {N : Nat} {D : List Deferred} {e : Env} {w : World} {Q : Exit → Env → World → Prop} {c : Code} {σ : Type} (kv : σ → List (Nat × Value)) (J : σ → World → Prop) (μ : σ → Nat)
    (h0 : ∃ s, Has e (kv s) ∧ J s w)
    (round : ∀ s e w, J s w → WP P N D c (E e (kv s)) w (thenE (fun e' w' => ∃ s', (Has e' (kv s') ∧ J s' w') ∧ μ s' < μ s) Q)) : WP P N D (.loop c) e w Q := by
  refine WP.loop (fun s e w => Has e (kv s) ∧ J s w) μ h0 ?_
  rintro s e w ⟨h, hj⟩
  have := round s e w hj
  rwa [E_self h] at this

section
variable {P : Program} {full : Array Oper} {rest : List Oper} {e : Env} {w : World} {K : Env → World → Prop}
/-- The operation yields v and leaves the world as it is. -/
def Y (P : Program) (o : Oper) (e : Env) (w : World) (v : Value) : Prop := (execOp (ev e) o).run P w = .ok (.value v) w
theorem Ops.nil (h : K e w) : Ops P full [] e w K := h
theorem Ops.go {d : Option Nat} {op : Op} {t : TypeId} {pos : String} {af : Array Edge} (h : Op1 P ⟨d, op, t, pos, af, none⟩ e w (fun v w' => Ops P full rest (updo e d v) w' K)) :
    Ops P full (⟨d, op, t, pos, af, none⟩ :: rest) e w K := by simpa [Ops, runs] using h
theorem Ops.y {d : Nat} {op : Op} {t : TypeId} {pos : String} {af : Array Edge} {v : Value} (hy : Y P ⟨some d, op, t, pos, af, none⟩ e w v) (h : Ops P full rest (upd e d v) w K) :
    Ops P full (⟨some d, op, t, pos, af, none⟩ :: rest) e w K := Ops.go (by unfold Op1; rw [hy]; exact h)
/-- A guarded operation that runs. -/
theorem Ops.gt {d : Option Nat} {op : Op} {t : TypeId} {pos : String} {af : Array Edge} {j : Nat} {b : Bool} (hg : yieldE full e j = some b) (h : Op1 P ⟨d, op, t, pos, af, some (j, b)⟩ e w (fun v w' => Ops P full rest (updo e d v) w' K)) :
    Ops P full (⟨d, op, t, pos, af, some (j, b)⟩ :: rest) e w K := by simpa [Ops, runs, hg] using h
theorem Ops.ygt {d : Nat} {op : Op} {t : TypeId} {pos : String} {af : Array Edge} {v : Value} {j : Nat} {b : Bool} (hg : yieldE full e j = some b) (hy : Y P ⟨some d, op, t, pos, af, some (j, b)⟩ e w v) (h : Ops P full rest (upd e d v) w K) :
    Ops P full (⟨some d, op, t, pos, af, some (j, b)⟩ :: rest) e w K := Ops.gt hg (by unfold Op1; rw [hy]; exact h)
/-- A guarded operation that is passed over. -/
theorem Ops.gf {d : Nat} {op : Op} {t : TypeId} {pos : String} {af : Array Edge} {j : Nat} {b : Bool} (hg : (yieldE full e j == some b) = false) (h : Ops P full rest (upd e d undef) w K) :
    Ops P full (⟨some d, op, t, pos, af, some (j, b)⟩ :: rest) e w K := by simpa [Ops, runs, hg, updo] using h
end
end Go.TF
