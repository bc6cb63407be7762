/- Texts Base1 Base2 Base3 Base4 Base5 Base6 Base7 Base8 Base9. -/
import Derived.WalkKit
import Derived.WalkLawsBesides
import Derived.Orders
import Derived.Deep.Quiet
import Derived.OwnWalk
import Derived.Laws.StructEq
section
/- The walk's own frame: code in terms of what its slots hold (an environment), with memory told by what the call owns and by what is never written again. No program in sight. -/
namespace Go.TF
open Go Go.RowKit

abbrev Env := Nat → Value
def upd (e : Env) (d : Nat) (v : Value) : Env := fun i => bif Nat.beq i d then v else e i
def updo (e : Env) (d : Option Nat) (v : Value) : Env := match d with | some d => upd e d v | none => e
def ev (e : Env) : Operand → Value
  | .tmp t => e t
  | .const v => v
  | .global g => .pointer (some ⟨g, 0, none⟩)
  | .func f => .func (.func f) #[] #[]
def env (a : Act) : Env := fun i => a.tmps.getD i undef

theorem eval_env (a : Act) : a.eval = ev (env a) := by funext x; cases x <;> rfl
theorem env_put (a : Act) (d : Nat) (v : Value) (h : d < a.tmps.size) : env (a.put (some d) v) = upd (env a) d v := by
  funext i
  simp only [env, Act.put, upd, Array.getD_eq_getD_getElem?, Array.getElem?_setIfInBounds]
  by_cases hi : d = i
  · subst hi; simp [h]
  · have : Nat.beq i d = false := by
      cases hb : Nat.beq i d
      · rfl
      · exact (hi (Nat.eq_of_beq_eq_true hb).symm).elim
    simp [hi, this]
theorem size_put (a : Act) (d : Option Nat) (v : Value) : (a.put d v).tmps.size = a.tmps.size := by cases d <;> simp [Act.put]
theorem defers_put (a : Act) (d : Option Nat) (v : Value) : (a.put d v).defers = a.defers := by cases d <;> rfl
theorem env_puto (a : Act) (d : Option Nat) (v : Value) (h : d.all (· < a.tmps.size) = true) : env (a.put d v) = updo (env a) d v := by
  cases d with
  | none => rfl
  | some d => exact env_put a d v (by simpa using h)

/-- One operation: what it yields, and the world behind it. -/
def Op1 (P : Program) (o : Oper) (e : Env) (w : World) (K : Value → World → Prop) : Prop :=
  match (execOp (ev e) o).run P w with
  | .ok (.value v) w' => K v w'
  | .ok .skip w' => K undef w'
  | .ok (.enter f args) w' => Calls P f args w' fun
      | .returned v, w'' => K v w''
      | _, _ => False
  | _ => False
theorem wp_of_Op1 {P : Program} {o : Oper} {a : Act} {w : World} {next : Act → World → Prop} {Q : Exit → Act → World → Prop}
    (h : Op1 P o (env a) w fun v w' => next (a.put o.dst v) w') : o.wp P a w next Q := by
  unfold Op1 at h
  unfold Oper.wp
  rw [eval_env]
  generalize (execOp (ev (env a)) o).run P w = r at *
  cases r with
  | ok n w' =>
    cases n <;> simp only at h <;> first | exact h.elim | exact h | skip
    exact Calls.mono h fun e w'' he => by cases e <;> first | exact he | exact he.elim
  | halt x w' => exact h.elim
theorem Op1.mono {P : Program} {o : Oper} {e : Env} {w : World} {K K' : Value → World → Prop} (h : Op1 P o e w K) (hk : ∀ v w', K v w' → K' v w') : Op1 P o e w K' := by
  unfold Op1 at *
  generalize (execOp (ev e) o).run P w = r at *
  cases r with
  | ok n w' =>
    cases n <;> simp only at h ⊢ <;> first | exact h.elim | exact hk _ _ h | skip
    exact Calls.mono h fun e w'' he => by cases e <;> first | exact hk _ _ he | exact he.elim
  | halt x w' => exact h.elim

def yieldE (ops : Array Oper) (e : Env) (j : Nat) : Option Bool :=
  match (ops[j]?).bind (·.dst) with
  | some d => match e d with | .bool b => some b | _ => none
  | none => none
def runs (ops : Array Oper) (e : Env) (o : Oper) : Bool :=
  match o.guard with
  | none => true
  | some (j, want) => yieldE ops e j == some want
theorem yielded_env (ops : Array Oper) (a : Act) (j : Nat) : yielded ops a.tmps j = yieldE ops (env a) j := by
  unfold yielded yieldE
  cases h : (ops[j]?).bind (·.dst) with
  | none => simp
  | some d =>
    simp only [Option.bind_some, env, Array.getD_eq_getD_getElem?]
    cases h2 : a.tmps[d]? with
    | none => simp [undef]
    | some v => cases v <;> rfl
theorem wanted_env (ops : Array Oper) (a : Act) (o : Oper) : Region.wanted o (yielded ops a.tmps) = runs ops (env a) o := by
  unfold Region.wanted runs
  split <;> simp_all [yielded_env]

/-- A list of operations, one behind the other. -/
def Ops (P : Program) (full : Array Oper) : List Oper → Env → World → (Env → World → Prop) → Prop
  | [], e, w, K => K e w
  | o :: rest, e, w, K => if runs full e o then Op1 P o e w (fun v w' => Ops P full rest (updo e o.dst v) w' K) else Ops P full rest (updo e o.dst undef) w K
def dstsOk (N : Nat) (l : List Oper) : Bool := l.all fun o => o.dst.all (· < N)
theorem Ops.sound {P : Program} {full : Array Oper} {Q : Exit → Act → World → Prop} {N : Nat} {D : List Deferred} : ∀ (l : List Oper) (a : Act) (w : World) (K : Env → World → Prop),
    dstsOk N l = true → a.tmps.size = N → a.defers = D → (∀ a' w', a'.tmps.size = N → a'.defers = D → K (env a') w' → Q .normal a' w') → Ops P full l (env a) w K → wpList P full Q l a w
  | [], a, w, K, _, hs, hd, hK, h => by simp only [Ops] at h; exact hK _ _ hs hd h
  | o :: rest, a, w, K, hds, hs, hd, hK, h => by
    simp only [dstsOk, List.all_cons, Bool.and_eq_true] at hds
    have hput : ∀ v, env (a.put o.dst v) = updo (env a) o.dst v := fun v => env_puto a o.dst v (by rw [hs]; exact hds.1)
    simp only [wpList, wanted_env]
    simp only [Ops] at h
    split
    · rename_i hr
      rw [if_pos hr] at h
      refine .inl (wp_of_Op1 (h.mono fun v w' hh => ?_))
      rw [← hput] at hh
      exact Ops.sound rest _ _ K hds.2 (by rw [size_put, hs]) (by rw [defers_put, hd]) hK hh
    · rename_i hr
      rw [if_neg hr] at h
      rw [← hput] at h
      exact Ops.sound rest _ _ K hds.2 (by rw [size_put, hs]) (by rw [defers_put, hd]) hK h

/-- Every slot that the code writes is there. -/
def slotsOk (N : Nat) : Code → Bool
  | .region _ ops _ => dstsOk N ops.toList
  | .seq a b => slotsOk N a && slotsOk N b
  | .cond _ a b => slotsOk N a && slotsOk N b
  | .block _ b => slotsOk N b
  | .loop b => slotsOk N b
  | .scope b => slotsOk N b
  | _ => true

/-- The code, from what its slots hold. -/
def WP (P : Program) (N : Nat) (D : List Deferred) (c : Code) (e : Env) (w : World) (Q : Exit → Env → World → Prop) : Prop :=
  slotsOk N c = true → ∀ a : Act, a.tmps.size = N → a.defers = D → env a = e → c.wp P (fun x a' w' => a'.tmps.size = N ∧ a'.defers = D ∧ Q x (env a') w') a w

def thenE (next : Env → World → Prop) (Q : Exit → Env → World → Prop) : Exit → Env → World → Prop
  | .normal, e, w => next e w
  | x, e, w => Q x e w
def blockE (id : Nat) (Q : Exit → Env → World → Prop) : Exit → Env → World → Prop
  | .exit id', e, w => if id' = id then Q .normal e w else Q (.exit id') e w
  | x, e, w => Q x e w

theorem thenE_ret {K : Env → World → Prop} {Q : Exit → Env → World → Prop} {e : Env} {w : World} (h : Q .ret e w) : thenE K Q .ret e w := h
theorem blockE_ret {id : Nat} {Q : Exit → Env → World → Prop} {e : Env} {w : World} (h : Q .ret e w) : blockE id Q .ret e w := h
section
variable {P : Program} {N : Nat} {D : List Deferred} {e : Env} {w : World} {Q : Exit → Env → World → Prop}
theorem WP.mono {c : Code} {Q' : Exit → Env → World → Prop} (h : WP P N D c e w Q) (hq : ∀ x e w, Q x e w → Q' x e w) : WP P N D c e w Q' :=
  fun hs a h1 h2 h3 => wp_mono (h hs a h1 h2 h3) fun _ _ _ ⟨g1, g2, g3⟩ => ⟨g1, g2, hq _ _ _ g3⟩
theorem WP.seq {x y : Code} (h : WP P N D x e w (thenE (fun e' w' => WP P N D y e' w' Q) Q)) : WP P N D (.seq x y) e w Q := by
  intro hs a h1 h2 h3
  simp only [slotsOk, Bool.and_eq_true] at hs
  refine wp_seq (wp_mono (h hs.1 a h1 h2 h3) ?_)
  rintro x a' w' ⟨g1, g2, g3⟩
  cases x <;> simp only [thenE] at g3 <;> first | exact ⟨g1, g2, g3⟩ | exact g3 hs.2 a' g1 g2 rfl
theorem WP.skip (h : Q .normal e w) : WP P N D .skip e w Q := fun _ _ h1 h2 h3 => wp_skip ⟨h1, h2, h3 ▸ h⟩
theorem WP.ret (h : Q .ret e w) : WP P N D .ret e w Q := fun _ _ h1 h2 h3 => wp_ret ⟨h1, h2, h3 ▸ h⟩
theorem WP.exit {id : Nat} (h : Q (.exit id) e w) : WP P N D (.exit id) e w Q := fun _ _ h1 h2 h3 => wp_exit ⟨h1, h2, h3 ▸ h⟩
theorem WP.goto {l : Nat} (h : Q (.goto l) e w) : WP P N D (.goto l) e w Q := fun _ _ h1 h2 h3 => wp_goto ⟨h1, h2, h3 ▸ h⟩
theorem WP.label {l : Nat} (h : Q .normal e w) : WP P N D (.label l) e w Q := fun _ _ h1 h2 h3 => wp_label ⟨h1, h2, h3 ▸ h⟩
theorem WP.block {id : Nat} {c : Code} (h : WP P N D c e w (blockE id Q)) : WP P N D (.block id c) e w Q := by
  intro hs a h1 h2 h3
  refine wp_block (wp_mono (h hs a h1 h2 h3) ?_)
  rintro x a' w' ⟨g1, g2, g3⟩
  cases x <;> simp only [blockE] at g3 <;> simp only [Exit.inBlock] <;> first | exact ⟨g1, g2, g3⟩ | (split at g3 <;> rename_i hi <;> simp only [hi, if_true, if_false] <;> exact ⟨g1, g2, g3⟩)
theorem WP.cond {c : Operand} {x y : Code} {b : Bool} (hc : ev e c = .bool b) (ht : b = true → WP P N D x e w Q) (hf : b = false → WP P N D y e w Q) : WP P N D (.cond c x y) e w Q := by
  intro hs a h1 h2 h3
  simp only [slotsOk, Bool.and_eq_true] at hs
  have he : a.eval c = .bool b := by rw [eval_env, h3]; exact hc
  exact wp_cond_split he (fun t => ht t hs.1 a h1 h2 h3) (fun t => hf t hs.2 a h1 h2 h3)
theorem WP.cond_dec {c : Operand} {x y : Code} {p : Prop} [Decidable p] (hc : ev e c = .bool (decide p)) (ht : p → WP P N D x e w Q) (hf : ¬ p → WP P N D y e w Q) : WP P N D (.cond c x y) e w Q :=
  WP.cond hc (fun h => ht (of_decide_eq_true h)) (fun h => hf (of_decide_eq_false h))
theorem WP.cond_decT {c : Operand} {x y : Code} {p : Prop} [Decidable p] (hc : ev e c = .bool (decide p)) (hp : p) (ht : WP P N D x e w Q) : WP P N D (.cond c x y) e w Q :=
  WP.cond_dec hc (fun _ => ht) (fun h => (h hp).elim)
theorem WP.cond_t {c : Operand} {x y : Code} (hc : ev e c = .bool true) (ht : WP P N D x e w Q) : WP P N D (.cond c x y) e w Q :=
  WP.cond hc (fun _ => ht) (fun h => by cases h)
theorem WP.cond_f {c : Operand} {x y : Code} (hc : ev e c = .bool false) (hf : WP P N D y e w Q) : WP P N D (.cond c x y) e w Q :=
  WP.cond hc (fun h => by cases h) (fun _ => hf)
theorem WP.region {id : Nat} {ops : Array Oper} (h : Ops P ops ops.toList e w (fun e' w' => Q .normal e' w')) : WP P N D (.region id ops false) e w Q := by
  intro hs a h1 h2 h3
  subst h3
  exact wp_region_list (Ops.sound _ a w _ hs h1 h2 (fun _ _ g1 g2 g3 => ⟨g1, g2, g3⟩) h)
theorem WP.loop {σ : Type} (I : σ → Env → World → Prop) (μ : σ → Nat) {c : Code} (h0 : ∃ s, I s e w)
    (round : ∀ s e w, I s e w → WP P N D c e w (thenE (fun e' w' => ∃ s', I s' e' w' ∧ μ s' < μ s) Q)) : WP P N D (.loop c) e w Q := by
  intro hs a h1 h2 h3
  obtain ⟨s0, hi0⟩ := h0
  intro b k cs
  have key : ∀ n s a w, μ s = n → a.tmps.size = N → a.defers = D → I s (env a) w →
      ∃ x a' w', (a'.tmps.size = N ∧ a'.defers = D ∧ Q x (env a') w') ∧ Arrives P (lone (b.at a (.code c :: .inLoop c :: k)) cs w) b k cs x a' w' := by
    intro n
    induction n using Nat.strongRecOn with
    | _ n ih =>
      intro s a w hn g1 g2 hI
      obtain ⟨x, a₁, w₁, ⟨q1, q2, q3⟩, harr⟩ := round s (env a) w hI hs a g1 g2 rfl b (.inLoop c :: k) cs
      cases x with
      | normal =>
        obtain ⟨s', hI₁, hlt⟩ := q3
        obtain ⟨e₂, a₂, w₂, hq₂, harr₂⟩ := ih (μ s') (hn ▸ hlt) s' a₁ w₁ rfl q1 q2 hI₁
        exact ⟨e₂, a₂, w₂, hq₂, .of_steps (Steps.trans harr (.one step_inLoop)) harr₂⟩
      | exit id => exact ⟨_, a₁, w₁, ⟨q1, q2, q3⟩, .pass (x := .inLoop c) rfl (fun _ _ => .inl (by simp)) harr⟩
      | goto l => exact ⟨_, a₁, w₁, ⟨q1, q2, q3⟩, .pass (x := .inLoop c) rfl (fun _ _ => .inl (by simp)) harr⟩
      | ret => exact ⟨_, a₁, w₁, ⟨q1, q2, q3⟩, .pass (x := .inLoop c) rfl (fun _ _ => .inl (by simp)) harr⟩
      | panic ch => exact ⟨_, a₁, w₁, ⟨q1, q2, q3⟩, .pass (x := .inLoop c) rfl (fun _ _ => .inl (by simp)) harr⟩
      | outgrown => exact ⟨_, a₁, w₁, ⟨q1, q2, q3⟩, .pass (x := .inLoop c) rfl (fun _ _ => .inl (by simp)) harr⟩
  obtain ⟨x, a', w', hq, harr⟩ := key _ s0 a w rfl h1 h2 (h3 ▸ hi0)
  exact ⟨x, a', w', hq, .of_steps (.one step_loop) harr⟩
end

/-- An environment in which the slots of a list hold what the list says. -/
def E (e : Env) : List (Nat × Value) → Env
  | [] => e
  | (i, v) :: r => upd (E e r) i v
def Has (e : Env) : List (Nat × Value) → Prop
  | [] => True
  | (i, v) :: r => e i = v ∧ Has e r
theorem upd_self {e : Env} {i : Nat} {v : Value} (h : e i = v) : upd e i v = e := by
  funext j
  unfold upd
  cases hb : Nat.beq j i
  · rfl
  · have : j = i := Nat.eq_of_beq_eq_true hb
    subst this; exact h.symm
theorem E_self {e : Env} : ∀ {l : List (Nat × Value)}, Has e l → E e l = e
  | [], _ => rfl
  | (i, v) :: r, h => by simp only [E]; rw [E_self h.2]; exact upd_self h.1

/-- A loop: s tells what the slots hold; J tells the rest. -/
theorem WP.loopE {P : Program} {N : Nat} {D : List Deferred} {e : Env} {w : World} {Q : Exit → Env → World → Prop} {c : Code} {σ : Type} (kv : σ → List (Nat × Value)) (J : σ → World → Prop) (μ : σ → Nat)
    (h0 : ∃ s, Has e (kv s) ∧ J s w)
    (round : ∀ s e w, J s w → WP P N D c (E e (kv s)) w (thenE (fun e' w' => ∃ s', (Has e' (kv s') ∧ J s' w') ∧ μ s' < μ s) Q)) : WP P N D (.loop c) e w Q := by
  refine WP.loop (fun s e w => Has e (kv s) ∧ J s w) μ h0 ?_
  rintro s e w ⟨h, hj⟩
  have := round s e w hj
  rwa [E_self h] at this

section
variable {P : Program} {full : Array Oper} {rest : List Oper} {e : Env} {w : World} {K : Env → World → Prop}
/-- The operation yields v and leaves the world as it is. -/
def Y (P : Program) (o : Oper) (e : Env) (w : World) (v : Value) : Prop := (execOp (ev e) o).run P w = .ok (.value v) w
theorem Ops.nil (h : K e w) : Ops P full [] e w K := h
theorem Ops.go {d : Option Nat} {op : Op} {t : TypeId} {pos : String} {af : Array Edge} (h : Op1 P ⟨d, op, t, pos, af, none⟩ e w (fun v w' => Ops P full rest (updo e d v) w' K)) :
    Ops P full (⟨d, op, t, pos, af, none⟩ :: rest) e w K := by simpa [Ops, runs] using h
theorem Ops.y {d : Nat} {op : Op} {t : TypeId} {pos : String} {af : Array Edge} {v : Value} (hy : Y P ⟨some d, op, t, pos, af, none⟩ e w v) (h : Ops P full rest (upd e d v) w K) :
    Ops P full (⟨some d, op, t, pos, af, none⟩ :: rest) e w K := Ops.go (by unfold Op1; rw [hy]; exact h)
/-- A guarded operation that runs. -/
theorem Ops.gt {d : Option Nat} {op : Op} {t : TypeId} {pos : String} {af : Array Edge} {j : Nat} {b : Bool} (hg : yieldE full e j = some b) (h : Op1 P ⟨d, op, t, pos, af, some (j, b)⟩ e w (fun v w' => Ops P full rest (updo e d v) w' K)) :
    Ops P full (⟨d, op, t, pos, af, some (j, b)⟩ :: rest) e w K := by simpa [Ops, runs, hg] using h
theorem Ops.ygt {d : Nat} {op : Op} {t : TypeId} {pos : String} {af : Array Edge} {v : Value} {j : Nat} {b : Bool} (hg : yieldE full e j = some b) (hy : Y P ⟨some d, op, t, pos, af, some (j, b)⟩ e w v) (h : Ops P full rest (upd e d v) w K) :
    Ops P full (⟨some d, op, t, pos, af, some (j, b)⟩ :: rest) e w K := Ops.gt hg (by unfold Op1; rw [hy]; exact h)
/-- A guarded operation that is passed over. -/
theorem Ops.gf {d : Nat} {op : Op} {t : TypeId} {pos : String} {af : Array Edge} {j : Nat} {b : Bool} (hg : (yieldE full e j == some b) = false) (h : Ops P full rest (upd e d undef) w K) :
    Ops P full (⟨some d, op, t, pos, af, some (j, b)⟩ :: rest) e w K := by simpa [Ops, runs, hg, updo] using h
end
end Go.TF
end
section
/- Memory as the walk tells it: what the call owns (each piece apart from the others), what is never written again, and that nothing older is turned. -/
namespace Go.TF
open Go Go.RowKit

/-- What is known for good of blocks: never written again. -/
abbrev Heap := Nat → Option Obj
def Heap.cell (h : Heap) (b o : Nat) : Option Value := match h b with | some (.cells c _ _) => c[o]? | _ => none
def Heap.le (h h' : Heap) : Prop := ∀ b o, h b = some o → h' b = some o
theorem Heap.le.refl (h : Heap) : h.le h := fun _ _ e => e
theorem Heap.le.trans {a b c : Heap} (h : a.le b) (k : b.le c) : a.le c := fun x o e => k x o (h x o e)
theorem Heap.le.cell {h h' : Heap} (hl : h.le h') {b o : Nat} {v : Value} (hc : h.cell b o = some v) : h'.cell b o = some v := by
  unfold Heap.cell at *
  split at hc
  · rename_i c t f hb; rw [hl _ _ hb]; exact hc
  · cases hc

/-- A piece of memory that the call owns: its blocks, and what is said of them (of them alone). -/
structure SA where
  fp : List Nat
  P : World → Prop
  loc : ∀ w w' : World, (∀ b ∈ fp, w'.heap[b]? = w.heap[b]?) → P w → P w'
structure Base where
  w : World
  h : Heap
/-- What is known in the course of a call that began at B. -/
structure Inv (B : Base) (h : Heap) (M : List SA) (w : World) : Prop where
  below : Below B.w.heap.size B.w w
  ext : B.h.le h
  new : ∀ b o, h b = some o → B.h b = some o ∨ B.w.heap.size ≤ b
  imm : ∀ b o, h b = some o → w.heap[b]? = some o
  own : ∀ A ∈ M, A.P w ∧ ∀ b ∈ A.fp, B.w.heap.size ≤ b ∧ b < w.heap.size ∧ h b = none
  apart : M.Pairwise fun A C => ∀ b ∈ A.fp, b ∉ C.fp
def Base.ok (B : Base) : Prop := ∀ b o, B.h b = some o → B.w.heap[b]? = some o
theorem Inv.start {B : Base} (h : B.ok) : Inv B B.h [] B.w :=
  ⟨Below.refl _ _, Heap.le.refl _, fun _ _ e => .inl e, h, (fun _ h => by cases h), List.Pairwise.nil⟩

/-- From w to w' nothing that there was is turned. -/
def Grow (w w' : World) : Prop := Below w.heap.size w w'
theorem Grow.refl (w : World) : Grow w w := Below.refl _ _
theorem Grow.trans {a b c : World} (h : Grow a b) (k : Grow b c) : Grow a c := Below.trans h (Below.mono k h.size)
theorem Grow.drew (w : World) : Grow w w.drew := (Below.refl _ w).drew
theorem Grow.alloc (w : World) (o : Obj) : Grow w (w.alloc o) := (Below.refl _ w).alloc (Nat.le_refl _) o

section
variable {B : Base} {h : Heap} {M : List SA} {w w' : World}
theorem Inv.lt (I : Inv B h M w) {b : Nat} {o : Obj} (hb : h b = some o) : b < w.heap.size := by
  have := I.imm b o hb
  exact (Array.getElem?_eq_some_iff.1 this).1
theorem Inv.grow (I : Inv B h M w) (g : Grow w w') : Inv B h M w' where
  below := I.below.trans (g.mono I.below.size)
  ext := I.ext
  new := I.new
  imm := fun b o hb => (g.block b (I.lt hb)).trans (I.imm b o hb)
  own := fun A hA => by
    obtain ⟨h1, h2⟩ := I.own A hA
    refine ⟨A.loc w w' (fun b hb => g.block b (h2 b hb).2.1) h1, fun b hb => ?_⟩
    obtain ⟨k1, k2, k3⟩ := h2 b hb
    exact ⟨k1, Nat.lt_of_lt_of_le k2 g.size, k3⟩
  apart := I.apart
theorem Inv.drew (I : Inv B h M w) : Inv B h M w.drew := I.grow (Grow.drew w)
/-- The call ended, and what it hands on is known for good. -/
abbrev Ext (B : Base) (w : World) (h : Heap) : Prop := Inv B h [] w
theorem Inv.ext_of (I : Inv B h M w) : Ext B w h := ⟨I.below, I.ext, I.new, I.imm, (fun _ h => by cases h), List.Pairwise.nil⟩
theorem Ext.grow (I : Inv B h M w) : Grow B.w w := I.below
/-- Behind a callee's call. -/
theorem Inv.called {h' : Heap} (I : Inv B h M w) (X : Ext ⟨w, h⟩ w' h') : Inv B h' M w' where
  below := I.below.trans (X.below.mono I.below.size)
  ext := I.ext.trans X.ext
  new := fun b o hb => by
    rcases X.new b o hb with h1 | h1
    · exact I.new b o h1
    · exact .inr (Nat.le_trans I.below.size h1)
  imm := X.imm
  own := fun A hA => by
    obtain ⟨h1, h2⟩ := I.own A hA
    refine ⟨A.loc w w' (fun b hb => X.below.block b (h2 b hb).2.1) h1, fun b hb => ?_⟩
    obtain ⟨k1, k2, k3⟩ := h2 b hb
    refine ⟨k1, Nat.lt_of_lt_of_le k2 X.below.size, ?_⟩
    cases hh : h' b with
    | none => rfl
    | some o =>
      rcases X.new b o hh with h1 | h1
      · exact absurd (h1.symm.trans k3) (by simp)
      · exact absurd k2 (by simpa using h1)
  apart := I.apart
theorem Inv.base_ok (I : Inv B h M w) : Base.ok ⟨w, h⟩ := I.imm
theorem Inv.weak (I : Inv B h M w) {M' : List SA} (hs : M'.Sublist M) : Inv B h M' w :=
  ⟨I.below, I.ext, I.new, I.imm, fun A hA => I.own A (hs.subset hA), I.apart.sublist hs⟩
theorem Inv.drop {A : SA} (I : Inv B h (A :: M) w) : Inv B h M w := I.weak (List.sublist_cons_self A M)
theorem Inv.clear (I : Inv B h M w) : Inv B h [] w := I.weak (List.nil_sublist M)
theorem Inv.perm {M' : List SA} (I : Inv B h M w) (hp : M'.Perm M) : Inv B h M' w :=
  ⟨I.below, I.ext, I.new, I.imm, fun A hA => I.own A (hp.subset hA), I.apart.perm hp.symm fun hxy b hb hb' => hxy b hb' hb⟩
theorem perm_front {α : Type} : ∀ (l : List α) (n : Nat) (h : n < l.length), (l[n] :: l.eraseIdx n).Perm l
  | a :: l, 0, _ => List.Perm.refl _
  | a :: l, n + 1, h => by
    simp only [List.getElem_cons_succ, List.eraseIdx_cons_succ]
    exact (List.Perm.swap a _ _).trans ((perm_front l n (by simpa using h)).cons a)
/-- One of the owned pieces to the front. -/
theorem Inv.front (I : Inv B h M w) (n : Nat) {A : SA} (hn : M[n]? = some A) : Inv B h (A :: M.eraseIdx n) w := by
  obtain ⟨hlt, rfl⟩ := List.getElem?_eq_some_iff.1 hn
  exact I.perm (perm_front M n hlt)
theorem Inv.at (I : Inv B h M w) (n : Nat) {A : SA} (hn : M[n]? = some A) : A.P w := (I.own A (List.mem_of_getElem? hn)).1
/-- A step that turns nothing but the piece at the front (and what is new). -/
theorem Inv.step {A A' : SA} (I : Inv B h (A :: M) w) (hos : w'.os = w.os) (ht : w'.tape = w.tape) (ho : w'.output = w.output) (hs : w.heap.size ≤ w'.heap.size)
    (hb : ∀ b, b < w.heap.size → b ∉ A.fp → w'.heap[b]? = w.heap[b]?) (hA : A'.P w') (hf : ∀ b ∈ A'.fp, (b ∈ A.fp ∨ w.heap.size ≤ b) ∧ b < w'.heap.size) : Inv B h (A' :: M) w' := by
  have hown := I.own A (List.mem_cons_self ..)
  have hnot : ∀ b, h b ≠ none → b ∉ A.fp := fun b hb hm => hb (hown.2 b hm).2.2
  have hap := List.pairwise_cons.1 I.apart
  refine ⟨?_, I.ext, I.new, fun b o hbo => ?_, fun C hC => ?_, List.pairwise_cons.2 ⟨fun C hC b hb' hbC => ?_, hap.2⟩⟩
  · exact I.below.trans ⟨hos, ht, ho, hs, fun k hk => hb k (Nat.lt_of_lt_of_le hk I.below.size) (fun hm => by have := (hown.2 k hm).1; omega)⟩
  · rw [hb b (I.lt hbo) (hnot b (by simp [hbo]))]; exact I.imm b o hbo
  · rcases List.mem_cons.1 hC with rfl | hC
    · refine ⟨hA, fun b hb' => ?_⟩
      obtain ⟨h1, h2⟩ := hf b hb'
      rcases h1 with h1 | h1
      · exact ⟨(hown.2 b h1).1, h2, (hown.2 b h1).2.2⟩
      · refine ⟨Nat.le_trans I.below.size h1, h2, ?_⟩
        cases hh : h b with
        | none => rfl
        | some o => exact absurd (I.lt hh) (by omega)
    · obtain ⟨h1, h2⟩ := I.own C (List.mem_cons_of_mem _ hC)
      refine ⟨C.loc w w' (fun b hb' => hb b (h2 b hb').2.1 (fun hm => hap.1 C hC b hm hb')) h1, fun b hb' => ?_⟩
      obtain ⟨k1, k2, k3⟩ := h2 b hb'
      exact ⟨k1, Nat.lt_of_lt_of_le k2 hs, k3⟩
  · obtain ⟨h1, _⟩ := hf b hb'
    rcases h1 with h1 | h1
    · exact hap.1 C hC b h1 hbC
    · have := ((I.own C (List.mem_cons_of_mem _ hC)).2 b hbC).2.1; omega
/-- A piece that is new. -/
theorem Inv.gain {A : SA} (I : Inv B h M w) (g : Grow w w') (hA : A.P w') (hf : ∀ b ∈ A.fp, w.heap.size ≤ b ∧ b < w'.heap.size) : Inv B h (A :: M) w' := by
  have I' : Inv B h (⟨[], fun _ => True, fun _ _ _ h => h⟩ :: M) w :=
    ⟨I.below, I.ext, I.new, I.imm, fun C hC => by
      rcases List.mem_cons.1 hC with rfl | hC
      · exact ⟨trivial, (fun b hb => by cases hb)⟩
      · exact I.own C hC, List.pairwise_cons.2 ⟨(fun _ _ b hb => by cases hb), I.apart⟩⟩
  exact I'.step g.os g.tape g.output g.size (fun b hb _ => g.block b hb) hA (fun b hb => ⟨.inr (hf b hb).1, (hf b hb).2⟩)
/-- A piece is never written again: it goes to what is known for good. -/
theorem Inv.settle {A : SA} (I : Inv B h (A :: M) w) : ∃ h', h.le h' ∧ (∀ b ∈ A.fp, h' b = w.heap[b]?) ∧ Inv B h' M w := by
  have hown := I.own A (List.mem_cons_self ..)
  have hap := List.pairwise_cons.1 I.apart
  refine ⟨fun b => if b ∈ A.fp then w.heap[b]? else h b, ?_, fun b hb => by simp [hb], ?_⟩
  · intro b o hb
    have : b ∉ A.fp := fun hm => by have := (hown.2 b hm).2.2; simp [this] at hb
    simp [this, hb]
  · refine ⟨I.below, fun b o hb => ?_, fun b o hb => ?_, fun b o hb => ?_, fun C hC => ?_, hap.2⟩
    · have hb' := I.ext b o hb
      have : b ∉ A.fp := fun hm => by have := (hown.2 b hm).2.2; simp [this] at hb'
      simp [this, hb']
    · by_cases hm : b ∈ A.fp
      · exact .inr (hown.2 b hm).1
      · simp only [hm, if_false] at hb; exact I.new b o hb
    · by_cases hm : b ∈ A.fp
      · simpa [hm] using hb
      · simp only [hm, if_false] at hb; exact I.imm b o hb
    · obtain ⟨h1, h2⟩ := I.own C (List.mem_cons_of_mem _ hC)
      refine ⟨h1, fun b hb => ?_⟩
      obtain ⟨k1, k2, k3⟩ := h2 b hb
      have : b ∉ A.fp := fun hm => hap.1 C hC b hm hb
      exact ⟨k1, k2, by simp [this, k3]⟩
end

/-- A variable of the call's own. -/
def box (b : Nat) (cs : List Value) (T : TypeId) : SA where
  fp := [b]
  P := fun w => w.heap[b]? = some (.cells cs.toArray T (0, 0))
  loc := fun _ _ h hp => (h b (by simp)).trans hp

/-- What a cell's row holds. -/
def Rd (w : World) (b o : Nat) (cs : List Value) : Prop := ∀ j v, cs[j]? = some v → w.cell? ⟨b, o + j, none⟩ = some v
def RdH (h : Heap) (b o : Nat) (cs : List Value) : Prop := ∀ j v, cs[j]? = some v → h.cell b (o + j) = some v
theorem Inv.cell {B : Base} {h : Heap} {M : List SA} {w : World} (I : Inv B h M w) {b o : Nat} {v : Value} (hc : h.cell b o = some v) : w.cell? ⟨b, o, none⟩ = some v := by
  unfold Heap.cell at hc
  split at hc
  · rename_i c t f hb; simp [World.cell?, I.imm _ _ hb, hc]
  · cases hc
theorem Inv.rd {B : Base} {h : Heap} {M : List SA} {w : World} (I : Inv B h M w) {b o : Nat} {cs : List Value} (hr : RdH h b o cs) : Rd w b o cs := fun j v e => I.cell (hr j v e)
theorem RdH.le {h h' : Heap} (hl : h.le h') {b o : Nat} {cs : List Value} (hr : RdH h b o cs) : RdH h' b o cs := fun j v e => hl.cell (hr j v e)
theorem RdH.part {h : Heap} {b o : Nat} {cs : List Value} (hr : RdH h b o cs) (i n : Nat) : RdH h b (o + i) ((cs.drop i).take n) := fun j v e => by
  rw [Nat.add_assoc]
  refine hr (i + j) v ?_
  rw [List.getElem?_take] at e
  split at e
  · rwa [List.getElem?_drop] at e
  · cases e
theorem rd_box {w : World} {b : Nat} {cs : List Value} {T : TypeId} (hp : w.heap[b]? = some (.cells cs.toArray T (0, 0))) (o n : Nat) : Rd w b o ((cs.drop o).take n) := fun j v e => by
  rw [List.getElem?_take] at e
  split at e
  · rw [List.getElem?_drop] at e; simp [World.cell?, hp, e]
  · cases e
theorem Inv.rdbox {B : Base} {h : Heap} {M : List SA} {w : World} (I : Inv B h M w) (n : Nat) {b : Nat} {cs : List Value} {T : TypeId} (hn : M[n]? = some (box b cs T)) (o m : Nat) : Rd w b o ((cs.drop o).take m) :=
  rd_box (I.at n hn) o m

/-! ### Types of the program, as the operations ask them -/
def ldv : Bool → List Value → Value
  | true, cs => .agg cs.toArray
  | false, cs => cs.headD undef
theorem addr_add (b o i : Nat) : (⟨b, o, none⟩ : Addr).add i = ⟨b, o + i, none⟩ := by unfold Addr.add; split <;> simp_all
end Go.TF
end
section
/- One law for each operation of the walk. -/
namespace Go.TF
open Go Go.RowKit

/-! ### Types, as the program's tables tell them -/
structure Ty (P : Program) (T : TypeId) (n : Nat) (ag : Bool) : Prop where
  size : ∀ w, (sizeOf T).run P w = .ok n w
  agg : ∀ w, (isAgg T).run P w = .ok ag w
  one : ag = false → n = 1
def FA (P : Program) (T i off : Nat) : Prop := ∀ (a : Addr) w, (Instr.fieldAt T (.pointer (some a)) i).run P w = .ok (.pointer (some (a.add off))) w
def Und (P : Program) (T : TypeId) (d : TypeDesc) : Prop := P.underlying T = some d
def Zero (P : Program) (T : TypeId) (v : Value) : Prop := ∀ w, (zeroValue T).run P w = .ok v w
theorem loadVar_run {P : Program} {T : TypeId} {n : Nat} {ag : Bool} (ti : Ty P T n ag) {w : World} {b o : Nat} {cs : List Value} (hr : Rd w b o cs) (hl : cs.length = n) :
    (loadVar T ⟨b, o, none⟩).run P w = .ok (ldv ag cs) w := by
  unfold loadVar
  cases ag with
  | true =>
    have := run_loadCells_list (P := P) (w := w) ⟨b, o, none⟩ cs (fun j v e => by rw [addr_add]; exact hr j v e)
    simp [ti.agg, ti.size, ← hl, this, ldv]
  | false =>
    have := ti.one rfl
    match cs, hl with
    | [c], _ =>
      have hc := hr 0 c rfl
      simp only [Nat.add_zero] at hc
      simp [ti.agg, hc, ldv, load, Sem.run]
    | [], hl => simp at hl; omega
    | _ :: _ :: _, hl => simp at hl; omega

section
variable {P : Program} {e : Env} {w : World} {d : Option Nat} {t : TypeId} {pos : String} {af : Array Edge} {g : Option (Nat × Bool)}
theorem Y.move {x : Operand} {v : Value} (hx : ev e x = v) : Y P ⟨d, .move x, t, pos, af, g⟩ e w v := by simp [Y, execOp, hx, Pure.pure]
theorem Y.assign {x : Operand} {v : Value} (hx : ev e x = v) : Y P ⟨d, .assign x, t, pos, af, g⟩ e w v := by simp [Y, execOp, hx, Pure.pure]
theorem Y.pick_t {c x y : Operand} {v : Value} (hc : ev e c = .bool true) (hx : ev e x = v) : Y P ⟨d, .pick c x y, t, pos, af, g⟩ e w v := by simp [Y, execOp, hc, hx, asBool]
theorem Y.pick_f {c x y : Operand} {v : Value} (hc : ev e c = .bool false) (hx : ev e y = v) : Y P ⟨d, .pick c x y, t, pos, af, g⟩ e w v := by simp [Y, execOp, hc, hx, asBool]
theorem Y.nilp {x : Operand} {a : Addr} (hx : ev e x = .pointer (some a)) : Y P ⟨d, .nilCheck x, t, pos, af, g⟩ e w (.pointer (some a)) := by simp [Y, execOp, hx]
theorem Y.not {x : Operand} {T : TypeId} {b : Bool} (hx : ev e x = .bool b) : Y P ⟨d, .unOp .not T x, t, pos, af, g⟩ e w (.bool !b) := by simp [Y, execOp, hx, Op.unary]
theorem Y.notd {x : Operand} {T : TypeId} {p : Prop} [Decidable p] (hx : ev e x = .bool (decide p)) : Y P ⟨d, .unOp .not T x, t, pos, af, g⟩ e w (.bool (decide ¬p)) := by
  simp [Y, execOp, hx, Op.unary]
theorem Y.eqi {x y : Operand} {T T' : TypeId} {k : IntKind} {a b : Int} (hx : ev e x = .int k a) (hy : ev e y = .int k b) : Y P ⟨d, .binOp .eql T x y T', t, pos, af, g⟩ e w (.bool (decide (a = b))) := by
  simp [Y, execOp, hx, hy, eqGuard, binOp, Op.intCmp, Bool.beq_eq_decide_eq]
theorem Y.nei {x y : Operand} {T T' : TypeId} {k : IntKind} {a b : Int} (hx : ev e x = .int k a) (hy : ev e y = .int k b) : Y P ⟨d, .binOp .neq T x y T', t, pos, af, g⟩ e w (.bool (decide (a ≠ b))) := by
  simp [Y, execOp, hx, hy, eqGuard, binOp, Op.intCmp]
  cases h : a != b <;> simp_all
theorem Y.lti {x y : Operand} {T T' : TypeId} {k : IntKind} {a b : Int} (hx : ev e x = .int k a) (hy : ev e y = .int k b) : Y P ⟨d, .binOp .lss T x y T', t, pos, af, g⟩ e w (.bool (decide (a < b))) := by
  simp [Y, execOp, hx, hy, eqGuard, binOp, Op.intCmp]
theorem Y.lei {x y : Operand} {T T' : TypeId} {k : IntKind} {a b : Int} (hx : ev e x = .int k a) (hy : ev e y = .int k b) : Y P ⟨d, .binOp .leq T x y T', t, pos, af, g⟩ e w (.bool (decide (a ≤ b))) := by
  simp [Y, execOp, hx, hy, eqGuard, binOp, Op.intCmp]
theorem Y.gti {x y : Operand} {T T' : TypeId} {k : IntKind} {a b : Int} (hx : ev e x = .int k a) (hy : ev e y = .int k b) : Y P ⟨d, .binOp .gtr T x y T', t, pos, af, g⟩ e w (.bool (decide (b < a))) := by
  simp [Y, execOp, hx, hy, eqGuard, binOp, Op.intCmp]
theorem Y.gei {x y : Operand} {T T' : TypeId} {k : IntKind} {a b : Int} (hx : ev e x = .int k a) (hy : ev e y = .int k b) : Y P ⟨d, .binOp .geq T x y T', t, pos, af, g⟩ e w (.bool (decide (b ≤ a))) := by
  simp [Y, execOp, hx, hy, eqGuard, binOp, Op.intCmp]
/-- An int that is one. -/
abbrev I64 (a : Int) : Prop := -9223372036854775808 ≤ a ∧ a < 9223372036854775808
theorem wrap_i64 {a : Int} (h : I64 a) : IntKind.i64.wrap a = a := by
  have h64 : IntKind.i64.bits = 64 := rfl
  have hs : IntKind.i64.signed = true := rfl
  unfold IntKind.wrap
  simp only [h64, hs, Bool.true_and, Nat.add_one_sub_one]
  obtain ⟨h1, h2⟩ := h
  simp only [show (2 ^ 64 : Int) = 18446744073709551616 from rfl, show (2 ^ (64 - 1) : Int) = 9223372036854775808 from rfl, ge_iff_le, decide_eq_true_eq]
  split <;> omega
theorem Y.addi {x y : Operand} {T T' : TypeId} {a b : Int} (hx : ev e x = .int .i64 a) (hy : ev e y = .int .i64 b) (hr : I64 (a + b)) : Y P ⟨d, .binOp .add T x y T', t, pos, af, g⟩ e w (.int .i64 (a + b)) := by
  simp [Y, execOp, hx, hy, eqGuard, binOp, Op.intArith, wrap_i64 hr]
theorem Y.subi {x y : Operand} {T T' : TypeId} {a b : Int} (hx : ev e x = .int .i64 a) (hy : ev e y = .int .i64 b) (hr : I64 (a - b)) : Y P ⟨d, .binOp .sub T x y T', t, pos, af, g⟩ e w (.int .i64 (a - b)) := by
  simp [Y, execOp, hx, hy, eqGuard, binOp, Op.intArith, wrap_i64 hr]
theorem Y.muli {x y : Operand} {T T' : TypeId} {a b : Int} (hx : ev e x = .int .i64 a) (hy : ev e y = .int .i64 b) (hr : I64 (a * b)) : Y P ⟨d, .binOp .mul T x y T', t, pos, af, g⟩ e w (.int .i64 (a * b)) := by
  simp [Y, execOp, hx, hy, eqGuard, binOp, Op.intArith, wrap_i64 hr]
theorem Y.remi {x y : Operand} {T T' : TypeId} {k : IntKind} {a b : Int} (hx : ev e x = .int k a) (hy : ev e y = .int k b) (hb : b ≠ 0) : Y P ⟨d, .binOp .rem T x y T', t, pos, af, g⟩ e w (.int k (a.tmod b)) := by
  simp [Y, execOp, hx, hy, eqGuard, binOp, Op.intDiv, hb]
theorem Y.quoi {x y : Operand} {T T' : TypeId} {a b : Int} (hx : ev e x = .int .i64 a) (hy : ev e y = .int .i64 b) (hb : b ≠ 0) (hr : I64 (a.tdiv b)) : Y P ⟨d, .binOp .quo T x y T', t, pos, af, g⟩ e w (.int .i64 (a.tdiv b)) := by
  simp [Y, execOp, hx, hy, eqGuard, binOp, Op.intDiv, hb, wrap_i64 hr]
/-- Bits of both. -/
def orI (a b : Int) : Int := IntKind.i64.wrap (BitVec.ofInt 64 a ||| BitVec.ofInt 64 b).toNat
theorem Y.eqs {x y : Operand} {T T' : TypeId} {a b : ByteArray} (hx : ev e x = .string a) (hy : ev e y = .string b) : Y P ⟨d, .binOp .eql T x y T', t, pos, af, g⟩ e w (.bool (a.toList == b.toList)) := by
  simp [Y, execOp, hx, hy, eqGuard, binOp, Op.stringOp]
theorem Y.nes {x y : Operand} {T T' : TypeId} {a b : ByteArray} (hx : ev e x = .string a) (hy : ev e y = .string b) : Y P ⟨d, .binOp .neq T x y T', t, pos, af, g⟩ e w (.bool !(a.toList == b.toList)) := by
  simp [Y, execOp, hx, hy, eqGuard, binOp, Op.stringOp]
theorem Y.adds {x y : Operand} {T T' : TypeId} {a b : ByteArray} (hx : ev e x = .string a) (hy : ev e y = .string b) (hr : a.size + b.size ≤ 9223372036854775807) : Y P ⟨d, .binOp .add T x y T', t, pos, af, g⟩ e w (.string (a ++ b)) := by
  have h64 : IntKind.i64.max = 9223372036854775807 := rfl
  have : ¬ ((a.size + b.size : Nat) : Int) > 9223372036854775807 := by omega
  simp only [Y, execOp, hx, hy, eqGuard, binOp, Op.stringOp, h64, if_neg this]
  simp
theorem Y.eqb {x y : Operand} {T T' : TypeId} {a b : Bool} (hT : Und P T .bool) (hx : ev e x = .bool a) (hy : ev e y = .bool b) : Y P ⟨d, .binOp .eql T x y T', t, pos, af, g⟩ e w (.bool (decide (a = b))) := by
  have hh : (a == b) = decide (a = b) := by cases a <;> cases b <;> rfl
  simp [Y, execOp, hx, hy, eqGuard, run_eql_bool w T a b hT]
  exact hh
theorem Y.neb {x y : Operand} {T T' : TypeId} {a b : Bool} (hT : Und P T .bool) (hx : ev e x = .bool a) (hy : ev e y = .bool b) : Y P ⟨d, .binOp .neq T x y T', t, pos, af, g⟩ e w (.bool (decide (a ≠ b))) := by
  have hh : (a == b) = decide (a = b) := by cases a <;> cases b <;> rfl
  simp [Y, execOp, hx, hy, eqGuard, run_neq_bool w T a b hT]
  exact hh
theorem Y.lens {x : Operand} {T r : TypeId} {a : Option Addr} {n c : Nat} (hT : Und P T (.slice r)) (hx : ev e x = .slice a n c) :
    Y P ⟨d, .call { callee := .builtin .len, args := #[x], argTypes := #[T] }, t, pos, af, g⟩ e w (.int .i64 n) := by
  simp [Y, execOp, hx, resolve, invoke, builtin, Builtin.len_, run_underlying hT, goInt]
theorem Y.lenstr {x : Operand} {T : TypeId} {s : ByteArray} (hT : Und P T .string) (hx : ev e x = .string s) :
    Y P ⟨d, .call { callee := .builtin .len, args := #[x], argTypes := #[T] }, t, pos, af, g⟩ e w (.int .i64 s.size) := by
  simp [Y, execOp, hx, resolve, invoke, builtin, Builtin.len_, run_underlying hT, goInt]
theorem Y.extract {x : Operand} {i : Nat} {vs : List Value} {v : Value} (hx : ev e x = .tuple vs.toArray) (hv : vs[i]? = some v) : Y P ⟨d, .extract x i, t, pos, af, g⟩ e w v := by
  simp [Y, execOp, hx, Instr.extract, hv]
theorem Y.mkfunc {fn : Fn} {first captured : Array Operand} {fs cs : List Value} (hf : first.toList.map (ev e) = fs) (hc : captured.toList.map (ev e) = cs) :
    Y P ⟨d, .makeFunc fn first captured, t, pos, af, g⟩ e w (.func fn fs.toArray cs.toArray) := by
  have h1 : first.map (ev e) = fs.toArray := by rw [← hf]; apply Array.ext'; simp
  have h2 : captured.map (ev e) = cs.toArray := by rw [← hc]; apply Array.ext'; simp
  simp [Y, execOp, Instr.makeFunc, h1, h2]
theorem Y.iface {x : Operand} {T : TypeId} {dd : TypeDesc} {v : Value} (hT : Und P T dd) (hd : ∀ ms, dd ≠ .interface ms) (hx : ev e x = v) : Y P ⟨d, .makeInterface T x, t, pos, af, g⟩ e w (.iface T v) := by
  simp only [Y, execOp, hx, Instr.makeInterface]
  cases dd <;> simp_all [run_underlying hT]
theorem Y.fa {x : Operand} {T i off b o : Nat} (hT : FA P T i off) (hx : ev e x = .pointer (some ⟨b, o, none⟩)) : Y P ⟨d, .fieldAddr T x i, t, pos, af, g⟩ e w (.pointer (some ⟨b, o + off, none⟩)) := by
  simp [Y, execOp, hx, hT _ w, addr_add]
theorem Y.fa0 {x : Operand} {T i b o : Nat} (hT : FA P T i 0) (hx : ev e x = .pointer (some ⟨b, o, none⟩)) : Y P ⟨d, .fieldAddr T x i, t, pos, af, g⟩ e w (.pointer (some ⟨b, o, none⟩)) := by
  simp [Y, execOp, hx, hT _ w, addr_add]
theorem Y.load {x : Operand} {T n b o : Nat} {ag : Bool} {cs : List Value} (hT : Ty P T n ag) (hx : ev e x = .pointer (some ⟨b, o, none⟩)) (hr : Rd w b o cs) (hl : cs.length = n) :
    Y P ⟨d, .load T x, t, pos, af, g⟩ e w (ldv ag cs) := by
  simp [Y, execOp, hx, Instr.loadAt, Instr.sureAddr, loadVar_run hT hr hl]
theorem Y.idx {x ix : Operand} {T el k n c b o : Nat} {ik : IntKind} {i : Int} (hT : Und P T (.slice el)) (hk : ∀ w, (sizeOf el).run P w = .ok k w) (hx : ev e x = .slice (some ⟨b, o, none⟩) n c) (hi : ev e ix = .int ik i)
    (h0 : 0 ≤ i) (h1 : i < n) : Y P ⟨d, .indexAddr T x ix, t, pos, af, g⟩ e w (.pointer (some ⟨b, o + i.toNat * k, none⟩)) := by
  simp [Y, execOp, hx, hi, Instr.indexAt, asIntOf, run_underlying hT, hk, h0, h1, addr_add]
/-- A byte of a string. -/
theorem Y.idxs {x ix : Operand} {T : TypeId} {ik : IntKind} {i : Int} {s : ByteArray} {c : UInt8} (hT : Und P T .string) (hx : ev e x = .string s) (hi : ev e ix = .int ik i) (h0 : 0 ≤ i) (hc : s[i.toNat]? = some c) :
    Y P ⟨d, .index T x ix, t, pos, af, g⟩ e w (.int .u8 c.toNat) := by
  simp [Y, execOp, hx, hi, Instr.index, asIntOf, run_underlying hT, h0, hc]
/-- A slice of a slice, or of a string. -/
theorem Y.slicestr {x : Operand} {T : TypeId} {lo hi : Option Operand} {s : ByteArray} {l h : Nat} (hT : Und P T .string) (hx : ev e x = .string s)
    (hl : lo = none ∧ l = 0 ∨ ∃ q k, lo = some q ∧ ev e q = .int k (l : Int)) (hh : hi = none ∧ h = s.size ∨ ∃ q k, hi = some q ∧ ev e q = .int k (h : Int)) (h1 : l ≤ h) (h2 : h ≤ s.size) :
    Y P ⟨d, .slice T x lo hi none, t, pos, af, g⟩ e w (.string (s.extract l h)) := by
  have hh' : h ≤ s.size := h2
  rcases hl with ⟨rfl, rfl⟩ | ⟨q, k, rfl, hq⟩ <;> rcases hh with ⟨rfl, rfl⟩ | ⟨q', k', rfl, hq'⟩ <;>
    simp_all [Y, execOp, Instr.sliceAt, Instr.slice, Instr.sliceBounds, Instr.sliceBound, run_underlying hT, asIntOf]
theorem Y.slicesl {x : Operand} {T el k : TypeId} {lo hi : Option Operand} {b o n c l h : Nat} (hT : Und P T (.slice el)) (hk : ∀ w, (sizeOf el).run P w = .ok k w) (hx : ev e x = .slice (some ⟨b, o, none⟩) n c)
    (hl : lo = none ∧ l = 0 ∨ ∃ q k, lo = some q ∧ ev e q = .int k (l : Int)) (hh : hi = none ∧ h = n ∨ ∃ q k, hi = some q ∧ ev e q = .int k (h : Int)) (h1 : l ≤ h) (h2 : h ≤ c) :
    Y P ⟨d, .slice T x lo hi none, t, pos, af, g⟩ e w (.slice (some (if c = l then ⟨b, o, none⟩ else ⟨b, o + l * k, none⟩)) (h - l) (c - l)) := by
  rcases hl with ⟨rfl, rfl⟩ | ⟨q, k, rfl, hq⟩ <;> rcases hh with ⟨rfl, rfl⟩ | ⟨q', k', rfl, hq'⟩ <;>
    simp_all [Y, execOp, Instr.sliceAt, Instr.slice, Instr.sliceBounds, Instr.sliceBound, run_underlying hT, asIntOf, addr_add] <;> (try split) <;> rfl
end
end Go.TF
end
section
/- Operations that make or write memory; calls; a function's contract. -/
namespace Go.TF
open Go Go.RowKit

theorem Inv.alloc {B : Base} {h : Heap} {M : List SA} {w : World} (I : Inv B h M w) (cs : List Value) (T : TypeId) : Inv B h (box w.heap.size cs T :: M) (w.alloc (.cells cs.toArray T)) :=
  I.gain (Grow.alloc w _) (heap_alloc_new w _) (fun b hb => by simp [box] at hb; subst hb; simp)

def putAt (cs : List Value) : Nat → List Value → List Value
  | 0, vs => vs ++ cs.drop vs.length
  | o + 1, vs => match cs with
    | [] => vs
    | c :: r => c :: putAt r o vs
theorem putAt_eq : ∀ (cs : List Value) (o : Nat) (vs : List Value), o ≤ cs.length → putAt cs o vs = cs.take o ++ vs ++ cs.drop (o + vs.length)
  | cs, 0, vs, _ => by simp [putAt]
  | [], o + 1, vs, h => by simp at h
  | c :: r, o + 1, vs, h => by
    simp only [putAt, putAt_eq r o vs (by simpa using h), List.take_succ_cons, List.cons_append]
    congr 2
    rw [show o + 1 + vs.length = (o + vs.length) + 1 by omega, List.drop_succ_cons]
def oneCells (vs : List Value) : Bool := vs.all (·.oneCell')
theorem run_storeCells_box (P : Program) {w : World} {b : Nat} {cs : List Value} {T : TypeId} (hb : w.heap[b]? = some (.cells cs.toArray T (0, 0))) (o : Nat) (vs : List Value) (h1 : oneCells vs = true) (hl : o + vs.length ≤ cs.length) :
    (storeCells ⟨b, o, none⟩ vs).run P w = .ok () (w.setRow b (putAt cs o vs).toArray) := by
  have := run_storeCells_at P b o T vs 0 cs.toArray w hb (by simpa using hl) (by simpa [oneCells] using h1)
  rw [putAt_eq cs o vs (by omega)]
  simpa using this
theorem Inv.stepAt {B : Base} {h : Heap} {M : List SA} {w w' : World} (I : Inv B h M w) (n : Nat) {A A' : SA} (hn : M[n]? = some A) (hos : w'.os = w.os) (ht : w'.tape = w.tape) (ho : w'.output = w.output) (hs : w.heap.size ≤ w'.heap.size)
    (hb : ∀ b, b < w.heap.size → b ∉ A.fp → w'.heap[b]? = w.heap[b]?) (hA : A'.P w') (hf : ∀ b ∈ A'.fp, (b ∈ A.fp ∨ w.heap.size ≤ b) ∧ b < w'.heap.size) : Inv B h (M.set n A') w' := by
  have I1 := (I.front n hn).step hos ht ho hs hb hA hf
  refine I1.perm ?_
  obtain ⟨hlt, _⟩ := List.getElem?_eq_some_iff.1 hn
  have := perm_front (M.set n A') n (by simpa using hlt)
  simpa [List.eraseIdx_set_eq] using this.symm
theorem Inv.putBox {B : Base} {h : Heap} {M : List SA} {w : World} (I : Inv B h M w) (n : Nat) {b : Nat} {cs : List Value} {T : TypeId} (hn : M[n]? = some (box b cs T)) (cs' : List Value) :
    Inv B h (M.set n (box b cs' T)) (w.setRow b cs'.toArray) := by
  have hb : w.heap[b]? = some (.cells cs.toArray T (0, 0)) := I.at n hn
  refine I.stepAt n hn rfl rfl rfl (by simp) (fun k _ hk' => setRow_other w b k _ (fun e => hk' (by simp [box, e]))) (setRow_heap w b cs.toArray cs'.toArray T (0, 0) hb) (fun k hk => ?_)
  simp [box] at hk
  subst hk
  exact ⟨.inl (by simp [box]), by simpa using (Array.getElem?_eq_some_iff.1 hb).1⟩

/-- A function's contract: called so, it returns; what is handed back and what is then known for good is told. -/
def Fn (P : Program) (f : FuncId) (args : List Value) (B : Base) (Post : Value → Heap → Prop) : Prop :=
  Calls P f args.toArray B.w fun x w' => ∃ v h', x = .returned v ∧ Ext B w' h' ∧ Post v h'
theorem Fn.mono {P : Program} {f : FuncId} {args : List Value} {B : Base} {Post Post' : Value → Heap → Prop} (h : Fn P f args B Post) (hp : ∀ v h', B.h.le h' → Post v h' → Post' v h') : Fn P f args B Post' :=
  Calls.mono h fun _ _ ⟨v, h', e, X, p⟩ => ⟨v, h', e, X, hp v h' X.ext p⟩
abbrev Enters (P : Program) (f : FuncId) : Prop := ∀ args w, (callFunc f args).run P w = .ok (.enter f args) w

section
variable {P : Program} {full : Array Oper} {rest : List Oper} {e : Env} {w : World} {K : Env → World → Prop} {B : Base} {h : Heap} {M : List SA}
variable {t : TypeId} {pos : String} {af : Array Edge} {g : Option (Nat × Bool)}
theorem O.alloc {d : Option Nat} {T : TypeId} {v : Value} {cs : List Value} {K : Value → World → Prop} (I : Inv B h M w) (hz : Zero P T v) (hc : v.cells = cs.toArray)
    (k : ∀ b w', Inv B h (box b cs T :: M) w' → K (.pointer (some ⟨b, 0, none⟩)) w') : Op1 P ⟨d, .alloc T, t, pos, af, g⟩ e w K := by
  have : (execOp (ev e) ⟨d, .alloc T, t, pos, af, g⟩).run P w = .ok (.value (.pointer (some ⟨w.heap.size, 0, none⟩))) (w.alloc (.cells cs.toArray T)) := by
    simp [execOp, Instr.alloc, hz w, newVar, newRow, hc]
  unfold Op1
  rw [this]
  exact k _ _ (I.alloc cs T)
theorem O.box {d : Option Nat} {T : TypeId} {x : Operand} {v : Value} {cs : List Value} {K : Value → World → Prop} (I : Inv B h M w) (hx : ev e x = v) (hc : v.cells = cs.toArray)
    (k : ∀ b w', Inv B h (box b cs T :: M) w' → K (.pointer (some ⟨b, 0, none⟩)) w') : Op1 P ⟨d, .box T x, t, pos, af, g⟩ e w K := by
  have : (execOp (ev e) ⟨d, .box T x, t, pos, af, g⟩).run P w = .ok (.value (.pointer (some ⟨w.heap.size, 0, none⟩))) (w.alloc (.cells cs.toArray T)) := by
    simp [execOp, Instr.box, hx, newVar, newRow, hc]
  unfold Op1
  rw [this]
  exact k _ _ (I.alloc cs T)
theorem O.store {d : Option Nat} {T T' : TypeId} {a x : Operand} {v : Value} {b o m : Nat} {ag : Bool} {cs vs cs' : List Value} {K : Value → World → Prop} (I : Inv B h M w) (hT : Ty P T m ag) (n : Nat) (hn : M[n]? = some (TF.box b cs T'))
    (ha : ev e a = .pointer (some ⟨b, o, none⟩)) (hx : ev e x = v) (hv : v.cells = vs.toArray) (hl : vs.length = m) (h1 : oneCells vs = true) (hf : o + vs.length ≤ cs.length) (hp : putAt cs o vs = cs')
    (k : ∀ w', Inv B h (M.set n (TF.box b cs' T')) w' → K undef w') : Op1 P ⟨d, .store T a x, t, pos, af, g⟩ e w K := by
  have hb : w.heap[b]? = some (.cells cs.toArray T' (0, 0)) := I.at n hn
  have : (execOp (ev e) ⟨d, .store T a x, t, pos, af, g⟩).run P w = .ok .skip (w.setRow b cs'.toArray) := by
    subst hp
    simp [execOp, Instr.storeAt, Instr.sureAddr, ha, hx, storeVar, hv, hT.size, hl, run_storeCells_box P hb o vs h1 hf]
  unfold Op1
  rw [this]
  exact k _ (I.putBox n hn cs')
theorem O.call {d : Option Nat} {f : FuncId} {args : Array Operand} {ts : Array TypeId} {vs : List Value} {Post : Value → Heap → Prop} {K : Value → World → Prop} (I : Inv B h M w) (hf : Enters P f) (hfn : Fn P f vs ⟨w, h⟩ Post)
    (ha : args.toList.map (ev e) = vs) (k : ∀ v h' w', Inv B h' M w' → h.le h' → Post v h' → K v w') : Op1 P ⟨d, .call { callee := .value (.func f), args := args, argTypes := ts }, t, pos, af, g⟩ e w K := by
  have ha' : args.map (ev e) = vs.toArray := by rw [← ha]; apply Array.ext'; simp
  have : (execOp (ev e) ⟨d, .call { callee := .value (.func f), args := args, argTypes := ts }, t, pos, af, g⟩).run P w = .ok (.enter f vs.toArray) w := by
    simp [execOp, resolve, ev, Deferred.ofValue, invoke, ha', hf]
  unfold Op1
  rw [this]
  refine Calls.mono hfn ?_
  rintro x w' ⟨v, h', rfl, X, hp⟩
  exact k v h' w' (I.called X) X.ext hp
theorem O.callcv {d : Option Nat} {x : Operand} {f : FuncId} {fs cs : List Value} {args : Array Operand} {ts : Array TypeId} {vs : List Value} {r : Value} {K : Value → World → Prop} (I : Inv B h M w) (hf : Enters P f)
    (hx : ev e x = .func (.func f) fs.toArray cs.toArray) (hfn : Fn P f vs ⟨w, h⟩ (fun v _ => v = r))
    (ha : fs ++ args.toList.map (ev e) ++ cs = vs) (k : ∀ w', Inv B h M w' → K r w') : Op1 P ⟨d, .call { callee := .value x, args := args, argTypes := ts }, t, pos, af, g⟩ e w K := by
  have ha' : fs.toArray ++ args.map (ev e) ++ cs.toArray = vs.toArray := by rw [← ha]; apply Array.ext'; simp
  have : (execOp (ev e) ⟨d, .call { callee := .value x, args := args, argTypes := ts }, t, pos, af, g⟩).run P w = .ok (.enter f vs.toArray) w := by
    simp only [execOp, resolve, hx, Deferred.ofValue]
    simp [invoke, ha', hf]
  unfold Op1
  rw [this]
  refine Calls.mono hfn ?_
  rintro y w' ⟨v, h', rfl, X, rfl⟩
  exact k w' (I.grow X.below)
theorem O.callv {d : Option Nat} {f : FuncId} {args : Array Operand} {ts : Array TypeId} {vs : List Value} {r : Value} {K : Value → World → Prop} (I : Inv B h M w) (hf : Enters P f) (hfn : Fn P f vs ⟨w, h⟩ (fun v _ => v = r))
    (ha : args.toList.map (ev e) = vs) (k : ∀ w', Inv B h M w' → K r w') : Op1 P ⟨d, .call { callee := .value (.func f), args := args, argTypes := ts }, t, pos, af, g⟩ e w K := by
  have ha' : args.map (ev e) = vs.toArray := by rw [← ha]; apply Array.ext'; simp
  have : (execOp (ev e) ⟨d, .call { callee := .value (.func f), args := args, argTypes := ts }, t, pos, af, g⟩).run P w = .ok (.enter f vs.toArray) w := by
    simp [execOp, resolve, ev, Deferred.ofValue, invoke, ha', hf]
  unfold Op1
  rw [this]
  refine Calls.mono hfn ?_
  rintro x w' ⟨v, h', rfl, X, rfl⟩
  exact k w' (I.grow X.below)
end

/-! ### A function -/
def RV (P : Program) (e : Env) (w : World) : List ResultVar → List Value → Prop
  | [], [] => True
  | .tmp t :: rs, v :: vs => e t = v ∧ RV P e w rs vs
  | .cell a T :: rs, v :: vs => (∃ b o n ag cs, e a = .pointer (some ⟨b, o, none⟩) ∧ Ty P T n ag ∧ Rd w b o cs ∧ cs.length = n ∧ ldv ag cs = v) ∧ RV P e w rs vs
  | _, _ => False
def tup : List Value → Value
  | [v] => v
  | vs => .tuple vs.toArray
theorem mapM_rv {P : Program} {a : Act} {w : World} {F : ResultVar → Sem Value} (h0 : ∀ t, F (.tmp t) = pure (a.tmps.getD t undef)) (h1 : ∀ p T, F (.cell p T) = (do loadVar T (← asAddr (a.tmps.getD p undef)))) :
    ∀ (rs : List ResultVar) (vs : List Value), RV P (env a) w rs vs → (rs.mapM F).run P w = .ok vs w
  | [], [], _ => by simp
  | [], _ :: _, h => h.elim
  | .tmp _ :: _, [], h => h.elim
  | .cell _ _ :: _, [], h => h.elim
  | .tmp t :: rs, v :: vs, h => by
    have ih := mapM_rv h0 h1 rs vs h.2
    have e1 : a.tmps.getD t undef = v := h.1
    simp only [List.mapM_cons, h0, e1, Sem.run_bind, Sem.run_pure, Result.andThen_ok, ih]
  | .cell p T :: rs, v :: vs, h => by
    have ih := mapM_rv h0 h1 rs vs h.2
    obtain ⟨⟨b, o, n, ag, cs, g1, g2, g3, g4, g5⟩, _⟩ := h
    have e1 : asAddr (a.tmps.getD p undef) = pure ⟨b, o, none⟩ := by rw [show a.tmps.getD p undef = .pointer (some ⟨b, o, none⟩) from g1]; rfl
    simp only [List.mapM_cons, h1, e1, Sem.run_bind, Sem.run_pure, Result.andThen_ok, loadVar_run g2 g3 g4, g5, ih]
theorem results_run {P : Program} {fn : Func} {a : Act} {w : World} {rs : List ResultVar} {vs : List Value} (hr : fn.results.toList = rs) (h : RV P (env a) w rs vs) : (results fn a.tmps).run P w = .ok (tup vs) w := by
  have hr' : fn.results = rs.toArray := by rw [← hr]
  unfold results
  rw [hr', List.mapM_toArray, Sem.run_bind, Sem.run_map, mapM_rv (fun _ => rfl) (fun _ _ => rfl) rs vs h]
  simp only [Result.andThen_ok]
  match vs with
  | [] => rfl
  | [v] => rfl
  | _ :: _ :: _ => rfl
/-- What a function owes at its end. -/
def retQ (P : Program) (fn : Func) (B : Base) (Post : Value → Heap → Prop) : Exit → Env → World → Prop
  | .ret, e, w | .normal, e, w => ∃ vs h', RV P e w fn.results.toList vs ∧ Ext B w h' ∧ Post (tup vs) h'
  | _, _, _ => False
theorem retQ.mk {P : Program} {fn : Func} {B : Base} {Post : Value → Heap → Prop} {e : Env} {w : World} {rs : List ResultVar} {vs : List Value} {h : Heap} (hr : fn.results.toList = rs) (hv : RV P e w rs vs) (X : Ext B w h) (hp : Post (tup vs) h) :
    retQ P fn B Post .ret e w := ⟨vs, h, by rw [hr]; exact hv, X, hp⟩
theorem retQ.fin {P : Program} {fn : Func} {B : Base} {Post : Value → Heap → Prop} {e : Env} {w : World} {rs : List ResultVar} {vs : List Value} {h : Heap} (hr : fn.results.toList = rs) (hv : RV P e w rs vs) (X : Ext B w h) (hp : Post (tup vs) h) :
    retQ P fn B Post .normal e w := ⟨vs, h, by rw [hr]; exact hv, X, hp⟩

/-- A cut: what the slots hold, and what is known of the world, between a piece of code and the rest. -/
theorem WP.cutK {P : Program} {N : Nat} {D : List Deferred} {e : Env} {w : World} {Q : Exit → Env → World → Prop} {x : Code} {K : Env → World → Prop} {σ : Type} (kv : σ → List (Nat × Value)) (J : σ → World → Prop)
    (hx : WP P N D x e w (thenE (fun e' w' => ∃ s, Has e' (kv s) ∧ J s w') Q)) (hy : ∀ s e' w', J s w' → K (E e' (kv s)) w') : WP P N D x e w (thenE K Q) := by
  refine hx.mono ?_
  intro x e' w' h
  cases x <;> first | exact h | skip
  obtain ⟨s, h1, h2⟩ := h
  have := hy s e' w' h2
  rwa [E_self h1] at this
theorem WP.cutL {P : Program} {N : Nat} {D : List Deferred} {e : Env} {w : World} {Q : Exit → Env → World → Prop} {x : Code} {σ : Type} (kv : σ → List (Nat × Value)) (J : σ → World → Prop)
    (hx : WP P N D x e w (thenE (fun e' w' => ∃ s, Has e' (kv s) ∧ J s w') Q)) (hy : ∀ s e' w', J s w' → Q .normal (E e' (kv s)) w') : WP P N D x e w Q := by
  refine hx.mono ?_
  intro x e' w' h
  cases x <;> first | exact h | skip
  obtain ⟨s, h1, h2⟩ := h
  have := hy s e' w' h2
  rwa [E_self h1] at this
def argsE : Nat → List Value → List (Nat × Value)
  | _, [] => []
  | i, v :: r => (i, v) :: argsE (i + 1) r
theorem has_args {e : Env} : ∀ (vs : List Value) (i : Nat), (∀ j v, vs[j]? = some v → e (i + j) = v) → Has e (argsE i vs)
  | [], _, _ => trivial
  | v :: r, i, h => ⟨h 0 v rfl, has_args r (i + 1) fun j u hu => by have := h (j + 1) u (by simpa using hu); rwa [show i + (j + 1) = i + 1 + j by omega] at this⟩
theorem Fn.of {P : Program} {f : FuncId} {fn : Func} {c : Code} {N : Nat} {args : List Value} {B : Base} {Post : Value → Heap → Prop} (hf : P.funcs[f]? = some fn) (hb : fn.body = some c) (hN : fn.ntmps = N) (hs : slotsOk N c = true)
    (hl : args.length ≤ N) (h : ∀ e, WP P N [] c (E e (argsE 0 args)) B.w (retQ P fn B Post)) : Fn P f args B Post := by
  refine calls_of_wp hf hb ?_
  subst hN
  refine wp_mono (h _ hs { tmps := args.toArray ++ Array.replicate (fn.ntmps - args.toArray.size) undef, defers := [] } (by simp; omega) rfl (E_self (has_args args 0 fun j v hv => ?_)).symm) ?_
  · have hj := (List.getElem?_eq_some_iff.1 hv).1
    have hg : args[j] = v := (List.getElem?_eq_some_iff.1 hv).2
    simp [env, Array.getD_eq_getD_getElem?, Array.getElem?_append, hj, hg]
  · rintro x a' w' ⟨_, g2, g3⟩
    cases x <;> simp only [retQ] at g3 <;> first | exact g3.elim | skip
    all_goals
      obtain ⟨vs, h', hv, X, hp⟩ := g3
      exact ⟨g2, _, results_run rfl hv, _, _, rfl, X, hp⟩
end Go.TF
end
section
/- More laws of operations: tests that are known, loads, located slices, structs as values. -/
namespace Go.TF
open Go Go.RowKit

/-- A slice as it lies: where, its capacity, its elements. -/
structure Sl (α : Type) where
  at_ : Option Addr
  cap : Nat
  xs : List α
@[reducible] def Sl.val {α : Type} (s : Sl α) : Value := .slice s.at_ s.xs.length s.cap
def Sl.blk {α : Type} (s : Sl α) : Nat := (s.at_.getD default).block
def Sl.off {α : Type} (s : Sl α) : Nat := (s.at_.getD default).off
/-- Element i of a slice whose elements take k cells each is x, and is known for good. -/
structure El {α : Type} (s : Sl α) (k : Nat) (enc : α → List Value) (h : Heap) (i : Nat) (x : α) : Prop where
  at_ : s.at_ = some ⟨s.blk, s.off, none⟩
  rd : RdH h s.blk (s.off + i * k) (enc x)
  lt : i < s.xs.length
  get : s.xs[i]? = some x
def Sl.In {α : Type} (s : Sl α) (k : Nat) (enc : α → List Value) (h : Heap) : Prop := ∀ i x, s.xs[i]? = some x → s.at_ = some ⟨s.blk, s.off, none⟩ ∧ RdH h s.blk (s.off + i * k) (enc x)
theorem Sl.In.el {α : Type} {s : Sl α} {k : Nat} {enc : α → List Value} {h : Heap} (hs : s.In k enc h) {i : Nat} {x : α} (hx : s.xs[i]? = some x) : El s k enc h i x :=
  ⟨(hs i x hx).1, (hs i x hx).2, (List.getElem?_eq_some_iff.1 hx).1, hx⟩
theorem Sl.In.le {α : Type} {s : Sl α} {k : Nat} {enc : α → List Value} {h h' : Heap} (hs : s.In k enc h) (hl : h.le h') : s.In k enc h' := fun i x hx => ⟨(hs i x hx).1, (hs i x hx).2.le hl⟩
theorem El.le {α : Type} {s : Sl α} {k : Nat} {enc : α → List Value} {h h' : Heap} {i : Nat} {x : α} (hs : El s k enc h i x) (hl : h.le h') : El s k enc h' i x := ⟨hs.at_, hs.rd.le hl, hs.lt, hs.get⟩

def Pl (P : Program) (T : Nat) (ps : List (Nat × Nat)) : Prop := ∃ fs, P.underlying T = some (.struct fs) ∧ ∀ w, (fs.mapM (m := Sem) fun f => do pure (f.offset, ← sizeOf f.type)).run P w = .ok ps.toArray w

/-- A struct's cells filled in, on lists. -/
def cellsL : Value → List Value
  | .agg cs => cs.toList
  | v => [v]
theorem cells_eq (v : Value) : v.cells = (cellsL v).toArray := by cases v <;> rfl
def fillL (place : Nat → Option (Nat × Nat)) : List Value → List (Nat × Value) → Option (List Value)
  | cs, [] => some cs
  | cs, (i, v) :: rest =>
    match place i with
    | none => none
    | some (off, size) => bif Nat.beq (cellsL v).length size && Nat.ble (off + (cellsL v).length) cs.length then fillL place (putAt cs off (cellsL v)) rest else none
theorem foldl_set (vs : List Value) : ∀ (cs : List Value) (off s : Nat), off + s + vs.length ≤ cs.length →
    ((vs.zipIdx s).foldl (fun (a : Array Value) (p : Value × Nat) => a.setIfInBounds (off + p.2) p.1) cs.toArray) = (putAt cs (off + s) vs).toArray := by
  induction vs with
  | nil => intro cs off s h; rw [putAt_eq cs _ [] (by simpa using h)]; simp
  | cons v vs ih =>
    intro cs off s h
    simp only [List.length_cons] at h
    simp only [List.zipIdx_cons, List.foldl_cons]
    rw [show cs.toArray.setIfInBounds (off + s) v = (cs.set (off + s) v).toArray by simp, ih (cs.set (off + s) v) off (s + 1) (by simp; omega)]
    rw [putAt_eq _ _ vs (by simp; omega), putAt_eq _ _ (v :: vs) (by omega)]
    congr 1
    apply List.ext_getElem?
    intro i
    simp only [List.getElem?_append, List.length_append, List.length_take, List.length_set, List.length_cons]
    simp only [List.getElem?_take, List.getElem?_drop, List.getElem?_set, List.getElem?_cons]
    have hm1 : min (off + (s + 1)) cs.length = off + s + 1 := by omega
    have hm2 : min (off + s) cs.length = off + s := by omega
    rw [hm1, hm2]
    by_cases h1 : i < off + s
    · simp [show i < off + s + 1 by omega, h1, show i < off + s + 1 + vs.length by omega, show i < off + s + (vs.length + 1) by omega, show i < off + (s + 1) by omega, show off + s ≠ i by omega]
    · by_cases h2 : i = off + s
      · subst h2; simp [show off + s < off + s + 1 + vs.length by omega, show off + s < off + (s + 1) by omega, show off + s < cs.length by omega]
      · by_cases h3 : i < off + s + 1 + vs.length
        · simp [h3, show ¬ i < off + s + 1 by omega, show ¬ i < off + s by omega, show i < off + s + (vs.length + 1) by omega, show i - (off + s) ≠ 0 by omega, show i - (off + s + 1) = i - (off + s) - 1 by omega]
        · simp [h3, show ¬ i < off + s + (vs.length + 1) by omega]
          rw [if_neg (by omega), show off + (s + 1) + vs.length + (i - (off + s + 1 + vs.length)) = i by omega, show off + s + (vs.length + 1) + (i - (off + s + (vs.length + 1))) = i by omega]
theorem fill_eq (place : Nat → Option (Nat × Nat)) : ∀ (ps : List (Nat × Value)) (cs : List Value), Instr.fill place cs.toArray ps = (fillL place cs ps).map List.toArray
  | [], cs => rfl
  | (i, v) :: rest, cs => by
    simp only [Instr.fill, fillL]
    cases place i with
    | none => rfl
    | some p =>
      obtain ⟨off, size⟩ := p
      simp only [cells_eq v, List.size_toArray]
      by_cases h : (cellsL v).length = size ∧ off + (cellsL v).length ≤ cs.length
      · obtain ⟨h1, h2⟩ := h
        have hb : (Nat.beq (cellsL v).length size && Nat.ble (off + (cellsL v).length) cs.length) = true := by simp [h1]; omega
        rw [if_neg (by simp; omega), hb, cond_true, ← fill_eq place rest]
        congr 1
        have := foldl_set (cellsL v) cs off 0 (by omega)
        simpa using this
      · have hb : (Nat.beq (cellsL v).length size && Nat.ble (off + (cellsL v).length) cs.length) = false := by
          rw [Bool.eq_false_iff]
          intro h'
          simp only [Bool.and_eq_true, Nat.beq_eq, Nat.ble_eq] at h'
          exact h ⟨h'.1, h'.2⟩
        rw [if_pos (by simp; omega), hb, cond_false]
        rfl
section
variable {P : Program} {e : Env} {w : World} {d : Option Nat} {t : TypeId} {pos : String} {af : Array Edge} {g : Option (Nat × Bool)}
theorem Y.is {o : Oper} {v v' : Value} (h : Y P o e w v) (hv : v = v') : Y P o e w v' := hv ▸ h
theorem Y.b {o : Oper} {x y : Bool} (h : Y P o e w (.bool x)) (hx : x = y) : Y P o e w (.bool y) := hx ▸ h
theorem Y.dec_t {o : Oper} {p : Prop} [Decidable p] (h : Y P o e w (.bool (decide p))) (hp : p) : Y P o e w (.bool true) := h.is (by rw [decide_eq_true hp])
theorem Y.dec_f {o : Oper} {p : Prop} [Decidable p] (h : Y P o e w (.bool (decide p))) (hp : ¬p) : Y P o e w (.bool false) := h.is (by rw [decide_eq_false hp])
theorem Y.loadv {x : Operand} {T n b o : Nat} {ag : Bool} {cs : List Value} {v : Value} (hT : Ty P T n ag) (hx : ev e x = .pointer (some ⟨b, o, none⟩)) (hr : Rd w b o cs) (hl : cs.length = n) (hv : ldv ag cs = v) :
    Y P ⟨d, .load T x, t, pos, af, g⟩ e w v := hv ▸ Y.load hT hx hr hl
theorem Y.idxEl {x ix : Operand} {T el k c i : Nat} {ik : IntKind} {iv : Int} {α : Type} {s : Sl α} {enc : α → List Value} {h : Heap} {y : α} (hE : El s k enc h i y) (hT : Und P T (.slice el)) (hk : ∀ w, (sizeOf el).run P w = .ok k w)
    (hx : ev e x = .slice s.at_ s.xs.length c) (hi : ev e ix = .int ik iv) (h0 : 0 ≤ iv) (hn : iv.toNat = i) : Y P ⟨d, .indexAddr T x ix, t, pos, af, g⟩ e w (.pointer (some ⟨s.blk, s.off + i * k, none⟩)) := by
  have := hE.lt
  have hx' : ev e x = .slice (some ⟨s.blk, s.off, none⟩) s.xs.length c := by rw [← hE.at_]; exact hx
  have := Y.idx (d := d) (t := t) (pos := pos) (af := af) (g := g) (w := w) hT hk hx' hi h0 (by omega)
  rwa [hn] at this
theorem Y.build {T : Nat} {parts : Array (Nat × Operand)} {ps : List (Nat × Nat)} {z : Value} {cs : List Value} (hP : Pl P T ps) (hz : Zero P T z) (hf : fillL (fun i => ps[i]?) (cellsL z) (parts.toList.map fun (i, x) => (i, ev e x)) = some cs)
    {v : Value} (hv : Value.agg cs.toArray = v) : Y P ⟨d, .build T parts, t, pos, af, g⟩ e w v := by
  obtain ⟨fs, h1, h2⟩ := hP
  subst hv
  have h3 : (parts.map fun (i, x) => (i, ev e x)).toList = parts.toList.map fun (i, x) => (i, ev e x) := by simp
  have h4 := fill_eq (fun i => ps[i]?) (parts.toList.map fun (i, x) => (i, ev e x)) (cellsL z)
  rw [hf] at h4
  simp only [Y, execOp, Instr.build, Sem.run_bind, hz w, Result.andThen_ok, run_underlying h1, h2 w, h3]
  simp only [List.getElem?_toArray, cells_eq z, h4, Option.map_some, Sem.run_pure, Result.andThen_ok]
end
end Go.TF
end
section
/- Regions that draw their order and only read or call quietly: one walk in the order of the text. -/
namespace Go.TF
open Go Go.RowKit

/-- Operations that yield one value in every world of the class C. -/
def OpsQ (P : Program) (full : Array Oper) (C : World → Prop) : List Oper → Env → (Env → Prop) → Prop
  | [], e, K => K e
  | o :: rest, e, K => if runs full e o then ∃ v, (∀ w, C w → Oper.quietUpon P C w v ((execOp (ev e) o).run P w)) ∧ OpsQ P full C rest (updo e o.dst v) K else OpsQ P full C rest (updo e o.dst undef) K
theorem OpsQ.sound {P : Program} {full : Array Oper} {C : World → Prop} {N : Nat} {D : List Deferred} : ∀ (l : List Oper) (a : Act) (K : Env → Prop) (Q : Act → Prop),
    dstsOk N l = true → a.tmps.size = N → a.defers = D → (∀ a', a'.tmps.size = N → a'.defers = D → K (env a') → Q a') → OpsQ P full C l (env a) K → wpQuiet P full C Q l a
  | [], a, K, Q, _, hs, hd, hK, h => by simp only [OpsQ] at h; exact hK _ hs hd h
  | o :: rest, a, K, Q, hds, hs, hd, hK, h => by
    simp only [dstsOk, List.all_cons, Bool.and_eq_true] at hds
    have hput : ∀ v, env (a.put o.dst v) = updo (env a) o.dst v := fun v => env_puto a o.dst v (by rw [hs]; exact hds.1)
    simp only [wpQuiet, wanted_env]
    simp only [OpsQ] at h
    split
    · rename_i hr
      rw [if_pos hr] at h
      obtain ⟨v, h1, h2⟩ := h
      refine ⟨v, fun w hw => ?_, ?_⟩
      · unfold Oper.quietAt; rw [eval_env]; exact h1 w hw
      · rw [← hput] at h2
        exact OpsQ.sound rest _ K Q hds.2 (by rw [size_put, hs]) (by rw [defers_put, hd]) hK h2
    · rename_i hr
      rw [if_neg hr] at h
      rw [← hput] at h
      exact OpsQ.sound rest _ K Q hds.2 (by rw [size_put, hs]) (by rw [defers_put, hd]) hK h
abbrev Mixed (P : Program) : Prop := P.follows .mixedOrders = true
theorem WP.regionQ {P : Program} {N : Nat} {D : List Deferred} {e : Env} {w : World} {Q : Exit → Env → World → Prop} {id : Nat} {ops : Array Oper} {B : Base} {h : Heap} {M : List SA} (hm : Mixed P) (I : Inv B h M w) (hB : Region.lexB .any ops = true)
    (k : OpsQ P ops (Inv B h M) ops.toList e (fun e' => ∀ w', Inv B h M w' → Q .normal e' w')) : WP P N D (.region id ops true) e w Q := by
  intro hs a h1 h2 h3
  subst h3
  refine wp_region_quiet (C := Inv B h M) hm hB I.drew ?_
  exact OpsQ.sound _ a _ _ hs h1 h2 (fun a' g1 g2 g3 w' hw' => ⟨g1, g2, g3 w' hw'⟩) k

section
variable {P : Program} {full : Array Oper} {rest : List Oper} {e : Env} {K : Env → Prop} {C : World → Prop}
theorem OpsQ.nil (h : K e) : OpsQ P full C [] e K := h
theorem OpsQ.y {d : Nat} {op : Op} {t : TypeId} {pos : String} {af : Array Edge} {v : Value} (hy : ∀ w, C w → Y P ⟨some d, op, t, pos, af, none⟩ e w v) (h : OpsQ P full C rest (upd e d v) K) :
    OpsQ P full C (⟨some d, op, t, pos, af, none⟩ :: rest) e K := by
  simp only [OpsQ, runs, if_true]
  exact ⟨v, fun w hw => by rw [hy w hw]; exact ⟨rfl, rfl⟩, h⟩
theorem OpsQ.ygt {d : Nat} {op : Op} {t : TypeId} {pos : String} {af : Array Edge} {v : Value} {j : Nat} {b : Bool} (hg : yieldE full e j = some b) (hy : ∀ w, C w → Y P ⟨some d, op, t, pos, af, some (j, b)⟩ e w v) (h : OpsQ P full C rest (upd e d v) K) :
    OpsQ P full C (⟨some d, op, t, pos, af, some (j, b)⟩ :: rest) e K := by
  simp only [OpsQ, runs, hg, beq_self_eq_true, if_true]
  exact ⟨v, fun w hw => by rw [hy w hw]; exact ⟨rfl, rfl⟩, h⟩
theorem OpsQ.gf {d : Nat} {op : Op} {t : TypeId} {pos : String} {af : Array Edge} {j : Nat} {b : Bool} (hg : (yieldE full e j == some b) = false) (h : OpsQ P full C rest (upd e d undef) K) :
    OpsQ P full C (⟨some d, op, t, pos, af, some (j, b)⟩ :: rest) e K := by simpa [OpsQ, runs, hg, updo] using h
/-- A quiet call: it hands back r, whatever the world. -/
def QC (P : Program) (C : World → Prop) (o : Oper) (e : Env) (w : World) (v : Value) : Prop := Oper.quietUpon P C w v ((execOp (ev e) o).run P w)
theorem OpsQ.c {d : Nat} {op : Op} {t : TypeId} {pos : String} {af : Array Edge} {v : Value} (hy : ∀ w, C w → QC P C ⟨some d, op, t, pos, af, none⟩ e w v) (h : OpsQ P full C rest (upd e d v) K) :
    OpsQ P full C (⟨some d, op, t, pos, af, none⟩ :: rest) e K := by
  simp only [OpsQ, runs, if_true]
  exact ⟨v, hy, h⟩
theorem OpsQ.cgt {d : Nat} {op : Op} {t : TypeId} {pos : String} {af : Array Edge} {v : Value} {j : Nat} {b : Bool} (hg : yieldE full e j = some b) (hy : ∀ w, C w → QC P C ⟨some d, op, t, pos, af, some (j, b)⟩ e w v) (h : OpsQ P full C rest (upd e d v) K) :
    OpsQ P full C (⟨some d, op, t, pos, af, some (j, b)⟩ :: rest) e K := by
  simp only [OpsQ, runs, hg, beq_self_eq_true, if_true]
  exact ⟨v, hy, h⟩
theorem QC.callv {B : Base} {h : Heap} {M : List SA} {w : World} {d : Option Nat} {t : TypeId} {pos : String} {af : Array Edge} {g : Option (Nat × Bool)} {f : FuncId} {args : Array Operand} {ts : Array TypeId} {vs : List Value} {r : Value}
    (I : Inv B h M w) (hf : Enters P f) (hfn : Fn P f vs ⟨w, h⟩ (fun v _ => v = r)) (ha : args.toList.map (ev e) = vs) : QC P (Inv B h M) ⟨d, .call { callee := .value (.func f), args := args, argTypes := ts }, t, pos, af, g⟩ e w r := by
  have ha' : args.map (ev e) = vs.toArray := by rw [← ha]; apply Array.ext'; simp
  have : (execOp (ev e) ⟨d, .call { callee := .value (.func f), args := args, argTypes := ts }, t, pos, af, g⟩).run P w = .ok (.enter f vs.toArray) w := by
    simp [execOp, resolve, ev, Deferred.ofValue, invoke, ha', hf]
  unfold QC
  rw [this]
  refine ⟨rfl, Calls.mono hfn ?_⟩
  rintro x w' ⟨v, h', rfl, X, rfl⟩
  exact ⟨rfl, I.grow X.below⟩
end
end Go.TF
end
section
/- Slices that the call appends to; maps of the call's own; maps gone through. -/
namespace Go.TF
open Go Go.RowKit

/-- A contract that hands pieces of memory on. -/
def FnM (P : Program) (f : FuncId) (args : List Value) (B : Base) (Post : Value → Heap → List SA → Prop) : Prop :=
  Calls P f args.toArray B.w fun x w' => ∃ v h' M', x = .returned v ∧ Inv B h' M' w' ∧ Post v h' M'
theorem Inv.calledM {B : Base} {h h' : Heap} {M M' : List SA} {w w' : World} (I : Inv B h M w) (X : Inv ⟨w, h⟩ h' M' w') : Inv B h' (M' ++ M) w' := by
  have J := I.called X.ext_of
  refine ⟨J.below, J.ext, J.new, J.imm, fun A hA => ?_, List.pairwise_append.2 ⟨X.apart, J.apart, fun A hA C hC b hb hb' => ?_⟩⟩
  · rcases List.mem_append.1 hA with hA | hA
    · obtain ⟨h1, h2⟩ := X.own A hA
      refine ⟨h1, fun b hb => ?_⟩
      obtain ⟨k1, k2, k3⟩ := h2 b hb
      exact ⟨Nat.le_trans I.below.size k1, k2, k3⟩
    · exact J.own A hA
  · have h1 := ((X.own A hA).2 b hb).1
    have h2 := ((I.own C hC).2 b hb').2.1
    simp only at h1
    omega

/-- A slice that the call owns and may append to: n elements of k cells each, the cells xs. -/
def ownSl (e : TypeId) (k : Nat) (v : Value) (n : Nat) (xs : List Value) : SA where
  fp := v.ownBlock.toList
  P := fun w => w.ownsRow 0 e k v n xs
  loc := fun w w' h hp => by
    refine ⟨hp.1, ?_⟩
    rcases hp.2 with h1 | ⟨g, cap, cur, rfl, h2, h3, h4⟩
    · exact .inl h1
    · exact .inr ⟨g, cap, cur, rfl, h2, (h g (by simp [Value.ownBlock])).trans h3, h4⟩
structure ElT (P : Program) (e : TypeId) (k bytes : Nat) (z : Value) : Prop where
  info : (P.info? e).map (fun i => (i.zero, i.size, i.bytes)) = some (some z, k, bytes)
  cells : z.cells.size = k
  pos : 0 < k
theorem Inv.nilSl {B : Base} {h : Heap} {M : List SA} {w : World} (I : Inv B h M w) (e : TypeId) (k : Nat) : Inv B h (ownSl e k (.slice none 0 0) 0 [] :: M) w :=
  I.gain (Grow.refl w) (World.ownsRow_nil w 0 e k) (fun b hb => by simp [ownSl, Value.ownBlock] at hb)
/-- append: the cells of m elements behind. -/
theorem run_append_own' {P : Program} {w : World} {T ty e : TypeId} {k bytes : Nat} {z : Value} (ht : P.underlying T = some (.slice e)) (he : ElT P e k bytes z) {v : Value} {n : Nat} {xs : List Value} (hown : w.ownsRow 0 e k v n xs)
    {a : Addr} {m c : Nat} {news : List Value} (hl : news.length = m * k) (hnews : ∀ j u, news[j]? = some u → w.cell? (a.add j) = some u) (h1 : oneCells news = true) (hm : 0 < m) (hbytes : (n + m) * bytes ≤ 140737488355328) (h63 : n + m ≤ 140737488355328) :
    ∃ v' w', (Builtin.append_ #[T, T] ty #[v, .slice (some a) m c]).run P w = .ok v' w' ∧ w'.ownsRow 0 e k v' (n + m) (xs ++ news) ∧ w.grownBy w' v.ownBlock ∧ (v'.ownBlock = v.ownBlock ∨ v'.ownBlock = some w.heap.size) ∧ (∃ g cap, v' = .slice (some ⟨g, 0, none⟩) (n + m) cap) := by
  obtain ⟨i, hi, hz, hs, hb⟩ : ∃ i, P.info? e = some i ∧ i.zero = some z ∧ i.size = k ∧ i.bytes = bytes := by
    have := he.info
    cases h : P.info? e with
    | none => simp [h] at this
    | some i => simp [h] at this; exact ⟨i, rfl, this.1, this.2.1, this.2.2⟩
  subst hs; subst hb
  have hmx : n + m ≤ maxLen := by simp only [maxLen]; omega
  have hone : ∀ u ∈ news, u.oneCell' = true := by simpa [oneCells] using h1
  have mk : ∀ (old : Nat) (row : Option Nat),
      (w.drew.alloc (.cells (xs.toArray ++ news.toArray ++ Builtin.zeroCells z.cells (grownCap w (n + m) old e - (n + m))) e)).ownsRow 0 e i.size (.slice (some ⟨w.heap.size, 0, none⟩) (n + m) (grownCap w (n + m) old e)) (n + m) (xs ++ news) ∧
      w.grownBy (w.drew.alloc (.cells (xs.toArray ++ news.toArray ++ Builtin.zeroCells z.cells (grownCap w (n + m) old e - (n + m))) e)) row := by
    intro old row
    have hge := grownCap_ge w (n + m) old e
    have hcm := grownCap_le_maxLen w (n + m) old e hmx
    have hlen : (xs ++ news).length = (n + m) * i.size := by rw [List.length_append, hown.1, hl, Nat.add_mul]
    refine ⟨⟨hlen, .inr ⟨w.heap.size, _, _, rfl, Nat.zero_le _, heap_alloc_new w.drew _, hge, hcm, ?_, ?_⟩⟩, ⟨rfl, rfl, rfl, by simp, fun q hq _ => Below.heap_alloc w.drew _ q hq⟩⟩
    · simp only [Array.size_append, List.size_toArray, size_zeroCells, he.cells, hown.1, hl, ← Nat.add_mul]
      congr 1
      omega
    · simp only [Array.toList_append]
      rw [← hlen]
      exact List.take_left
  rcases hown.2 with ⟨rfl, rfl⟩ | ⟨g, cap, cur, rfl, hbg, hg, hnc, hcm, hcs, htake⟩
  · have hx : xs = [] := List.eq_nil_of_length_eq_zero (by simpa using hown.1)
    subst hx
    have hr := run_append_nil (P := P) w T ty e i z ht hi hz a m c news hl hnews hm (by omega) (by simp only [Nat.zero_add] at hbytes; omega)
    have hgr := mk 0 (Value.ownBlock (.slice none 0 0))
    simp only [Nat.zero_add, List.nil_append, Array.empty_append] at hgr ⊢
    exact ⟨_, _, hr, hgr.1, hgr.2, .inr rfl, _, _, rfl⟩
  · by_cases hroom : n + m ≤ cap
    · have hfit : n * i.size + news.length ≤ cur.size := by rw [hl, hcs, ← Nat.add_mul]; exact Nat.mul_le_mul_right _ hroom
      have hr := run_append_room (P := P) w T ty e i ht hi g n cap cur hg a m c news hl hnews hone hroom hfit
      have hlen : (xs ++ news).length = (n + m) * i.size := by rw [List.length_append, hown.1, hl, Nat.add_mul]
      refine ⟨_, _, hr, ⟨hlen, .inr ⟨g, cap, _, rfl, hbg, setRow_heap w g cur _ e _ hg, hroom, hcm, ?_, ?_⟩⟩, ⟨rfl, rfl, rfl, by simp, fun k _ hk => setRow_other w g k _ (fun e => hk (by simp [Value.ownBlock, e]))⟩, .inl rfl, _, _, rfl⟩
      · simp only [List.size_toArray, List.length_append, List.length_take, List.length_drop, Array.length_toList]
        omega
      · rw [htake, ← hlen]
        exact List.take_left
    · have holds : ∀ j u, xs[j]? = some u → w.cell? ((⟨g, 0, none⟩ : Addr).add j) = some u := hown.cells (g := g) rfl
      have hr := run_append_grow (P := P) w T ty e i z ht hi hz ⟨g, 0, none⟩ n cap xs hown.1 holds a m c news hl hnews (by omega) (by omega) (growslice_fits (by omega) hbytes)
      have hgr := mk cap (Value.ownBlock (.slice (some ⟨g, 0, none⟩) n cap))
      exact ⟨_, _, hr, hgr.1, hgr.2, .inr rfl, _, _, rfl⟩
theorem Inv.appendAt {B : Base} {h : Heap} {M : List SA} {w w' : World} (I : Inv B h M w) {e : TypeId} {k n n' : Nat} {v v' : Value} {xs xs' : List Value} (n0 : Nat) (hn : M[n0]? = some (ownSl e k v n xs)) (h1 : w'.ownsRow 0 e k v' n' xs') (h2 : w.grownBy w' v.ownBlock) (h3 : v'.ownBlock = v.ownBlock ∨ v'.ownBlock = some w.heap.size) :
    Inv B h (M.set n0 (ownSl e k v' n' xs')) w' := by
  refine I.stepAt n0 hn h2.os h2.tape h2.output h2.size (fun b hb hnb => h2.block b hb (fun e => hnb ?_)) h1 (fun b hb => ?_)
  · simp [ownSl, ← e]
  · have hb' : v'.ownBlock = some b := by simpa [ownSl] using hb
    have hlt := (h1.lt b hb').2
    rcases h3 with h3 | h3
    · exact ⟨.inl (by simp [ownSl, ← h3, hb']), hlt⟩
    · rw [hb'] at h3; cases h3; exact ⟨.inr (Nat.le_refl _), hlt⟩
/-- An owned slice is never written again: it is known for good. -/
theorem Inv.settleSl {α : Type} {B : Base} {h : Heap} {M : List SA} {w : World} {e : TypeId} {k : Nat} {enc : α → List Value} {v : Value} {n : Nat} {xs : List α} (I : Inv B h (ownSl e k v n (xs.flatMap enc) :: M) w) (hk : ∀ x, (enc x).length = k) (hn : n = xs.length) :
    ∃ h' s, h.le h' ∧ Sl.val s = v ∧ s.xs = xs ∧ Sl.In s k enc h' ∧ Inv B h' M w := by
  subst hn
  have hp : w.ownsRow 0 e k v xs.length (xs.flatMap enc) := (I.own _ (List.mem_cons_self ..)).1
  obtain ⟨h', hle, hfp, I'⟩ := I.settle
  rcases hp.2 with ⟨rfl, h0⟩ | ⟨g, cap, cur, rfl, _, hg, hnc, hcm, hcs, htake⟩
  · have : xs = [] := List.eq_nil_of_length_eq_zero h0
    subst this
    exact ⟨h', ⟨none, 0, []⟩, hle, rfl, rfl, fun i x hx => by simp at hx, I'⟩
  · refine ⟨h', ⟨some ⟨g, 0, none⟩, cap, xs⟩, hle, rfl, rfl, fun i x hx => ⟨rfl, fun j u hu => ?_⟩, I'⟩
    have hb : h' g = some (.cells cur e (0, 0)) := by rw [hfp g (by simp [ownSl, Value.ownBlock])]; exact hg
    have hfm : (xs.flatMap enc)[i * k + j]? = some u := by
      clear hcs htake hp I I' hfp hb hg
      have hj : j < k := by have := (List.getElem?_eq_some_iff.1 hu).1; rw [hk] at this; exact this
      induction xs generalizing i with
      | nil => simp at hx
      | cons y ys ih =>
        simp only [List.flatMap_cons]
        cases i with
        | zero =>
          simp at hx; subst hx
          rw [List.getElem?_append_left (by rw [hk]; omega)]
          simpa using hu
        | succ i =>
          rw [List.getElem?_append_right (by rw [hk, Nat.add_mul]; omega), hk]
          rw [show (i + 1) * k + j - k = i * k + j by rw [Nat.add_mul]; omega]
          exact ih (by simp at hnc; omega) i (by simpa using hx)
    simp only [Heap.cell, Sl.blk, Sl.off, Option.getD_some, hb]
    rw [← htake, List.getElem?_take] at hfm
    split at hfm
    · simpa using hfm
    · cases hfm

section
variable {P : Program} {e : Env} {w : World} {B : Base} {h : Heap} {M : List SA} {t : TypeId} {pos : String} {af : Array Edge} {g : Option (Nat × Bool)} {d : Option Nat} {K : Value → World → Prop}
theorem O.append {T el k bytes n m c b o : Nat} {z v : Value} {x y : Operand} {xs news : List Value} (I : Inv B h M w) (hT : Und P T (.slice el)) (he : ElT P el k bytes z) (n0 : Nat) (hn : M[n0]? = some (ownSl el k v n xs)) (hx : ev e x = v) (hy : ev e y = .slice (some ⟨b, o, none⟩) m c)
    (hr : Rd w b o news) (hl : news.length = m * k) (h1 : oneCells news = true) (hm : 0 < m) (hb : (n + m) * bytes ≤ 140737488355328) (h63 : n + m ≤ 140737488355328)
    (kk : ∀ g cap w', Inv B h (M.set n0 (ownSl el k (.slice (some ⟨g, 0, none⟩) (n + m) cap) (n + m) (xs ++ news))) w' → K (.slice (some ⟨g, 0, none⟩) (n + m) cap) w') :
    Op1 P ⟨d, .call { callee := .builtin .append, args := #[x, y], argTypes := #[T, T] }, t, pos, af, g⟩ e w K := by
  obtain ⟨v', w', h2, h3, h4, h5, g', cap, rfl⟩ := run_append_own' (P := P) (ty := t) hT he (I.at n0 hn) (a := ⟨b, o, none⟩) (c := c) hl (fun j u hu => by rw [addr_add]; exact hr j u hu) h1 hm hb h63
  have : (execOp (ev e) ⟨d, .call { callee := .builtin .append, args := #[x, y], argTypes := #[T, T] }, t, pos, af, g⟩).run P w = .ok (.value (.slice (some ⟨g', 0, none⟩) (n + m) cap)) w' := by
    simp [execOp, resolve, invoke, builtin, hx, hy, h2]
  unfold Op1
  rw [this]
  exact kk g' cap w' (I.appendAt n0 hn h3 h4 h5)
/-- A slice literal: its elements are known for good at once. -/
theorem O.mksl {α : Type} {T el k n : Nat} {parts : Array (Nat × Operand)} {z : Value} (xs : List α) (enc : α → List Value) (I : Inv B h M w) (hT : Und P T (.slice el)) (hk : ∀ w, (sizeOf el).run P w = .ok k w) (hz : Zero P el z) (hn : xs.length = n) (hs : n * k ≤ 16777216)
    (hf : fillL (fun i => some (i * k, k)) ((List.range (n * k)).map fun i => (cellsL z)[i % k]!) (parts.toList.map fun (i, x) => (i, ev e x)) = some (xs.flatMap enc)) (hzc : (cellsL z).length = k) (hk0 : 0 < k) (hek : ∀ x, (enc x).length = k)
    (kk : ∀ b h' w', Inv B h' M w' → h.le h' → Sl.In ⟨some ⟨b, 0, none⟩, n, xs⟩ k enc h' → K (.slice (some ⟨b, 0, none⟩) n n) w') :
    Op1 P ⟨d, .buildSlice T n parts, t, pos, af, g⟩ e w K := by
  have h3 : (parts.map fun (i, x) => (i, ev e x)).toList = parts.toList.map fun (i, x) => (i, ev e x) := by simp
  have h4 := fill_eq (fun i => some (i * k, k)) (parts.toList.map fun (i, x) => (i, ev e x)) ((List.range (n * k)).map fun i => (cellsL z)[i % k]!)
  rw [hf] at h4
  have hlen : (xs.flatMap enc).length = n * k := by
    subst hn
    clear hf h4 hs kk
    induction xs with
    | nil => simp
    | cons y ys ih =>
      have e1 : (List.flatMap enc ys).length = ys.length * k := ih
      simp only [List.flatMap_cons, List.length_append, hek, e1, List.length_cons, Nat.add_mul]; omega
  have hrun : (execOp (ev e) ⟨d, .buildSlice T n parts, t, pos, af, g⟩).run P w = .ok (.value (.slice (some ⟨w.heap.size, 0, none⟩) n n)) (w.alloc (.cells (xs.flatMap enc).toArray el)) := by
    have hs' : ¬ (n * k > 2 ^ 24) := by simp; omega
    by_cases h0 : n * k = 0
    · have hn0 : n = 0 := by rcases Nat.mul_eq_zero.1 h0 with h | h <;> omega
      subst hn0
      have hd : ¬ ((0 : Nat) > 2 ^ 24) := by decide
      simp only [execOp, Instr.buildSlice, Sem.run_bind, run_underlying hT, Result.andThen_ok, hk w, Nat.zero_mul, h3, if_neg hd, if_true, Sem.run_pure]
      simp only [Nat.zero_mul, List.range_zero, List.map_nil] at h4
      have h5 : (Array.map (fun x => (#[] : Array Value)[x % (#[] : Array Value).size]!) (Array.range 0)) = ([] : List Value).toArray := by simp
      rw [h5, h4]
      simp [newRow]
    · simp only [execOp, Instr.buildSlice, Sem.run_bind, run_underlying hT, Result.andThen_ok, hk w, h3, if_neg hs', if_neg h0, hz w]
      have h5 : (Array.map (fun x => z.cells[x % z.cells.size]!) (Array.range (n * k))) = ((List.range (n * k)).map fun i => (cellsL z)[i % k]!).toArray := by
        apply Array.ext'
        simp [cells_eq z, hzc]
      simp only [Sem.run_pure, Result.andThen_ok]
      rw [h5, h4]
      simp [newRow]
  unfold Op1
  rw [hrun]
  have J := I.gain (A := TF.box w.heap.size (xs.flatMap enc) el) (Grow.alloc w _) (heap_alloc_new w _) (fun b hb => by simp [TF.box] at hb; subst hb; simp)
  obtain ⟨h', hle, hfp, J'⟩ := J.settle
  refine kk _ h' _ J' hle (fun i x hx => ⟨rfl, fun j u hu => ?_⟩)
  have hb : h' w.heap.size = some (.cells (xs.flatMap enc).toArray el (0, 0)) := by rw [hfp _ (by simp [TF.box])]; exact heap_alloc_new w _
  simp only [Heap.cell, Sl.blk, Sl.off, Option.getD_some, hb]
  have hj : j < k := by have := (List.getElem?_eq_some_iff.1 hu).1; rw [hek] at this; exact this
  have key : ∀ (xs : List α) (i : Nat), xs[i]? = some x → (xs.flatMap enc)[i * k + j]? = some u := by
    intro xs
    induction xs with
    | nil => intro i hx; simp at hx
    | cons y ys ih =>
      intro i hx
      simp only [List.flatMap_cons]
      cases i with
      | zero =>
        simp at hx; subst hx
        rw [List.getElem?_append_left (by rw [hek]; omega)]
        simpa using hu
      | succ i =>
        rw [List.getElem?_append_right (by rw [hek, Nat.add_mul]; omega), hek]
        rw [show (i + 1) * k + j - k = i * k + j by rw [Nat.add_mul]; omega]
        exact ih i (by simpa using hx)
  simpa using key xs i hx
theorem O.callM {f : FuncId} {args : Array Operand} {ts : Array TypeId} {vs : List Value} {Post : Value → Heap → List SA → Prop} (I : Inv B h M w) (hf : Enters P f) (hfn : FnM P f vs ⟨w, h⟩ Post)
    (ha : args.toList.map (ev e) = vs) (k : ∀ v h' M' w', Inv B h' (M' ++ M) w' → h.le h' → Post v h' M' → K v w') : Op1 P ⟨d, .call { callee := .value (.func f), args := args, argTypes := ts }, t, pos, af, g⟩ e w K := by
  have ha' : args.map (ev e) = vs.toArray := by rw [← ha]; apply Array.ext'; simp
  have : (execOp (ev e) ⟨d, .call { callee := .value (.func f), args := args, argTypes := ts }, t, pos, af, g⟩).run P w = .ok (.enter f vs.toArray) w := by
    simp [execOp, resolve, ev, Deferred.ofValue, invoke, ha', hf]
  unfold Op1
  rw [this]
  refine Calls.mono hfn ?_
  rintro x w' ⟨v, h', M', rfl, X, hp⟩
  exact k v h' M' w' (I.calledM X) X.ext hp
end
/-- What a function owes at its end, pieces handed on. -/
def retM (P : Program) (fn : Func) (B : Base) (Post : Value → Heap → List SA → Prop) : Exit → Env → World → Prop
  | .ret, e, w | .normal, e, w => ∃ vs h' M', RV P e w fn.results.toList vs ∧ Inv B h' M' w ∧ Post (tup vs) h' M'
  | _, _, _ => False
theorem retM.mk {P : Program} {fn : Func} {B : Base} {Post : Value → Heap → List SA → Prop} {e : Env} {w : World} {rs : List ResultVar} {vs : List Value} {h : Heap} {M : List SA} (hr : fn.results.toList = rs) (hv : RV P e w rs vs) (X : Inv B h M w) (hp : Post (tup vs) h M) :
    retM P fn B Post .ret e w := ⟨vs, h, M, by rw [hr]; exact hv, X, hp⟩
theorem retM.fin {P : Program} {fn : Func} {B : Base} {Post : Value → Heap → List SA → Prop} {e : Env} {w : World} {rs : List ResultVar} {vs : List Value} {h : Heap} {M : List SA} (hr : fn.results.toList = rs) (hv : RV P e w rs vs) (X : Inv B h M w) (hp : Post (tup vs) h M) :
    retM P fn B Post .normal e w := ⟨vs, h, M, by rw [hr]; exact hv, X, hp⟩
theorem FnM.of {P : Program} {f : FuncId} {fn : Func} {c : Code} {N : Nat} {args : List Value} {B : Base} {Post : Value → Heap → List SA → Prop} (hf : P.funcs[f]? = some fn) (hb : fn.body = some c) (hN : fn.ntmps = N) (hs : slotsOk N c = true)
    (hl : args.length ≤ N) (h : ∀ e, WP P N [] c (E e (argsE 0 args)) B.w (retM P fn B Post)) : FnM P f args B Post := by
  refine calls_of_wp hf hb ?_
  subst hN
  refine wp_mono (h _ hs { tmps := args.toArray ++ Array.replicate (fn.ntmps - args.toArray.size) undef, defers := [] } (by simp; omega) rfl (E_self (has_args args 0 fun j v hv => ?_)).symm) ?_
  · have hj := (List.getElem?_eq_some_iff.1 hv).1
    have hg : args[j] = v := (List.getElem?_eq_some_iff.1 hv).2
    simp [env, Array.getD_eq_getD_getElem?, Array.getElem?_append, hj, hg]
  · rintro x a' w' ⟨_, g2, g3⟩
    cases x <;> simp only [retM] at g3 <;> first | exact g3.elim | skip
    all_goals
      obtain ⟨vs, h', M', hv, X, hp⟩ := g3
      exact ⟨g2, _, results_run rfl hv, _, _, _, rfl, X, hp⟩
end Go.TF
end
section
/- Maps from int to int that the call makes; maps gone through in whatever order. -/
namespace Go.TF
open Go Go.RowKit

def iV (p : Int × Int) : Value × Value := (.int .i64 p.1, .int .i64 p.2)
def EntsOf (ents : List MapEntry) (es : List (Int × Int)) : Prop := ents.map (fun e => (e.key, e.val)) = es.map iV
def ilook : List (Int × Int) → Int → Option Int
  | [], _ => none
  | (k, v) :: r, x => if x = k then some v else ilook r x
def iset : List (Int × Int) → Int → Int → List (Int × Int)
  | [], x, v => [(x, v)]
  | (k, w) :: r, x, v => if x = k then (x, v) :: r else (k, w) :: iset r x v
theorem ilook_iset (es : List (Int × Int)) (x y v : Int) : ilook (iset es x v) y = if y = x then some v else ilook es y := by
  induction es with
  | nil => simp [iset, ilook]
  | cons p r ih =>
    obtain ⟨k, w⟩ := p
    simp only [iset]
    split
    · rename_i h; subst h; simp only [ilook]; split <;> simp_all
    · rename_i h; simp only [ilook, ih]; split <;> split <;> simp_all
theorem findNow_none {k : IntKind} {x : Int} : ∀ (ents : List MapEntry) (es : List (Int × Int)) (i : Nat), EntsOf ents es → ilook es x = none → Instr.findNow (.int k) (.int .i64 x) ents i = some none
  | [], _, _, _, _ => rfl
  | e :: r, [], _, h, _ => by simp [EntsOf] at h
  | e :: r, (a, b) :: s, i, h, hl => by
    simp only [EntsOf, List.map_cons, List.cons.injEq] at h
    simp only [ilook] at hl
    split at hl
    · cases hl
    · rename_i hx
      have h1 : e.key = .int .i64 a := (Prod.mk.inj h.1).1
      have : (x == a) = false := by simpa using hx
      simp only [Instr.findNow, h1, Instr.sameNow, if_true, this]
      exact findNow_none r s (i + 1) h.2 hl
theorem findNow_some {k : IntKind} {x v : Int} : ∀ (ents : List MapEntry) (es : List (Int × Int)) (i : Nat), EntsOf ents es → ilook es x = some v →
    ∃ j, j < ents.length ∧ Instr.findNow (.int k) (.int .i64 x) ents i = some (some (i + j, .int .i64 v)) ∧ ((ents[j]?).map (·.key)) = some (.int .i64 x) ∧ ∀ v', EntsOf (ents.modify j fun e => { e with key := .int .i64 x, val := .int .i64 v' }) (iset es x v')
  | [], [], _, _, hl => by simp [ilook] at hl
  | [], _ :: _, _, h, _ => by simp [EntsOf] at h
  | e :: r, [], _, h, _ => by simp [EntsOf] at h
  | e :: r, (a, b) :: s, i, h, hl => by
    simp only [EntsOf, List.map_cons, List.cons.injEq] at h
    have h1 : e.key = .int .i64 a := (Prod.mk.inj h.1).1
    have h2 : e.val = .int .i64 b := (Prod.mk.inj h.1).2
    simp only [ilook] at hl
    split at hl
    · rename_i hx
      subst hx
      cases hl
      refine ⟨0, by simp, by simp [Instr.findNow, h1, Instr.sameNow, h2], by simp [h1], fun v' => ?_⟩
      simp [EntsOf, iset, iV]
      exact h.2
    · rename_i hx
      obtain ⟨j, hj, hf, hk, hm⟩ := findNow_some (k := k) r s (i + 1) h.2 hl
      refine ⟨j + 1, by simpa using hj, ?_, by simpa using hk, fun v' => ?_⟩
      · have : (x == a) = false := by simpa using hx
        simp only [Instr.findNow, h1, Instr.sameNow, if_true, this, hf]
        rw [show i + (j + 1) = i + 1 + j by omega]
      · simp only [EntsOf, List.modify_succ_cons, iset, if_neg hx, List.map_cons, List.cons.injEq]
        exact ⟨h.1, hm v'⟩
theorem checkKey_int {P : Program} {w : World} {em : Bool} {n : Nat} {T : TypeId} {k : IntKind} {x : Int} (hT : Und P T (.int k)) : (Instr.checkKey em (n + 1) T (.int .i64 x)).run P w = .ok () w := by
  simp [Instr.checkKey, run_underlying hT]

structure IMap (ents : List MapEntry) (clock : Nat) (es : List (Int × Int)) : Prop where
  is : EntsOf ents es
  nodup : (ents.map (·.born)).Nodup
  lt : ∀ e ∈ ents, e.born < clock
def imap (b : Nat) (es : List (Int × Int)) : SA where
  fp := [b]
  P := fun w => ∃ ents clock, w.heap[b]? = some (.map ents.toArray clock) ∧ IMap ents clock es
  loc := by
    intro w w' h hp
    obtain ⟨ents, clock, h1, h2⟩ := hp
    exact ⟨ents, clock, (h b (by simp)).trans h1, h2⟩
/-- A map that is known for good. -/
def MapAt (h : Heap) (m : Nat) (ents : List MapEntry) (clock : Nat) : Prop := h m = some (.map ents.toArray clock)
def mit (b m clock : Nat) (done : List Nat) : SA where
  fp := [b]
  P := fun w => w.heap[b]? = some (.mapIter (some m) clock done.toArray clock)
  loc := fun _ _ h hp => (h b (by simp)).trans hp
theorem getObj_run {P : Program} {w : World} {r : Nat} {o : Obj} (h : w.heap[r]? = some o) (hc : ∀ c t f, o ≠ .cells c t f) : (getObj r).run P w = .ok o w := by
  cases o <;> first | exact absurd rfl (hc _ _ _) | simp [getObj, Sem.run, h]
theorem setObj_run {P : Program} {w : World} {r : Nat} {o o' : Obj} (h : w.heap[r]? = some o) (hc : ∀ c t f, o ≠ .cells c t f) : (setObj r o').run P w = .ok () { w with heap := w.heap.setIfInBounds r o' } := by
  cases o <;> first | exact absurd rfl (hc _ _ _) | simp [setObj, Sem.run, h]
theorem Inv.setObj {B : Base} {h : Heap} {M : List SA} {w : World} (I : Inv B h M w) (n : Nat) {A A' : SA} {b : Nat} {o : Obj} (hn : M[n]? = some A) (hA : A.fp = [b]) (hA' : A'.fp = [b]) (hp : ∀ w' : World, w'.heap[b]? = some o → A'.P w') :
    Inv B h (M.set n A') { w with heap := w.heap.setIfInBounds b o } := by
  have hb := ((I.own A (List.mem_of_getElem? hn)).2 b (by simp [hA])).2.1
  refine I.stepAt n hn rfl rfl rfl (by simp) (fun k _ hk => ?_) (hp _ (by simp [hb])) (fun k hk => ?_)
  · simp only [Array.getElem?_setIfInBounds]
    rw [if_neg]; intro e; exact hk (by simp [hA, ← e])
  · rw [hA'] at hk; simp at hk; subst hk; exact ⟨.inl (by simp [hA]), by simpa using hb⟩

section
variable {P : Program} {e : Env} {w : World} {B : Base} {h : Heap} {M : List SA} {t : TypeId} {pos : String} {af : Array Edge} {g : Option (Nat × Bool)} {d : Option Nat} {K : Value → World → Prop}
theorem O.mkmap {T : TypeId} (I : Inv B h M w) (k : ∀ b w', Inv B h (imap b [] :: M) w' → K (.map (some b)) w') : Op1 P ⟨d, .makeMap T none, t, pos, af, g⟩ e w K := by
  have : (execOp (ev e) ⟨d, .makeMap T none, t, pos, af, g⟩).run P w = .ok (.value (.map (some w.heap.size))) (w.alloc (.map #[] 0)) := by
    simp [execOp, Instr.makeMap]
  unfold Op1
  rw [this]
  refine k _ _ (I.gain (Grow.alloc w _) ⟨[], 0, heap_alloc_new w _, rfl, List.Pairwise.nil, fun _ h => by cases h⟩ (fun b hb => ?_))
  simp [imap] at hb; subst hb; simp
theorem lookup_run {T Kt Vt : TypeId} {ik : IntKind} {m : Nat} {ents : List MapEntry} {clock : Nat} {es : List (Int × Int)} {x : Int} (hT : Und P T (.map Kt Vt)) (hK : Und P Kt (.int ik)) (hz : Zero P Vt (.int .i64 0)) (hm : w.heap[m]? = some (.map ents.toArray clock)) (hi : EntsOf ents es) :
    (Instr.lookup T (.map (some m)) (.int .i64 x) false).run P w = .ok (.int .i64 ((ilook es x).getD 0)) w := by
  have hg : (getObj m).run P w = .ok (.map ents.toArray clock) w := getObj_run hm (by intro c t f h; cases h)
  have hck : ∀ em, (Instr.checkKey em 10000 Kt (.int .i64 x)).run P w = .ok () w := fun em => checkKey_int (n := 9999) hK
  cases hl : ilook es x with
  | none =>
    have hf := findNow_none (k := ik) ents es 0 hi hl
    simp [Instr.lookup, run_underlying hT, hg, hck, Instr.findKey, run_underlying hK, hf, hz w]
  | some v =>
    obtain ⟨j, _, hf, _⟩ := findNow_some (k := ik) ents es 0 hi hl
    simp [Instr.lookup, run_underlying hT, hg, hck, Instr.findKey, run_underlying hK, hf]
theorem Y.lookup {T Kt Vt : TypeId} {ik : IntKind} {b : Nat} {es : List (Int × Int)} {x y : Operand} {i : Int} (I : Inv B h M w) (hT : Und P T (.map Kt Vt)) (hK : Und P Kt (.int ik)) (hz : Zero P Vt (.int .i64 0)) (n : Nat) (hn : M[n]? = some (imap b es)) (hx : ev e x = .map (some b)) (hy : ev e y = .int .i64 i) :
    Y P ⟨d, .lookup T x y false, t, pos, af, g⟩ e w (.int .i64 ((ilook es i).getD 0)) := by
  obtain ⟨ents, clock, h1, h2⟩ := I.at n hn
  simp [Y, execOp, hx, hy, lookup_run hT hK hz h1 h2.is]
theorem O.mapset {T Kt Vt : TypeId} {ik : IntKind} {b : Nat} {es : List (Int × Int)} {x y z : Operand} {i v : Int} (I : Inv B h M w) (hT : Und P T (.map Kt Vt)) (hK : Und P Kt (.int ik)) (n : Nat) (hn : M[n]? = some (imap b es)) (hx : ev e x = .map (some b)) (hy : ev e y = .int .i64 i) (hz : ev e z = .int .i64 v)
    (k : ∀ w', Inv B h (M.set n (imap b (iset es i v))) w' → K undef w') : Op1 P ⟨d, .mapUpdate T x y z, t, pos, af, g⟩ e w K := by
  obtain ⟨ents, clock, h1, h2⟩ := I.at n hn
  have hg : (getObj b).run P w = .ok (.map ents.toArray clock) w := getObj_run h1 (by intro c t f h; cases h)
  have hck : ∀ em, (Instr.checkKey em 10000 Kt (.int .i64 i)).run P w = .ok () w := fun em => checkKey_int (n := 9999) hK
  have hset : ∀ o, (Go.setObj b o).run P w = .ok () { w with heap := w.heap.setIfInBounds b o } := fun o => setObj_run h1 (by intro c t f h; cases h)
  cases hl : ilook es i with
  | none =>
    have hf := findNow_none (k := ik) ents es 0 h2.is hl
    have hrun : (execOp (ev e) ⟨d, .mapUpdate T x y z, t, pos, af, g⟩).run P w = .ok .skip { w with heap := w.heap.setIfInBounds b (.map (ents ++ [({ key := .int .i64 i, val := .int .i64 v, born := clock } : MapEntry)]).toArray (clock + 1)) } := by
      simp [execOp, hx, hy, hz, Instr.mapUpdate, run_underlying hT, hg, hck, Instr.findKey, run_underlying hK, hf, hset]
    unfold Op1
    rw [hrun]
    refine k _ (I.setObj n hn rfl rfl fun w' hw' => ⟨_, _, hw', ?_, ?_, ?_⟩)
    · have : iset es i v = es ++ [(i, v)] := by
        clear hf h1 h2 hg hset hn k
        induction es with
        | nil => rfl
        | cons p r ih =>
          obtain ⟨a, c⟩ := p
          simp only [ilook] at hl
          split at hl
          · cases hl
          · rename_i hne; simp [iset, hne, ih hl]
      rw [this]
      unfold EntsOf
      rw [List.map_append, List.map_append, h2.is]; rfl
    · rw [List.map_append, List.nodup_append]
      refine ⟨h2.nodup, by simp, fun a ha c hc => ?_⟩
      simp at hc; subst hc
      obtain ⟨q, hq, rfl⟩ := List.mem_map.1 ha
      have := h2.lt q hq; omega
    · intro q hq
      rcases List.mem_append.1 hq with hq | hq
      · have := h2.lt q hq; omega
      · simp at hq; subst hq; simp
  | some v0 =>
    obtain ⟨j, hj, hf, hk, hm⟩ := findNow_some (k := ik) ents es 0 h2.is hl
    have hrun : (execOp (ev e) ⟨d, .mapUpdate T x y z, t, pos, af, g⟩).run P w = .ok .skip { w with heap := w.heap.setIfInBounds b (.map (ents.modify j fun e => { e with key := .int .i64 i, val := .int .i64 v }).toArray clock) } := by
      have hk' : ents[j]?.map (·.key) = some (.int .i64 i) := hk
      cases hgt : ents[j]? with
      | none => simp [hgt] at hk'
      | some q =>
        simp only [hgt, Option.map_some, Option.some.injEq] at hk'
        simp [execOp, hx, hy, hz, Instr.mapUpdate, run_underlying hT, hg, hck, Instr.findKey, run_underlying hK, hf, hset, hgt, hk', Instr.keyThatStays, Instr.sameBits]
    unfold Op1
    rw [hrun]
    refine k _ (I.setObj n hn rfl rfl fun w' hw' => ⟨_, _, hw', hm v, ?_, ?_⟩)
    · have : (ents.modify j fun e => { e with key := .int .i64 i, val := .int .i64 v }).map (·.born) = ents.map (·.born) := by
        apply List.ext_getElem?
        intro q
        simp only [List.getElem?_map, List.getElem?_modify]
        cases ents[q]? <;> simp
        split <;> rfl
      rw [this]; exact h2.nodup
    · intro q hq
      obtain ⟨p, hp⟩ := List.mem_iff_getElem?.1 hq
      rw [List.getElem?_modify] at hp
      cases hgp : ents[p]? with
      | none => simp [hgp] at hp
      | some c =>
        have := h2.lt c (List.mem_of_getElem? hgp)
        simp only [hgp] at hp
        cases hp; split <;> exact this
theorem Inv.settleMap {b : Nat} {es : List (Int × Int)} (I : Inv B h (imap b es :: M) w) : ∃ h' ents clock, h.le h' ∧ MapAt h' b ents clock ∧ IMap ents clock es ∧ Inv B h' M w := by
  obtain ⟨ents, clock, h1, h2⟩ : (imap b es).P w := (I.own _ (List.mem_cons_self ..)).1
  obtain ⟨h', hle, hfp, I'⟩ := I.settle
  exact ⟨h', ents, clock, hle, by unfold MapAt; rw [hfp b (by simp [imap])]; exact h1, h2, I'⟩
theorem O.range {T Kt Vt m : Nat} {x : Operand} {ents : List MapEntry} {clock : Nat} (I : Inv B h M w) (hT : Und P T (.map Kt Vt)) (hx : ev e x = .map (some m)) (hm : MapAt h m ents clock)
    (k : ∀ b w', Inv B h (mit b m clock [] :: M) w' → K (.pointer (some ⟨b, 0, none⟩)) w') : Op1 P ⟨d, .range T x, t, pos, af, g⟩ e w K := by
  have hg : (getObj m).run P w = .ok (.map ents.toArray clock) w := getObj_run (I.imm _ _ hm) (by intro c t f h; cases h)
  have : (execOp (ev e) ⟨d, .range T x, t, pos, af, g⟩).run P w = .ok (.value (.pointer (some ⟨w.heap.size, 0, none⟩))) (w.alloc (.mapIter (some m) clock #[] clock)) := by
    simp [execOp, hx, Instr.range, run_underlying hT, hg]
  unfold Op1
  rw [this]
  refine k _ _ (I.gain (Grow.alloc w _) (heap_alloc_new w _) (fun b hb => ?_))
  simp [mit] at hb; subst hb; simp
theorem O.next {x : Operand} {b m clock : Nat} {done : List Nat} {ents : List MapEntry} {es : List (Int × Int)} (I : Inv B h M w) (n : Nat) (hn : M[n]? = some (mit b m clock done)) (hx : ev e x = .pointer (some ⟨b, 0, none⟩)) (hm : MapAt h m ents clock) (hi : IMap ents clock es)
    (k0 : (∀ q ∈ ents, q.born ∈ done) → K (.tuple #[.bool false]) w)
    (k1 : ∀ q w', q ∈ ents → q.born ∉ done → Inv B h (M.set n (mit b m clock (done ++ [q.born]))) w' → K (.tuple #[.bool true, q.key, q.val]) w') : Op1 P ⟨d, .next x false, t, pos, af, g⟩ e w K := by
  have hb : w.heap[b]? = some (.mapIter (some m) clock done.toArray clock) := I.at n hn
  have hgb : (getObj b).run P w = .ok (.mapIter (some m) clock done.toArray clock) w := getObj_run hb (by intro c t f h; cases h)
  have hgm : (getObj m).run P w = .ok (.map ents.toArray clock) w := getObj_run (I.imm _ _ hm) (by intro c t f h; cases h)
  have hall : (!done.toArray.isEmpty && !ents.toArray.isEmpty && ents.toArray.all (fun e => decide (e.born ≥ clock))) = false := by
    cases he : ents with
    | nil => simp
    | cons q r =>
      have := hi.lt q (by simp [he])
      simp; intro _ h'; omega
  have hleft : (ents.toArray.filter fun e => !done.toArray.contains e.born).filter (fun e => decide (e.born < clock)) = (ents.filter fun e => !done.contains e.born).toArray := by
    simp only [List.filter_toArray]
    congr 1
    refine (List.filter_eq_self.2 fun a ha => ?_).trans (by simp)
    have := hi.lt a (List.mem_filter.1 ha).1; simpa using this
  have hnew : (ents.toArray.filter fun e => !done.toArray.contains e.born).filter (fun e => decide (e.born ≥ clock)) = #[] := by
    simp only [List.filter_toArray]
    rw [List.filter_eq_nil_iff.2]
    intro a ha; have := hi.lt a (List.mem_filter.1 ha).1; simp; omega
  cases hl : (ents.filter fun e => !done.contains e.born) with
  | nil =>
    have hrun : (execOp (ev e) ⟨d, .next x false, t, pos, af, g⟩).run P w = .ok (.value (.tuple #[.bool false])) w := by
      simp only [execOp, hx, Instr.next, Sem.run_bind, hgb, Result.andThen_ok, hgm, hall, hleft, hnew, hl]
      simp [Question.forced]
    unfold Op1
    rw [hrun]
    refine k0 fun q hq => ?_
    rw [List.filter_eq_nil_iff] at hl
    have := hl q hq
    simpa using this
  | cons q0 r0 =>
    have hsome : ∀ i, i < (q0 :: r0).length → ∃ q, (q0 :: r0)[i]? = some q ∧ q ∈ ents ∧ q.born ∉ done := by
      intro i hi'
      refine ⟨(q0 :: r0)[i], List.getElem?_eq_getElem hi', ?_⟩
      have : (q0 :: r0)[i] ∈ ents.filter fun e => !done.contains e.born := by rw [hl]; exact List.getElem_mem hi'
      rw [List.mem_filter] at this
      exact ⟨this.1, by simpa using this.2⟩
    have key : ∀ (i : Nat) (wd : World), wd.heap = w.heap → wd.os = w.os → wd.tape = w.tape → wd.output = w.output → ∀ q, (q0 :: r0)[i]? = some q → q ∈ ents → q.born ∉ done →
        K (.tuple #[.bool true, q.key, q.val]) { wd with heap := wd.heap.setIfInBounds b (.mapIter (some m) clock (done ++ [q.born]).toArray clock) } := by
      intro i wd h1 h2 h3 h4 q hq hq1 hq2
      have Id : Inv B h M wd := I.grow ⟨h2, h3, h4, by rw [h1]; exact Nat.le_refl _, fun k _ => by rw [h1]⟩
      exact k1 q _ hq1 hq2 (Id.setObj n hn rfl rfl fun w' hw' => hw')
    have hcand : (if (q0 :: r0).toArray.isEmpty = true then #[none] else #[]) ++ ((q0 :: r0).toArray ++ #[]).map some = (q0 :: r0).toArray.map some := by simp
    unfold Op1
    by_cases hf : (q0 :: r0).length ≤ 1
    · obtain ⟨q, hq, hq1, hq2⟩ := hsome 0 (by simp)
      have hrun : (execOp (ev e) ⟨d, .next x false, t, pos, af, g⟩).run P w = .ok (.value (.tuple #[.bool true, q.key, q.val])) { w with heap := w.heap.setIfInBounds b (.mapIter (some m) clock (done ++ [q.born]).toArray clock) } := by
        have hr0 : r0 = [] := by cases r0 with | nil => rfl | cons _ _ => simp at hf
        subst hr0
        simp at hq; subst hq
        have hset := fun o => setObj_run (P := P) (o' := o) hb (by intro c t f h; cases h)
        simp only [execOp, hx, Instr.next, Sem.run_bind, hgb, Result.andThen_ok, hgm, hall, hleft, hnew, hl, hcand]
        simp [Question.forced, hset]
      rw [hrun]
      exact key 0 w rfl rfl rfl rfl q hq hq1 hq2
    · have hlt := Nat.mod_lt (w.tape w.drawn (.mapNext (q0 :: r0).length)) (show 0 < (q0 :: r0).length by simp)
      obtain ⟨q, hq, hq1, hq2⟩ := hsome _ hlt
      have hrun : (execOp (ev e) ⟨d, .next x false, t, pos, af, g⟩).run P w = .ok (.value (.tuple #[.bool true, q.key, q.val])) { w.drew with heap := w.drew.heap.setIfInBounds b (.mapIter (some m) clock (done ++ [q.born]).toArray clock) } := by
        have hbd : w.drew.heap[b]? = some (.mapIter (some m) clock done.toArray clock) := hb
        have hset := fun o => setObj_run (P := P) (o' := o) hbd (by intro c t f h; cases h)
        have hforced : (Question.mapNext (r0.length + 1)).forced = false := by simp [Question.forced]; simp at hf; omega
        have hq' : ((q0 :: r0).toArray.map some)[(Question.mapNext (r0.length + 1)).cut (w.tape w.drawn (.mapNext (r0.length + 1)))]? = some (some q) := by
          simp only [List.map_toArray, List.getElem?_toArray, List.getElem?_map]
          have : (q0 :: r0)[(Question.mapNext (r0.length + 1)).cut (w.tape w.drawn (.mapNext (r0.length + 1)))]? = some q := hq
          rw [this]; rfl
        simp only [execOp, hx, Instr.next, Sem.run_bind, hgb, Result.andThen_ok, hgm, hall, hleft, hnew, hl, hcand]
        simp only [Bool.false_eq_true, if_false, Sem.run_bind, run_choose, Array.size_map, List.size_toArray, List.length_cons, hforced, Sem.run_pure, Result.andThen_ok, World.drew_eq, hq', hset]
        simp
      rw [hrun]
      exact key _ w.drew rfl rfl rfl rfl q hq hq1 hq2
theorem Y.entry {x : Operand} {b m clock : Nat} {done : List Nat} {ents : List MapEntry} {es : List (Int × Int)} {q : MapEntry} (I : Inv B h M w) (n : Nat) (hn : M[n]? = some (mit b m clock (done ++ [q.born]))) (hx : ev e x = .pointer (some ⟨b, 0, none⟩)) (hm : MapAt h m ents clock) (hi : IMap ents clock es) (hq : q ∈ ents) :
    Y P ⟨d, .entry x, t, pos, af, g⟩ e w (.tuple #[q.key, q.val]) := by
  have hb : w.heap[b]? = some (.mapIter (some m) clock (done ++ [q.born]).toArray clock) := I.at n hn
  have hgb : (getObj b).run P w = .ok (.mapIter (some m) clock (done ++ [q.born]).toArray clock) w := getObj_run hb (by intro c t f h; cases h)
  have hgm : (getObj m).run P w = .ok (.map ents.toArray clock) w := getObj_run (I.imm _ _ hm) (by intro c t f h; cases h)
  have hf : ents.toArray.find? (fun a => a.born == q.born) = some q := by
    rw [List.find?_toArray]
    have hnd := hi.nodup
    clear hgm hm hi hb hgb hn
    induction ents with
    | nil => cases hq
    | cons a r ih =>
      simp only [List.map_cons, List.nodup_cons] at hnd
      rcases List.mem_cons.1 hq with rfl | hq'
      · simp
      · have hne : a.born ≠ q.born := fun e => hnd.1 (by rw [e]; exact List.mem_map_of_mem hq')
        have : (a.born == q.born) = false := by simpa using hne
        rw [List.find?_cons, this]
        exact ih hq' hnd.2
  simp [Y, execOp, hx, Instr.entry, hgb, hgm, hf]
end
end Go.TF
end
section
/- Regions that draw their order: fresh pieces may be made in them, and what stands at their end may write. One walk in the order of the text serves every order. -/
namespace Go.TF
open Go Go.RowKit

abbrev Sp := Value → Heap → Prop
def lk (ops : Array Oper) (o : Oper) (d : Nat) : Bool := (o.looksAt ops).contains d
def wt (o : Oper) (j : Nat) : Bool := o.after.toList.any fun e => Region.binds .any e && e.on == j
def Waits (L : Nat → Prop) (o : Oper) : Prop := ∀ e ∈ o.after, Region.binds .any e = true → L e.on
def Closed (ops : Array Oper) (L : Nat → Prop) : Prop := ∀ i o, ops[i]? = some o → L i → Waits L o
structure Flow (ops : Array Oper) (m : Nat) : Prop where
  sel : Region.noSelect ops = true
  le : m ≤ ops.size
  back : ∀ i o, ops[i]? = some o → ∀ e ∈ o.after, Region.binds .any e = true → e.on < i
  dist : ∀ i j oi oj d, i < m → j < m → ops[i]? = some oi → ops[j]? = some oj → oi.dst = some d → oj.dst = some d → i = j
  reads : ∀ i j oi oj d, i < m → j < m → i ≠ j → ops[i]? = some oi → ops[j]? = some oj → oj.dst = some d → d ∈ oi.looksAt ops → (j < i → wt oi j = true) ∧ (i < j → wt oj i = true)
  tail : ∀ L, Closed ops L → ∀ i oi, m ≤ i → ops[i]? = some oi → Waits L oi → ∀ j, j < i → L j

theorem wt_L {L : Nat → Prop} {o : Oper} {j : Nat} (h : wt o j = true) (hw : Waits L o) : L j := by
  unfold wt at h
  rw [List.any_eq_true] at h
  obtain ⟨e, he, h⟩ := h
  simp only [Bool.and_eq_true, beq_iff_eq] at h
  rw [← h.2]; exact hw e (by simpa using he) h.1

/-! ### The check -/
def fold1 (acc : List Nat) (l : List Edge) (s : Nat) : Nat := l.foldl (fun s e => bif Region.binds .any e then s ||| (2 ^ e.on) ||| acc.getD e.on 0 else s) s
def masks : List Oper → List Nat → List Nat
  | [], acc => acc
  | o :: r, acc => masks r (acc ++ [fold1 acc o.after.toList 0])
theorem fold1_spec (acc : List Nat) : ∀ (l : List Edge) (s j : Nat), (fold1 acc l s).testBit j = true → s.testBit j = true ∨ ∃ e ∈ l, Region.binds .any e = true ∧ (j = e.on ∨ (acc.getD e.on 0).testBit j = true)
  | [], s, j, h => .inl h
  | e :: l, s, j, h => by
    simp only [fold1, List.foldl_cons] at h
    have h' := fold1_spec acc l _ j h
    rcases h' with h' | ⟨e', he', hb, hh⟩
    · cases hb : Region.binds .any e
      · rw [hb] at h'; exact .inl h'
      · rw [hb] at h'
        simp only [cond_true, Nat.testBit_or, Bool.or_eq_true] at h'
        rcases h' with (h' | h') | h'
        · exact .inl h'
        · rw [Nat.testBit_two_pow] at h'; exact .inr ⟨e, List.mem_cons_self .., hb, .inl (by simpa using (of_decide_eq_true h').symm)⟩
        · exact .inr ⟨e, List.mem_cons_self .., hb, .inr h'⟩
    · exact .inr ⟨e', List.mem_cons_of_mem _ he', hb, hh⟩
theorem masks_spec {ops : Array Oper} {L : Nat → Prop} (hc : Closed ops L) : ∀ (l : List Oper) (acc : List Nat), (∀ j, l[j]? = ops[acc.length + j]?) →
    (∀ i o, i < acc.length → ops[i]? = some o → Waits L o → ∀ j, (acc.getD i 0).testBit j = true → L j) →
    ∀ i o, i < acc.length + l.length → ops[i]? = some o → Waits L o → ∀ j, ((masks l acc).getD i 0).testBit j = true → L j
  | [], acc, _, h => by simpa [masks] using h
  | o :: l, acc, hl, h => by
    have h0 : ops[acc.length]? = some o := by simpa using (hl 0).symm
    simp only [masks]
    have ih := masks_spec hc l (acc ++ [fold1 acc o.after.toList 0]) (fun j => by
      have := hl (j + 1)
      simp only [List.getElem?_cons_succ] at this
      rw [this, List.length_append, List.length_singleton]; congr 1; omega) ?_
    · intro i oi hi; exact ih i oi (by simp only [List.length_append, List.length_cons, List.length_nil] at *; omega)
    · intro i oi hi hoi hw j hj
      simp only [List.length_append, List.length_singleton] at hi
      by_cases hlt : i < acc.length
      · refine h i oi hlt hoi hw j ?_
        simpa [List.getD_eq_getElem?_getD, List.getElem?_append_left hlt] using hj
      · have hi' : i = acc.length := by omega
        subst hi'
        rw [h0] at hoi; cases hoi
        have hj' : (fold1 acc o.after.toList 0).testBit j = true := by simpa [List.getD_eq_getElem?_getD] using hj
        rcases fold1_spec acc _ _ _ hj' with h1 | ⟨e, he, hb, h1⟩
        · simp at h1
        · have hLe : L e.on := hw e (by simpa using he) hb
          rcases h1 with rfl | h1
          · exact hLe
          · by_cases hlt : e.on < acc.length
            · cases hoe : ops[e.on]? with
              | none =>
                have : acc.length < ops.size := (Array.getElem?_eq_some_iff.1 h0).1
                have := Array.getElem?_eq_none_iff.1 hoe; omega
              | some oe => exact h e.on oe hlt hoe (hc _ _ hoe hLe) j h1
            · rw [List.getD_eq_getElem?_getD, List.getElem?_eq_none (by omega)] at h1; simp at h1
def optEq (a b : Option Nat) : Bool := match a, b with | some x, some y => Nat.beq x y | _, _ => false
theorem optEq_some {a b : Option Nat} {d : Nat} (ha : a = some d) (hb : b = some d) : optEq a b = true := by subst ha; subst hb; simp [optEq]
def flowB (ops : Array Oper) (m : Nat) : Bool :=
  Region.noSelect ops && Nat.ble m ops.size &&
  (ops.toList.zipIdx.all fun p => p.1.after.toList.all fun e => !Region.binds .any e || Nat.blt e.on p.2) &&
  ((ops.toList.take m).zipIdx.all fun p => (ops.toList.take m).zipIdx.all fun q => Nat.beq p.2 q.2 ||
    (!optEq p.1.dst q.1.dst && (match q.1.dst with | some d => !lk ops p.1 d || (bif Nat.blt q.2 p.2 then wt p.1 q.2 else wt q.1 p.2) | none => true))) &&
  (let ms := masks ops.toList []
   ops.toList.zipIdx.all fun p => Nat.blt p.2 m || ((ms.getD p.2 0) &&& (2 ^ p.2 - 1)) == 2 ^ p.2 - 1)
theorem flow_of {ops : Array Oper} {m : Nat} (h : flowB ops m = true) : Flow ops m := by
  simp only [flowB, Bool.and_eq_true, List.all_eq_true] at h
  obtain ⟨⟨⟨⟨h1, h2⟩, h3⟩, h4⟩, h5⟩ := h
  have mem : ∀ {i : Nat} {o : Oper}, ops[i]? = some o → (o, i) ∈ ops.toList.zipIdx := fun {i o} ho => by
    rw [List.mem_zipIdx_iff_getElem?]; simpa using ho
  have memT : ∀ {i : Nat} {o : Oper}, i < m → ops[i]? = some o → (o, i) ∈ (ops.toList.take m).zipIdx := fun {i o} hi ho => by
    rw [List.mem_zipIdx_iff_getElem?, List.getElem?_take, if_pos hi]; simpa using ho
  refine ⟨h1, Nat.le_of_ble_eq_true h2, fun i o ho e he hb => ?_, fun i j oi oj d hi hj ho ho' hd hd' => ?_, fun i j oi oj d hi hj hne ho ho' hd hl => ?_, fun L hL i oi hi ho hw j hj => ?_⟩
  · have := h3 _ (mem ho) e (by simpa using he)
    rw [hb] at this
    simp [Nat.blt] at this
    omega
  · have := h4 _ (memT hi ho) _ (memT hj ho')
    rw [optEq_some hd hd'] at this
    simpa using this
  · have := h4 _ (memT hi ho) _ (memT hj ho')
    have hne' : Nat.beq i j = false := by cases hb : Nat.beq i j; rfl; exact absurd (Nat.eq_of_beq_eq_true hb) hne
    have hlk : lk ops oi d = true := by simpa [lk] using hl
    simp only [hne', hd, hlk, Bool.false_or, Bool.not_true, Bool.and_eq_true] at this
    have := this.2
    refine ⟨fun hlt => ?_, fun hlt => ?_⟩
    · have hb : Nat.blt j i = true := by simp [Nat.blt]; omega
      rwa [hb] at this
    · have hb : Nat.blt j i = false := by
        cases hb : Nat.blt j i
        · rfl
        · have := Nat.le_of_ble_eq_true hb; omega
      rwa [hb] at this
  · have := h5 _ (mem ho)
    simp only [Bool.or_eq_true, beq_iff_eq] at this
    rcases this with hb | hb
    · have := Nat.le_of_ble_eq_true hb; omega
    · have hbit : ((masks ops.toList []).getD i 0).testBit j = true := by
        have h6 := congrArg (fun x => Nat.testBit x j) hb
        simp only [Nat.testBit_and, Nat.testBit_two_pow_sub_one, hj, decide_true, Bool.and_true] at h6
        exact h6
      exact masks_spec hL ops.toList [] (fun j => by simp) (fun i o hi => by simp at hi) i oi (by simpa using (Array.getElem?_eq_some_iff.1 ho).1) ho hw j hbit

/-! ### The first part, in the order of the text -/
def ovr (e : Env) : List (Nat × Sp) → Env → Env
  | [], _ => e
  | p :: L, us => upd (ovr e L us) p.1 (us p.1)
def AllL (c : Nat → Bool) (h : Heap) : List (Nat × Sp) → Env → (Env → Prop) → Prop
  | [], e, k => k e
  | p :: L, e, k => AllL c h L e fun e' => ∀ u, (c p.1 = true → p.2 u h) → k (upd e' p.1 u)
theorem AllL.get {c : Nat → Bool} {h : Heap} : ∀ {L : List (Nat × Sp)} {e : Env} {k : Env → Prop}, AllL c h L e k → ∀ us, (∀ p ∈ L, c p.1 = true → p.2 (us p.1) h) → k (ovr e L us)
  | [], _, _, a, _, _ => a
  | _ :: L, _, _, a, us, hp => AllL.get (L := L) a us (fun q hq => hp q (List.mem_cons_of_mem _ hq)) (us _) (hp _ (List.mem_cons_self ..))
def MonoS (Φ : Sp) : Prop := ∀ u h h', h.le h' → Φ u h → Φ u h'
def Obl (P : Program) (full : Array Oper) (B : Base) (M : List SA) (h0 : Heap) (L : List (Nat × Sp)) (e : Env) (o : Oper) (Φ : Sp) : Prop :=
  ∀ h1 w, h0.le h1 → Inv B h1 M w → AllL (lk full o) h1 L e fun e' => Op1 P o e' w fun u w' => ∃ h2, h1.le h2 ∧ Inv B h2 M w' ∧ Φ u h2
def OpsF (P : Program) (full : Array Oper) (B : Base) (M : List SA) (h0 : Heap) : List (Nat × Sp) → List Oper → Env → (List (Nat × Sp) → Env → Prop) → Prop
  | L, [], e, K => K L e
  | L, o :: r, e, K =>
    ((∀ us, runs full (ovr e L us) o = false) ∧ OpsF P full B M h0 L r (updo e o.dst undef) K) ∨
    ((∀ us, runs full (ovr e L us) o = true) ∧
      ((∃ v, Obl P full B M h0 L e o (fun u _ => u = v) ∧ OpsF P full B M h0 L r (updo e o.dst v) K) ∨
       (∃ d Φ, o.dst = some d ∧ MonoS Φ ∧ Obl P full B M h0 L e o Φ ∧ OpsF P full B M h0 ((d, Φ) :: L) r e K)))

def dstO (ops : Array Oper) (j : Nat) : Option Nat := (ops[j]?).bind (·.dst)
theorem upd_eq (e : Env) (d : Nat) (v : Value) : upd e d v d = v := by simp [upd]
theorem upd_ne (e : Env) {d i : Nat} (v : Value) (h : i ≠ d) : upd e d v i = e i := by
  unfold upd
  cases hb : Nat.beq i d
  · rfl
  · exact absurd (Nat.eq_of_beq_eq_true hb) h
theorem ovr_notin {e us : Env} {d : Nat} : ∀ {L : List (Nat × Sp)}, (∀ p ∈ L, p.1 ≠ d) → ovr e L us d = e d
  | [], _ => rfl
  | p :: L, h => by
    simp only [ovr]
    rw [upd_ne _ _ (Ne.symm (h p (List.mem_cons_self ..)))]
    exact ovr_notin fun q hq => h q (List.mem_cons_of_mem _ hq)
theorem ovr_upd_ne {e us : Env} {d i : Nat} {v : Value} (h : i ≠ d) : ∀ (L : List (Nat × Sp)), ovr (upd e d v) L us i = ovr e L us i
  | [] => upd_ne _ _ h
  | p :: L => by
    simp only [ovr]
    by_cases hp : i = p.1
    · subst hp; rw [upd_eq, upd_eq]
    · rw [upd_ne _ _ hp, upd_ne _ _ hp, ovr_upd_ne h L]
theorem runs_congr {ops : Array Oper} {o : Oper} {f g : Env} (h : ∀ d ∈ o.looksAt ops, f d = g d) : runs ops f o = runs ops g o := by
  unfold runs
  cases hg : o.guard with
  | none => rfl
  | some p =>
    obtain ⟨j, want⟩ := p
    simp only
    unfold yieldE
    cases hd : (ops[j]?).bind (·.dst) with
    | none => rfl
    | some d =>
      simp only
      rw [h d (by simp [Oper.looksAt, hg, hd])]
theorem Op1_congr {P : Program} {ops : Array Oper} {o : Oper} {f g : Env} {w : World} {K : Value → World → Prop} (hs : ∀ cs b, o.op ≠ .select cs b) (h : ∀ d ∈ o.looksAt ops, f d = g d) (k : Op1 P o f w K) : Op1 P o g w K := by
  unfold Op1 at *
  rw [execOp_congr o hs (ρ' := ev f)]
  · exact k
  · intro x hx
    cases x with
    | tmp t => exact (h t (List.mem_append_left _ (List.mem_filterMap.2 ⟨.tmp t, by simpa using hx, rfl⟩))).symm
    | _ => rfl

section
variable (P : Program) (ops : Array Oper) (B : Base) (M : List SA) (h0 : Heap) (e0 : Env)
def OkF (Ss : List Sp) (k : Nat) (f : Env) (h : Heap) (d : Nat) : Prop :=
  (∀ j Φ, j < k → dstO ops j = some d → Ss[j]? = some Φ → Φ (f d) h) ∧ ((∀ j, j < k → dstO ops j ≠ some d) → f d = e0 d)
structure RelF (Ss : List Sp) (L : List (Nat × Sp)) (e : Env) : Prop where
  eq : ∀ f h d, OkF ops e0 Ss Ss.length f h d → ovr e L f d = f d
  sub : ∀ p ∈ L, ∃ k, k < Ss.length ∧ dstO ops k = some p.1 ∧ Ss[k]? = some p.2
def LSF (Ss : List Sp) (i : Nat) : Prop := ∀ o Φ f h1 w, ops[i]? = some o → Ss[i]? = some Φ → h0.le h1 → Inv B h1 M w → (∀ d ∈ o.looksAt ops, OkF ops e0 Ss i f h1 d) →
  (runs ops f o = true → Op1 P o f w fun u w' => ∃ h2, h1.le h2 ∧ Inv B h2 M w' ∧ Φ u h2) ∧ (runs ops f o = false → Φ undef h1)
end
section
variable {P : Program} {ops : Array Oper} {B : Base} {M : List SA} {h0 : Heap} {e0 : Env} {m : Nat}
theorem get_snoc {α : Type} {l : List α} {a : α} {k : Nat} (h : k < l.length) : (l ++ [a])[k]? = l[k]? := List.getElem?_append_left h
theorem OkF.snoc {Ss : List Sp} {Φ : Sp} {k : Nat} {f : Env} {h : Heap} {d : Nat} (hk : k ≤ Ss.length) : OkF ops e0 (Ss ++ [Φ]) k f h d ↔ OkF ops e0 Ss k f h d := by
  unfold OkF
  refine and_congr ⟨fun a j Ψ hj h1 h2 => a j Ψ hj h1 (by rw [get_snoc (by omega)]; exact h2), fun a j Ψ hj h1 h2 => a j Ψ hj h1 (by rw [get_snoc (by omega)] at h2; exact h2)⟩ Iff.rfl
theorem LSF.snoc {Ss : List Sp} {Φ : Sp} {k : Nat} (hk : k < Ss.length) (h : LSF P ops B M h0 e0 Ss k) : LSF P ops B M h0 e0 (Ss ++ [Φ]) k := by
  intro o Ψ f h1 w ho hp hl I hd
  rw [get_snoc hk] at hp
  exact h o Ψ f h1 w ho hp hl I fun d hm => (OkF.snoc (by omega)).1 (hd d hm)
theorem OpsF.sound (hF : Flow ops m) : ∀ (l : List Oper) (Ss : List Sp) (L : List (Nat × Sp)) (e : Env) (K : List (Nat × Sp) → Env → Prop), (∀ j, l[j]? = (ops.toList.take m)[Ss.length + j]?) → Ss.length + l.length = m →
    RelF ops e0 Ss L e → (∀ k, k < Ss.length → LSF P ops B M h0 e0 Ss k) → (∀ Φ ∈ Ss, MonoS Φ) → OpsF P ops B M h0 L l e K →
    ∃ Ss' L' e', Ss'.length = m ∧ RelF ops e0 Ss' L' e' ∧ (∀ k, k < m → LSF P ops B M h0 e0 Ss' k) ∧ (∀ Φ ∈ Ss', MonoS Φ) ∧ K L' e'
  | [], Ss, L, e, K, _, hm, hr, hs, hmo, h => ⟨Ss, L, e, by simpa using hm, hr, by simpa [← hm] using hs, hmo, h⟩
  | o :: r, Ss, L, e, K, hl, hm, hr, hs, hmo, h => by
    simp only [List.length_cons] at hm
    have hi : ops[Ss.length]? = some o := by
      have := hl 0
      simp only [List.getElem?_cons_zero, Nat.add_zero, List.getElem?_take] at this
      rw [if_pos (by omega)] at this
      simpa using this.symm
    have hdst : dstO ops Ss.length = o.dst := by simp [dstO, hi]
    have hdist : ∀ k d, k < Ss.length → dstO ops k = some d → o.dst ≠ some d := fun k d hk hd hod => by
      cases hok : ops[k]? with
      | none => simp [dstO, hok] at hd
      | some ok =>
        simp [dstO, hok] at hd
        have := hF.dist k Ss.length ok o d (by omega) (by omega) hok hi hd hod
        omega
    have hagree : ∀ f h1, (∀ d ∈ o.looksAt ops, OkF ops e0 Ss Ss.length f h1 d) → ∀ d ∈ o.looksAt ops, ovr e L f d = f d := fun f h1 hd d hdm => hr.eq f h1 d (hd d hdm)
    have hLd : ∀ f h1, (∀ d ∈ o.looksAt ops, OkF ops e0 Ss Ss.length f h1 d) → ∀ p ∈ L, lk ops o p.1 = true → p.2 (f p.1) h1 := fun f h1 hd p hp hk => by
      obtain ⟨k, k1, k2, k3⟩ := hr.sub p hp
      exact (hd p.1 (by simpa [lk] using hk)).1 k p.2 k1 k2 k3
    have next : ∀ Φ L1 e1, MonoS Φ → LSF P ops B M h0 e0 (Ss ++ [Φ]) Ss.length → RelF ops e0 (Ss ++ [Φ]) L1 e1 → OpsF P ops B M h0 L1 r e1 K →
        ∃ Ss' L' e', Ss'.length = m ∧ RelF ops e0 Ss' L' e' ∧ (∀ k, k < m → LSF P ops B M h0 e0 Ss' k) ∧ (∀ Φ ∈ Ss', MonoS Φ) ∧ K L' e' := fun Φ L1 e1 hΦ hls hrel hops => by
      refine OpsF.sound hF r (Ss ++ [Φ]) L1 e1 K (fun j => ?_) (by simp; omega) hrel (fun k hk => ?_) (fun Ψ hΨ => ?_) hops
      · have := hl (j + 1)
        simp only [List.getElem?_cons_succ] at this
        rw [this, List.length_append, List.length_cons, List.length_nil]; congr 1; omega
      · simp only [List.length_append, List.length_cons, List.length_nil] at hk
        by_cases hk' : k < Ss.length
        · exact (hs k hk').snoc hk'
        · have : k = Ss.length := by omega
          subst this; exact hls
      · rcases List.mem_append.1 hΨ with h1 | h1
        · exact hmo Ψ h1
        · simp at h1; subst h1; exact hΦ
    have relV : ∀ v (Φ : Sp), (∀ u h1, Φ u h1 → u = v) → RelF ops e0 (Ss ++ [Φ]) L (updo e o.dst v) := fun v Φ hΦ => by
      refine ⟨fun f h1 d hok => ?_, fun p hp => ?_⟩
      · cases hod : o.dst with
        | none =>
          refine hr.eq f h1 d ?_
          refine ⟨fun j Ψ hj a b => hok.1 j Ψ (by simp; omega) a (by rw [get_snoc hj]; exact b), fun hn => hok.2 fun j hj => ?_⟩
          simp only [List.length_append, List.length_cons, List.length_nil] at hj
          by_cases hj' : j < Ss.length
          · exact hn j hj'
          · have : j = Ss.length := by omega
            subst this; rw [hdst, hod]; exact fun hh => by cases hh
        | some t =>
          simp only [updo]
          by_cases hdt : d = t
          · subst hdt
            rw [ovr_notin, upd_eq]
            · exact (hΦ _ h1 (hok.1 Ss.length Φ (by simp) (by rw [hdst, hod]) (by simp))).symm
            · intro p hp hpd
              obtain ⟨k, k1, k2, _⟩ := hr.sub p hp
              exact hdist k _ k1 k2 (by rw [hod, hpd])
          · rw [ovr_upd_ne hdt]
            refine hr.eq f h1 d ⟨fun j Ψ hj a b => hok.1 j Ψ (by simp; omega) a (by rw [get_snoc hj]; exact b), fun hn => hok.2 fun j hj => ?_⟩
            simp only [List.length_append, List.length_cons, List.length_nil] at hj
            by_cases hj' : j < Ss.length
            · exact hn j hj'
            · have : j = Ss.length := by omega
              subst this; rw [hdst, hod]; exact fun hh => by cases hh; exact hdt rfl
      · obtain ⟨k, k1, k2, k3⟩ := hr.sub p hp
        exact ⟨k, by simp; omega, k2, by rw [get_snoc k1]; exact k3⟩
    have hsel := fun cs b => Region.noSelect_spec hF.sel Ss.length o cs b hi
    simp only [OpsF] at h
    rcases h with ⟨hru, h⟩ | ⟨hru, ⟨v, hob, h⟩ | ⟨d, Φ, hod, hΦ, hob, h⟩⟩
    · refine next (fun u _ => u = undef) L _ (fun _ _ _ _ e => e) ?_ (relV undef _ fun _ _ e => e) h
      intro o' Φ' f h1 w ho' hp' hl1 I hd
      rw [hi] at ho'; cases ho'
      simp at hp'; subst hp'
      have hd' := fun d hm => (OkF.snoc (Nat.le_refl _)).1 (hd d hm)
      refine ⟨fun hrt => ?_, fun _ => rfl⟩
      rw [← runs_congr (hagree f h1 hd'), hru] at hrt
      cases hrt
    · refine next (fun u _ => u = v) L _ (fun _ _ _ _ e => e) ?_ (relV v _ fun _ _ e => e) h
      intro o' Φ' f h1 w ho' hp' hl1 I hd
      rw [hi] at ho'; cases ho'
      simp at hp'; subst hp'
      have hd' := fun d hm => (OkF.snoc (Nat.le_refl _)).1 (hd d hm)
      refine ⟨fun _ => Op1_congr hsel (hagree f h1 hd') ((hob h1 w hl1 I).get f (hLd f h1 hd')), fun hrf => ?_⟩
      rw [← runs_congr (hagree f h1 hd'), hru] at hrf
      cases hrf
    · refine next Φ ((d, Φ) :: L) e hΦ ?_ ⟨fun f h1 i hok => ?_, fun p hp => ?_⟩ h
      · intro o' Φ' f h1 w ho' hp' hl1 I hd
        rw [hi] at ho'; cases ho'
        simp at hp'; subst hp'
        have hd' := fun d hm => (OkF.snoc (Nat.le_refl _)).1 (hd d hm)
        refine ⟨fun _ => Op1_congr hsel (hagree f h1 hd') ((hob h1 w hl1 I).get f (hLd f h1 hd')), fun hrf => ?_⟩
        rw [← runs_congr (hagree f h1 hd'), hru] at hrf
        cases hrf
      · simp only [ovr]
        by_cases hdt : i = d
        · subst hdt; rw [upd_eq]
        · rw [upd_ne _ _ hdt]
          refine hr.eq f h1 i ⟨fun j Ψ hj a b => hok.1 j Ψ (by simp; omega) a (by rw [get_snoc hj]; exact b), fun hn => hok.2 fun j hj => ?_⟩
          simp only [List.length_append, List.length_cons, List.length_nil] at hj
          by_cases hj' : j < Ss.length
          · exact hn j hj'
          · have : j = Ss.length := by omega
            subst this; rw [hdst, hod]; exact fun hh => by cases hh; exact hdt rfl
      · rcases List.mem_cons.1 hp with rfl | hp
        · exact ⟨Ss.length, by simp, by rw [hdst, hod], by simp⟩
        · obtain ⟨k, k1, k2, k3⟩ := hr.sub p hp
          exact ⟨k, by simp; omega, k2, by rw [get_snoc k1]; exact k3⟩

/-! ### Every order -/
theorem getD_tf {l : Array Bool} {i : Nat} (h : i < l.size) : l.getD i true = l.getD i false := by simp [h]
theorem count_set {l : Array Bool} {i : Nat} (h : i < l.size) (hf : l.getD i true = false) : (l.setIfInBounds i true).count false + 1 = l.count false := by
  have h1 : l[i] = false := by simpa [h] using hf
  rw [show l.setIfInBounds i true = l.set i true h by simp [Array.setIfInBounds, h], Array.count_set]
  have : 0 < l.count false := Array.count_pos_iff.2 (h1 ▸ Array.getElem_mem h)
  simp [h1]; omega
theorem set_getD {l : Array Bool} {i j : Nat} (hi : i < l.size) : (l.setIfInBounds i true).getD j false = true ↔ j = i ∨ l.getD j false = true := by
  by_cases h : i = j
  · subst h; simp [hi]
  · rw [getD_set_ne false h]; exact ⟨.inr, fun h' => h'.resolve_left (Ne.symm h)⟩
structure StF (ops : Array Oper) (m : Nat) (B : Base) (M : List SA) (h0 : Heap) (e0 : Env) (Ss : List Sp) (N : Nat) (D : List Deferred) (l : Array Bool) (a : Act) (w : World) : Prop where
  size : l.size = ops.size
  closed : Closed ops fun j => l.getD j false = true
  tail : ∀ j, m ≤ j → l.getD j false ≠ true
  n : a.tmps.size = N
  d : a.defers = D
  st : ∃ h, h0.le h ∧ Inv B h M w ∧ ∀ d, (∀ j Φ, j < m → l.getD j false = true → dstO ops j = some d → Ss[j]? = some Φ → Φ (env a d) h) ∧ ((∀ j, j < m → l.getD j false = true → dstO ops j ≠ some d) → env a d = e0 d)
theorem wpOp_of {Q : Exit → Act → World → Prop} {i : Nat} {o : Oper} {a : Act} {w : World} {K : Act → World → Prop} (hi : ops[i]? = some o)
    (h : if runs ops (env a) o then Op1 P o (env a) w (fun v w' => K (a.put o.dst v) w') else K (a.put o.dst undef) w) : wpOp P ops Q i K a w := by
  unfold wpOp
  simp only [hi, wanted_env]
  split
  · rename_i hr; rw [if_pos hr] at h; exact .inl (wp_of_Op1 h)
  · rename_i hr; rw [if_neg hr] at h; exact h
theorem flow_tail {Q : Exit → Act → World → Prop} {K : Env → World → Prop} {N : Nat} {D : List Deferred} (hF : Flow ops m) (hds : dstsOk N ops.toList = true) (hQ : ∀ a w, a.tmps.size = N → a.defers = D → K (env a) w → Q .normal a w) :
    ∀ (fuel k : Nat) (l : Array Bool) (a : Act) (w : World), m ≤ k → k ≤ ops.size → ops.size - k ≤ fuel → l.size = ops.size → (∀ j, l.getD j false = true ↔ j < k) → a.tmps.size = N → a.defers = D →
      Ops P ops (ops.toList.drop k) (env a) w K → wpAny P .any ops Q fuel l a w := by
  have done : ∀ (k : Nat) (l : Array Bool) (a : Act) (w : World), k ≤ ops.size → l.size = ops.size → (∀ j, l.getD j false = true ↔ j < k) → a.tmps.size = N → a.defers = D →
      Ops P ops (ops.toList.drop k) (env a) w K → Region.ready .any ops l = [] → Q .normal a w := fun k l a w hk hs hl hn hd h hr => by
    by_cases hlt : k < ops.size
    · have : k ∈ Region.ready .any ops l := by
        refine mem_ready.2 ⟨?_, ops[k], by simp [hlt], fun e he hb => (hl _).2 (hF.back k ops[k] (by simp [hlt]) e he hb)⟩
        rw [getD_tf (by omega)]
        cases hh : l.getD k false
        · rfl
        · exact absurd ((hl k).1 hh) (by omega)
      rw [hr] at this; cases this
    · rw [List.drop_eq_nil_of_le (by simp; omega)] at h
      exact hQ a w hn hd h
  intro fuel
  induction fuel with
  | zero =>
    intro k l a w hmk hk hf hs hl hn hd h
    have hr : Region.ready .any ops l = [] := by
      cases hr : Region.ready .any ops l with
      | nil => rfl
      | cons x xs =>
        have hx : x ∈ Region.ready .any ops l := by rw [hr]; exact List.mem_cons_self ..
        obtain ⟨h1, o, ho, _⟩ := mem_ready.1 hx
        have hlt : x < ops.size := (Array.getElem?_eq_some_iff.1 ho).1
        rw [getD_tf (by omega), (hl x).2 (by omega)] at h1
        cases h1
    exact ⟨hr, done k l a w hk hs hl hn hd h hr⟩
  | succ fuel ih =>
    intro k l a w hmk hk hf hs hl hn hd h
    refine ⟨done k l a w hk hs hl hn hd h, fun i hi => ?_⟩
    obtain ⟨h1, o, ho, h2⟩ := mem_ready.1 hi
    have hlt : i < ops.size := (Array.getElem?_eq_some_iff.1 ho).1
    have hge : k ≤ i := by
      rcases Nat.lt_or_ge i k with h' | h'
      · rw [getD_tf (by omega), (hl i).2 h'] at h1; cases h1
      · exact h'
    have hcl : Closed ops fun j => l.getD j false = true := fun j oj hoj hj e he hb => (hl _).2 (Nat.lt_trans (hF.back j oj hoj e he hb) ((hl j).1 hj))
    have hik : i = k := by
      rcases Nat.lt_or_ge k i with h' | h'
      · have := hF.tail _ hcl i o (by omega) ho h2 k h'
        exact absurd ((hl k).1 this) (by omega)
      · omega
    subst hik
    have hdrop : ops.toList.drop i = o :: ops.toList.drop (i + 1) := by
      have : ops.toList[i]'(by simpa using hlt) = o := by simpa [hlt] using ho
      rw [List.drop_eq_getElem_cons (by simpa using hlt), this]
    rw [hdrop] at h
    have hdo : o.dst.all (· < N) = true := (List.all_eq_true.1 hds) o (by have := Array.mem_of_getElem? ho; simpa using this)
    refine wpOp_of ho ?_
    have step : ∀ v w', Ops P ops (ops.toList.drop (i + 1)) (updo (env a) o.dst v) w' K → wpAny P .any ops Q fuel (l.setIfInBounds i true) (a.put o.dst v) w' := fun v w' hh => by
      refine ih (i + 1) _ _ w' (by omega) (by omega) (by omega) (by simpa using hs) (fun j => ?_) (by rw [size_put, hn]) (by rw [defers_put, hd]) (by rw [env_puto a _ v (by rw [hn]; exact hdo)]; exact hh)
      rw [set_getD (by omega), hl]; omega
    simp only [Ops] at h
    split at h
    · rename_i hr; rw [if_pos hr]; exact h.mono step
    · rename_i hr; rw [if_neg hr]; exact step _ _ h
theorem flow_any {Q : Exit → Act → World → Prop} {K : Env → World → Prop} {N : Nat} {D : List Deferred} {Ss : List Sp} (hF : Flow ops m) (hds : dstsOk N ops.toList = true) (hQ : ∀ a w, a.tmps.size = N → a.defers = D → K (env a) w → Q .normal a w)
    (hSs : Ss.length = m) (hls : ∀ k, k < m → LSF P ops B M h0 e0 Ss k) (hmo : ∀ Φ ∈ Ss, MonoS Φ)
    (hend : ∀ f h1 w, h0.le h1 → Inv B h1 M w → (∀ d, OkF ops e0 Ss m f h1 d) → Ops P ops (ops.toList.drop m) f w K) :
    ∀ (fuel : Nat) (l : Array Bool) (a : Act) (w : World), l.count false ≤ fuel → StF ops m B M h0 e0 Ss N D l a w → wpAny P .any ops Q fuel l a w := by
  have fin : ∀ (l : Array Bool) (a : Act) (w : World), StF ops m B M h0 e0 Ss N D l a w → (∀ j, j < m → l.getD j false = true) → Ops P ops (ops.toList.drop m) (env a) w K := fun l a w S hall => by
    obtain ⟨h, g1, g2, g3⟩ := S.st
    exact hend _ h w g1 g2 fun d => ⟨fun j Φ hj a b => (g3 d).1 j Φ hj (hall j hj) a b, fun hn => (g3 d).2 fun j hj _ => hn j hj⟩
  have nil : ∀ (l : Array Bool) (a : Act) (w : World), StF ops m B M h0 e0 Ss N D l a w → Region.ready .any ops l = [] → Q .normal a w := fun l a w S hr => by
    have least : ∀ n, ∀ j, j < n → j < ops.size → l.getD j false = true := by
      intro n
      induction n with
      | zero => intro j hj; omega
      | succ n ihn =>
        intro j hj hjs
        by_cases hjn : j < n
        · exact ihn j hjn hjs
        · have : j = n := by omega
          subst this
          cases hh : l.getD j false
          · exfalso
            have : j ∈ Region.ready .any ops l := mem_ready.2 ⟨by rw [getD_tf (by rw [S.size]; exact hjs)]; exact hh, ops[j], by simp [hjs], fun e he hb => by
              have := hF.back j ops[j] (by simp [hjs]) e he hb
              exact ihn e.on (by omega) (by omega)⟩
            rw [hr] at this; cases this
          · rfl
    have hms : m = ops.size := by
      rcases Nat.lt_or_ge m ops.size with h' | h'
      · exact absurd (least (m + 1) m (by omega) h') (S.tail m (Nat.le_refl m))
      · have := hF.le; omega
    have := fin l a w S fun j hj => least (j + 1) j (by omega) (by omega)
    rw [List.drop_eq_nil_of_le (by simp; omega)] at this
    exact hQ a w S.n S.d this
  intro fuel
  induction fuel with
  | zero =>
    intro l a w hc S
    have hr : Region.ready .any ops l = [] := by
      cases hr : Region.ready .any ops l with
      | nil => rfl
      | cons x xs =>
        have hx : x ∈ Region.ready .any ops l := by rw [hr]; exact List.mem_cons_self ..
        obtain ⟨h1, o, ho, _⟩ := mem_ready.1 hx
        have hlt : x < l.size := by rw [S.size]; exact (Array.getElem?_eq_some_iff.1 ho).1
        have := count_set hlt h1
        omega
    exact ⟨hr, nil l a w S hr⟩
  | succ fuel ih =>
    intro l a w hc S
    refine ⟨nil l a w S, fun i hi => ?_⟩
    obtain ⟨h1, o, ho, h2⟩ := mem_ready.1 hi
    have hlt : i < ops.size := (Array.getElem?_eq_some_iff.1 ho).1
    have hil : i < l.size := by rw [S.size]; exact hlt
    have hun : l.getD i false ≠ true := by rw [← getD_tf hil, h1]; exact fun h => by cases h
    have hdo : o.dst.all (· < N) = true := (List.all_eq_true.1 hds) o (by have := Array.mem_of_getElem? ho; simpa using this)
    have hcnt := count_set hil h1
    by_cases him : i < m
    · obtain ⟨Φ, hΦ⟩ : ∃ Φ, Ss[i]? = some Φ := ⟨Ss[i]'(by omega), by simp [hSs, him]⟩
      obtain ⟨h, g1, g2, g3⟩ := S.st
      have step : ∀ v w' hh, h.le hh → Inv B hh M w' → Φ v hh → wpAny P .any ops Q fuel (l.setIfInBounds i true) (a.put o.dst v) w' := fun v w' hh hle I hv => by
        refine ih _ _ w' (by omega) ⟨by simpa using S.size, fun j oj hoj hj e he hb => ?_, fun j hj hh' => ?_, by rw [size_put, S.n], by rw [defers_put, S.d], hh, g1.trans hle, I, fun d => ?_⟩
        · simp only [set_getD hil] at hj ⊢
          rcases hj with rfl | hj
          · rw [ho] at hoj; cases hoj; exact .inr (h2 e he hb)
          · exact .inr (S.closed j oj hoj hj e he hb)
        · rw [set_getD hil] at hh'
          rcases hh' with rfl | hh'
          · omega
          · exact S.tail j hj hh'
        · rw [env_puto a _ v (by rw [S.n]; exact hdo)]
          have other : o.dst ≠ some d → updo (env a) o.dst v d = env a d := fun hne => by
            cases hod : o.dst with
            | none => rfl
            | some t => exact upd_ne _ _ fun e => hne (by rw [hod, e])
          by_cases hod : o.dst = some d
          · rw [hod]
            simp only [updo, upd_eq]
            refine ⟨fun j Ψ hj hlj hdj hΨ => ?_, fun hn => absurd (by simp [dstO, ho, hod]) (hn i him (by rw [set_getD hil]; exact .inl rfl))⟩
            cases hoj : ops[j]? with
            | none => simp [dstO, hoj] at hdj
            | some oj =>
              simp [dstO, hoj] at hdj
              have := hF.dist j i oj o d hj him hoj ho hdj hod
              subst this
              rw [hΦ] at hΨ; cases hΨ; exact hv
          · rw [other hod]
            refine ⟨fun j Ψ hj hlj hdj hΨ => ?_, fun hn => (g3 d).2 fun j hj hlj => hn j hj (by rw [set_getD hil]; exact .inr hlj)⟩
            rw [set_getD hil] at hlj
            rcases hlj with rfl | hlj
            · simp [dstO, ho] at hdj; exact absurd hdj hod
            · exact hmo Ψ (List.mem_of_getElem? hΨ) _ h hh hle ((g3 d).1 j Ψ hj hlj hdj hΨ)
      have hok : ∀ d ∈ o.looksAt ops, OkF ops e0 Ss i (env a) h d := fun d hd => by
        refine ⟨fun j Ψ hj hdj hΨ => ?_, fun hn => (g3 d).2 fun j hj hlj hdj => ?_⟩
        · cases hoj : ops[j]? with
          | none => simp [dstO, hoj] at hdj
          | some oj =>
            simp [dstO, hoj] at hdj
            have := (hF.reads i j o oj d him (by omega) (by omega) ho hoj hdj hd).1 hj
            exact (g3 d).1 j Ψ (by omega) (wt_L (L := fun j => l.getD j false = true) this h2) (by simp [dstO, hoj, hdj]) hΨ
        · rcases Nat.lt_trichotomy j i with h' | h' | h'
          · exact hn j h' hdj
          · subst h'; exact hun hlj
          · cases hoj : ops[j]? with
            | none => simp [dstO, hoj] at hdj
            | some oj =>
              simp [dstO, hoj] at hdj
              have := (hF.reads i j o oj d him hj (by omega) ho hoj hdj hd).2 h'
              exact hun (wt_L (L := fun j => l.getD j false = true) this (S.closed j oj hoj hlj))
      have hls' := hls i him o Φ (env a) h w ho hΦ g1 g2 hok
      refine wpOp_of ho ?_
      split
      · rename_i hr
        exact (hls'.1 hr).mono fun v w' ⟨hh, k1, k2, k3⟩ => step v w' hh k1 k2 k3
      · rename_i hr
        exact step undef w h (Heap.le.refl h) g2 (hls'.2 (by simpa using hr))
    · have hall := hF.tail (fun j => l.getD j false = true) S.closed i o (by omega) ho h2
      have him' : i = m := by
        rcases Nat.lt_or_ge m i with h' | h'
        · exact absurd (hall m h') (S.tail m (Nat.le_refl m))
        · omega
      subst him'
      have hl : ∀ j, l.getD j false = true ↔ j < i := fun j => ⟨fun hj => by
        rcases Nat.lt_or_ge j i with h' | h'
        · exact h'
        · exact absurd hj (S.tail j h'), hall j⟩
      have hle : ops.size - i ≤ fuel + 1 := by
        have : ∀ n k (l : Array Bool), l.size = ops.size → k + n = ops.size → (∀ j, k ≤ j → l.getD j false ≠ true) → n ≤ l.count false := by
          intro n
          induction n with
          | zero => intro k l _ _ _; omega
          | succ n ihn =>
            intro k l hs hk hj
            have hks : k < l.size := by omega
            have hkf : l.getD k true = false := by
              rw [getD_tf hks]
              cases hh : l.getD k false
              · rfl
              · exact absurd hh (hj k (Nat.le_refl k))
            have h3 := ihn (k + 1) (l.setIfInBounds k true) (by simpa using hs) (by omega) (fun j hj' => by
              rw [Ne, set_getD hks]; rintro (h | h)
              · omega
              · exact hj j (by omega) h)
            have := count_set hks hkf
            omega
        have := this (ops.size - i) i l S.size (by omega) S.tail
        omega
      have hT := flow_tail (P := P) hF hds hQ (fuel + 1) i l a w (Nat.le_refl i) hF.le hle S.size hl S.n S.d (fin l a w S hall)
      exact hT.2 i hi
end
theorem WP.regionF {P : Program} {N : Nat} {D : List Deferred} {e : Env} {w : World} {Q : Exit → Env → World → Prop} {id : Nat} {ops : Array Oper} {B : Base} {h : Heap} {M : List SA} (hm : Mixed P) (I : Inv B h M w) (m : Nat) (hB : flowB ops m = true)
    (k : OpsF P ops B M h [] (ops.toList.take m) e (fun L e' => ∀ h1 w1, h.le h1 → Inv B h1 M w1 → AllL (fun _ => true) h1 L e' fun e'' => Ops P ops (ops.toList.drop m) e'' w1 (fun e3 w3 => Q .normal e3 w3))) : WP P N D (.region id ops true) e w Q := by
  intro hs a h1 h2 h3
  subst h3
  have hF := flow_of hB
  obtain ⟨Ss, L, e', hlen, hrel, hls, hmo, hK⟩ := OpsF.sound (e0 := env a) hF _ [] [] (env a) _ (fun j => by simp) (by simp [hF.le]) ⟨fun f h1 d ho => (ho.2 (by simp)).symm, by simp⟩ (by simp) (by simp) k
  refine wp_region_any hm ?_
  refine flow_any (K := fun e3 w3 => Q .normal e3 w3) (N := N) (D := D) hF hs (fun a w g1 g2 g3 => ⟨g1, g2, g3⟩) hlen hls hmo (fun f h1 w1 hl I1 hok => ?_) ops.size _ a _ (by simp) ⟨by simp, ?_, ?_, h1, h2, h, Heap.le.refl h, I.drew, fun d => ⟨?_, fun _ => rfl⟩⟩
  · have hov : ovr e' L f = f := by funext d; exact hrel.eq f h1 d (hlen ▸ hok d)
    have := (hK h1 w1 hl I1).get f fun p hp _ => by
      obtain ⟨k, k1, k2, k3⟩ := hrel.sub p hp
      exact (hok p.1).1 k p.2 (hlen ▸ k1) k2 k3
    rwa [hov] at this
  · intro i o _ hl
    simp [Array.getD_eq_getD_getElem?, Array.getElem?_replicate] at hl
    split at hl <;> simp at hl
  · intro j _ hl
    simp [Array.getD_eq_getD_getElem?, Array.getElem?_replicate] at hl
    split at hl <;> simp at hl
  · intro j Φ _ hl
    simp [Array.getD_eq_getD_getElem?, Array.getElem?_replicate] at hl
    split at hl <;> simp at hl

section
variable {P : Program} {full : Array Oper} {B : Base} {M : List SA} {h0 : Heap} {L : List (Nat × Sp)} {rest : List Oper} {e : Env} {K : List (Nat × Sp) → Env → Prop}
variable {op : Op} {t : TypeId} {pos : String} {af : Array Edge}
theorem OpsF.nil (h : K L e) : OpsF P full B M h0 L [] e K := h
theorem OpsF.gf {d j : Nat} {b : Bool} (hg : ∀ us, (yieldE full (ovr e L us) j == some b) = false) (h : OpsF P full B M h0 L rest (upd e d undef) K) : OpsF P full B M h0 L (⟨some d, op, t, pos, af, some (j, b)⟩ :: rest) e K :=
  .inl ⟨fun us => by simpa [runs] using hg us, h⟩
theorem OpsF.d_ {d : Nat} {g : Option (Nat × Bool)} {v : Value} (hr : ∀ us, runs full (ovr e L us) ⟨some d, op, t, pos, af, g⟩ = true)
    (hy : ∀ h1 w, h0.le h1 → Inv B h1 M w → AllL (lk full ⟨some d, op, t, pos, af, g⟩) h1 L e fun e' => Op1 P ⟨some d, op, t, pos, af, g⟩ e' w fun u w' => u = v ∧ Inv B h1 M w') (h : OpsF P full B M h0 L rest (upd e d v) K) :
    OpsF P full B M h0 L (⟨some d, op, t, pos, af, g⟩ :: rest) e K := by
  refine .inr ⟨hr, .inl ⟨v, fun h1 w hl I => ?_, h⟩⟩
  have key : ∀ (L : List (Nat × Sp)) (e : Env) (k k' : Env → Prop), (∀ x, k x → k' x) → AllL (lk full ⟨some d, op, t, pos, af, g⟩) h1 L e k → AllL (lk full ⟨some d, op, t, pos, af, g⟩) h1 L e k' := by
    intro L
    induction L with
    | nil => intro e k k' hk a; exact hk _ a
    | cons p L ih => intro e k k' hk a; exact ih e _ _ (fun x hx u hu => hk _ (hx u hu)) a
  exact key L e _ _ (fun x hx => hx.mono fun u w' ⟨a, b⟩ => ⟨h1, Heap.le.refl _, b, a⟩) (hy h1 w hl I)
theorem OpsF.x_ {d : Nat} {g : Option (Nat × Bool)} {Φ : Sp} (hm : MonoS Φ) (hr : ∀ us, runs full (ovr e L us) ⟨some d, op, t, pos, af, g⟩ = true)
    (hy : ∀ h1 w, h0.le h1 → Inv B h1 M w → AllL (lk full ⟨some d, op, t, pos, af, g⟩) h1 L e fun e' => Op1 P ⟨some d, op, t, pos, af, g⟩ e' w fun u w' => ∃ h2, h1.le h2 ∧ Inv B h2 M w' ∧ Φ u h2) (h : OpsF P full B M h0 ((d, Φ) :: L) rest e K) :
    OpsF P full B M h0 L (⟨some d, op, t, pos, af, g⟩ :: rest) e K :=
  .inr ⟨hr, .inr ⟨d, Φ, rfl, hm, hy, h⟩⟩
theorem ovr_us {e us us' : Env} {d : Nat} (h : ∀ j, j ≠ d → us j = us' j) : ∀ (L : List (Nat × Sp)) {i : Nat}, i ≠ d → ovr e L us i = ovr e L us' i
  | [], _, _ => rfl
  | p :: L, i, hi => by
    simp only [ovr]
    by_cases hp : i = p.1
    · subst hp; rw [upd_eq, upd_eq, h _ hi]
    · rw [upd_ne _ _ hp, upd_ne _ _ hp, ovr_us h L hi]
theorem AllL.all {c : Nat → Bool} {h : Heap} : ∀ {L : List (Nat × Sp)} {e : Env} {k : Env → Prop}, (∀ us, k (ovr e L us)) → AllL c h L e k
  | [], _, _, hk => hk fun _ => undef
  | p :: L, e, k, hk => AllL.all (L := L) fun us u _ => by
    have h1 := hk (upd us p.1 u)
    have h2 : upd (ovr e L (upd us p.1 u)) p.1 u = upd (ovr e L us) p.1 u := by
      funext i
      by_cases hi : i = p.1
      · subst hi; rw [upd_eq, upd_eq]
      · rw [upd_ne _ _ hi, upd_ne _ _ hi]; exact ovr_us (fun j hj => upd_ne _ _ hj) L hi
    simp only [ovr, upd_eq, h2] at h1
    exact h1
theorem OpsF.y_ {d : Nat} {g : Option (Nat × Bool)} {v : Value} (hr : ∀ us, runs full (ovr e L us) ⟨some d, op, t, pos, af, g⟩ = true)
    (hy : ∀ h1 w us, h0.le h1 → Inv B h1 M w → Y P ⟨some d, op, t, pos, af, g⟩ (ovr e L us) w v) (h : OpsF P full B M h0 L rest (upd e d v) K) :
    OpsF P full B M h0 L (⟨some d, op, t, pos, af, g⟩ :: rest) e K :=
  OpsF.d_ hr (fun h1 w hl I => AllL.all fun us => by unfold Op1; rw [hy h1 w us hl I]; exact ⟨rfl, I⟩) h
theorem OpsF.c_ {d : Nat} {g : Option (Nat × Bool)} {v : Value} (hr : ∀ us, runs full (ovr e L us) ⟨some d, op, t, pos, af, g⟩ = true)
    (hy : ∀ h1 w us, h0.le h1 → Inv B h1 M w → Op1 P ⟨some d, op, t, pos, af, g⟩ (ovr e L us) w fun u w' => u = v ∧ Inv B h1 M w') (h : OpsF P full B M h0 L rest (upd e d v) K) :
    OpsF P full B M h0 L (⟨some d, op, t, pos, af, g⟩ :: rest) e K :=
  OpsF.d_ hr (fun h1 w hl I => AllL.all fun us => hy h1 w us hl I) h
theorem runs_none (us : Env) {d : Option Nat} : runs full (ovr e L us) ⟨d, op, t, pos, af, none⟩ = true := rfl
theorem runs_g {us : Env} {d : Option Nat} {j : Nat} {b : Bool} (hg : yieldE full (ovr e L us) j = some b) : runs full (ovr e L us) ⟨d, op, t, pos, af, some (j, b)⟩ = true := by simp [runs, hg]
end
section
variable {P : Program} {e : Env} {w : World} {d : Option Nat} {t : TypeId} {pos : String} {af : Array Edge} {g : Option (Nat × Bool)}
theorem Y.nest {x y : Operand} {T T' : TypeId} {xs ys : Array Value} {b : Bool} (hg : P.eqGuardType P.depth T = false) (hq : ∀ w, (Op.equalIn 10000 T (.agg xs) (.agg ys)).run P w = .ok b w) (hx : ev e x = .agg xs) (hy : ev e y = .agg ys) :
    Y P ⟨d, .binOp .neq T x y T', t, pos, af, g⟩ e w (.bool !b) := by
  simp only [Y, execOp, hx, hy, Sem.run_bind, run_eqGuard_agg w .neq T x y xs ys hg, Result.andThen_ok, run_neq_struct, hq, Sem.run_pure]
theorem part_leaf {T : TypeId} (h : ∀ w, (isAgg T).run P w = .ok false w) {cs : Array Value} {o : Nat} {v : Value} (hv : cs[o]? = some v) (w : World) : (Go.part T cs o).run P w = .ok v w := by
  simp [Go.part, h, hv]
end
end Go.TF
end
