/- Texts Base10 Base11 Base12 Base13 Base14 Base15 Base16 Base17 Base18 Base24 SpLat SpLat2 SpRule SpRule2 SpFact SpBase SpBase2 SpProg. -/
import Derived.Test.YtljkkojkfddpeaaGreatDoorU1
import Derived.RangeFuncWrites
import Derived.RangeFuncLeaves
import Derived.RangeFuncCalls
import Derived.TacticsIn
import Derived.ScopeJumps
import Derived.Laws.MakeOwn
import Derived.Laws.AppendOwn
import Derived.Laws.RangeAny
import Derived.Lib.AppendZeros
import Derived.Lib.AppendZerosOnto
import Derived.Lib.Overlaps
import Derived.Laws.IdiomStrings
section
/- Ranges over functions: a call of yield; the body of a round; what a function that holds such a range leaves behind. -/
namespace Go.TF
open Go Go.RowKit

/-! ### Operations, a call of yield among them -/
def Op1X (P : Program) (o : Oper) (e : Env) (w : World) (K : Value → World → Prop) : Prop :=
  Op1 P o e w K ∨ ∃ l f tmps assign body w', (execOp (ev e) o).run P w = .ok (.round l f tmps assign body) w' ∧ RoundIn Fence.wide 0 P l f tmps assign body w' fun | .returned v, w'' => K v w'' | _, _ => False
def OpsX (P : Program) (full : Array Oper) : List Oper → Env → World → (Env → World → Prop) → Prop
  | [], e, w, K => K e w
  | o :: rest, e, w, K => if runs full e o then Op1X P o e w (fun v w' => OpsX P full rest (updo e o.dst v) w' K) else OpsX P full rest (updo e o.dst undef) w K
def noDefer (l : List Oper) : Bool := l.all fun o => match o.op with | .defer _ => false | _ => true
theorem uponIn_of_Op1 {P : Program} {F : Fence} {o : Oper} {a : Act} {w : World} {next : Act → World → Prop} {Q : Exit → Act → World → Prop} (hfn : ∀ f, F.fn f) (hdep : F.depth = none) (hal : ∀ f args w R, Calls P f args w R → CallsIn F (0 - 1) P f args w R)
    (hnd : ∀ c, o.op ≠ .defer c) (h : Op1 P o (env a) w fun v w' => next (a.put o.dst v) w') : o.wpIn F 0 P a w next Q := by
  refine ⟨fun f _ => hfn f, ?_⟩
  rw [Oper.semAt_eq _ _ _ hnd, eval_env]
  unfold Op1 at h
  generalize (execOp (ev (env a)) o).run P w = r at *
  cases r with
  | ok n w' =>
    cases n <;> simp only at h <;> first | exact h.elim | exact h | skip
    refine ⟨(fun hd => by rw [hdep] at hd; cases hd), (hal _ _ _ _ h).mono fun e w'' he => ?_⟩
    cases e <;> first | exact he | exact he.elim
  | halt x w' => exact h.elim
theorem calls_wide {P : Program} {f : FuncId} {args : Array Value} {w : World} {R : Ending → World → Prop} (n : Nat) (h : Calls P f args w R) : CallsIn Fence.wide n P f args w R := callsIn_wide.2 h
theorem drop_cons {ops : Array Oper} {k n : Nat} (h : k + (n + 1) = ops.size) : ∃ o, ops[k]? = some o ∧ ops.toList.drop k = o :: ops.toList.drop (k + 1) := by
  have hk : k < ops.size := by omega
  exact ⟨ops[k], by simp [hk], by rw [List.drop_eq_getElem_cons (by simpa using hk)]; simp⟩
theorem OpsX.sound {P : Program} {ops : Array Oper} {Q : Exit → Act → World → Prop} {N : Nat} {D : List Deferred} (hds : dstsOk N ops.toList = true) (hnd : noDefer ops.toList = true) : ∀ (n k : Nat) (a : Act) (w : World) (K : Env → World → Prop),
    k + n = ops.size → a.tmps.size = N → a.defers = D → (∀ a' w', a'.tmps.size = N → a'.defers = D → K (env a') w' → Q .normal a' w') → OpsX P ops (ops.toList.drop k) (env a) w K → wpOpsIn Fence.wide 0 P ops Q (List.range' k n) a w
  | 0, k, a, w, K, hk, hs, hd, hK, h => by
    rw [List.drop_eq_nil_of_le (by simp; omega)] at h
    exact hK _ _ hs hd h
  | n + 1, k, a, w, K, hk, hs, hd, hK, h => by
    obtain ⟨o, ho, hdr⟩ := drop_cons hk
    have hmem : o ∈ ops.toList := by have := Array.mem_of_getElem? ho; simpa using this
    have hdo : o.dst.all (· < N) = true := (List.all_eq_true.1 hds) o hmem
    have hno : ∀ c, o.op ≠ .defer c := fun c e => by have := (List.all_eq_true.1 hnd) o hmem; simp [e] at this
    have hput : ∀ v, env (a.put o.dst v) = updo (env a) o.dst v := fun v => env_puto a o.dst v (by rw [hs]; exact hdo)
    rw [hdr] at h
    simp only [List.range'_succ, wpOpsIn, ho, wanted_env]
    simp only [OpsX] at h
    split
    · rename_i hr
      rw [if_pos hr] at h
      have step : ∀ v w', OpsX P ops (ops.toList.drop (k + 1)) (updo (env a) o.dst v) w' K → wpOpsIn Fence.wide 0 P ops Q (List.range' (k + 1) n) (a.put o.dst v) w' := fun v w' hh =>
        OpsX.sound hds hnd n (k + 1) _ _ K (by omega) (by rw [size_put, hs]) (by rw [defers_put, hd]) hK (by rw [hput]; exact hh)
      rcases h with h | ⟨l, f, tmps, assign, body, w', hrun, hround⟩
      · exact uponIn_of_Op1 (fun _ => trivial) rfl (fun _ _ _ _ h => calls_wide _ h) hno (h.mono step)
      · refine ⟨fun _ _ => trivial, ?_⟩
        rw [Oper.semAt_eq _ _ _ hno, eval_env, hrun]
        refine ⟨(fun hd => by cases hd), hround.mono fun e w'' he => ?_⟩
        cases e <;> first | exact step _ _ he | exact he.elim
    · rename_i hr
      rw [if_neg hr] at h
      exact ⟨fun _ _ => trivial, OpsX.sound hds hnd n (k + 1) _ _ K (by omega) (by rw [size_put, hs]) (by rw [defers_put, hd]) hK (by rw [hput]; exact h)⟩
theorem WP.regionX {P : Program} {N : Nat} {D : List Deferred} {e : Env} {w : World} {Q : Exit → Env → World → Prop} {id : Nat} {ops : Array Oper} (hnd : noDefer ops.toList = true)
    (h : OpsX P ops ops.toList e w (fun e' w' => Q .normal e' w')) : WP P N D (.region id ops false) e w Q := by
  intro hs a h1 h2 h3
  subst h3
  refine (wpIn_wide (n := 0)).1 (wpIn_region ?_)
  rw [List.range_eq_range']
  exact OpsX.sound hs hnd _ 0 a w _ (by omega) h1 h2 (fun _ _ g1 g2 g3 => ⟨g1, g2, g3⟩) h
section
variable {P : Program} {full : Array Oper} {rest : List Oper} {e : Env} {w : World} {K : Env → World → Prop}
theorem OpsX.nil (h : K e w) : OpsX P full [] e w K := h
theorem OpsX.go {d : Option Nat} {op : Op} {t : TypeId} {pos : String} {af : Array Edge} (h : Op1 P ⟨d, op, t, pos, af, none⟩ e w (fun v w' => OpsX P full rest (updo e d v) w' K)) :
    OpsX P full (⟨d, op, t, pos, af, none⟩ :: rest) e w K := by simp only [OpsX, runs, if_true]; exact .inl h
theorem OpsX.y {d : Nat} {op : Op} {t : TypeId} {pos : String} {af : Array Edge} {v : Value} (hy : Y P ⟨some d, op, t, pos, af, none⟩ e w v) (h : OpsX P full rest (upd e d v) w K) :
    OpsX P full (⟨some d, op, t, pos, af, none⟩ :: rest) e w K := OpsX.go (by unfold Op1; rw [hy]; exact h)
/-- A call of yield. -/
theorem OpsX.yield {d : Option Nat} {x : Operand} {l : Nat} {args : Array Operand} {ts : Array TypeId} {vs : List Value} {t : TypeId} {pos : String} {af : Array Edge} {R : Ending → World → Prop} (hx : ev e x = .func (.yield l) #[] #[]) (ha : args.toList.map (ev e) = vs)
    (hy : YieldAt Fence.wide 0 P l vs.toArray w R) (k : ∀ ed w', R ed w' → ∃ v, ed = .returned v ∧ OpsX P full rest (updo e d v) w' K) :
    OpsX P full (⟨d, .call { callee := .value x, args := args, argTypes := ts }, t, pos, af, none⟩ :: rest) e w K := by
  have ha' : args.map (ev e) = vs.toArray := by rw [← ha]; apply Array.ext'; simp
  obtain ⟨fn, tmps, assign, body, hrun, hR⟩ := hy
  simp only [OpsX, runs, if_true]
  refine .inr ⟨l, fn, tmps, assign, body, w, ?_, hR.mono fun ed w' hh => ?_⟩
  · simp only [execOp, resolve, hx, Deferred.ofValue]
    simp [invoke, ha', hrun]
  · obtain ⟨v, rfl, hk⟩ := k ed w' hh
    exact hk
end

/-! ### The body of a round -/
def WPI (P : Program) (N : Nat) (l : Nat) (c : Code) (e : Env) (w : World) (Q : Exit → Env → World → Prop) : Prop :=
  slotsOk N c = true → ∀ a : Act, a.tmps.size = N → a.defers = [] → env a = e → c.wpIn (Fence.wide.inRound l) 0 P (fun x a' w' => a'.tmps.size = N ∧ a'.defers = [] ∧ Q x (env a') w') a w
section
variable {P : Program} {N l : Nat} {e : Env} {w : World} {Q : Exit → Env → World → Prop}
theorem WPI.mono {c : Code} {Q' : Exit → Env → World → Prop} (h : WPI P N l c e w Q) (hq : ∀ x e w, Q x e w → Q' x e w) : WPI P N l c e w Q' :=
  fun hs a h1 h2 h3 => wpIn_mono (h hs a h1 h2 h3) fun _ _ _ ⟨g1, g2, g3⟩ => ⟨g1, g2, hq _ _ _ g3⟩
theorem WPI.seq {x y : Code} (h : WPI P N l x e w (thenE (fun e' w' => WPI P N l y e' w' Q) Q)) : WPI P N l (.seq x y) e w Q := by
  intro hs a h1 h2 h3
  simp only [slotsOk, Bool.and_eq_true] at hs
  refine wpIn_seq (wpIn_mono (h hs.1 a h1 h2 h3) ?_)
  rintro x a' w' ⟨g1, g2, g3⟩
  cases x <;> simp only [thenE] at g3 <;> first | exact ⟨g1, g2, g3⟩ | exact g3 hs.2 a' g1 g2 rfl
theorem WPI.skip (h : Q .normal e w) : WPI P N l .skip e w Q := fun _ _ h1 h2 h3 => wpIn_skip ⟨h1, h2, h3 ▸ h⟩
theorem WPI.ret (h : Q .ret e w) : WPI P N l .ret e w Q := fun _ _ h1 h2 h3 => wpIn_ret ⟨h1, h2, h3 ▸ h⟩
theorem WPI.exit {id : Nat} (h : Q (.exit id) e w) : WPI P N l (.exit id) e w Q := fun _ _ h1 h2 h3 => wpIn_exit ⟨h1, h2, h3 ▸ h⟩
theorem WPI.goto {t : Nat} (h : Q (.goto t) e w) : WPI P N l (.goto t) e w Q := fun _ _ h1 h2 h3 => wpIn_goto ⟨h1, h2, h3 ▸ h⟩
theorem WPI.block {id : Nat} {c : Code} (h : WPI P N l c e w (blockE id Q)) : WPI P N l (.block id c) e w Q := by
  intro hs a h1 h2 h3
  refine wpIn_block (wpIn_mono (h hs a h1 h2 h3) ?_)
  rintro x a' w' ⟨g1, g2, g3⟩
  cases x <;> simp only [blockE] at g3 <;> simp only [Exit.inBlock] <;> first | exact ⟨g1, g2, g3⟩ | (split at g3 <;> rename_i hi <;> simp only [hi, if_true, if_false] <;> exact ⟨g1, g2, g3⟩)
theorem WPI.cond {c : Operand} {x y : Code} {b : Bool} (hc : ev e c = .bool b) (ht : b = true → WPI P N l x e w Q) (hf : b = false → WPI P N l y e w Q) : WPI P N l (.cond c x y) e w Q := by
  intro hs a h1 h2 h3
  simp only [slotsOk, Bool.and_eq_true] at hs
  have he : a.eval c = .bool b := by rw [eval_env, h3]; exact hc
  exact wpIn_cond_split he (fun t => ht t hs.1 a h1 h2 h3) (fun t => hf t hs.2 a h1 h2 h3)
theorem WPI.cond_dec {c : Operand} {x y : Code} {p : Prop} [Decidable p] (hc : ev e c = .bool (decide p)) (ht : p → WPI P N l x e w Q) (hf : ¬ p → WPI P N l y e w Q) : WPI P N l (.cond c x y) e w Q :=
  WPI.cond hc (fun h => ht (of_decide_eq_true h)) (fun h => hf (of_decide_eq_false h))
theorem WPI.cond_decT {c : Operand} {x y : Code} {p : Prop} [Decidable p] (hc : ev e c = .bool (decide p)) (hp : p) (ht : WPI P N l x e w Q) : WPI P N l (.cond c x y) e w Q :=
  WPI.cond_dec hc (fun _ => ht) (fun h => (h hp).elim)
theorem WPI.cond_t {c : Operand} {x y : Code} (hc : ev e c = .bool true) (ht : WPI P N l x e w Q) : WPI P N l (.cond c x y) e w Q :=
  WPI.cond hc (fun _ => ht) (fun h => by cases h)
theorem WPI.cond_f {c : Operand} {x y : Code} (hc : ev e c = .bool false) (hf : WPI P N l y e w Q) : WPI P N l (.cond c x y) e w Q :=
  WPI.cond hc (fun h => by cases h) (fun _ => hf)
theorem WPI.region {id : Nat} {ops : Array Oper} (hnd : noDefer ops.toList = true) (h : Ops P ops ops.toList e w (fun e' w' => Q .normal e' w')) : WPI P N l (.region id ops false) e w Q := by
  intro hs a h1 h2 h3
  subst h3
  refine wpIn_region ?_
  rw [List.range_eq_range']
  have key : ∀ (n k : Nat) (a : Act) (w : World), k + n = ops.size → a.tmps.size = N → a.defers = [] → Ops P ops (ops.toList.drop k) (env a) w (fun e' w' => Q .normal e' w') →
      wpOpsIn (Fence.wide.inRound l) 0 P ops (fun x a' w' => a'.tmps.size = N ∧ a'.defers = [] ∧ Q x (env a') w') (List.range' k n) a w := by
    intro n
    induction n with
    | zero =>
      intro k a w hk hs1 hd h
      rw [List.drop_eq_nil_of_le (by simp; omega)] at h
      exact ⟨hs1, hd, h⟩
    | succ n ih =>
      intro k a w hk hs1 hd h
      obtain ⟨o, ho, hdr⟩ := drop_cons hk
      have hmem : o ∈ ops.toList := by have := Array.mem_of_getElem? ho; simpa using this
      have hdo : o.dst.all (· < N) = true := (List.all_eq_true.1 hs) o hmem
      have hno : ∀ c, o.op ≠ .defer c := fun c e => by have := (List.all_eq_true.1 hnd) o hmem; simp [e] at this
      have hput : ∀ v, env (a.put o.dst v) = updo (env a) o.dst v := fun v => env_puto a o.dst v (by rw [hs1]; exact hdo)
      rw [hdr] at h
      simp only [List.range'_succ, wpOpsIn, ho, wanted_env]
      simp only [Ops] at h
      have step : ∀ v w', Ops P ops (ops.toList.drop (k + 1)) (updo (env a) o.dst v) w' (fun e' w' => Q .normal e' w') → wpOpsIn (Fence.wide.inRound l) 0 P ops (fun x a' w' => a'.tmps.size = N ∧ a'.defers = [] ∧ Q x (env a') w') (List.range' (k + 1) n) (a.put o.dst v) w' := fun v w' hh =>
        ih (k + 1) _ _ (by omega) (by rw [size_put, hs1]) (by rw [defers_put, hd]) (by rw [hput]; exact hh)
      split
      · rename_i hr
        rw [if_pos hr] at h
        exact uponIn_of_Op1 (fun _ => trivial) rfl (fun _ _ _ _ h => (calls_wide _ h).inRound l) hno (h.mono step)
      · rename_i hr
        rw [if_neg hr] at h
        exact ⟨fun _ _ => trivial, step _ _ h⟩
  exact key _ 0 a w (by omega) h1 h2 h
end

/-! ### Code whose activation gathers marks -/
def WPD (P : Program) (N : Nat) (D : List Deferred) (c : Code) (e : Env) (w : World) (Q : Exit → Env → World → List Deferred → Prop) : Prop :=
  slotsOk N c = true → ∀ a : Act, a.tmps.size = N → a.defers = D → env a = e → c.wp P (fun x a' w' => a'.tmps.size = N ∧ Q x (env a') w' a'.defers) a w
def thenD (next : Env → World → List Deferred → Prop) (Q : Exit → Env → World → List Deferred → Prop) : Exit → Env → World → List Deferred → Prop
  | .normal, e, w, D => next e w D
  | x, e, w, D => Q x e w D
def blockD (id : Nat) (Q : Exit → Env → World → List Deferred → Prop) : Exit → Env → World → List Deferred → Prop
  | .exit id', e, w, D => if id' = id then Q .normal e w D else Q (.exit id') e w D
  | x, e, w, D => Q x e w D
section
variable {P : Program} {N : Nat} {D : List Deferred} {e : Env} {w : World} {Q : Exit → Env → World → List Deferred → Prop}
theorem WPD.mono {c : Code} {Q' : Exit → Env → World → List Deferred → Prop} (h : WPD P N D c e w Q) (hq : ∀ x e w D, Q x e w D → Q' x e w D) : WPD P N D c e w Q' :=
  fun hs a h1 h2 h3 => wp_mono (h hs a h1 h2 h3) fun _ _ _ ⟨g1, g3⟩ => ⟨g1, hq _ _ _ _ g3⟩
theorem WPD.of {c : Code} (h : WP P N D c e w (fun x e' w' => Q x e' w' D)) : WPD P N D c e w Q :=
  fun hs a h1 h2 h3 => wp_mono (h hs a h1 h2 h3) fun _ _ _ ⟨g1, g2, g3⟩ => ⟨g1, g2 ▸ g3⟩
theorem WPD.seq {x y : Code} (h : WPD P N D x e w (thenD (fun e' w' D' => WPD P N D' y e' w' Q) Q)) : WPD P N D (.seq x y) e w Q := by
  intro hs a h1 h2 h3
  simp only [slotsOk, Bool.and_eq_true] at hs
  refine wp_seq (wp_mono (h hs.1 a h1 h2 h3) ?_)
  rintro x a' w' ⟨g1, g3⟩
  cases x <;> simp only [thenD] at g3 <;> first | exact ⟨g1, g3⟩ | exact g3 hs.2 a' g1 rfl rfl
theorem WPD.block {id : Nat} {c : Code} (h : WPD P N D c e w (blockD id Q)) : WPD P N D (.block id c) e w Q := by
  intro hs a h1 h2 h3
  refine wp_block (wp_mono (h hs a h1 h2 h3) ?_)
  rintro x a' w' ⟨g1, g3⟩
  cases x <;> simp only [blockD] at g3 <;> simp only [Exit.inBlock] <;> first | exact ⟨g1, g3⟩ | (split at g3 <;> rename_i hi <;> simp only [hi, if_true, if_false] <;> exact ⟨g1, g3⟩)
theorem WPD.cond {c : Operand} {x y : Code} {b : Bool} (hc : ev e c = .bool b) (ht : b = true → WPD P N D x e w Q) (hf : b = false → WPD P N D y e w Q) : WPD P N D (.cond c x y) e w Q := by
  intro hs a h1 h2 h3
  simp only [slotsOk, Bool.and_eq_true] at hs
  have he : a.eval c = .bool b := by rw [eval_env, h3]; exact hc
  exact wp_cond_split he (fun t => ht t hs.1 a h1 h2 h3) (fun t => hf t hs.2 a h1 h2 h3)
theorem WPD.cond_dec {c : Operand} {x y : Code} {p : Prop} [Decidable p] (hc : ev e c = .bool (decide p)) (ht : p → WPD P N D x e w Q) (hf : ¬ p → WPD P N D y e w Q) : WPD P N D (.cond c x y) e w Q :=
  WPD.cond hc (fun h => ht (of_decide_eq_true h)) (fun h => hf (of_decide_eq_false h))
theorem WPD.cond_t {c : Operand} {x y : Code} (hc : ev e c = .bool true) (ht : WPD P N D x e w Q) : WPD P N D (.cond c x y) e w Q :=
  WPD.cond hc (fun _ => ht) (fun h => by cases h)
theorem WPD.cond_f {c : Operand} {x y : Code} (hc : ev e c = .bool false) (hf : WPD P N D y e w Q) : WPD P N D (.cond c x y) e w Q :=
  WPD.cond hc (fun h => by cases h) (fun _ => hf)
theorem WPD.skip (h : Q .normal e w D) : WPD P N D .skip e w Q := fun _ _ h1 h2 h3 => wp_skip ⟨h1, h2 ▸ h3 ▸ h⟩
theorem WPD.label {l : Nat} (h : Q .normal e w D) : WPD P N D (.label l) e w Q := fun _ _ h1 h2 h3 => wp_label ⟨h1, h2 ▸ h3 ▸ h⟩
theorem WPD.ret (h : Q .ret e w D) : WPD P N D .ret e w Q := fun _ _ h1 h2 h3 => wp_ret ⟨h1, h2 ▸ h3 ▸ h⟩
theorem WPD.exit {id : Nat} (h : Q (.exit id) e w D) : WPD P N D (.exit id) e w Q := fun _ _ h1 h2 h3 => wp_exit ⟨h1, h2 ▸ h3 ▸ h⟩
theorem WPD.goto {l : Nat} (h : Q (.goto l) e w D) : WPD P N D (.goto l) e w Q := fun _ _ h1 h2 h3 => wp_goto ⟨h1, h2 ▸ h3 ▸ h⟩
theorem WPD.region {id : Nat} {ops : Array Oper} (h : Ops P ops ops.toList e w (fun e' w' => Q .normal e' w' D)) : WPD P N D (.region id ops false) e w Q := WPD.of (WP.region h)
/-- A loop; s tells all. -/
theorem WPD.loop {σ : Type} (kv : σ → List (Nat × Value)) (Df : σ → List Deferred) (J : σ → World → Prop) (μ : σ → Nat) {c : Code} (h0 : ∃ s, Has e (kv s) ∧ D = Df s ∧ J s w)
    (round : ∀ s e w, J s w → WPD P N (Df s) c (E e (kv s)) w (thenD (fun e' w' D' => ∃ s', (Has e' (kv s') ∧ D' = Df s' ∧ J s' w') ∧ μ s' < μ s) Q)) : WPD P N D (.loop c) e w Q := by
  intro hs a h1 h2 h3
  obtain ⟨s0, hh, hd, hj⟩ := h0
  intro b k cs
  have key : ∀ n s a w, μ s = n → a.tmps.size = N → a.defers = Df s → Has (env a) (kv s) → J s w →
      ∃ x a' w', (a'.tmps.size = N ∧ Q x (env a') w' a'.defers) ∧ Arrives P (lone (b.at a (.code c :: .inLoop c :: k)) cs w) b k cs x a' w' := by
    intro n
    induction n using Nat.strongRecOn with
    | _ n ih =>
      intro s a w hn g1 g2 gh hJ
      have hr := round s (env a) w hJ hs a g1 g2 (E_self gh).symm
      obtain ⟨x, a₁, w₁, ⟨q1, q3⟩, harr⟩ := hr b (.inLoop c :: k) cs
      cases x with
      | normal =>
        obtain ⟨s', ⟨k1, k2, k3⟩, hlt⟩ := q3
        obtain ⟨e₂, a₂, w₂, hq₂, harr₂⟩ := ih (μ s') (hn ▸ hlt) s' a₁ w₁ rfl q1 k2 k1 k3
        exact ⟨e₂, a₂, w₂, hq₂, .of_steps (Steps.trans harr (.one step_inLoop)) harr₂⟩
      | exit id => exact ⟨_, a₁, w₁, ⟨q1, q3⟩, .pass (x := .inLoop c) rfl (fun _ _ => .inl (by simp)) harr⟩
      | goto l => exact ⟨_, a₁, w₁, ⟨q1, q3⟩, .pass (x := .inLoop c) rfl (fun _ _ => .inl (by simp)) harr⟩
      | ret => exact ⟨_, a₁, w₁, ⟨q1, q3⟩, .pass (x := .inLoop c) rfl (fun _ _ => .inl (by simp)) harr⟩
      | panic ch => exact ⟨_, a₁, w₁, ⟨q1, q3⟩, .pass (x := .inLoop c) rfl (fun _ _ => .inl (by simp)) harr⟩
      | outgrown => exact ⟨_, a₁, w₁, ⟨q1, q3⟩, .pass (x := .inLoop c) rfl (fun _ _ => .inl (by simp)) harr⟩
  obtain ⟨x, a', w', hq, harr⟩ := key _ s0 a w rfl h1 (h2.trans hd) (h3 ▸ hh) hj
  exact ⟨x, a', w', hq, .of_steps (.one step_loop) harr⟩
/-- A scope with jumps back to one label. -/
def jumpD (l : Nat) (J : Env → World → List Deferred → Prop) (Q : Exit → Env → World → List Deferred → Prop) : Exit → Env → World → List Deferred → Prop
  | .goto l', e, w, D => l' = l ∧ J e w D
  | x, e, w, D => Q x e w D
theorem WPD.scope {σ : Type} {c rest : Code} (l : Nat) (kv : σ → List (Nat × Value)) (Df : σ → List Deferred) (J : σ → World → Prop) (μ : σ → Nat) (hf : findLabel c l = some rest) (hsr : slotsOk N rest = true)
    (first : WPD P N D c e w (jumpD l (fun e' w' D' => ∃ s, Has e' (kv s) ∧ D' = Df s ∧ J s w') Q))
    (pass : ∀ s e w, J s w → WPD P N (Df s) rest (E e (kv s)) w (jumpD l (fun e' w' D' => ∃ s', (Has e' (kv s') ∧ D' = Df s' ∧ J s' w') ∧ μ s' < μ s) Q)) : WPD P N D (.scope c) e w Q := by
  intro hs a h1 h2 h3
  intro b k cs
  have hg : gotoIn l (.inScope c :: k) = some (.code rest :: .inScope c :: k) := by simp [gotoIn, hf]
  have key : ∀ n s a w, μ s = n → a.tmps.size = N → a.defers = Df s → Has (env a) (kv s) → J s w →
      ∃ x a' w', (a'.tmps.size = N ∧ Q x (env a') w' a'.defers) ∧ Arrives P (lone (b.at a (.code rest :: .inScope c :: k)) cs w) b k cs x a' w' := by
    intro n
    induction n using Nat.strongRecOn with
    | _ n ih =>
      intro s a w hn g1 g2 gh hJ
      obtain ⟨x, a₁, w₁, ⟨q1, q3⟩, harr⟩ := pass s (env a) w hJ hsr a g1 g2 (E_self gh).symm b (.inScope c :: k) cs
      cases x with
      | normal => exact ⟨.normal, a₁, w₁, ⟨q1, q3⟩, Steps.trans harr (.one step_inScope)⟩
      | exit id => exact ⟨.exit id, a₁, w₁, ⟨q1, q3⟩, fun k' hk => harr k' (by simp [exitTo, hk])⟩
      | goto l' =>
        obtain ⟨rfl, s', ⟨k1, k2, k3⟩, hlt⟩ := q3
        obtain ⟨e₂, a₂, w₂, hq₂, harr₂⟩ := ih (μ s') (hn ▸ hlt) s' a₁ w₁ rfl q1 k2 k1 k3
        exact ⟨e₂, a₂, w₂, hq₂, .of_steps (harr _ hg) harr₂⟩
      | ret => exact ⟨_, a₁, w₁, ⟨q1, q3⟩, harr⟩
      | panic ch => exact ⟨_, a₁, w₁, ⟨q1, q3⟩, harr⟩
      | outgrown => exact ⟨_, a₁, w₁, ⟨q1, q3⟩, harr⟩
  obtain ⟨x, a₁, w₁, ⟨q1, q3⟩, harr⟩ := first hs a h1 h2 h3 b (.inScope c :: k) cs
  cases x with
  | normal => exact ⟨.normal, a₁, w₁, ⟨q1, q3⟩, .head step_scope (Steps.trans harr (.one step_inScope))⟩
  | exit id => exact ⟨.exit id, a₁, w₁, ⟨q1, q3⟩, fun k' hk => .head step_scope (harr k' (by simp [exitTo, hk]))⟩
  | goto l' =>
    obtain ⟨rfl, s', k1, k2, k3⟩ := q3
    obtain ⟨e₂, a₂, w₂, hq₂, harr₂⟩ := key _ s' a₁ w₁ rfl q1 k2 k1 k3
    exact ⟨e₂, a₂, w₂, hq₂, .of_steps (.head step_scope (harr _ hg)) harr₂⟩
  | ret => exact ⟨_, a₁, w₁, ⟨q1, q3⟩, .of_steps (.one step_scope) harr⟩
  | panic ch => exact ⟨_, a₁, w₁, ⟨q1, q3⟩, .of_steps (.one step_scope) harr⟩
  | outgrown => exact ⟨_, a₁, w₁, ⟨q1, q3⟩, .of_steps (.one step_scope) harr⟩
end

section
variable {P : Program} {N : Nat} {D : List Deferred} {e : Env} {w : World} {Q : Exit → Env → World → List Deferred → Prop}
theorem WPD.scopeL {σ : Type} {a X : Code} (l : Nat) (kv : σ → List (Nat × Value)) (Df : σ → List Deferred) (J : σ → World → Prop) (μ : σ → Nat) (hf : findLabel a l = none) (hsX : slotsOk N X = true)
    (first : WPD P N D a e w (thenD (fun e' w' D' => ∃ s, Has e' (kv s) ∧ D' = Df s ∧ J s w') (jumpD l (fun _ _ _ => False) Q)))
    (pass : ∀ s e w, J s w → WPD P N (Df s) X (E e (kv s)) w (jumpD l (fun e' w' D' => ∃ s', (Has e' (kv s') ∧ D' = Df s' ∧ J s' w') ∧ μ s' < μ s) Q)) : WPD P N D (.scope (.seq a (.seq (.label l) X))) e w Q := by
  refine WPD.scope (rest := .seq .skip X) l kv Df J μ (by simp [findLabel, hf]) (by simpa [slotsOk] using hsX) ?_ (fun s e w hj => WPD.seq (WPD.skip (pass s e w hj)))
  refine WPD.seq (first.mono ?_)
  intro x e' w' D' h
  cases x <;> simp only [thenD, jumpD] at h ⊢ <;> first | exact h | exact h.2.elim | skip
  obtain ⟨s, h1, rfl, h3⟩ := h
  refine WPD.seq (WPD.label ?_)
  have := pass s e' w' h3
  rw [E_self h1] at this
  refine this.mono ?_
  intro x e2 w2 D2 h
  cases x <;> simp only [jumpD] at h ⊢ <;> first | exact h | skip
  obtain ⟨e1, s', h5, _⟩ := h
  exact ⟨e1, s', h5⟩
end
/-! ### Marks -/
def mark (D : Nat) : Deferred := { target := .collected D, args := #[] }
def markSA (D : Nat) : SA where
  fp := [D]
  P := fun w => w.heap[D]? = some (.deferred (some []))
  loc := fun _ _ h hp => (h D (by simp)).trans hp
theorem run_takeMark {P : Program} {w : World} {D : Nat} (h : w.heap[D]? = some (.deferred (some []))) : (Instr.takeDeferred D).run P w = .ok [] (w.putObj D (.deferred none)) := run_takeDeferred h
theorem Inv.shut {B : Base} {h : Heap} {M : List SA} {w : World} {D : Nat} (I : Inv B h (markSA D :: M) w) : Inv B h M (w.putObj D (.deferred none)) := by
  have hD : w.heap[D]? = some (.deferred (some [])) := (I.own _ (List.mem_cons_self ..)).1
  have J := I.step (A' := ⟨[], fun _ => True, fun _ _ _ h => h⟩) (w' := w.putObj D (.deferred none)) rfl rfl rfl (by simp [World.putObj]) (fun b _ hb => World.putObj_heap_other (fun e => hb (by simp [markSA, e]))) trivial (fun b hb => by cases hb)
  exact J.drop
theorem leave_marks {P : Program} {fn : Func} {tmps : Array Value} {R : Ending → World → Prop} {B : Base} {h : Heap} {M : List SA} : ∀ (ms : List Nat) (w : World), Inv B h (M ++ ms.map markSA) w →
    (∀ w', Inv B h M w' → ∃ v, (results fn tmps).run P w' = .ok v w' ∧ R (.returned v) w') → LeavesInM Fence.wide 0 P fn tmps R (ms.map mark) .returning w
  | [], w, I, k => by
    simp only [List.map_nil, List.append_nil] at I
    exact k w I
  | m :: ms, w, I, k => by
    have I' : Inv B h (markSA m :: (M ++ ms.map markSA)) w := I.perm (by simp only [List.map_cons]; exact List.perm_middle.symm)
    have hD : w.heap[m]? = some (.deferred (some [])) := (I'.own _ (List.mem_cons_self ..)).1
    exact ⟨by simp, .inl ⟨m, _, rfl, run_takeMark hD, leave_marks ms _ I'.shut k⟩⟩
def doneQ (P : Program) (fn : Func) (B : Base) (Post : Value → Heap → Prop) (x : Exit) (e : Env) (w : World) (D : List Deferred) : Prop :=
  (x = .ret ∨ x = .normal) ∧ ∃ (ms : List Nat) (M : List SA) (h' : Heap) (vs : List Value), D = ms.map mark ∧ Inv B h' (M ++ ms.map markSA) w ∧ (∀ w2, Inv B h' M w2 → RV P e w2 fn.results.toList vs) ∧ Post (tup vs) h'
theorem Fn.ofD {P : Program} {f : FuncId} {fn : Func} {c : Code} {N : Nat} {args : List Value} {B : Base} {Post : Value → Heap → Prop} (hf : P.funcs[f]? = some fn) (hb : fn.body = some c) (hN : fn.ntmps = N) (hs : slotsOk N c = true)
    (hl : args.length ≤ N) (h : ∀ e, WPD P N [] c (E e (argsE 0 args)) B.w (doneQ P fn B Post)) : Fn P f args B Post := by
  refine callsIn_wide.1 (callsIn_of_wp_marks (n := 0) hf hb trivial ?_)
  refine wpIn_wide.2 ?_
  subst hN
  refine wp_mono (h _ hs { tmps := args.toArray ++ Array.replicate (fn.ntmps - args.toArray.size) undef, defers := [] } (by simp; omega) rfl (E_self (has_args args 0 fun j v hv => ?_)).symm) ?_
  · have hj := (List.getElem?_eq_some_iff.1 hv).1
    have hg : args[j] = v := (List.getElem?_eq_some_iff.1 hv).2
    simp [env, Array.getD_eq_getD_getElem?, Array.getElem?_append, hj, hg]
  · rintro x a' w' ⟨_, hx, ms, M, h', vs, hd, I, hv, hp⟩
    have : LeavesInM Fence.wide 0 P fn a'.tmps (fun x w' => ∃ v h', x = .returned v ∧ Ext B w' h' ∧ Post v h') a'.defers .returning w' := by
      rw [hd]
      exact leave_marks ms w' I fun w2 I2 => ⟨_, results_run rfl (hv w2 I2), _, h', rfl, I2.ext_of, hp⟩
    rcases hx with rfl | rfl <;> exact this

def callQ (P : Program) (fn : Func) (R : Ending → World → Prop) (x : Exit) (e : Env) (w : World) : Prop := (x = .ret ∨ x = .normal) ∧ ∃ vs, RV P e w fn.results.toList vs ∧ R (.returned (tup vs)) w
theorem Calls.ofWP {P : Program} {f : FuncId} {fn : Func} {c : Code} {N : Nat} {args : List Value} {w : World} {R : Ending → World → Prop} (hf : P.funcs[f]? = some fn) (hb : fn.body = some c) (hN : fn.ntmps = N) (hs : slotsOk N c = true)
    (hl : args.length ≤ N) (h : ∀ e, WP P N [] c (E e (argsE 0 args)) w (callQ P fn R)) : Calls P f args.toArray w R := by
  refine calls_of_wp hf hb ?_
  subst hN
  refine wp_mono (h _ hs { tmps := args.toArray ++ Array.replicate (fn.ntmps - args.toArray.size) undef, defers := [] } (by simp; omega) rfl (E_self (has_args args 0 fun j v hv => ?_)).symm) ?_
  · have hj := (List.getElem?_eq_some_iff.1 hv).1
    have hg : args[j] = v := (List.getElem?_eq_some_iff.1 hv).2
    simp [env, Array.getD_eq_getD_getElem?, Array.getElem?_append, hj, hg]
  · rintro x a' w' ⟨_, g2, hx, vs, hv, hr⟩
    rcases hx with rfl | rfl <;> exact ⟨g2, _, results_run rfl hv, hr⟩
theorem thenD_ret {K : Env → World → List Deferred → Prop} {Q : Exit → Env → World → List Deferred → Prop} {e : Env} {w : World} {D : List Deferred} (h : Q .ret e w D) : thenD K Q .ret e w D := h
theorem blockD_ret {id : Nat} {Q : Exit → Env → World → List Deferred → Prop} {e : Env} {w : World} {D : List Deferred} (h : Q .ret e w D) : blockD id Q .ret e w D := h
theorem rdHb {h : Heap} {b : Nat} {cs : List Value} {T : TypeId} {f : Nat × Nat} (hp : h b = some (.cells cs.toArray T f)) (o n : Nat) : RdH h b o ((cs.drop o).take n) := fun j v e => by
  rw [List.getElem?_take] at e
  split at e
  · rw [List.getElem?_drop] at e; simp [Heap.cell, hp, e]
  · cases e
/-! ### The statement -/
/-- An iterator's contract: it hands xs to yield, one behind the other, and keeps nothing of the caller's from what it was; hg: what is known for good, of the caller's and of its own. -/
def Iter {α : Type} (P : Program) (g : FuncId) (lb : List Value) (encs : α → List Value) (xs : List α) (h : Heap) : Prop :=
  ∀ (l : Nat) (J : Heap → Nat → World → Prop) (Jx : World → Prop) (hg : Heap) (W : World), h.le hg → J hg 0 W →
    (∀ hg k W, J hg k W → Base.ok ⟨W, hg⟩) →
    (∀ hg k W hg' W', J hg k W → Ext ⟨W, hg⟩ W' hg' → J hg' k W') →
    (∀ hg' k x W, hg.le hg' → xs[k]? = some x → J hg' k W → YieldAt Fence.wide 0 P l (encs x).toArray W fun ed W' => (ed = .returned (.bool true) ∧ ∃ h2, hg'.le h2 ∧ J h2 (k + 1) W') ∨ (ed = .returned (.bool false) ∧ Jx W')) →
    Calls P g (#[.func (.yield l) #[] #[]] ++ lb.toArray) W fun ed W' => (∃ v, ed = .returned v) ∧ ((∃ hg', hg.le hg' ∧ J hg' xs.length W') ∨ Jx W')
theorem Iter.le {α : Type} {P : Program} {g : FuncId} {lb : List Value} {encs : α → List Value} {xs : List α} {h h' : Heap} (it : Iter P g lb encs xs h) (hl : h.le h') : Iter P g lb encs xs h' :=
  fun l J Jx hg W h1 => it l J Jx hg W (hl.trans h1)

inductive Jmp where
  | ret
  | exit (id : Nat)
  | goto (t : Nat)
def Jmp.code : Jmp → Code
  | .ret => .ret
  | .exit id => .exit id
  | .goto t => .goto t
def Jmp.ex : Jmp → Exit
  | .ret => .ret
  | .exit id => .exit id
  | .goto t => .goto t
def loopSA (l : Nat) (r : Loop) : SA where
  fp := [l]
  P := fun w => w.heap[l]? = some (.loop r)
  loc := fun _ _ h hp => (h l (by simp)).trans hp
theorem Inv.setLoop {B : Base} {h : Heap} {X Y : List SA} {w : World} {l : Nat} {r : Loop} (r' : Loop) (I : Inv B h (X ++ loopSA l r :: Y) w) : Inv B h (X ++ loopSA l r' :: Y) (w.putObj l (.loop r')) := by
  have I1 : Inv B h (loopSA l r :: (X ++ Y)) w := I.perm List.perm_middle.symm
  have hl : w.heap[l]? = some (.loop r) := (I1.own _ (List.mem_cons_self ..)).1
  have hlt := (Array.getElem?_eq_some_iff.1 hl).1
  have J := I1.step (A' := loopSA l r') (w' := w.putObj l (.loop r')) rfl rfl rfl (by simp [World.putObj]) (fun b _ hb => World.putObj_heap_other (fun e => hb (by simp [loopSA, e]))) (World.putObj_heap_same hlt)
    (fun b hb => ⟨.inl (by simpa [loopSA] using hb), by simp [loopSA] at hb; subst hb; simpa [World.putObj] using hlt⟩)
  exact J.perm List.perm_middle
theorem Inv.getLoop {B : Base} {h : Heap} {X Y : List SA} {w : World} {l : Nat} {r : Loop} (I : Inv B h (X ++ loopSA l r :: Y) w) : w.heap[l]? = some (.loop r) := (I.own (loopSA l r) (by simp)).1
theorem Inv.outLoop {B : Base} {h : Heap} {X Y : List SA} {w : World} {l : Nat} {r : Loop} (I : Inv B h (X ++ loopSA l r :: Y) w) : Inv B h (X ++ Y) w := I.weak ((List.sublist_cons_self _ _).append_left X)
/-- The round's slots: the activation's, with what yield was handed. -/
def argE (e : Env) : List (Nat × Value) → Env
  | [] => e
  | p :: r => argE (upd e p.1 p.2) r
theorem env_args {N : Nat} : ∀ (l : List (Nat × Value)) (t : Array Value), t.size = N → (∀ p ∈ l, p.1 < N) → env { tmps := l.foldl (fun t p => t.setIfInBounds p.1 p.2) t, defers := [] } = argE (env { tmps := t, defers := [] }) l ∧ (l.foldl (fun t p => t.setIfInBounds p.1 p.2) t).size = N
  | [], t, hs, _ => ⟨rfl, hs⟩
  | p :: l, t, hs, hp => by
    have ih := env_args l (t.setIfInBounds p.1 p.2) (by simpa using hs) (fun q hq => hp q (List.mem_cons_of_mem _ hq))
    have h1 : env { tmps := t.setIfInBounds p.1 p.2, defers := [] } = upd (env { tmps := t, defers := [] }) p.1 p.2 := env_put { tmps := t, defers := [] } p.1 p.2 (by have := hp p (List.mem_cons_self ..); simpa [hs] using this)
    simp only [List.foldl_cons, argE, ← h1]
    exact ih
/-- What a round owes at its end. -/
def roundQ (B : Base) (hg : Heap) {σ : Type} (U : σ → List SA) (T : List SA) (Jn : σ → Prop) (Jx : Jmp → σ → Prop) : Exit → Env → World → Prop
  | .normal, _, W => ∃ h2 s X, hg.le h2 ∧ Inv B h2 (X ++ (U s ++ T)) W ∧ Jn s
  | .ret, _, W => ∃ h2 s X, hg.le h2 ∧ Inv B h2 (X ++ (U s ++ T)) W ∧ Jx .ret s
  | .exit id, _, W => ∃ h2 s X, hg.le h2 ∧ Inv B h2 (X ++ (U s ++ T)) W ∧ Jx (.exit id) s
  | .goto t, _, W => ∃ h2 s X, hg.le h2 ∧ Inv B h2 (X ++ (U s ++ T)) W ∧ Jx (.goto t) s
  | _, _, _ => False
theorem WPD.rangeFunc {α σ : Type} {P : Program} {N : Nat} {e : Env} {w : World} {Q : Exit → Env → World → List Deferred → Prop} {B : Base} {h : Heap} {ms : List Nat} {g : Operand} {ps : Array Tmp} {assign body : Code} {gf : FuncId} {lb : List Value}
    {encs : α → List Value} {xs : List α} (U : σ → List SA) (Jc : Nat → σ → Prop) (Jx : Jmp → σ → Prop) (s0 : σ) (I : Inv B h (U s0 ++ ms.map markSA) w) (j0 : Jc 0 s0)
    (hg : ev e g = .func (.func gf) #[] lb.toArray) (eg : Enters P gf) (it : Iter P gf lb encs xs h) (hps : ∀ x, (encs x).length = ps.size) (hpN : ps.toList.all (· < N) = true) (hsa : slotsOk N assign = true) (hsb : slotsOk N body = true)
    (round : ∀ (l : Nat) (r : Loop) (ms' : List Nat) (hg : Heap) (k : Nat) (x : α) (s : σ) (W : World), xs[k]? = some x → h.le hg → Inv B hg (U s ++ (loopSA l r :: ms'.map markSA)) W → Jc k s →
      WPI P N l assign (argE e (ps.toList.zip (encs x))) W (thenE (fun e1 W1 => ∃ h1 X, hg.le h1 ∧ Inv B h1 (X ++ (U s ++ (loopSA l r :: ms'.map markSA))) W1 ∧
        ∀ r' W2, Inv B h1 (X ++ (U s ++ (loopSA l r' :: ms'.map markSA))) W2 → WPI P N l body e1 W2 (roundQ B h1 U (loopSA l r' :: ms'.map markSA) (Jc (k + 1)) Jx)) (fun _ _ _ => False)))
    (hdone : ∀ D h2 s W, h.le h2 → Inv B h2 (U s ++ (D :: ms).map markSA) W → Jc xs.length s → Q .normal e W ((D :: ms).map mark))
    (hstop : ∀ D c h2 s W, h.le h2 → Inv B h2 (U s ++ (D :: ms).map markSA) W → Jx c s → Q c.ex e W ((D :: ms).map mark)) :
    WPD P N (ms.map mark) (.rangeFunc g ps assign body) e w Q := by
  intro _ a h1 h2 h3
  subst h3
  refine (wpIn_wide (n := 1)).1 (wpIn_rangeFunc ?_)
  intro fn _
  obtain ⟨rec, hrec⟩ : ∃ rec : LoopState → Option Code → Loop, rec = fun st pe => { state := st, pending := pe, fn, tmps := a.tmps, params := ps, assign, body, defers := w.heap.size } := ⟨_, rfl⟩
  obtain ⟨l, hl⟩ : ∃ l, l = w.heap.size + 1 := ⟨_, rfl⟩
  obtain ⟨W1, hW1⟩ : ∃ W1, (w.alloc (.deferred (some []))).alloc (.loop (rec .ready none)) = W1 := ⟨_, rfl⟩
  have I1 : Inv B h (U s0 ++ (loopSA l (rec .ready none) :: (w.heap.size :: ms).map markSA)) W1 := by
    have J1 : Inv B h (markSA w.heap.size :: (U s0 ++ ms.map markSA)) (w.alloc (.deferred (some []))) := I.gain (Grow.alloc w _) (World.alloc_heap_new w _) (fun b hb => by simp [markSA] at hb; subst hb; simp)
    have J2 : Inv B h (loopSA l (rec .ready none) :: (markSA w.heap.size :: (U s0 ++ ms.map markSA))) W1 := by
      rw [← hW1]
      refine J1.gain (Grow.alloc _ _) ?_ (fun b hb => ?_)
      · have := World.alloc_heap_new (w.alloc (.deferred (some []))) (.loop (rec .ready none))
        rw [World.size_alloc] at this
        rw [hl]; exact this
      · simp [loopSA] at hb; subst hb; rw [hl]; simp
    refine J2.perm ?_
    refine List.perm_middle.trans ?_
    refine List.Perm.cons _ ?_
    exact List.perm_middle
  refine ⟨l, [mark w.heap.size], W1, { target := .fn (.func gf) lb.toArray, args := #[.func (.yield l) #[] #[]] }, W1, gf, #[.func (.yield l) #[] #[]] ++ lb.toArray, W1, ?_, ?_, fun _ _ => trivial, ?_, (fun hd => by cases hd), ?_⟩
  · rw [← hW1, hrec, hl]; exact run_enterLoop_outer _ _ _ _ _
  · rw [eval_env]
    have hg' : ev (env a) g = .func (.func gf) #[] lb.toArray := hg
    simp only [resolve, hg']
    simp [go_sem]
    rfl
  · simp [invoke, go_sem]; exact eg _ _
  · refine callsIn_wide.2 ?_
    refine (it l (fun hg k W => h.le hg ∧ ∃ s, Inv B hg (U s ++ (loopSA l (rec .ready none) :: (w.heap.size :: ms).map markSA)) W ∧ Jc k s)
      (fun W => ∃ c hg s, h.le hg ∧ Inv B hg (U s ++ (loopSA l (rec .done (some c.code)) :: (w.heap.size :: ms).map markSA)) W ∧ Jx c s) h W1 (Heap.le.refl h) ⟨Heap.le.refl h, s0, I1, j0⟩
      (fun hg k W ⟨_, s, I, _⟩ => I.base_ok) (fun hg k W hg' W' ⟨g1, s, I, hj⟩ X => ⟨g1.trans X.ext, s, I.called X, hj⟩) ?_).mono ?_
    · rintro hg' k x W g0 hx ⟨g1, s, IW, hj⟩
      have hL := IW.getLoop
      have hy := run_yield (P := P) (args := (encs x).toArray) hL (by rw [hrec]; simpa using hps x)
      refine ⟨_, _, _, _, hy, roundIn_of_wpIn trivial ?_⟩
      rw [hrec]
      have hfold : (ps.zip (encs x).toArray).foldl (fun tmps (t, a) => tmps.setIfInBounds t a) a.tmps = (ps.toList.zip (encs x)).foldl (fun t p => t.setIfInBounds p.1 p.2) a.tmps := by
        rw [← Array.foldl_toList]; simp
      have hE := env_args (N := N) (ps.toList.zip (encs x)) a.tmps h1 (fun p hp => by
        have := (List.all_eq_true.1 hpN) p.1 (List.of_mem_zip hp).1
        simpa using this)
      have henv : env { tmps := a.tmps, defers := [] } = env a := rfl
      rw [henv] at hE
      have hR := round l (rec .ready none) (w.heap.size :: ms) hg' k x s W hx g1 IW hj hsa { tmps := (ps.toList.zip (encs x)).foldl (fun t p => t.setIfInBounds p.1 p.2) a.tmps, defers := [] } hE.2 rfl hE.1
      simp only [hfold]
      refine wpIn_mono hR ?_
      rintro x1 a1 w1 ⟨k1, k2, k3⟩
      cases x1 <;> simp only [thenE] at k3 <;> first | exact k3.elim | skip
      obtain ⟨hg1, X, gl1, IX, hb⟩ := k3
      have IX' : Inv B hg1 ((X ++ U s) ++ (loopSA l (rec .ready none) :: (w.heap.size :: ms).map markSA)) w1 := by rw [List.append_assoc]; exact IX
      refine ⟨_, run_beginRound IX'.getLoop (by rw [hrec]), ?_⟩
      have I2 := IX'.setLoop { rec .ready none with state := .busy }
      rw [List.append_assoc] at I2
      refine wpIn_mono (hb _ _ I2 hsb a1 k1 k2 rfl) ?_
      have fin : ∀ (jump : Option Code) (h2 : Heap) (s2 : σ) (X2 : List SA) (W3 : World), Inv B h2 (X2 ++ (U s2 ++ (loopSA l { rec .ready none with state := .busy } :: (w.heap.size :: ms).map markSA))) W3 →
          ∃ W4, (Instr.endRound l jump).run P W3 = .ok (.bool jump.isNone) W4 ∧ Inv B h2 (U s2 ++ (loopSA l (rec (if jump.isNone then .ready else .done) jump) :: (w.heap.size :: ms).map markSA)) W4 := fun jump h2 s2 X2 W3 I3 => by
        have I3' : Inv B h2 (U s2 ++ (loopSA l { rec .ready none with state := .busy } :: (w.heap.size :: ms).map markSA)) W3 := I3.weak (List.sublist_append_right _ _)
        have := run_endRound (P := P) jump I3'.getLoop
        refine ⟨_, this, ?_⟩
        have I4 := I3'.setLoop (rec (if jump.isNone then .ready else .done) jump)
        rw [hrec] at I4 ⊢
        exact I4
      rintro x2 a2 w2 ⟨q1, q2, q3⟩
      cases x2 <;> simp only [roundQ] at q3 <;> simp only [roundPost] <;> first | exact q3.elim | skip
      · obtain ⟨h2, s2, X2, gl2, I3, hj2⟩ := q3
        obtain ⟨W4, hr, I4⟩ := fin none h2 s2 X2 _ I3
        exact ⟨_, _, hr, .inl ⟨rfl, h2, gl1.trans gl2, (g1.trans gl1).trans gl2, s2, (by rw [hrec] at I4; exact I4), hj2⟩⟩
      · rename_i id
        obtain ⟨h2, s2, X2, gl2, I3, hj2⟩ := q3
        obtain ⟨W4, hr, I4⟩ := fin (some (.exit id)) h2 s2 X2 _ I3
        exact ⟨_, _, hr, .inr ⟨rfl, .exit id, h2, s2, (g1.trans gl1).trans gl2, (by rw [hrec] at I4; exact I4), hj2⟩⟩
      · rename_i t
        obtain ⟨h2, s2, X2, gl2, I3, hj2⟩ := q3
        obtain ⟨W4, hr, I4⟩ := fin (some (.goto t)) h2 s2 X2 _ I3
        exact ⟨_, _, hr, .inr ⟨rfl, .goto t, h2, s2, (g1.trans gl1).trans gl2, (by rw [hrec] at I4; exact I4), hj2⟩⟩
      · obtain ⟨h2, s2, X2, gl2, I3, hj2⟩ := q3
        obtain ⟨W4, hr, I4⟩ := fin (some .ret) h2 s2 X2 _ I3
        exact ⟨_, _, hr, .inr ⟨rfl, .ret, h2, s2, (g1.trans gl1).trans gl2, (by rw [hrec] at I4; exact I4), hj2⟩⟩
    · rintro ed W2 ⟨⟨v, rfl⟩, (⟨hg', gl, g1, s, I2, hj⟩ | ⟨c, hg', s, g1, I2, hj⟩)⟩
      · refine ⟨none, _, by have := run_endLoop (P := P) I2.getLoop (by rw [hrec]; simp); rw [hrec] at this; exact this, ?_⟩
        have I3 := (I2.setLoop { rec .ready none with state := .exhausted }).outLoop
        refine ⟨h1, ?_⟩
        have hq := hdone w.heap.size hg' s _ g1 (by rw [hrec] at I3; exact I3) hj
        have hq' : Q .normal (env a) (W2.putObj l (.loop { rec .ready none with state := .exhausted })) (mark w.heap.size :: a.defers) := by rw [h2]; rw [hrec]; exact hq
        rw [hrec] at hq'
        exact hq'
      · refine ⟨some c.code, _, by have := run_endLoop (P := P) I2.getLoop (by rw [hrec]; simp); rw [hrec] at this; exact this, ?_⟩
        have I3 := (I2.setLoop { rec .done (some c.code) with state := .exhausted }).outLoop
        have hq := hstop w.heap.size c hg' s _ g1 (by rw [hrec] at I3; exact I3) hj
        have hq' : Q c.ex (env a) (W2.putObj l (.loop { rec .done (some c.code) with state := .exhausted })) (mark w.heap.size :: a.defers) := by rw [h2]; rw [hrec]; exact hq
        rw [hrec] at hq'
        cases c with
        | ret => exact wpIn_ret ⟨h1, hq'⟩
        | exit id => exact wpIn_exit ⟨h1, hq'⟩
        | goto t => exact wpIn_goto ⟨h1, hq'⟩

theorem WPI.cutL {P : Program} {N l : Nat} {e : Env} {w : World} {Q : Exit → Env → World → Prop} {x : Code} {σ : Type} (kv : σ → List (Nat × Value)) (J : σ → World → Prop)
    (hx : WPI P N l x e w (thenE (fun e' w' => ∃ s, Has e' (kv s) ∧ J s w') Q)) (hy : ∀ s e' w', J s w' → Q .normal (E e' (kv s)) w') : WPI P N l x e w Q := by
  refine hx.mono ?_
  intro x e' w' h
  cases x <;> first | exact h | skip
  obtain ⟨s, h1, h2⟩ := h
  have := hy s e' w' h2
  rwa [E_self h1] at this

/-! ### Slices of one cell an element, made whole and written -/
section
variable {P : Program} {e : Env} {w : World} {B : Base} {h : Heap} {M : List SA} {d : Option Nat} {t : TypeId} {pos : String} {af : Array Edge} {g : Option (Nat × Bool)} {K : Value → World → Prop}
theorem O.make1 {T el bytes n : Nat} {z zc : Value} {x y : Operand} {k k' : IntKind} (I : Inv B h M w) (hT : Und P T (.slice el)) (he : ElT P el 1 bytes z) (hzc : z.cells = #[zc]) (hx : ev e x = .int k (n : Int)) (hy : ev e y = .int k' (n : Int)) (hb : bytes * n ≤ 140737488355328) (hn : n ≤ 140737488355328)
    (kk : ∀ b w', Inv B h (TF.box b (List.replicate n zc) el :: M) w' → K (.slice (some ⟨b, 0, none⟩) n n) w') : Op1 P ⟨d, .makeSlice T x y, t, pos, af, g⟩ e w K := by
  obtain ⟨i, hi, hz, hs, hby⟩ : ∃ i, P.info? el = some i ∧ i.zero = some z ∧ i.size = 1 ∧ i.bytes = bytes := by
    have := he.info
    cases h : P.info? el with
    | none => simp [h] at this
    | some i => simp [h] at this; exact ⟨i, rfl, this.1, this.2.1, this.2.2⟩
  have hb' : (i.bytes : Int) * (n : Int) ≤ 281474976710656 := by
    have h : ((i.bytes * n : Nat) : Int) ≤ 281474976710656 := by rw [hby]; omega
    rwa [Int.natCast_mul] at h
  have hr := run_make (P := P) w T el i z hT hi hz k k' n n (by omega) (Int.le_refl _) hb' (by omega)
  have hc : madeCells z.cells ((n : Int).toNat * i.size) = (List.replicate n zc).toArray := by
    rw [hs, hzc]
    apply Array.ext'
    simp [madeCells, Nat.mod_one]
    apply List.ext_getElem <;> simp
  rw [hc] at hr
  simp only [Int.toNat_natCast] at hr
  have : (execOp (ev e) ⟨d, .makeSlice T x y, t, pos, af, g⟩).run P w = .ok (.value (.slice (some ⟨w.heap.size, 0, none⟩) n n)) (w.alloc (.cells (List.replicate n zc).toArray el)) := by
    simp [execOp, hx, hy, hr]
  unfold Op1
  rw [this]
  exact kk _ _ (I.alloc _ _)
theorem putAt_one {α : Type} (f : α → Value) (L : List α) (i : Nat) (v : α) (hi : i < L.length) : putAt (L.map f) i [f v] = (L.set i v).map f := by
  rw [putAt_eq _ _ _ (by simp; omega), List.map_set]
  apply List.ext_getElem?
  intro j
  simp only [List.getElem?_append, List.length_append, List.length_take, List.length_map, List.length_cons, List.length_nil, List.getElem?_take, List.getElem?_drop, List.getElem?_set, Nat.min_eq_left (Nat.le_of_lt hi)]
  by_cases h1 : j < i
  · simp [h1, show j < i + 1 by omega, show i ≠ j by omega]
  · by_cases h2 : j = i
    · subst h2; simp [hi]
    · simp [show ¬ j < i + 1 by omega, show i ≠ j by omega, show i + 1 + (j - (i + 1)) = j by omega]
theorem O.store1 {T T' : TypeId} {a x : Operand} {b o : Nat} {α : Type} {f : α → Value} {L : List α} {i : Nat} {v : α} (I : Inv B h M w) (hT : Ty P T 1 false) (n : Nat) (hn : M[n]? = some (TF.box b (L.map f) T')) (ha : ev e a = .pointer (some ⟨b, o, none⟩)) (ho : o = i) (hi : i < L.length) (hx : ev e x = f v)
    (hc : (f v).cells = #[f v]) (h1 : (f v).oneCell' = true) (k : ∀ w', Inv B h (M.set n (TF.box b ((L.set i v).map f) T')) w' → K undef w') : Op1 P ⟨d, .store T a x, t, pos, af, g⟩ e w K := by
  subst ho
  exact O.store I hT n hn ha hx (vs := [f v]) hc rfl (by simp [oneCells, h1]) (by simp; omega) (putAt_one f L o v hi) k
theorem Inv.rdL {b T : Nat} {α : Type} {f : α → Value} {L : List α} {i : Nat} {v : α} (I : Inv B h M w) (n : Nat) (hn : M[n]? = some (box b (L.map f) T)) {o : Nat} (ho : o = i) (hi : L[i]? = some v) : Rd w b o [f v] := fun j u e => by
  subst ho
  have hb : w.heap[b]? = some (.cells (L.map f).toArray T (0, 0)) := I.at n hn
  cases j with
  | zero => simp at e; subst e; simp [World.cell?, hb, hi]
  | succ j => simp at e
end
end Go.TF
end
section
/- A queue of the call's own: a slice that is read in front, cut there, and appended to behind; conversions of pieces; string ranges. -/
namespace Go.TF
open Go Go.RowKit

/-- A piece told otherwise. -/
theorem Inv.conv {B : Base} {h : Heap} {M : List SA} {w : World} (I : Inv B h M w) (n : Nat) {A A' : SA} (hn : M[n]? = some A) (hf : ∀ b ∈ A'.fp, b ∈ A.fp) (hP : A.P w → A'.P w) : Inv B h (M.set n A') w :=
  I.stepAt n hn rfl rfl rfl (Nat.le_refl _) (fun _ _ _ => rfl) (hP (I.at n hn)) (fun b hb => by
    have hA := (I.own A (List.mem_of_getElem? hn)).2 b (hf b hb)
    exact ⟨.inl (hf b hb), hA.2.1⟩)
/-- Elements of one cell each, from o on, in block g, room for c. -/
def ownQ (e : TypeId) (g o c : Nat) (xs : List Value) : SA where
  fp := [g]
  P := fun w => ∃ cur : Array Value, w.heap[g]? = some (.cells cur e (0, 0)) ∧ xs.length ≤ c ∧ o + c ≤ cur.size ∧ (cur.toList.drop o).take xs.length = xs
  loc := fun w w' h hp => by
    obtain ⟨cur, h1, h2⟩ := hp
    exact ⟨cur, (h g (by simp)).trans h1, h2⟩
section
variable {P : Program} {e : Env} {w : World} {B : Base} {h : Heap} {M : List SA} {d : Option Nat} {t : TypeId} {pos : String} {af : Array Edge} {g : Option (Nat × Bool)} {K : Value → World → Prop}
theorem O.mkbox {T el k n : Nat} {parts : Array (Nat × Operand)} {z : Value} {cs : List Value} (I : Inv B h M w) (hT : Und P T (.slice el)) (hk : ∀ w, (sizeOf el).run P w = .ok k w) (hz : Zero P el z) (hs : n * k ≤ 16777216) (h0 : n * k ≠ 0)
    (hf : fillL (fun i => some (i * k, k)) ((List.range (n * k)).map fun i => (cellsL z)[i % k]!) (parts.toList.map fun (i, x) => (i, ev e x)) = some cs) (hzc : (cellsL z).length = k)
    (kk : ∀ b w', Inv B h (TF.box b cs el :: M) w' → K (.slice (some ⟨b, 0, none⟩) n n) w') :
    Op1 P ⟨d, .buildSlice T n parts, t, pos, af, g⟩ e w K := by
  have h3 : (parts.map fun (i, x) => (i, ev e x)).toList = parts.toList.map fun (i, x) => (i, ev e x) := by simp
  have h4 := fill_eq (fun i => some (i * k, k)) (parts.toList.map fun (i, x) => (i, ev e x)) ((List.range (n * k)).map fun i => (cellsL z)[i % k]!)
  rw [hf] at h4
  have hrun : (execOp (ev e) ⟨d, .buildSlice T n parts, t, pos, af, g⟩).run P w = .ok (.value (.slice (some ⟨w.heap.size, 0, none⟩) n n)) (w.alloc (.cells cs.toArray el)) := by
    have hs' : ¬ (n * k > 2 ^ 24) := by simp; omega
    simp only [execOp, Instr.buildSlice, Sem.run_bind, run_underlying hT, Result.andThen_ok, hk w, h3, if_neg hs', if_neg h0, hz w]
    have h5 : (Array.map (fun x => z.cells[x % z.cells.size]!) (Array.range (n * k))) = ((List.range (n * k)).map fun i => (cellsL z)[i % k]!).toArray := by
      apply Array.ext'
      simp [cells_eq z, hzc]
    simp only [Sem.run_pure, Result.andThen_ok]
    rw [h5, h4]
    simp [newRow]
  unfold Op1
  rw [hrun]
  exact kk _ _ (I.gain (A := TF.box w.heap.size cs el) (Grow.alloc w _) (heap_alloc_new w _) (fun b hb => by simp [TF.box] at hb; subst hb; simp))
end

/-! ### Ranges over strings -/
def sit (b : Nat) (s : ByteArray) (i : Nat) : SA where
  fp := [b]
  P := fun w => w.heap[b]? = some (.stringIter s i)
  loc := fun _ _ h hp => (h b (by simp)).trans hp
section
variable {P : Program} {e : Env} {w : World} {B : Base} {h : Heap} {M : List SA} {d : Option Nat} {t : TypeId} {pos : String} {af : Array Edge} {g : Option (Nat × Bool)} {K : Value → World → Prop}
theorem O.ranges {T : Nat} {x : Operand} {s : ByteArray} (I : Inv B h M w) (hT : Und P T .string) (hx : ev e x = .string s) (kk : ∀ b w', Inv B h (sit b s 0 :: M) w' → K (.pointer (some ⟨b, 0, none⟩)) w') :
    Op1 P ⟨d, .range T x, t, pos, af, g⟩ e w K := by
  have : (execOp (ev e) ⟨d, .range T x, t, pos, af, g⟩).run P w = .ok (.value (.pointer (some ⟨w.heap.size, 0, none⟩))) (w.iter s 0) := by
    simp [execOp, hx, run_range_string w T s hT]
  unfold Op1
  rw [this]
  exact kk _ _ (I.gain (A := sit w.heap.size s 0) (Grow.alloc w _) (World.iter_heap w s 0) (fun b hb => by simp [sit] at hb; subst hb; simp [World.iter]))
theorem O.nexts {x : Operand} {b i : Nat} {s : ByteArray} (I : Inv B h M w) (n : Nat) (hn : M[n]? = some (sit b s i)) (hx : ev e x = .pointer (some ⟨b, 0, none⟩))
    (k0 : ¬ i < s.size → K (.tuple #[.bool false]) w)
    (k1 : i < s.size → ∀ w', Inv B h (M.set n (sit b s (i + (Utf8.decode s i).2))) w' → K (.tuple #[.bool true, .int .i64 i, .int .i32 (Utf8.decode s i).1]) w') :
    Op1 P ⟨d, .next x true, t, pos, af, g⟩ e w K := by
  have hb : w.heap[b]? = some (.stringIter s i) := I.at n hn
  have hg : (getObj b).run P w = .ok (.stringIter s i) w := getObj_run hb (by intro c t f h; cases h)
  have hset := fun o => setObj_run (P := P) (o' := o) hb (by intro c t f h; cases h)
  unfold Op1
  by_cases hlt : i < s.size
  · have hrun : (execOp (ev e) ⟨d, .next x true, t, pos, af, g⟩).run P w = .ok (.value (.tuple #[.bool true, .int .i64 i, .int .i32 (Utf8.decode s i).1])) { w with heap := w.heap.setIfInBounds b (.stringIter s (i + (Utf8.decode s i).2)) } := by
      simp [execOp, hx, Instr.next, hg, hlt, hset, goInt]
    rw [hrun]
    exact k1 hlt _ (I.setObj n hn rfl rfl fun w' hw' => hw')
  · have hrun : (execOp (ev e) ⟨d, .next x true, t, pos, af, g⟩).run P w = .ok (.value (.tuple #[.bool false])) w := by
      simp [execOp, hx, Instr.next, hg, hlt]
    rw [hrun]
    exact k0 hlt
end
end Go.TF
end
section
/- Maps from string to int that the call makes. -/
namespace Go.TF
open Go Go.RowKit

theorem beq_bytes (a b : ByteArray) : (a == b) = decide (a = b) := by
  rw [beq_toListBytes, ByteArray.toList_eq, ByteArray.toList_eq]
  by_cases h : a = b
  · subst h; simp
  · rw [decide_eq_false h, beq_eq_false_iff_ne]
    intro e
    exact h (by obtain ⟨⟨x⟩⟩ := a; obtain ⟨⟨y⟩⟩ := b; simp at e; subst e; rfl)
def sV (p : ByteArray × Int) : Value × Value := (.string p.1, .int .i64 p.2)
def EntsS (ents : List MapEntry) (es : List (ByteArray × Int)) : Prop := ents.map (fun e => (e.key, e.val)) = es.map sV
def slook : List (ByteArray × Int) → ByteArray → Option Int
  | [], _ => none
  | (k, v) :: r, x => if x = k then some v else slook r x
def sset : List (ByteArray × Int) → ByteArray → Int → List (ByteArray × Int)
  | [], x, v => [(x, v)]
  | (k, w) :: r, x, v => if x = k then (x, v) :: r else (k, w) :: sset r x v
theorem slook_sset (es : List (ByteArray × Int)) (x y : ByteArray) (v : Int) : slook (sset es x v) y = if y = x then some v else slook es y := by
  induction es with
  | nil => simp [sset, slook]
  | cons p r ih =>
    obtain ⟨k, w⟩ := p
    simp only [sset]
    split
    · rename_i h; subst h; simp only [slook]; split <;> simp_all
    · rename_i h; simp only [slook, ih]; split <;> split <;> simp_all
theorem findNowS_none {x : ByteArray} : ∀ (ents : List MapEntry) (es : List (ByteArray × Int)) (i : Nat), EntsS ents es → slook es x = none → Instr.findNow .string (.string x) ents i = some none
  | [], _, _, _, _ => rfl
  | e :: r, [], _, h, _ => by simp [EntsS] at h
  | e :: r, (a, b) :: s, i, h, hl => by
    simp only [EntsS, List.map_cons, List.cons.injEq] at h
    simp only [slook] at hl
    split at hl
    · cases hl
    · rename_i hx
      have h1 : e.key = .string a := (Prod.mk.inj h.1).1
      have : (x == a) = false := by rw [beq_bytes]; simpa using hx
      simp only [Instr.findNow, h1, Instr.sameNow, this]
      exact findNowS_none r s (i + 1) h.2 hl
theorem findNowS_some {x : ByteArray} {v : Int} : ∀ (ents : List MapEntry) (es : List (ByteArray × Int)) (i : Nat), EntsS ents es → slook es x = some v →
    ∃ j, j < ents.length ∧ Instr.findNow .string (.string x) ents i = some (some (i + j, .int .i64 v)) ∧ ((ents[j]?).map (·.key)) = some (.string x) ∧ ∀ v', EntsS (ents.modify j fun e => { e with key := .string x, val := .int .i64 v' }) (sset es x v')
  | [], [], _, _, hl => by simp [slook] at hl
  | [], _ :: _, _, h, _ => by simp [EntsS] at h
  | e :: r, [], _, h, _ => by simp [EntsS] at h
  | e :: r, (a, b) :: s, i, h, hl => by
    simp only [EntsS, List.map_cons, List.cons.injEq] at h
    have h1 : e.key = .string a := (Prod.mk.inj h.1).1
    have h2 : e.val = .int .i64 b := (Prod.mk.inj h.1).2
    simp only [slook] at hl
    split at hl
    · rename_i hx
      subst hx
      cases hl
      refine ⟨0, by simp, by simp [Instr.findNow, h1, Instr.sameNow, h2, beq_bytes], by simp [h1], fun v' => ?_⟩
      simp [EntsS, sset, sV]
      exact h.2
    · rename_i hx
      obtain ⟨j, hj, hf, hk, hm⟩ := findNowS_some r s (i + 1) h.2 hl
      refine ⟨j + 1, by simpa using hj, ?_, by simpa using hk, fun v' => ?_⟩
      · have : (x == a) = false := by rw [beq_bytes]; simpa using hx
        simp only [Instr.findNow, h1, Instr.sameNow, this, hf]
        rw [show i + (j + 1) = i + 1 + j by omega]
      · simp only [EntsS, List.modify_succ_cons, sset, if_neg hx, List.map_cons, List.cons.injEq]
        exact ⟨h.1, hm v'⟩
theorem checkKey_str {P : Program} {w : World} {em : Bool} {n : Nat} {T : TypeId} {x : ByteArray} (hT : Und P T .string) : (Instr.checkKey em (n + 1) T (.string x)).run P w = .ok () w := by
  simp [Instr.checkKey, run_underlying hT]

structure SMap (ents : List MapEntry) (clock : Nat) (es : List (ByteArray × Int)) : Prop where
  is : EntsS ents es
  nodup : (ents.map (·.born)).Nodup
  lt : ∀ e ∈ ents, e.born < clock
def smap (b : Nat) (es : List (ByteArray × Int)) : SA where
  fp := [b]
  P := fun w => ∃ ents clock, w.heap[b]? = some (.map ents.toArray clock) ∧ SMap ents clock es
  loc := by
    intro w w' h hp
    obtain ⟨ents, clock, h1, h2⟩ := hp
    exact ⟨ents, clock, (h b (by simp)).trans h1, h2⟩
section
variable {P : Program} {e : Env} {w : World} {B : Base} {h : Heap} {M : List SA} {t : TypeId} {pos : String} {af : Array Edge} {g : Option (Nat × Bool)} {d : Option Nat} {K : Value → World → Prop}
theorem O.mkmaps {T : TypeId} (I : Inv B h M w) (k : ∀ b w', Inv B h (smap b [] :: M) w' → K (.map (some b)) w') : Op1 P ⟨d, .makeMap T none, t, pos, af, g⟩ e w K := by
  have : (execOp (ev e) ⟨d, .makeMap T none, t, pos, af, g⟩).run P w = .ok (.value (.map (some w.heap.size))) (w.alloc (.map #[] 0)) := by
    simp [execOp, Instr.makeMap]
  unfold Op1
  rw [this]
  refine k _ _ (I.gain (Grow.alloc w _) ⟨[], 0, heap_alloc_new w _, rfl, List.Pairwise.nil, fun _ h => by cases h⟩ (fun b hb => ?_))
  simp [smap] at hb; subst hb; simp
theorem lookupS_run {T Kt Vt : TypeId} {m : Nat} {ents : List MapEntry} {clock : Nat} {es : List (ByteArray × Int)} {x : ByteArray} (hT : Und P T (.map Kt Vt)) (hK : Und P Kt .string) (hz : Zero P Vt (.int .i64 0)) (hm : w.heap[m]? = some (.map ents.toArray clock)) (hi : EntsS ents es) :
    (Instr.lookup T (.map (some m)) (.string x) false).run P w = .ok (.int .i64 ((slook es x).getD 0)) w := by
  have hg : (getObj m).run P w = .ok (.map ents.toArray clock) w := getObj_run hm (by intro c t f h; cases h)
  have hck : ∀ em, (Instr.checkKey em 10000 Kt (.string x)).run P w = .ok () w := fun em => checkKey_str (n := 9999) hK
  cases hl : slook es x with
  | none =>
    have hf := findNowS_none ents es 0 hi hl
    simp [Instr.lookup, run_underlying hT, hg, hck, Instr.findKey, run_underlying hK, hf, hz w]
  | some v =>
    obtain ⟨j, _, hf, _⟩ := findNowS_some ents es 0 hi hl
    simp [Instr.lookup, run_underlying hT, hg, hck, Instr.findKey, run_underlying hK, hf]
theorem Y.lookups {T Kt Vt : TypeId} {b : Nat} {es : List (ByteArray × Int)} {x y : Operand} {i : ByteArray} (I : Inv B h M w) (hT : Und P T (.map Kt Vt)) (hK : Und P Kt .string) (hz : Zero P Vt (.int .i64 0)) (n : Nat) (hn : M[n]? = some (smap b es)) (hx : ev e x = .map (some b)) (hy : ev e y = .string i) :
    Y P ⟨d, .lookup T x y false, t, pos, af, g⟩ e w (.int .i64 ((slook es i).getD 0)) := by
  obtain ⟨ents, clock, h1, h2⟩ := I.at n hn
  simp [Y, execOp, hx, hy, lookupS_run hT hK hz h1 h2.is]
theorem O.mapsets {T Kt Vt : TypeId} {b : Nat} {es : List (ByteArray × Int)} {x y z : Operand} {i : ByteArray} {v : Int} (I : Inv B h M w) (hT : Und P T (.map Kt Vt)) (hK : Und P Kt .string) (n : Nat) (hn : M[n]? = some (smap b es)) (hx : ev e x = .map (some b)) (hy : ev e y = .string i) (hz : ev e z = .int .i64 v)
    (k : ∀ w', Inv B h (M.set n (smap b (sset es i v))) w' → K undef w') : Op1 P ⟨d, .mapUpdate T x y z, t, pos, af, g⟩ e w K := by
  obtain ⟨ents, clock, h1, h2⟩ := I.at n hn
  have hg : (getObj b).run P w = .ok (.map ents.toArray clock) w := getObj_run h1 (by intro c t f h; cases h)
  have hck : ∀ em, (Instr.checkKey em 10000 Kt (.string i)).run P w = .ok () w := fun em => checkKey_str (n := 9999) hK
  have hset : ∀ o, (Go.setObj b o).run P w = .ok () { w with heap := w.heap.setIfInBounds b o } := fun o => setObj_run h1 (by intro c t f h; cases h)
  cases hl : slook es i with
  | none =>
    have hf := findNowS_none ents es 0 h2.is hl
    have hrun : (execOp (ev e) ⟨d, .mapUpdate T x y z, t, pos, af, g⟩).run P w = .ok .skip { w with heap := w.heap.setIfInBounds b (.map (ents ++ [({ key := .string i, val := .int .i64 v, born := clock } : MapEntry)]).toArray (clock + 1)) } := by
      simp [execOp, hx, hy, hz, Instr.mapUpdate, run_underlying hT, hg, hck, Instr.findKey, run_underlying hK, hf, hset]
    unfold Op1
    rw [hrun]
    refine k _ (I.setObj n hn rfl rfl fun w' hw' => ⟨_, _, hw', ?_, ?_, ?_⟩)
    · have : sset es i v = es ++ [(i, v)] := by
        clear hf h1 h2 hg hset hn k
        induction es with
        | nil => rfl
        | cons p r ih =>
          obtain ⟨a, c⟩ := p
          simp only [slook] at hl
          split at hl
          · cases hl
          · rename_i hne; simp [sset, hne, ih hl]
      rw [this]
      unfold EntsS
      rw [List.map_append, List.map_append, h2.is]; rfl
    · rw [List.map_append, List.nodup_append]
      refine ⟨h2.nodup, by simp, fun a ha c hc => ?_⟩
      simp at hc; subst hc
      obtain ⟨q, hq, rfl⟩ := List.mem_map.1 ha
      have := h2.lt q hq; omega
    · intro q hq
      rcases List.mem_append.1 hq with hq | hq
      · have := h2.lt q hq; omega
      · simp at hq; subst hq; simp
  | some v0 =>
    obtain ⟨j, hj, hf, hk, hm⟩ := findNowS_some ents es 0 h2.is hl
    have hrun : (execOp (ev e) ⟨d, .mapUpdate T x y z, t, pos, af, g⟩).run P w = .ok .skip { w with heap := w.heap.setIfInBounds b (.map (ents.modify j fun e => { e with key := .string i, val := .int .i64 v }).toArray clock) } := by
      have hk' : ents[j]?.map (·.key) = some (.string i) := hk
      cases hgt : ents[j]? with
      | none => simp [hgt] at hk'
      | some q =>
        simp only [hgt, Option.map_some, Option.some.injEq] at hk'
        simp [execOp, hx, hy, hz, Instr.mapUpdate, run_underlying hT, hg, hck, Instr.findKey, run_underlying hK, hf, hset, hgt, hk', Instr.keyThatStays, Instr.sameBits, beq_bytes]
    unfold Op1
    rw [hrun]
    refine k _ (I.setObj n hn rfl rfl fun w' hw' => ⟨_, _, hw', hm v, ?_, ?_⟩)
    · have : (ents.modify j fun e => { e with key := .string i, val := .int .i64 v }).map (·.born) = ents.map (·.born) := by
        apply List.ext_getElem?
        intro q
        simp only [List.getElem?_map, List.getElem?_modify]
        cases ents[q]? <;> simp
        split <;> rfl
      rw [this]; exact h2.nodup
    · intro q hq
      obtain ⟨p, hp⟩ := List.mem_iff_getElem?.1 hq
      rw [List.getElem?_modify] at hp
      cases hgp : ents[p]? with
      | none => simp [hgp] at hp
      | some c =>
        have := h2.lt c (List.mem_of_getElem? hgp)
        simp only [hgp] at hp
        cases hp; split <;> exact this
/-- Calls that turn what the caller owns. -/
theorem O.callcs {x : Operand} {f : FuncId} {fs cs : List Value} {args : Array Operand} {ts : Array TypeId} {vs : List Value} {R : Ending → World → Prop} (hf : Enters P f)
    (hx : ev e x = .func (.func f) fs.toArray cs.toArray) (hc : Calls P f vs.toArray w R) (ha : fs ++ args.toList.map (ev e) ++ cs = vs) (k : ∀ ed w', R ed w' → ∃ v, ed = .returned v ∧ K v w') :
    Op1 P ⟨d, .call { callee := .value x, args := args, argTypes := ts }, t, pos, af, g⟩ e w K := by
  have ha' : fs.toArray ++ args.map (ev e) ++ cs.toArray = vs.toArray := by rw [← ha]; apply Array.ext'; simp
  have : (execOp (ev e) ⟨d, .call { callee := .value x, args := args, argTypes := ts }, t, pos, af, g⟩).run P w = .ok (.enter f vs.toArray) w := by
    simp only [execOp, resolve, hx, Deferred.ofValue]
    simp [invoke, ha', hf]
  unfold Op1
  rw [this]
  refine Calls.mono hc ?_
  rintro ed w' h
  obtain ⟨v, rfl, hk⟩ := k ed w' h
  exact hk
theorem O.calls {f : FuncId} {args : Array Operand} {ts : Array TypeId} {vs : List Value} {R : Ending → World → Prop} (hf : Enters P f) (hc : Calls P f vs.toArray w R)
    (ha : args.toList.map (ev e) = vs) (k : ∀ ed w', R ed w' → ∃ v, ed = .returned v ∧ K v w') : Op1 P ⟨d, .call { callee := .value (.func f), args := args, argTypes := ts }, t, pos, af, g⟩ e w K := by
  have ha' : args.map (ev e) = vs.toArray := by rw [← ha]; apply Array.ext'; simp
  have : (execOp (ev e) ⟨d, .call { callee := .value (.func f), args := args, argTypes := ts }, t, pos, af, g⟩).run P w = .ok (.enter f vs.toArray) w := by
    simp [execOp, resolve, ev, Deferred.ofValue, invoke, ha', hf]
  unfold Op1
  rw [this]
  refine Calls.mono hc ?_
  rintro ed w' h
  obtain ⟨v, rfl, hk⟩ := k ed w' h
  exact hk
end
/-! ### Slices known for good, appended to -/
theorem flat_get {α : Type} {enc : α → List Value} {k : Nat} (hk : ∀ x, (enc x).length = k) : ∀ (xs : List α) (i j : Nat) (x : α) (v : Value), xs[i]? = some x → (enc x)[j]? = some v → (xs.flatMap enc)[i * k + j]? = some v
  | [], i, j, x, v, h, _ => by simp at h
  | y :: ys, i, j, x, v, h, hv => by
    have hj : j < k := by have := (List.getElem?_eq_some_iff.1 hv).1; rw [hk] at this; exact this
    simp only [List.flatMap_cons]
    cases i with
    | zero =>
      simp at h; subst h
      rw [List.getElem?_append_left (by rw [hk]; omega)]
      simpa using hv
    | succ i =>
      rw [List.getElem?_append_right (by rw [hk, Nat.add_mul]; omega), hk, show (i + 1) * k + j - k = i * k + j by rw [Nat.add_mul]; omega]
      exact flat_get hk ys i j x v (by simpa using h) hv
/-- A row of cells that is known for good holds a slice. -/
theorem rowIn {α : Type} {enc : α → List Value} {k b c : Nat} {xs : List α} {cs : Array Value} {T : TypeId} {f : Nat × Nat} {h : Heap} (hk : ∀ x, (enc x).length = k) (hb : h b = some (.cells cs T f)) (hp : ∀ (j : Nat) (v : Value), (xs.flatMap enc)[j]? = some v → cs[j]? = some v) : (⟨some ⟨b, 0, none⟩, c, xs⟩ : Sl α).In k enc h := fun i x hx =>
  ⟨rfl, fun j v hv => by
    simp only [Heap.cell, Sl.blk, Sl.off, Option.getD_some, hb, Nat.zero_add]
    exact hp _ _ (flat_get hk xs i j x v hx hv)⟩
section
variable {P : Program} {e : Env} {w : World} {B : Base} {h : Heap} {M : List SA} {t : TypeId} {pos : String} {af : Array Edge} {g : Option (Nat × Bool)} {d : Option Nat} {K : Value → World → Prop}
end
end Go.TF
end
section
/- Slices of the call's own, known for good until they are written again; appended onto an empty literal. -/
namespace Go.TF
open Go Go.RowKit

/-- A slice that was made by the call (nothing of it was known in h0), known for good in h: with its spare. -/
def OwnH {α : Type} (el k : Nat) (s : Sl α) (enc : α → List Value) (h0 h : Heap) : Prop :=
  s = ⟨none, 0, []⟩ ∨ ∃ g cur, s.at_ = some ⟨g, 0, none⟩ ∧ h0 g = none ∧ h g = some (.cells cur el (0, 0)) ∧ s.xs.length ≤ s.cap ∧ s.cap ≤ maxLen ∧ cur.size = s.cap * k ∧ cur.toList.take (s.xs.length * k) = s.xs.flatMap enc
section
variable {α : Type} {el k : Nat} {s : Sl α} {enc : α → List Value} {h0 h h' : Heap}
theorem OwnH.le (o : OwnH el k s enc h0 h) (hl : h.le h') : OwnH el k s enc h0 h' := by
  rcases o with o | ⟨g, cur, h1, h2, h3, h4⟩
  · exact .inl o
  · exact .inr ⟨g, cur, h1, h2, hl _ _ h3, h4⟩
theorem OwnH.older {h1 : Heap} (o : OwnH el k s enc h0 h) (hl : h1.le h0) : OwnH el k s enc h1 h := by
  rcases o with o | ⟨g, cur, k1, k2, k3⟩
  · exact .inl o
  · refine .inr ⟨g, cur, k1, ?_, k3⟩
    cases e : h1 g with
    | none => rfl
    | some x => rw [hl _ _ e] at k2; cases k2
theorem OwnH.in (o : OwnH el k s enc h0 h) (hk : ∀ x, (enc x).length = k) : s.In k enc h := by
  rcases o with rfl | ⟨g, cur, h1, _, h3, _, _, _, h7⟩
  · exact fun i x hx => by simp at hx
  · obtain ⟨a, c, xs⟩ := s
    simp only at h1 h7
    subst h1
    refine rowIn hk h3 fun j v hv => ?_
    rw [← h7, List.getElem?_take] at hv
    split at hv
    · simpa using hv
    · cases hv
theorem Heap.le_minus {h1 h : Heap} (g : Nat) (hl : h1.le h) (hg : h1 g = none) : h1.le (fun b => if b = g then none else h b) := fun b o hb => by
  have : b ≠ g := fun e => by rw [e, hg] at hb; cases hb
  simp only [this, if_false]; exact hl b o hb
/-- Written again: known for good no more. -/
theorem Inv.unsettle {B : Base} {M : List SA} {w : World} (I : Inv B h M w) (o : OwnH el k s enc h0 h) (hB : B.h.le h0) :
    ∃ h', Inv B h' (ownSl el k s.val s.xs.length (s.xs.flatMap enc) :: M) w ∧ (∀ h1 : Heap, h1.le h → h1.le h0 → h1.le h') ∧ (∀ b x, h b = some x → h' b = some x ∨ s.at_ = some ⟨b, 0, none⟩) := by
  rcases o with rfl | ⟨g, cur, h1, h2, h3, h4, h5, h6, h7⟩
  · exact ⟨h, I.nilSl el k, fun h1 hl _ => hl, fun b x hb => .inl hb⟩
  · have hBg : B.h g = none := by
      cases e : B.h g with
      | none => rfl
      | some x => rw [hB _ _ e] at h2; cases h2
    have hsz : B.w.heap.size ≤ g := by
      rcases I.new g _ h3 with h | h
      · rw [hBg] at h; cases h
      · exact h
    have hval : s.val = .slice (some ⟨g, 0, none⟩) s.xs.length s.cap := by simp only [Sl.val, h1]
    have hlen : (s.xs.flatMap enc).length = s.xs.length * k := by
      rw [← h7, List.length_take, Array.length_toList, h6]
      exact Nat.min_eq_left (Nat.mul_le_mul_right k h4)
    refine ⟨fun b => if b = g then none else h b, ⟨I.below, fun b o hb => Heap.le_minus g I.ext hBg b o hb, fun b o hb => ?_, fun b o hb => ?_, fun A hA => ?_, List.pairwise_cons.2 ⟨fun C hC b hb hbC => ?_, I.apart⟩⟩, fun h1 hl hl0 => Heap.le_minus g hl ?_, fun b x hb => ?_⟩
    · by_cases e : b = g
      · simp [e] at hb
      · simp only [e, if_false] at hb; exact I.new b o hb
    · by_cases e : b = g
      · simp [e] at hb
      · simp only [e, if_false] at hb; exact I.imm b o hb
    · rcases List.mem_cons.1 hA with rfl | hA
      · refine ⟨?_, fun b hb => ?_⟩
        · show w.ownsRow 0 el k s.val s.xs.length (s.xs.flatMap enc)
          rw [hval]
          exact ⟨hlen, .inr ⟨g, s.cap, cur, rfl, Nat.zero_le _, I.imm _ _ h3, h4, h5, h6, h7⟩⟩
        · have : b = g := by simpa [ownSl, hval, Value.ownBlock] using hb
          subst this
          exact ⟨hsz, I.lt h3, by simp⟩
      · obtain ⟨p1, p2⟩ := I.own A hA
        refine ⟨p1, fun b hb => ?_⟩
        obtain ⟨q1, q2, q3⟩ := p2 b hb
        refine ⟨q1, q2, ?_⟩
        by_cases e : b = g
        · simp [e]
        · simp [e, q3]
    · have : b = g := by simpa [ownSl, hval, Value.ownBlock] using hb
      subst this
      have := ((I.own C hC).2 b hbC).2.2
      rw [h3] at this; cases this
    · cases e : h1 g with
      | none => rfl
      | some x => rw [hl0 _ _ e] at h2; cases h2
    · by_cases e : b = g
      · subst e; exact .inr h1
      · exact .inl (by simp [e, hb])
/-- What was appended to is known for good. -/
theorem Inv.settleO {B : Base} {M : List SA} {w : World} {v : Value} {n : Nat} {xs : List α} (I : Inv B h (ownSl el k v n (xs.flatMap enc) :: M) w) (hn : n = xs.length) :
    ∃ (h' : Heap) (s : Sl α), h.le h' ∧ s.val = v ∧ s.xs = xs ∧ OwnH el k s enc h h' ∧ Inv B h' M w := by
  subst hn
  have hp : w.ownsRow 0 el k v xs.length (xs.flatMap enc) := (I.own _ (List.mem_cons_self ..)).1
  have hfp0 := (I.own _ (List.mem_cons_self ..)).2
  obtain ⟨h', hle, hfp, I'⟩ := I.settle
  rcases hp.2 with ⟨rfl, h0⟩ | ⟨g, cap, cur, rfl, _, hg, hnc, hcm, hcs, htake⟩
  · have : xs = [] := List.eq_nil_of_length_eq_zero h0
    subst this
    exact ⟨h', ⟨none, 0, []⟩, hle, rfl, rfl, .inl rfl, I'⟩
  · have hm : g ∈ (ownSl el k (.slice (some ⟨g, 0, none⟩) xs.length cap) xs.length (xs.flatMap enc)).fp := by simp [ownSl, Value.ownBlock]
    exact ⟨h', ⟨some ⟨g, 0, none⟩, cap, xs⟩, hle, rfl, rfl, .inr ⟨g, cur, rfl, (hfp0 g hm).2.2, (hfp g hm).trans hg, hnc, hcm, hcs, htake⟩, I'⟩
end
section
variable {P : Program} {e : Env} {w : World} {B : Base} {h : Heap} {M : List SA} {t : TypeId} {pos : String} {af : Array Edge} {g : Option (Nat × Bool)} {d : Option Nat} {K : Value → World → Prop}
/-- Numbers turned to another kind; halved by a shift. -/
theorem Y.conv {x : Operand} {S T : TypeId} {k k' : IntKind} {n : Int} (hS : (P.underlying S).isSome = true) (hT : Und P T (.int k')) (hw : k'.wrap n = n) (hx : ev e x = .int k n) : Y P ⟨d, .convert S T x, t, pos, af, g⟩ e w (.int k' n) := by
  obtain ⟨d', hd'⟩ := Option.isSome_iff_exists.mp hS
  simp [Y, execOp, hx, convert, run_underlying hd', run_underlying hT, Conv.intToInt, hw]
end
end Go.TF
end
section
/- Slices of the call's own: appended to by what is known, made with room, cut, closed up, cleared behind. -/
namespace Go.TF
open Go Go.RowKit

section
variable {P : Program} {e : Env} {w : World} {B : Base} {h : Heap} {M : List SA} {t : TypeId} {pos : String} {af : Array Edge} {g : Option (Nat × Bool)} {d : Option Nat} {K : Value → World → Prop}
end
end Go.TF
end
section
/- Copies into what the call owns; room made behind it; what slices.Insert asks first. -/
namespace Go.TF
open Go Go.RowKit

/-- Laid over what stood there, from place o on. -/
def over (xs : List Value) (o : Nat) (news : List Value) : List Value := xs.take o ++ news ++ xs.drop (o + news.length)
section
variable {P : Program} {e : Env} {w : World} {B : Base} {h : Heap} {M : List SA} {t : TypeId} {pos : String} {af : Array Edge} {g : Option (Nat × Bool)} {d : Option Nat} {K : Value → World → Prop}
/-- A slice literal, its whole block told. -/
def LitW (el : TypeId) (cs : List Value) (n : Nat) (v : Value) (h : Heap) : Prop := ∃ b, v = .slice (some ⟨b, 0, none⟩) n n ∧ h b = some (.cells cs.toArray el (0, 0))
theorem LitW.mono {el : TypeId} {cs : List Value} {n : Nat} : MonoS (LitW el cs n) := fun _ _ _ hl hx => by
  obtain ⟨b, h1, h2⟩ := hx
  exact ⟨b, h1, hl _ _ h2⟩
theorem O.mklit {T el k n : Nat} {parts : Array (Nat × Operand)} {z : Value} {cs : List Value} {K : Value → World → Prop} (I : Inv B h M w) (hT : Und P T (.slice el)) (hk : ∀ w, (sizeOf el).run P w = .ok k w) (hz : Zero P el z) (hs : n * k ≤ 16777216) (h0 : n * k ≠ 0)
    (hf : fillL (fun i => some (i * k, k)) ((List.range (n * k)).map fun i => (cellsL z)[i % k]!) (parts.toList.map fun (i, x) => (i, ev e x)) = some cs) (hzc : (cellsL z).length = k)
    (kk : ∀ v h' w', Inv B h' M w' → h.le h' → LitW el cs n v h' → K v w') : Op1 P ⟨d, .buildSlice T n parts, t, pos, af, g⟩ e w K :=
  O.mkbox I hT hk hz hs h0 hf hzc fun b w' I' => by
    have hb := I'.at 0 rfl
    obtain ⟨h', hle, hfp, J⟩ := I'.settle
    exact kk _ h' w' J hle ⟨b, rfl, (hfp b (by simp [TF.box])).trans hb⟩
/-- A quiet call of a function value. -/
theorem QC.callcv {x : Operand} {f : FuncId} {fs cs : List Value} {args : Array Operand} {ts : Array TypeId} {vs : List Value} {r : Value}
    (I : Inv B h M w) (hf : Enters P f) (hx : ev e x = .func (.func f) fs.toArray cs.toArray) (hfn : Fn P f vs ⟨w, h⟩ (fun v _ => v = r)) (ha : fs ++ args.toList.map (ev e) ++ cs = vs) : QC P (Inv B h M) ⟨d, .call { callee := .value x, args := args, argTypes := ts }, t, pos, af, g⟩ e w r := by
  have ha' : fs.toArray ++ args.map (ev e) ++ cs.toArray = vs.toArray := by rw [← ha]; apply Array.ext'; simp
  have : (execOp (ev e) ⟨d, .call { callee := .value x, args := args, argTypes := ts }, t, pos, af, g⟩).run P w = .ok (.enter f vs.toArray) w := by
    simp only [execOp, resolve, hx, Deferred.ofValue]
    simp [invoke, ha', hf]
  unfold QC
  rw [this]
  refine ⟨rfl, Calls.mono hfn ?_⟩
  rintro x w' ⟨v, h', rfl, X, rfl⟩
  exact ⟨rfl, I.grow X.below⟩
end
/-- A variable that is never written again. -/
structure Known (h : Heap) (b : Nat) (cs : List Value) : Prop where
  rd : RdH h b 0 cs
theorem Known.le {h h' : Heap} {b : Nat} {cs : List Value} (k : Known h b cs) (hl : h.le h') : Known h' b cs := ⟨k.rd.le hl⟩
theorem Inv.settleBox {B : Base} {h : Heap} {M : List SA} {w : World} {b : Nat} {cs : List Value} {T : TypeId} (I : Inv B h (box b cs T :: M) w) : ∃ h', h.le h' ∧ Known h' b cs ∧ Inv B h' M w := by
  have hb := I.at 0 rfl
  obtain ⟨h', hle, hfp, J⟩ := I.settle
  refine ⟨h', hle, ⟨fun j v hv => ?_⟩, J⟩
  have : h' b = some (.cells cs.toArray T (0, 0)) := (hfp b (by simp [box])).trans hb
  simp only [Heap.cell, this, Nat.zero_add]
  simpa using hv
end Go.TF
end
section
/- Regions that draw their order, over knowledge of any kind: pieces may be made and written in them. -/
namespace Go.TF
open Go Go.RowKit

abbrev Sq (σ : Type) := Value → σ → Prop
structure Pre {σ : Type} (R : σ → σ → Prop) : Prop where
  refl : ∀ s, R s s
  trans : ∀ a b c, R a b → R b c → R a c
section
variable {σ : Type}
def ovrG (e : Env) : List (Nat × Sq σ) → Env → Env
  | [], _ => e
  | p :: L, us => upd (ovrG e L us) p.1 (us p.1)
def AllG (c : Nat → Bool) (h : σ) : List (Nat × Sq σ) → Env → (Env → Prop) → Prop
  | [], e, k => k e
  | p :: L, e, k => AllG c h L e fun e' => ∀ u, (c p.1 = true → p.2 u h) → k (upd e' p.1 u)
theorem AllG.get {c : Nat → Bool} {h : σ} : ∀ {L : List (Nat × Sq σ)} {e : Env} {k : Env → Prop}, AllG c h L e k → ∀ us, (∀ p ∈ L, c p.1 = true → p.2 (us p.1) h) → k (ovrG e L us)
  | [], _, _, a, _, _ => a
  | _ :: L, _, _, a, us, hp => AllG.get (L := L) a us (fun q hq => hp q (List.mem_cons_of_mem _ hq)) (us _) (hp _ (List.mem_cons_self ..))
def MonoG (R : σ → σ → Prop) (Φ : Sq σ) : Prop := ∀ u h h', R h h' → Φ u h → Φ u h'
def setD (D : Nat → Bool) (k : Nat) : Nat → Bool := fun j => j == k || D j
def OblG (P : Program) (full : Array Oper) (J : (Nat → Bool) → σ → World → Prop) (R : σ → σ → Prop) (h0 : σ) (k : Nat) (L : List (Nat × Sq σ)) (e : Env) (o : Oper) (Φ : Sq σ) : Prop :=
  ∀ D h1 w, D k = false → R h0 h1 → J D h1 w → AllG (lk full o) h1 L e fun e' => Op1 P o e' w fun u w' => ∃ h2, R h1 h2 ∧ J (setD D k) h2 w' ∧ Φ u h2
def OpsG (P : Program) (full : Array Oper) (J : (Nat → Bool) → σ → World → Prop) (R : σ → σ → Prop) (h0 : σ) : Nat → List (Nat × Sq σ) → List Oper → Env → (List (Nat × Sq σ) → Env → Prop) → Prop
  | _, L, [], e, K => K L e
  | k, L, o :: r, e, K =>
    ((∀ us, runs full (ovrG e L us) o = false) ∧ (∀ D s w, D k = false → J D s w → J (setD D k) s w) ∧ OpsG P full J R h0 (k + 1) L r (updo e o.dst undef) K) ∨
    ((∀ us, runs full (ovrG e L us) o = true) ∧
      ((∃ v, OblG P full J R h0 k L e o (fun u _ => u = v) ∧ OpsG P full J R h0 (k + 1) L r (updo e o.dst v) K) ∨
       (∃ d Φ, o.dst = some d ∧ MonoG R Φ ∧ OblG P full J R h0 k L e o Φ ∧ OpsG P full J R h0 (k + 1) ((d, Φ) :: L) r e K)))

theorem ovrG_notin {e us : Env} {d : Nat} : ∀ {L : List (Nat × Sq σ)}, (∀ p ∈ L, p.1 ≠ d) → ovrG e L us d = e d
  | [], _ => rfl
  | p :: L, h => by
    simp only [ovrG]
    rw [upd_ne _ _ (Ne.symm (h p (List.mem_cons_self ..)))]
    exact ovrG_notin fun q hq => h q (List.mem_cons_of_mem _ hq)
theorem ovrG_upd_ne {e us : Env} {d i : Nat} {v : Value} (h : i ≠ d) : ∀ (L : List (Nat × Sq σ)), ovrG (upd e d v) L us i = ovrG e L us i
  | [] => upd_ne _ _ h
  | p :: L => by
    simp only [ovrG]
    by_cases hp : i = p.1
    · subst hp; rw [upd_eq, upd_eq]
    · rw [upd_ne _ _ hp, upd_ne _ _ hp, ovrG_upd_ne h L]

section
variable (P : Program) (ops : Array Oper) (J : (Nat → Bool) → σ → World → Prop) (R : σ → σ → Prop) (h0 : σ) (e0 : Env)
def OkG (Ss : List (Sq σ)) (k : Nat) (f : Env) (h : σ) (d : Nat) : Prop :=
  (∀ j Φ, j < k → dstO ops j = some d → Ss[j]? = some Φ → Φ (f d) h) ∧ ((∀ j, j < k → dstO ops j ≠ some d) → f d = e0 d)
structure RelG (Ss : List (Sq σ)) (L : List (Nat × Sq σ)) (e : Env) : Prop where
  eq : ∀ f h d, OkG ops e0 Ss Ss.length f h d → ovrG e L f d = f d
  sub : ∀ p ∈ L, ∃ k, k < Ss.length ∧ dstO ops k = some p.1 ∧ Ss[k]? = some p.2
def LSG (Ss : List (Sq σ)) (i : Nat) : Prop := ∀ o Φ f D h1 w, ops[i]? = some o → Ss[i]? = some Φ → D i = false → R h0 h1 → J D h1 w → (∀ d ∈ o.looksAt ops, OkG ops e0 Ss i f h1 d) →
  (runs ops f o = true → Op1 P o f w fun u w' => ∃ h2, R h1 h2 ∧ J (setD D i) h2 w' ∧ Φ u h2) ∧ (runs ops f o = false → Φ undef h1 ∧ J (setD D i) h1 w)
end
section
variable {P : Program} {ops : Array Oper} {J : (Nat → Bool) → σ → World → Prop} {R : σ → σ → Prop} {h0 : σ} {e0 : Env} {m : Nat}
theorem OkG.snoc {Ss : List (Sq σ)} {Φ : Sq σ} {k : Nat} {f : Env} {h : σ} {d : Nat} (hk : k ≤ Ss.length) : OkG ops e0 (Ss ++ [Φ]) k f h d ↔ OkG ops e0 Ss k f h d := by
  unfold OkG
  refine and_congr ⟨fun a j Ψ hj h1 h2 => a j Ψ hj h1 (by rw [get_snoc (by omega)]; exact h2), fun a j Ψ hj h1 h2 => a j Ψ hj h1 (by rw [get_snoc (by omega)] at h2; exact h2)⟩ Iff.rfl
theorem LSG.snoc {Ss : List (Sq σ)} {Φ : Sq σ} {k : Nat} (hk : k < Ss.length) (h : LSG P ops J R h0 e0 Ss k) : LSG P ops J R h0 e0 (Ss ++ [Φ]) k := by
  intro o Ψ f D h1 w ho hp hD hl I hd
  rw [get_snoc hk] at hp
  exact h o Ψ f D h1 w ho hp hD hl I fun d hm => (OkG.snoc (by omega)).1 (hd d hm)
theorem OpsG.sound (hF : Flow ops m) : ∀ (l : List Oper) (Ss : List (Sq σ)) (L : List (Nat × Sq σ)) (e : Env) (K : List (Nat × Sq σ) → Env → Prop), (∀ j, l[j]? = (ops.toList.take m)[Ss.length + j]?) → Ss.length + l.length = m →
    RelG ops e0 Ss L e → (∀ k, k < Ss.length → LSG P ops J R h0 e0 Ss k) → (∀ Φ ∈ Ss, MonoG R Φ) → OpsG P ops J R h0 Ss.length L l e K →
    ∃ Ss' L' e', Ss'.length = m ∧ RelG ops e0 Ss' L' e' ∧ (∀ k, k < m → LSG P ops J R h0 e0 Ss' k) ∧ (∀ Φ ∈ Ss', MonoG R Φ) ∧ K L' e'
  | [], Ss, L, e, K, _, hm, hr, hs, hmo, h => ⟨Ss, L, e, by simpa using hm, hr, by simpa [← hm] using hs, hmo, h⟩
  | o :: r, Ss, L, e, K, hl, hm, hr, hs, hmo, h => by
    simp only [List.length_cons] at hm
    have hi : ops[Ss.length]? = some o := by
      have := hl 0
      simp only [List.getElem?_cons_zero, Nat.add_zero, List.getElem?_take] at this
      rw [if_pos (by omega)] at this
      simpa using this.symm
    have hdst : dstO ops Ss.length = o.dst := by simp [dstO, hi]
    have hdist : ∀ k d, k < Ss.length → dstO ops k = some d → o.dst ≠ some d := fun k d hk hd hod => by
      cases hok : ops[k]? with
      | none => simp [dstO, hok] at hd
      | some ok =>
        simp [dstO, hok] at hd
        have := hF.dist k Ss.length ok o d (by omega) (by omega) hok hi hd hod
        omega
    have hagree : ∀ f h1, (∀ d ∈ o.looksAt ops, OkG ops e0 Ss Ss.length f h1 d) → ∀ d ∈ o.looksAt ops, ovrG e L f d = f d := fun f h1 hd d hdm => hr.eq f h1 d (hd d hdm)
    have hLd : ∀ f h1, (∀ d ∈ o.looksAt ops, OkG ops e0 Ss Ss.length f h1 d) → ∀ p ∈ L, lk ops o p.1 = true → p.2 (f p.1) h1 := fun f h1 hd p hp hk => by
      obtain ⟨k, k1, k2, k3⟩ := hr.sub p hp
      exact (hd p.1 (by simpa [lk] using hk)).1 k p.2 k1 k2 k3
    have next : ∀ Φ L1 e1, MonoG R Φ → LSG P ops J R h0 e0 (Ss ++ [Φ]) Ss.length → RelG ops e0 (Ss ++ [Φ]) L1 e1 → OpsG P ops J R h0 (Ss.length + 1) L1 r e1 K →
        ∃ Ss' L' e', Ss'.length = m ∧ RelG ops e0 Ss' L' e' ∧ (∀ k, k < m → LSG P ops J R h0 e0 Ss' k) ∧ (∀ Φ ∈ Ss', MonoG R Φ) ∧ K L' e' := fun Φ L1 e1 hΦ hls hrel hops => by
      refine OpsG.sound hF r (Ss ++ [Φ]) L1 e1 K (fun j => ?_) (by simp; omega) hrel (fun k hk => ?_) (fun Ψ hΨ => ?_) (by rw [List.length_append]; exact hops)
      · have := hl (j + 1)
        simp only [List.getElem?_cons_succ] at this
        rw [this, List.length_append, List.length_cons, List.length_nil]; congr 1; omega
      · simp only [List.length_append, List.length_cons, List.length_nil] at hk
        by_cases hk' : k < Ss.length
        · exact (hs k hk').snoc hk'
        · have : k = Ss.length := by omega
          subst this; exact hls
      · rcases List.mem_append.1 hΨ with h1 | h1
        · exact hmo Ψ h1
        · simp at h1; subst h1; exact hΦ
    have relV : ∀ v (Φ : Sq σ), (∀ u h1, Φ u h1 → u = v) → RelG ops e0 (Ss ++ [Φ]) L (updo e o.dst v) := fun v Φ hΦ => by
      refine ⟨fun f h1 d hok => ?_, fun p hp => ?_⟩
      · cases hod : o.dst with
        | none =>
          refine hr.eq f h1 d ?_
          refine ⟨fun j Ψ hj a b => hok.1 j Ψ (by simp; omega) a (by rw [get_snoc hj]; exact b), fun hn => hok.2 fun j hj => ?_⟩
          simp only [List.length_append, List.length_cons, List.length_nil] at hj
          by_cases hj' : j < Ss.length
          · exact hn j hj'
          · have : j = Ss.length := by omega
            subst this; rw [hdst, hod]; exact fun hh => by cases hh
        | some t =>
          simp only [updo]
          by_cases hdt : d = t
          · subst hdt
            rw [ovrG_notin, upd_eq]
            · exact (hΦ _ h1 (hok.1 Ss.length Φ (by simp) (by rw [hdst, hod]) (by simp))).symm
            · intro p hp hpd
              obtain ⟨k, k1, k2, _⟩ := hr.sub p hp
              exact hdist k _ k1 k2 (by rw [hod, hpd])
          · rw [ovrG_upd_ne hdt]
            refine hr.eq f h1 d ⟨fun j Ψ hj a b => hok.1 j Ψ (by simp; omega) a (by rw [get_snoc hj]; exact b), fun hn => hok.2 fun j hj => ?_⟩
            simp only [List.length_append, List.length_cons, List.length_nil] at hj
            by_cases hj' : j < Ss.length
            · exact hn j hj'
            · have : j = Ss.length := by omega
              subst this; rw [hdst, hod]; exact fun hh => by cases hh; exact hdt rfl
      · obtain ⟨k, k1, k2, k3⟩ := hr.sub p hp
        exact ⟨k, by simp; omega, k2, by rw [get_snoc k1]; exact k3⟩
    have hsel := fun cs b => Region.noSelect_spec hF.sel Ss.length o cs b hi
    simp only [OpsG] at h
    rcases h with ⟨hru, hJd, h⟩ | ⟨hru, ⟨v, hob, h⟩ | ⟨d, Φ, hod, hΦ, hob, h⟩⟩
    · refine next (fun u _ => u = undef) L _ (fun _ _ _ _ e => e) ?_ (relV undef _ fun _ _ e => e) h
      intro o' Φ' f D h1 w ho' hp' hD hl1 I hd
      rw [hi] at ho'; cases ho'
      simp at hp'; subst hp'
      have hd' := fun d hm => (OkG.snoc (Nat.le_refl _)).1 (hd d hm)
      refine ⟨fun hrt => ?_, fun _ => ⟨rfl, hJd D h1 w hD I⟩⟩
      rw [← runs_congr (hagree f h1 hd'), hru] at hrt
      cases hrt
    · refine next (fun u _ => u = v) L _ (fun _ _ _ _ e => e) ?_ (relV v _ fun _ _ e => e) h
      intro o' Φ' f D h1 w ho' hp' hD hl1 I hd
      rw [hi] at ho'; cases ho'
      simp at hp'; subst hp'
      have hd' := fun d hm => (OkG.snoc (Nat.le_refl _)).1 (hd d hm)
      refine ⟨fun _ => Op1_congr hsel (hagree f h1 hd') ((hob D h1 w hD hl1 I).get f (hLd f h1 hd')), fun hrf => ?_⟩
      rw [← runs_congr (hagree f h1 hd'), hru] at hrf
      cases hrf
    · refine next Φ ((d, Φ) :: L) e hΦ ?_ ⟨fun f h1 i hok => ?_, fun p hp => ?_⟩ h
      · intro o' Φ' f D h1 w ho' hp' hD hl1 I hd
        rw [hi] at ho'; cases ho'
        simp at hp'; subst hp'
        have hd' := fun d hm => (OkG.snoc (Nat.le_refl _)).1 (hd d hm)
        refine ⟨fun _ => Op1_congr hsel (hagree f h1 hd') ((hob D h1 w hD hl1 I).get f (hLd f h1 hd')), fun hrf => ?_⟩
        rw [← runs_congr (hagree f h1 hd'), hru] at hrf
        cases hrf
      · simp only [ovrG]
        by_cases hdt : i = d
        · subst hdt; rw [upd_eq]
        · rw [upd_ne _ _ hdt]
          refine hr.eq f h1 i ⟨fun j Ψ hj a b => hok.1 j Ψ (by simp; omega) a (by rw [get_snoc hj]; exact b), fun hn => hok.2 fun j hj => ?_⟩
          simp only [List.length_append, List.length_cons, List.length_nil] at hj
          by_cases hj' : j < Ss.length
          · exact hn j hj'
          · have : j = Ss.length := by omega
            subst this; rw [hdst, hod]; exact fun hh => by cases hh; exact hdt rfl
      · rcases List.mem_cons.1 hp with rfl | hp
        · exact ⟨Ss.length, by simp, by rw [hdst, hod], by simp⟩
        · obtain ⟨k, k1, k2, k3⟩ := hr.sub p hp
          exact ⟨k, by simp; omega, k2, by rw [get_snoc k1]; exact k3⟩

/-! ### Every order -/
structure StG (ops : Array Oper) (m : Nat) (J : (Nat → Bool) → σ → World → Prop) (R : σ → σ → Prop) (h0 : σ) (e0 : Env) (Ss : List (Sq σ)) (N : Nat) (D : List Deferred) (l : Array Bool) (a : Act) (w : World) : Prop where
  size : l.size = ops.size
  closed : Closed ops fun j => l.getD j false = true
  tail : ∀ j, m ≤ j → l.getD j false ≠ true
  n : a.tmps.size = N
  d : a.defers = D
  st : ∃ h, R h0 h ∧ J (fun j => l.getD j false) h w ∧ ∀ d, (∀ j Φ, j < m → l.getD j false = true → dstO ops j = some d → Ss[j]? = some Φ → Φ (env a d) h) ∧ ((∀ j, j < m → l.getD j false = true → dstO ops j ≠ some d) → env a d = e0 d)
theorem flow_anyG {Q : Exit → Act → World → Prop} {K : Env → World → Prop} {N : Nat} {D : List Deferred} {Ss : List (Sq σ)} (hF : Flow ops m) (hds : dstsOk N ops.toList = true) (hQ : ∀ a w, a.tmps.size = N → a.defers = D → K (env a) w → Q .normal a w)
    (hSs : Ss.length = m) (hls : ∀ k, k < m → LSG P ops J R h0 e0 Ss k) (hmo : ∀ Φ ∈ Ss, MonoG R Φ)
    (hR : Pre R) (hend : ∀ f D h1 w, (∀ j, j < m → D j = true) → R h0 h1 → J D h1 w → (∀ d, OkG ops e0 Ss m f h1 d) → Ops P ops (ops.toList.drop m) f w K) :
    ∀ (fuel : Nat) (l : Array Bool) (a : Act) (w : World), l.count false ≤ fuel → StG ops m J R h0 e0 Ss N D l a w → wpAny P .any ops Q fuel l a w := by
  have fin : ∀ (l : Array Bool) (a : Act) (w : World), StG ops m J R h0 e0 Ss N D l a w → (∀ j, j < m → l.getD j false = true) → Ops P ops (ops.toList.drop m) (env a) w K := fun l a w S hall => by
    obtain ⟨h, g1, g2, g3⟩ := S.st
    exact hend _ _ h w hall g1 g2 fun d => ⟨fun j Φ hj a b => (g3 d).1 j Φ hj (hall j hj) a b, fun hn => (g3 d).2 fun j hj _ => hn j hj⟩
  have nil : ∀ (l : Array Bool) (a : Act) (w : World), StG ops m J R h0 e0 Ss N D l a w → Region.ready .any ops l = [] → Q .normal a w := fun l a w S hr => by
    have least : ∀ n, ∀ j, j < n → j < ops.size → l.getD j false = true := by
      intro n
      induction n with
      | zero => intro j hj; omega
      | succ n ihn =>
        intro j hj hjs
        by_cases hjn : j < n
        · exact ihn j hjn hjs
        · have : j = n := by omega
          subst this
          cases hh : l.getD j false
          · exfalso
            have : j ∈ Region.ready .any ops l := mem_ready.2 ⟨by rw [getD_tf (by rw [S.size]; exact hjs)]; exact hh, ops[j], by simp [hjs], fun e he hb => by
              have := hF.back j ops[j] (by simp [hjs]) e he hb
              exact ihn e.on (by omega) (by omega)⟩
            rw [hr] at this; cases this
          · rfl
    have hms : m = ops.size := by
      rcases Nat.lt_or_ge m ops.size with h' | h'
      · exact absurd (least (m + 1) m (by omega) h') (S.tail m (Nat.le_refl m))
      · have := hF.le; omega
    have := fin l a w S fun j hj => least (j + 1) j (by omega) (by omega)
    rw [List.drop_eq_nil_of_le (by simp; omega)] at this
    exact hQ a w S.n S.d this
  intro fuel
  induction fuel with
  | zero =>
    intro l a w hc S
    have hr : Region.ready .any ops l = [] := by
      cases hr : Region.ready .any ops l with
      | nil => rfl
      | cons x xs =>
        have hx : x ∈ Region.ready .any ops l := by rw [hr]; exact List.mem_cons_self ..
        obtain ⟨h1, o, ho, _⟩ := mem_ready.1 hx
        have hlt : x < l.size := by rw [S.size]; exact (Array.getElem?_eq_some_iff.1 ho).1
        have := count_set hlt h1
        omega
    exact ⟨hr, nil l a w S hr⟩
  | succ fuel ih =>
    intro l a w hc S
    refine ⟨nil l a w S, fun i hi => ?_⟩
    obtain ⟨h1, o, ho, h2⟩ := mem_ready.1 hi
    have hlt : i < ops.size := (Array.getElem?_eq_some_iff.1 ho).1
    have hil : i < l.size := by rw [S.size]; exact hlt
    have hun : l.getD i false ≠ true := by rw [← getD_tf hil, h1]; exact fun h => by cases h
    have hdo : o.dst.all (· < N) = true := (List.all_eq_true.1 hds) o (by have := Array.mem_of_getElem? ho; simpa using this)
    have hcnt := count_set hil h1
    by_cases him : i < m
    · obtain ⟨Φ, hΦ⟩ : ∃ Φ, Ss[i]? = some Φ := ⟨Ss[i]'(by omega), by simp [hSs, him]⟩
      obtain ⟨h, g1, g2, g3⟩ := S.st
      have hDi : (fun j => l.getD j false) i = false := by simpa using hun
      have hset : (fun j => (l.setIfInBounds i true).getD j false) = setD (fun j => l.getD j false) i := by
        funext j
        rw [Bool.eq_iff_iff, set_getD hil]; simp [setD]
      have step : ∀ v w' hh, R h hh → J (setD (fun j => l.getD j false) i) hh w' → Φ v hh → wpAny P .any ops Q fuel (l.setIfInBounds i true) (a.put o.dst v) w' := fun v w' hh hle I hv => by
        refine ih _ _ w' (by omega) ⟨by simpa using S.size, fun j oj hoj hj e he hb => ?_, fun j hj hh' => ?_, by rw [size_put, S.n], by rw [defers_put, S.d], hh, hR.trans _ _ _ g1 hle, by rw [hset]; exact I, fun d => ?_⟩
        · simp only [set_getD hil] at hj ⊢
          rcases hj with rfl | hj
          · rw [ho] at hoj; cases hoj; exact .inr (h2 e he hb)
          · exact .inr (S.closed j oj hoj hj e he hb)
        · rw [set_getD hil] at hh'
          rcases hh' with rfl | hh'
          · omega
          · exact S.tail j hj hh'
        · rw [env_puto a _ v (by rw [S.n]; exact hdo)]
          have other : o.dst ≠ some d → updo (env a) o.dst v d = env a d := fun hne => by
            cases hod : o.dst with
            | none => rfl
            | some t => exact upd_ne _ _ fun e => hne (by rw [hod, e])
          by_cases hod : o.dst = some d
          · rw [hod]
            simp only [updo, upd_eq]
            refine ⟨fun j Ψ hj hlj hdj hΨ => ?_, fun hn => absurd (by simp [dstO, ho, hod]) (hn i him (by rw [set_getD hil]; exact .inl rfl))⟩
            cases hoj : ops[j]? with
            | none => simp [dstO, hoj] at hdj
            | some oj =>
              simp [dstO, hoj] at hdj
              have := hF.dist j i oj o d hj him hoj ho hdj hod
              subst this
              rw [hΦ] at hΨ; cases hΨ; exact hv
          · rw [other hod]
            refine ⟨fun j Ψ hj hlj hdj hΨ => ?_, fun hn => (g3 d).2 fun j hj hlj => hn j hj (by rw [set_getD hil]; exact .inr hlj)⟩
            rw [set_getD hil] at hlj
            rcases hlj with rfl | hlj
            · simp [dstO, ho] at hdj; exact absurd hdj hod
            · exact hmo Ψ (List.mem_of_getElem? hΨ) _ h hh hle ((g3 d).1 j Ψ hj hlj hdj hΨ)
      have hok : ∀ d ∈ o.looksAt ops, OkG ops e0 Ss i (env a) h d := fun d hd => by
        refine ⟨fun j Ψ hj hdj hΨ => ?_, fun hn => (g3 d).2 fun j hj hlj hdj => ?_⟩
        · cases hoj : ops[j]? with
          | none => simp [dstO, hoj] at hdj
          | some oj =>
            simp [dstO, hoj] at hdj
            have := (hF.reads i j o oj d him (by omega) (by omega) ho hoj hdj hd).1 hj
            exact (g3 d).1 j Ψ (by omega) (wt_L (L := fun j => l.getD j false = true) this h2) (by simp [dstO, hoj, hdj]) hΨ
        · rcases Nat.lt_trichotomy j i with h' | h' | h'
          · exact hn j h' hdj
          · subst h'; exact hun hlj
          · cases hoj : ops[j]? with
            | none => simp [dstO, hoj] at hdj
            | some oj =>
              simp [dstO, hoj] at hdj
              have := (hF.reads i j o oj d him hj (by omega) ho hoj hdj hd).2 h'
              exact hun (wt_L (L := fun j => l.getD j false = true) this (S.closed j oj hoj hlj))
      have hls' := hls i him o Φ (env a) _ h w ho hΦ hDi g1 g2 hok
      refine wpOp_of ho ?_
      split
      · rename_i hr
        exact (hls'.1 hr).mono fun v w' ⟨hh, k1, k2, k3⟩ => step v w' hh k1 k2 k3
      · rename_i hr
        exact step undef w h (hR.refl h) (hls'.2 (by simpa using hr)).2 (hls'.2 (by simpa using hr)).1
    · have hall := hF.tail (fun j => l.getD j false = true) S.closed i o (by omega) ho h2
      have him' : i = m := by
        rcases Nat.lt_or_ge m i with h' | h'
        · exact absurd (hall m h') (S.tail m (Nat.le_refl m))
        · omega
      subst him'
      have hl : ∀ j, l.getD j false = true ↔ j < i := fun j => ⟨fun hj => by
        rcases Nat.lt_or_ge j i with h' | h'
        · exact h'
        · exact absurd hj (S.tail j h'), hall j⟩
      have hle : ops.size - i ≤ fuel + 1 := by
        have : ∀ n k (l : Array Bool), l.size = ops.size → k + n = ops.size → (∀ j, k ≤ j → l.getD j false ≠ true) → n ≤ l.count false := by
          intro n
          induction n with
          | zero => intro k l _ _ _; omega
          | succ n ihn =>
            intro k l hs hk hj
            have hks : k < l.size := by omega
            have hkf : l.getD k true = false := by
              rw [getD_tf hks]
              cases hh : l.getD k false
              · rfl
              · exact absurd hh (hj k (Nat.le_refl k))
            have h3 := ihn (k + 1) (l.setIfInBounds k true) (by simpa using hs) (by omega) (fun j hj' => by
              rw [Ne, set_getD hks]; rintro (h | h)
              · omega
              · exact hj j (by omega) h)
            have := count_set hks hkf
            omega
        have := this (ops.size - i) i l S.size (by omega) S.tail
        omega
      have hT := flow_tail (P := P) hF hds hQ (fuel + 1) i l a w (Nat.le_refl i) hF.le hle S.size hl S.n S.d (fin l a w S hall)
      exact hT.2 i hi
end
end
theorem WP.regionG {σ : Type} {P : Program} {N : Nat} {D : List Deferred} {e : Env} {w : World} {Q : Exit → Env → World → Prop} {id : Nat} {ops : Array Oper} {J : (Nat → Bool) → σ → World → Prop} {R : σ → σ → Prop} (hm : Mixed P) (hR : Pre R) (s0 : σ) (I : J (fun _ => false) s0 w.drew) (m : Nat) (hB : flowB ops m = true)
    (k : OpsG P ops J R s0 0 [] (ops.toList.take m) e (fun L e' => ∀ D h1 w1, (∀ j, j < m → D j = true) → R s0 h1 → J D h1 w1 → AllG (fun _ => true) h1 L e' fun e'' => Ops P ops (ops.toList.drop m) e'' w1 (fun e3 w3 => Q .normal e3 w3))) : WP P N D (.region id ops true) e w Q := by
  intro hs a h1 h2 h3
  subst h3
  have hF := flow_of hB
  obtain ⟨Ss, L, e', hlen, hrel, hls, hmo, hK⟩ := OpsG.sound (e0 := env a) hF _ [] [] (env a) _ (fun j => by simp) (by simp [hF.le]) ⟨fun f h1 d ho => (ho.2 (by simp)).symm, by simp⟩ (by simp) (by simp) k
  refine wp_region_any hm ?_
  refine flow_anyG (K := fun e3 w3 => Q .normal e3 w3) (N := N) (D := D) hF hs (fun a w g1 g2 g3 => ⟨g1, g2, g3⟩) hlen hls hmo hR (fun f D h1 w1 hD hl I1 hok => ?_) ops.size _ a _ (by simp) ⟨by simp, ?_, ?_, h1, h2, s0, hR.refl s0, ?_, fun d => ⟨?_, fun _ => rfl⟩⟩
  · have hov : ovrG e' L f = f := by funext d; exact hrel.eq f h1 d (hlen ▸ hok d)
    have := (hK D h1 w1 hD hl I1).get f fun p hp _ => by
      obtain ⟨k, k1, k2, k3⟩ := hrel.sub p hp
      exact (hok p.1).1 k p.2 (hlen ▸ k1) k2 k3
    rwa [hov] at this
  · intro i o _ hl
    simp [Array.getD_eq_getD_getElem?, Array.getElem?_replicate] at hl
    split at hl <;> simp at hl
  · intro j _ hl
    simp [Array.getD_eq_getD_getElem?, Array.getElem?_replicate] at hl
    split at hl <;> simp at hl
  · have : (fun j => (Array.replicate ops.size false).getD j false) = fun _ => false := by
      funext j
      simp [Array.getD_eq_getD_getElem?, Array.getElem?_replicate]
      split <;> rfl
    rw [this]; exact I
  · intro j Φ _ hl
    simp [Array.getD_eq_getD_getElem?, Array.getElem?_replicate] at hl
    split at hl <;> simp at hl
section
variable {σ : Type} {P : Program} {full : Array Oper} {J : (Nat → Bool) → σ → World → Prop} {R : σ → σ → Prop} {h0 : σ} {k : Nat} {L : List (Nat × Sq σ)} {rest : List Oper} {e : Env} {K : List (Nat × Sq σ) → Env → Prop}
variable {op : Op} {t : TypeId} {pos : String} {af : Array Edge}
theorem OpsG.nil (h : K L e) : OpsG P full J R h0 k L [] e K := h
theorem ovrG_us {e us us' : Env} {d : Nat} (h : ∀ j, j ≠ d → us j = us' j) : ∀ (L : List (Nat × Sq σ)) {i : Nat}, i ≠ d → ovrG e L us i = ovrG e L us' i
  | [], _, _ => rfl
  | p :: L, i, hi => by
    simp only [ovrG]
    by_cases hp : i = p.1
    · subst hp; rw [upd_eq, upd_eq, h _ hi]
    · rw [upd_ne _ _ hp, upd_ne _ _ hp, ovrG_us h L hi]
theorem AllG.all {c : Nat → Bool} {h : σ} : ∀ {L : List (Nat × Sq σ)} {e : Env} {k : Env → Prop}, (∀ us, k (ovrG e L us)) → AllG c h L e k
  | [], _, _, hk => hk fun _ => undef
  | p :: L, e, k, hk => AllG.all (L := L) fun us u _ => by
    have h1 := hk (upd us p.1 u)
    have h2 : upd (ovrG e L (upd us p.1 u)) p.1 u = upd (ovrG e L us) p.1 u := by
      funext i
      by_cases hi : i = p.1
      · subst hi; rw [upd_eq, upd_eq]
      · rw [upd_ne _ _ hi, upd_ne _ _ hi]; exact ovrG_us (fun j hj => upd_ne _ _ hj) L hi
    simp only [ovrG, upd_eq, h2] at h1
    exact h1
theorem OpsG.y_ {d : Nat} {g : Option (Nat × Bool)} {v : Value} (hr : ∀ us, runs full (ovrG e L us) ⟨some d, op, t, pos, af, g⟩ = true) (hR : Pre R) (hJ : ∀ D s w, J D s w → J (setD D k) s w)
    (hy : ∀ D h1 w us, R h0 h1 → J D h1 w → Y P ⟨some d, op, t, pos, af, g⟩ (ovrG e L us) w v) (h : OpsG P full J R h0 (k + 1) L rest (upd e d v) K) :
    OpsG P full J R h0 k L (⟨some d, op, t, pos, af, g⟩ :: rest) e K :=
  .inr ⟨hr, .inl ⟨v, fun D h1 w _ hl I => AllG.all fun us => by unfold Op1; rw [hy D h1 w us hl I]; exact ⟨h1, hR.refl h1, hJ D h1 w I, rfl⟩, h⟩⟩
theorem OpsG.x_ {d : Nat} {g : Option (Nat × Bool)} {Φ : Sq σ} (hm : MonoG R Φ) (hr : ∀ us, runs full (ovrG e L us) ⟨some d, op, t, pos, af, g⟩ = true)
    (hy : OblG P full J R h0 k L e ⟨some d, op, t, pos, af, g⟩ Φ) (h : OpsG P full J R h0 (k + 1) ((d, Φ) :: L) rest e K) :
    OpsG P full J R h0 k L (⟨some d, op, t, pos, af, g⟩ :: rest) e K :=
  .inr ⟨hr, .inr ⟨d, Φ, rfl, hm, hy, h⟩⟩
/-- An operation that yields nothing. -/
theorem OpsG.s_ {g : Option (Nat × Bool)} (hr : ∀ us, runs full (ovrG e L us) ⟨none, op, t, pos, af, g⟩ = true)
    (hy : OblG P full J R h0 k L e ⟨none, op, t, pos, af, g⟩ (fun u _ => u = undef)) (h : OpsG P full J R h0 (k + 1) L rest e K) :
    OpsG P full J R h0 k L (⟨none, op, t, pos, af, g⟩ :: rest) e K :=
  .inr ⟨hr, .inl ⟨undef, hy, h⟩⟩
theorem runsG_none (us : Env) {d : Option Nat} : runs full (ovrG e L us) ⟨d, op, t, pos, af, none⟩ = true := rfl
end
end Go.TF
end
section
/- A drawn region that makes two variables and writes the first of them in it. -/
namespace Go.TF
open Go Go.RowKit

structure BxS where
  h : Heap
  o7 : Option Nat
  o8 : Option Nat
def pcs (o : Option Nat) (f : Bool) (z c : List Value) (T : TypeId) : List SA := match o with
  | none => []
  | some b => [box b (if f then c else z) T]
/-- Operations i7, i8 make the variables, i12 writes the first. -/
structure JBx (B : Base) (M : List SA) (T : TypeId) (z c : List Value) (i7 i8 i12 : Nat) (D : Nat → Bool) (s : BxS) (w : World) : Prop where
  h7 : s.o7.isSome = D i7
  h8 : s.o8.isSome = D i8
  ord : D i12 = true → D i7 = true
  inv : Inv B s.h (pcs s.o7 (D i12) z c T ++ (pcs s.o8 false z c T ++ M)) w
structure RBx (s s' : BxS) : Prop where
  h : s.h.le s'.h
  h7 : ∀ b, s.o7 = some b → s'.o7 = some b
  h8 : ∀ b, s.o8 = some b → s'.o8 = some b
theorem RBx.pre : Pre RBx := ⟨fun _ => ⟨Heap.le.refl _, fun _ h => h, fun _ h => h⟩, fun _ _ _ h k => ⟨h.h.trans k.h, fun b e => k.h7 b (h.h7 b e), fun b e => k.h8 b (h.h8 b e)⟩⟩
section
variable {B : Base} {M : List SA} {T : TypeId} {z c : List Value} {i7 i8 i12 k : Nat} {D : Nat → Bool} {s : BxS} {w : World}
theorem JBx.base (j : JBx B M T z c i7 i8 i12 D s w) : Inv B s.h M w := j.inv.weak ((List.sublist_append_right _ _).trans (List.sublist_append_right _ _))
theorem JBx.set (h : i7 ≠ k ∧ i8 ≠ k ∧ i12 ≠ k) : ∀ D s w, JBx B M T z c i7 i8 i12 D s w → JBx B M T z c i7 i8 i12 (setD D k) s w := fun D s w j => by
  have e : ∀ i, i ≠ k → setD D k i = D i := fun i hi => by simp [setD, hi]
  exact ⟨by rw [e _ h.1]; exact j.h7, by rw [e _ h.2.1]; exact j.h8, by rw [e _ h.1, e _ h.2.2]; exact j.ord, by rw [e _ h.2.2]; exact j.inv⟩
def At7 (u : Value) (s : BxS) : Prop := ∃ b, u = .pointer (some ⟨b, 0, none⟩) ∧ s.o7 = some b
def At8 (u : Value) (s : BxS) : Prop := ∃ b, u = .pointer (some ⟨b, 0, none⟩) ∧ s.o8 = some b
theorem At7.mono : MonoG RBx At7 := fun _ _ _ r ⟨b, h1, h2⟩ => ⟨b, h1, r.h7 b h2⟩
theorem At8.mono : MonoG RBx At8 := fun _ _ _ r ⟨b, h1, h2⟩ => ⟨b, h1, r.h8 b h2⟩
end
section
variable {P : Program} {full : Array Oper} {B : Base} {M : List SA} {T : TypeId} {z c : List Value} {i7 i8 i12 k : Nat} {h0 : BxS} {L : List (Nat × Sq BxS)} {rest : List Oper} {e : Env} {K : List (Nat × Sq BxS) → Env → Prop}
variable {t : TypeId} {pos : String} {af : Array Edge}
theorem OpsG.make7 {d : Nat} {zv : Value} (hz : Zero P T zv) (hc : zv.cells = z.toArray) (h78 : i8 ≠ i7) (h712 : i12 ≠ i7) (h : OpsG P full (JBx B M T z c i7 i8 i12) RBx h0 (i7 + 1) ((d, At7) :: L) rest e K) :
    OpsG P full (JBx B M T z c i7 i8 i12) RBx h0 i7 L (⟨some d, .alloc T, t, pos, af, none⟩ :: rest) e K := by
  refine OpsG.x_ At7.mono (fun _ => runsG_none _) (fun D s w hDk hl hj => AllG.all fun us => ?_) h
  have h7 : s.o7 = none := by
    have := hj.h7
    rw [hDk] at this
    cases h : s.o7 <;> simp_all
  have h12 : D i12 = false := by
    cases hh : D i12
    · rfl
    · rw [hj.ord hh] at hDk; cases hDk
  have I := hj.inv
  rw [h7] at I
  refine O.alloc I hz hc fun b w' I' => ⟨⟨s.h, some b, s.o8⟩, ⟨Heap.le.refl _, fun b' e => (by rw [h7] at e; cases e), fun _ e => e⟩, ⟨?_, ?_, fun _ => by simp [setD], ?_⟩, b, rfl, rfl⟩
  · simp [setD]
  · rw [show setD D i7 i8 = D i8 from by simp [setD, h78]]; exact hj.h8
  · rw [show setD D i7 i12 = false from by simp [setD, h712, h12]]
    exact I'
theorem OpsG.make8 {d : Nat} {zv : Value} (hz : Zero P T zv) (hc : zv.cells = z.toArray) (h78 : i7 ≠ i8) (h812 : i12 ≠ i8) (h : OpsG P full (JBx B M T z c i7 i8 i12) RBx h0 (i8 + 1) ((d, At8) :: L) rest e K) :
    OpsG P full (JBx B M T z c i7 i8 i12) RBx h0 i8 L (⟨some d, .alloc T, t, pos, af, none⟩ :: rest) e K := by
  refine OpsG.x_ At8.mono (fun _ => runsG_none _) (fun D s w hDk hl hj => AllG.all fun us => ?_) h
  have h8 : s.o8 = none := by
    have := hj.h8
    rw [hDk] at this
    cases h : s.o8 <;> simp_all
  have I := hj.inv
  rw [h8] at I
  refine O.alloc I hz hc fun b w' I' => ⟨⟨s.h, s.o7, some b⟩, ⟨Heap.le.refl _, fun _ e => e, fun b' e => (by rw [h8] at e; cases e)⟩, ⟨?_, ?_, ?_, ?_⟩, b, rfl, rfl⟩
  · rw [show setD D i8 i7 = D i7 from by simp [setD, h78]]; exact hj.h7
  · simp [setD]
  · rw [show setD D i8 i12 = D i12 from by simp [setD, h812], show setD D i8 i7 = D i7 from by simp [setD, h78]]; exact hj.ord
  · rw [show setD D i8 i12 = D i12 from by simp [setD, h812]]
    exact I'.perm List.perm_middle
theorem OpsG.store7 {a x : Operand} {n : Nat} {ag : Bool} {v : Value} (hT : Ty P T n ag) (hl7 : z.length = n) (hcl : c.length = n) (hL : ∀ s, AllG (lk full ⟨none, .store T a x, t, pos, af, none⟩) s L e (fun e' => At7 (ev e' a) s ∧ ev e' x = v)) (hv : v.cells = c.toArray) (h1 : oneCells c = true) (h7k : i7 ≠ i12) (h8k : i8 ≠ i12)
    (h : OpsG P full (JBx B M T z c i7 i8 i12) RBx h0 (i12 + 1) L rest e K) : OpsG P full (JBx B M T z c i7 i8 i12) RBx h0 i12 L (⟨none, .store T a x, t, pos, af, none⟩ :: rest) e K := by
  refine OpsG.s_ (fun _ => runsG_none _) (fun D s w hDk hl hj => ?_) h
  have key : ∀ (L : List (Nat × Sq BxS)) (e : Env) (k k' : Env → Prop), (∀ x, k x → k' x) → AllG (lk full ⟨none, .store T a x, t, pos, af, none⟩) s L e k → AllG (lk full ⟨none, .store T a x, t, pos, af, none⟩) s L e k' := by
    intro L
    induction L with
    | nil => intro e k k' hk a; exact hk _ a
    | cons p L ih => intro e k k' hk a; exact ih e _ _ (fun x hx u hu => hk _ (hx u hu)) a
  refine key L e _ _ ?_ (hL s)
  rintro e' ⟨⟨b, ha, hb⟩, hx⟩
  have I := hj.inv
  rw [hb, hDk] at I
  refine O.store (cs' := c) I hT 0 rfl ha hx hv hcl h1 (by simp only [Bool.false_eq_true, if_false]; omega) ?_ fun w' I' => ⟨s, RBx.pre.refl s, ⟨?_, ?_, fun _ => ?_, ?_⟩, rfl⟩
  · simp only [Bool.false_eq_true, if_false]
    rw [putAt_eq _ _ _ (Nat.zero_le _)]
    simp [hcl, hl7]
  · rw [show setD D i12 i7 = D i7 from by simp [setD, h7k]]; exact hj.h7
  · rw [show setD D i12 i8 = D i8 from by simp [setD, h8k]]; exact hj.h8
  · rw [show setD D i12 i7 = D i7 from by simp [setD, h7k], ← hj.h7, hb]; rfl
  · rw [hb, show setD D i12 i12 = true from by simp [setD]]
    exact I'
/-- A quiet call. -/
theorem OpsG.c_ {d : Nat} {op : Op} {v : Value} (h7 : i7 ≠ k ∧ i8 ≠ k ∧ i12 ≠ k) (hy : ∀ D s w us, RBx h0 s → JBx B M T z c i7 i8 i12 D s w → Op1 P ⟨some d, op, t, pos, af, none⟩ (ovrG e L us) w fun u w' => u = v ∧ JBx B M T z c i7 i8 i12 D s w') (h : OpsG P full (JBx B M T z c i7 i8 i12) RBx h0 (k + 1) L rest (upd e d v) K) :
    OpsG P full (JBx B M T z c i7 i8 i12) RBx h0 k L (⟨some d, op, t, pos, af, none⟩ :: rest) e K :=
  .inr ⟨fun _ => runsG_none _, .inl ⟨v, fun D s w _ hl hj => AllG.all fun us => (hy D s w us hl hj).mono fun _ _ ⟨a, b⟩ => ⟨s, RBx.pre.refl s, JBx.set h7 D s _ b, a⟩, h⟩⟩
end
end Go.TF
end
section
/- Ranging over an iterator: what is known may grow from round to round. -/
namespace Go.TF
open Go Go.RowKit

theorem WPD.regionQ {P : Program} {N : Nat} {D : List Deferred} {e : Env} {w : World} {Q : Exit → Env → World → List Deferred → Prop} {id : Nat} {ops : Array Oper} {B : Base} {h : Heap} {M : List SA} (hm : Mixed P) (I : Inv B h M w) (hB : Region.lexB .any ops = true)
    (k : OpsQ P ops (Inv B h M) ops.toList e (fun e' => ∀ w', Inv B h M w' → Q .normal e' w' D)) : WPD P N D (.region id ops true) e w Q := WPD.of (WP.regionQ hm I hB k)
theorem O.yx {P : Program} {o : Oper} {e : Env} {w : World} {B : Base} {h : Heap} {M : List SA} {Φ : Sp} {v : Value} (I : Inv B h M w) (hy : Y P o e w v) (hv : Φ v h) : Op1 P o e w (fun u w' => ∃ h2, h.le h2 ∧ Inv B h2 M w' ∧ Φ u h2) := by
  unfold Op1; rw [hy]; exact ⟨h, Heap.le.refl _, I, hv⟩
end Go.TF
end
section
/- Bytes as text. -/
namespace Go.TF
open Go Go.RowKit

@[reducible] def bEn8 (c : UInt8) : List Value := [.int .u8 (c.toNat : Int)]
theorem flat_b8 : ∀ l : List UInt8, l.flatMap bEn8 = l.map fun c => Value.int .u8 (c.toNat : Int)
  | [] => rfl
  | y :: r => by rw [List.flatMap_cons, flat_b8 r]; rfl
section
variable {P : Program} {e : Env} {w : World} {t : TypeId} {pos : String} {af : Array Edge} {g : Option (Nat × Bool)} {d : Option Nat}
theorem Y.b2s {S T el b o n c : Nat} {x : Operand} {l : List UInt8} (hs : Und P S (.slice el)) (he : Und P el (.int .u8)) (hd : Und P T .string) (hx : ev e x = .slice (some ⟨b, o, none⟩) n c) (hr : Rd w b o (l.flatMap bEn8) ∧ l.length = n) :
    Y P ⟨d, .convert S T x, t, pos, af, g⟩ e w (.string ⟨l.toArray⟩) := by
  obtain ⟨hr, rfl⟩ := hr
  have hfl := flat_b8 l
  have hc : ∀ j (hj : j < l.length), w.cell? ((⟨b, o, none⟩ : Addr).add j) = some (.int .u8 (l[j].toNat : Int)) := fun j hj => by
    rw [addr_add]
    exact hr j _ (by rw [hfl, List.getElem?_map, List.getElem?_eq_getElem hj]; rfl)
  have := run_convert_bytes_back (P := P) w S T el ⟨b, o, none⟩ c l hs he hd hc
  simp [Y, execOp, hx, this]
theorem Y.b2s1 {S T el b : Nat} {x : Operand} {c : UInt8} {h : Heap} {B : Base} {M : List SA} (I : Inv B h M w) (hs : Und P S (.slice el)) (he : Und P el (.int .u8)) (hd : Und P T .string) (hx : ev e x = .slice (some ⟨b, 0, none⟩) 1 1) (hr : (⟨some ⟨b, 0, none⟩, 1, [c]⟩ : Sl UInt8).In 1 bEn8 h) :
    Y P ⟨d, .convert S T x, t, pos, af, g⟩ e w (.string ⟨#[c]⟩) := Y.b2s (l := [c]) hs he hd hx ⟨I.rd (hr 0 c rfl).2, rfl⟩
end
/-- One byte of a number. -/
def chT (c : Int) : ByteArray := ⟨#[UInt8.ofNat c.toNat]⟩
theorem chT_size (c : Int) : (chT c).size = 1 := rfl
theorem wrap_u8 {c : Int} (h0 : 0 ≤ c) (h1 : c < 256) : IntKind.u8.wrap c = c := by
  simp only [IntKind.wrap, IntKind.bits, IntKind.signed]
  simp
  omega
theorem ch_byte {c : Int} (h0 : 0 ≤ c) (h1 : c < 256) : ((UInt8.ofNat c.toNat).toNat : Int) = c := by
  rw [UInt8.toNat_ofNat']
  omega
end Go.TF
end
section
/- What values' functions compute: plain. -/
namespace Go.TF
open Go

def within (n lo hi : Int) : Prop := lo ≤ n ∧ n ≤ hi
instance (n lo hi : Int) : Decidable (within n lo hi) := inferInstanceAs (Decidable (_ ∧ _))
def checkVal (kind v : Int) : Int := if kind < 0 ∨ 3 < kind then 4 else if (kind = 0 ∧ v ≠ 0) ∨ v < 0 ∨ 15 < v then 3 else 0
def joinV (kind a b : Int) : Int := if kind = 1 then max a b else if kind = 2 then min a b else if kind = 3 then orI a b else 0
end Go.TF
end
section
/- Values in plain Lean: joining is commutative, associative, idempotent; what is below is below, lifted too. -/
namespace Go.TF
open Go

abbrev VOk (kind v : Int) : Prop := checkVal kind v = 0
end Go.TF
end
section
/- Predicates, terms, atoms, literals, rules, programs as they lie; what package rule computes: plain. -/
namespace Go.TF
open Go

structure Prd where
  name : ByteArray
  arity : Int
  kind : Int
structure Trm where
  var : Bool
  n : Int
structure Atm where
  pred : Int
  args : Sl Trm
structure Ltl where
  neg : Bool
  atom : Atm
structure Rul where
  head : Atm
  src : Int
  n : Int
  body : Sl Ltl
structure Prg where
  preds : Sl Prd
  rules : Sl Rul
@[reducible] def Prd.enc (x : Prd) : List Value := [.string x.name, .int .i64 x.arity, .int .i64 x.kind]
@[reducible] def Trm.enc (x : Trm) : List Value := [.bool x.var, .int .i64 x.n]
@[reducible] def Atm.enc (x : Atm) : List Value := [.int .i64 x.pred, x.args.val]
@[reducible] def Ltl.enc (x : Ltl) : List Value := [.bool x.neg, .int .i64 x.atom.pred, x.atom.args.val]
@[reducible] def Rul.enc (x : Rul) : List Value := [.int .i64 x.head.pred, x.head.args.val, .int .i64 x.src, .int .i64 x.n, x.body.val]
@[reducible] def Prg.enc (x : Prg) : List Value := [x.preds.val, x.rules.val]
@[reducible] def Prd.val (x : Prd) : Value := .agg #[.string x.name, .int .i64 x.arity, .int .i64 x.kind]
@[reducible] def Trm.val (x : Trm) : Value := .agg #[.bool x.var, .int .i64 x.n]
@[reducible] def Atm.val (x : Atm) : Value := .agg #[.int .i64 x.pred, x.args.val]
@[reducible] def Ltl.val (x : Ltl) : Value := .agg #[.bool x.neg, .int .i64 x.atom.pred, x.atom.args.val]
@[reducible] def Rul.val (x : Rul) : Value := .agg #[.int .i64 x.head.pred, x.head.args.val, .int .i64 x.src, .int .i64 x.n, x.body.val]
@[reducible] def Prg.val (x : Prg) : Value := .agg #[x.preds.val, x.rules.val]

/-- A slice whose elements are known for good, and not too many. -/
structure Sl.Is {α : Type} (s : Sl α) (k : Nat) (enc : α → List Value) (h : Heap) : Prop where
  el : s.In k enc h
  small : s.xs.length ≤ 140737488355328
theorem Sl.Is.le {α : Type} {s : Sl α} {k : Nat} {enc : α → List Value} {h h' : Heap} (hs : s.Is k enc h) (hl : h.le h') : s.Is k enc h' := ⟨hs.el.le hl, hs.small⟩
theorem Sl.Is.at {α : Type} {s : Sl α} {k : Nat} {enc : α → List Value} {h : Heap} (hs : s.Is k enc h) {i : Nat} (hi : i < s.xs.length) : El s k enc h i s.xs[i] := hs.el.el (List.getElem?_eq_getElem hi)
abbrev Prds (l : Sl Prd) (h : Heap) : Prop := l.Is 3 Prd.enc h
abbrev Trms (l : Sl Trm) (h : Heap) : Prop := l.Is 2 Trm.enc h
def Atm.In (a : Atm) (h : Heap) : Prop := Trms a.args h
def Ltl.In (x : Ltl) (h : Heap) : Prop := x.atom.In h
structure Ltls (l : Sl Ltl) (h : Heap) : Prop where
  is : l.Is 3 Ltl.enc h
  each : ∀ x ∈ l.xs, x.In h
structure Rul.In (r : Rul) (h : Heap) : Prop where
  head : r.head.In h
  body : Ltls r.body h
structure Ruls (l : Sl Rul) (h : Heap) : Prop where
  is : l.Is 5 Rul.enc h
  each : ∀ x ∈ l.xs, x.In h
structure Prg.In (p : Prg) (h : Heap) : Prop where
  preds : Prds p.preds h
  rules : Ruls p.rules h
theorem Atm.In.le {a : Atm} {h h' : Heap} (ha : a.In h) (hl : h.le h') : a.In h' := Sl.Is.le ha hl
theorem Ltl.In.le {x : Ltl} {h h' : Heap} (hx : x.In h) (hl : h.le h') : x.In h' := Atm.In.le hx hl
theorem Ltls.le {l : Sl Ltl} {h h' : Heap} (x : Ltls l h) (hl : h.le h') : Ltls l h' := ⟨x.is.le hl, fun y hy => (x.each y hy).le hl⟩
theorem Rul.In.le {r : Rul} {h h' : Heap} (x : r.In h) (hl : h.le h') : r.In h' := ⟨x.head.le hl, x.body.le hl⟩
theorem Ruls.le {l : Sl Rul} {h h' : Heap} (x : Ruls l h) (hl : h.le h') : Ruls l h' := ⟨x.is.le hl, fun y hy => (x.each y hy).le hl⟩
theorem Prg.In.le {p : Prg} {h h' : Heap} (x : p.In h) (hl : h.le h') : p.In h' := ⟨x.preds.le hl, x.rules.le hl⟩

/-! ### What is computed -/
def termOk (t : Trm) : Bool := if t.var then decide (0 ≤ t.n ∧ t.n < 3) else decide (0 ≤ t.n ∧ t.n ≤ 4)
theorem termOk_iff (t : Trm) : termOk t = true ↔ within t.n 0 (if t.var = true then 2 else 4) := by
  unfold termOk within; split <;> simp_all <;> omega
def argsErr (l : List Trm) : Int := if l.all termOk then 0 else 3
instance : Inhabited Prd := ⟨⟨ByteArray.empty, 0, 0⟩⟩
instance : Inhabited Trm := ⟨⟨false, 0⟩⟩
instance {α : Type} : Inhabited (Sl α) := ⟨⟨none, 0, []⟩⟩
instance : Inhabited Atm := ⟨⟨0, default⟩⟩
instance : Inhabited Ltl := ⟨⟨false, default⟩⟩
instance : Inhabited Rul := ⟨⟨default, 0, 0, default⟩⟩
def predOf (l : List Prd) (p : Int) : Prd := l.getD p.toNat default
def checkAtom (l : List Prd) (a : Atm) : Int :=
  if a.pred < 0 ∨ (l.length : Int) ≤ a.pred then 7 else if (a.args.xs.length : Int) ≠ (predOf l a.pred).arity then 1 else argsErr a.args.xs
def standsIn (a : Atm) (v : Int) : Bool := a.args.xs.any fun t => t.var && decide (t.n = v)
def boundIn (r : Rul) (v : Int) : Bool := r.body.xs.any fun x => !x.neg && standsIn x.atom v
def bodyErr (l : List Prd) : List Ltl → Int
  | [] => 0
  | x :: r => if checkAtom l x.atom ≠ 0 then checkAtom l x.atom else bodyErr l r
def freeVar (r : Rul) (v : Int) : Bool := (standsIn r.head v || r.body.xs.any fun x => standsIn x.atom v) && !boundIn r v
def litOf (r : Rul) (k : Int) : Ltl := r.body.xs.getD k.toNat default
def checkRule (l : List Prd) (r : Rul) : Int :=
  if checkAtom l r.head ≠ 0 then checkAtom l r.head
  else if 3 < r.body.xs.length then 2
  else if bodyErr l r.body.xs ≠ 0 then bodyErr l r.body.xs
  else if freeVar r 0 || freeVar r 1 || freeVar r 2 then 9
  else if r.src < -1 ∨ (r.body.xs.length : Int) ≤ r.src then 3
  else if (predOf l r.head.pred).kind = 0 ∧ (r.src ≠ -1 ∨ r.n ≠ 0) then 1
  else if 0 ≤ r.src ∧ ((litOf r r.src).neg = true ∨ (predOf l (litOf r r.src).atom.pred).kind ≠ (predOf l r.head.pred).kind) then 1
  else if r.n < 0 ∨ 15 < r.n then 3
  else 0
theorem predOf_get {l : List Prd} {p : Int} (h0 : 0 ≤ p) (h1 : p < l.length) : l[p.toNat]? = some (predOf l p) := by
  have : p.toNat < l.length := by omega
  simp [predOf, List.getD_eq_getElem?_getD, this]
end Go.TF
end
section
/- How often variables stand in atoms; what a rule's literals are: plain. -/
namespace Go.TF
open Go

theorem bT {p : Prop} [Decidable p] (h : p) : Value.bool true = .bool (decide p) := by rw [decide_eq_true h]
theorem bF {p : Prop} [Decidable p] (h : ¬p) : Value.bool false = .bool (decide p) := by rw [decide_eq_false h]
def cntT (l : List Trm) (v : Int) : Nat := l.countP fun t => t.var && decide (t.n = v)
def cntA : List Atm → Int → Nat
  | [], _ => 0
  | a :: r, v => cntT a.args.xs v + cntA r v
theorem cntA_append (l r : List Atm) (v : Int) : cntA (l ++ r) v = cntA l v + cntA r v := by
  induction l with
  | nil => simp [cntA]
  | cons a l ih => simp only [List.cons_append, cntA, ih]; omega
def CountOf (es : List (Int × Int)) (f : Int → Nat) : Prop := ∀ v, ilook es v = if f v = 0 then none else some (f v : Int)
theorem CountOf.nil : CountOf [] (cntA []) := fun _ => rfl
theorem CountOf.same {es : List (Int × Int)} {f g : Int → Nat} (h : CountOf es f) (hg : ∀ v, g v = f v) : CountOf es g := (funext hg : g = f) ▸ h
theorem CountOf.get {es : List (Int × Int)} {f : Int → Nat} (h : CountOf es f) (v : Int) : (ilook es v).getD 0 = (f v : Int) := by
  rw [h v]; split <;> simp_all
theorem CountOf.put {es : List (Int × Int)} {f g : Int → Nat} (h : CountOf es f) (n : Int) (hg : ∀ v, g v = if v = n then f v + 1 else f v) : CountOf (iset es n ((ilook es n).getD 0 + 1)) g := by
  intro v
  rw [ilook_iset, h.get n, h v, hg v]
  by_cases e : v = n
  · subst e; simp
  · simp [e]
theorem ilook_some_mem {es : List (Int × Int)} {v x : Int} (h : ilook es v = some x) : (v, x) ∈ es := by
  induction es with
  | nil => simp [ilook] at h
  | cons p r ih =>
    obtain ⟨k, w⟩ := p
    simp only [ilook] at h
    split at h
    · rename_i e; subst e; cases h; exact List.mem_cons_self ..
    · exact List.mem_cons_of_mem _ (ih h)
theorem mem_ilook {es : List (Int × Int)} {v x : Int} (h : (v, x) ∈ es) : ilook es v ≠ none := by
  induction es with
  | nil => cases h
  | cons p r ih =>
    obtain ⟨k, w⟩ := p
    simp only [ilook]
    split
    · simp
    · rename_i e
      rcases List.mem_cons.1 h with h | h
      · cases h; exact absurd rfl e
      · exact ih h
theorem cntT_le (l : List Trm) (v : Int) : cntT l v ≤ l.length := List.countP_le_length
theorem cntT_pos {l : List Trm} {v : Int} : cntT l v ≠ 0 ↔ (l.any fun t => t.var && decide (t.n = v)) = true := by
  unfold cntT
  rw [← Nat.pos_iff_ne_zero, List.countP_pos_iff, List.any_eq_true]
theorem cntA_le {l : List Atm} {m : Nat} (h : ∀ a ∈ l, a.args.xs.length ≤ m) (v : Int) : cntA l v ≤ l.length * m := by
  induction l with
  | nil => simp [cntA]
  | cons a r ih =>
    have h1 := cntT_le a.args.xs v
    have h2 := h a (List.mem_cons_self ..)
    have h3 := ih fun b hb => h b (List.mem_cons_of_mem _ hb)
    simp only [cntA, List.length_cons, Nat.add_mul]; omega
theorem cntA_pos {l : List Atm} {v : Int} : cntA l v ≠ 0 ↔ ∃ a ∈ l, standsIn a v = true := by
  induction l with
  | nil => simp [cntA]
  | cons a r ih =>
    have h1 : cntT a.args.xs v ≠ 0 ↔ standsIn a v = true := cntT_pos
    simp only [cntA, List.mem_cons, exists_eq_or_imp, ← ih, ← h1]; omega
theorem cntT_take {l : List Trm} {j : Nat} (hj : j < l.length) (v : Int) : cntT (l.take (j + 1)) v = cntT (l.take j) v + if l[j].var = true ∧ l[j].n = v then 1 else 0 := by
  rw [List.take_succ_eq_append_getElem hj]
  simp only [cntT, List.countP_append, List.countP_singleton, Bool.and_eq_true, decide_eq_true_eq]
theorem cntA_take {l : List Atm} {k : Nat} (hk : k < l.length) (v : Int) : cntA (l.take (k + 1)) v = cntA (l.take k) v + cntT l[k].args.xs v := by
  rw [List.take_succ_eq_append_getElem hk, cntA_append]; simp [cntA]
def negs (l : List Ltl) : List Atm := (l.filter (·.neg)).map (·.atom)
def poss (l : List Ltl) : List Atm := (l.filter fun x => !x.neg).map (·.atom)
theorem negs_take {l : List Ltl} {k : Nat} (hk : k < l.length) : negs (l.take (k + 1)) = negs (l.take k) ++ if l[k].neg = true then [l[k].atom] else [] := by
  rw [List.take_succ_eq_append_getElem hk]
  simp only [negs, List.filter_append, List.map_append]; congr 1; cases h : l[k].neg <;> simp [h]
theorem poss_take {l : List Ltl} {k : Nat} (hk : k < l.length) : poss (l.take (k + 1)) = poss (l.take k) ++ if l[k].neg = true then [] else [l[k].atom] := by
  rw [List.take_succ_eq_append_getElem hk]
  simp only [poss, List.filter_append, List.map_append]; congr 1; cases h : l[k].neg <;> simp [h]
theorem negs_le (l : List Ltl) : (negs l).length ≤ l.length := by unfold negs; rw [List.length_map]; exact List.length_filter_le ..
theorem poss_le (l : List Ltl) : (poss l).length ≤ l.length := by unfold poss; rw [List.length_map]; exact List.length_filter_le ..
theorem mem_negs {l : List Ltl} {a : Atm} : a ∈ negs l ↔ ∃ x ∈ l, x.neg = true ∧ x.atom = a := by simp [negs, and_assoc]
theorem mem_poss {l : List Ltl} {a : Atm} : a ∈ poss l ↔ ∃ x ∈ l, x.neg = false ∧ x.atom = a := by simp [poss, and_assoc]
theorem boundIn_iff {r : Rul} {v : Int} : boundIn r v = true ↔ cntA (poss r.body.xs) v ≠ 0 := by
  rw [cntA_pos]
  simp only [boundIn, List.any_eq_true, Bool.and_eq_true, Bool.not_eq_true', mem_poss]
  constructor
  · rintro ⟨x, hx, hn, hs⟩; exact ⟨_, ⟨x, hx, hn, rfl⟩, hs⟩
  · rintro ⟨_, ⟨x, hx, hn, rfl⟩, hs⟩; exact ⟨x, hx, hn, hs⟩
/-- A variable of the head or of a literal that is Not, and in none that is not. -/
theorem freeVar_iff {r : Rul} {v : Int} : freeVar r v = true ↔ cntA (negs r.body.xs ++ [r.head]) v ≠ 0 ∧ cntA (poss r.body.xs) v = 0 := by
  have hb := boundIn_iff (r := r) (v := v)
  rw [cntA_pos]
  simp only [freeVar, Bool.and_eq_true, Bool.or_eq_true, Bool.not_eq_true', List.any_eq_true, List.mem_append, List.mem_singleton]
  constructor
  · rintro ⟨h1, h2⟩
    have h3 : cntA (poss r.body.xs) v = 0 := Decidable.byContradiction fun h => by rw [hb.2 h] at h2; cases h2
    refine ⟨?_, h3⟩
    rcases h1 with h1 | ⟨x, hx, hs⟩
    · exact ⟨_, .inr rfl, h1⟩
    · cases hn : x.neg
      · have : boundIn r v = true := by rw [boundIn, List.any_eq_true]; exact ⟨x, hx, by simp [hn, hs]⟩
        rw [this] at h2; cases h2
      · exact ⟨_, .inl (mem_negs.2 ⟨x, hx, hn, rfl⟩), hs⟩
  · rintro ⟨⟨a, ha, hs⟩, h3⟩
    refine ⟨?_, ?_⟩
    · rcases ha with ha | rfl
      · obtain ⟨x, hx, _, rfl⟩ := mem_negs.1 ha; exact .inr ⟨x, hx, hs⟩
      · exact .inl hs
    · cases h : boundIn r v
      · rfl
      · exact absurd h3 (hb.1 h)
theorem bodyErr_ne {l : List Prd} {b : List Ltl} : bodyErr l b = 0 ↔ ∀ x ∈ b, checkAtom l x.atom = 0 := by
  induction b with
  | nil => simp [bodyErr]
  | cons x r ih =>
    simp only [bodyErr, List.mem_cons, forall_eq_or_imp]
    by_cases h : checkAtom l x.atom = 0
    · simp [h, ih]
    · simp [h]
theorem bodyErr_at {l : List Prd} {b : List Ltl} {k : Nat} (hk : k < b.length) (h1 : ∀ j, j < k → ∀ hj' : j < b.length, checkAtom l b[j].atom = 0) (h2 : checkAtom l b[k].atom ≠ 0) : bodyErr l b = checkAtom l b[k].atom := by
  induction b generalizing k with
  | nil => simp at hk
  | cons x r ih =>
    cases k with
    | zero => simp only [List.getElem_cons_zero] at h2 ⊢; simp [bodyErr, h2]
    | succ k =>
      have h0 := h1 0 (by omega) (by simp)
      simp only [List.getElem_cons_zero] at h0
      simp only [bodyErr, h0, List.getElem_cons_succ]
      simp only [List.getElem_cons_succ] at h2
      exact ih (by simpa using hk) (fun j _ hj' => by have := h1 (j + 1) (by omega) (by simpa using hj'); simpa using this) h2
theorem standsIn_small {l : List Prd} {a : Atm} (h : checkAtom l a = 0) {v : Int} (hs : standsIn a v = true) : v = 0 ∨ v = 1 ∨ v = 2 := by
  have h1 : argsErr a.args.xs = 0 := by
    unfold checkAtom at h
    split at h
    · cases h
    · split at h
      · cases h
      · exact h
  unfold argsErr at h1
  split at h1
  · rename_i hal
    rw [List.all_eq_true] at hal
    simp only [standsIn, List.any_eq_true, Bool.and_eq_true, decide_eq_true_eq] at hs
    obtain ⟨t, ht, hv, hn⟩ := hs
    have := hal t ht
    unfold termOk at this
    rw [if_pos hv] at this
    simp only [decide_eq_true_eq] at this
    omega
  · cases h1
theorem filter_shorter {α : Type} {p q : α → Bool} {l : List α} {x : α} (hx : x ∈ l) (hp : p x = false) (hq : q x = true) (hpq : ∀ y ∈ l, p y = true → q y = true) : (l.filter p).length < (l.filter q).length := by
  induction l with
  | nil => cases hx
  | cons y r ih =>
    have hle : ∀ s : List α, (∀ z ∈ s, p z = true → q z = true) → (s.filter p).length ≤ (s.filter q).length := by
      intro s hs
      induction s with
      | nil => simp
      | cons z t iht =>
        have i := iht fun u hu => hs u (List.mem_cons_of_mem _ hu)
        have j := hs z (List.mem_cons_self ..)
        simp only [List.filter_cons]
        split <;> split <;> simp_all <;> omega
    rcases List.mem_cons.1 hx with rfl | hx'
    · have := hle r fun z hz => hpq z (List.mem_cons_of_mem _ hz)
      simp only [List.filter_cons, hp, hq, if_true, Bool.false_eq_true, if_false, List.length_cons]; omega
    · have i := ih hx' fun z hz => hpq z (List.mem_cons_of_mem _ hz)
      have j := hpq y (List.mem_cons_self ..)
      simp only [List.filter_cons]
      split <;> split <;> simp_all <;> omega
theorem ents_of {ents : List MapEntry} {clock : Nat} {es : List (Int × Int)} (hi : IMap ents clock es) {q : MapEntry} (hq : q ∈ ents) : ∃ v x, (v, x) ∈ es ∧ q.key = .int .i64 v ∧ q.val = .int .i64 x := by
  have : (q.key, q.val) ∈ ents.map (fun e => (e.key, e.val)) := List.mem_map.2 ⟨q, hq, rfl⟩
  rw [hi.is] at this
  obtain ⟨⟨v, x⟩, hp, he⟩ := List.mem_map.1 this
  simp only [iV, Prod.mk.injEq] at he
  exact ⟨v, x, hp, he.1.symm, he.2.symm⟩
theorem ents_has {ents : List MapEntry} {clock : Nat} {es : List (Int × Int)} (hi : IMap ents clock es) {v x : Int} (hv : (v, x) ∈ es) : ∃ q ∈ ents, q.key = .int .i64 v := by
  have : iV (v, x) ∈ ents.map (fun e => (e.key, e.val)) := by rw [hi.is]; exact List.mem_map.2 ⟨_, hv, rfl⟩
  obtain ⟨q, hq, he⟩ := List.mem_map.1 this
  simp only [iV, Prod.mk.injEq] at he
  exact ⟨q, hq, he.1⟩
theorem nodup_inj {α β : Type} {f : α → β} {l : List α} (h : (l.map f).Nodup) {a b : α} (ha : a ∈ l) (hb : b ∈ l) (hf : f a = f b) : a = b := by
  induction l with
  | nil => cases ha
  | cons x r ih =>
    simp only [List.map_cons, List.nodup_cons, List.mem_map, not_exists, not_and] at h
    rcases List.mem_cons.1 ha with rfl | ha' <;> rcases List.mem_cons.1 hb with rfl | hb'
    · rfl
    · exact absurd hf.symm (h.1 b hb')
    · exact absurd hf (h.1 a ha')
    · exact ih h.2 ha' hb'
end Go.TF
end
section
/- Facts, what variables stand for, what an atom grounded is: plain. -/
namespace Go.TF
open Go

structure Fct where
  pred : Int
  a : Int
  b : Int
  v : Int
deriving DecidableEq
@[reducible] def Fct.enc (x : Fct) : List Value := [.int .i64 x.pred, .int .i64 x.a, .int .i64 x.b, .int .i64 x.v]
@[reducible] def Fct.val (x : Fct) : Value := .agg #[.int .i64 x.pred, .int .i64 x.a, .int .i64 x.b, .int .i64 x.v]
structure Vrs where
  x0 : Int
  x1 : Int
  x2 : Int
deriving DecidableEq
@[reducible] def Vrs.enc (x : Vrs) : List Value := [.int .i64 x.x0, .int .i64 x.x1, .int .i64 x.x2]
@[reducible] def Vrs.val (x : Vrs) : Value := .agg #[.int .i64 x.x0, .int .i64 x.x1, .int .i64 x.x2]
def Vrs.at (x : Vrs) (i : Int) : Int := if i = 0 then x.x0 else if i = 1 then x.x1 else x.x2
structure Stp where
  rule : Int
  vars : Vrs
deriving DecidableEq
@[reducible] def Stp.enc (x : Stp) : List Value := [.int .i64 x.rule, .int .i64 x.vars.x0, .int .i64 x.vars.x1, .int .i64 x.vars.x2]
@[reducible] def Stp.val (x : Stp) : Value := .agg #[.int .i64 x.rule, .int .i64 x.vars.x0, .int .i64 x.vars.x1, .int .i64 x.vars.x2]
instance : Inhabited Fct := ⟨⟨0, 0, 0, 0⟩⟩
instance : Inhabited Vrs := ⟨⟨0, 0, 0⟩⟩
instance : Inhabited Stp := ⟨⟨0, default⟩⟩
abbrev Fcts (l : Sl Fct) (h : Heap) : Prop := l.Is 4 Fct.enc h
theorem Rd.one {w : World} {b o : Nat} {cs : List Value} (hr : Rd w b o cs) {i : Nat} {x : Value} (hx : cs[i]? = some x) : Rd w b (o + i) [x] := fun j v e => by
  cases j with
  | zero => simp at e; subst e; exact hr i x hx
  | succ j => simp at e
def tv (t : Trm) (x : Vrs) : Int := if t.var then x.at t.n else t.n
def argv (a : Atm) (x : Vrs) (i : Nat) : Int := match a.args.xs[i]? with | none => 0 | some t => tv t x
theorem argv_get {a : Atm} {x : Vrs} {i : Nat} (hi : i < a.args.xs.length) : argv a x i = tv a.args.xs[i] x := by simp [argv, hi]
theorem argv_none {a : Atm} {x : Vrs} {i : Nat} (hi : a.args.xs.length ≤ i) : argv a x i = 0 := by simp [argv, hi]
theorem argsErr_iff {l : List Trm} : argsErr l = 0 ↔ ∀ t ∈ l, termOk t = true := by
  unfold argsErr
  rw [← List.all_eq_true]
  split <;> simp_all
theorem argsErr_var {l : List Trm} (h : argsErr l = 0) {t : Trm} (ht : t ∈ l) (hv : t.var = true) : 0 ≤ t.n ∧ t.n < 3 := by
  have := argsErr_iff.1 h t ht
  unfold termOk at this
  rw [if_pos hv] at this
  simpa using this
theorem argsErr_con {l : List Trm} (h : argsErr l = 0) {t : Trm} (ht : t ∈ l) (hv : t.var = false) : 0 ≤ t.n ∧ t.n ≤ 4 := by
  have := argsErr_iff.1 h t ht
  unfold termOk at this
  rw [hv] at this
  simpa using this
end Go.TF
end
section
/- Facts: which may be, where each stands, finding, adding, being under: plain. -/
namespace Go.TF
open Go

def predFine (p : Prd) : Bool := decide (0 ≤ p.arity ∧ p.arity ≤ 2 ∧ 0 ≤ p.kind ∧ p.kind ≤ 3)
def factFine (l : List Prd) (x : Fct) : Bool :=
  decide (within x.pred 0 (l.length - 1)) && decide (within x.a 0 4) && decide (within x.b 0 4) && (decide (1 ≤ (predOf l x.pred).arity) || decide (x.a = 0)) && (decide (2 ≤ (predOf l x.pred).arity) || decide (x.b = 0)) &&
    decide (checkVal (predOf l x.pred).kind x.v = 0)

def placeF (x : Fct) : Int := (x.pred * 5 + x.a) * 5 + x.b
structure PF (x : Fct) : Prop where
  p0 : 0 ≤ x.pred
  p1 : x.pred ≤ 4
  a0 : 0 ≤ x.a
  a1 : x.a ≤ 4
  b0 : 0 ≤ x.b
  b1 : x.b ≤ 4
theorem PF.inj {x y : Fct} (hx : PF x) (hy : PF y) (h : placeF x = placeF y) : x.pred = y.pred ∧ x.a = y.a ∧ x.b = y.b := by
  obtain ⟨_, _, _, _, _, _⟩ := hx; obtain ⟨_, _, _, _, _, _⟩ := hy
  unfold placeF at h; omega
theorem PF.place {x : Fct} (hx : PF x) : 0 ≤ placeF x ∧ placeF x < 125 := by
  obtain ⟨_, _, _, _, _, _⟩ := hx
  unfold placeF; omega
theorem PF.lt {x y : Fct} (hx : PF x) (hy : PF y) : placeF x < placeF y ↔ x.pred < y.pred ∨ x.pred = y.pred ∧ (x.a < y.a ∨ x.a = y.a ∧ x.b < y.b) := by
  obtain ⟨_, _, _, _, _, _⟩ := hx; obtain ⟨_, _, _, _, _, _⟩ := hy
  unfold placeF; omega
theorem PF.ext {x y : Fct} (hx : PF x) (hy : PF y) (h : placeF x = placeF y) (hv : x.v = y.v) : x = y := by
  obtain ⟨h1, h2, h3⟩ := hx.inj hy h
  cases x; cases y; simp_all
def cmpI (a b : Int) : Int := if a < b then -1 else if b < a then 1 else 0
def ordF (x y : Fct) : Int := if cmpI x.pred y.pred ≠ 0 then cmpI x.pred y.pred else if cmpI x.a y.a ≠ 0 then cmpI x.a y.a else cmpI x.b y.b
theorem ordF_neg {x y : Fct} (hx : PF x) (hy : PF y) : ordF x y < 0 ↔ placeF x < placeF y := by
  rw [hx.lt hy]; unfold ordF cmpI
  (repeat' split) <;> omega
def sortedB : List Fct → Bool
  | [] => true
  | [_] => true
  | x :: y :: r => decide (placeF x < placeF y) && sortedB (y :: r)
abbrev SrtF (f : List Fct) : Prop := f.Pairwise fun x y => placeF x < placeF y
theorem sorted_iff : ∀ f : List Fct, sortedB f = true ↔ SrtF f
  | [] => by simp [sortedB, SrtF]
  | [x] => by simp [sortedB, SrtF]
  | x :: y :: r => by
    rw [sortedB, Bool.and_eq_true, decide_eq_true_eq, sorted_iff (y :: r)]
    constructor
    · rintro ⟨h, hs⟩
      refine List.pairwise_cons.2 ⟨fun z hz => ?_, hs⟩
      rcases List.mem_cons.1 hz with rfl | hz
      · exact h
      · exact Int.lt_trans h ((List.pairwise_cons.1 hs).1 z hz)
    · intro hs
      obtain ⟨h1, h2⟩ := List.pairwise_cons.1 hs
      exact ⟨h1 y List.mem_cons_self, h2⟩
theorem sorted_of {f : List Fct} (h : ∀ i, (hi : i + 1 < f.length) → placeF f[i] < placeF f[i + 1]) : SrtF f := by
  rw [← sorted_iff]
  induction f with
  | nil => rfl
  | cons x r ih =>
    cases r with
    | nil => rfl
    | cons y r =>
      rw [sortedB, Bool.and_eq_true, decide_eq_true_eq]
      exact ⟨h 0 (by simp), ih fun i hi => h (i + 1) (by simp only [List.length_cons] at hi ⊢; omega)⟩
theorem SrtF.get {f : List Fct} (h : SrtF f) {i j : Nat} (hij : i < j) (hj : j < f.length) : placeF f[i] < placeF f[j] := List.pairwise_iff_getElem.1 h i j (by omega) hj hij
def factsB (l : List Prd) (f : List Fct) : Bool := f.all (factFine l) && sortedB f
def predsBad (l : List Prd) : Bool := decide (5 < l.length) || !(l.all predFine)
def checkFacts (l : List Prd) (f : List Fct) : Int := if predsBad l then 2 else if factsB l f then 0 else 1
/-- Right facts, of right predicates. -/
structure FOk (l : List Prd) (f : List Fct) : Prop where
  len : l.length ≤ 5
  preds : ∀ p ∈ l, predFine p = true
  fine : ∀ x ∈ f, factFine l x = true
  srt : SrtF f
theorem checkFacts_ok {l : List Prd} {f : List Fct} : checkFacts l f = 0 ↔ FOk l f := by
  unfold checkFacts
  cases h : predsBad l <;> cases h2 : factsB l f <;> simp only [if_true, Bool.false_eq_true, if_false]
  · refine ⟨fun h => (by omega), fun h3 => ?_⟩
    have : factsB l f = true := by simp only [factsB, Bool.and_eq_true, List.all_eq_true]; exact ⟨h3.fine, (sorted_iff f).2 h3.srt⟩
    rw [this] at h2; cases h2
  · simp only [predsBad, Bool.or_eq_false_iff, decide_eq_false_iff_not, Bool.not_eq_false', List.all_eq_true] at h
    simp only [factsB, Bool.and_eq_true, List.all_eq_true] at h2
    exact ⟨fun _ => ⟨by omega, h.2, h2.1, (sorted_iff f).1 h2.2⟩, fun _ => trivial⟩
  all_goals
    refine ⟨fun h => (by omega), fun h3 => ?_⟩
    have : predsBad l = false := by simp only [predsBad, Bool.or_eq_false_iff, decide_eq_false_iff_not, Bool.not_eq_false', List.all_eq_true]; exact ⟨by have := h3.len; omega, h3.preds⟩
    rw [this] at h; cases h
theorem fine_iff {l : List Prd} {x : Fct} : factFine l x = true ↔ (0 ≤ x.pred ∧ x.pred < l.length) ∧ (0 ≤ x.a ∧ x.a ≤ 4) ∧ (0 ≤ x.b ∧ x.b ≤ 4) ∧ (1 ≤ (predOf l x.pred).arity ∨ x.a = 0) ∧ (2 ≤ (predOf l x.pred).arity ∨ x.b = 0) ∧ VOk (predOf l x.pred).kind x.v := by
  simp only [factFine, Bool.and_eq_true, Bool.or_eq_true, decide_eq_true_eq]
  unfold within
  constructor
  · rintro ⟨⟨⟨⟨⟨h1, h2⟩, h3⟩, h4⟩, h5⟩, h6⟩; exact ⟨⟨h1.1, by omega⟩, h2, h3, h4, h5, h6⟩
  · rintro ⟨h1, h2, h3, h4, h5, h6⟩; exact ⟨⟨⟨⟨⟨⟨h1.1, by omega⟩, h2⟩, h3⟩, h4⟩, h5⟩, h6⟩
theorem fine_pf {l : List Prd} {x : Fct} (hl : l.length ≤ 5) (h : factFine l x = true) : PF x := by
  obtain ⟨h1, h2, h3, _⟩ := fine_iff.1 h
  exact ⟨h1.1, by omega, h2.1, h2.2, h3.1, h3.2⟩
theorem FOk.pf {l : List Prd} {f : List Fct} (h : FOk l f) : ∀ x ∈ f, PF x := fun x hx => fine_pf h.len (h.fine x hx)
/-! ### What is told at a place -/
def lkF (f : List Fct) (p : Int) : Option Int := (f.find? fun y => decide (placeF y = p)).map (·.v)
theorem lkF_nil (p : Int) : lkF [] p = none := rfl
theorem lkF_cons (y : Fct) (r : List Fct) (p : Int) : lkF (y :: r) p = if placeF y = p then some y.v else lkF r p := by
  unfold lkF; rw [List.find?_cons]
  by_cases h : placeF y = p
  · simp [h]
  · simp [h]
theorem lkF_none {f : List Fct} {p : Int} : lkF f p = none ↔ ∀ y ∈ f, placeF y ≠ p := by
  induction f with
  | nil => simp [lkF_nil]
  | cons y r ih =>
    rw [lkF_cons]
    split
    · rename_i h; simp [h]
    · rename_i h; rw [ih]; simp [h]
theorem lkF_some {f : List Fct} (hs : SrtF f) {p v : Int} : lkF f p = some v ↔ ∃ y ∈ f, placeF y = p ∧ y.v = v := by
  induction f with
  | nil => simp [lkF_nil]
  | cons y r ih =>
    obtain ⟨h1, h2⟩ := List.pairwise_cons.1 hs
    rw [lkF_cons]
    split
    · rename_i h
      constructor
      · intro e; exact ⟨y, List.mem_cons_self, h, by simpa using e⟩
      · rintro ⟨z, hz, e1, e2⟩
        rcases List.mem_cons.1 hz with rfl | hz
        · rw [e2]
        · have := h1 z hz; omega
    · rename_i h
      rw [ih h2]
      constructor
      · rintro ⟨z, hz, e⟩; exact ⟨z, List.mem_cons_of_mem _ hz, e⟩
      · rintro ⟨z, hz, e⟩
        rcases List.mem_cons.1 hz with rfl | hz
        · exact absurd e.1 h
        · exact ⟨z, hz, e⟩
theorem lkF_mem {f : List Fct} {p v : Int} (h : lkF f p = some v) : ∃ y ∈ f, placeF y = p ∧ y.v = v := by
  unfold lkF at h
  cases hf : f.find? fun y => decide (placeF y = p) with
  | none => rw [hf] at h; simp at h
  | some y =>
    rw [hf] at h
    refine ⟨y, List.mem_of_find?_eq_some hf, ?_, by simpa using h⟩
    have := List.find?_some hf
    simpa using this
/-- Facts that tell the same are the same. -/
theorem lkF_ext : ∀ {f g : List Fct}, (∀ x ∈ f, PF x) → (∀ x ∈ g, PF x) → SrtF f → SrtF g → (∀ p, lkF f p = lkF g p) → f = g
  | [], [], _, _, _, _, _ => rfl
  | [], y :: r, _, _, _, _, h => by have := h (placeF y); rw [lkF_nil, lkF_cons, if_pos rfl] at this; cases this
  | x :: s, [], _, _, _, _, h => by have := h (placeF x); rw [lkF_nil, lkF_cons, if_pos rfl] at this; cases this
  | x :: s, y :: r, pf, pg, hf, hg, h => by
    obtain ⟨f1, f2⟩ := List.pairwise_cons.1 hf
    obtain ⟨g1, g2⟩ := List.pairwise_cons.1 hg
    have hx := h (placeF x)
    have hy := h (placeF y)
    rw [lkF_cons, if_pos rfl] at hx
    rw [lkF_cons y, if_pos rfl] at hy
    obtain ⟨z, hz, e1, e2⟩ := (lkF_some hg).1 hx.symm
    obtain ⟨z', hz', e1', e2'⟩ := (lkF_some hf).1 hy
    have hp : placeF x = placeF y := by
      rcases List.mem_cons.1 hz with rfl | hz
      · exact e1.symm
      · rcases List.mem_cons.1 hz' with rfl | hz'
        · exact e1'
        · have := g1 z hz; have := f1 z' hz'; omega
    rw [hp, lkF_cons, if_pos rfl] at hx
    have hxy : x = y := (pf x List.mem_cons_self).ext (pg y List.mem_cons_self) hp (by simpa using hx)
    rw [hxy]
    congr 1
    refine lkF_ext (fun z hz => pf z (List.mem_cons_of_mem _ hz)) (fun z hz => pg z (List.mem_cons_of_mem _ hz)) f2 g2 fun p => ?_
    have := h p
    rw [lkF_cons, lkF_cons, hp] at this
    by_cases e : placeF y = p
    · have a : lkF s p = none := lkF_none.2 fun z hz => by have := f1 z hz; omega
      have b : lkF r p = none := lkF_none.2 fun z hz => by have := g1 z hz; omega
      rw [a, b]
    · rwa [if_neg e, if_neg e] at this
/-! ### Adding -/
def addF (k : Int) : List Fct → Fct → List Fct × Bool
  | [], x => ([x], true)
  | y :: r, x => if placeF y = placeF x then (⟨y.pred, y.a, y.b, joinV k y.v x.v⟩ :: r, decide (joinV k y.v x.v ≠ y.v)) else if placeF x < placeF y then (x :: y :: r, true) else (y :: (addF k r x).1, (addF k r x).2)
/-! ### Where a fact stands -/
/-! ### Being under -/
end Go.TF
end
section
/- What holds of adding and being under: plain. -/
namespace Go.TF
open Go

theorem fine_v {l : List Prd} {x : Fct} (h : factFine l x = true) : VOk (predOf l x.pred).kind x.v := (fine_iff.1 h).2.2.2.2.2
theorem same_pred {l : List Prd} {x y : Fct} (hl : l.length ≤ 5) (hx : factFine l x = true) (hy : factFine l y = true) (h : placeF x = placeF y) : x.pred = y.pred := ((fine_pf hl hx).inj (fine_pf hl hy) h).1
theorem FOk.look {l : List Prd} {f : List Fct} (h : FOk l f) {x : Fct} (hx : factFine l x = true) {v : Int} (hv : lkF f (placeF x) = some v) : VOk (predOf l x.pred).kind v := by
  obtain ⟨y, hy, e, rfl⟩ := lkF_mem hv
  have := fine_v (h.fine y hy)
  rwa [same_pred h.len (h.fine y hy) hx e] at this
section
variable {l : List Prd} {f g : List Fct} {x y : Fct}
theorem FOk.ext (hf : FOk l f) (hg : FOk l g) (h : ∀ p, lkF f p = lkF g p) : f = g := lkF_ext hf.pf hg.pf hf.srt hg.srt h
end
end Go.TF
end
section
/- What programs are, wherever they lie; pieces of slices; what is yielded in a region that draws: plain. -/
namespace Go.TF
open Go Go.RowKit

/-! ### The same, laid nowhere -/
def Sl.er {α : Type} (s : Sl α) : Sl α := ⟨none, 0, s.xs⟩
def Atm.er (a : Atm) : Atm := ⟨a.pred, a.args.er⟩
def Ltl.er (x : Ltl) : Ltl := ⟨x.neg, x.atom.er⟩
def Rul.er (r : Rul) : Rul := ⟨r.head.er, r.src, r.n, ⟨none, 0, r.body.xs.map Ltl.er⟩⟩
def Prg.er (p : Prg) : Prg := ⟨p.preds.er, ⟨none, 0, p.rules.xs.map Rul.er⟩⟩
theorem checkAtom_er (l : List Prd) (a : Atm) : checkAtom l a.er = checkAtom l a := rfl
theorem standsIn_er (a : Atm) (v : Int) : standsIn a.er v = standsIn a v := rfl
theorem bodyErr_er (l : List Prd) (b : List Ltl) : bodyErr l (b.map Ltl.er) = bodyErr l b := by
  induction b with
  | nil => rfl
  | cons x r ih => simp only [List.map_cons, bodyErr, ih, Ltl.er, checkAtom_er]
theorem any_er (f : Ltl → Bool) (hf : ∀ x, f x.er = f x) (b : List Ltl) : (b.map Ltl.er).any f = b.any f := by
  rw [List.any_map]; congr 1; funext x; exact hf x
theorem freeVar_er (r : Rul) (v : Int) : freeVar r.er v = freeVar r v := by
  unfold freeVar boundIn Rul.er
  rw [any_er _ (fun x => rfl), any_er _ (fun x => rfl), standsIn_er]
theorem litOf_er {r : Rul} {k : Int} (h0 : 0 ≤ k) (h1 : k < r.body.xs.length) : litOf r.er k = (litOf r k).er := by
  have : k.toNat < r.body.xs.length := by omega
  simp [litOf, Rul.er, List.getD_eq_getElem?_getD, this]
theorem checkRule_er (l : List Prd) (r : Rul) : checkRule l r.er = checkRule l r := by
  have h1 : r.er.head = r.head.er := rfl
  have h2 : r.er.body.xs = r.body.xs.map Ltl.er := rfl
  have h3 : r.er.src = r.src := rfl
  have h4 : r.er.n = r.n := rfl
  have h5 : r.head.er.pred = r.head.pred := rfl
  unfold checkRule
  rw [h1, h2, h3, h4, h5, checkAtom_er, bodyErr_er, freeVar_er, freeVar_er, freeVar_er, List.length_map]
  by_cases c : r.src < -1 ∨ (r.body.xs.length : Int) ≤ r.src
  · simp only [if_pos c]
  · by_cases h0 : 0 ≤ r.src
    · rw [litOf_er h0 (by omega)]; rfl
    · have e : ∀ p : Prop, (0 ≤ r.src ∧ p) ↔ False := fun p => ⟨fun h => h0 h.1, False.elim⟩
      simp only [e]

/-- A piece of a slice. -/
def Sl.cut {α : Type} (s : Sl α) (k l h : Nat) : Sl α := ⟨some (if s.cap = l then ⟨s.blk, s.off, none⟩ else ⟨s.blk, s.off + l * k, none⟩), s.cap - l, (s.xs.take h).drop l⟩
theorem Sl.In.cut {α : Type} {s : Sl α} {k : Nat} {enc : α → List Value} {h : Heap} (hs : s.In k enc h) {l hi : Nat} (hc : s.xs.length ≤ s.cap) : (s.cut k l hi).In k enc h := fun i x hx => by
  simp only [Sl.cut, List.getElem?_drop, List.getElem?_take] at hx
  split at hx
  · have h1 := hs _ _ hx
    have h2 := (List.getElem?_eq_some_iff.1 hx).1
    have hne : s.cap ≠ l := by omega
    refine ⟨by simp [Sl.cut, hne, Sl.blk, Sl.off], ?_⟩
    have e1 : (s.cut k l hi).blk = s.blk := by simp [Sl.cut, hne, Sl.blk]
    have e2 : (s.cut k l hi).off = s.off + l * k := by
      have : (s.cut k l hi).off = ((if s.cap = l then (⟨s.blk, s.off, none⟩ : Addr) else ⟨s.blk, s.off + l * k, none⟩)).off := rfl
      rw [this, if_neg hne]
    rw [e1, e2, show s.off + l * k + i * k = s.off + (l + i) * k by rw [Nat.add_mul]; omega]
    exact h1.2
  · cases hx
theorem Sl.Is.cut {α : Type} {s : Sl α} {k : Nat} {enc : α → List Value} {h : Heap} (hs : s.Is k enc h) {l hi : Nat} (hc : s.xs.length ≤ s.cap) : (s.cut k l hi).Is k enc h :=
  ⟨hs.el.cut hc, by have := hs.small; simp only [Sl.cut, List.length_drop, List.length_take]; omega⟩
theorem Y.cut {P : Program} {e : Env} {w : World} {d : Option Nat} {t : TypeId} {pos : String} {af : Array Edge} {g : Option (Nat × Bool)} {α : Type} {s : Sl α} {x : Operand} {T el ks : TypeId} {lo hi : Option Operand} {l h : Nat} (hT : Und P T (.slice el)) (hk : ∀ w, (sizeOf el).run P w = .ok ks w)
    (ha : s.at_ = some ⟨s.blk, s.off, none⟩) (hc : s.xs.length ≤ s.cap) (hx : ev e x = s.val)
    (hl : lo = none ∧ l = 0 ∨ ∃ q k, lo = some q ∧ ev e q = .int k (l : Int)) (hh : hi = none ∧ h = s.xs.length ∨ ∃ q k, hi = some q ∧ ev e q = .int k (h : Int)) (h1 : l ≤ h) (h2 : h ≤ s.xs.length) :
    Y P ⟨d, .slice T x lo hi none, t, pos, af, g⟩ e w (s.cut ks l h).val := by
  have hx' : ev e x = .slice (some ⟨s.blk, s.off, none⟩) s.xs.length s.cap := by rw [hx, Sl.val, ha]
  refine (Y.slicesl hT hk hx' hl hh h1 (by omega)).is ?_
  simp only [Sl.cut, Sl.val, List.length_drop, List.length_take]
  rw [Nat.min_eq_left h2]

/-! ### What regions that draw their order yield -/
def SlS {α : Type} (k : Nat) (enc : α → List Value) (xs : List α) : Sp := fun u h => ∃ s : Sl α, u = s.val ∧ s.xs = xs ∧ s.Is k enc h
theorem SlS.mono {α : Type} {k : Nat} {enc : α → List Value} {xs : List α} : MonoS (SlS k enc xs) := fun _ _ _ hl ⟨s, a, b, c⟩ => ⟨s, a, b, c.le hl⟩
def AtmS (p : Int) (xs : List Trm) : Sp := fun u h => ∃ a : Atm, u = a.val ∧ a.er = ⟨p, ⟨none, 0, xs⟩⟩ ∧ a.In h
theorem AtmS.mono {p : Int} {xs : List Trm} : MonoS (AtmS p xs) := fun _ _ _ hl ⟨s, a, b, c⟩ => ⟨s, a, b, c.le hl⟩
theorem nilIs {α : Type} {k : Nat} {enc : α → List Value} {h : Heap} : (⟨none, 0, []⟩ : Sl α).Is k enc h := ⟨fun i x hx => by simp at hx, by simp⟩

/-! ### The roads -/
def aT (p : Int) (l : List Trm) : Atm := ⟨p, ⟨none, 0, l⟩⟩
@[reducible] def tV (n : Int) : Trm := ⟨true, n⟩
@[reducible] def tC (n : Int) : Trm := ⟨false, n⟩
def bEdge : ByteArray := ⟨#[101, 100, 103, 101]⟩
def bFar : ByteArray := ⟨#[102, 97, 114]⟩
def bLone : ByteArray := ⟨#[108, 111, 110, 101]⟩
def rT (h : Atm) (src n : Int) (b : List Ltl) : Rul := ⟨h, src, n, ⟨none, 0, b⟩⟩
def roadsC : Prg := ⟨⟨none, 0, [⟨bEdge, 2, 0⟩, ⟨bFar, 2, 2⟩, ⟨bLone, 1, 0⟩]⟩, ⟨none, 0, [
  rT (aT 0 [tC 0, tC 1]) (-1) 0 [], rT (aT 0 [tC 1, tC 2]) (-1) 0 [], rT (aT 0 [tC 2, tC 0]) (-1) 0 [], rT (aT 0 [tC 3, tC 0]) (-1) 0 [],
  rT (aT 1 [tV 0, tV 1]) (-1) 1 [⟨false, aT 0 [tV 0, tV 1]⟩],
  rT (aT 1 [tV 0, tV 2]) 0 1 [⟨false, aT 1 [tV 0, tV 1]⟩, ⟨false, aT 0 [tV 1, tV 2]⟩],
  rT (aT 2 [tV 0]) (-1) 0 [⟨false, aT 0 [tV 0, tV 1]⟩, ⟨true, aT 1 [tV 0, tV 0]⟩]]⟩⟩
structure RoadsAt (p : Prg) (h : Heap) : Prop where
  is : p.In h
  er : p.er = roadsC
  cap : ∀ x ∈ p.rules.xs, x.body.xs.length ≤ x.body.cap
end Go.TF
end
