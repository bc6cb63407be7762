/- Texts Base10 Base11 Base12 Base13 Sls Base14 Base15 Bas1 Bas2. -/
import Derived.Test.YtgblgeddpegplaaGreatU1
import Derived.RangeFuncWrites
import Derived.RangeFuncLeaves
import Derived.RangeFuncCalls
import Derived.TacticsIn
import Derived.ScopeJumps
import Derived.Laws.MakeOwn
import Derived.Laws.AppendOwn
import Derived.Laws.RangeAny
import Derived.Test.YtgblgeddpegplaaGreatU2
import Derived.Lib.AppendZeros
import Derived.Lib.AppendZerosOnto
import Derived.Lib.Overlaps
import Derived.Test.YtgblgeddpegplaaGreatU3
section
/- Ranges over functions: a call of yield; the body of a round; what a function that holds such a range leaves behind. -/
namespace Go.TF
open Go Go.RowKit

/-! ### Operations, a call of yield among them -/
def Op1X (P : Program) (o : Oper) (e : Env) (w : World) (K : Value → World → Prop) : Prop :=
  Op1 P o e w K ∨ ∃ l f tmps assign body w', (execOp (ev e) o).run P w = .ok (.round l f tmps assign body) w' ∧ RoundIn Fence.wide 0 P l f tmps assign body w' fun | .returned v, w'' => K v w'' | _, _ => False
def OpsX (P : Program) (full : Array Oper) : List Oper → Env → World → (Env → World → Prop) → Prop
  | [], e, w, K => K e w
  | o :: rest, e, w, K => if runs full e o then Op1X P o e w (fun v w' => OpsX P full rest (updo e o.dst v) w' K) else OpsX P full rest (updo e o.dst undef) w K
def noDefer (l : List Oper) : Bool := l.all fun o => match o.op with | .defer _ => false | _ => true
theorem uponIn_of_Op1 {P : Program} {F : Fence} {o : Oper} {a : Act} {w : World} {next : Act → World → Prop} {Q : Exit → Act → World → Prop} (hfn : ∀ f, F.fn f) (hdep : F.depth = none) (hal : ∀ f args w R, Calls P f args w R → CallsIn F (0 - 1) P f args w R)
    (hnd : ∀ c, o.op ≠ .defer c) (h : Op1 P o (env a) w fun v w' => next (a.put o.dst v) w') : o.wpIn F 0 P a w next Q := by
  refine ⟨fun f _ => hfn f, ?_⟩
  rw [Oper.semAt_eq _ _ _ hnd, eval_env]
  unfold Op1 at h
  generalize (execOp (ev (env a)) o).run P w = r at *
  cases r with
  | ok n w' =>
    cases n <;> simp only at h <;> first | exact h.elim | exact h | skip
    refine ⟨(fun hd => by rw [hdep] at hd; cases hd), (hal _ _ _ _ h).mono fun e w'' he => ?_⟩
    cases e <;> first | exact he | exact he.elim
  | halt x w' => exact h.elim
theorem calls_wide {P : Program} {f : FuncId} {args : Array Value} {w : World} {R : Ending → World → Prop} (n : Nat) (h : Calls P f args w R) : CallsIn Fence.wide n P f args w R := callsIn_wide.2 h
theorem drop_cons {ops : Array Oper} {k n : Nat} (h : k + (n + 1) = ops.size) : ∃ o, ops[k]? = some o ∧ ops.toList.drop k = o :: ops.toList.drop (k + 1) := by
  have hk : k < ops.size := by omega
  exact ⟨ops[k], by simp [hk], by rw [List.drop_eq_getElem_cons (by simpa using hk)]; simp⟩
theorem OpsX.sound {P : Program} {ops : Array Oper} {Q : Exit → Act → World → Prop} {N : Nat} {D : List Deferred} (hds : dstsOk N ops.toList = true) (hnd : noDefer ops.toList = true) : ∀ (n k : Nat) (a : Act) (w : World) (K : Env → World → Prop),
    k + n = ops.size → a.tmps.size = N → a.defers = D → (∀ a' w', a'.tmps.size = N → a'.defers = D → K (env a') w' → Q .normal a' w') → OpsX P ops (ops.toList.drop k) (env a) w K → wpOpsIn Fence.wide 0 P ops Q (List.range' k n) a w
  | 0, k, a, w, K, hk, hs, hd, hK, h => by
    rw [List.drop_eq_nil_of_le (by simp; omega)] at h
    exact hK _ _ hs hd h
  | n + 1, k, a, w, K, hk, hs, hd, hK, h => by
    obtain ⟨o, ho, hdr⟩ := drop_cons hk
    have hmem : o ∈ ops.toList := by have := Array.mem_of_getElem? ho; simpa using this
    have hdo : o.dst.all (· < N) = true := (List.all_eq_true.1 hds) o hmem
    have hno : ∀ c, o.op ≠ .defer c := fun c e => by have := (List.all_eq_true.1 hnd) o hmem; simp [e] at this
    have hput : ∀ v, env (a.put o.dst v) = updo (env a) o.dst v := fun v => env_puto a o.dst v (by rw [hs]; exact hdo)
    rw [hdr] at h
    simp only [List.range'_succ, wpOpsIn, ho, wanted_env]
    simp only [OpsX] at h
    split
    · rename_i hr
      rw [if_pos hr] at h
      have step : ∀ v w', OpsX P ops (ops.toList.drop (k + 1)) (updo (env a) o.dst v) w' K → wpOpsIn Fence.wide 0 P ops Q (List.range' (k + 1) n) (a.put o.dst v) w' := fun v w' hh =>
        OpsX.sound hds hnd n (k + 1) _ _ K (by omega) (by rw [size_put, hs]) (by rw [defers_put, hd]) hK (by rw [hput]; exact hh)
      rcases h with h | ⟨l, f, tmps, assign, body, w', hrun, hround⟩
      · exact uponIn_of_Op1 (fun _ => trivial) rfl (fun _ _ _ _ h => calls_wide _ h) hno (h.mono step)
      · refine ⟨fun _ _ => trivial, ?_⟩
        rw [Oper.semAt_eq _ _ _ hno, eval_env, hrun]
        refine ⟨(fun hd => by cases hd), hround.mono fun e w'' he => ?_⟩
        cases e <;> first | exact step _ _ he | exact he.elim
    · rename_i hr
      rw [if_neg hr] at h
      exact ⟨fun _ _ => trivial, OpsX.sound hds hnd n (k + 1) _ _ K (by omega) (by rw [size_put, hs]) (by rw [defers_put, hd]) hK (by rw [hput]; exact h)⟩
theorem WP.regionX {P : Program} {N : Nat} {D : List Deferred} {e : Env} {w : World} {Q : Exit → Env → World → Prop} {id : Nat} {ops : Array Oper} (hnd : noDefer ops.toList = true)
    (h : OpsX P ops ops.toList e w (fun e' w' => Q .normal e' w')) : WP P N D (.region id ops false) e w Q := by
  intro hs a h1 h2 h3
  subst h3
  refine (wpIn_wide (n := 0)).1 (wpIn_region ?_)
  rw [List.range_eq_range']
  exact OpsX.sound hs hnd _ 0 a w _ (by omega) h1 h2 (fun _ _ g1 g2 g3 => ⟨g1, g2, g3⟩) h
section
variable {P : Program} {full : Array Oper} {rest : List Oper} {e : Env} {w : World} {K : Env → World → Prop}
theorem OpsX.nil (h : K e w) : OpsX P full [] e w K := h
theorem OpsX.go {d : Option Nat} {op : Op} {t : TypeId} {pos : String} {af : Array Edge} (h : Op1 P ⟨d, op, t, pos, af, none⟩ e w (fun v w' => OpsX P full rest (updo e d v) w' K)) :
    OpsX P full (⟨d, op, t, pos, af, none⟩ :: rest) e w K := by simp only [OpsX, runs, if_true]; exact .inl h
theorem OpsX.y {d : Nat} {op : Op} {t : TypeId} {pos : String} {af : Array Edge} {v : Value} (hy : Y P ⟨some d, op, t, pos, af, none⟩ e w v) (h : OpsX P full rest (upd e d v) w K) :
    OpsX P full (⟨some d, op, t, pos, af, none⟩ :: rest) e w K := OpsX.go (by unfold Op1; rw [hy]; exact h)
/-- A call of yield. -/
theorem OpsX.yield {d : Option Nat} {x : Operand} {l : Nat} {args : Array Operand} {ts : Array TypeId} {vs : List Value} {t : TypeId} {pos : String} {af : Array Edge} {R : Ending → World → Prop} (hx : ev e x = .func (.yield l) #[] #[]) (ha : args.toList.map (ev e) = vs)
    (hy : YieldAt Fence.wide 0 P l vs.toArray w R) (k : ∀ ed w', R ed w' → ∃ v, ed = .returned v ∧ OpsX P full rest (updo e d v) w' K) :
    OpsX P full (⟨d, .call { callee := .value x, args := args, argTypes := ts }, t, pos, af, none⟩ :: rest) e w K := by
  have ha' : args.map (ev e) = vs.toArray := by rw [← ha]; apply Array.ext'; simp
  obtain ⟨fn, tmps, assign, body, hrun, hR⟩ := hy
  simp only [OpsX, runs, if_true]
  refine .inr ⟨l, fn, tmps, assign, body, w, ?_, hR.mono fun ed w' hh => ?_⟩
  · simp only [execOp, resolve, hx, Deferred.ofValue]
    simp [invoke, ha', hrun]
  · obtain ⟨v, rfl, hk⟩ := k ed w' hh
    exact hk
end

/-! ### The body of a round -/
def WPI (P : Program) (N : Nat) (l : Nat) (c : Code) (e : Env) (w : World) (Q : Exit → Env → World → Prop) : Prop :=
  slotsOk N c = true → ∀ a : Act, a.tmps.size = N → a.defers = [] → env a = e → c.wpIn (Fence.wide.inRound l) 0 P (fun x a' w' => a'.tmps.size = N ∧ a'.defers = [] ∧ Q x (env a') w') a w
section
variable {P : Program} {N l : Nat} {e : Env} {w : World} {Q : Exit → Env → World → Prop}
theorem WPI.mono {c : Code} {Q' : Exit → Env → World → Prop} (h : WPI P N l c e w Q) (hq : ∀ x e w, Q x e w → Q' x e w) : WPI P N l c e w Q' :=
  fun hs a h1 h2 h3 => wpIn_mono (h hs a h1 h2 h3) fun _ _ _ ⟨g1, g2, g3⟩ => ⟨g1, g2, hq _ _ _ g3⟩
theorem WPI.seq {x y : Code} (h : WPI P N l x e w (thenE (fun e' w' => WPI P N l y e' w' Q) Q)) : WPI P N l (.seq x y) e w Q := by
  intro hs a h1 h2 h3
  simp only [slotsOk, Bool.and_eq_true] at hs
  refine wpIn_seq (wpIn_mono (h hs.1 a h1 h2 h3) ?_)
  rintro x a' w' ⟨g1, g2, g3⟩
  cases x <;> simp only [thenE] at g3 <;> first | exact ⟨g1, g2, g3⟩ | exact g3 hs.2 a' g1 g2 rfl
theorem WPI.skip (h : Q .normal e w) : WPI P N l .skip e w Q := fun _ _ h1 h2 h3 => wpIn_skip ⟨h1, h2, h3 ▸ h⟩
theorem WPI.ret (h : Q .ret e w) : WPI P N l .ret e w Q := fun _ _ h1 h2 h3 => wpIn_ret ⟨h1, h2, h3 ▸ h⟩
theorem WPI.exit {id : Nat} (h : Q (.exit id) e w) : WPI P N l (.exit id) e w Q := fun _ _ h1 h2 h3 => wpIn_exit ⟨h1, h2, h3 ▸ h⟩
theorem WPI.goto {t : Nat} (h : Q (.goto t) e w) : WPI P N l (.goto t) e w Q := fun _ _ h1 h2 h3 => wpIn_goto ⟨h1, h2, h3 ▸ h⟩
theorem WPI.block {id : Nat} {c : Code} (h : WPI P N l c e w (blockE id Q)) : WPI P N l (.block id c) e w Q := by
  intro hs a h1 h2 h3
  refine wpIn_block (wpIn_mono (h hs a h1 h2 h3) ?_)
  rintro x a' w' ⟨g1, g2, g3⟩
  cases x <;> simp only [blockE] at g3 <;> simp only [Exit.inBlock] <;> first | exact ⟨g1, g2, g3⟩ | (split at g3 <;> rename_i hi <;> simp only [hi, if_true, if_false] <;> exact ⟨g1, g2, g3⟩)
theorem WPI.cond {c : Operand} {x y : Code} {b : Bool} (hc : ev e c = .bool b) (ht : b = true → WPI P N l x e w Q) (hf : b = false → WPI P N l y e w Q) : WPI P N l (.cond c x y) e w Q := by
  intro hs a h1 h2 h3
  simp only [slotsOk, Bool.and_eq_true] at hs
  have he : a.eval c = .bool b := by rw [eval_env, h3]; exact hc
  exact wpIn_cond_split he (fun t => ht t hs.1 a h1 h2 h3) (fun t => hf t hs.2 a h1 h2 h3)
theorem WPI.cond_dec {c : Operand} {x y : Code} {p : Prop} [Decidable p] (hc : ev e c = .bool (decide p)) (ht : p → WPI P N l x e w Q) (hf : ¬ p → WPI P N l y e w Q) : WPI P N l (.cond c x y) e w Q :=
  WPI.cond hc (fun h => ht (of_decide_eq_true h)) (fun h => hf (of_decide_eq_false h))
theorem WPI.cond_decT {c : Operand} {x y : Code} {p : Prop} [Decidable p] (hc : ev e c = .bool (decide p)) (hp : p) (ht : WPI P N l x e w Q) : WPI P N l (.cond c x y) e w Q :=
  WPI.cond_dec hc (fun _ => ht) (fun h => (h hp).elim)
theorem WPI.cond_decF {c : Operand} {x y : Code} {p : Prop} [Decidable p] (hc : ev e c = .bool (decide p)) (hp : ¬p) (hf : WPI P N l y e w Q) : WPI P N l (.cond c x y) e w Q :=
  WPI.cond_dec hc (fun h => (hp h).elim) (fun _ => hf)
theorem WPI.cond_t {c : Operand} {x y : Code} (hc : ev e c = .bool true) (ht : WPI P N l x e w Q) : WPI P N l (.cond c x y) e w Q :=
  WPI.cond hc (fun _ => ht) (fun h => by cases h)
theorem WPI.cond_f {c : Operand} {x y : Code} (hc : ev e c = .bool false) (hf : WPI P N l y e w Q) : WPI P N l (.cond c x y) e w Q :=
  WPI.cond hc (fun h => by cases h) (fun _ => hf)
theorem WPI.region {id : Nat} {ops : Array Oper} (hnd : noDefer ops.toList = true) (h : Ops P ops ops.toList e w (fun e' w' => Q .normal e' w')) : WPI P N l (.region id ops false) e w Q := by
  intro hs a h1 h2 h3
  subst h3
  refine wpIn_region ?_
  rw [List.range_eq_range']
  have key : ∀ (n k : Nat) (a : Act) (w : World), k + n = ops.size → a.tmps.size = N → a.defers = [] → Ops P ops (ops.toList.drop k) (env a) w (fun e' w' => Q .normal e' w') →
      wpOpsIn (Fence.wide.inRound l) 0 P ops (fun x a' w' => a'.tmps.size = N ∧ a'.defers = [] ∧ Q x (env a') w') (List.range' k n) a w := by
    intro n
    induction n with
    | zero =>
      intro k a w hk hs1 hd h
      rw [List.drop_eq_nil_of_le (by simp; omega)] at h
      exact ⟨hs1, hd, h⟩
    | succ n ih =>
      intro k a w hk hs1 hd h
      obtain ⟨o, ho, hdr⟩ := drop_cons hk
      have hmem : o ∈ ops.toList := by have := Array.mem_of_getElem? ho; simpa using this
      have hdo : o.dst.all (· < N) = true := (List.all_eq_true.1 hs) o hmem
      have hno : ∀ c, o.op ≠ .defer c := fun c e => by have := (List.all_eq_true.1 hnd) o hmem; simp [e] at this
      have hput : ∀ v, env (a.put o.dst v) = updo (env a) o.dst v := fun v => env_puto a o.dst v (by rw [hs1]; exact hdo)
      rw [hdr] at h
      simp only [List.range'_succ, wpOpsIn, ho, wanted_env]
      simp only [Ops] at h
      have step : ∀ v w', Ops P ops (ops.toList.drop (k + 1)) (updo (env a) o.dst v) w' (fun e' w' => Q .normal e' w') → wpOpsIn (Fence.wide.inRound l) 0 P ops (fun x a' w' => a'.tmps.size = N ∧ a'.defers = [] ∧ Q x (env a') w') (List.range' (k + 1) n) (a.put o.dst v) w' := fun v w' hh =>
        ih (k + 1) _ _ (by omega) (by rw [size_put, hs1]) (by rw [defers_put, hd]) (by rw [hput]; exact hh)
      split
      · rename_i hr
        rw [if_pos hr] at h
        exact uponIn_of_Op1 (fun _ => trivial) rfl (fun _ _ _ _ h => (calls_wide _ h).inRound l) hno (h.mono step)
      · rename_i hr
        rw [if_neg hr] at h
        exact ⟨fun _ _ => trivial, step _ _ h⟩
  exact key _ 0 a w (by omega) h1 h2 h
end

/-! ### Code whose activation gathers marks -/
def WPD (P : Program) (N : Nat) (D : List Deferred) (c : Code) (e : Env) (w : World) (Q : Exit → Env → World → List Deferred → Prop) : Prop :=
  slotsOk N c = true → ∀ a : Act, a.tmps.size = N → a.defers = D → env a = e → c.wp P (fun x a' w' => a'.tmps.size = N ∧ Q x (env a') w' a'.defers) a w
def thenD (next : Env → World → List Deferred → Prop) (Q : Exit → Env → World → List Deferred → Prop) : Exit → Env → World → List Deferred → Prop
  | .normal, e, w, D => next e w D
  | x, e, w, D => Q x e w D
def blockD (id : Nat) (Q : Exit → Env → World → List Deferred → Prop) : Exit → Env → World → List Deferred → Prop
  | .exit id', e, w, D => if id' = id then Q .normal e w D else Q (.exit id') e w D
  | x, e, w, D => Q x e w D
section
variable {P : Program} {N : Nat} {D : List Deferred} {e : Env} {w : World} {Q : Exit → Env → World → List Deferred → Prop}
theorem WPD.mono {c : Code} {Q' : Exit → Env → World → List Deferred → Prop} (h : WPD P N D c e w Q) (hq : ∀ x e w D, Q x e w D → Q' x e w D) : WPD P N D c e w Q' :=
  fun hs a h1 h2 h3 => wp_mono (h hs a h1 h2 h3) fun _ _ _ ⟨g1, g3⟩ => ⟨g1, hq _ _ _ _ g3⟩
theorem WPD.of {c : Code} (h : WP P N D c e w (fun x e' w' => Q x e' w' D)) : WPD P N D c e w Q :=
  fun hs a h1 h2 h3 => wp_mono (h hs a h1 h2 h3) fun _ _ _ ⟨g1, g2, g3⟩ => ⟨g1, g2 ▸ g3⟩
theorem WPD.seq {x y : Code} (h : WPD P N D x e w (thenD (fun e' w' D' => WPD P N D' y e' w' Q) Q)) : WPD P N D (.seq x y) e w Q := by
  intro hs a h1 h2 h3
  simp only [slotsOk, Bool.and_eq_true] at hs
  refine wp_seq (wp_mono (h hs.1 a h1 h2 h3) ?_)
  rintro x a' w' ⟨g1, g3⟩
  cases x <;> simp only [thenD] at g3 <;> first | exact ⟨g1, g3⟩ | exact g3 hs.2 a' g1 rfl rfl
theorem WPD.block {id : Nat} {c : Code} (h : WPD P N D c e w (blockD id Q)) : WPD P N D (.block id c) e w Q := by
  intro hs a h1 h2 h3
  refine wp_block (wp_mono (h hs a h1 h2 h3) ?_)
  rintro x a' w' ⟨g1, g3⟩
  cases x <;> simp only [blockD] at g3 <;> simp only [Exit.inBlock] <;> first | exact ⟨g1, g3⟩ | (split at g3 <;> rename_i hi <;> simp only [hi, if_true, if_false] <;> exact ⟨g1, g3⟩)
theorem WPD.cond {c : Operand} {x y : Code} {b : Bool} (hc : ev e c = .bool b) (ht : b = true → WPD P N D x e w Q) (hf : b = false → WPD P N D y e w Q) : WPD P N D (.cond c x y) e w Q := by
  intro hs a h1 h2 h3
  simp only [slotsOk, Bool.and_eq_true] at hs
  have he : a.eval c = .bool b := by rw [eval_env, h3]; exact hc
  exact wp_cond_split he (fun t => ht t hs.1 a h1 h2 h3) (fun t => hf t hs.2 a h1 h2 h3)
theorem WPD.cond_dec {c : Operand} {x y : Code} {p : Prop} [Decidable p] (hc : ev e c = .bool (decide p)) (ht : p → WPD P N D x e w Q) (hf : ¬ p → WPD P N D y e w Q) : WPD P N D (.cond c x y) e w Q :=
  WPD.cond hc (fun h => ht (of_decide_eq_true h)) (fun h => hf (of_decide_eq_false h))
theorem WPD.cond_t {c : Operand} {x y : Code} (hc : ev e c = .bool true) (ht : WPD P N D x e w Q) : WPD P N D (.cond c x y) e w Q :=
  WPD.cond hc (fun _ => ht) (fun h => by cases h)
theorem WPD.cond_f {c : Operand} {x y : Code} (hc : ev e c = .bool false) (hf : WPD P N D y e w Q) : WPD P N D (.cond c x y) e w Q :=
  WPD.cond hc (fun h => by cases h) (fun _ => hf)
theorem WPD.skip (h : Q .normal e w D) : WPD P N D .skip e w Q := fun _ _ h1 h2 h3 => wp_skip ⟨h1, h2 ▸ h3 ▸ h⟩
theorem WPD.label {l : Nat} (h : Q .normal e w D) : WPD P N D (.label l) e w Q := fun _ _ h1 h2 h3 => wp_label ⟨h1, h2 ▸ h3 ▸ h⟩
theorem WPD.ret (h : Q .ret e w D) : WPD P N D .ret e w Q := fun _ _ h1 h2 h3 => wp_ret ⟨h1, h2 ▸ h3 ▸ h⟩
theorem WPD.exit {id : Nat} (h : Q (.exit id) e w D) : WPD P N D (.exit id) e w Q := fun _ _ h1 h2 h3 => wp_exit ⟨h1, h2 ▸ h3 ▸ h⟩
theorem WPD.goto {l : Nat} (h : Q (.goto l) e w D) : WPD P N D (.goto l) e w Q := fun _ _ h1 h2 h3 => wp_goto ⟨h1, h2 ▸ h3 ▸ h⟩
theorem WPD.region {id : Nat} {ops : Array Oper} (h : Ops P ops ops.toList e w (fun e' w' => Q .normal e' w' D)) : WPD P N D (.region id ops false) e w Q := WPD.of (WP.region h)
/-- A loop; s tells all. -/
theorem WPD.loop {σ : Type} (kv : σ → List (Nat × Value)) (Df : σ → List Deferred) (J : σ → World → Prop) (μ : σ → Nat) {c : Code} (h0 : ∃ s, Has e (kv s) ∧ D = Df s ∧ J s w)
    (round : ∀ s e w, J s w → WPD P N (Df s) c (E e (kv s)) w (thenD (fun e' w' D' => ∃ s', (Has e' (kv s') ∧ D' = Df s' ∧ J s' w') ∧ μ s' < μ s) Q)) : WPD P N D (.loop c) e w Q := by
  intro hs a h1 h2 h3
  obtain ⟨s0, hh, hd, hj⟩ := h0
  intro b k cs
  have key : ∀ n s a w, μ s = n → a.tmps.size = N → a.defers = Df s → Has (env a) (kv s) → J s w →
      ∃ x a' w', (a'.tmps.size = N ∧ Q x (env a') w' a'.defers) ∧ Arrives P (lone (b.at a (.code c :: .inLoop c :: k)) cs w) b k cs x a' w' := by
    intro n
    induction n using Nat.strongRecOn with
    | _ n ih =>
      intro s a w hn g1 g2 gh hJ
      have hr := round s (env a) w hJ hs a g1 g2 (E_self gh).symm
      obtain ⟨x, a₁, w₁, ⟨q1, q3⟩, harr⟩ := hr b (.inLoop c :: k) cs
      cases x with
      | normal =>
        obtain ⟨s', ⟨k1, k2, k3⟩, hlt⟩ := q3
        obtain ⟨e₂, a₂, w₂, hq₂, harr₂⟩ := ih (μ s') (hn ▸ hlt) s' a₁ w₁ rfl q1 k2 k1 k3
        exact ⟨e₂, a₂, w₂, hq₂, .of_steps (Steps.trans harr (.one step_inLoop)) harr₂⟩
      | exit id => exact ⟨_, a₁, w₁, ⟨q1, q3⟩, .pass (x := .inLoop c) rfl (fun _ _ => .inl (by simp)) harr⟩
      | goto l => exact ⟨_, a₁, w₁, ⟨q1, q3⟩, .pass (x := .inLoop c) rfl (fun _ _ => .inl (by simp)) harr⟩
      | ret => exact ⟨_, a₁, w₁, ⟨q1, q3⟩, .pass (x := .inLoop c) rfl (fun _ _ => .inl (by simp)) harr⟩
      | panic ch => exact ⟨_, a₁, w₁, ⟨q1, q3⟩, .pass (x := .inLoop c) rfl (fun _ _ => .inl (by simp)) harr⟩
      | outgrown => exact ⟨_, a₁, w₁, ⟨q1, q3⟩, .pass (x := .inLoop c) rfl (fun _ _ => .inl (by simp)) harr⟩
  obtain ⟨x, a', w', hq, harr⟩ := key _ s0 a w rfl h1 (h2.trans hd) (h3 ▸ hh) hj
  exact ⟨x, a', w', hq, .of_steps (.one step_loop) harr⟩
/-- A scope with jumps back to one label. -/
def jumpD (l : Nat) (J : Env → World → List Deferred → Prop) (Q : Exit → Env → World → List Deferred → Prop) : Exit → Env → World → List Deferred → Prop
  | .goto l', e, w, D => l' = l ∧ J e w D
  | x, e, w, D => Q x e w D
theorem WPD.scope {σ : Type} {c rest : Code} (l : Nat) (kv : σ → List (Nat × Value)) (Df : σ → List Deferred) (J : σ → World → Prop) (μ : σ → Nat) (hf : findLabel c l = some rest) (hsr : slotsOk N rest = true)
    (first : WPD P N D c e w (jumpD l (fun e' w' D' => ∃ s, Has e' (kv s) ∧ D' = Df s ∧ J s w') Q))
    (pass : ∀ s e w, J s w → WPD P N (Df s) rest (E e (kv s)) w (jumpD l (fun e' w' D' => ∃ s', (Has e' (kv s') ∧ D' = Df s' ∧ J s' w') ∧ μ s' < μ s) Q)) : WPD P N D (.scope c) e w Q := by
  intro hs a h1 h2 h3
  intro b k cs
  have hg : gotoIn l (.inScope c :: k) = some (.code rest :: .inScope c :: k) := by simp [gotoIn, hf]
  have key : ∀ n s a w, μ s = n → a.tmps.size = N → a.defers = Df s → Has (env a) (kv s) → J s w →
      ∃ x a' w', (a'.tmps.size = N ∧ Q x (env a') w' a'.defers) ∧ Arrives P (lone (b.at a (.code rest :: .inScope c :: k)) cs w) b k cs x a' w' := by
    intro n
    induction n using Nat.strongRecOn with
    | _ n ih =>
      intro s a w hn g1 g2 gh hJ
      obtain ⟨x, a₁, w₁, ⟨q1, q3⟩, harr⟩ := pass s (env a) w hJ hsr a g1 g2 (E_self gh).symm b (.inScope c :: k) cs
      cases x with
      | normal => exact ⟨.normal, a₁, w₁, ⟨q1, q3⟩, Steps.trans harr (.one step_inScope)⟩
      | exit id => exact ⟨.exit id, a₁, w₁, ⟨q1, q3⟩, fun k' hk => harr k' (by simp [exitTo, hk])⟩
      | goto l' =>
        obtain ⟨rfl, s', ⟨k1, k2, k3⟩, hlt⟩ := q3
        obtain ⟨e₂, a₂, w₂, hq₂, harr₂⟩ := ih (μ s') (hn ▸ hlt) s' a₁ w₁ rfl q1 k2 k1 k3
        exact ⟨e₂, a₂, w₂, hq₂, .of_steps (harr _ hg) harr₂⟩
      | ret => exact ⟨_, a₁, w₁, ⟨q1, q3⟩, harr⟩
      | panic ch => exact ⟨_, a₁, w₁, ⟨q1, q3⟩, harr⟩
      | outgrown => exact ⟨_, a₁, w₁, ⟨q1, q3⟩, harr⟩
  obtain ⟨x, a₁, w₁, ⟨q1, q3⟩, harr⟩ := first hs a h1 h2 h3 b (.inScope c :: k) cs
  cases x with
  | normal => exact ⟨.normal, a₁, w₁, ⟨q1, q3⟩, .head step_scope (Steps.trans harr (.one step_inScope))⟩
  | exit id => exact ⟨.exit id, a₁, w₁, ⟨q1, q3⟩, fun k' hk => .head step_scope (harr k' (by simp [exitTo, hk]))⟩
  | goto l' =>
    obtain ⟨rfl, s', k1, k2, k3⟩ := q3
    obtain ⟨e₂, a₂, w₂, hq₂, harr₂⟩ := key _ s' a₁ w₁ rfl q1 k2 k1 k3
    exact ⟨e₂, a₂, w₂, hq₂, .of_steps (.head step_scope (harr _ hg)) harr₂⟩
  | ret => exact ⟨_, a₁, w₁, ⟨q1, q3⟩, .of_steps (.one step_scope) harr⟩
  | panic ch => exact ⟨_, a₁, w₁, ⟨q1, q3⟩, .of_steps (.one step_scope) harr⟩
  | outgrown => exact ⟨_, a₁, w₁, ⟨q1, q3⟩, .of_steps (.one step_scope) harr⟩
end

section
variable {P : Program} {N : Nat} {D : List Deferred} {e : Env} {w : World} {Q : Exit → Env → World → List Deferred → Prop}
theorem WPD.scopeL {σ : Type} {a X : Code} (l : Nat) (kv : σ → List (Nat × Value)) (Df : σ → List Deferred) (J : σ → World → Prop) (μ : σ → Nat) (hf : findLabel a l = none) (hsX : slotsOk N X = true)
    (first : WPD P N D a e w (thenD (fun e' w' D' => ∃ s, Has e' (kv s) ∧ D' = Df s ∧ J s w') (jumpD l (fun _ _ _ => False) Q)))
    (pass : ∀ s e w, J s w → WPD P N (Df s) X (E e (kv s)) w (jumpD l (fun e' w' D' => ∃ s', (Has e' (kv s') ∧ D' = Df s' ∧ J s' w') ∧ μ s' < μ s) Q)) : WPD P N D (.scope (.seq a (.seq (.label l) X))) e w Q := by
  refine WPD.scope (rest := .seq .skip X) l kv Df J μ (by simp [findLabel, hf]) (by simpa [slotsOk] using hsX) ?_ (fun s e w hj => WPD.seq (WPD.skip (pass s e w hj)))
  refine WPD.seq (first.mono ?_)
  intro x e' w' D' h
  cases x <;> simp only [thenD, jumpD] at h ⊢ <;> first | exact h | exact h.2.elim | skip
  obtain ⟨s, h1, rfl, h3⟩ := h
  refine WPD.seq (WPD.label ?_)
  have := pass s e' w' h3
  rw [E_self h1] at this
  refine this.mono ?_
  intro x e2 w2 D2 h
  cases x <;> simp only [jumpD] at h ⊢ <;> first | exact h | skip
  obtain ⟨e1, s', h5, _⟩ := h
  exact ⟨e1, s', h5⟩
end
/-! ### Marks -/
def mark (D : Nat) : Deferred := { target := .collected D, args := #[] }
def markSA (D : Nat) : SA where
  fp := [D]
  P := fun w => w.heap[D]? = some (.deferred (some []))
  loc := fun _ _ h hp => (h D (by simp)).trans hp
theorem run_takeMark {P : Program} {w : World} {D : Nat} (h : w.heap[D]? = some (.deferred (some []))) : (Instr.takeDeferred D).run P w = .ok [] (w.putObj D (.deferred none)) := run_takeDeferred h
theorem Inv.shut {B : Base} {h : Heap} {M : List SA} {w : World} {D : Nat} (I : Inv B h (markSA D :: M) w) : Inv B h M (w.putObj D (.deferred none)) := by
  have hD : w.heap[D]? = some (.deferred (some [])) := (I.own _ (List.mem_cons_self ..)).1
  have J := I.step (A' := ⟨[], fun _ => True, fun _ _ _ h => h⟩) (w' := w.putObj D (.deferred none)) rfl rfl rfl (by simp [World.putObj]) (fun b _ hb => World.putObj_heap_other (fun e => hb (by simp [markSA, e]))) trivial (fun b hb => by cases hb)
  exact J.drop
theorem leave_marks {P : Program} {fn : Func} {tmps : Array Value} {R : Ending → World → Prop} {B : Base} {h : Heap} {M : List SA} : ∀ (ms : List Nat) (w : World), Inv B h (M ++ ms.map markSA) w →
    (∀ w', Inv B h M w' → ∃ v, (results fn tmps).run P w' = .ok v w' ∧ R (.returned v) w') → LeavesInM Fence.wide 0 P fn tmps R (ms.map mark) .returning w
  | [], w, I, k => by
    simp only [List.map_nil, List.append_nil] at I
    exact k w I
  | m :: ms, w, I, k => by
    have I' : Inv B h (markSA m :: (M ++ ms.map markSA)) w := I.perm (by simp only [List.map_cons]; exact List.perm_middle.symm)
    have hD : w.heap[m]? = some (.deferred (some [])) := (I'.own _ (List.mem_cons_self ..)).1
    exact ⟨by simp, .inl ⟨m, _, rfl, run_takeMark hD, leave_marks ms _ I'.shut k⟩⟩
def doneQ (P : Program) (fn : Func) (B : Base) (Post : Value → Heap → Prop) (x : Exit) (e : Env) (w : World) (D : List Deferred) : Prop :=
  (x = .ret ∨ x = .normal) ∧ ∃ (ms : List Nat) (M : List SA) (h' : Heap) (vs : List Value), D = ms.map mark ∧ Inv B h' (M ++ ms.map markSA) w ∧ (∀ w2, Inv B h' M w2 → RV P e w2 fn.results.toList vs) ∧ Post (tup vs) h'
theorem Fn.ofD {P : Program} {f : FuncId} {fn : Func} {c : Code} {N : Nat} {args : List Value} {B : Base} {Post : Value → Heap → Prop} (hf : P.funcs[f]? = some fn) (hb : fn.body = some c) (hN : fn.ntmps = N) (hs : slotsOk N c = true)
    (hl : args.length ≤ N) (h : ∀ e, WPD P N [] c (E e (argsE 0 args)) B.w (doneQ P fn B Post)) : Fn P f args B Post := by
  refine callsIn_wide.1 (callsIn_of_wp_marks (n := 0) hf hb trivial ?_)
  refine wpIn_wide.2 ?_
  subst hN
  refine wp_mono (h _ hs { tmps := args.toArray ++ Array.replicate (fn.ntmps - args.toArray.size) undef, defers := [] } (by simp; omega) rfl (E_self (has_args args 0 fun j v hv => ?_)).symm) ?_
  · have hj := (List.getElem?_eq_some_iff.1 hv).1
    have hg : args[j] = v := (List.getElem?_eq_some_iff.1 hv).2
    simp [env, Array.getD_eq_getD_getElem?, Array.getElem?_append, hj, hg]
  · rintro x a' w' ⟨_, hx, ms, M, h', vs, hd, I, hv, hp⟩
    have : LeavesInM Fence.wide 0 P fn a'.tmps (fun x w' => ∃ v h', x = .returned v ∧ Ext B w' h' ∧ Post v h') a'.defers .returning w' := by
      rw [hd]
      exact leave_marks ms w' I fun w2 I2 => ⟨_, results_run rfl (hv w2 I2), _, h', rfl, I2.ext_of, hp⟩
    rcases hx with rfl | rfl <;> exact this

def callQ (P : Program) (fn : Func) (R : Ending → World → Prop) (x : Exit) (e : Env) (w : World) : Prop := (x = .ret ∨ x = .normal) ∧ ∃ vs, RV P e w fn.results.toList vs ∧ R (.returned (tup vs)) w
theorem Calls.ofWP {P : Program} {f : FuncId} {fn : Func} {c : Code} {N : Nat} {args : List Value} {w : World} {R : Ending → World → Prop} (hf : P.funcs[f]? = some fn) (hb : fn.body = some c) (hN : fn.ntmps = N) (hs : slotsOk N c = true)
    (hl : args.length ≤ N) (h : ∀ e, WP P N [] c (E e (argsE 0 args)) w (callQ P fn R)) : Calls P f args.toArray w R := by
  refine calls_of_wp hf hb ?_
  subst hN
  refine wp_mono (h _ hs { tmps := args.toArray ++ Array.replicate (fn.ntmps - args.toArray.size) undef, defers := [] } (by simp; omega) rfl (E_self (has_args args 0 fun j v hv => ?_)).symm) ?_
  · have hj := (List.getElem?_eq_some_iff.1 hv).1
    have hg : args[j] = v := (List.getElem?_eq_some_iff.1 hv).2
    simp [env, Array.getD_eq_getD_getElem?, Array.getElem?_append, hj, hg]
  · rintro x a' w' ⟨_, g2, hx, vs, hv, hr⟩
    rcases hx with rfl | rfl <;> exact ⟨g2, _, results_run rfl hv, hr⟩
theorem thenD_ret {K : Env → World → List Deferred → Prop} {Q : Exit → Env → World → List Deferred → Prop} {e : Env} {w : World} {D : List Deferred} (h : Q .ret e w D) : thenD K Q .ret e w D := h
theorem blockD_ret {id : Nat} {Q : Exit → Env → World → List Deferred → Prop} {e : Env} {w : World} {D : List Deferred} (h : Q .ret e w D) : blockD id Q .ret e w D := h
theorem rdHb {h : Heap} {b : Nat} {cs : List Value} {T : TypeId} {f : Nat × Nat} (hp : h b = some (.cells cs.toArray T f)) (o n : Nat) : RdH h b o ((cs.drop o).take n) := fun j v e => by
  rw [List.getElem?_take] at e
  split at e
  · rw [List.getElem?_drop] at e; simp [Heap.cell, hp, e]
  · cases e
/-! ### The statement -/
/-- An iterator's contract: it hands xs to yield, one behind the other, and keeps nothing of the caller's from what it was; hg: what is known for good, of the caller's and of its own. -/
def Iter {α : Type} (P : Program) (g : FuncId) (lb : List Value) (encs : α → List Value) (xs : List α) (h : Heap) : Prop :=
  ∀ (l : Nat) (J : Heap → Nat → World → Prop) (Jx : World → Prop) (hg : Heap) (W : World), h.le hg → J hg 0 W →
    (∀ hg k W, J hg k W → Base.ok ⟨W, hg⟩) →
    (∀ hg k W hg' W', J hg k W → Ext ⟨W, hg⟩ W' hg' → J hg' k W') →
    (∀ hg' k x W, hg.le hg' → xs[k]? = some x → J hg' k W → YieldAt Fence.wide 0 P l (encs x).toArray W fun ed W' => (ed = .returned (.bool true) ∧ ∃ h2, hg'.le h2 ∧ J h2 (k + 1) W') ∨ (ed = .returned (.bool false) ∧ Jx W')) →
    Calls P g (#[.func (.yield l) #[] #[]] ++ lb.toArray) W fun ed W' => (∃ v, ed = .returned v) ∧ ((∃ hg', hg.le hg' ∧ J hg' xs.length W') ∨ Jx W')
theorem Iter.le {α : Type} {P : Program} {g : FuncId} {lb : List Value} {encs : α → List Value} {xs : List α} {h h' : Heap} (it : Iter P g lb encs xs h) (hl : h.le h') : Iter P g lb encs xs h' :=
  fun l J Jx hg W h1 => it l J Jx hg W (hl.trans h1)

inductive Jmp where
  | ret
  | exit (id : Nat)
  | goto (t : Nat)
def Jmp.code : Jmp → Code
  | .ret => .ret
  | .exit id => .exit id
  | .goto t => .goto t
def Jmp.ex : Jmp → Exit
  | .ret => .ret
  | .exit id => .exit id
  | .goto t => .goto t
def loopSA (l : Nat) (r : Loop) : SA where
  fp := [l]
  P := fun w => w.heap[l]? = some (.loop r)
  loc := fun _ _ h hp => (h l (by simp)).trans hp
theorem Inv.setLoop {B : Base} {h : Heap} {X Y : List SA} {w : World} {l : Nat} {r : Loop} (r' : Loop) (I : Inv B h (X ++ loopSA l r :: Y) w) : Inv B h (X ++ loopSA l r' :: Y) (w.putObj l (.loop r')) := by
  have I1 : Inv B h (loopSA l r :: (X ++ Y)) w := I.perm List.perm_middle.symm
  have hl : w.heap[l]? = some (.loop r) := (I1.own _ (List.mem_cons_self ..)).1
  have hlt := (Array.getElem?_eq_some_iff.1 hl).1
  have J := I1.step (A' := loopSA l r') (w' := w.putObj l (.loop r')) rfl rfl rfl (by simp [World.putObj]) (fun b _ hb => World.putObj_heap_other (fun e => hb (by simp [loopSA, e]))) (World.putObj_heap_same hlt)
    (fun b hb => ⟨.inl (by simpa [loopSA] using hb), by simp [loopSA] at hb; subst hb; simpa [World.putObj] using hlt⟩)
  exact J.perm List.perm_middle
theorem Inv.getLoop {B : Base} {h : Heap} {X Y : List SA} {w : World} {l : Nat} {r : Loop} (I : Inv B h (X ++ loopSA l r :: Y) w) : w.heap[l]? = some (.loop r) := (I.own (loopSA l r) (by simp)).1
theorem Inv.outLoop {B : Base} {h : Heap} {X Y : List SA} {w : World} {l : Nat} {r : Loop} (I : Inv B h (X ++ loopSA l r :: Y) w) : Inv B h (X ++ Y) w := I.weak ((List.sublist_cons_self _ _).append_left X)
/-- The round's slots: the activation's, with what yield was handed. -/
def argE (e : Env) : List (Nat × Value) → Env
  | [] => e
  | p :: r => argE (upd e p.1 p.2) r
theorem env_args {N : Nat} : ∀ (l : List (Nat × Value)) (t : Array Value), t.size = N → (∀ p ∈ l, p.1 < N) → env { tmps := l.foldl (fun t p => t.setIfInBounds p.1 p.2) t, defers := [] } = argE (env { tmps := t, defers := [] }) l ∧ (l.foldl (fun t p => t.setIfInBounds p.1 p.2) t).size = N
  | [], t, hs, _ => ⟨rfl, hs⟩
  | p :: l, t, hs, hp => by
    have ih := env_args l (t.setIfInBounds p.1 p.2) (by simpa using hs) (fun q hq => hp q (List.mem_cons_of_mem _ hq))
    have h1 : env { tmps := t.setIfInBounds p.1 p.2, defers := [] } = upd (env { tmps := t, defers := [] }) p.1 p.2 := env_put { tmps := t, defers := [] } p.1 p.2 (by have := hp p (List.mem_cons_self ..); simpa [hs] using this)
    simp only [List.foldl_cons, argE, ← h1]
    exact ih
/-- What a round owes at its end. -/
def roundQ (B : Base) (hg : Heap) {σ : Type} (U : σ → List SA) (T : List SA) (Jn : σ → Prop) (Jx : Jmp → σ → Prop) : Exit → Env → World → Prop
  | .normal, _, W => ∃ h2 s X, hg.le h2 ∧ Inv B h2 (X ++ (U s ++ T)) W ∧ Jn s
  | .ret, _, W => ∃ h2 s X, hg.le h2 ∧ Inv B h2 (X ++ (U s ++ T)) W ∧ Jx .ret s
  | .exit id, _, W => ∃ h2 s X, hg.le h2 ∧ Inv B h2 (X ++ (U s ++ T)) W ∧ Jx (.exit id) s
  | .goto t, _, W => ∃ h2 s X, hg.le h2 ∧ Inv B h2 (X ++ (U s ++ T)) W ∧ Jx (.goto t) s
  | _, _, _ => False
theorem WPD.rangeFunc {α σ : Type} {P : Program} {N : Nat} {e : Env} {w : World} {Q : Exit → Env → World → List Deferred → Prop} {B : Base} {h : Heap} {ms : List Nat} {g : Operand} {ps : Array Tmp} {assign body : Code} {gf : FuncId} {lb : List Value}
    {encs : α → List Value} {xs : List α} (U : σ → List SA) (Jc : Nat → σ → Prop) (Jx : Jmp → σ → Prop) (s0 : σ) (I : Inv B h (U s0 ++ ms.map markSA) w) (j0 : Jc 0 s0)
    (hg : ev e g = .func (.func gf) #[] lb.toArray) (eg : Enters P gf) (it : Iter P gf lb encs xs h) (hps : ∀ x, (encs x).length = ps.size) (hpN : ps.toList.all (· < N) = true) (hsa : slotsOk N assign = true) (hsb : slotsOk N body = true)
    (round : ∀ (l : Nat) (r : Loop) (ms' : List Nat) (hg : Heap) (k : Nat) (x : α) (s : σ) (W : World), xs[k]? = some x → h.le hg → Inv B hg (U s ++ (loopSA l r :: ms'.map markSA)) W → Jc k s →
      WPI P N l assign (argE e (ps.toList.zip (encs x))) W (thenE (fun e1 W1 => ∃ h1 X, hg.le h1 ∧ Inv B h1 (X ++ (U s ++ (loopSA l r :: ms'.map markSA))) W1 ∧
        ∀ r' W2, Inv B h1 (X ++ (U s ++ (loopSA l r' :: ms'.map markSA))) W2 → WPI P N l body e1 W2 (roundQ B h1 U (loopSA l r' :: ms'.map markSA) (Jc (k + 1)) Jx)) (fun _ _ _ => False)))
    (hdone : ∀ D h2 s W, h.le h2 → Inv B h2 (U s ++ (D :: ms).map markSA) W → Jc xs.length s → Q .normal e W ((D :: ms).map mark))
    (hstop : ∀ D c h2 s W, h.le h2 → Inv B h2 (U s ++ (D :: ms).map markSA) W → Jx c s → Q c.ex e W ((D :: ms).map mark)) :
    WPD P N (ms.map mark) (.rangeFunc g ps assign body) e w Q := by
  intro _ a h1 h2 h3
  subst h3
  refine (wpIn_wide (n := 1)).1 (wpIn_rangeFunc ?_)
  intro fn _
  obtain ⟨rec, hrec⟩ : ∃ rec : LoopState → Option Code → Loop, rec = fun st pe => { state := st, pending := pe, fn, tmps := a.tmps, params := ps, assign, body, defers := w.heap.size } := ⟨_, rfl⟩
  obtain ⟨l, hl⟩ : ∃ l, l = w.heap.size + 1 := ⟨_, rfl⟩
  obtain ⟨W1, hW1⟩ : ∃ W1, (w.alloc (.deferred (some []))).alloc (.loop (rec .ready none)) = W1 := ⟨_, rfl⟩
  have I1 : Inv B h (U s0 ++ (loopSA l (rec .ready none) :: (w.heap.size :: ms).map markSA)) W1 := by
    have J1 : Inv B h (markSA w.heap.size :: (U s0 ++ ms.map markSA)) (w.alloc (.deferred (some []))) := I.gain (Grow.alloc w _) (World.alloc_heap_new w _) (fun b hb => by simp [markSA] at hb; subst hb; simp)
    have J2 : Inv B h (loopSA l (rec .ready none) :: (markSA w.heap.size :: (U s0 ++ ms.map markSA))) W1 := by
      rw [← hW1]
      refine J1.gain (Grow.alloc _ _) ?_ (fun b hb => ?_)
      · have := World.alloc_heap_new (w.alloc (.deferred (some []))) (.loop (rec .ready none))
        rw [World.size_alloc] at this
        rw [hl]; exact this
      · simp [loopSA] at hb; subst hb; rw [hl]; simp
    refine J2.perm ?_
    refine List.perm_middle.trans ?_
    refine List.Perm.cons _ ?_
    exact List.perm_middle
  refine ⟨l, [mark w.heap.size], W1, { target := .fn (.func gf) lb.toArray, args := #[.func (.yield l) #[] #[]] }, W1, gf, #[.func (.yield l) #[] #[]] ++ lb.toArray, W1, ?_, ?_, fun _ _ => trivial, ?_, (fun hd => by cases hd), ?_⟩
  · rw [← hW1, hrec, hl]; exact run_enterLoop_outer _ _ _ _ _
  · rw [eval_env]
    have hg' : ev (env a) g = .func (.func gf) #[] lb.toArray := hg
    simp only [resolve, hg']
    simp [go_sem]
    rfl
  · simp [invoke, go_sem]; exact eg _ _
  · refine callsIn_wide.2 ?_
    refine (it l (fun hg k W => h.le hg ∧ ∃ s, Inv B hg (U s ++ (loopSA l (rec .ready none) :: (w.heap.size :: ms).map markSA)) W ∧ Jc k s)
      (fun W => ∃ c hg s, h.le hg ∧ Inv B hg (U s ++ (loopSA l (rec .done (some c.code)) :: (w.heap.size :: ms).map markSA)) W ∧ Jx c s) h W1 (Heap.le.refl h) ⟨Heap.le.refl h, s0, I1, j0⟩
      (fun hg k W ⟨_, s, I, _⟩ => I.base_ok) (fun hg k W hg' W' ⟨g1, s, I, hj⟩ X => ⟨g1.trans X.ext, s, I.called X, hj⟩) ?_).mono ?_
    · rintro hg' k x W g0 hx ⟨g1, s, IW, hj⟩
      have hL := IW.getLoop
      have hy := run_yield (P := P) (args := (encs x).toArray) hL (by rw [hrec]; simpa using hps x)
      refine ⟨_, _, _, _, hy, roundIn_of_wpIn trivial ?_⟩
      rw [hrec]
      have hfold : (ps.zip (encs x).toArray).foldl (fun tmps (t, a) => tmps.setIfInBounds t a) a.tmps = (ps.toList.zip (encs x)).foldl (fun t p => t.setIfInBounds p.1 p.2) a.tmps := by
        rw [← Array.foldl_toList]; simp
      have hE := env_args (N := N) (ps.toList.zip (encs x)) a.tmps h1 (fun p hp => by
        have := (List.all_eq_true.1 hpN) p.1 (List.of_mem_zip hp).1
        simpa using this)
      have henv : env { tmps := a.tmps, defers := [] } = env a := rfl
      rw [henv] at hE
      have hR := round l (rec .ready none) (w.heap.size :: ms) hg' k x s W hx g1 IW hj hsa { tmps := (ps.toList.zip (encs x)).foldl (fun t p => t.setIfInBounds p.1 p.2) a.tmps, defers := [] } hE.2 rfl hE.1
      simp only [hfold]
      refine wpIn_mono hR ?_
      rintro x1 a1 w1 ⟨k1, k2, k3⟩
      cases x1 <;> simp only [thenE] at k3 <;> first | exact k3.elim | skip
      obtain ⟨hg1, X, gl1, IX, hb⟩ := k3
      have IX' : Inv B hg1 ((X ++ U s) ++ (loopSA l (rec .ready none) :: (w.heap.size :: ms).map markSA)) w1 := by rw [List.append_assoc]; exact IX
      refine ⟨_, run_beginRound IX'.getLoop (by rw [hrec]), ?_⟩
      have I2 := IX'.setLoop { rec .ready none with state := .busy }
      rw [List.append_assoc] at I2
      refine wpIn_mono (hb _ _ I2 hsb a1 k1 k2 rfl) ?_
      have fin : ∀ (jump : Option Code) (h2 : Heap) (s2 : σ) (X2 : List SA) (W3 : World), Inv B h2 (X2 ++ (U s2 ++ (loopSA l { rec .ready none with state := .busy } :: (w.heap.size :: ms).map markSA))) W3 →
          ∃ W4, (Instr.endRound l jump).run P W3 = .ok (.bool jump.isNone) W4 ∧ Inv B h2 (U s2 ++ (loopSA l (rec (if jump.isNone then .ready else .done) jump) :: (w.heap.size :: ms).map markSA)) W4 := fun jump h2 s2 X2 W3 I3 => by
        have I3' : Inv B h2 (U s2 ++ (loopSA l { rec .ready none with state := .busy } :: (w.heap.size :: ms).map markSA)) W3 := I3.weak (List.sublist_append_right _ _)
        have := run_endRound (P := P) jump I3'.getLoop
        refine ⟨_, this, ?_⟩
        have I4 := I3'.setLoop (rec (if jump.isNone then .ready else .done) jump)
        rw [hrec] at I4 ⊢
        exact I4
      rintro x2 a2 w2 ⟨q1, q2, q3⟩
      cases x2 <;> simp only [roundQ] at q3 <;> simp only [roundPost] <;> first | exact q3.elim | skip
      · obtain ⟨h2, s2, X2, gl2, I3, hj2⟩ := q3
        obtain ⟨W4, hr, I4⟩ := fin none h2 s2 X2 _ I3
        exact ⟨_, _, hr, .inl ⟨rfl, h2, gl1.trans gl2, (g1.trans gl1).trans gl2, s2, (by rw [hrec] at I4; exact I4), hj2⟩⟩
      · rename_i id
        obtain ⟨h2, s2, X2, gl2, I3, hj2⟩ := q3
        obtain ⟨W4, hr, I4⟩ := fin (some (.exit id)) h2 s2 X2 _ I3
        exact ⟨_, _, hr, .inr ⟨rfl, .exit id, h2, s2, (g1.trans gl1).trans gl2, (by rw [hrec] at I4; exact I4), hj2⟩⟩
      · rename_i t
        obtain ⟨h2, s2, X2, gl2, I3, hj2⟩ := q3
        obtain ⟨W4, hr, I4⟩ := fin (some (.goto t)) h2 s2 X2 _ I3
        exact ⟨_, _, hr, .inr ⟨rfl, .goto t, h2, s2, (g1.trans gl1).trans gl2, (by rw [hrec] at I4; exact I4), hj2⟩⟩
      · obtain ⟨h2, s2, X2, gl2, I3, hj2⟩ := q3
        obtain ⟨W4, hr, I4⟩ := fin (some .ret) h2 s2 X2 _ I3
        exact ⟨_, _, hr, .inr ⟨rfl, .ret, h2, s2, (g1.trans gl1).trans gl2, (by rw [hrec] at I4; exact I4), hj2⟩⟩
    · rintro ed W2 ⟨⟨v, rfl⟩, (⟨hg', gl, g1, s, I2, hj⟩ | ⟨c, hg', s, g1, I2, hj⟩)⟩
      · refine ⟨none, _, by have := run_endLoop (P := P) I2.getLoop (by rw [hrec]; simp); rw [hrec] at this; exact this, ?_⟩
        have I3 := (I2.setLoop { rec .ready none with state := .exhausted }).outLoop
        refine ⟨h1, ?_⟩
        have hq := hdone w.heap.size hg' s _ g1 (by rw [hrec] at I3; exact I3) hj
        have hq' : Q .normal (env a) (W2.putObj l (.loop { rec .ready none with state := .exhausted })) (mark w.heap.size :: a.defers) := by rw [h2]; rw [hrec]; exact hq
        rw [hrec] at hq'
        exact hq'
      · refine ⟨some c.code, _, by have := run_endLoop (P := P) I2.getLoop (by rw [hrec]; simp); rw [hrec] at this; exact this, ?_⟩
        have I3 := (I2.setLoop { rec .done (some c.code) with state := .exhausted }).outLoop
        have hq := hstop w.heap.size c hg' s _ g1 (by rw [hrec] at I3; exact I3) hj
        have hq' : Q c.ex (env a) (W2.putObj l (.loop { rec .done (some c.code) with state := .exhausted })) (mark w.heap.size :: a.defers) := by rw [h2]; rw [hrec]; exact hq
        rw [hrec] at hq'
        cases c with
        | ret => exact wpIn_ret ⟨h1, hq'⟩
        | exit id => exact wpIn_exit ⟨h1, hq'⟩
        | goto t => exact wpIn_goto ⟨h1, hq'⟩

theorem WPI.cutL {P : Program} {N l : Nat} {e : Env} {w : World} {Q : Exit → Env → World → Prop} {x : Code} {σ : Type} (kv : σ → List (Nat × Value)) (J : σ → World → Prop)
    (hx : WPI P N l x e w (thenE (fun e' w' => ∃ s, Has e' (kv s) ∧ J s w') Q)) (hy : ∀ s e' w', J s w' → Q .normal (E e' (kv s)) w') : WPI P N l x e w Q := by
  refine hx.mono ?_
  intro x e' w' h
  cases x <;> first | exact h | skip
  obtain ⟨s, h1, h2⟩ := h
  have := hy s e' w' h2
  rwa [E_self h1] at this

/-! ### Slices of one cell an element, made whole and written -/
section
variable {P : Program} {e : Env} {w : World} {B : Base} {h : Heap} {M : List SA} {d : Option Nat} {t : TypeId} {pos : String} {af : Array Edge} {g : Option (Nat × Bool)} {K : Value → World → Prop}
theorem O.make1 {T el bytes n : Nat} {z zc : Value} {x y : Operand} {k k' : IntKind} (I : Inv B h M w) (hT : Und P T (.slice el)) (he : ElT P el 1 bytes z) (hzc : z.cells = #[zc]) (hx : ev e x = .int k (n : Int)) (hy : ev e y = .int k' (n : Int)) (hb : bytes * n ≤ 140737488355328) (hn : n ≤ 140737488355328)
    (kk : ∀ b w', Inv B h (TF.box b (List.replicate n zc) el :: M) w' → K (.slice (some ⟨b, 0, none⟩) n n) w') : Op1 P ⟨d, .makeSlice T x y, t, pos, af, g⟩ e w K := by
  obtain ⟨i, hi, hz, hs, hby⟩ : ∃ i, P.info? el = some i ∧ i.zero = some z ∧ i.size = 1 ∧ i.bytes = bytes := by
    have := he.info
    cases h : P.info? el with
    | none => simp [h] at this
    | some i => simp [h] at this; exact ⟨i, rfl, this.1, this.2.1, this.2.2⟩
  have hb' : (i.bytes : Int) * (n : Int) ≤ 281474976710656 := by
    have h : ((i.bytes * n : Nat) : Int) ≤ 281474976710656 := by rw [hby]; omega
    rwa [Int.natCast_mul] at h
  have hr := run_make (P := P) w T el i z hT hi hz k k' n n (by omega) (Int.le_refl _) hb' (by omega)
  have hc : madeCells z.cells ((n : Int).toNat * i.size) = (List.replicate n zc).toArray := by
    rw [hs, hzc]
    apply Array.ext'
    simp [madeCells, Nat.mod_one]
    apply List.ext_getElem <;> simp
  rw [hc] at hr
  simp only [Int.toNat_natCast] at hr
  have : (execOp (ev e) ⟨d, .makeSlice T x y, t, pos, af, g⟩).run P w = .ok (.value (.slice (some ⟨w.heap.size, 0, none⟩) n n)) (w.alloc (.cells (List.replicate n zc).toArray el)) := by
    simp [execOp, hx, hy, hr]
  unfold Op1
  rw [this]
  exact kk _ _ (I.alloc _ _)
theorem putAt_one {α : Type} (f : α → Value) (L : List α) (i : Nat) (v : α) (hi : i < L.length) : putAt (L.map f) i [f v] = (L.set i v).map f := by
  rw [putAt_eq _ _ _ (by simp; omega), List.map_set]
  apply List.ext_getElem?
  intro j
  simp only [List.getElem?_append, List.length_append, List.length_take, List.length_map, List.length_cons, List.length_nil, List.getElem?_take, List.getElem?_drop, List.getElem?_set, Nat.min_eq_left (Nat.le_of_lt hi)]
  by_cases h1 : j < i
  · simp [h1, show j < i + 1 by omega, show i ≠ j by omega]
  · by_cases h2 : j = i
    · subst h2; simp [hi]
    · simp [show ¬ j < i + 1 by omega, show i ≠ j by omega, show i + 1 + (j - (i + 1)) = j by omega]
theorem O.store1 {T T' : TypeId} {a x : Operand} {b o : Nat} {α : Type} {f : α → Value} {L : List α} {i : Nat} {v : α} (I : Inv B h M w) (hT : Ty P T 1 false) (n : Nat) (hn : M[n]? = some (TF.box b (L.map f) T')) (ha : ev e a = .pointer (some ⟨b, o, none⟩)) (ho : o = i) (hi : i < L.length) (hx : ev e x = f v)
    (hc : (f v).cells = #[f v]) (h1 : (f v).oneCell' = true) (k : ∀ w', Inv B h (M.set n (TF.box b ((L.set i v).map f) T')) w' → K undef w') : Op1 P ⟨d, .store T a x, t, pos, af, g⟩ e w K := by
  subst ho
  exact O.store I hT n hn ha hx (vs := [f v]) hc rfl (by simp [oneCells, h1]) (by simp; omega) (putAt_one f L o v hi) k
theorem Inv.rdL {b T : Nat} {α : Type} {f : α → Value} {L : List α} {i : Nat} {v : α} (I : Inv B h M w) (n : Nat) (hn : M[n]? = some (box b (L.map f) T)) {o : Nat} (ho : o = i) (hi : L[i]? = some v) : Rd w b o [f v] := fun j u e => by
  subst ho
  have hb : w.heap[b]? = some (.cells (L.map f).toArray T (0, 0)) := I.at n hn
  cases j with
  | zero => simp at e; subst e; simp [World.cell?, hb, hi]
  | succ j => simp at e
end
end Go.TF
end
section
/- A queue of the call's own: a slice that is read in front, cut there, and appended to behind; conversions of pieces; string ranges. -/
namespace Go.TF
open Go Go.RowKit

/-- A piece told otherwise. -/
theorem Inv.conv {B : Base} {h : Heap} {M : List SA} {w : World} (I : Inv B h M w) (n : Nat) {A A' : SA} (hn : M[n]? = some A) (hf : ∀ b ∈ A'.fp, b ∈ A.fp) (hP : A.P w → A'.P w) : Inv B h (M.set n A') w :=
  I.stepAt n hn rfl rfl rfl (Nat.le_refl _) (fun _ _ _ => rfl) (hP (I.at n hn)) (fun b hb => by
    have hA := (I.own A (List.mem_of_getElem? hn)).2 b (hf b hb)
    exact ⟨.inl (hf b hb), hA.2.1⟩)
/-- Elements of one cell each, from o on, in block g, room for c. -/
def ownQ (e : TypeId) (g o c : Nat) (xs : List Value) : SA where
  fp := [g]
  P := fun w => ∃ cur : Array Value, w.heap[g]? = some (.cells cur e (0, 0)) ∧ xs.length ≤ c ∧ o + c ≤ cur.size ∧ (cur.toList.drop o).take xs.length = xs
  loc := fun w w' h hp => by
    obtain ⟨cur, h1, h2⟩ := hp
    exact ⟨cur, (h g (by simp)).trans h1, h2⟩
section
variable {P : Program} {e : Env} {w : World} {B : Base} {h : Heap} {M : List SA} {d : Option Nat} {t : TypeId} {pos : String} {af : Array Edge} {g : Option (Nat × Bool)} {K : Value → World → Prop}
theorem O.mkbox {T el k n : Nat} {parts : Array (Nat × Operand)} {z : Value} {cs : List Value} (I : Inv B h M w) (hT : Und P T (.slice el)) (hk : ∀ w, (sizeOf el).run P w = .ok k w) (hz : Zero P el z) (hs : n * k ≤ 16777216) (h0 : n * k ≠ 0)
    (hf : fillL (fun i => some (i * k, k)) ((List.range (n * k)).map fun i => (cellsL z)[i % k]!) (parts.toList.map fun (i, x) => (i, ev e x)) = some cs) (hzc : (cellsL z).length = k)
    (kk : ∀ b w', Inv B h (TF.box b cs el :: M) w' → K (.slice (some ⟨b, 0, none⟩) n n) w') :
    Op1 P ⟨d, .buildSlice T n parts, t, pos, af, g⟩ e w K := by
  have h3 : (parts.map fun (i, x) => (i, ev e x)).toList = parts.toList.map fun (i, x) => (i, ev e x) := by simp
  have h4 := fill_eq (fun i => some (i * k, k)) (parts.toList.map fun (i, x) => (i, ev e x)) ((List.range (n * k)).map fun i => (cellsL z)[i % k]!)
  rw [hf] at h4
  have hrun : (execOp (ev e) ⟨d, .buildSlice T n parts, t, pos, af, g⟩).run P w = .ok (.value (.slice (some ⟨w.heap.size, 0, none⟩) n n)) (w.alloc (.cells cs.toArray el)) := by
    have hs' : ¬ (n * k > 2 ^ 24) := by simp; omega
    simp only [execOp, Instr.buildSlice, Sem.run_bind, run_underlying hT, Result.andThen_ok, hk w, h3, if_neg hs', if_neg h0, hz w]
    have h5 : (Array.map (fun x => z.cells[x % z.cells.size]!) (Array.range (n * k))) = ((List.range (n * k)).map fun i => (cellsL z)[i % k]!).toArray := by
      apply Array.ext'
      simp [cells_eq z, hzc]
    simp only [Sem.run_pure, Result.andThen_ok]
    rw [h5, h4]
    simp [newRow]
  unfold Op1
  rw [hrun]
  exact kk _ _ (I.gain (A := TF.box w.heap.size cs el) (Grow.alloc w _) (heap_alloc_new w _) (fun b hb => by simp [TF.box] at hb; subst hb; simp))
end

/-! ### Ranges over strings -/
def sit (b : Nat) (s : ByteArray) (i : Nat) : SA where
  fp := [b]
  P := fun w => w.heap[b]? = some (.stringIter s i)
  loc := fun _ _ h hp => (h b (by simp)).trans hp
section
variable {P : Program} {e : Env} {w : World} {B : Base} {h : Heap} {M : List SA} {d : Option Nat} {t : TypeId} {pos : String} {af : Array Edge} {g : Option (Nat × Bool)} {K : Value → World → Prop}
theorem O.ranges {T : Nat} {x : Operand} {s : ByteArray} (I : Inv B h M w) (hT : Und P T .string) (hx : ev e x = .string s) (kk : ∀ b w', Inv B h (sit b s 0 :: M) w' → K (.pointer (some ⟨b, 0, none⟩)) w') :
    Op1 P ⟨d, .range T x, t, pos, af, g⟩ e w K := by
  have : (execOp (ev e) ⟨d, .range T x, t, pos, af, g⟩).run P w = .ok (.value (.pointer (some ⟨w.heap.size, 0, none⟩))) (w.iter s 0) := by
    simp [execOp, hx, run_range_string w T s hT]
  unfold Op1
  rw [this]
  exact kk _ _ (I.gain (A := sit w.heap.size s 0) (Grow.alloc w _) (World.iter_heap w s 0) (fun b hb => by simp [sit] at hb; subst hb; simp [World.iter]))
theorem O.nexts {x : Operand} {b i : Nat} {s : ByteArray} (I : Inv B h M w) (n : Nat) (hn : M[n]? = some (sit b s i)) (hx : ev e x = .pointer (some ⟨b, 0, none⟩))
    (k0 : ¬ i < s.size → K (.tuple #[.bool false]) w)
    (k1 : i < s.size → ∀ w', Inv B h (M.set n (sit b s (i + (Utf8.decode s i).2))) w' → K (.tuple #[.bool true, .int .i64 i, .int .i32 (Utf8.decode s i).1]) w') :
    Op1 P ⟨d, .next x true, t, pos, af, g⟩ e w K := by
  have hb : w.heap[b]? = some (.stringIter s i) := I.at n hn
  have hg : (getObj b).run P w = .ok (.stringIter s i) w := getObj_run hb (by intro c t f h; cases h)
  have hset := fun o => setObj_run (P := P) (o' := o) hb (by intro c t f h; cases h)
  unfold Op1
  by_cases hlt : i < s.size
  · have hrun : (execOp (ev e) ⟨d, .next x true, t, pos, af, g⟩).run P w = .ok (.value (.tuple #[.bool true, .int .i64 i, .int .i32 (Utf8.decode s i).1])) { w with heap := w.heap.setIfInBounds b (.stringIter s (i + (Utf8.decode s i).2)) } := by
      simp [execOp, hx, Instr.next, hg, hlt, hset, goInt]
    rw [hrun]
    exact k1 hlt _ (I.setObj n hn rfl rfl fun w' hw' => hw')
  · have hrun : (execOp (ev e) ⟨d, .next x true, t, pos, af, g⟩).run P w = .ok (.value (.tuple #[.bool false])) w := by
      simp [execOp, hx, Instr.next, hg, hlt]
    rw [hrun]
    exact k0 hlt
end
end Go.TF
end
section
/- Maps from string to int that the call makes. -/
namespace Go.TF
open Go Go.RowKit

theorem beq_bytes (a b : ByteArray) : (a == b) = decide (a = b) := by
  rw [beq_toListBytes, ByteArray.toList_eq, ByteArray.toList_eq]
  by_cases h : a = b
  · subst h; simp
  · rw [decide_eq_false h, beq_eq_false_iff_ne]
    intro e
    exact h (by obtain ⟨⟨x⟩⟩ := a; obtain ⟨⟨y⟩⟩ := b; simp at e; subst e; rfl)
def sV (p : ByteArray × Int) : Value × Value := (.string p.1, .int .i64 p.2)
def EntsS (ents : List MapEntry) (es : List (ByteArray × Int)) : Prop := ents.map (fun e => (e.key, e.val)) = es.map sV
def slook : List (ByteArray × Int) → ByteArray → Option Int
  | [], _ => none
  | (k, v) :: r, x => if x = k then some v else slook r x
def sset : List (ByteArray × Int) → ByteArray → Int → List (ByteArray × Int)
  | [], x, v => [(x, v)]
  | (k, w) :: r, x, v => if x = k then (x, v) :: r else (k, w) :: sset r x v
theorem slook_sset (es : List (ByteArray × Int)) (x y : ByteArray) (v : Int) : slook (sset es x v) y = if y = x then some v else slook es y := by
  induction es with
  | nil => simp [sset, slook]
  | cons p r ih =>
    obtain ⟨k, w⟩ := p
    simp only [sset]
    split
    · rename_i h; subst h; simp only [slook]; split <;> simp_all
    · rename_i h; simp only [slook, ih]; split <;> split <;> simp_all
theorem findNowS_none {x : ByteArray} : ∀ (ents : List MapEntry) (es : List (ByteArray × Int)) (i : Nat), EntsS ents es → slook es x = none → Instr.findNow .string (.string x) ents i = some none
  | [], _, _, _, _ => rfl
  | e :: r, [], _, h, _ => by simp [EntsS] at h
  | e :: r, (a, b) :: s, i, h, hl => by
    simp only [EntsS, List.map_cons, List.cons.injEq] at h
    simp only [slook] at hl
    split at hl
    · cases hl
    · rename_i hx
      have h1 : e.key = .string a := (Prod.mk.inj h.1).1
      have : (x == a) = false := by rw [beq_bytes]; simpa using hx
      simp only [Instr.findNow, h1, Instr.sameNow, this]
      exact findNowS_none r s (i + 1) h.2 hl
theorem findNowS_some {x : ByteArray} {v : Int} : ∀ (ents : List MapEntry) (es : List (ByteArray × Int)) (i : Nat), EntsS ents es → slook es x = some v →
    ∃ j, j < ents.length ∧ Instr.findNow .string (.string x) ents i = some (some (i + j, .int .i64 v)) ∧ ((ents[j]?).map (·.key)) = some (.string x) ∧ ∀ v', EntsS (ents.modify j fun e => { e with key := .string x, val := .int .i64 v' }) (sset es x v')
  | [], [], _, _, hl => by simp [slook] at hl
  | [], _ :: _, _, h, _ => by simp [EntsS] at h
  | e :: r, [], _, h, _ => by simp [EntsS] at h
  | e :: r, (a, b) :: s, i, h, hl => by
    simp only [EntsS, List.map_cons, List.cons.injEq] at h
    have h1 : e.key = .string a := (Prod.mk.inj h.1).1
    have h2 : e.val = .int .i64 b := (Prod.mk.inj h.1).2
    simp only [slook] at hl
    split at hl
    · rename_i hx
      subst hx
      cases hl
      refine ⟨0, by simp, by simp [Instr.findNow, h1, Instr.sameNow, h2, beq_bytes], by simp [h1], fun v' => ?_⟩
      simp [EntsS, sset, sV]
      exact h.2
    · rename_i hx
      obtain ⟨j, hj, hf, hk, hm⟩ := findNowS_some r s (i + 1) h.2 hl
      refine ⟨j + 1, by simpa using hj, ?_, by simpa using hk, fun v' => ?_⟩
      · have : (x == a) = false := by rw [beq_bytes]; simpa using hx
        simp only [Instr.findNow, h1, Instr.sameNow, this, hf]
        rw [show i + (j + 1) = i + 1 + j by omega]
      · simp only [EntsS, List.modify_succ_cons, sset, if_neg hx, List.map_cons, List.cons.injEq]
        exact ⟨h.1, hm v'⟩
theorem checkKey_str {P : Program} {w : World} {em : Bool} {n : Nat} {T : TypeId} {x : ByteArray} (hT : Und P T .string) : (Instr.checkKey em (n + 1) T (.string x)).run P w = .ok () w := by
  simp [Instr.checkKey, run_underlying hT]

structure SMap (ents : List MapEntry) (clock : Nat) (es : List (ByteArray × Int)) : Prop where
  is : EntsS ents es
  nodup : (ents.map (·.born)).Nodup
  lt : ∀ e ∈ ents, e.born < clock
def smap (b : Nat) (es : List (ByteArray × Int)) : SA where
  fp := [b]
  P := fun w => ∃ ents clock, w.heap[b]? = some (.map ents.toArray clock) ∧ SMap ents clock es
  loc := by
    intro w w' h hp
    obtain ⟨ents, clock, h1, h2⟩ := hp
    exact ⟨ents, clock, (h b (by simp)).trans h1, h2⟩
section
variable {P : Program} {e : Env} {w : World} {B : Base} {h : Heap} {M : List SA} {t : TypeId} {pos : String} {af : Array Edge} {g : Option (Nat × Bool)} {d : Option Nat} {K : Value → World → Prop}
theorem O.mkmaps {T : TypeId} (I : Inv B h M w) (k : ∀ b w', Inv B h (smap b [] :: M) w' → K (.map (some b)) w') : Op1 P ⟨d, .makeMap T none, t, pos, af, g⟩ e w K := by
  have : (execOp (ev e) ⟨d, .makeMap T none, t, pos, af, g⟩).run P w = .ok (.value (.map (some w.heap.size))) (w.alloc (.map #[] 0)) := by
    simp [execOp, Instr.makeMap]
  unfold Op1
  rw [this]
  refine k _ _ (I.gain (Grow.alloc w _) ⟨[], 0, heap_alloc_new w _, rfl, List.Pairwise.nil, fun _ h => by cases h⟩ (fun b hb => ?_))
  simp [smap] at hb; subst hb; simp
theorem lookupS_run {T Kt Vt : TypeId} {m : Nat} {ents : List MapEntry} {clock : Nat} {es : List (ByteArray × Int)} {x : ByteArray} (hT : Und P T (.map Kt Vt)) (hK : Und P Kt .string) (hz : Zero P Vt (.int .i64 0)) (hm : w.heap[m]? = some (.map ents.toArray clock)) (hi : EntsS ents es) :
    (Instr.lookup T (.map (some m)) (.string x) false).run P w = .ok (.int .i64 ((slook es x).getD 0)) w := by
  have hg : (getObj m).run P w = .ok (.map ents.toArray clock) w := getObj_run hm (by intro c t f h; cases h)
  have hck : ∀ em, (Instr.checkKey em 10000 Kt (.string x)).run P w = .ok () w := fun em => checkKey_str (n := 9999) hK
  cases hl : slook es x with
  | none =>
    have hf := findNowS_none ents es 0 hi hl
    simp [Instr.lookup, run_underlying hT, hg, hck, Instr.findKey, run_underlying hK, hf, hz w]
  | some v =>
    obtain ⟨j, _, hf, _⟩ := findNowS_some ents es 0 hi hl
    simp [Instr.lookup, run_underlying hT, hg, hck, Instr.findKey, run_underlying hK, hf]
theorem Y.lookups {T Kt Vt : TypeId} {b : Nat} {es : List (ByteArray × Int)} {x y : Operand} {i : ByteArray} (I : Inv B h M w) (hT : Und P T (.map Kt Vt)) (hK : Und P Kt .string) (hz : Zero P Vt (.int .i64 0)) (n : Nat) (hn : M[n]? = some (smap b es)) (hx : ev e x = .map (some b)) (hy : ev e y = .string i) :
    Y P ⟨d, .lookup T x y false, t, pos, af, g⟩ e w (.int .i64 ((slook es i).getD 0)) := by
  obtain ⟨ents, clock, h1, h2⟩ := I.at n hn
  simp [Y, execOp, hx, hy, lookupS_run hT hK hz h1 h2.is]
theorem O.mapsets {T Kt Vt : TypeId} {b : Nat} {es : List (ByteArray × Int)} {x y z : Operand} {i : ByteArray} {v : Int} (I : Inv B h M w) (hT : Und P T (.map Kt Vt)) (hK : Und P Kt .string) (n : Nat) (hn : M[n]? = some (smap b es)) (hx : ev e x = .map (some b)) (hy : ev e y = .string i) (hz : ev e z = .int .i64 v)
    (k : ∀ w', Inv B h (M.set n (smap b (sset es i v))) w' → K undef w') : Op1 P ⟨d, .mapUpdate T x y z, t, pos, af, g⟩ e w K := by
  obtain ⟨ents, clock, h1, h2⟩ := I.at n hn
  have hg : (getObj b).run P w = .ok (.map ents.toArray clock) w := getObj_run h1 (by intro c t f h; cases h)
  have hck : ∀ em, (Instr.checkKey em 10000 Kt (.string i)).run P w = .ok () w := fun em => checkKey_str (n := 9999) hK
  have hset : ∀ o, (Go.setObj b o).run P w = .ok () { w with heap := w.heap.setIfInBounds b o } := fun o => setObj_run h1 (by intro c t f h; cases h)
  cases hl : slook es i with
  | none =>
    have hf := findNowS_none ents es 0 h2.is hl
    have hrun : (execOp (ev e) ⟨d, .mapUpdate T x y z, t, pos, af, g⟩).run P w = .ok .skip { w with heap := w.heap.setIfInBounds b (.map (ents ++ [({ key := .string i, val := .int .i64 v, born := clock } : MapEntry)]).toArray (clock + 1)) } := by
      simp [execOp, hx, hy, hz, Instr.mapUpdate, run_underlying hT, hg, hck, Instr.findKey, run_underlying hK, hf, hset]
    unfold Op1
    rw [hrun]
    refine k _ (I.setObj n hn rfl rfl fun w' hw' => ⟨_, _, hw', ?_, ?_, ?_⟩)
    · have : sset es i v = es ++ [(i, v)] := by
        clear hf h1 h2 hg hset hn k
        induction es with
        | nil => rfl
        | cons p r ih =>
          obtain ⟨a, c⟩ := p
          simp only [slook] at hl
          split at hl
          · cases hl
          · rename_i hne; simp [sset, hne, ih hl]
      rw [this]
      unfold EntsS
      rw [List.map_append, List.map_append, h2.is]; rfl
    · rw [List.map_append, List.nodup_append]
      refine ⟨h2.nodup, by simp, fun a ha c hc => ?_⟩
      simp at hc; subst hc
      obtain ⟨q, hq, rfl⟩ := List.mem_map.1 ha
      have := h2.lt q hq; omega
    · intro q hq
      rcases List.mem_append.1 hq with hq | hq
      · have := h2.lt q hq; omega
      · simp at hq; subst hq; simp
  | some v0 =>
    obtain ⟨j, hj, hf, hk, hm⟩ := findNowS_some ents es 0 h2.is hl
    have hrun : (execOp (ev e) ⟨d, .mapUpdate T x y z, t, pos, af, g⟩).run P w = .ok .skip { w with heap := w.heap.setIfInBounds b (.map (ents.modify j fun e => { e with key := .string i, val := .int .i64 v }).toArray clock) } := by
      have hk' : ents[j]?.map (·.key) = some (.string i) := hk
      cases hgt : ents[j]? with
      | none => simp [hgt] at hk'
      | some q =>
        simp only [hgt, Option.map_some, Option.some.injEq] at hk'
        simp [execOp, hx, hy, hz, Instr.mapUpdate, run_underlying hT, hg, hck, Instr.findKey, run_underlying hK, hf, hset, hgt, hk', Instr.keyThatStays, Instr.sameBits, beq_bytes]
    unfold Op1
    rw [hrun]
    refine k _ (I.setObj n hn rfl rfl fun w' hw' => ⟨_, _, hw', hm v, ?_, ?_⟩)
    · have : (ents.modify j fun e => { e with key := .string i, val := .int .i64 v }).map (·.born) = ents.map (·.born) := by
        apply List.ext_getElem?
        intro q
        simp only [List.getElem?_map, List.getElem?_modify]
        cases ents[q]? <;> simp
        split <;> rfl
      rw [this]; exact h2.nodup
    · intro q hq
      obtain ⟨p, hp⟩ := List.mem_iff_getElem?.1 hq
      rw [List.getElem?_modify] at hp
      cases hgp : ents[p]? with
      | none => simp [hgp] at hp
      | some c =>
        have := h2.lt c (List.mem_of_getElem? hgp)
        simp only [hgp] at hp
        cases hp; split <;> exact this
/-- Calls that turn what the caller owns. -/
theorem O.callcs {x : Operand} {f : FuncId} {fs cs : List Value} {args : Array Operand} {ts : Array TypeId} {vs : List Value} {R : Ending → World → Prop} (hf : Enters P f)
    (hx : ev e x = .func (.func f) fs.toArray cs.toArray) (hc : Calls P f vs.toArray w R) (ha : fs ++ args.toList.map (ev e) ++ cs = vs) (k : ∀ ed w', R ed w' → ∃ v, ed = .returned v ∧ K v w') :
    Op1 P ⟨d, .call { callee := .value x, args := args, argTypes := ts }, t, pos, af, g⟩ e w K := by
  have ha' : fs.toArray ++ args.map (ev e) ++ cs.toArray = vs.toArray := by rw [← ha]; apply Array.ext'; simp
  have : (execOp (ev e) ⟨d, .call { callee := .value x, args := args, argTypes := ts }, t, pos, af, g⟩).run P w = .ok (.enter f vs.toArray) w := by
    simp only [execOp, resolve, hx, Deferred.ofValue]
    simp [invoke, ha', hf]
  unfold Op1
  rw [this]
  refine Calls.mono hc ?_
  rintro ed w' h
  obtain ⟨v, rfl, hk⟩ := k ed w' h
  exact hk
theorem O.calls {f : FuncId} {args : Array Operand} {ts : Array TypeId} {vs : List Value} {R : Ending → World → Prop} (hf : Enters P f) (hc : Calls P f vs.toArray w R)
    (ha : args.toList.map (ev e) = vs) (k : ∀ ed w', R ed w' → ∃ v, ed = .returned v ∧ K v w') : Op1 P ⟨d, .call { callee := .value (.func f), args := args, argTypes := ts }, t, pos, af, g⟩ e w K := by
  have ha' : args.map (ev e) = vs.toArray := by rw [← ha]; apply Array.ext'; simp
  have : (execOp (ev e) ⟨d, .call { callee := .value (.func f), args := args, argTypes := ts }, t, pos, af, g⟩).run P w = .ok (.enter f vs.toArray) w := by
    simp [execOp, resolve, ev, Deferred.ofValue, invoke, ha', hf]
  unfold Op1
  rw [this]
  refine Calls.mono hc ?_
  rintro ed w' h
  obtain ⟨v, rfl, hk⟩ := k ed w' h
  exact hk
end
/-! ### Slices known for good, appended to -/
theorem flat_at {α : Type} {enc : α → List Value} {k : Nat} (hk : ∀ x, (enc x).length = k) (hk0 : 0 < k) : ∀ (xs : List α) (j : Nat) (v : Value), (xs.flatMap enc)[j]? = some v → ∃ x, xs[j / k]? = some x ∧ (enc x)[j % k]? = some v
  | [], j, v, h => by simp at h
  | x :: xs, j, v, h => by
    simp only [List.flatMap_cons] at h
    by_cases hj : j < k
    · rw [List.getElem?_append_left (by rw [hk]; exact hj)] at h
      exact ⟨x, by rw [Nat.div_eq_of_lt hj]; rfl, by rw [Nat.mod_eq_of_lt hj]; exact h⟩
    · rw [List.getElem?_append_right (by rw [hk]; omega), hk] at h
      obtain ⟨y, h1, h2⟩ := flat_at hk hk0 xs (j - k) v h
      have e1 : j / k = (j - k) / k + 1 := by rw [Nat.div_eq_sub_div hk0 (by omega)]
      have e2 : j % k = (j - k) % k := by rw [Nat.mod_eq_sub_mod (by omega)]
      exact ⟨y, by rw [e1]; exact h1, by rw [e2]; exact h2⟩
theorem flat_get {α : Type} {enc : α → List Value} {k : Nat} (hk : ∀ x, (enc x).length = k) : ∀ (xs : List α) (i j : Nat) (x : α) (v : Value), xs[i]? = some x → (enc x)[j]? = some v → (xs.flatMap enc)[i * k + j]? = some v
  | [], i, j, x, v, h, _ => by simp at h
  | y :: ys, i, j, x, v, h, hv => by
    have hj : j < k := by have := (List.getElem?_eq_some_iff.1 hv).1; rw [hk] at this; exact this
    simp only [List.flatMap_cons]
    cases i with
    | zero =>
      simp at h; subst h
      rw [List.getElem?_append_left (by rw [hk]; omega)]
      simpa using hv
    | succ i =>
      rw [List.getElem?_append_right (by rw [hk, Nat.add_mul]; omega), hk, show (i + 1) * k + j - k = i * k + j by rw [Nat.add_mul]; omega]
      exact flat_get hk ys i j x v (by simpa using h) hv
theorem flat_len {α : Type} {enc : α → List Value} {k : Nat} (hk : ∀ x, (enc x).length = k) (xs : List α) : (xs.flatMap enc).length = xs.length * k := by
  induction xs with
  | nil => simp
  | cons y ys ih => simp only [List.flatMap_cons, List.length_append, hk, ih, List.length_cons, Nat.add_mul]; omega
/-- A row of cells that is known for good holds a slice. -/
theorem rowIn {α : Type} {enc : α → List Value} {k b c : Nat} {xs : List α} {cs : Array Value} {T : TypeId} {f : Nat × Nat} {h : Heap} (hk : ∀ x, (enc x).length = k) (hb : h b = some (.cells cs T f)) (hp : ∀ (j : Nat) (v : Value), (xs.flatMap enc)[j]? = some v → cs[j]? = some v) : (⟨some ⟨b, 0, none⟩, c, xs⟩ : Sl α).In k enc h := fun i x hx =>
  ⟨rfl, fun j v hv => by
    simp only [Heap.cell, Sl.blk, Sl.off, Option.getD_some, hb, Nat.zero_add]
    exact hp _ _ (flat_get hk xs i j x v hx hv)⟩
theorem Sl.In.flat {α : Type} {s : Sl α} {k : Nat} {enc : α → List Value} {h : Heap} (hs : s.In k enc h) (hk : ∀ x, (enc x).length = k) (hk0 : 0 < k) : RdH h s.blk s.off (s.xs.flatMap enc) := fun j v hv => by
  obtain ⟨x, h1, h2⟩ := flat_at hk hk0 s.xs j v hv
  have := (hs _ _ h1).2 _ _ h2
  rw [Nat.add_assoc, Nat.mul_comm, Nat.div_add_mod] at this
  exact this
section
variable {P : Program} {e : Env} {w : World} {B : Base} {h : Heap} {M : List SA} {t : TypeId} {pos : String} {af : Array Edge} {g : Option (Nat × Bool)} {d : Option Nat} {K : Value → World → Prop}
end
end Go.TF
end
section
/- Slices of the call's own, known for good until they are written again; appended onto an empty literal. -/
namespace Go.TF
open Go Go.RowKit

/-- A slice that was made by the call (nothing of it was known in h0), known for good in h: with its spare. -/
def OwnH {α : Type} (el k : Nat) (s : Sl α) (enc : α → List Value) (h0 h : Heap) : Prop :=
  s = ⟨none, 0, []⟩ ∨ ∃ g cur, s.at_ = some ⟨g, 0, none⟩ ∧ h0 g = none ∧ h g = some (.cells cur el (0, 0)) ∧ s.xs.length ≤ s.cap ∧ s.cap ≤ maxLen ∧ cur.size = s.cap * k ∧ cur.toList.take (s.xs.length * k) = s.xs.flatMap enc
section
variable {α : Type} {el k : Nat} {s : Sl α} {enc : α → List Value} {h0 h h' : Heap}
theorem OwnH.le (o : OwnH el k s enc h0 h) (hl : h.le h') : OwnH el k s enc h0 h' := by
  rcases o with o | ⟨g, cur, h1, h2, h3, h4⟩
  · exact .inl o
  · exact .inr ⟨g, cur, h1, h2, hl _ _ h3, h4⟩
theorem OwnH.older {h1 : Heap} (o : OwnH el k s enc h0 h) (hl : h1.le h0) : OwnH el k s enc h1 h := by
  rcases o with o | ⟨g, cur, k1, k2, k3⟩
  · exact .inl o
  · refine .inr ⟨g, cur, k1, ?_, k3⟩
    cases e : h1 g with
    | none => rfl
    | some x => rw [hl _ _ e] at k2; cases k2
theorem OwnH.in (o : OwnH el k s enc h0 h) (hk : ∀ x, (enc x).length = k) : s.In k enc h := by
  rcases o with rfl | ⟨g, cur, h1, _, h3, _, _, _, h7⟩
  · exact fun i x hx => by simp at hx
  · obtain ⟨a, c, xs⟩ := s
    simp only at h1 h7
    subst h1
    refine rowIn hk h3 fun j v hv => ?_
    rw [← h7, List.getElem?_take] at hv
    split at hv
    · simpa using hv
    · cases hv
theorem Heap.le_minus {h1 h : Heap} (g : Nat) (hl : h1.le h) (hg : h1 g = none) : h1.le (fun b => if b = g then none else h b) := fun b o hb => by
  have : b ≠ g := fun e => by rw [e, hg] at hb; cases hb
  simp only [this, if_false]; exact hl b o hb
/-- Written again: known for good no more. -/
theorem Inv.unsettle {B : Base} {M : List SA} {w : World} (I : Inv B h M w) (o : OwnH el k s enc h0 h) (hB : B.h.le h0) :
    ∃ h', Inv B h' (ownSl el k s.val s.xs.length (s.xs.flatMap enc) :: M) w ∧ (∀ h1 : Heap, h1.le h → h1.le h0 → h1.le h') ∧ (∀ b x, h b = some x → h' b = some x ∨ s.at_ = some ⟨b, 0, none⟩) := by
  rcases o with rfl | ⟨g, cur, h1, h2, h3, h4, h5, h6, h7⟩
  · exact ⟨h, I.nilSl el k, fun h1 hl _ => hl, fun b x hb => .inl hb⟩
  · have hBg : B.h g = none := by
      cases e : B.h g with
      | none => rfl
      | some x => rw [hB _ _ e] at h2; cases h2
    have hsz : B.w.heap.size ≤ g := by
      rcases I.new g _ h3 with h | h
      · rw [hBg] at h; cases h
      · exact h
    have hval : s.val = .slice (some ⟨g, 0, none⟩) s.xs.length s.cap := by simp only [Sl.val, h1]
    have hlen : (s.xs.flatMap enc).length = s.xs.length * k := by
      rw [← h7, List.length_take, Array.length_toList, h6]
      exact Nat.min_eq_left (Nat.mul_le_mul_right k h4)
    refine ⟨fun b => if b = g then none else h b, ⟨I.below, fun b o hb => Heap.le_minus g I.ext hBg b o hb, fun b o hb => ?_, fun b o hb => ?_, fun A hA => ?_, List.pairwise_cons.2 ⟨fun C hC b hb hbC => ?_, I.apart⟩⟩, fun h1 hl hl0 => Heap.le_minus g hl ?_, fun b x hb => ?_⟩
    · by_cases e : b = g
      · simp [e] at hb
      · simp only [e, if_false] at hb; exact I.new b o hb
    · by_cases e : b = g
      · simp [e] at hb
      · simp only [e, if_false] at hb; exact I.imm b o hb
    · rcases List.mem_cons.1 hA with rfl | hA
      · refine ⟨?_, fun b hb => ?_⟩
        · show w.ownsRow 0 el k s.val s.xs.length (s.xs.flatMap enc)
          rw [hval]
          exact ⟨hlen, .inr ⟨g, s.cap, cur, rfl, Nat.zero_le _, I.imm _ _ h3, h4, h5, h6, h7⟩⟩
        · have : b = g := by simpa [ownSl, hval, Value.ownBlock] using hb
          subst this
          exact ⟨hsz, I.lt h3, by simp⟩
      · obtain ⟨p1, p2⟩ := I.own A hA
        refine ⟨p1, fun b hb => ?_⟩
        obtain ⟨q1, q2, q3⟩ := p2 b hb
        refine ⟨q1, q2, ?_⟩
        by_cases e : b = g
        · simp [e]
        · simp [e, q3]
    · have : b = g := by simpa [ownSl, hval, Value.ownBlock] using hb
      subst this
      have := ((I.own C hC).2 b hbC).2.2
      rw [h3] at this; cases this
    · cases e : h1 g with
      | none => rfl
      | some x => rw [hl0 _ _ e] at h2; cases h2
    · by_cases e : b = g
      · subst e; exact .inr h1
      · exact .inl (by simp [e, hb])
/-- What was appended to is known for good. -/
theorem Inv.settleO {B : Base} {M : List SA} {w : World} {v : Value} {n : Nat} {xs : List α} (I : Inv B h (ownSl el k v n (xs.flatMap enc) :: M) w) (hn : n = xs.length) :
    ∃ (h' : Heap) (s : Sl α), h.le h' ∧ s.val = v ∧ s.xs = xs ∧ OwnH el k s enc h h' ∧ Inv B h' M w := by
  subst hn
  have hp : w.ownsRow 0 el k v xs.length (xs.flatMap enc) := (I.own _ (List.mem_cons_self ..)).1
  have hfp0 := (I.own _ (List.mem_cons_self ..)).2
  obtain ⟨h', hle, hfp, I'⟩ := I.settle
  rcases hp.2 with ⟨rfl, h0⟩ | ⟨g, cap, cur, rfl, _, hg, hnc, hcm, hcs, htake⟩
  · have : xs = [] := List.eq_nil_of_length_eq_zero h0
    subst this
    exact ⟨h', ⟨none, 0, []⟩, hle, rfl, rfl, .inl rfl, I'⟩
  · have hm : g ∈ (ownSl el k (.slice (some ⟨g, 0, none⟩) xs.length cap) xs.length (xs.flatMap enc)).fp := by simp [ownSl, Value.ownBlock]
    exact ⟨h', ⟨some ⟨g, 0, none⟩, cap, xs⟩, hle, rfl, rfl, .inr ⟨g, cur, rfl, (hfp0 g hm).2.2, (hfp g hm).trans hg, hnc, hcm, hcs, htake⟩, I'⟩
end
section
variable {P : Program} {e : Env} {w : World} {B : Base} {h : Heap} {M : List SA} {t : TypeId} {pos : String} {af : Array Edge} {g : Option (Nat × Bool)} {d : Option Nat} {K : Value → World → Prop}
/-- An empty literal. -/
theorem O.mkE {α : Type} {T el k : Nat} (enc : α → List Value) (I : Inv B h M w) (hT : Und P T (.slice el)) (hk : ∀ w, (sizeOf el).run P w = .ok k w)
    (kk : ∀ (s : Sl α) h' w', Inv B h' M w' → h.le h' → s.xs = [] → s.cap = 0 → (∃ b, s.at_ = some ⟨b, 0, none⟩) → OwnH el k s enc h h' → K s.val w') :
    Op1 P ⟨d, .buildSlice T 0 #[], t, pos, af, g⟩ e w K := by
  have hrun : (execOp (ev e) ⟨d, .buildSlice T 0 #[], t, pos, af, g⟩).run P w = .ok (.value (.slice (some ⟨w.heap.size, 0, none⟩) 0 0)) (w.alloc (.cells #[] el)) := by
    have hd : ¬ ((0 : Nat) > 2 ^ 24) := by decide
    simp only [execOp, Instr.buildSlice, Sem.run_bind, run_underlying hT, Result.andThen_ok, hk w, Nat.zero_mul, if_neg hd, if_true, Sem.run_pure]
    have hr0 : Array.range 0 = #[] := rfl
    simp [newRow, Instr.fill, hr0]
  unfold Op1
  rw [hrun]
  have hm : ∀ b ∈ (⟨[w.heap.size], fun w' => w'.heap[w.heap.size]? = some (.cells #[] el (0, 0)), fun _ _ hh hp => (hh _ (by simp)).trans hp⟩ : SA).fp, w.heap.size ≤ b ∧ b < (w.alloc (.cells #[] el)).heap.size := fun b hb => by simp at hb; subst hb; simp
  have J := I.gain (A := ⟨[w.heap.size], fun w' => w'.heap[w.heap.size]? = some (.cells #[] el (0, 0)), fun _ _ hh hp => (hh _ (by simp)).trans hp⟩) (w' := w.alloc (.cells #[] el)) (Grow.alloc _ _) (heap_alloc_new w _) hm
  have hfr := ((J.own _ (List.mem_cons_self ..)).2 w.heap.size (by simp)).2.2
  obtain ⟨h', hle, hfp, J'⟩ := J.settle
  have hb' : h' w.heap.size = some (.cells #[] el (0, 0)) := (hfp _ (by simp)).trans (heap_alloc_new w _)
  exact kk ⟨some ⟨w.heap.size, 0, none⟩, 0, []⟩ h' _ J' hle rfl rfl ⟨_, rfl⟩ (.inr ⟨_, #[], rfl, hfr, hb', Nat.le_refl _, Nat.zero_le _, by simp, by simp⟩)
theorem run_append_empty {T ty el size : Nat} (hT : P.underlying T = some (.slice el)) (hs : (sizeOf el).run P w = .ok size w) (b : Addr) (n c : Nat) (hnc : n ≤ c) (a : Option Addr) (c' : Nat) :
    (Builtin.append_ #[T, T] ty #[.slice (some b) n c, .slice a 0 c']).run P w = .ok (.slice (some b) n c) w := by
  cases a <;> simp [Builtin.append_, run_underlying hT, hs, Builtin.lenOf, hnc, Builtin.firstCells, storeCells, loadCells, loadCellsFrom]
/-- Numbers turned to another kind; halved by a shift. -/
theorem Y.conv {x : Operand} {S T : TypeId} {k k' : IntKind} {n : Int} (hS : (P.underlying S).isSome = true) (hT : Und P T (.int k')) (hw : k'.wrap n = n) (hx : ev e x = .int k n) : Y P ⟨d, .convert S T x, t, pos, af, g⟩ e w (.int k' n) := by
  obtain ⟨d', hd'⟩ := Option.isSome_iff_exists.mp hS
  simp [Y, execOp, hx, convert, run_underlying hd', run_underlying hT, Conv.intToInt, hw]
theorem Y.half {x y : Operand} {T T' : TypeId} {k yk : IntKind} {a : Int} (h1 : 1 ≤ k.bits) (hx : ev e x = .int k a) (hy : ev e y = .int yk 1) : Y P ⟨d, .binOp .shr T x y T', t, pos, af, g⟩ e w (.int k (a / 2)) := by
  have hm : min 1 k.bits = 1 := by omega
  simp [Y, execOp, hx, hy, eqGuard, binOp, Op.shift, hm, Int.fdiv_eq_ediv_of_nonneg]
theorem wrap_u64 {n : Int} (h0 : 0 ≤ n) (h1 : n ≤ 9223372036854775807) : IntKind.u64.wrap n = n := by
  have h64 : IntKind.u64.bits = 64 := rfl
  have hs : IntKind.u64.signed = false := rfl
  unfold IntKind.wrap
  simp only [h64, hs, Bool.false_and, show (2 ^ 64 : Int) = 18446744073709551616 from rfl, Bool.false_eq_true, if_false]
  omega
theorem equalIn_nil (d : Nat) {T el : TypeId} {a : Option Addr} {n c : Nat} (hT : Und P T (.slice el)) : (Op.equalIn (d + 1) T (.slice a n c) (.slice none 0 0)).run P w = .ok a.isNone w := by
  cases a <;> simp [Op.equalIn, run_underlying hT]
/-- A slice held against nil. -/
theorem Y.eqnil {x y : Operand} {T T' el : TypeId} {a : Option Addr} {n c : Nat} (hT : Und P T (.slice el)) (hx : ev e x = .slice a n c) (hy : ev e y = .slice none 0 0) : Y P ⟨d, .binOp .eql T x y T', t, pos, af, g⟩ e w (.bool a.isNone) := by
  have h1 : ∀ w, (Op.equal T (.slice a n c) (.slice none 0 0)).run P w = .ok a.isNone w := fun w => equalIn_nil 9999 hT
  have h2 : (binOp .eql T (.slice a n c) (.slice none 0 0)).run P w = .ok (.bool a.isNone) w := by simp [binOp, h1]
  simp [Y, execOp, hx, hy, eqGuard, h2]
/-- Appended onto an empty literal. -/
theorem O.appendE {α : Type} {T el k bytes : Nat} {z : Value} {x y : Operand} {s u : Sl α} {enc : α → List Value} {h0 : Heap} (I : Inv B h M w) (hT : Und P T (.slice el)) (he : ElT P el k bytes z) (hk : ∀ x, (enc x).length = k) (hs : OwnH el k s enc h0 h) (hl0 : h0.le h) (hs0 : s.xs = []) (hsc : s.cap = 0) (hsa : ∃ b, s.at_ = some ⟨b, 0, none⟩) (hu : u.In k enc h)
    (hx : ev e x = s.val) (hy : ev e y = u.val) (hb : u.xs.length * bytes ≤ 140737488355328) (h63 : u.xs.length ≤ 140737488355328)
    (kk : ∀ (r : Sl α) h' w', Inv B h' M w' → h.le h' → r.xs = u.xs → OwnH el k r enc h0 h' → (r.xs = [] → r.cap = 0) → K r.val w') :
    Op1 P ⟨d, .call { callee := .builtin .append, args := #[x, y], argTypes := #[T, T] }, t, pos, af, g⟩ e w K := by
  obtain ⟨i, hi, hz, hsz, hby⟩ : ∃ i, P.info? el = some i ∧ i.zero = some z ∧ i.size = k ∧ i.bytes = bytes := by
    have := he.info
    cases h : P.info? el with
    | none => simp [h] at this
    | some i => simp [h] at this; exact ⟨i, rfl, this.1, this.2.1, this.2.2⟩
  obtain ⟨b, hsa⟩ := hsa
  have hsv : s.val = .slice (some ⟨b, 0, none⟩) 0 0 := by simp only [Sl.val, hsa, hs0, hsc, List.length_nil]
  rw [hsv] at hx
  by_cases hn : u.xs = []
  · have hrun := run_append_empty (P := P) (w := w) (T := T) (ty := t) (size := k) hT (by simp [sizeOf, typeInfo, hi, hsz]) ⟨b, 0, none⟩ 0 0 (Nat.le_refl _) u.at_ u.cap
    have hA : (execOp (ev e) ⟨d, .call { callee := .builtin .append, args := #[x, y], argTypes := #[T, T] }, t, pos, af, g⟩).run P w = .ok (.value (.slice (some ⟨b, 0, none⟩) 0 0)) w := by
      simp only [Sl.val, hn, List.length_nil] at hy
      simp [execOp, resolve, invoke, builtin, hx, hy, hrun]
    unfold Op1
    rw [hA]
    have := kk s h w I (Heap.le.refl _) (hs0.trans hn.symm) hs (fun _ => hsc)
    rwa [hsv] at this
  · have hpos : 0 < u.xs.length := List.length_pos_iff.2 hn
    have hua' := (hu 0 u.xs[0] (List.getElem?_eq_getElem hpos)).1
    have hnews : ∀ j v, (u.xs.flatMap enc)[j]? = some v → w.cell? ((⟨u.blk, u.off, none⟩ : Addr).add j) = some v := fun j v hv => by rw [addr_add]; exact I.rd (hu.flat hk he.pos) j v hv
    have hrun := run_append_grow (P := P) w T t el i z hT hi hz ⟨b, 0, none⟩ 0 0 [] (by simp) (fun j v hv => by simp at hv) ⟨u.blk, u.off, none⟩ u.xs.length u.cap (u.xs.flatMap enc) (by rw [flat_len hk, hsz]) hnews (by omega) (by omega) (growslice_fits (by omega) (by rw [hby]; simpa using hb))
    have hA : (execOp (ev e) ⟨d, .call { callee := .builtin .append, args := #[x, y], argTypes := #[T, T] }, t, pos, af, g⟩).run P w = .ok (.value (.slice (some ⟨w.heap.size, 0, none⟩) u.xs.length (grownCap w u.xs.length 0 el)))
        (w.drew.alloc (.cells ((u.xs.flatMap enc).toArray ++ Builtin.zeroCells z.cells (grownCap w u.xs.length 0 el - u.xs.length)) el)) := by
      simp only [Sl.val, hua'] at hy
      simp [execOp, resolve, invoke, builtin, hx, hy, hrun]
    unfold Op1
    rw [hA]
    have hge := grownCap_ge w u.xs.length 0 el
    have hcm := grownCap_le_maxLen w u.xs.length 0 el (by simp only [maxLen]; omega)
    obtain ⟨cs, hcs⟩ : ∃ cs : Array Value, cs = (u.xs.flatMap enc).toArray ++ Builtin.zeroCells z.cells (grownCap w u.xs.length 0 el - u.xs.length) := ⟨_, rfl⟩
    rw [← hcs]
    have hnew := heap_alloc_new w.drew (.cells cs el)
    have J := I.gain (A := ⟨[w.heap.size], fun w' => w'.heap[w.heap.size]? = some (.cells cs el (0, 0)), fun _ _ hh hp => (hh _ (by simp)).trans hp⟩) (w' := w.drew.alloc (.cells cs el)) ((Grow.drew w).trans (Grow.alloc _ _)) hnew (fun b hb => by simp at hb; subst hb; simp)
    have hfr := ((J.own _ (List.mem_cons_self ..)).2 w.heap.size (by simp)).2.2
    obtain ⟨h', hle, hfp, J'⟩ := J.settle
    have hb' : h' w.heap.size = some (.cells cs el (0, 0)) := (hfp _ (by simp)).trans hnew
    refine kk ⟨some ⟨w.heap.size, 0, none⟩, grownCap w u.xs.length 0 el, u.xs⟩ h' _ J' hle rfl (OwnH.older (h0 := h) (.inr ⟨_, cs, rfl, hfr, hb', hge, hcm, ?_, ?_⟩) hl0) (fun e => absurd e hn)
    · rw [hcs]
      simp only [Array.size_append, List.size_toArray, size_zeroCells, he.cells, flat_len hk, ← Nat.add_mul]
      congr 1
      omega
    · rw [hcs]
      simp only [Array.toList_append]
      rw [← flat_len hk]
      exact List.take_left
end
end Go.TF
end
section
/- slices.Clone at this program's types: the same, in memory of its own. -/
namespace Go.TF
open Go Go.RowKit Go.Proofs
set_option maxRecDepth 10000
theorem CloneFct_ok (B : Base) (hB : B.ok) (l : Sl Fct) (hl : l.Is 4 Fct.enc B.h) (hb : l.xs.length * 32 ≤ 140737488355328) :
    Fn Tryz.prog 63 [l.val] B (fun v h => ∃ s : Sl Fct, v = s.val ∧ s.xs = l.xs ∧ OwnH 52 4 s Fct.enc B.h h ∧ (s.xs = [] → s.cap = 0)) := by
  refine Fn.of Tryz.func63 rfl Tryz.ntmps63 (by kernel_rfl) (by simp) ?_
  intro e
  have I := Inv.start hB
  refine WP.seq ?_
  refine WP.region ?_
  refine Ops.y (v := .slice _ _ _) (Y.assign rfl) ?_
  refine Ops.nil ?_
  refine WP.seq ?_
  refine WP.seq ?_
  refine WP.region ?_
  refine Ops.y (v := .slice _ _ _) (Y.move rfl) ?_
  refine Ops.y (v := .bool _) (Y.eqnil Tryz.underlying26 rfl rfl) ?_
  refine Ops.nil ?_
  refine WP.cond rfl (fun h => ?_) (fun h => ?_)
  · refine WP.seq ?_
    refine WP.region ?_
    refine Ops.y (v := .slice _ _ _) (Y.assign rfl) ?_
    refine Ops.nil ?_
    have hx : l.xs = [] := by
      cases hx : l.xs with
      | nil => rfl
      | cons a r =>
        have := (hl.el 0 a (by rw [hx]; rfl)).1
        simp only [this, Option.isNone_some] at h; cases h
    refine WP.ret ?_
    repeat (first | refine thenE_ret ?_ | refine blockE_ret ?_)
    exact retQ.mk (vs := [.slice _ _ _]) rfl ⟨rfl, trivial⟩ I.ext_of (⟨⟨none, 0, []⟩, rfl, hx.symm, .inl rfl, fun _ => rfl⟩)
  refine WP.skip ?_
  refine WP.seq ?_
  refine WP.region ?_
  refine Ops.go (O.mkE (α := Fct) Fct.enc I Tryz.underlying26 Tryz.sizeOf52 ?_)
  intro s5 h5 w I le5 e5 c5 a5 o5
  refine Ops.y (v := .slice _ _ _) (Y.move rfl) ?_
  refine Ops.go (O.appendE (α := Fct) I Tryz.underlying26 et_52 (fun _ => rfl) o5 le5 e5 c5 a5 (hl.el.le le5) rfl rfl (by omega) (by have := hl.small; omega) ?_)
  intro r h2 w I le2 hr o2 r0
  refine Ops.y (v := .slice _ _ _) (Y.assign rfl) ?_
  refine Ops.nil ?_
  refine WP.ret ?_
  repeat (first | refine thenE_ret ?_ | refine blockE_ret ?_)
  exact retQ.mk (vs := [.slice _ _ _]) rfl ⟨rfl, trivial⟩ I.ext_of (⟨r, rfl, hr, o2, r0⟩)
end Go.TF
end
section
/- Slices of the call's own: appended to by what is known, made with room, cut, closed up, cleared behind. -/
namespace Go.TF
open Go Go.RowKit

section
variable {P : Program} {e : Env} {w : World} {B : Base} {h : Heap} {M : List SA} {t : TypeId} {pos : String} {af : Array Edge} {g : Option (Nat × Bool)} {d : Option Nat} {K : Value → World → Prop}
theorem Y.caps {x : Operand} {T r : TypeId} {a : Option Addr} {n c : Nat} (hT : Und P T (.slice r)) (hx : ev e x = .slice a n c) :
    Y P ⟨d, .call { callee := .builtin .cap, args := #[x], argTypes := #[T] }, t, pos, af, g⟩ e w (.int .i64 c) := by
  simp [Y, execOp, hx, resolve, invoke, builtin, Builtin.cap_, run_underlying hT, goInt]
theorem Y.slicenil {T el : TypeId} {x : Operand} {lo hi : Option Operand} (hT : Und P T (.slice el)) {k : Nat} (hk : ∀ w, (sizeOf el).run P w = .ok k w) (hx : ev e x = .slice none 0 0)
    (hl : lo = none ∨ ∃ q k, lo = some q ∧ ev e q = .int k 0) (hh : hi = none ∨ ∃ q k, hi = some q ∧ ev e q = .int k 0) : Y P ⟨d, .slice T x lo hi none, t, pos, af, g⟩ e w (.slice none 0 0) := by
  rcases hl with rfl | ⟨q, k, rfl, hq⟩ <;> rcases hh with rfl | ⟨q', k', rfl, hq'⟩ <;>
    simp_all [Y, execOp, Instr.sliceAt, Instr.slice, Instr.sliceBounds, Instr.sliceBound, run_underlying hT, asIntOf]
theorem ElT.info' {el k bytes : Nat} {z : Value} (he : ElT P el k bytes z) : ∃ i, P.info? el = some i ∧ i.zero = some z ∧ i.size = k ∧ i.bytes = bytes := by
  have := he.info
  cases h : P.info? el with
  | none => simp [h] at this
  | some i => simp [h] at this; exact ⟨i, rfl, this.1, this.2.1, this.2.2⟩
/-- Cut behind: fewer elements of what the call owns. -/
theorem Inv.cutSl {el k gg n cap m : Nat} {xs : List Value} (I : Inv B h (ownSl el k (.slice (some ⟨gg, 0, none⟩) n cap) n xs :: M) w) (hm : m ≤ n) : Inv B h (ownSl el k (.slice (some ⟨gg, 0, none⟩) m cap) m (xs.take (m * k)) :: M) w := by
  have hp : w.ownsRow 0 el k (.slice (some ⟨gg, 0, none⟩) n cap) n xs := (I.own _ (List.mem_cons_self ..)).1
  have hfp := (I.own _ (List.mem_cons_self ..)).2 gg (by simp [ownSl, Value.ownBlock])
  refine I.step rfl rfl rfl (Nat.le_refl _) (fun _ _ _ => rfl) ?_ (fun b hb => ?_)
  · rcases hp.2 with ⟨h0, _⟩ | ⟨g', cap', cur, he, hb, hg, hnc, hcm, hcs, ht⟩
    · cases h0
    · injection he with e1 e2 e3; injection e1 with e1; injection e1 with e1; subst e1; subst e3
      have hmk := Nat.mul_le_mul_right k hm
      refine ⟨by rw [List.length_take, hp.1]; omega, .inr ⟨gg, cap, cur, rfl, hb, hg, by omega, hcm, hcs, ?_⟩⟩
      rw [← ht, List.take_take, Nat.min_eq_left hmk]
  · have : b = gg := by simpa [ownSl, Value.ownBlock] using hb
    subst this
    exact ⟨.inl (by simp [ownSl, Value.ownBlock]), hfp.2.1⟩
/-- Cleared behind what is left. -/
theorem O.clearS {T el k bytes gg n cap m o c : Nat} {z : Value} {x : Operand} {xs : List Value} (I : Inv B h (ownSl el k (.slice (some ⟨gg, 0, none⟩) n cap) n xs :: M) w) (hT : Und P T (.slice el)) (he : ElT P el k bytes z) (hz1 : z.cells.all (fun v => v.oneCell') = true) (hx : ev e x = .slice (some ⟨gg, o, none⟩) m c) (hm : 0 < m) (ho : o = n * k) (hmc : n + m ≤ cap)
    (kk : ∀ w', Inv B h (ownSl el k (.slice (some ⟨gg, 0, none⟩) n cap) n xs :: M) w' → K (.tuple #[]) w') :
    Op1 P ⟨d, .call { callee := .builtin .clear, args := #[x], argTypes := #[T] }, t, pos, af, g⟩ e w K := by
  obtain ⟨ii, hi, hz, hsz, hby⟩ := he.info'
  subst hsz; subst ho
  have hp : w.ownsRow 0 el ii.size (.slice (some ⟨gg, 0, none⟩) n cap) n xs := (I.own _ (List.mem_cons_self ..)).1
  have hfp := (I.own _ (List.mem_cons_self ..)).2 gg (by simp [ownSl, Value.ownBlock])
  rcases hp.2 with ⟨h0, _⟩ | ⟨g', cap', cur, he', hb, hg, hnc, hcm, hcs, ht⟩
  · cases h0
  injection he' with e1 e2 e3; injection e1 with e1; injection e1 with e1; subst e1; subst e3
  have hzl : (Builtin.zeroCells z.cells m).toList.length = m * ii.size := by rw [Array.length_toList, size_zeroCells, he.cells]
  have hmk : (n + m) * ii.size ≤ cap * ii.size := Nat.mul_le_mul_right _ hmc
  rw [Nat.add_mul] at hmk
  have hone : ∀ v ∈ (Builtin.zeroCells z.cells m).toList, v.oneCell' = true := fun v hv => by
    simp only [Builtin.zeroCells, Array.toList_map, List.mem_map] at hv
    obtain ⟨q, _, rfl⟩ := hv
    have hlt : q % z.cells.size < z.cells.size := Nat.mod_lt _ (by rw [he.cells]; exact he.pos)
    rw [getElem!_pos z.cells _ hlt]
    rw [Array.all_eq_true] at hz1
    exact hz1 _ hlt
  have hst := run_storeCells_at P gg (n * ii.size) el (Builtin.zeroCells z.cells m).toList 0 cur w hg (by rw [hzl, hcs]; omega) hone
  simp only [Nat.add_zero] at hst
  have hA : (execOp (ev e) ⟨d, .call { callee := .builtin .clear, args := #[x], argTypes := #[T] }, t, pos, af, g⟩).run P w = .ok (.value (.tuple #[])) (w.setRow gg (cur.toList.take (n * ii.size) ++ (Builtin.zeroCells z.cells m).toList ++ cur.toList.drop (n * ii.size + (Builtin.zeroCells z.cells m).toList.length)).toArray) := by
    obtain ⟨m', rfl⟩ : ∃ m', m = m' + 1 := ⟨m - 1, by omega⟩
    simp [execOp, resolve, invoke, builtin, hx, Builtin.clear_, run_underlying hT, zeroValue, typeInfo, hi, hz, hst]
  unfold Op1
  rw [hA]
  refine kk _ (I.step rfl rfl rfl (by simp) (fun b hb hnb => setRow_other w gg b _ (fun e => hnb (by simp [ownSl, Value.ownBlock, e]))) ?_ (fun b hb => ?_))
  · refine ⟨hp.1, .inr ⟨gg, cap, _, rfl, hb, setRow_heap w gg cur _ el _ hg, hnc, hcm, ?_, ?_⟩⟩
    · simp only [List.size_toArray, List.length_append, List.length_take, List.length_drop, hzl, Array.length_toList, hcs]
      omega
    · have hl : (cur.toList.take (n * ii.size)).length = n * ii.size := by rw [ht, hp.1]
      rw [List.append_assoc, List.take_left' hl, ht]
  · have : b = gg := by simpa [ownSl, Value.ownBlock] using hb
    subst this
    exact ⟨.inl (by simp [ownSl, Value.ownBlock]), by simpa using hfp.2.1⟩
end
end Go.TF
end
section
/- Copies into what the call owns; room made behind it; what slices.Insert asks first. -/
namespace Go.TF
open Go Go.RowKit

/-- Laid over what stood there, from place o on. -/
def over (xs : List Value) (o : Nat) (news : List Value) : List Value := xs.take o ++ news ++ xs.drop (o + news.length)
theorem over_len {xs news : List Value} {o : Nat} (h : o + news.length ≤ xs.length) : (over xs o news).length = xs.length := by
  simp only [over, List.length_append, List.length_take, List.length_drop]; omega
theorem over_take (cur news : List Value) (o m : Nat) (h : o + news.length ≤ m) (hm : m ≤ cur.length) : (cur.take o ++ news ++ cur.drop (o + news.length)).take m = over (cur.take m) o news := by
  have hl : (cur.take o ++ news).length = o + news.length := by simp only [List.length_append, List.length_take]; omega
  rw [List.take_append, hl, List.take_of_length_le (by omega)]
  unfold over
  rw [List.take_take, Nat.min_eq_left (by omega), List.drop_take]
theorem flat_take {α : Type} {enc : α → List Value} {k : Nat} (hk : ∀ x, (enc x).length = k) : ∀ (xs : List α) (i : Nat), (xs.flatMap enc).take (i * k) = (xs.take i).flatMap enc
  | [], i => by simp
  | x :: xs, 0 => by simp
  | x :: xs, i + 1 => by
    rw [List.flatMap_cons, List.take_succ_cons, List.flatMap_cons, ← flat_take hk xs i, List.take_append, hk, Nat.add_mul, List.take_of_length_le (by rw [hk]; omega)]
    congr 2; omega
theorem flat_drop {α : Type} {enc : α → List Value} {k : Nat} (hk : ∀ x, (enc x).length = k) : ∀ (xs : List α) (i : Nat), (xs.flatMap enc).drop (i * k) = (xs.drop i).flatMap enc
  | [], i => by simp
  | x :: xs, 0 => by simp
  | x :: xs, i + 1 => by
    rw [List.flatMap_cons, List.drop_succ_cons, ← flat_drop hk xs i, List.drop_append, hk, Nat.add_mul, List.drop_of_length_le (by rw [hk]; omega), List.nil_append]
    congr 1; omega
section
variable {P : Program} {e : Env} {w : World} {B : Base} {h : Heap} {M : List SA} {t : TypeId} {pos : String} {af : Array Edge} {g : Option (Nat × Bool)} {d : Option Nat} {K : Value → World → Prop}
/-- copy: all is read before anything is written. -/
theorem O.copy {T T' el k bytes gg n cap o m c sb so r sc q : Nat} {z : Value} {x y : Operand} {xs news : List Value} (I : Inv B h M w) (hT : Und P T (.slice el)) (he : ElT P el k bytes z) (n0 : Nat) (hn : M[n0]? = some (ownSl el k (.slice (some ⟨gg, 0, none⟩) n cap) n xs))
    (hx : ev e x = .slice (some ⟨gg, o * k, none⟩) m c) (hy : ev e y = .slice (some ⟨sb, so, none⟩) r sc) (hq : Nat.min r m = q) (hom : o + m ≤ n) (hr : Rd w sb so news) (hl : news.length = q * k) (h1 : oneCells news = true)
    (kk : ∀ w', Inv B h (M.set n0 (ownSl el k (.slice (some ⟨gg, 0, none⟩) n cap) n (over xs (o * k) news))) w' → K (.int .i64 q) w') :
    Op1 P ⟨d, .call { callee := .builtin .copy, args := #[x, y], argTypes := #[T, T'] }, t, pos, af, g⟩ e w K := by
  obtain ⟨ii, hi, hz, hsz, hby⟩ := he.info'
  subst hsz
  have hp : w.ownsRow 0 el ii.size (.slice (some ⟨gg, 0, none⟩) n cap) n xs := I.at n0 hn
  have hfp := (I.own _ (List.mem_of_getElem? hn)).2 gg (by simp [ownSl, Value.ownBlock])
  rcases hp.2 with ⟨h0, _⟩ | ⟨g', cap', cur, he', hb, hg, hnc, hcm, hcs, ht⟩
  · cases h0
  injection he' with e1 e2 e3; injection e1 with e1; injection e1 with e1; subst e1; subst e3
  have hqm : q ≤ m := by rw [← hq]; exact Nat.min_le_right _ _
  have hok : o * ii.size + news.length ≤ n * ii.size := by rw [hl, ← Nat.add_mul]; exact Nat.mul_le_mul_right _ (by omega)
  have hnk : n * ii.size ≤ cap * ii.size := Nat.mul_le_mul_right _ hnc
  have hone : ∀ u ∈ news, u.oneCell' = true := fun u hu => by
    simp only [oneCells, List.all_eq_true] at h1
    exact h1 u hu
  have hld := run_loadCells_list (P := P) (w := w) ⟨sb, so, none⟩ news (fun j v hj => by rw [addr_add]; exact hr j v hj)
  have hst := run_storeCells_at P gg (o * ii.size) el news 0 cur w hg (by rw [hcs]; omega) hone
  simp only [Nat.add_zero] at hst
  have hA : (execOp (ev e) ⟨d, .call { callee := .builtin .copy, args := #[x, y], argTypes := #[T, T'] }, t, pos, af, g⟩).run P w = .ok (.value (.int .i64 q)) (w.setRow gg (cur.toList.take (o * ii.size) ++ news ++ cur.toList.drop (o * ii.size + news.length)).toArray) := by
    simp [execOp, resolve, invoke, builtin, hx, hy, Builtin.copy_, run_underlying hT, Builtin.lenOf, Builtin.firstCells, sizeOf, typeInfo, hi, hq, ← hl, hld, hst, goInt]
  unfold Op1
  rw [hA]
  have hcl : cur.toList.length = cap * ii.size := by rw [Array.length_toList, hcs]
  refine kk _ (I.stepAt n0 hn rfl rfl rfl (by simp) (fun b hb hnb => setRow_other w gg b _ (fun e => hnb (by simp [ownSl, Value.ownBlock, e]))) ?_ (fun b hb => ?_))
  · refine ⟨?_, .inr ⟨gg, cap, _, rfl, hb, setRow_heap w gg cur _ el _ hg, hnc, hcm, ?_, ?_⟩⟩
    · rw [over_len (by rw [hp.1]; exact hok), hp.1]
    · simp only [List.size_toArray, List.length_append, List.length_take, List.length_drop, hcl]
      omega
    · rw [over_take _ _ _ _ hok (by rw [hcl]; exact hnk), ht]
  · have : b = gg := by simpa [ownSl, Value.ownBlock] using hb
    subst this
    exact ⟨.inl (by simp [ownSl, Value.ownBlock]), by simpa using hfp.2.1⟩
/-- Seen with some of its spare cells. -/
theorem Inv.widen {el k gg n cap m : Nat} {xs : List Value} (I : Inv B h (ownSl el k (.slice (some ⟨gg, 0, none⟩) n cap) n xs :: M) w) (hm : n + m ≤ cap) :
    ∃ ys, ys.length = m * k ∧ Inv B h (ownSl el k (.slice (some ⟨gg, 0, none⟩) (n + m) cap) (n + m) (xs ++ ys) :: M) w := by
  have hp : w.ownsRow 0 el k (.slice (some ⟨gg, 0, none⟩) n cap) n xs := (I.own _ (List.mem_cons_self ..)).1
  have hfp := (I.own _ (List.mem_cons_self ..)).2 gg (by simp [ownSl, Value.ownBlock])
  rcases hp.2 with ⟨h0, _⟩ | ⟨g', cap', cur, he, hb, hg, hnc, hcm, hcs, ht⟩
  · cases h0
  injection he with e1 e2 e3; injection e1 with e1; injection e1 with e1; subst e1; subst e3
  have hnk : (n + m) * k ≤ cap * k := Nat.mul_le_mul_right _ hm
  rw [Nat.add_mul] at hnk
  have hcl : cur.toList.length = cap * k := by rw [Array.length_toList, hcs]
  have hys : ((cur.toList.drop (n * k)).take (m * k)).length = m * k := by rw [List.length_take, List.length_drop, hcl]; omega
  refine ⟨(cur.toList.drop (n * k)).take (m * k), hys, I.step rfl rfl rfl (Nat.le_refl _) (fun _ _ _ => rfl) ?_ (fun b hb => ?_)⟩
  · refine ⟨by rw [List.length_append, hp.1, hys, Nat.add_mul], .inr ⟨gg, cap, cur, rfl, hb, hg, hm, hcm, hcs, ?_⟩⟩
    rw [← ht, Nat.add_mul, List.take_add]
  · have : b = gg := by simpa [ownSl, Value.ownBlock] using hb
    subst this
    exact ⟨.inl (by simp [ownSl, Value.ownBlock]), hfp.2.1⟩
/-- What is owned holds these cells. -/
theorem Inv.rdOwn {el k gg n cap : Nat} {xs : List Value} (I : Inv B h M w) (n0 : Nat) (hn : M[n0]? = some (ownSl el k (.slice (some ⟨gg, 0, none⟩) n cap) n xs)) (o m : Nat) : Rd w gg o ((xs.drop o).take m) := by
  have hp : w.ownsRow 0 el k (.slice (some ⟨gg, 0, none⟩) n cap) n xs := I.at n0 hn
  intro j v hj
  have := hp.cells (g := gg) rfl (o + j) v (by
    rw [List.getElem?_take] at hj
    split at hj
    · rwa [List.getElem?_drop] at hj
    · cases hj)
  rwa [addr_add, Nat.zero_add] at this
theorem Inv.shapeOwn {el k gg n cap : Nat} {xs : List Value} (I : Inv B h M w) (n0 : Nat) (hn : M[n0]? = some (ownSl el k (.slice (some ⟨gg, 0, none⟩) n cap) n xs)) : w.shape? gg = some (el, cap * k) ∧ n ≤ cap := by
  have hp : w.ownsRow 0 el k (.slice (some ⟨gg, 0, none⟩) n cap) n xs := I.at n0 hn
  rcases hp.2 with ⟨h0, _⟩ | ⟨g', cap', cur, he, hb, hg, hnc, hcm, hcs, ht⟩
  · cases h0
  injection he with e1 e2 e3; injection e1 with e1; injection e1 with e1; subst e1; subst e3
  exact ⟨by simp [World.shape?, hg, hcs], hnc⟩
/-- append(s, make([]T, m)...) where there is no room: a piece of its own, zeros behind. -/
theorem O.appendZ {T Tn el k bytes n m c sb so : Nat} {z : Value} {kn ki : IntKind} {x y : Operand} {olds : List Value} (I : Inv B h M w) (hT : Und P T (.slice el)) (hTn : Und P Tn (.int kn)) (he : ElT P el k bytes z) (hx : ev e x = .slice (some ⟨sb, so, none⟩) n c) (hr : Rd w sb so olds) (hl : olds.length = n * k) (hy : ev e y = .int ki m) (h0 : 0 < m) (hc : c < n + m) (hb : (n + m) * bytes ≤ 140737488355328) (h63 : n + m ≤ 140737488355328)
    (kk : ∀ gg cap w', Inv B h (ownSl el k (.slice (some ⟨gg, 0, none⟩) (n + m) cap) (n + m) (olds ++ (Builtin.zeroCells z.cells m).toList) :: M) w' → gg ≠ sb → K (.slice (some ⟨gg, 0, none⟩) (n + m) cap) w') (hlt : sb < w.heap.size) :
    Op1 P ⟨d, .call { callee := .builtin .append, args := #[x, y], argTypes := #[T, Tn] }, t, pos, af, g⟩ e w K := by
  obtain ⟨i, hi, hz, hsz, hby⟩ := he.info'
  subst hsz; subst hby
  have hold := run_firstCells_some (P := P) w.drew i.size n ⟨sb, so, none⟩ n c olds hl (fun j v hj => by rw [addr_add]; exact hr j v hj)
  have hmb : m * i.bytes ≤ (n + m) * i.bytes := Nat.mul_le_mul_right _ (by omega)
  have hrun := Go.Lib.run_append_grow_zeros (P := P) w T Tn t el i z ki kn hT hTn hi hz (some ⟨sb, so, none⟩) n c olds hold m h0 he.pos hc (by omega) (by omega) (growslice_fits hc hb)
  have hA : (execOp (ev e) ⟨d, .call { callee := .builtin .append, args := #[x, y], argTypes := #[T, Tn] }, t, pos, af, g⟩).run P w = .ok (.value (.slice (some ⟨w.heap.size, 0, none⟩) (n + m) (grownCap w (n + m) c el)))
      (w.drew.alloc (.cells (olds.toArray ++ Builtin.zeroCells z.cells m ++ Builtin.zeroCells z.cells (grownCap w (n + m) c el - (n + m))) el)) := by
    simp [execOp, resolve, invoke, builtin, hx, hy, hrun]
  unfold Op1
  rw [hA]
  have hge := grownCap_ge w (n + m) c el
  have hcm := grownCap_le_maxLen w (n + m) c el (by simp only [maxLen]; omega)
  obtain ⟨cs, hcs⟩ : ∃ cs : Array Value, cs = olds.toArray ++ Builtin.zeroCells z.cells m ++ Builtin.zeroCells z.cells (grownCap w (n + m) c el - (n + m)) := ⟨_, rfl⟩
  rw [← hcs]
  have hsize : cs.toList.length = grownCap w (n + m) c el * i.size := by
    rw [Array.length_toList, hcs]
    simp only [Array.size_append, List.size_toArray, size_zeroCells, he.cells, hl, ← Nat.add_mul]
    congr 1
    omega
  have htk : cs.toList.take ((n + m) * i.size) = olds ++ (Builtin.zeroCells z.cells m).toList := by
    rw [hcs]
    simp only [Array.toList_append]
    refine List.take_left' ?_
    simp only [List.length_append, Array.length_toList, size_zeroCells, he.cells, hl, Nat.add_mul]
  refine kk w.heap.size _ _ (I.gain (A := ownSl el i.size (.slice (some ⟨w.heap.size, 0, none⟩) (n + m) (grownCap w (n + m) c el)) (n + m) (olds ++ (Builtin.zeroCells z.cells m).toList)) ((Grow.drew w).trans (Grow.alloc _ _)) ?_ (fun b hb => by simp [ownSl, Value.ownBlock] at hb; subst hb; simp)) (by omega)
  have := ownsRow_made' w cs.toList el i.size (n + m) (grownCap w (n + m) c el) hsize hge hcm w.drew rfl
  rw [Array.toArray_toList, htk] at this
  exact this
/-- slices.overlaps, of two blocks: no. -/
theorem O.overlaps {f : FuncId} {x y : Operand} {ts : Array TypeId} {T R el k cx cy nx ny bx ox by_ oy : Nat} {tA tB : TypeId} {kA kB : Nat} (hrun : ∀ vs w, (callFunc f vs).run P w = ((Extern.SlicesOverlaps.overlaps #[T, T] #[R] vs).run P w).andThen fun v w' => .ok (.value v) w') (hT : Und P T (.slice el)) (hk : ∀ w, (sizeOf el).run P w = .ok k w)
    (hx : ev e x = .slice (some ⟨bx, ox, none⟩) nx cx) (hy : ev e y = .slice (some ⟨by_, oy, none⟩) ny cy) (hne : bx ≠ by_) (hA : w.shape? bx = some (tA, kA)) (hB : w.shape? by_ = some (tB, kB)) (hkB : kB ≠ 0) (hf : ∀ o, w.frozen? ⟨bx, o, none⟩ = false) :
    Y P ⟨d, .call { callee := .value (.func f), args := #[x, y], argTypes := ts }, t, pos, af, g⟩ e w (.bool false) := by
  have h1 := Go.Lib.run_overlaps_apart (P := P) w T R el hT k hk ⟨bx, ox, none⟩ ⟨by_, oy, none⟩ nx cx ny cy hne tA tB kA kB hA hB hkB (hf ox) (hf kA)
  have hc : ev e (.func f) = .func (.func f) #[] #[] := rfl
  simp [Y, execOp, resolve, hc, Deferred.ofValue, invoke, hx, hy, hrun, h1]
/-- A cut of what begins at its row's start. -/
theorem Y.cutO {T el k b n c l h' : Nat} {x : Operand} {lo hi : Option Operand} (hT : Und P T (.slice el)) (hk : ∀ w, (sizeOf el).run P w = .ok k w) (hx : ev e x = .slice (some ⟨b, 0, none⟩) n c)
    (hl : lo = none ∧ l = 0 ∨ ∃ q k, lo = some q ∧ ev e q = .int k (l : Int)) (hh : hi = none ∧ h' = n ∨ ∃ q k, hi = some q ∧ ev e q = .int k (h' : Int)) (h1 : l ≤ h') (h2 : h' ≤ c) (h3 : l < c) :
    Y P ⟨d, .slice T x lo hi none, t, pos, af, g⟩ e w (.slice (some ⟨b, l * k, none⟩) (h' - l) (c - l)) := by
  refine (Y.slicesl hT hk hx hl hh h1 h2).is ?_
  rw [if_neg (by omega), Nat.zero_add]
/-- One cell of what is owned is stored. -/
theorem O.storeS {T el k bytes gg n cap o : Nat} {z v : Value} {a x : Operand} {xs : List Value} (I : Inv B h M w) (hT : Ty P T 1 false) (he : ElT P el k bytes z) (n0 : Nat) (hn : M[n0]? = some (ownSl el k (.slice (some ⟨gg, 0, none⟩) n cap) n xs))
    (ha : ev e a = .pointer (some ⟨gg, o, none⟩)) (hx : ev e x = v) (hv : v.cells = #[v]) (h1 : v.oneCell' = true) (ho : o < xs.length) (kk : ∀ w', Inv B h (M.set n0 (ownSl el k (.slice (some ⟨gg, 0, none⟩) n cap) n (xs.set o v))) w' → K undef w') :
    Op1 P ⟨d, .store T a x, t, pos, af, g⟩ e w K := by
  obtain ⟨ii, hi, hz, hsz, hby⟩ := he.info'
  subst hsz
  have hp : w.ownsRow 0 el ii.size (.slice (some ⟨gg, 0, none⟩) n cap) n xs := I.at n0 hn
  have hfp := (I.own _ (List.mem_of_getElem? hn)).2 gg (by simp [ownSl, Value.ownBlock])
  rcases hp.2 with ⟨h0, _⟩ | ⟨g', cap', cur, he', hb, hg, hnc, hcm, hcs, ht⟩
  · cases h0
  injection he' with e1 e2 e3; injection e1 with e1; injection e1 with e1; subst e1; subst e3
  have hnk : n * ii.size ≤ cap * ii.size := Nat.mul_le_mul_right _ hnc
  have hxl := hp.1
  have hst := run_storeCells_at P gg o el [v] 0 cur w hg (by rw [hcs]; simp only [List.length_singleton]; omega) (by simpa using h1)
  simp only [Nat.add_zero] at hst
  have hA : (execOp (ev e) ⟨d, .store T a x, t, pos, af, g⟩).run P w = .ok .skip (w.setRow gg (cur.toList.take o ++ [v] ++ cur.toList.drop (o + [v].length)).toArray) := by
    simp [execOp, Instr.storeAt, Instr.sureAddr, ha, hx, storeVar, hv, hT.size, hst]
  unfold Op1
  rw [hA]
  have hcl : cur.toList.length = cap * ii.size := by rw [Array.length_toList, hcs]
  have hset : xs.set o v = over xs o [v] := by
    unfold over
    rw [List.set_eq_take_append_cons_drop, if_pos ho]
    simp
  refine kk _ (I.stepAt n0 hn rfl rfl rfl (by simp) (fun b hb hnb => setRow_other w gg b _ (fun e => hnb (by simp [ownSl, Value.ownBlock, e]))) ?_ (fun b hb => ?_))
  · refine ⟨?_, .inr ⟨gg, cap, _, rfl, hb, setRow_heap w gg cur _ el _ hg, hnc, hcm, ?_, ?_⟩⟩
    · rw [List.length_set, hp.1]
    · simp only [List.size_toArray, List.length_append, List.length_take, List.length_drop, hcl, List.length_singleton]
      omega
    · rw [over_take _ _ _ _ (by simp only [List.length_singleton]; omega) (by rw [hcl]; exact hnk), ht, hset]
  · have : b = gg := by simpa [ownSl, Value.ownBlock] using hb
    subst this
    exact ⟨.inl (by simp [ownSl, Value.ownBlock]), by simpa using hfp.2.1⟩
/-- A slice literal, its whole block told. -/
def LitW (el : TypeId) (cs : List Value) (n : Nat) (v : Value) (h : Heap) : Prop := ∃ b, v = .slice (some ⟨b, 0, none⟩) n n ∧ h b = some (.cells cs.toArray el (0, 0))
theorem LitW.mono {el : TypeId} {cs : List Value} {n : Nat} : MonoS (LitW el cs n) := fun _ _ _ hl hx => by
  obtain ⟨b, h1, h2⟩ := hx
  exact ⟨b, h1, hl _ _ h2⟩
theorem O.mklit {T el k n : Nat} {parts : Array (Nat × Operand)} {z : Value} {cs : List Value} {K : Value → World → Prop} (I : Inv B h M w) (hT : Und P T (.slice el)) (hk : ∀ w, (sizeOf el).run P w = .ok k w) (hz : Zero P el z) (hs : n * k ≤ 16777216) (h0 : n * k ≠ 0)
    (hf : fillL (fun i => some (i * k, k)) ((List.range (n * k)).map fun i => (cellsL z)[i % k]!) (parts.toList.map fun (i, x) => (i, ev e x)) = some cs) (hzc : (cellsL z).length = k)
    (kk : ∀ v h' w', Inv B h' M w' → h.le h' → LitW el cs n v h' → K v w') : Op1 P ⟨d, .buildSlice T n parts, t, pos, af, g⟩ e w K :=
  O.mkbox I hT hk hz hs h0 hf hzc fun b w' I' => by
    have hb := I'.at 0 rfl
    obtain ⟨h', hle, hfp, J⟩ := I'.settle
    exact kk _ h' w' J hle ⟨b, rfl, (hfp b (by simp [TF.box])).trans hb⟩
/-- A quiet call of a function value. -/
theorem QC.callcv {x : Operand} {f : FuncId} {fs cs : List Value} {args : Array Operand} {ts : Array TypeId} {vs : List Value} {r : Value}
    (I : Inv B h M w) (hf : Enters P f) (hx : ev e x = .func (.func f) fs.toArray cs.toArray) (hfn : Fn P f vs ⟨w, h⟩ (fun v _ => v = r)) (ha : fs ++ args.toList.map (ev e) ++ cs = vs) : QC P (Inv B h M) ⟨d, .call { callee := .value x, args := args, argTypes := ts }, t, pos, af, g⟩ e w r := by
  have ha' : fs.toArray ++ args.map (ev e) ++ cs.toArray = vs.toArray := by rw [← ha]; apply Array.ext'; simp
  have : (execOp (ev e) ⟨d, .call { callee := .value x, args := args, argTypes := ts }, t, pos, af, g⟩).run P w = .ok (.enter f vs.toArray) w := by
    simp only [execOp, resolve, hx, Deferred.ofValue]
    simp [invoke, ha', hf]
  unfold QC
  rw [this]
  refine ⟨rfl, Calls.mono hfn ?_⟩
  rintro x w' ⟨v, h', rfl, X, rfl⟩
  exact ⟨rfl, I.grow X.below⟩
end
end Go.TF
end
section
/- Places of facts, their order; which may be; checks of facts. -/
namespace Go.TF
open Go Go.RowKit Go.Proofs
set_option maxRecDepth 20000

@[reducible] def nEnc (n : Int) : List Value := [.int .i64 n]
/-- A variable that is never written again. -/
structure Known (h : Heap) (b : Nat) (cs : List Value) : Prop where
  rd : RdH h b 0 cs
theorem Known.le {h h' : Heap} {b : Nat} {cs : List Value} (k : Known h b cs) (hl : h.le h') : Known h' b cs := ⟨k.rd.le hl⟩
theorem Inv.settleBox {B : Base} {h : Heap} {M : List SA} {w : World} {b : Nat} {cs : List Value} {T : TypeId} (I : Inv B h (box b cs T :: M) w) : ∃ h', h.le h' ∧ Known h' b cs ∧ Inv B h' M w := by
  have hb := I.at 0 rfl
  obtain ⟨h', hle, hfp, J⟩ := I.settle
  refine ⟨h', hle, ⟨fun j v hv => ?_⟩, J⟩
  have : h' b = some (.cells cs.toArray T (0, 0)) := (hfp b (by simp [box])).trans hb
  simp only [Heap.cell, this, Nat.zero_add]
  simpa using hv
theorem place_ok (B : Base) (hB : B.ok) (x : Fct) (hx : PF x) : Fn Tryz.prog 144 [x.val] B (fun v _ => v = .int .i64 (placeF x)) := by
  obtain ⟨h1, h2, h3, h4, h5, h6⟩ := hx
  refine Fn.of Tryz.func144 rfl Tryz.ntmps144 (by kernel_rfl) (by simp) ?_
  intro e
  have I := Inv.start hB
  refine WP.seq ?_
  refine WP.region ?_
  refine Ops.go (O.box (v := .agg #[_, _, _, _]) I rfl rfl ?_)
  intro b1 w I
  refine Ops.y (v := .int .i64 _) (Y.assign rfl) ?_
  refine Ops.nil ?_
  refine WP.seq ?_
  refine WP.region ?_
  refine Ops.y (v := .pointer (some ⟨_, _, none⟩)) (Y.fa0 fa_52_0 rfl) ?_
  refine Ops.y (v := .int .i64 _) (Y.loadv ty_3 rfl (I.rdbox 0 rfl 0 1) rfl rfl) ?_
  refine Ops.y (v := .int .i64 _) (Y.muli rfl rfl ⟨by omega, by omega⟩) ?_
  refine Ops.y (v := .pointer (some ⟨_, _, none⟩)) (Y.fa fa_52_1 rfl) ?_
  refine Ops.y (v := .int .i64 _) (Y.loadv ty_3 rfl (I.rdbox 0 rfl 1 1) rfl rfl) ?_
  refine Ops.y (v := .int .i64 _) (Y.addi rfl rfl ⟨by omega, by omega⟩) ?_
  refine Ops.y (v := .int .i64 _) (Y.muli rfl rfl ⟨by omega, by omega⟩) ?_
  refine Ops.y (v := .pointer (some ⟨_, _, none⟩)) (Y.fa fa_52_2 rfl) ?_
  refine Ops.y (v := .int .i64 _) (Y.loadv ty_3 rfl (I.rdbox 0 rfl 2 1) rfl rfl) ?_
  refine Ops.y (v := .int .i64 _) (Y.addi rfl rfl ⟨by omega, by omega⟩) ?_
  refine Ops.y (v := .int .i64 _) (Y.assign rfl) ?_
  refine Ops.nil ?_
  refine WP.ret ?_
  repeat (first | refine thenE_ret ?_ | refine blockE_ret ?_)
  exact retQ.mk (vs := [.int .i64 _]) rfl ⟨rfl, trivial⟩ I.ext_of (rfl)
theorem isNaN_ok (B : Base) (hB : B.ok) (a : Int) : Fn Tryz.prog 180 [.int .i64 a] B (fun v _ => v = .bool false) := by
  refine Fn.of Tryz.func180 rfl Tryz.ntmps180 (by kernel_rfl) (by simp) ?_
  intro e
  have I := Inv.start hB
  refine WP.seq ?_
  refine WP.region ?_
  refine Ops.y (v := .bool _) (Y.assign rfl) ?_
  refine Ops.nil ?_
  refine WP.seq ?_
  refine WP.region ?_
  refine Ops.y (v := .int .i64 _) (Y.move rfl) ?_
  refine Ops.y (v := .int .i64 _) (Y.move rfl) ?_
  refine Ops.y (v := .bool (decide _)) (Y.nei rfl rfl) ?_
  refine Ops.y (v := .bool _) (Y.assign rfl) ?_
  refine Ops.nil ?_
  refine WP.ret ?_
  repeat (first | refine thenE_ret ?_ | refine blockE_ret ?_)
  exact retQ.mk (vs := [.bool _]) rfl ⟨rfl, trivial⟩ I.ext_of (by simp only [tup]; simp)
theorem Compare_ok (B : Base) (hB : B.ok) (a b : Int) : Fn Tryz.prog 159 [.int .i64 a, .int .i64 b] B (fun v _ => v = .int .i64 (cmpI a b)) := by
  refine Fn.of Tryz.func159 rfl Tryz.ntmps159 (by kernel_rfl) (by simp) ?_
  intro e
  have I := Inv.start hB
  refine WP.seq ?_
  refine WP.region ?_
  refine Ops.y (v := .int .i64 _) (Y.assign rfl) ?_
  refine Ops.nil ?_
  refine WP.seq ?_
  refine WP.region ?_
  refine Ops.y (v := .int .i64 _) (Y.move rfl) ?_
  refine Ops.go (O.callv I Tryz.call180 (isNaN_ok _ I.base_ok a) rfl ?_)
  intro w I
  refine Ops.y (v := .bool _) (Y.assign rfl) ?_
  refine Ops.nil ?_
  refine WP.seq ?_
  refine WP.region ?_
  refine Ops.y (v := .int .i64 _) (Y.move rfl) ?_
  refine Ops.go (O.callv I Tryz.call180 (isNaN_ok _ I.base_ok b) rfl ?_)
  intro w I
  refine Ops.y (v := .bool _) (Y.assign rfl) ?_
  refine Ops.nil ?_
  refine WP.seq ?_
  refine WP.seq ?_
  refine WP.region ?_
  refine Ops.y (v := .bool _) (Y.move rfl) ?_
  refine Ops.nil ?_
  refine WP.cond_f rfl ?_
  refine WP.skip ?_
  refine WP.seq ?_
  refine WP.seq ?_
  refine WP.region ?_
  refine Ops.y (v := .bool _) (Y.move rfl) ?_
  refine Ops.nil ?_
  refine WP.cond_f rfl ?_
  refine WP.skip ?_
  refine WP.seq ?_
  refine WP.seq ?_
  refine WP.region ?_
  refine Ops.y (v := .int .i64 _) (Y.move rfl) ?_
  refine Ops.y (v := .int .i64 _) (Y.move rfl) ?_
  refine Ops.y (v := .bool (decide _)) (Y.lti rfl rfl) ?_
  refine Ops.nil ?_
  refine WP.cond_dec rfl (fun h1 => ?_) (fun h1 => ?_)
  · refine WP.seq ?_
    refine WP.region ?_
    refine Ops.y (v := .int .i64 _) (Y.assign rfl) ?_
    refine Ops.nil ?_
    refine WP.ret ?_
    repeat (first | refine thenE_ret ?_ | refine blockE_ret ?_)
    exact retQ.mk (vs := [.int .i64 _]) rfl ⟨rfl, trivial⟩ I.ext_of (by simp only [tup, cmpI]; rw [if_pos h1])
  refine WP.skip ?_
  refine WP.seq ?_
  refine WP.seq ?_
  refine WP.region ?_
  refine Ops.y (v := .int .i64 _) (Y.move rfl) ?_
  refine Ops.y (v := .int .i64 _) (Y.move rfl) ?_
  refine Ops.y (v := .bool (decide _)) (Y.gti rfl rfl) ?_
  refine Ops.nil ?_
  refine WP.cond_dec rfl (fun h2 => ?_) (fun h2 => ?_)
  · refine WP.seq ?_
    refine WP.region ?_
    refine Ops.y (v := .int .i64 _) (Y.assign rfl) ?_
    refine Ops.nil ?_
    refine WP.ret ?_
    repeat (first | refine thenE_ret ?_ | refine blockE_ret ?_)
    exact retQ.mk (vs := [.int .i64 _]) rfl ⟨rfl, trivial⟩ I.ext_of (by simp only [tup, cmpI]; rw [if_neg h1, if_pos h2])
  refine WP.skip ?_
  refine WP.seq ?_
  refine WP.region ?_
  refine Ops.y (v := .int .i64 _) (Y.assign rfl) ?_
  refine Ops.nil ?_
  refine WP.ret ?_
  repeat (first | refine thenE_ret ?_ | refine blockE_ret ?_)
  exact retQ.mk (vs := [.int .i64 _]) rfl ⟨rfl, trivial⟩ I.ext_of (by simp only [tup, cmpI]; rw [if_neg h1, if_neg h2])
def orC (xs : List Int) : Int := (xs.find? fun n => decide (n ≠ 0)).getD 0
theorem orC_hit {xs : List Int} {k : Nat} (hk : k < xs.length) (h : ∀ j, j < k → ∀ hj : j < xs.length, xs[j] = 0) (hp : xs[k] ≠ 0) : orC xs = xs[k] := by
  have : xs.find? (fun n => decide (n ≠ 0)) = some xs[k] := List.find?_eq_some_iff_getElem.2 ⟨by simpa using hp, k, hk, rfl, fun j hj => by simpa using h j hj (by omega)⟩
  simp only [orC, this, Option.getD_some]
theorem orC_none {xs : List Int} (h : ∀ j, ∀ hj : j < xs.length, xs[j] = 0) : orC xs = 0 := by
  have : xs.find? (fun n => decide (n ≠ 0)) = none := List.find?_eq_none.2 fun x hx => by
    obtain ⟨j, hj, rfl⟩ := List.getElem_of_mem hx
    simpa using h j hj
  simp only [orC, this, Option.getD_none]
theorem cmpOr_ok (B : Base) (hB : B.ok) (l : Sl Int) (hl : l.Is 1 nEnc B.h) : Fn Tryz.prog 158 [l.val] B (fun v _ => v = .int .i64 (orC l.xs)) := by
  have hsm := hl.small
  refine Fn.of Tryz.func158 rfl Tryz.ntmps158 (by kernel_rfl) (by simp) ?_
  intro e
  have I := Inv.start hB
  refine WP.seq ?_
  refine WP.region ?_
  refine Ops.y (v := .int .i64 _) (Y.assign rfl) ?_
  refine Ops.nil ?_
  refine WP.seq ?_
  refine WP.region ?_
  refine Ops.y (v := .int .i64 _) (Y.assign rfl) ?_
  refine Ops.nil ?_
  refine WP.seq ?_
  refine WP.seq ?_
  refine WP.region ?_
  refine Ops.y (v := .slice _ _ _) (Y.move rfl) ?_
  refine Ops.y (v := .int .i64 _) (Y.lens Tryz.underlying45 rfl) ?_
  refine Ops.y (v := .int .i64 _) (Y.move rfl) ?_
  refine Ops.nil ?_
  refine WP.block ?_
  refine WP.loopE (σ := Nat) (fun k => [(3, .int .i64 0), (6, l.val), (7, .int .i64 l.xs.length), (8, .int .i64 k)]) (fun k w => Inv B B.h [] w ∧ k ≤ l.xs.length ∧ ∀ j, j < k → ∀ hj : j < l.xs.length, l.xs[j] = 0) (fun k => l.xs.length - k)
    ⟨0, ⟨rfl, rfl, rfl, rfl, trivial⟩, I, Nat.zero_le _, fun j hj => by omega⟩ ?_
  rintro k e w ⟨I, hk, hn⟩
  refine WP.seq ?_
  refine WP.region ?_
  refine Ops.y (v := .bool (decide _)) (Y.lti rfl rfl) ?_
  refine Ops.nil ?_
  refine WP.seq ?_
  refine WP.cond_dec rfl (fun h => ?_) (fun h => ?_)
  · have hk' : k < l.xs.length := by omega
    have E1 := hl.at hk'
    refine WP.skip ?_
    refine WP.seq ?_
    refine WP.block ?_
    refine WP.seq ?_
    refine WP.region ?_
    refine Ops.y (v := .pointer (some ⟨_, _, none⟩)) (Y.idxEl E1 Tryz.underlying45 Tryz.sizeOf3 rfl rfl (Int.natCast_nonneg _) rfl) ?_
    refine Ops.y (v := .int .i64 _) (Y.loadv ty_3 rfl (I.rd (E1.rd.part 0 1)) rfl rfl) ?_
    refine Ops.y (v := .int .i64 _) (Y.assign rfl) ?_
    refine Ops.nil ?_
    refine WP.seq ?_
    refine WP.region ?_
    refine Ops.y (v := .int .i64 _) (Y.move rfl) ?_
    refine Ops.y (v := .int .i64 _) (Y.move rfl) ?_
    refine Ops.y (v := .bool (decide _)) (Y.nei rfl rfl) ?_
    refine Ops.nil ?_
    refine WP.cond_dec rfl (fun h5 => ?_) (fun h5 => ?_)
    · refine WP.seq ?_
      refine WP.region ?_
      refine Ops.y (v := .int .i64 _) (Y.move rfl) ?_
      refine Ops.y (v := .int .i64 _) (Y.assign rfl) ?_
      refine Ops.nil ?_
      refine WP.ret ?_
      repeat (first | refine thenE_ret ?_ | refine blockE_ret ?_)
      exact retQ.mk (vs := [.int .i64 _]) rfl ⟨rfl, trivial⟩ I.ext_of (by simp only [tup]; rw [orC_hit hk' hn h5])
    refine WP.skip ?_
    refine WP.region ?_
    refine Ops.y (v := .int .i64 _) (Y.addi rfl rfl ⟨by omega, by omega⟩) ?_
    refine Ops.y (v := .int .i64 _) (Y.move rfl) ?_
    refine Ops.nil ?_
    exact ⟨k + 1, ⟨⟨rfl, rfl, rfl, rfl, trivial⟩, I, by omega, fun j hj hj' => by
      rcases Nat.lt_succ_iff_lt_or_eq.1 hj with h' | rfl
      · exact hn j h' hj'
      · exact Decidable.not_not.1 h5⟩, by omega⟩
  refine WP.exit ?_
  refine WP.seq ?_
  refine WP.region ?_
  refine Ops.y (v := .int .i64 _) (Y.move rfl) ?_
  refine Ops.y (v := .int .i64 _) (Y.assign rfl) ?_
  refine Ops.nil ?_
  refine WP.ret ?_
  repeat (first | refine thenE_ret ?_ | refine blockE_ret ?_)
  exact retQ.mk (vs := [.int .i64 _]) rfl ⟨rfl, trivial⟩ I.ext_of (by simp only [tup]; rw [orC_none fun j hj => hn j (by omega) hj])
theorem orC_three (a b c : Int) : orC [a, b, c] = if a ≠ 0 then a else if b ≠ 0 then b else c := by
  unfold orC
  by_cases ha : a = 0
  · by_cases hb : b = 0
    · by_cases hc : c = 0 <;> simp [ha, hb, hc]
    · simp [ha, hb]
  · simp [ha]
theorem order_ok (B : Base) (hB : B.ok) (x y : Fct) : Fn Tryz.prog 107 [x.val, y.val] B (fun v _ => v = .int .i64 (ordF x y)) := by
  refine Fn.of Tryz.func107 rfl Tryz.ntmps107 (by kernel_rfl) (by simp) ?_
  intro e
  have I := Inv.start hB
  refine WP.seq ?_
  refine WP.region ?_
  refine Ops.go (O.box (v := .agg #[_, _, _, _]) I rfl rfl ?_)
  intro b2 w I
  refine Ops.go (O.box (v := .agg #[_, _, _, _]) I rfl rfl ?_)
  intro b3 w I
  refine Ops.y (v := .int .i64 _) (Y.assign rfl) ?_
  refine Ops.nil ?_
  refine WP.seq ?_
  refine WP.regionF mixed I 18 (by kernel_rfl) ?_
  refine OpsF.y_ (v := .pointer (some ⟨_, _, none⟩)) (fun _ => runs_none _) (fun _ w us hl I => Y.fa0 fa_52_0 rfl) ?_
  refine OpsF.y_ (v := .int .i64 _) (fun _ => runs_none _) (fun _ w us hl I => Y.loadv ty_3 rfl (I.rdbox 1 rfl 0 1) rfl rfl) ?_
  refine OpsF.y_ (v := .pointer (some ⟨_, _, none⟩)) (fun _ => runs_none _) (fun _ w us hl I => Y.fa0 fa_52_0 rfl) ?_
  refine OpsF.y_ (v := .int .i64 _) (fun _ => runs_none _) (fun _ w us hl I => Y.loadv ty_3 rfl (I.rdbox 0 rfl 0 1) rfl rfl) ?_
  refine OpsF.c_ (fun _ => runs_none _) (fun _ w us hl I => O.callv I Tryz.call159 (Compare_ok _ I.base_ok _ _) rfl (fun w' I' => ⟨rfl, I'⟩)) ?_
  refine OpsF.y_ (v := .pointer (some ⟨_, _, none⟩)) (fun _ => runs_none _) (fun _ w us hl I => Y.fa fa_52_1 rfl) ?_
  refine OpsF.y_ (v := .int .i64 _) (fun _ => runs_none _) (fun _ w us hl I => Y.loadv ty_3 rfl (I.rdbox 1 rfl 1 1) rfl rfl) ?_
  refine OpsF.y_ (v := .pointer (some ⟨_, _, none⟩)) (fun _ => runs_none _) (fun _ w us hl I => Y.fa fa_52_1 rfl) ?_
  refine OpsF.y_ (v := .int .i64 _) (fun _ => runs_none _) (fun _ w us hl I => Y.loadv ty_3 rfl (I.rdbox 0 rfl 1 1) rfl rfl) ?_
  refine OpsF.c_ (fun _ => runs_none _) (fun _ w us hl I => O.callv I Tryz.call159 (Compare_ok _ I.base_ok _ _) rfl (fun w' I' => ⟨rfl, I'⟩)) ?_
  refine OpsF.y_ (v := .pointer (some ⟨_, _, none⟩)) (fun _ => runs_none _) (fun _ w us hl I => Y.fa fa_52_2 rfl) ?_
  refine OpsF.y_ (v := .int .i64 _) (fun _ => runs_none _) (fun _ w us hl I => Y.loadv ty_3 rfl (I.rdbox 1 rfl 2 1) rfl rfl) ?_
  refine OpsF.y_ (v := .pointer (some ⟨_, _, none⟩)) (fun _ => runs_none _) (fun _ w us hl I => Y.fa fa_52_2 rfl) ?_
  refine OpsF.y_ (v := .int .i64 _) (fun _ => runs_none _) (fun _ w us hl I => Y.loadv ty_3 rfl (I.rdbox 0 rfl 2 1) rfl rfl) ?_
  refine OpsF.c_ (fun _ => runs_none _) (fun _ w us hl I => O.callv I Tryz.call159 (Compare_ok _ I.base_ok _ _) rfl (fun w' I' => ⟨rfl, I'⟩)) ?_
  refine OpsF.x_ (Φ := SlS 1 nEnc [cmpI x.pred y.pred, cmpI x.a y.a, cmpI x.b y.b]) SlS.mono (fun _ => runs_none _) ?_ ?_
  · intro _ w hl I
    exact O.mksl (xs := [cmpI x.pred y.pred, cmpI x.a y.a, cmpI x.b y.b]) (enc := nEnc) I Tryz.underlying45 Tryz.sizeOf3 Tryz.zeroValue3 rfl (Nat.le_of_ble_eq_true rfl) rfl rfl (by decide) (fun _ => rfl) (fun b h w I le sl => ⟨h, le, I, ⟨⟨some ⟨b, 0, none⟩, _, [cmpI x.pred y.pred, cmpI x.a y.a, cmpI x.b y.b]⟩, rfl, rfl, ⟨sl, by simp⟩⟩⟩)
  refine OpsF.d_ (v := .int .i64 (ordF x y)) (fun _ => runs_none _) ?_ ?_
  · intro _ w hl I u20 q20
    obtain ⟨s, rfl, es, hs⟩ := q20 rfl
    exact O.callv I Tryz.call158 (cmpOr_ok _ I.base_ok s hs) rfl (fun w' I' => ⟨congrArg (Value.int .i64) ((congrArg orC es).trans (orC_three _ _ _)), I'⟩)
  refine OpsF.y_ (v := .int .i64 _) (fun _ => runs_none _) (fun _ w us hl I => Y.assign rfl) ?_
  refine OpsF.nil ?_
  intro _ w hl I u20 q20
  refine Ops.nil ?_
  refine WP.ret ?_
  repeat (first | refine thenE_ret ?_ | refine blockE_ret ?_)
  exact retQ.mk (vs := [.int .i64 _]) rfl ⟨rfl, trivial⟩ I.ext_of (rfl)
end Go.TF
end
section
/- Finding a fact; being under. -/
namespace Go.TF
open Go Go.RowKit Go.Proofs
set_option maxRecDepth 20000

theorem lkF_first {f : List Fct} {p : Int} {k : Nat} (hk : k < f.length) (h : ∀ j, j < k → ∀ hj : j < f.length, placeF f[j] ≠ p) (he : placeF f[k] = p) : lkF f p = some f[k].v := by
  have : f.find? (fun y => decide (placeF y = p)) = some f[k] := List.find?_eq_some_iff_getElem.2 ⟨by simpa using he, k, hk, rfl, fun j hj => by simpa using h j hj (by omega)⟩
  simp only [lkF, this, Option.map_some]
theorem rfind_ok (B : Base) (hB : B.ok) (f : Sl Fct) (hf : Fcts f B.h) (hp : ∀ y ∈ f.xs, PF y) (x : Fct) (hx : PF x) : Fn Tryz.prog 80 [f.val, x.val] B (fun v _ => v = .tuple #[.int .i64 (findF f.xs x).1, .bool (findF f.xs x).2]) := by
  have hsf := hf.small
  refine Fn.of Tryz.func80 rfl Tryz.ntmps80 (by kernel_rfl) (by simp) ?_
  intro e
  have I := Inv.start hB
  refine WP.seq ?_
  refine WP.region ?_
  refine Ops.go (O.box (v := .agg #[_, _, _, _]) I rfl rfl ?_)
  intro b3 w I
  refine Ops.y (v := .int .i64 _) (Y.assign rfl) ?_
  refine Ops.y (v := .bool _) (Y.assign rfl) ?_
  refine Ops.nil ?_
  refine WP.seq ?_
  refine WP.seq ?_
  refine WP.region ?_
  refine Ops.y (v := .int .i64 _) (Y.assign rfl) ?_
  refine Ops.nil ?_
  refine WP.block ?_
  refine WP.loopE (σ := Nat) (fun k => [(0, f.val), (3, .pointer (some ⟨b3, 0, none⟩)), (6, .int .i64 k)]) (fun k w => Inv B B.h [box b3 x.enc 52] w ∧ k ≤ f.xs.length ∧ ∀ j, j < k → ∀ hj : j < f.xs.length, placeF f.xs[j] ≠ placeF x) (fun k => f.xs.length - k)
    ⟨0, ⟨rfl, rfl, rfl, trivial⟩, I, Nat.zero_le _, fun j hj => by omega⟩ ?_
  rintro k e w ⟨I, hk, hn⟩
  refine WP.seq ?_
  refine WP.seq ?_
  refine WP.region ?_
  refine Ops.y (v := .int .i64 _) (Y.move rfl) ?_
  refine Ops.y (v := .slice _ _ _) (Y.move rfl) ?_
  refine Ops.y (v := .int .i64 _) (Y.lens Tryz.underlying26 rfl) ?_
  refine Ops.y (v := .bool (decide _)) (Y.lti rfl rfl) ?_
  refine Ops.nil ?_
  refine WP.cond_dec rfl (fun h => ?_) (fun h => ?_)
  · have hk' : k < f.xs.length := by omega
    have E1 := hf.at hk'
    refine WP.skip ?_
    refine WP.seq ?_
    refine WP.block ?_
    refine WP.seq ?_
    refine WP.regionQ mixed I (by kernel_rfl) ?_
    refine OpsQ.y (v := .slice _ _ _) (fun w I => Y.move rfl) ?_
    refine OpsQ.y (v := .int .i64 _) (fun w I => Y.move rfl) ?_
    refine OpsQ.y (v := .pointer (some ⟨_, _, none⟩)) (fun w I => Y.idxEl E1 Tryz.underlying26 Tryz.sizeOf52 rfl rfl (Int.natCast_nonneg _) rfl) ?_
    refine OpsQ.y (v := .agg #[_, _, _, _]) (fun w I => Y.loadv ty_52 rfl (I.rd (E1.rd.part 0 4)) rfl rfl) ?_
    refine OpsQ.c (fun w I => QC.callv I Tryz.call144 (place_ok _ I.base_ok _ (hp _ (List.getElem_mem hk'))) rfl) ?_
    refine OpsQ.y (v := .agg #[_, _, _, _]) (fun w I => Y.loadv ty_52 rfl (I.rdbox 0 rfl 0 4) rfl rfl) ?_
    refine OpsQ.c (fun w I => QC.callv I Tryz.call144 (place_ok _ I.base_ok _ hx) rfl) ?_
    refine OpsQ.y (v := .bool (decide _)) (fun w I => Y.eqi rfl rfl) ?_
    refine OpsQ.nil ?_
    intro w I
    refine WP.cond_dec rfl (fun h4 => ?_) (fun h4 => ?_)
    · refine WP.seq ?_
      refine WP.region ?_
      refine Ops.y (v := .slice _ _ _) (Y.move rfl) ?_
      refine Ops.y (v := .int .i64 _) (Y.move rfl) ?_
      refine Ops.y (v := .pointer (some ⟨_, _, none⟩)) (Y.idxEl E1 Tryz.underlying26 Tryz.sizeOf52 rfl rfl (Int.natCast_nonneg _) rfl) ?_
      refine Ops.y (v := .pointer (some ⟨_, _, none⟩)) (Y.fa fa_52_3 rfl) ?_
      refine Ops.y (v := .int .i64 _) (Y.loadv ty_3 rfl (I.rd (E1.rd.part 3 1)) rfl rfl) ?_
      refine Ops.y (v := .int .i64 _) (Y.assign rfl) ?_
      refine Ops.y (v := .bool _) (Y.assign rfl) ?_
      refine Ops.nil ?_
      have hl := lkF_first hk' hn h4
      refine WP.ret ?_
      repeat (first | refine thenE_ret ?_ | refine blockE_ret ?_)
      exact retQ.mk (vs := [.int .i64 _, .bool _]) rfl ⟨rfl, rfl, trivial⟩ I.ext_of (by simp only [tup, findF, hl]; rfl)
    refine WP.skip ?_
    refine WP.region ?_
    refine Ops.y (v := .int .i64 _) (Y.move rfl) ?_
    refine Ops.y (v := .int .i64 _) (Y.addi rfl rfl ⟨by omega, by omega⟩) ?_
    refine Ops.y (v := .int .i64 _) (Y.assign rfl) ?_
    refine Ops.nil ?_
    exact ⟨k + 1, ⟨⟨rfl, rfl, rfl, trivial⟩, I, by omega, fun j hj hj' => by
      rcases Nat.lt_succ_iff_lt_or_eq.1 hj with h' | rfl
      · exact hn j h' hj'
      · exact h4⟩, by omega⟩
  have hl : lkF f.xs (placeF x) = none := lkF_none.2 fun y hy => by obtain ⟨j, hj, rfl⟩ := List.getElem_of_mem hy; exact hn j (by omega) hj
  refine WP.exit ?_
  refine WP.seq ?_
  refine WP.region ?_
  refine Ops.y (v := .int .i64 _) (Y.assign rfl) ?_
  refine Ops.y (v := .bool _) (Y.assign rfl) ?_
  refine Ops.nil ?_
  refine WP.ret ?_
  repeat (first | refine thenE_ret ?_ | refine blockE_ret ?_)
  exact retQ.mk (vs := [.int .i64 _, .bool _]) rfl ⟨rfl, rfl, trivial⟩ I.ext_of (by simp only [tup, findF, hl]; rfl)
theorem Bsf_ok (B : Base) (hB : B.ok) (f : Sl Fct) (hf : Fcts f B.h) (hp : ∀ y ∈ f.xs, PF y) (hs : SrtF f.xs) (x : Fct) (hx : PF x) :
    Fn Tryz.prog 139 [f.val, x.val, .func (.func 107) #[] #[]] B (fun v _ => v = .tuple #[.int .i64 (posF f.xs x : Nat), .bool (isF f.xs x)]) := by
  have hsf := hf.small
  refine Fn.of Tryz.func139 rfl Tryz.ntmps139 (by kernel_rfl) (by simp) ?_
  intro e
  have I := Inv.start hB
  refine WP.seq ?_
  refine WP.region ?_
  refine Ops.go (O.box (v := .agg #[_, _, _, _]) I rfl rfl ?_)
  intro b4 w I
  refine Ops.y (v := .int .i64 _) (Y.assign rfl) ?_
  refine Ops.y (v := .bool _) (Y.assign rfl) ?_
  refine Ops.nil ?_
  refine WP.seq ?_
  refine WP.region ?_
  refine Ops.y (v := .slice _ _ _) (Y.move rfl) ?_
  refine Ops.y (v := .int .i64 _) (Y.lens Tryz.underlying26 rfl) ?_
  refine Ops.y (v := .int .i64 _) (Y.assign rfl) ?_
  refine Ops.nil ?_
  refine WP.seq ?_
  refine WP.region ?_
  refine Ops.y (v := .int .i64 _) (Y.move rfl) ?_
  refine Ops.y (v := .int .i64 _) (Y.assign rfl) ?_
  refine Ops.y (v := .int .i64 _) (Y.assign rfl) ?_
  refine Ops.nil ?_
  refine WP.seq ?_
  refine WP.block ?_
  refine WP.loopE (σ := Nat × Nat) (fun s => [(0, f.val), (2, .func (.func 107) #[] #[]), (4, .pointer (some ⟨b4, 0, none⟩)), (8, .int .i64 f.xs.length), (9, .int .i64 s.1), (10, .int .i64 s.2)])
    (fun s w => Inv B B.h [box b4 x.enc 52] w ∧ s.1 ≤ s.2 ∧ s.2 ≤ f.xs.length ∧ (∀ m, (h : m < f.xs.length) → m < s.1 → placeF f.xs[m] < placeF x) ∧ (∀ m, (h : m < f.xs.length) → s.2 ≤ m → ¬ placeF f.xs[m] < placeF x)) (fun s => s.2 - s.1)
    ⟨(0, f.xs.length), ⟨rfl, rfl, rfl, rfl, rfl, rfl, trivial⟩, I, Nat.zero_le _, Nat.le_refl _, fun m h hm => absurd hm (Nat.not_lt_zero _), fun m h hm => absurd h (Nat.not_lt.2 hm)⟩ ?_
  rintro ⟨i, j⟩ e w ⟨I, hij, hjn, hlo, hhi⟩
  dsimp only at I hij hjn hlo hhi ⊢
  refine WP.seq ?_
  refine WP.seq ?_
  refine WP.region ?_
  refine Ops.y (v := .int .i64 _) (Y.move rfl) ?_
  refine Ops.y (v := .int .i64 _) (Y.move rfl) ?_
  refine Ops.y (v := .bool (decide _)) (Y.lti rfl rfl) ?_
  refine Ops.nil ?_
  refine WP.cond_dec rfl (fun h => ?_) (fun h => ?_)
  · have hm : (i + j) / 2 < f.xs.length := by omega
    have E1 := hf.at hm
    have pm := hp _ (List.getElem_mem hm)
    refine WP.skip ?_
    refine WP.block ?_
    refine WP.seq ?_
    refine WP.region ?_
    refine Ops.y (v := .int .i64 _) (Y.move rfl) ?_
    refine Ops.y (v := .int .i64 _) (Y.move rfl) ?_
    refine Ops.y (v := .int .i64 _) (Y.addi rfl rfl ⟨by omega, by omega⟩) ?_
    refine Ops.y (v := .int .u64 _) (Y.conv (by rw [Tryz.underlying3]; rfl) Tryz.underlying207 (wrap_u64 (by omega) (by omega)) rfl) ?_
    refine Ops.y (v := .int .u64 _) (Y.half (by decide) rfl rfl) ?_
    refine Ops.y (v := .int .i64 _) (Y.conv (by rw [Tryz.underlying207]; rfl) Tryz.underlying3 (wrap_i64 ⟨by omega, by omega⟩) rfl) ?_
    refine Ops.y (v := .int .i64 _) (Y.assign rfl) ?_
    refine Ops.nil ?_
    refine WP.seq ?_
    refine WP.regionQ mixed I (by kernel_rfl) ?_
    refine OpsQ.y (v := .func _ _ _) (fun w I => Y.move rfl) ?_
    refine OpsQ.y (v := .slice _ _ _) (fun w I => Y.move rfl) ?_
    refine OpsQ.y (v := .int .i64 _) (fun w I => Y.move rfl) ?_
    refine OpsQ.y (v := .pointer (some ⟨_, _, none⟩)) (fun w I => Y.idxEl E1 Tryz.underlying26 Tryz.sizeOf52 rfl rfl (by omega) (by omega)) ?_
    refine OpsQ.y (v := .agg #[_, _, _, _]) (fun w I => Y.loadv ty_52 rfl (I.rd (E1.rd.part 0 4)) rfl rfl) ?_
    refine OpsQ.y (v := .agg #[_, _, _, _]) (fun w I => Y.loadv ty_52 rfl (I.rdbox 0 rfl 0 4) rfl rfl) ?_
    refine OpsQ.c (fun w I => QC.callcv I Tryz.call107 (fs := []) (cs := []) rfl (order_ok _ I.base_ok _ _) rfl) ?_
    refine OpsQ.y (v := .bool (decide _)) (fun w I => Y.lti rfl rfl) ?_
    refine OpsQ.nil ?_
    intro w I
    refine WP.cond_dec rfl (fun h5 => ?_) (fun h5 => ?_)
    · have hlt := (ordF_neg pm hx).1 h5
      refine WP.region ?_
      refine Ops.y (v := .int .i64 _) (Y.move rfl) ?_
      refine Ops.y (v := .int .i64 _) (Y.addi rfl rfl ⟨by omega, by omega⟩) ?_
      refine Ops.y (v := .int .i64 _) (Y.assign rfl) ?_
      refine Ops.nil ?_
      exact ⟨((i + j) / 2 + 1, j), ⟨⟨rfl, rfl, rfl, rfl, by simp only [E, upd]; congr 1, rfl, trivial⟩, I, by omega, hjn, fun m h hm' => by
        rcases Nat.lt_or_ge m ((i + j) / 2) with h' | h'
        · exact Int.lt_trans (hs.get h' hm) hlt
        · obtain rfl : m = (i + j) / 2 := by omega
          exact hlt, hhi⟩, by omega⟩
    have hge : ¬ placeF f.xs[(i + j) / 2] < placeF x := fun hh => h5 ((ordF_neg pm hx).2 hh)
    refine WP.region ?_
    refine Ops.y (v := .int .i64 _) (Y.move rfl) ?_
    refine Ops.y (v := .int .i64 _) (Y.assign rfl) ?_
    refine Ops.nil ?_
    exact ⟨(i, (i + j) / 2), ⟨⟨rfl, rfl, rfl, rfl, rfl, by simp only [E, upd]; congr 1, trivial⟩, I, by omega, by omega, hlo, fun m h hm' => by
        rcases Nat.lt_or_ge ((i + j) / 2) m with h' | h'
        · have := hs.get h' h; omega
        · obtain rfl : m = (i + j) / 2 := by omega
          exact hge⟩, by omega⟩
  obtain rfl : j = i := by omega
  have hpos : posF f.xs x = j := posF_of hjn (fun m h hm => hlo m h hm) (fun h => hhi j h (Nat.le_refl _))
  have hiff := isF_iff (x := x) hs
  by_cases o1 : (j : Int) < (f.xs.length : Int)
  · have E1 := hf.at (i := j) (by omega)
    have pm := hp f.xs[j] (List.getElem_mem _)
    refine WP.exit ?_
    refine WP.seq ?_
    refine WP.regionQ mixed I (by kernel_rfl) ?_
    refine OpsQ.y (v := .int .i64 _) (fun w I => Y.move rfl) ?_
    refine OpsQ.y (v := .int .i64 _) (fun w I => Y.move rfl) ?_
    refine OpsQ.y (v := .int .i64 _) (fun w I => Y.move rfl) ?_
    refine OpsQ.y (v := .bool true) (fun w I => Y.dec_t (Y.lti rfl rfl) (o1)) ?_
    refine OpsQ.y (v := .bool _) (fun w I => Y.move rfl) ?_
    refine OpsQ.ygt rfl (v := .func _ _ _) (fun w I => Y.move rfl) ?_
    refine OpsQ.ygt rfl (v := .slice _ _ _) (fun w I => Y.move rfl) ?_
    refine OpsQ.ygt rfl (v := .int .i64 _) (fun w I => Y.move rfl) ?_
    refine OpsQ.ygt rfl (v := .pointer (some ⟨_, _, none⟩)) (fun w I => Y.idxEl E1 Tryz.underlying26 Tryz.sizeOf52 rfl rfl (Int.natCast_nonneg _) rfl) ?_
    refine OpsQ.ygt rfl (v := .agg #[_, _, _, _]) (fun w I => Y.loadv ty_52 rfl (I.rd (E1.rd.part 0 4)) rfl rfl) ?_
    refine OpsQ.ygt rfl (v := .agg #[_, _, _, _]) (fun w I => Y.loadv ty_52 rfl (I.rdbox 0 rfl 0 4) rfl rfl) ?_
    refine OpsQ.cgt rfl (fun w I => QC.callcv I Tryz.call107 (fs := []) (cs := []) rfl (order_ok _ I.base_ok _ _) rfl) ?_
    refine OpsQ.ygt rfl (v := .bool (decide _)) (fun w I => Y.eqi rfl rfl) ?_
    refine OpsQ.y (v := .bool _) (fun w I => Y.pick_t rfl rfl) ?_
    refine OpsQ.y (v := .int .i64 _) (fun w I => Y.assign rfl) ?_
    refine OpsQ.y (v := .bool _) (fun w I => Y.assign rfl) ?_
    refine OpsQ.nil ?_
    intro w I
    have hb : isF f.xs x = decide (ordF f.xs[j] x = 0) := by
      rw [Bool.eq_iff_iff, hiff, decide_eq_true_eq, ordF_zero pm hx]; simp only [hpos]; exact ⟨fun ⟨_, hh⟩ => hh, fun hh => ⟨by omega, hh⟩⟩
    refine WP.ret ?_
    repeat (first | refine thenE_ret ?_ | refine blockE_ret ?_)
    exact retQ.mk (vs := [.int .i64 _, .bool _]) rfl ⟨rfl, rfl, trivial⟩ I.ext_of (by simp only [tup]; rw [hpos, hb])
  · refine WP.exit ?_
    refine WP.seq ?_
    refine WP.regionQ mixed I (by kernel_rfl) ?_
    refine OpsQ.y (v := .int .i64 _) (fun w I => Y.move rfl) ?_
    refine OpsQ.y (v := .int .i64 _) (fun w I => Y.move rfl) ?_
    refine OpsQ.y (v := .int .i64 _) (fun w I => Y.move rfl) ?_
    refine OpsQ.y (v := .bool false) (fun w I => Y.dec_f (Y.lti rfl rfl) (o1)) ?_
    refine OpsQ.y (v := .bool _) (fun w I => Y.move rfl) ?_
    refine OpsQ.gf rfl ?_
    refine OpsQ.gf rfl ?_
    refine OpsQ.gf rfl ?_
    refine OpsQ.gf rfl ?_
    refine OpsQ.gf rfl ?_
    refine OpsQ.gf rfl ?_
    refine OpsQ.gf rfl ?_
    refine OpsQ.gf rfl ?_
    refine OpsQ.y (v := .bool _) (fun w I => Y.pick_f rfl rfl) ?_
    refine OpsQ.y (v := .int .i64 _) (fun w I => Y.assign rfl) ?_
    refine OpsQ.y (v := .bool _) (fun w I => Y.assign rfl) ?_
    refine OpsQ.nil ?_
    intro w I
    have hb : isF f.xs x = false := by
      rw [Bool.eq_false_iff]; intro hh; obtain ⟨hh, _⟩ := hiff.1 hh; omega
    refine WP.ret ?_
    repeat (first | refine thenE_ret ?_ | refine blockE_ret ?_)
    exact retQ.mk (vs := [.int .i64 _, .bool _]) rfl ⟨rfl, rfl, trivial⟩ I.ext_of (by simp only [tup]; rw [hpos, hb])
theorem Seek_ok (B : Base) (hB : B.ok) (f : Sl Fct) (hf : Fcts f B.h) (hp : ∀ y ∈ f.xs, PF y) (hs : SrtF f.xs) (x : Fct) (hx : PF x) : Fn Tryz.prog 70 [f.val, x.val] B (fun v _ => v = .tuple #[.int .i64 (posF f.xs x : Nat), .bool (isF f.xs x)]) := by
  refine Fn.of Tryz.func70 rfl Tryz.ntmps70 (by kernel_rfl) (by simp) ?_
  intro e
  have I := Inv.start hB
  refine WP.seq ?_
  refine WP.region ?_
  refine Ops.go (O.box (v := .agg #[_, _, _, _]) I rfl rfl ?_)
  intro b3 w I
  refine Ops.y (v := .int .i64 _) (Y.assign rfl) ?_
  refine Ops.y (v := .bool _) (Y.assign rfl) ?_
  refine Ops.nil ?_
  refine WP.seq ?_
  refine WP.region ?_
  refine Ops.y (v := .slice _ _ _) (Y.move rfl) ?_
  refine Ops.y (v := .agg #[_, _, _, _]) (Y.loadv ty_52 rfl (I.rdbox 0 rfl 0 4) rfl rfl) ?_
  refine Ops.go (O.callv I Tryz.call139 (Bsf_ok _ I.base_ok f hf hp hs x hx) rfl ?_)
  intro w I
  refine Ops.y (v := .int .i64 _) (Y.extract rfl rfl) ?_
  refine Ops.y (v := .bool _) (Y.extract rfl rfl) ?_
  refine Ops.y (v := .int .i64 _) (Y.assign rfl) ?_
  refine Ops.y (v := .bool _) (Y.assign rfl) ?_
  refine Ops.nil ?_
  refine WP.ret ?_
  repeat (first | refine thenE_ret ?_ | refine blockE_ret ?_)
  exact retQ.mk (vs := [.int .i64 _, .bool _]) rfl ⟨rfl, rfl, trivial⟩ I.ext_of (rfl)
/-! ### Being under -/
theorem fine_kind {l : List Prd} {x : Fct} (h : factFine l x = true) : 0 ≤ (predOf l x.pred).kind ∧ (predOf l x.pred).kind ≤ 3 := by
  have := vOk_iff.1 (fine_iff.1 h).2.2.2.2.2; omega
theorem SameFacts_ok (B : Base) (hB : B.ok) (a b : Sl Fct) (ha : Fcts a B.h) (hb : Fcts b B.h) : Fn Tryz.prog 21 [a.val, b.val] B (fun v _ => v = .bool (decide (a.xs = b.xs))) := by
  have hsa := ha.small
  have hsb := hb.small
  refine Fn.of Tryz.func21 rfl Tryz.ntmps21 (by kernel_rfl) (by simp) ?_
  intro e
  have I := Inv.start hB
  refine WP.seq ?_
  refine WP.region ?_
  refine Ops.y (v := .bool _) (Y.assign rfl) ?_
  refine Ops.nil ?_
  refine WP.seq ?_
  refine WP.seq ?_
  refine WP.region ?_
  refine Ops.y (v := .slice _ _ _) (Y.move rfl) ?_
  refine Ops.y (v := .int .i64 _) (Y.lens Tryz.underlying26 rfl) ?_
  refine Ops.y (v := .slice _ _ _) (Y.move rfl) ?_
  refine Ops.y (v := .int .i64 _) (Y.lens Tryz.underlying26 rfl) ?_
  refine Ops.y (v := .bool (decide _)) (Y.nei rfl rfl) ?_
  refine Ops.nil ?_
  refine WP.cond_dec rfl (fun h1 => ?_) (fun h1 => ?_)
  · refine WP.seq ?_
    refine WP.region ?_
    refine Ops.y (v := .bool _) (Y.assign rfl) ?_
    refine Ops.nil ?_
    refine WP.ret ?_
    repeat (first | refine thenE_ret ?_ | refine blockE_ret ?_)
    exact retQ.mk (vs := [.bool _]) rfl ⟨rfl, trivial⟩ I.ext_of (by simp only [tup]; rw [decide_eq_false (fun e => h1 (by rw [e]))])
  refine WP.skip ?_
  refine WP.seq ?_
  refine WP.seq ?_
  refine WP.region ?_
  refine Ops.y (v := .int .i64 _) (Y.assign rfl) ?_
  refine Ops.nil ?_
  refine WP.block ?_
  refine WP.loopE (σ := Nat) (fun k => [(0, a.val), (1, b.val), (5, .int .i64 k)]) (fun k w => Inv B B.h [] w ∧ k ≤ a.xs.length ∧ ∀ j, j < k → a.xs[j]? = b.xs[j]?) (fun k => a.xs.length - k)
    ⟨0, ⟨rfl, rfl, rfl, trivial⟩, I, Nat.zero_le _, fun j hj => by omega⟩ ?_
  rintro k e w ⟨I, hk, hn⟩
  refine WP.seq ?_
  refine WP.seq ?_
  refine WP.region ?_
  refine Ops.y (v := .int .i64 _) (Y.move rfl) ?_
  refine Ops.y (v := .slice _ _ _) (Y.move rfl) ?_
  refine Ops.y (v := .int .i64 _) (Y.lens Tryz.underlying26 rfl) ?_
  refine Ops.y (v := .bool (decide _)) (Y.lti rfl rfl) ?_
  refine Ops.nil ?_
  refine WP.cond_dec rfl (fun h4 => ?_) (fun h4 => ?_)
  · have hk' : k < a.xs.length := by omega
    have hkb : k < b.xs.length := by omega
    have E1 := ha.at hk'
    have E2 := hb.at hkb
    refine WP.skip ?_
    refine WP.seq ?_
    refine WP.block ?_
    refine WP.seq ?_
    refine WP.regionQ mixed I (by kernel_rfl) ?_
    refine OpsQ.y (v := .slice _ _ _) (fun w I => Y.move rfl) ?_
    refine OpsQ.y (v := .int .i64 _) (fun w I => Y.move rfl) ?_
    refine OpsQ.y (v := .pointer (some ⟨_, _, none⟩)) (fun w I => Y.idxEl E1 Tryz.underlying26 Tryz.sizeOf52 rfl rfl (Int.natCast_nonneg _) rfl) ?_
    refine OpsQ.y (v := .agg #[_, _, _, _]) (fun w I => Y.loadv ty_52 rfl (I.rd (E1.rd.part 0 4)) rfl rfl) ?_
    refine OpsQ.y (v := .slice _ _ _) (fun w I => Y.move rfl) ?_
    refine OpsQ.y (v := .int .i64 _) (fun w I => Y.move rfl) ?_
    refine OpsQ.y (v := .pointer (some ⟨_, _, none⟩)) (fun w I => Y.idxEl E2 Tryz.underlying26 Tryz.sizeOf52 rfl rfl (Int.natCast_nonneg _) rfl) ?_
    refine OpsQ.y (v := .agg #[_, _, _, _]) (fun w I => Y.loadv ty_52 rfl (I.rd (E2.rd.part 0 4)) rfl rfl) ?_
    refine OpsQ.y (v := .bool _) (fun w I => Y.nest Tryz.eqGuardType52 (eq_52 _ _ _ _ _ _ _ _) rfl rfl) ?_
    refine OpsQ.nil ?_
    intro w I
    refine WP.cond rfl (fun h6 => ?_) (fun h6 => ?_)
    · refine WP.seq ?_
      refine WP.region ?_
      refine Ops.y (v := .bool _) (Y.assign rfl) ?_
      refine Ops.nil ?_
      have hne : a.xs ≠ b.xs := fun e => by
        have he : a.xs[k] = b.xs[k] := by simp only [e]
        simp [he] at h6
      refine WP.ret ?_
      repeat (first | refine thenE_ret ?_ | refine blockE_ret ?_)
      exact retQ.mk (vs := [.bool _]) rfl ⟨rfl, trivial⟩ I.ext_of (by simp only [tup]; rw [decide_eq_false hne])
    refine WP.skip ?_
    refine WP.region ?_
    refine Ops.y (v := .int .i64 _) (Y.move rfl) ?_
    refine Ops.y (v := .int .i64 _) (Y.addi rfl rfl ⟨by omega, by omega⟩) ?_
    refine Ops.y (v := .int .i64 _) (Y.assign rfl) ?_
    refine Ops.nil ?_
    exact ⟨k + 1, ⟨⟨rfl, rfl, rfl, trivial⟩, I, hk', fun j hj => by
      rcases Nat.lt_succ_iff_lt_or_eq.1 hj with h' | rfl
      · exact hn j h'
      · rw [List.getElem?_eq_getElem hk', List.getElem?_eq_getElem hkb]
        congr 1
        simp only [Bool.not_eq_false', Bool.and_eq_true, beq_iff_eq] at h6
        obtain ⟨e1, e2, e3, e4, _⟩ := h6
        generalize a.xs[j] = u at *
        generalize b.xs[j] = v at *
        cases u; cases v; simp_all⟩, by omega⟩
  have hab : a.xs = b.xs := List.ext_getElem? fun j => by
    rcases Nat.lt_or_ge j k with h' | h'
    · exact hn j h'
    · rw [List.getElem?_eq_none (by omega), List.getElem?_eq_none (by omega)]
  refine WP.exit ?_
  refine WP.seq ?_
  refine WP.region ?_
  refine Ops.y (v := .bool _) (Y.assign rfl) ?_
  refine Ops.nil ?_
  refine WP.ret ?_
  repeat (first | refine thenE_ret ?_ | refine blockE_ret ?_)
  exact retQ.mk (vs := [.bool _]) rfl ⟨rfl, trivial⟩ I.ext_of (by simp only [tup]; rw [decide_eq_true hab])
end Go.TF
end
