/- Texts Base29 Txp4 Txr2 Txr3 Txr4 SpTxt4 Txp9 Txq1 SpRoads Txq2 SpDec. -/
import Derived.Test.YtljkkojkfddpeaaGreatDoorU2
import Derived.Test.YtljkkojkfddpeaaGreatDoorU4
import Derived.RecoverIn
import Derived.Test.YtljkkojkfddpeaaGreatDoorU7
import Derived.Lib.IndexMore
import Derived.Laws.Pointers
import Derived.Tactics2
import Derived.TacticsInMore
import Derived.RegionIn
import Derived.Test.YtljkkojkfddpeaaGreatDoorU6
import Derived.Test.YtljkkojkfddpeaaGreatDoorU3
import Derived.KernelRfl
section
/- Ranges over functions whose rounds may panic, under a deferred call that recovers. -/
namespace Go.TF
open Go Go.RowKit

/-! ### A call of yield that may panic -/
def Op1Y (P : Program) (X : PX) (o : Oper) (e : Env) (w : World) (K : Value → World → Prop) : Prop :=
  Op1P P X o e w K ∨ ∃ l f tmps assign body w', (execOp (ev e) o).run P w = .ok (.round l f tmps assign body) w' ∧ RoundIn Fence.wide 0 P l f tmps assign body w' fun | .returned v, w'' => K v w'' | .panicked ch, w'' => X ch w'' | _, _ => False
def OpsY (P : Program) (X : PX) (full : Array Oper) : List Oper → Env → World → (Env → World → Prop) → Prop
  | [], e, w, K => K e w
  | o :: rest, e, w, K => if runs full e o then Op1Y P X o e w (fun v w' => OpsY P X full rest (updo e o.dst v) w' K) else OpsY P X full rest (updo e o.dst undef) w K
theorem uponIn_of_Op1P {P : Program} {X : PX} {F : Fence} {o : Oper} {a : Act} {w : World} {next : Act → World → Prop} {Q : Exit → Act → World → Prop} (hfn : ∀ f, F.fn f) (hdep : F.depth = none) (hal : ∀ f args w R, Calls P f args w R → CallsIn F (0 - 1) P f args w R)
    (hnd : ∀ c, o.op ≠ .defer c) (hX : ∀ ch w', X ch w' → Q (.panic ch) a w') (h : Op1P P X o (env a) w fun v w' => next (a.put o.dst v) w') : o.wpIn F 0 P a w next Q := by
  refine ⟨fun f _ => hfn f, ?_⟩
  rw [Oper.semAt_eq _ _ _ hnd, eval_env]
  unfold Op1P at h
  generalize (execOp (ev (env a)) o).run P w = r at *
  cases r with
  | ok n w' =>
    cases n <;> simp only at h <;> first | exact h.elim | exact h | skip
    refine ⟨(fun hd => by rw [hdep] at hd; cases hd), (hal _ _ _ _ h).mono fun e w'' he => ?_⟩
    cases e <;> first | exact he | exact hX _ _ he | exact he.elim
  | halt x w' => cases x <;> simp only at h <;> first | exact h.elim | exact hX _ _ h
theorem OpsY.sound {P : Program} {X : PX} {ops : Array Oper} {Q : Exit → Act → World → Prop} {N : Nat} {D : List Deferred} (hX : ∀ a ch w', a.tmps.size = N → a.defers = D → X ch w' → Q (.panic ch) a w') (hds : dstsOk N ops.toList = true) (hnd : noDefer ops.toList = true) : ∀ (n k : Nat) (a : Act) (w : World) (K : Env → World → Prop),
    k + n = ops.size → a.tmps.size = N → a.defers = D → (∀ a' w', a'.tmps.size = N → a'.defers = D → K (env a') w' → Q .normal a' w') → OpsY P X ops (ops.toList.drop k) (env a) w K → wpOpsIn Fence.wide 0 P ops Q (List.range' k n) a w
  | 0, k, a, w, K, hk, hs, hd, hK, h => by
    rw [List.drop_eq_nil_of_le (by simp; omega)] at h
    exact hK _ _ hs hd h
  | n + 1, k, a, w, K, hk, hs, hd, hK, h => by
    obtain ⟨o, ho, hdr⟩ := drop_cons hk
    have hmem : o ∈ ops.toList := by have := Array.mem_of_getElem? ho; simpa using this
    have hdo : o.dst.all (· < N) = true := (List.all_eq_true.1 hds) o hmem
    have hno : ∀ c, o.op ≠ .defer c := fun c e => by have := (List.all_eq_true.1 hnd) o hmem; simp [e] at this
    have hput : ∀ v, env (a.put o.dst v) = updo (env a) o.dst v := fun v => env_puto a o.dst v (by rw [hs]; exact hdo)
    rw [hdr] at h
    simp only [List.range'_succ, wpOpsIn, ho, wanted_env]
    simp only [OpsY] at h
    split
    · rename_i hr
      rw [if_pos hr] at h
      have step : ∀ v w', OpsY P X ops (ops.toList.drop (k + 1)) (updo (env a) o.dst v) w' K → wpOpsIn Fence.wide 0 P ops Q (List.range' (k + 1) n) (a.put o.dst v) w' := fun v w' hh =>
        OpsY.sound hX hds hnd n (k + 1) _ _ K (by omega) (by rw [size_put, hs]) (by rw [defers_put, hd]) hK (by rw [hput]; exact hh)
      rcases h with h | ⟨l, f, tmps, assign, body, w', hrun, hround⟩
      · exact uponIn_of_Op1P (fun _ => trivial) rfl (fun _ _ _ _ h => calls_wide _ h) hno (fun ch w' => hX a ch w' hs hd) (h.mono step)
      · refine ⟨fun _ _ => trivial, ?_⟩
        rw [Oper.semAt_eq _ _ _ hno, eval_env, hrun]
        refine ⟨(fun hd => by cases hd), hround.mono fun e w'' he => ?_⟩
        cases e <;> first | exact step _ _ he | exact hX a _ _ hs hd he | exact he.elim
    · rename_i hr
      rw [if_neg hr] at h
      exact ⟨fun _ _ => trivial, OpsY.sound hX hds hnd n (k + 1) _ _ K (by omega) (by rw [size_put, hs]) (by rw [defers_put, hd]) hK (by rw [hput]; exact h)⟩
theorem WP.regionY {P : Program} {N : Nat} {D : List Deferred} {e : Env} {w : World} {Q : Exit → Env → World → Prop} {id : Nat} {ops : Array Oper} (X : PX) (hX : ∀ e ch w', X ch w' → Q (.panic ch) e w') (hnd : noDefer ops.toList = true)
    (h : OpsY P X ops ops.toList e w (fun e' w' => Q .normal e' w')) : WP P N D (.region id ops false) e w Q := by
  intro hs a h1 h2 h3
  subst h3
  refine (wpIn_wide (n := 0)).1 (wpIn_region ?_)
  rw [List.range_eq_range']
  exact OpsY.sound (fun a ch w' g1 g2 g3 => ⟨g1, g2, hX _ _ _ g3⟩) hs hnd _ 0 a w _ (by omega) h1 h2 (fun _ _ g1 g2 g3 => ⟨g1, g2, g3⟩) h
section
variable {P : Program} {X : PX} {full : Array Oper} {rest : List Oper} {e : Env} {w : World} {K : Env → World → Prop}
theorem OpsY.nil (h : K e w) : OpsY P X full [] e w K := h
theorem OpsY.p {d : Option Nat} {op : Op} {t : TypeId} {pos : String} {af : Array Edge} (h : Op1P P X ⟨d, op, t, pos, af, none⟩ e w (fun v w' => OpsY P X full rest (updo e d v) w' K)) :
    OpsY P X full (⟨d, op, t, pos, af, none⟩ :: rest) e w K := by simp only [OpsY, runs, if_true]; exact .inl h
theorem OpsY.go {d : Option Nat} {op : Op} {t : TypeId} {pos : String} {af : Array Edge} (h : Op1 P ⟨d, op, t, pos, af, none⟩ e w (fun v w' => OpsY P X full rest (updo e d v) w' K)) :
    OpsY P X full (⟨d, op, t, pos, af, none⟩ :: rest) e w K := OpsY.p (.of h)
theorem OpsY.y {d : Nat} {op : Op} {t : TypeId} {pos : String} {af : Array Edge} {v : Value} (hy : Y P ⟨some d, op, t, pos, af, none⟩ e w v) (h : OpsY P X full rest (upd e d v) w K) :
    OpsY P X full (⟨some d, op, t, pos, af, none⟩ :: rest) e w K := OpsY.go (by unfold Op1; rw [hy]; exact h)
theorem OpsY.yield {d : Option Nat} {x : Operand} {l : Nat} {args : Array Operand} {ts : Array TypeId} {vs : List Value} {t : TypeId} {pos : String} {af : Array Edge} {R : Ending → World → Prop} (hx : ev e x = .func (.yield l) #[] #[]) (ha : args.toList.map (ev e) = vs)
    (hy : YieldAt Fence.wide 0 P l vs.toArray w R) (k : ∀ ed w', R ed w' → (∃ v, ed = .returned v ∧ OpsY P X full rest (updo e d v) w' K) ∨ ∃ ch, ed = .panicked ch ∧ X ch w') :
    OpsY P X full (⟨d, .call { callee := .value x, args := args, argTypes := ts }, t, pos, af, none⟩ :: rest) e w K := by
  have ha' : args.map (ev e) = vs.toArray := by rw [← ha]; apply Array.ext'; simp
  obtain ⟨fn, tmps, assign, body, hrun, hR⟩ := hy
  simp only [OpsY, runs, if_true]
  refine .inr ⟨l, fn, tmps, assign, body, w, ?_, hR.mono fun ed w' hh => ?_⟩
  · simp only [execOp, resolve, hx, Deferred.ofValue]
    simp [invoke, ha', hrun]
  · rcases k ed w' hh with ⟨v, rfl, hk⟩ | ⟨ch, rfl, hk⟩
    · exact hk
    · exact hk
end

/-! ### A round that may panic -/
def roundPostP (P : Program) (l : Nat) (R : Ending → World → Prop) : Exit → Act → World → Prop
  | .panic ch, a, w => a.defers = [] ∧ R (.panicked ch) w
  | x, a, w => roundPost P l R x a w
theorem roundIn_of_wpInP {P : Program} {l : Nat} {f : FuncId} {tmps : Array Value} {assign body : Code} {w : World} {R : Ending → World → Prop} (hf : ∃ fn, P.funcs[f]? = some fn)
    (h : assign.wpIn (Fence.wide.inRound l) 0 P (Exit.then (fun a₁ w₁ => ∃ w₂, (Instr.beginRound l).run P w₁ = .ok () w₂ ∧ body.wpIn (Fence.wide.inRound l) 0 P (roundPostP P l R) a₁ w₂) (fun _ _ _ => False))
      { tmps := tmps, defers := [] } w) :
    RoundIn Fence.wide 0 P l f tmps assign body w R := by
  have hF : Fence.wide.fn f := trivial
  refine ⟨hF, fun c cs hr => ?_⟩
  let b : Frame := { (default : Frame) with fn := f, kind := .normal, roundOf := some l }
  have hb0 : Frame.round l f tmps assign body .normal = b.atR { tmps := tmps, defers := [] } [.code assign, .beginRound, .code body] := by
    simp [Frame.round, Frame.atR, b]
  have hr' : (Fence.wide.inRound l).room ((c :: cs).length + 1 + 0) := hr
  have hF' : (Fence.wide.inRound l).fn b.fn := hF
  obtain ⟨e, a₁, w₁, hq, harr⟩ := h b [.beginRound, .code body] (c :: cs) rfl hF' hr'
  rw [← hb0] at harr
  cases e with
  | normal =>
    obtain ⟨w₂, hbr, hbody⟩ := hq
    have s1 : StepsIn (Machine.fenced P (Fence.wide.inRound l)) P (lone (b.atR a₁ [.beginRound, .code body]) (c :: cs) w₁) (lone (b.atR a₁ [.code body]) (c :: cs) w₂) :=
      .one (fenced_calm (fr := b.atR a₁ [.beginRound, .code body]) hF' hr' rfl) (stepR_beginRound rfl hbr)
    obtain ⟨e₂, a₂, w₃, hq₂, harr₂⟩ := hbody b [] (c :: cs) rfl hF' hr'
    cases e₂ with
    | normal =>
      obtain ⟨v, w₄, hend, hR⟩ := hq₂
      exact ⟨.returned v, w₄, hR, (StepsIn.trans harr s1).trans (StepsIn.trans harr₂ (.one (fenced_calm (fr := b.atR a₂ []) hF' hr' rfl) (stepR_round_end rfl rfl hend)))⟩
    | ret =>
      obtain ⟨v, w₄, hend, hR⟩ := hq₂
      obtain ⟨k₁, hs⟩ := harr₂.2 rfl
      exact ⟨.returned v, w₄, hR, (StepsIn.trans harr s1).trans (StepsIn.trans hs (.one (fenced_calm (fr := b.atR a₂ (.code .ret :: k₁)) hF' hr' rfl) (stepR_round_ret rfl rfl hend)))⟩
    | exit id =>
      obtain ⟨v, w₄, hend, hR⟩ := hq₂
      obtain ⟨k₁, hk, hs⟩ := harr₂.2 rfl rfl
      exact ⟨.returned v, w₄, hR, (StepsIn.trans harr s1).trans (StepsIn.trans hs (.one (fenced_calm (fr := b.atR a₂ (.code (.exit id) :: k₁)) hF' hr' rfl) (stepR_round_exit rfl rfl hk hend)))⟩
    | goto t =>
      obtain ⟨v, w₄, hend, hR⟩ := hq₂
      obtain ⟨k₁, hk, hs⟩ := harr₂.2 rfl rfl
      exact ⟨.returned v, w₄, hR, (StepsIn.trans harr s1).trans (StepsIn.trans hs (.one (fenced_calm (fr := b.atR a₂ (.code (.goto t) :: k₁)) hF' hr' rfl) (stepR_round_goto rfl rfl hk hend)))⟩
    | panic chain =>
      obtain ⟨hd, hR⟩ := hq₂
      obtain ⟨todo, hs⟩ := harr₂
      have hleave : ({ b.atR a₂ todo with mode := .panicking chain } : Frame).leaving P w₃ (.panicked chain) := ⟨rfl, hd, hf⟩
      exact ⟨.panicked chain, w₃, hR, (StepsIn.trans harr s1).trans (StepsIn.trans hs (.one (fenced_leaving (fr := { b.atR a₂ todo with mode := .panicking chain }) hF' hr' hleave) (step_leave_panicked hleave)))⟩
    | outgrown => exact hq₂.elim
  | exit id => exact hq.elim
  | goto t => exact hq.elim
  | ret => exact hq.elim
  | panic chain => exact hq.elim
  | outgrown => exact hq.elim
theorem WPI.regionP {P : Program} {N l : Nat} {e : Env} {w : World} {Q : Exit → Env → World → Prop} {id : Nat} {ops : Array Oper} (X : PX) (hX : ∀ e ch w', X ch w' → Q (.panic ch) e w') (h : OpsP P X ops ops.toList e w (fun e' w' => Q .normal e' w')) (hnd : noDefer ops.toList = true := by kernel_rfl) : WPI P N l (.region id ops false) e w Q := by
  intro hs a h1 h2 h3
  subst h3
  refine wpIn_region ?_
  rw [List.range_eq_range']
  have key : ∀ (n k : Nat) (a : Act) (w : World), k + n = ops.size → a.tmps.size = N → a.defers = [] → OpsP P X ops (ops.toList.drop k) (env a) w (fun e' w' => Q .normal e' w') →
      wpOpsIn (Fence.wide.inRound l) 0 P ops (fun x a' w' => a'.tmps.size = N ∧ a'.defers = [] ∧ Q x (env a') w') (List.range' k n) a w := by
    intro n
    induction n with
    | zero =>
      intro k a w hk hs1 hd h
      rw [List.drop_eq_nil_of_le (by simp; omega)] at h
      exact ⟨hs1, hd, h⟩
    | succ n ih =>
      intro k a w hk hs1 hd h
      obtain ⟨o, ho, hdr⟩ := drop_cons hk
      have hmem : o ∈ ops.toList := by have := Array.mem_of_getElem? ho; simpa using this
      have hdo : o.dst.all (· < N) = true := (List.all_eq_true.1 hs) o hmem
      have hno : ∀ c, o.op ≠ .defer c := fun c e => by have := (List.all_eq_true.1 hnd) o hmem; simp [e] at this
      have hput : ∀ v, env (a.put o.dst v) = updo (env a) o.dst v := fun v => env_puto a o.dst v (by rw [hs1]; exact hdo)
      rw [hdr] at h
      simp only [List.range'_succ, wpOpsIn, ho, wanted_env]
      simp only [OpsP] at h
      have step : ∀ v w', OpsP P X ops (ops.toList.drop (k + 1)) (updo (env a) o.dst v) w' (fun e' w' => Q .normal e' w') → wpOpsIn (Fence.wide.inRound l) 0 P ops (fun x a' w' => a'.tmps.size = N ∧ a'.defers = [] ∧ Q x (env a') w') (List.range' (k + 1) n) (a.put o.dst v) w' := fun v w' hh =>
        ih (k + 1) _ _ (by omega) (by rw [size_put, hs1]) (by rw [defers_put, hd]) (by rw [hput]; exact hh)
      split
      · rename_i hr
        rw [if_pos hr] at h
        exact uponIn_of_Op1P (fun _ => trivial) rfl (fun _ _ _ _ h => (calls_wide _ h).inRound l) hno (fun ch w' hx => ⟨hs1, hd, hX _ _ _ hx⟩) (h.mono step)
      · rename_i hr
        rw [if_neg hr] at h
        exact ⟨fun _ _ => trivial, step _ _ h⟩
  exact key _ 0 a w (by omega) h1 h2 h

/-! ### Code of one function's activation -/
def wpF (P : Program) (f : FuncId) (c : Code) (Q : Exit → Act → World → Prop) (a : Act) (w : World) : Prop :=
  ∀ (b : Frame) (k : List Item) (cs : List Frame), b.roundOf = none → b.fn = f → ∃ e a' w', Q e a' w' ∧ ArrivesIn (Machine.fenced P Fence.wide) P (lone (b.atR a (.code c :: k)) cs w) b k cs e a' w'
section
variable {P : Program} {f : FuncId} {Q : Exit → Act → World → Prop} {a : Act} {w : World}
theorem wpF_of {c : Code} (h : c.wpIn Fence.wide 0 P Q a w) : wpF P f c Q a w := fun b k cs hr _ => h b k cs hr trivial (room_wide _)
theorem wpF_mono {c : Code} {Q' : Exit → Act → World → Prop} (h : wpF P f c Q a w) (hq : ∀ x a w, Q x a w → Q' x a w) : wpF P f c Q' a w := fun b k cs hr hf =>
  let ⟨e, a', w', q, r⟩ := h b k cs hr hf; ⟨e, a', w', hq _ _ _ q, r⟩
theorem wpF_seq {x y : Code} (h : wpF P f x (Exit.then (wpF P f y Q) Q) a w) : wpF P f (.seq x y) Q a w := by
  intro b k cs hr hf
  have i0 : (lone (b.atR a (.code (.seq x y) :: k)) cs w).fenced P Fence.wide := fenced_wide _ _
  obtain ⟨e, a₁, w₁, hq, harr⟩ := h b (.code y :: k) cs hr hf
  cases e with
  | normal =>
    obtain ⟨e₂, a₂, w₂, hq₂, harr₂⟩ := hq b k cs hr hf
    exact ⟨e₂, a₂, w₂, hq₂, .of_steps (.head i0 stepR_seq harr) harr₂⟩
  | exit id => exact ⟨_, a₁, w₁, hq, .of_steps (.one i0 stepR_seq) (.pass (x := .code y) rfl (fun _ _ => .inl (by simp)) harr)⟩
  | goto l => exact ⟨_, a₁, w₁, hq, .of_steps (.one i0 stepR_seq) (.pass (x := .code y) rfl (fun _ _ => .inl (by simp)) harr)⟩
  | ret => exact ⟨_, a₁, w₁, hq, .of_steps (.one i0 stepR_seq) (.pass (x := .code y) rfl (fun _ _ => .inl (by simp)) harr)⟩
  | panic ch => exact ⟨_, a₁, w₁, hq, .of_steps (.one i0 stepR_seq) (.pass (x := .code y) rfl (fun _ _ => .inl (by simp)) harr)⟩
  | outgrown => exact ⟨_, a₁, w₁, hq, .of_steps (.one i0 stepR_seq) (.pass (x := .code y) rfl (fun _ _ => .inl (by simp)) harr)⟩
theorem wpF_block {id : Nat} {c : Code} (h : wpF P f c (Exit.inBlock id Q) a w) : wpF P f (.block id c) Q a w := by
  intro b k cs hro hb
  have h0 : (lone (b.atR a (.code (.block id c) :: k)) cs w).fenced P Fence.wide := fenced_wide _ _
  obtain ⟨e, a₁, w₁, hq, harr⟩ := h b (.inBlock id :: k) cs hro hb
  cases e with
  | normal => exact ⟨.normal, a₁, w₁, hq, .head h0 stepR_block (StepsIn.trans harr (.one (fenced_wide _ _) stepR_inBlock))⟩
  | exit id' =>
    by_cases hid : id' = id
    · simp only [Exit.inBlock, hid, if_true] at hq
      exact ⟨.normal, a₁, w₁, hq, .head h0 stepR_block (harr.1 k (by simp [exitTo, hid]))⟩
    · simp only [Exit.inBlock, hid, if_false] at hq
      have this : (id == id') = false := by simp; exact fun h => hid h.symm
      have hx : exitTo id' (.inBlock id :: k) = exitTo id' k := by simp [exitTo, this]
      exact ⟨.exit id', a₁, w₁, hq, fun k' hk => .head h0 stepR_block (harr.1 k' (by rw [hx]; exact hk)),
        fun hr' hk => let ⟨k₁, h1, h2⟩ := harr.2 hr' (by rw [hx]; exact hk); ⟨k₁, h1, .head h0 stepR_block h2⟩⟩
  | goto l =>
    have hx : gotoIn l (.inBlock id :: k) = gotoIn l k := by simp [gotoIn]
    exact ⟨_, a₁, w₁, hq, fun k' hk => .head h0 stepR_block (harr.1 k' (by rw [hx]; exact hk)),
      fun hr' hk => let ⟨k₁, h1, h2⟩ := harr.2 hr' (by rw [hx]; exact hk); ⟨k₁, h1, .head h0 stepR_block h2⟩⟩
  | ret => exact ⟨_, a₁, w₁, hq, .of_steps (.one h0 stepR_block) harr⟩
  | panic ch => exact ⟨_, a₁, w₁, hq, .of_steps (.one h0 stepR_block) harr⟩
  | outgrown => exact ⟨_, a₁, w₁, hq, .of_steps (.one h0 stepR_block) harr⟩
theorem wpF_cond {c : Operand} {x y : Code} {t : Bool} (hc : a.eval c = .bool t) (h : wpF P f (if t then x else y) Q a w) : wpF P f (.cond c x y) Q a w :=
  fun b k cs hr hf => let ⟨e, a', w', q, r⟩ := h b k cs hr hf; ⟨e, a', w', q, .of_steps (.one (fenced_wide _ _) (stepR_cond hc)) r⟩
/-- The statement itself: what the kit says of a frame of any function, of a frame of this one. -/
theorem wpF_rangeFunc {g : Operand} {ps : Array Tmp} {assign body : Code}
    (h : ∃ (l : Nat) (mark : List Deferred) (w₁ : World) (d : Deferred) (w₁' : World) (f' : FuncId) (args : Array Value) (w₂ : World),
      (Instr.enterLoop f a.tmps ps assign body none).run P w = .ok (l, mark) w₁ ∧
      (resolve a.eval (rangeCall g l) 0).run P w₁ = .ok d w₁' ∧
      (invoke d.target d.args).run P w₁' = .ok (.enter f' args) w₂ ∧
      CallsIn Fence.wide 0 P f' args w₂ (fun | .returned _, w₃ => ∃ w₄, (Instr.endLoop l).run P w₃ = .ok none w₄ ∧ Q .normal { a with defers := mark ++ a.defers } w₄ | .panicked ch, w₃ => Q (.panic ch) { a with defers := mark ++ a.defers } w₃ | .outgrown, _ => False)) :
    wpF P f (.rangeFunc g ps assign body) Q a w := by
  intro b k cs hro hb
  obtain ⟨l, mark, w₁, d, w₁', f', args, w₂, he, hres, hinv, hF, hcall⟩ := h
  rw [← hro, ← hb] at he
  have h0 : (lone (b.atR a (.code (.rangeFunc g ps assign body) :: k)) cs w).fenced P Fence.wide := fenced_wide _ _
  have henter := stepR_rangeFunc (P := P) (b := b) (a := a) (k := k) (cs := cs) (w := w) he hres hinv
  obtain ⟨e, w₃, fr, hR, hsteps, hfn, hleave⟩ := hcall (b.atR { a with defers := mark ++ a.defers } (.inRangeFunc l :: k) :: cs) (room_wide _)
  cases e with
  | outgrown => exact hR.elim
  | returned v =>
    have hl : (lone fr (b.atR { a with defers := mark ++ a.defers } (.inRangeFunc l :: k) :: cs) w₃).fenced P Fence.wide := fenced_wide _ _
    obtain ⟨w₄, hend, hj⟩ := hR
    refine ⟨.normal, _, w₄, hj, .head h0 henter (StepsIn.trans hsteps (.head hl ?_ (.one (fenced_wide _ _) (stepR_endRangeFunc (k := k) hend))))⟩
    rw [← finish_atR_inRangeFunc l v]; exact step_leave_returned hleave
  | panicked chain =>
    have hl : (lone fr (b.atR { a with defers := mark ++ a.defers } (.inRangeFunc l :: k) :: cs) w₃).fenced P Fence.wide := fenced_wide _ _
    refine ⟨.panic chain, _, w₃, hR, .inRangeFunc l :: k, .head h0 henter (StepsIn.trans hsteps (.one hl ?_))⟩
    rw [← Frame.raise_atR]; exact step_leave_panicked hleave
end
def WPF (P : Program) (f : FuncId) (N : Nat) (D : List Deferred) (c : Code) (e : Env) (w : World) (Q : Exit → Env → World → List Deferred → Prop) : Prop :=
  slotsOk N c = true → ∀ a : Act, a.tmps.size = N → a.defers = D → env a = e → wpF P f c (fun x a' w' => a'.tmps.size = N ∧ Q x (env a') w' a'.defers) a w
section
variable {P : Program} {f : FuncId} {N : Nat} {D : List Deferred} {e : Env} {w : World} {Q : Exit → Env → World → List Deferred → Prop}
theorem WPF.ofD {c : Code} (h : WPD P N D c e w Q) : WPF P f N D c e w Q := fun hs a h1 h2 h3 => wpF_of (wpIn_wide.2 (h hs a h1 h2 h3))
theorem WPF.of {c : Code} (h : WP P N D c e w (fun x e' w' => Q x e' w' D)) : WPF P f N D c e w Q := WPF.ofD (WPD.of h)
theorem WPF.seq {x y : Code} (h : WPF P f N D x e w (thenD (fun e' w' D' => WPF P f N D' y e' w' Q) Q)) : WPF P f N D (.seq x y) e w Q := by
  intro hs a h1 h2 h3
  simp only [slotsOk, Bool.and_eq_true] at hs
  refine wpF_seq (wpF_mono (h hs.1 a h1 h2 h3) ?_)
  rintro x a' w' ⟨g1, g3⟩
  cases x <;> simp only [thenD] at g3 <;> first | exact ⟨g1, g3⟩ | exact g3 hs.2 a' g1 rfl rfl
theorem WPF.block {id : Nat} {c : Code} (h : WPF P f N D c e w (blockD id Q)) : WPF P f N D (.block id c) e w Q := by
  intro hs a h1 h2 h3
  refine wpF_block (wpF_mono (h hs a h1 h2 h3) ?_)
  rintro x a' w' ⟨g1, g3⟩
  cases x <;> simp only [blockD] at g3 <;> simp only [Exit.inBlock] <;> first | exact ⟨g1, g3⟩ | (split at g3 <;> rename_i hi <;> simp only [hi, if_true, if_false] <;> exact ⟨g1, g3⟩)
theorem WPF.cond {c : Operand} {x y : Code} {b : Bool} (hc : ev e c = .bool b) (ht : b = true → WPF P f N D x e w Q) (hf : b = false → WPF P f N D y e w Q) : WPF P f N D (.cond c x y) e w Q := by
  intro hs a h1 h2 h3
  simp only [slotsOk, Bool.and_eq_true] at hs
  have he : a.eval c = .bool b := by rw [eval_env, h3]; exact hc
  refine wpF_cond he ?_
  cases b
  · exact hf rfl hs.2 a h1 h2 h3
  · exact ht rfl hs.1 a h1 h2 h3
theorem WPF.cond_dec {c : Operand} {x y : Code} {p : Prop} [Decidable p] (hc : ev e c = .bool (decide p)) (ht : p → WPF P f N D x e w Q) (hf : ¬ p → WPF P f N D y e w Q) : WPF P f N D (.cond c x y) e w Q :=
  WPF.cond hc (fun h => ht (of_decide_eq_true h)) (fun h => hf (of_decide_eq_false h))
theorem WPF.skip (h : Q .normal e w D) : WPF P f N D .skip e w Q := WPF.ofD (WPD.skip h)
theorem WPF.ret (h : Q .ret e w D) : WPF P f N D .ret e w Q := WPF.ofD (WPD.ret h)
theorem WPF.region {id : Nat} {ops : Array Oper} (h : Ops P ops ops.toList e w (fun e' w' => Q .normal e' w' D)) : WPF P f N D (.region id ops false) e w Q := WPF.of (WP.region h)
theorem WPF.regionP {id : Nat} {ops : Array Oper} (X : PX) (hX : ∀ e ch w', X ch w' → Q (.panic ch) e w' D) (h : OpsP P X ops ops.toList e w (fun e' w' => Q .normal e' w' D)) : WPF P f N D (.region id ops false) e w Q := WPF.of (WP.regionP X hX h)
/-- A statement defer. -/
theorem WPF.deferR {id : Nat} {d1 : Nat} {op1 op2 : Op} {t1 t2 : TypeId} {p1 p2 : String} {a1 a2 : Array Edge} {v : Value} {dd : Deferred} (hy : Y P ⟨some d1, op1, t1, p1, a1, none⟩ e w v)
    (hd : (execOp (ev (upd e d1 v)) ⟨none, op2, t2, p2, a2, none⟩).run P w = .ok (.defer dd) w) (h : Q .normal (upd e d1 v) w (dd :: D)) : WPF P f N D (.region id #[⟨some d1, op1, t1, p1, a1, none⟩, ⟨none, op2, t2, p2, a2, none⟩] false) e w Q := by
  refine WPF.ofD ?_
  intro hs a h1 h2 h3
  subst h3
  refine wp_region_list ?_
  have hd1 : d1 < N := by
    have := hs
    simp [slotsOk, dstsOk] at this
    exact this
  have hput : env (a.put (some d1) v) = upd (env a) d1 v := env_puto a (some d1) v (by rw [h1]; simpa using hd1)
  simp only [wpList, wanted_env, runs, if_true]
  refine .inl ?_
  unfold Oper.wp
  rw [eval_env]
  unfold Y at hy
  rw [hy, Oper.upon_value]
  refine .inl ?_
  rw [eval_env, hput, hd, Oper.upon_defer]
  refine ⟨by rw [size_put]; show (a.put (some d1) v).tmps.size = N; rw [size_put, h1], ?_⟩
  have e1 : env (({ a.put (some d1) v with defers := dd :: (a.put (some d1) v).defers } : Act).put none undef) = upd (env a) d1 v := hput
  have e2 : (({ a.put (some d1) v with defers := dd :: (a.put (some d1) v).defers } : Act).put none undef).defers = dd :: D := by
    show dd :: (a.put (some d1) v).defers = _
    rw [defers_put, h2]
  rw [e1, e2]
  exact h
end
/-! ### A region in the order of the text; what a panic tells may look at the slots -/
def OpsE (P : Program) (X : Env → PX) (full : Array Oper) : List Oper → Env → World → (Env → World → Prop) → Prop
  | [], e, w, K => K e w
  | o :: rest, e, w, K => if runs full e o then Op1P P (X e) o e w (fun v w' => OpsE P X full rest (updo e o.dst v) w' K) else OpsE P X full rest (updo e o.dst undef) w K
theorem OpsE.sound {P : Program} {X : Env → PX} {full : Array Oper} {Q : Exit → Act → World → Prop} {N : Nat} {D : List Deferred} (hX : ∀ a ch w', a.tmps.size = N → a.defers = D → X (env a) ch w' → Q (.panic ch) a w') : ∀ (l : List Oper) (a : Act) (w : World) (K : Env → World → Prop),
    dstsOk N l = true → a.tmps.size = N → a.defers = D → (∀ a' w', a'.tmps.size = N → a'.defers = D → K (env a') w' → Q .normal a' w') → OpsE P X full l (env a) w K → wpList P full Q l a w
  | [], a, w, K, _, hs, hd, hK, h => by simp only [OpsE] at h; exact hK _ _ hs hd h
  | o :: rest, a, w, K, hds, hs, hd, hK, h => by
    simp only [dstsOk, List.all_cons, Bool.and_eq_true] at hds
    have hput : ∀ v, env (a.put o.dst v) = updo (env a) o.dst v := fun v => env_puto a o.dst v (by rw [hs]; exact hds.1)
    simp only [wpList, wanted_env]
    simp only [OpsE] at h
    split
    · rename_i hr
      rw [if_pos hr] at h
      refine .inl (wp_of_Op1P (fun ch w' => hX a ch w' hs hd) (h.mono fun v w' hh => ?_))
      rw [← hput] at hh
      exact OpsE.sound hX rest _ _ K hds.2 (by rw [size_put, hs]) (by rw [defers_put, hd]) hK hh
    · rename_i hr
      rw [if_neg hr] at h
      rw [← hput] at h
      exact OpsE.sound hX rest _ _ K hds.2 (by rw [size_put, hs]) (by rw [defers_put, hd]) hK h
theorem WP.regionE {P : Program} {N : Nat} {D : List Deferred} {e : Env} {w : World} {Q : Exit → Env → World → Prop} {id : Nat} {ops : Array Oper} (X : Env → PX) (hX : ∀ e ch w', X e ch w' → Q (.panic ch) e w') (h : OpsE P X ops ops.toList e w (fun e' w' => Q .normal e' w')) : WP P N D (.region id ops false) e w Q := by
  intro hs a h1 h2 h3
  subst h3
  exact wp_region_list (OpsE.sound (fun a ch w' g1 g2 g3 => ⟨g1, g2, hX _ _ _ g3⟩) _ a w _ hs h1 h2 (fun _ _ g1 g2 g3 => ⟨g1, g2, g3⟩) h)
theorem WPF.regionE {P : Program} {f : FuncId} {N : Nat} {D : List Deferred} {e : Env} {w : World} {Q : Exit → Env → World → List Deferred → Prop} {id : Nat} {ops : Array Oper} (X : Env → PX) (hX : ∀ e ch w', X e ch w' → Q (.panic ch) e w' D) (h : OpsE P X ops ops.toList e w (fun e' w' => Q .normal e' w' D)) : WPF P f N D (.region id ops false) e w Q := WPF.of (WP.regionE X hX h)
section
variable {P : Program} {X : Env → PX} {full : Array Oper} {rest : List Oper} {e : Env} {w : World} {K : Env → World → Prop}
theorem OpsE.nil (h : K e w) : OpsE P X full [] e w K := h
theorem OpsE.p {d : Option Nat} {op : Op} {t : TypeId} {pos : String} {af : Array Edge} (h : Op1P P (X e) ⟨d, op, t, pos, af, none⟩ e w (fun v w' => OpsE P X full rest (updo e d v) w' K)) :
    OpsE P X full (⟨d, op, t, pos, af, none⟩ :: rest) e w K := by simpa [OpsE, runs] using h
theorem OpsE.go {d : Option Nat} {op : Op} {t : TypeId} {pos : String} {af : Array Edge} (h : Op1 P ⟨d, op, t, pos, af, none⟩ e w (fun v w' => OpsE P X full rest (updo e d v) w' K)) :
    OpsE P X full (⟨d, op, t, pos, af, none⟩ :: rest) e w K := OpsE.p (.of h)
theorem OpsE.y {d : Nat} {op : Op} {t : TypeId} {pos : String} {af : Array Edge} {v : Value} (hy : Y P ⟨some d, op, t, pos, af, none⟩ e w v) (h : OpsE P X full rest (upd e d v) w K) :
    OpsE P X full (⟨some d, op, t, pos, af, none⟩ :: rest) e w K := OpsE.go (by unfold Op1; rw [hy]; exact h)
theorem OpsE.gt {d : Option Nat} {op : Op} {t : TypeId} {pos : String} {af : Array Edge} {j : Nat} {b : Bool} (hg : yieldE full e j = some b) (h : Op1 P ⟨d, op, t, pos, af, some (j, b)⟩ e w (fun v w' => OpsE P X full rest (updo e d v) w' K)) :
    OpsE P X full (⟨d, op, t, pos, af, some (j, b)⟩ :: rest) e w K := by
  have h' := Op1P.of (X := X e) h
  simpa [OpsE, runs, hg] using h'
theorem OpsE.ygt {d : Nat} {op : Op} {t : TypeId} {pos : String} {af : Array Edge} {v : Value} {j : Nat} {b : Bool} (hg : yieldE full e j = some b) (hy : Y P ⟨some d, op, t, pos, af, some (j, b)⟩ e w v) (h : OpsE P X full rest (upd e d v) w K) :
    OpsE P X full (⟨some d, op, t, pos, af, some (j, b)⟩ :: rest) e w K := OpsE.gt hg (by unfold Op1; rw [hy]; exact h)
theorem OpsE.gf {d : Option Nat} {op : Op} {t : TypeId} {pos : String} {af : Array Edge} {j : Nat} {b : Bool} (hg : (yieldE full e j == some b) = false) (h : OpsE P X full rest (updo e d undef) w K) :
    OpsE P X full (⟨d, op, t, pos, af, some (j, b)⟩ :: rest) e w K := by simpa [OpsE, runs, hg] using h
end
/-! ### The range -/
/-- An iterator that owns something: it hands xs to yield, one behind the other. -/
def IterP {α : Type} (P : Program) (g : FuncId) (lb : List Value) (encs : α → List Value) (xs : List α) (own : SA) : Prop :=
  ∀ {σ : Type} (l : Nat) (B : Base) (h : Heap) (U : σ → List SA) (Jc : Nat → Heap → σ → Prop) (Xp : PX) (W : World) (s0 : σ), Inv B h (own :: U s0) W → Jc 0 h s0 → (∀ k s hg hg', hg.le hg' → Jc k hg s → Jc k hg' s) →
    (∀ k hg x s X W, xs[k]? = some x → h.le hg → Inv B hg (X ++ U s) W → Jc k hg s → YieldAt Fence.wide 0 P l (encs x).toArray W fun ed W' => (ed = .returned (.bool true) ∧ ∃ h2 s', hg.le h2 ∧ Inv B h2 (X ++ U s') W' ∧ Jc (k + 1) h2 s') ∨ ∃ ch, ed = .panicked ch ∧ Xp ch W') →
    Calls P g (#[.func (.yield l) #[] #[]] ++ lb.toArray) W fun ed W' => ((∃ v, ed = .returned v) ∧ ∃ h2 s', h.le h2 ∧ Inv B h2 (U s') W' ∧ Jc xs.length h2 s') ∨ ∃ ch, ed = .panicked ch ∧ Xp ch W'
def roundQP (B : Base) (hg : Heap) {σ : Type} (X : List SA) (U : σ → List SA) (T : List SA) (Jn : Heap → σ → Prop) (Xp : PX) : Exit → Env → World → Prop
  | .normal, _, W => ∃ h2 s Z, hg.le h2 ∧ Inv B h2 (Z ++ (X ++ (U s ++ T))) W ∧ Jn h2 s
  | .panic ch, _, W => Xp ch W
  | _, _, _ => False
theorem WPF.rangeFunc {α σ : Type} {P : Program} {f : FuncId} {N : Nat} {e : Env} {w : World} {Q : Exit → Env → World → List Deferred → Prop} {D0 : List Deferred} {B : Base} {h : Heap} {g : Operand} {ps : Array Tmp} {assign body : Code} {gf : FuncId} {lb : List Value}
    {encs : α → List Value} {xs : List α} {own : SA} (hfn : ∃ fn, P.funcs[f]? = some fn) (U : σ → List SA) (Jc : Nat → Heap → σ → Prop) (Xp : Nat → PX) (s0 : σ) (I : Inv B h (own :: U s0) w) (j0 : Jc 0 h s0) (mono : ∀ k s hg hg', hg.le hg' → Jc k hg s → Jc k hg' s)
    (hg : ev e g = .func (.func gf) #[] lb.toArray) (eg : Enters P gf) (it : IterP P gf lb encs xs own) (hps : ∀ x, (encs x).length = ps.size) (hpN : ps.toList.all (· < N) = true) (hsa : slotsOk N assign = true) (hsb : slotsOk N body = true)
    (round : ∀ (l D : Nat) (r : Loop) (hg : Heap) (k : Nat) (x : α) (s : σ) (X : List SA) (W : World), xs[k]? = some x → h.le hg → Inv B hg (X ++ (U s ++ [loopSA l r, markSA D])) W → Jc k hg s →
      WPI P N l assign (argE e (ps.toList.zip (encs x))) W (thenE (fun e1 W1 => ∃ h1, hg.le h1 ∧ Inv B h1 (X ++ (U s ++ [loopSA l r, markSA D])) W1 ∧
        ∀ r' W2, Inv B h1 (X ++ (U s ++ [loopSA l r', markSA D])) W2 → WPI P N l body e1 W2 (roundQP B h1 X U [loopSA l r', markSA D] (Jc (k + 1)) (Xp D))) (fun _ _ _ => False)))
    (hdone : ∀ D h2 s W, h.le h2 → Inv B h2 (U s ++ [markSA D]) W → Jc xs.length h2 s → Q .normal e W (mark D :: D0))
    (hpan : ∀ D ch W, Xp D ch W → Q (.panic ch) e W (mark D :: D0)) :
    WPF P f N D0 (.rangeFunc g ps assign body) e w Q := by
  intro _ a h1 h2 h3
  subst h3
  refine wpF_rangeFunc ?_
  obtain ⟨rec, hrec⟩ : ∃ rec : LoopState → Option Code → Loop, rec = fun st pe => { state := st, pending := pe, fn := f, tmps := a.tmps, params := ps, assign, body, defers := w.heap.size } := ⟨_, rfl⟩
  obtain ⟨l, hl⟩ : ∃ l, l = w.heap.size + 1 := ⟨_, rfl⟩
  obtain ⟨W1, hW1⟩ : ∃ W1, (w.alloc (.deferred (some []))).alloc (.loop (rec .ready none)) = W1 := ⟨_, rfl⟩
  have I1 : Inv B h (own :: (U s0 ++ [loopSA l (rec .ready none), markSA w.heap.size])) W1 := by
    have J1 : Inv B h (markSA w.heap.size :: own :: U s0) (w.alloc (.deferred (some []))) := I.gain (Grow.alloc w _) (World.alloc_heap_new w _) (fun b hb => by simp [markSA] at hb; subst hb; simp)
    have J2 : Inv B h (loopSA l (rec .ready none) :: markSA w.heap.size :: own :: U s0) W1 := by
      rw [← hW1]
      refine J1.gain (Grow.alloc _ _) ?_ (fun b hb => ?_)
      · have := World.alloc_heap_new (w.alloc (.deferred (some []))) (.loop (rec .ready none))
        rw [World.size_alloc] at this
        rw [hl]; exact this
      · simp [loopSA] at hb; subst hb; rw [hl]; simp
    refine J2.perm ?_
    show ((own :: U s0) ++ [loopSA l (rec .ready none), markSA w.heap.size]).Perm ([loopSA l (rec .ready none), markSA w.heap.size] ++ (own :: U s0))
    exact List.perm_append_comm
  refine ⟨l, [mark w.heap.size], W1, { target := .fn (.func gf) lb.toArray, args := #[.func (.yield l) #[] #[]] }, W1, gf, #[.func (.yield l) #[] #[]] ++ lb.toArray, W1, ?_, ?_, ?_, ?_⟩
  · rw [← hW1, hrec, hl]; exact run_enterLoop_outer _ _ _ _ _
  · rw [eval_env]
    have hg' : ev (env a) g = .func (.func gf) #[] lb.toArray := hg
    simp only [resolve, hg']
    simp [go_sem]
    rfl
  · simp [invoke, go_sem]; exact eg _ _
  · refine callsIn_wide.2 ?_
    refine (it l B h (fun s => U s ++ [loopSA l (rec .ready none), markSA w.heap.size]) Jc (Xp w.heap.size) W1 s0 I1 j0 mono ?_).mono ?_
    · intro k hg' x s X W hx g1 IW hj
      have IL : Inv B hg' ((X ++ U s) ++ loopSA l (rec .ready none) :: [markSA w.heap.size]) W := by rw [List.append_assoc]; exact IW
      have hy := run_yield (P := P) (args := (encs x).toArray) IL.getLoop (by rw [hrec]; simpa using hps x)
      refine ⟨_, _, _, _, hy, ?_⟩
      rw [hrec]
      refine roundIn_of_wpInP hfn ?_
      have hfold : (ps.zip (encs x).toArray).foldl (fun tmps (t, a) => tmps.setIfInBounds t a) a.tmps = (ps.toList.zip (encs x)).foldl (fun t p => t.setIfInBounds p.1 p.2) a.tmps := by
        rw [← Array.foldl_toList]; simp
      have hE := env_args (N := N) (ps.toList.zip (encs x)) a.tmps h1 (fun p hp => by
        have := (List.all_eq_true.1 hpN) p.1 (List.of_mem_zip hp).1
        simpa using this)
      have henv : env { tmps := a.tmps, defers := [] } = env a := rfl
      rw [henv] at hE
      have hR := round l w.heap.size (rec .ready none) hg' k x s X W hx g1 IW hj hsa { tmps := (ps.toList.zip (encs x)).foldl (fun t p => t.setIfInBounds p.1 p.2) a.tmps, defers := [] } hE.2 rfl hE.1
      simp only [hfold]
      refine wpIn_mono hR ?_
      rintro x1 a1 w1 ⟨k1, k2, k3⟩
      cases x1 <;> simp only [thenE] at k3 <;> first | exact k3.elim | skip
      obtain ⟨hg1, gl1, IX, hb⟩ := k3
      have IX' : Inv B hg1 ((X ++ U s) ++ loopSA l (rec .ready none) :: [markSA w.heap.size]) w1 := by rw [List.append_assoc]; exact IX
      refine ⟨_, run_beginRound IX'.getLoop (by rw [hrec]), ?_⟩
      have I2 := IX'.setLoop { rec .ready none with state := .busy }
      rw [List.append_assoc] at I2
      refine wpIn_mono (hb _ _ I2 hsb a1 k1 k2 rfl) ?_
      rintro x2 a2 w2 ⟨q1, q2, q3⟩
      cases x2 <;> simp only [roundQP] at q3 <;> simp only [roundPostP, roundPost] <;> first | exact q3.elim | skip
      · obtain ⟨h2, s2, Z, gl2, I3, hj2⟩ := q3
        have I3' : Inv B h2 ((X ++ U s2) ++ loopSA l { rec .ready none with state := .busy } :: [markSA w.heap.size]) w2 := by
          rw [List.append_assoc]; exact I3.weak (List.sublist_append_right _ _)
        have hr := run_endRound (P := P) none I3'.getLoop
        have I4 := I3'.setLoop (rec .ready none)
        refine ⟨_, _, hr, .inl ⟨rfl, h2, s2, gl1.trans gl2, ?_, hj2⟩⟩
        rw [List.append_assoc] at I4
        rw [hrec] at I4 ⊢
        exact I4
      · exact ⟨q2, .inr ⟨_, rfl, q3⟩⟩
    · rintro ed W2 (⟨⟨v, rfl⟩, hg', s, gl, I2, hj⟩ | ⟨ch, rfl, hx⟩)
      · refine ⟨_, by have := run_endLoop (P := P) I2.getLoop (by rw [hrec]; simp); rw [hrec] at this; exact this, h1, ?_⟩
        have I3 := (I2.setLoop { rec .ready none with state := .exhausted }).outLoop
        have hq := hdone w.heap.size hg' s _ gl I3 hj
        have hq' : Q .normal (env a) (W2.putObj l (.loop { rec .ready none with state := .exhausted })) (mark w.heap.size :: a.defers) := by rw [h2]; exact hq
        rw [hrec] at hq'
        exact hq'
      · refine ⟨h1, ?_⟩
        have hq := hpan _ _ _ hx
        rw [← h2] at hq
        exact hq
/-! ### The function's end -/
def endF (P : Program) (fn : Func) (R : Ending → World → Prop) : Exit → Env → World → List Deferred → Prop
  | .normal, e, w, D | .ret, e, w, D => ∀ tmps, env { tmps := tmps, defers := [] } = e → LeavesInM Fence.wide 0 P fn tmps R D .returning w
  | .panic ch, e, w, D => ∀ tmps, env { tmps := tmps, defers := [] } = e → LeavesInM Fence.wide 0 P fn tmps R D (.panicking ch) w
  | _, _, _, _ => False
theorem Calls.ofF {P : Program} {f : FuncId} {fn : Func} {c : Code} {N : Nat} {args : List Value} {w : World} {R : Ending → World → Prop} (hf : P.funcs[f]? = some fn) (hb : fn.body = some c) (hN : fn.ntmps = N) (hs : slotsOk N c = true)
    (hl : args.length ≤ N) (h : ∀ e, WPF P f N [] c (E e (argsE 0 args)) w (endF P fn R)) : Calls P f args.toArray w R := by
  refine (callsIn_wide (n := 0)).1 ⟨trivial, fun cs hr => ?_⟩
  subst hN
  let b : Frame := { (default : Frame) with fn := f, kind := .normal, roundOf := none }
  have henter : Frame.enter P f args.toArray .normal = b.atR { tmps := args.toArray ++ Array.replicate (fn.ntmps - args.toArray.size) undef, defers := [] } [.code c] := by
    simp [Frame.enter, Frame.atR, hf, hb, b]
  obtain ⟨e, a', w', ⟨_, hq⟩, harr⟩ := h _ hs { tmps := args.toArray ++ Array.replicate (fn.ntmps - args.toArray.size) undef, defers := [] } (by simp; omega) rfl (E_self (has_args args 0 fun j v hv => by
    have hj := (List.getElem?_eq_some_iff.1 hv).1
    have hg : args[j] = v := (List.getElem?_eq_some_iff.1 hv).2
    simp [env, Array.getD_eq_getD_getElem?, Array.getElem?_append, hj, hg])).symm b [] cs rfl rfl
  rw [← henter] at harr
  cases e with
  | normal =>
    obtain ⟨e', w'', fr', hR, hs, hfn, hl⟩ := leaves_stepsInM a'.defers .returning w' { b.atR a' [] with mode := .returning } cs rfl rfl rfl hf rfl trivial hr (hq a'.tmps rfl)
    exact ⟨e', w'', fr', hR, ComesIn.of_steps (StepsIn.trans harr (.one (fenced_wide _ _) (stepR_end rfl))) hs, hfn, hl⟩
  | ret =>
    obtain ⟨todo, hs₀⟩ := harr.1 rfl
    obtain ⟨e', w'', fr', hR, hs, hfn, hl⟩ := leaves_stepsInM a'.defers .returning w' { b.atR a' todo with mode := .returning } cs rfl rfl rfl hf rfl trivial hr (hq a'.tmps rfl)
    exact ⟨e', w'', fr', hR, ComesIn.of_steps hs₀ hs, hfn, hl⟩
  | panic chain =>
    obtain ⟨todo, hs₀⟩ := harr
    obtain ⟨e', w'', fr', hR, hs, hfn, hl⟩ := leaves_stepsInM a'.defers (.panicking chain) w' { b.atR a' todo with mode := .panicking chain } cs rfl rfl rfl hf rfl trivial hr (hq a'.tmps rfl)
    exact ⟨e', w'', fr', hR, ComesIn.of_steps hs₀ hs, hfn, hl⟩
  | exit id => exact hq.elim
  | goto l => exact hq.elim
  | outgrown => exact hq.elim
end Go.TF
end
section
/- Package text: the lines of a text, as strings.Lines hands them out. -/
namespace Go.TF
open Go Go.RowKit Go.Proofs
set_option maxRecDepth 20000

theorem index_one (c : UInt8) : ∀ s : Bs, Lib.index s [c] = Lib.indexByte s c
  | [] => rfl
  | b :: l => by
    rw [Lib.index, Lib.indexByte, index_one c l]
    have : ([c].isPrefixOf (b :: l)) = (b == c) := by
      show (c == b && true) = (b == c)
      rw [Bool.and_true]
      exact BEq.comm
    rw [this]
theorem indexByte_lt (c : UInt8) : ∀ s : Bs, Lib.indexByte s c < s.length
  | [] => by show (-1 : Int) < 0; omega
  | b :: l => by
    have ih := indexByte_lt c l
    rw [Lib.indexByte]
    simp only [List.length_cons]
    split
    · omega
    · split <;> omega
theorem mk_extract (s : Bs) (i j : Nat) : (mk s).extract i j = mk ((s.take j).drop i) := by
  apply ByteArray.ext
  simp only [ByteArray.data_extract]
  apply Array.ext'
  simp [List.drop_take]
def linesB (s : ByteArray) : List ByteArray := (linesS (tx s).length (tx s)).map mk
abbrev strC (s : ByteArray) : List Value := [.string s]
theorem drop_step {α : Type} {x : α} {l xs : List α} {k : Nat} (h : x :: l = xs.drop k) : xs[k]? = some x ∧ l = xs.drop (k + 1) ∧ k < xs.length := by
  have hk : k < xs.length := by
    rcases Nat.lt_or_ge k xs.length with h1 | h1
    · exact h1
    · rw [List.drop_eq_nil_of_le h1] at h; cases h
  rw [List.drop_eq_getElem_cons hk] at h
  injection h with h1 h2
  exact ⟨by rw [List.getElem?_eq_getElem hk, ← h1], h2, hk⟩
theorem Lines1_it (s : ByteArray) (hs : s.size ≤ 4096) (b : Nat) : IterP Tryz.prog 67 [.pointer (some ⟨b, 0, none⟩)] strC (linesB s) (box b [.string s] 9) := by
  intro σ l B h U Jc Xp W s0 I j0 mono hy
  have hargs : (#[.func (.yield l) #[] #[]] : Array Value) ++ ([.pointer (some ⟨b, 0, none⟩)] : List Value).toArray = [.func (.yield l) #[] #[], .pointer (some ⟨b, 0, none⟩)].toArray := rfl
  rw [hargs]
  refine Calls.ofWPP (args := [.func (.yield l) #[] #[], .pointer (some ⟨b, 0, none⟩)]) Tryz.func67 rfl Tryz.ntmps67 (by kernel_rfl) (by simp) ?_
  intro e
  refine WP.block ?_
  refine WP.loopE (σ := Nat × Bs × Heap × σ) (fun z => [(0, .func (.yield l) #[] #[]), (1, .pointer (some ⟨b, 0, none⟩))])
    (fun z w => z.2.1.length ≤ 4096 ∧ z.1 ≤ (linesB s).length ∧ (∃ f, z.2.1.length ≤ f ∧ (linesS f z.2.1).map mk = (linesB s).drop z.1) ∧ Inv B z.2.2.1 (box b [.string (mk z.2.1)] 9 :: U z.2.2.2) w ∧ h.le z.2.2.1 ∧ Jc z.1 z.2.2.1 z.2.2.2) (fun z => z.2.1.length)
    ⟨(0, tx s, h, s0), ⟨rfl, rfl, trivial⟩, by rw [tx_len]; exact hs, Nat.zero_le _, ⟨_, Nat.le_refl _, rfl⟩, by have e : mk (tx s) = s := mk_tx s; show Inv B h (box b [.string (mk (tx s))] _ :: U s0) W; rw [e]; exact I, Heap.le.refl _, j0⟩ ?_
  rintro ⟨k, rest, hg, s1⟩ e w ⟨hr, hk, ⟨f, hf, hxs⟩, I, gl, hj⟩
  dsimp only at hr hk hf hxs I gl hj ⊢
  have hsz : (mk rest).size = rest.length := mk_size rest
  refine WP.seq ?_
  refine WP.seq ?_
  refine WP.region ?_
  refine Ops.y (v := .string _) (Y.loadv ty_9 rfl (I.rdbox 0 rfl 0 1) rfl rfl) ?_
  refine Ops.y (v := .int .i64 _) (Y.lenstr Tryz.underlying9 rfl) ?_
  refine Ops.y (v := .bool (decide _)) (Y.gti rfl rfl) ?_
  refine Ops.nil ?_
  refine WP.cond_dec rfl (fun h7 => ?_) (fun h7 => ?_)
  · have hne : rest ≠ [] := fun e => by rw [e] at hsz; have h0 : (mk ([] : Bs)).size = 0 := rfl; rw [e] at h7; omega
    obtain ⟨f, rfl⟩ : ∃ g, f = g + 1 := ⟨f - 1, by have : 0 < rest.length := List.length_pos_iff.2 hne; omega⟩
    rw [linesS, if_neg hne] at hxs
    obtain ⟨ix, hix⟩ : ∃ ix, Lib.index rest [10] = ix := ⟨_, rfl⟩
    have hib : Lib.indexByte (tx (mk rest)) (10 : Int).toNat.toUInt8 = ix := by rw [← hix, index_one]; rfl
    rw [hix] at hxs
    refine WP.skip ?_
    refine WP.block ?_
    refine WP.seq ?_
    refine WP.region ?_
    refine Ops.y (v := .string _) (Y.assign rfl) ?_
    refine Ops.nil ?_
    refine WP.seq ?_
    refine WP.seq ?_
    refine WP.region ?_
    refine Ops.y (v := .string _) (Y.loadv ty_9 rfl (I.rdbox 0 rfl 0 1) rfl rfl) ?_
    refine Ops.go (O.callv I Tryz.call68 (hib ▸ IdxByte_ok (B := ⟨w, hg⟩) I.base_ok (mk rest) 10) rfl ?_)
    intro w I
    refine Ops.y (v := .int .i64 _) (Y.assign rfl) ?_
    refine Ops.nil ?_
    refine WP.seq ?_
    refine WP.region ?_
    refine Ops.y (v := .int .i64 _) (Y.move rfl) ?_
    refine Ops.y (v := .bool (decide _)) (Y.gei rfl rfl) ?_
    refine Ops.nil ?_
    refine WP.cutK (σ := Bs × Bs × Heap) (fun z => [(0, .func (.yield l) #[] #[]), (1, .pointer (some ⟨b, 0, none⟩)), (3, .string (mk z.1))])
      (fun z w => z.2.1.length < rest.length ∧ z.2.1.length ≤ f ∧ (mk z.1) :: (linesS f z.2.1).map mk = (linesB s).drop k ∧ hg.le z.2.2 ∧ Inv B z.2.2 (box b [.string (mk z.2.1)] 9 :: U s1) w) ?_ ?_
    · refine WP.cond_dec rfl (fun h11 => ?_) (fun h11 => ?_)
      · have h11' : 0 ≤ ix := h11
        rw [if_pos h11'] at hxs
        have hlt : ix < rest.length := by rw [← hix, index_one]; exact indexByte_lt _ _
        obtain ⟨n, hn⟩ : ∃ n : Nat, ix = n := ⟨ix.toNat, by omega⟩
        subst hn
        refine WP.regionF mixed I 9 (by kernel_rfl) ?_
        refine OpsF.y_ (v := .string _) (fun _ => runs_none _) (fun _ w us hl I => Y.loadv ty_9 rfl (I.rdbox 0 rfl 0 1) rfl rfl) ?_
        refine OpsF.y_ (v := .int .i64 _) (fun _ => runs_none _) (fun _ w us hl I => Y.move rfl) ?_
        refine OpsF.y_ (v := .int .i64 _) (fun _ => runs_none _) (fun _ w us hl I => Y.addi rfl rfl ⟨by omega, by omega⟩) ?_
        refine OpsF.y_ (v := .string _) (fun _ => runs_none _) (fun _ w us hl I => Y.slicestr (l := 0) (h := n + 1) Tryz.underlying9 rfl (.inl ⟨rfl, rfl⟩) (.inr ⟨_, _, rfl, rfl⟩) (by omega) (by rw [hsz]; omega)) ?_
        refine OpsF.y_ (v := .string _) (fun _ => runs_none _) (fun _ w us hl I => Y.loadv ty_9 rfl (I.rdbox 0 rfl 0 1) rfl rfl) ?_
        refine OpsF.y_ (v := .int .i64 _) (fun _ => runs_none _) (fun _ w us hl I => Y.move rfl) ?_
        refine OpsF.y_ (v := .int .i64 _) (fun _ => runs_none _) (fun _ w us hl I => Y.addi rfl rfl ⟨by omega, by omega⟩) ?_
        refine OpsF.y_ (v := .string _) (fun _ => runs_none _) (fun _ w us hl I => Y.slicestr (l := n + 1) (h := (mk rest).size) Tryz.underlying9 rfl (.inr ⟨_, _, rfl, rfl⟩) (.inl ⟨rfl, rfl⟩) (by rw [hsz]; omega) (Nat.le_refl _)) ?_
        refine OpsF.y_ (v := .string _) (fun _ => runs_none _) (fun _ w us hl I => Y.assign rfl) ?_
        refine OpsF.nil ?_
        intro _ w hl I
        try unfold AllL
        refine Ops.go (O.store (v := .string _) I ty_9 0 rfl rfl rfl rfl rfl rfl (Nat.le_of_ble_eq_true rfl) rfl ?_)
        intro w I
        refine Ops.nil ?_
        have e1 : (mk rest).extract 0 (n + 1) = mk (rest.take (n + 1)) := by rw [mk_extract]; rfl
        have e2 : (mk rest).extract (n + 1) (mk rest).size = mk (rest.drop (n + 1)) := by rw [mk_extract, hsz, List.take_of_length_le (Nat.le_refl _)]
        rw [e2] at I
        refine ⟨(rest.take (n + 1), rest.drop (n + 1), _), ⟨rfl, rfl, by rw [← e1]; rfl, trivial⟩, ?_, ?_, ?_, hl, I⟩
        · simp only [List.length_drop]; omega
        · simp only [List.length_drop]; omega
        · simpa using hxs
      · have h11' : ¬ 0 ≤ ix := h11
        rw [if_neg h11'] at hxs
        refine WP.region ?_
        refine Ops.y (v := .string _) (Y.loadv ty_9 rfl (I.rdbox 0 rfl 0 1) rfl rfl) ?_
        refine Ops.y (v := .string _) (Y.assign rfl) ?_
        refine Ops.go (O.store (v := .string _) I ty_9 0 rfl rfl rfl rfl rfl rfl (Nat.le_of_ble_eq_true rfl) rfl ?_)
        intro w I
        refine Ops.nil ?_
        refine ⟨(rest, [], hg), ⟨rfl, rfl, rfl, trivial⟩, ?_, ?_, ?_, Heap.le.refl _, I⟩
        · simp only [List.length_nil]; omega
        · simp
        · cases f <;> simpa [linesS] using hxs
    rintro ⟨x, r2, hg2⟩ e w ⟨hlt, hf2, hx2, gl1, I⟩
    dsimp only at hlt hf2 hx2 gl1 I ⊢
    obtain ⟨hget, hdr, hk1⟩ := drop_step hx2
    refine WP.seq ?_
    refine WP.regionY _ (fun _ _ _ h => h) (by kernel_rfl) ?_
    refine OpsY.y (v := .func _ _ _) (Y.move rfl) ?_
    refine OpsY.y (v := .string _) (Y.move rfl) ?_
    refine OpsY.yield rfl rfl (hy k hg2 (mk x) s1 [box b [.string (mk r2)] 9] w hget (gl.trans gl1) I (mono _ _ _ _ gl1 hj)) ?_
    rintro ed w (⟨rfl, h2, s2, gl2, I, hj2⟩ | ⟨ch, rfl, hx⟩)
    · refine .inl ⟨_, rfl, ?_⟩
      refine OpsY.y (v := .bool false) (Y.b (Y.not rfl) (rfl)) ?_
      refine OpsY.nil ?_
      refine WP.cond_f rfl ?_
      refine WP.skip ?_
      exact ⟨(k + 1, r2, h2, s2), ⟨⟨rfl, rfl, trivial⟩, by dsimp only; omega, by dsimp only; omega, ⟨f, hf2, hdr⟩, I, (gl.trans gl1).trans gl2, hj2⟩, hlt⟩
    · refine .inr ⟨ch, rfl, ?_⟩
      exact .inr ⟨ch, rfl, hx⟩
  obtain rfl : rest = [] := List.length_eq_zero_iff.1 (by omega)
  have hend : k = (linesB s).length := by
    have : (linesS f []).map mk = [] := by cases f <;> simp [linesS]
    rw [this] at hxs
    have := congrArg List.length hxs
    simp only [List.length_nil, List.length_drop] at this
    omega
  subst hend
  refine WP.exit ?_
  exact ⟨[], trivial, .inl ⟨⟨_, rfl⟩, hg, s1, gl, I.drop, hj⟩⟩
end Go.TF
end
section
/- The document's words: cut, said, a term: walked. -/
namespace Go.TF
open Go Go.RowKit Go.Proofs
set_option maxRecDepth 20000

theorem tx_extract (s : ByteArray) (i j : Nat) : tx (s.extract i j) = ((tx s).take j).drop i := by
  have := mk_extract (tx s) i j
  rw [show mk (tx s) = s from mk_tx s] at this
  rw [this]
theorem dcut_ok (B : Base) (hB : B.ok) (s a : ByteArray) (hs : s.size ≤ 4096) (ha : 1 ≤ a.size ∧ a.size ≤ 4) : Fn Tryz.prog 47 [.string s, .string a] B (fun v _ => v = .tuple #[.string (mk (Lib.cut (tx s) (tx a)).1), .string (mk (Lib.cut (tx s) (tx a)).2.1), .bool (Lib.cut (tx s) (tx a)).2.2]) := by
  have hl := tx_len s
  have hla := tx_len a
  refine Fn.of Tryz.func47 rfl Tryz.ntmps47 (by kernel_rfl) (by simp) ?_
  intro e
  have I := Inv.start hB
  refine WP.seq ?_
  refine WP.region ?_
  refine Ops.y (v := .string _) (Y.assign rfl) ?_
  refine Ops.y (v := .string _) (Y.assign rfl) ?_
  refine Ops.y (v := .bool _) (Y.assign rfl) ?_
  refine Ops.nil ?_
  refine WP.seq ?_
  refine WP.seq ?_
  refine WP.region ?_
  refine Ops.y (v := .int .i64 _) (Y.assign rfl) ?_
  refine Ops.nil ?_
  refine WP.block ?_
  refine WP.loopE (σ := Nat) (fun k => [(0, .string s), (1, .string a), (7, .int .i64 k)]) (fun k w => k ≤ s.size ∧ Inv B B.h [] w ∧ ∀ j, j < k → Lib.occAt (tx s) (tx a) j = false) (fun k => s.size - k)
    ⟨0, ⟨rfl, rfl, rfl, trivial⟩, Nat.zero_le _, I, fun j hj => absurd hj (Nat.not_lt_zero _)⟩ ?_
  rintro k e w ⟨hk, I, hno⟩
  refine WP.seq ?_
  refine WP.seq ?_
  refine WP.region ?_
  refine Ops.y (v := .int .i64 _) (Y.move rfl) ?_
  refine Ops.y (v := .string _) (Y.move rfl) ?_
  refine Ops.y (v := .int .i64 _) (Y.lenstr Tryz.underlying9 rfl) ?_
  refine Ops.y (v := .int .i64 _) (Y.addi rfl rfl ⟨by omega, by omega⟩) ?_
  refine Ops.y (v := .string _) (Y.move rfl) ?_
  refine Ops.y (v := .int .i64 _) (Y.lenstr Tryz.underlying9 rfl) ?_
  refine Ops.y (v := .bool (decide _)) (Y.lei rfl rfl) ?_
  refine Ops.nil ?_
  refine WP.cond_dec rfl (fun h14 => ?_) (fun h14 => ?_)
  · have h14' : k + a.size ≤ s.size := by omega
    have hE : tx (s.extract k (k + a.size)) = ((tx s).drop k).take (tx a).length := by rw [tx_extract, List.drop_take, hla, Nat.add_sub_cancel_left]
    have hO := Lib.occAt_iff_take (tx s) (tx a) k (by omega)
    rw [← hE] at hO
    refine WP.skip ?_
    refine WP.seq ?_
    refine WP.block ?_
    refine WP.seq ?_
    refine WP.region ?_
    refine Ops.y (v := .string _) (Y.move rfl) ?_
    refine Ops.y (v := .int .i64 _) (Y.move rfl) ?_
    refine Ops.y (v := .int .i64 _) (Y.move rfl) ?_
    refine Ops.y (v := .string _) (Y.move rfl) ?_
    refine Ops.y (v := .int .i64 _) (Y.lenstr Tryz.underlying9 rfl) ?_
    refine Ops.y (v := .int .i64 _) (Y.addi rfl rfl ⟨by omega, by omega⟩) ?_
    refine Ops.y (v := .string _) (Y.slicestr (l := k) (h := k + a.size) Tryz.underlying9 rfl (.inr ⟨_, _, rfl, rfl⟩) (.inr ⟨_, _, rfl, rfl⟩) (by omega) h14') ?_
    refine Ops.y (v := .string _) (Y.move rfl) ?_
    refine Ops.y (v := .bool _) (Y.eqs rfl rfl) ?_
    refine Ops.nil ?_
    refine WP.cond rfl (fun h25 => ?_) (fun h25 => ?_)
    · have hocc : Lib.occAt (tx s) (tx a) k = true := by rw [hO]; rw [beq_tx] at h25; simpa using h25
      have hix := Lib.index_first (by omega) hocc hno
      have hc : Lib.cut (tx s) (tx a) = ((tx s).take k, (tx s).drop (k + a.size), true) := by unfold Lib.cut; rw [hix, if_pos (by omega), hla]; rfl
      have e1 : s.extract 0 k = mk ((tx s).take k) := tx_inj.1 (by rw [tx_extract]; rfl)
      have e2 : s.extract (k + a.size) s.size = mk ((tx s).drop (k + a.size)) := tx_inj.1 (by rw [tx_extract, List.take_of_length_le (by omega)])
      refine WP.seq ?_
      refine WP.regionF mixed I 12 (by kernel_rfl) ?_
      refine OpsF.y_ (v := .string _) (fun _ => runs_none _) (fun _ w us hl I => Y.move rfl) ?_
      refine OpsF.y_ (v := .int .i64 _) (fun _ => runs_none _) (fun _ w us hl I => Y.move rfl) ?_
      refine OpsF.y_ (v := .string _) (fun _ => runs_none _) (fun _ w us hl I => Y.slicestr (l := 0) (h := k) Tryz.underlying9 rfl (.inl ⟨rfl, rfl⟩) (.inr ⟨_, _, rfl, rfl⟩) (Nat.zero_le _) hk) ?_
      refine OpsF.y_ (v := .string _) (fun _ => runs_none _) (fun _ w us hl I => Y.move rfl) ?_
      refine OpsF.y_ (v := .int .i64 _) (fun _ => runs_none _) (fun _ w us hl I => Y.move rfl) ?_
      refine OpsF.y_ (v := .string _) (fun _ => runs_none _) (fun _ w us hl I => Y.move rfl) ?_
      refine OpsF.y_ (v := .int .i64 _) (fun _ => runs_none _) (fun _ w us hl I => Y.lenstr Tryz.underlying9 rfl) ?_
      refine OpsF.y_ (v := .int .i64 _) (fun _ => runs_none _) (fun _ w us hl I => Y.addi rfl rfl ⟨by omega, by omega⟩) ?_
      refine OpsF.y_ (v := .string _) (fun _ => runs_none _) (fun _ w us hl I => Y.slicestr (l := k + a.size) (h := s.size) Tryz.underlying9 rfl (.inr ⟨_, _, rfl, rfl⟩) (.inl ⟨rfl, rfl⟩) h14' (Nat.le_refl _)) ?_
      refine OpsF.y_ (v := .string _) (fun _ => runs_none _) (fun _ w us hl I => Y.assign rfl) ?_
      refine OpsF.y_ (v := .string _) (fun _ => runs_none _) (fun _ w us hl I => Y.assign rfl) ?_
      refine OpsF.y_ (v := .bool _) (fun _ => runs_none _) (fun _ w us hl I => Y.assign rfl) ?_
      refine OpsF.nil ?_
      intro _ w hl I
      try unfold AllL
      refine Ops.nil ?_
      refine WP.ret ?_
      repeat (first | refine thenE_ret ?_ | refine blockE_ret ?_)
      exact retQ.mk (vs := [.string _, .string _, .bool _]) rfl ⟨rfl, rfl, rfl, trivial⟩ I.ext_of (by simp only [tup]; rw [hc, e1, e2])
    · have hocc : Lib.occAt (tx s) (tx a) k = false := by rw [hO]; rw [beq_tx] at h25; simpa using h25
      refine WP.skip ?_
      refine WP.region ?_
      refine Ops.y (v := .int .i64 _) (Y.move rfl) ?_
      refine Ops.y (v := .int .i64 _) (Y.addi rfl rfl ⟨by omega, by omega⟩) ?_
      refine Ops.y (v := .int .i64 _) (Y.assign rfl) ?_
      refine Ops.nil ?_
      exact ⟨k + 1, ⟨⟨rfl, rfl, rfl, trivial⟩, by omega, I, fun j hj => (by rcases Nat.lt_succ_iff_lt_or_eq.1 hj with h | rfl <;> first | exact hno _ h | exact hocc)⟩, by omega⟩
  have hix : Lib.index (tx s) (tx a) = -1 := Lib.index_none fun j hj => by
    rcases Nat.lt_or_ge j k with h | h
    · exact hno j h
    · cases ho : Lib.occAt (tx s) (tx a) j with
      | false => rfl
      | true =>
        rcases Lib.occAt_room ho with h1 | h1
        · omega
        · rw [h1] at hla; simp at hla; omega
  have hc : Lib.cut (tx s) (tx a) = (tx s, [], false) := by unfold Lib.cut; rw [hix]; rfl
  refine WP.exit ?_
  refine WP.seq ?_
  refine WP.region ?_
  refine Ops.y (v := .string _) (Y.move rfl) ?_
  refine Ops.y (v := .string _) (Y.assign rfl) ?_
  refine Ops.y (v := .string _) (Y.assign rfl) ?_
  refine Ops.y (v := .bool _) (Y.assign rfl) ?_
  refine Ops.nil ?_
  refine WP.ret ?_
  repeat (first | refine thenE_ret ?_ | refine blockE_ret ?_)
  exact retQ.mk (vs := [.string _, .string _, .bool _]) rfl ⟨rfl, rfl, rfl, trivial⟩ I.ext_of (by simp only [tup]; rw [hc])
def saidK (l : Bs) : Int := l.foldl (fun n c => 10 * n + (c.toNat : Int) - 48) 0
def saidB : Nat → Int
  | 0 => 0
  | k + 1 => 10 * saidB k + 300
theorem saidK_snoc (l : Bs) (c : UInt8) : saidK (l ++ [c]) = 10 * saidK l + (c.toNat : Int) - 48 := by unfold saidK; rw [List.foldl_append]; rfl
theorem saidB_le {k : Nat} (h : k ≤ 6) : 0 ≤ saidB k ∧ saidB k ≤ 40000000 := by
  have : ∀ i : Fin 7, 0 ≤ saidB i.val ∧ saidB i.val ≤ 40000000 := by decide
  exact this ⟨k, by omega⟩
theorem saidK_bd {l : Bs} : ∀ {k : Nat}, k ≤ l.length → -(saidB k) ≤ saidK (l.take k) ∧ saidK (l.take k) ≤ saidB k
  | 0, _ => by simp [saidK, saidB]
  | k + 1, h => by
    have ih := saidK_bd (l := l) (k := k) (by omega)
    have hc : l.take (k + 1) = l.take k ++ [l[k]] := by rw [List.take_add_one, List.getElem?_eq_getElem (by omega)]; rfl
    have := (l[k]).toNat_lt
    rw [hc, saidK_snoc, saidB]
    omega
theorem said_ok (B : Base) (hB : B.ok) (s : ByteArray) (hs : s.size ≤ 4096) : Fn Tryz.prog 48 [.string s] B (fun v _ => v = .int .i64 (saidL (tx s))) := by
  have hl := tx_len s
  refine Fn.of Tryz.func48 rfl Tryz.ntmps48 (by kernel_rfl) (by simp) ?_
  intro e
  have I := Inv.start hB
  refine WP.seq ?_
  refine WP.region ?_
  refine Ops.y (v := .int .i64 _) (Y.assign rfl) ?_
  refine Ops.nil ?_
  refine WP.seq ?_
  refine WP.seq ?_
  refine WP.region ?_
  refine Ops.y (v := .string _) (Y.move rfl) ?_
  refine Ops.y (v := .int .i64 _) (Y.lenstr Tryz.underlying9 rfl) ?_
  refine Ops.go (O.callv I Tryz.call42 (within_ok _ I.base_ok s.size 1 6) rfl ?_)
  intro w I
  refine Ops.y (v := .bool _) (Y.not rfl) ?_
  refine Ops.nil ?_
  refine WP.cond rfl (fun h8 => ?_) (fun h8 => ?_)
  · have h : ¬ (1 ≤ (tx s).length ∧ (tx s).length ≤ 6) := by
      have h8' : ¬ within (s.size : Int) 1 6 := by simpa using h8
      unfold within at h8'; omega
    refine WP.seq ?_
    refine WP.region ?_
    refine Ops.y (v := .int .i64 _) (Y.assign rfl) ?_
    refine Ops.nil ?_
    refine WP.ret ?_
    repeat (first | refine thenE_ret ?_ | refine blockE_ret ?_)
    exact retQ.mk (vs := [.int .i64 _]) rfl ⟨rfl, trivial⟩ I.ext_of (by simp only [tup]; unfold saidL; rw [if_neg h])
  have h : 1 ≤ (tx s).length ∧ (tx s).length ≤ 6 := by
    have h8' : within (s.size : Int) 1 6 := by simpa using h8
    unfold within at h8'; omega
  refine WP.skip ?_
  refine WP.seq ?_
  refine WP.region ?_
  refine Ops.y (v := .int .i64 _) (Y.assign rfl) ?_
  refine Ops.nil ?_
  refine WP.seq ?_
  refine WP.seq ?_
  refine WP.region ?_
  refine Ops.y (v := .int .i64 _) (Y.assign rfl) ?_
  refine Ops.nil ?_
  refine WP.block ?_
  refine WP.loopE (σ := Nat) (fun k => [(0, .string s), (3, .int .i64 (saidK ((tx s).take k))), (4, .int .i64 k)]) (fun k w => k ≤ s.size ∧ Inv B B.h [] w) (fun k => s.size - k) ⟨0, ⟨rfl, rfl, rfl, trivial⟩, Nat.zero_le _, I⟩ ?_
  rintro k e w ⟨hk, I⟩
  refine WP.seq ?_
  refine WP.seq ?_
  refine WP.region ?_
  refine Ops.y (v := .int .i64 _) (Y.move rfl) ?_
  refine Ops.y (v := .string _) (Y.move rfl) ?_
  refine Ops.y (v := .int .i64 _) (Y.lenstr Tryz.underlying9 rfl) ?_
  refine Ops.y (v := .bool (decide _)) (Y.lti rfl rfl) ?_
  refine Ops.nil ?_
  refine WP.cond_dec rfl (fun h12 => ?_) (fun h12 => ?_)
  · have hk' : k < (tx s).length := by omega
    have bd := saidK_bd (l := tx s) (k := k) (by omega)
    have b2 := saidB_le (k := k) (by omega)
    have hnx : (tx s).take (k + 1) = (tx s).take k ++ [(tx s)[k]] := by rw [List.take_add_one, List.getElem?_eq_getElem hk']; rfl
    obtain ⟨c, hc⟩ : ∃ c, (tx s)[k] = c := ⟨_, rfl⟩
    have hb := c.toNat_lt
    have hget : s[k]? = some c := by
      rw [← hc]
      have hk2 : k < s.size := by omega
      rw [getElem?_pos s k hk2]
      rfl
    refine WP.skip ?_
    refine WP.seq ?_
    refine WP.block ?_
    refine WP.region ?_
    refine Ops.y (v := .int .i64 _) (Y.move rfl) ?_
    refine Ops.y (v := .int .i64 _) (Y.muli rfl rfl ⟨by omega, by omega⟩) ?_
    refine Ops.y (v := .string _) (Y.move rfl) ?_
    refine Ops.y (v := .int .i64 _) (Y.move rfl) ?_
    refine Ops.y (v := .int .u8 _) (Y.idxs Tryz.underlying9 rfl rfl (Int.natCast_nonneg _) hget) ?_
    refine Ops.y (v := .int .i64 _) (Y.conv (by rw [Tryz.underlying5]; rfl) Tryz.underlying3 (wrap_i64 ⟨by omega, by omega⟩) rfl) ?_
    refine Ops.y (v := .int .i64 _) (Y.addi rfl rfl ⟨by omega, by omega⟩) ?_
    refine Ops.y (v := .int .i64 _) (Y.subi rfl rfl ⟨by omega, by omega⟩) ?_
    refine Ops.y (v := .int .i64 _) (Y.assign rfl) ?_
    refine Ops.nil ?_
    refine WP.region ?_
    refine Ops.y (v := .int .i64 _) (Y.move rfl) ?_
    refine Ops.y (v := .int .i64 _) (Y.addi rfl rfl ⟨by omega, by omega⟩) ?_
    refine Ops.y (v := .int .i64 _) (Y.assign rfl) ?_
    refine Ops.nil ?_
    refine ⟨k + 1, ⟨⟨rfl, ?_, rfl, trivial⟩, by omega, I⟩, by omega⟩
    rw [hnx, hc, saidK_snoc]
    rfl
  obtain rfl : k = s.size := by omega
  refine WP.exit ?_
  refine WP.seq ?_
  refine WP.region ?_
  refine Ops.y (v := .int .i64 _) (Y.move rfl) ?_
  refine Ops.y (v := .int .i64 _) (Y.assign rfl) ?_
  refine Ops.nil ?_
  refine WP.ret ?_
  repeat (first | refine thenE_ret ?_ | refine blockE_ret ?_)
  exact retQ.mk (vs := [.int .i64 _]) rfl ⟨rfl, trivial⟩ I.ext_of (by simp only [tup]; unfold saidL; rw [if_pos h, List.take_of_length_le (by omega)]; rfl)
theorem termFrom_ok (B : Base) (hB : B.ok) (s : ByteArray) (hs : s.size ≤ 4096) : Fn Tryz.prog 154 [.string s] B (fun v _ => v = (termF (tx s)).val) := by
  have hl := tx_len s
  by_cases h1 : s.size = 1
  · obtain ⟨c, hc⟩ : ∃ c, tx s = [c] := List.length_eq_one_iff.1 (by omega)
    obtain rfl : s = ⟨#[c]⟩ := tx_inj.1 hc
    have hb := c.toNat_lt
    have hg : (⟨#[c]⟩ : ByteArray)[0]? = some c := rfl
    by_cases h65 : 65 ≤ c.toNat
    · have hT : termF [c] = ⟨true, (c.toNat : Int) - 65⟩ := by unfold termF; rw [if_pos ⟨rfl, h65⟩]; rfl
      refine Fn.of Tryz.func154 rfl Tryz.ntmps154 (by kernel_rfl) (by simp) ?_
      intro e
      have I := Inv.start hB
      refine WP.seq ?_
      refine WP.region ?_
      refine Ops.go (O.alloc I Tryz.zeroValue109 rfl ?_)
      intro b2 w I
      refine Ops.nil ?_
      refine WP.seq ?_
      refine WP.seq ?_
      refine WP.region ?_
      refine Ops.y (v := .string _) (Y.move rfl) ?_
      refine Ops.y (v := .int .i64 _) (Y.lenstr Tryz.underlying9 rfl) ?_
      refine Ops.y (v := .bool true) (Y.dec_t (Y.eqi rfl rfl) (rfl)) ?_
      refine Ops.y (v := .bool _) (Y.move rfl) ?_
      refine Ops.ygt rfl (v := .string _) (Y.move rfl) ?_
      refine Ops.ygt rfl (v := .int .u8 _) (Y.idxs Tryz.underlying9 rfl rfl (by decide) hg) ?_
      refine Ops.ygt rfl (v := .bool true) (Y.dec_t (Y.gei rfl rfl) ((by omega))) ?_
      refine Ops.y (v := .bool _) (Y.pick_t rfl rfl) ?_
      refine Ops.nil ?_
      refine WP.cond_t rfl ?_
      refine WP.seq ?_
      refine WP.region ?_
      refine Ops.y (v := .string _) (Y.move rfl) ?_
      refine Ops.y (v := .int .u8 _) (Y.idxs Tryz.underlying9 rfl rfl (by decide) hg) ?_
      refine Ops.y (v := .int .i64 _) (Y.conv (by rw [Tryz.underlying5]; rfl) Tryz.underlying3 (wrap_i64 ⟨by omega, by omega⟩) rfl) ?_
      refine Ops.y (v := .int .i64 _) (Y.subi rfl rfl ⟨by omega, by omega⟩) ?_
      refine Ops.y (v := .agg #[.bool _, .int .i64 _]) (Y.build pl_109 Tryz.zeroValue109 rfl rfl) ?_
      refine Ops.go (O.store (v := .agg #[_, _]) I ty_109 0 rfl rfl rfl rfl rfl rfl (Nat.le_of_ble_eq_true rfl) rfl ?_)
      intro w I
      refine Ops.nil ?_
      refine WP.ret ?_
      repeat (first | refine thenE_ret ?_ | refine blockE_ret ?_)
      exact retQ.mk (vs := [.agg #[_, _]]) rfl ⟨⟨_, _, _, _, _, rfl, ty_109, I.rdbox 0 rfl 0 2, rfl, rfl⟩, trivial⟩ I.ext_of (by simp only [tup]; rw [show tx ⟨#[c]⟩ = [c] from rfl, hT])
    · have hT : termF [c] = ⟨false, saidL [c]⟩ := by unfold termF; rw [if_neg (fun h => h65 h.2)]
      refine Fn.of Tryz.func154 rfl Tryz.ntmps154 (by kernel_rfl) (by simp) ?_
      intro e
      have I := Inv.start hB
      refine WP.seq ?_
      refine WP.region ?_
      refine Ops.go (O.alloc I Tryz.zeroValue109 rfl ?_)
      intro b2 w I
      refine Ops.nil ?_
      refine WP.seq ?_
      refine WP.seq ?_
      refine WP.region ?_
      refine Ops.y (v := .string _) (Y.move rfl) ?_
      refine Ops.y (v := .int .i64 _) (Y.lenstr Tryz.underlying9 rfl) ?_
      refine Ops.y (v := .bool true) (Y.dec_t (Y.eqi rfl rfl) (rfl)) ?_
      refine Ops.y (v := .bool _) (Y.move rfl) ?_
      refine Ops.ygt rfl (v := .string _) (Y.move rfl) ?_
      refine Ops.ygt rfl (v := .int .u8 _) (Y.idxs Tryz.underlying9 rfl rfl (by decide) hg) ?_
      refine Ops.ygt rfl (v := .bool false) (Y.dec_f (Y.gei rfl rfl) ((by omega))) ?_
      refine Ops.y (v := .bool _) (Y.pick_t rfl rfl) ?_
      refine Ops.nil ?_
      refine WP.cond_f rfl ?_
      refine WP.skip ?_
      refine WP.seq ?_
      refine WP.region ?_
      refine Ops.y (v := .string _) (Y.move rfl) ?_
      refine Ops.go (O.callv I Tryz.call48 (said_ok _ I.base_ok _ hs) rfl ?_)
      intro w I
      refine Ops.y (v := .agg #[.bool _, .int .i64 _]) (Y.build pl_109 Tryz.zeroValue109 rfl rfl) ?_
      refine Ops.go (O.store (v := .agg #[_, _]) I ty_109 0 rfl rfl rfl rfl rfl rfl (Nat.le_of_ble_eq_true rfl) rfl ?_)
      intro w I
      refine Ops.nil ?_
      refine WP.ret ?_
      repeat (first | refine thenE_ret ?_ | refine blockE_ret ?_)
      exact retQ.mk (vs := [.agg #[_, _]]) rfl ⟨⟨_, _, _, _, _, rfl, ty_109, I.rdbox 0 rfl 0 2, rfl, rfl⟩, trivial⟩ I.ext_of (by simp only [tup]; rw [show tx ⟨#[c]⟩ = [c] from rfl, hT])
  · have hT : termF (tx s) = ⟨false, saidL (tx s)⟩ := by unfold termF; rw [if_neg (fun h => h1 (by omega))]
    refine Fn.of Tryz.func154 rfl Tryz.ntmps154 (by kernel_rfl) (by simp) ?_
    intro e
    have I := Inv.start hB
    refine WP.seq ?_
    refine WP.region ?_
    refine Ops.go (O.alloc I Tryz.zeroValue109 rfl ?_)
    intro b2 w I
    refine Ops.nil ?_
    refine WP.seq ?_
    refine WP.seq ?_
    refine WP.region ?_
    refine Ops.y (v := .string _) (Y.move rfl) ?_
    refine Ops.y (v := .int .i64 _) (Y.lenstr Tryz.underlying9 rfl) ?_
    refine Ops.y (v := .bool false) (Y.dec_f (Y.eqi rfl rfl) ((by omega))) ?_
    refine Ops.y (v := .bool _) (Y.move rfl) ?_
    refine Ops.gf rfl ?_
    refine Ops.gf rfl ?_
    refine Ops.gf rfl ?_
    refine Ops.y (v := .bool _) (Y.pick_f rfl rfl) ?_
    refine Ops.nil ?_
    refine WP.cond_f rfl ?_
    refine WP.skip ?_
    refine WP.seq ?_
    refine WP.region ?_
    refine Ops.y (v := .string _) (Y.move rfl) ?_
    refine Ops.go (O.callv I Tryz.call48 (said_ok _ I.base_ok s hs) rfl ?_)
    intro w I
    refine Ops.y (v := .agg #[.bool _, .int .i64 _]) (Y.build pl_109 Tryz.zeroValue109 rfl rfl) ?_
    refine Ops.go (O.store (v := .agg #[_, _]) I ty_109 0 rfl rfl rfl rfl rfl rfl (Nat.le_of_ble_eq_true rfl) rfl ?_)
    intro w I
    refine Ops.nil ?_
    refine WP.ret ?_
    repeat (first | refine thenE_ret ?_ | refine blockE_ret ?_)
    exact retQ.mk (vs := [.agg #[_, _]]) rfl ⟨⟨_, _, _, _, _, rfl, ty_109, I.rdbox 0 rfl 0 2, rfl, rfl⟩, trivial⟩ I.ext_of (by simp only [tup]; rw [hT])
end Go.TF
end
section
/- The document reads an atom: walked. -/
namespace Go.TF
open Go Go.RowKit Go.Proofs
set_option maxRecDepth 20000

theorem dcut_is (B : Base) (hB : B.ok) (s : ByteArray) (a : Bs) (hs : s.size ≤ 4096) (ha : 1 ≤ a.length ∧ a.length ≤ 4) {x y : Bs} {b : Bool} (h : Lib.cut (tx s) a = (x, y, b)) : Fn Tryz.prog 47 [.string s, .string (mk a)] B (fun v _ => v = .tuple #[.string (mk x), .string (mk y), .bool b]) :=
  (dcut_ok B hB s (mk a) hs (by rw [mk_size]; exact ha)).mono fun v h' _ hv => by
    rw [hv, show tx (mk a) = a from rfl, h]
def pixF (l : List Prd) (n : Bs) (k : Nat) : Int := (List.range k).foldl (fun m i => if tx (l.getD i default).name = n then (i : Int) else m) (-1)
theorem pixF_succ (l : List Prd) (n : Bs) (k : Nat) : pixF l n (k + 1) = if tx (l.getD k default).name = n then (k : Int) else pixF l n k := by
  unfold pixF; rw [List.range_succ, List.foldl_append]; rfl
theorem cut_more {s a x y : Bs} (h : Lib.cut s a = (x, y, true)) (ha : 1 ≤ a.length) : y.length + 1 ≤ s.length := by
  unfold Lib.cut at h
  split at h
  · rename_i hi
    injection h with h1 h2
    injection h2 with h2 _
    subst h2
    have hne : s ≠ [] := by
      rintro rfl
      have : Lib.index [] a = -1 := Lib.index_none fun j hj => by
        cases ho : Lib.occAt [] a j with
        | false => rfl
        | true =>
          rcases Lib.occAt_room ho with h1 | h1
          · simp only [List.length_nil] at h1; omega
          · rw [h1] at ha; simp at ha
      omega
    have := List.length_pos_iff.2 hne
    rw [List.length_drop]; omega
  · injection h with _ h2
    injection h2 with _ h3
    cases h3
set_option maxHeartbeats 8000000 in
theorem atomFrom_ok (B : Base) (hB : B.ok) (l : Sl Prd) (hl : Prds l B.h) (s : ByteArray) (hs : s.size ≤ 4096) : Fn Tryz.prog 108 [l.val, .string s] B (fun v h => ∃ a : Atm, v = a.val ∧ OwnH 109 2 a.args Trm.enc B.h h ∧ a.args.xs.length ≤ 4098 ∧ a.er = atomF l.xs (tx s)) := by
  have hl0 := tx_len s
  have hsm := hl.small
  obtain ⟨ct, hct⟩ : ∃ z, Lib.cut (tx s) [40] = z := ⟨_, rfl⟩
  obtain ⟨n0, r0, b0⟩ := ct
  have hlen := cut_len (tx s) [40]
  rw [hct] at hlen
  dsimp only at hlen
  obtain ⟨tot, htot⟩ : ∃ z, (if b0 = true then argsF ((tx s).length + 1) r0 else []) = z := ⟨_, rfl⟩
  have hF : atomF l.xs (tx s) = ⟨pixF l.xs n0 l.xs.length, ⟨none, 0, tot⟩⟩ := by unfold atomF; rw [hct, ← htot]; rfl
  refine Fn.of Tryz.func108 rfl Tryz.ntmps108 (by kernel_rfl) (by simp) ?_
  intro e
  have I := Inv.start hB
  refine WP.seq ?_
  refine WP.region ?_
  refine Ops.go (O.alloc I Tryz.zeroValue61 rfl ?_)
  intro b4 w I
  refine Ops.nil ?_
  refine WP.seq ?_
  refine WP.region ?_
  refine Ops.y (v := .string _) (Y.move rfl) ?_
  refine Ops.go (O.callv I Tryz.call47 (dcut_is _ I.base_ok s [40] hs (by decide) hct) rfl ?_)
  intro w I
  refine Ops.y (v := .tuple #[_, _, _]) (Y.move rfl) ?_
  refine Ops.y (v := .string _) (Y.extract rfl rfl) ?_
  refine Ops.y (v := .string _) (Y.extract rfl rfl) ?_
  refine Ops.y (v := .bool _) (Y.extract rfl rfl) ?_
  refine Ops.y (v := .string _) (Y.assign rfl) ?_
  refine Ops.y (v := .string _) (Y.assign rfl) ?_
  refine Ops.y (v := .bool _) (Y.assign rfl) ?_
  refine Ops.nil ?_
  refine WP.seq ?_
  refine WP.region ?_
  refine Ops.y (v := .agg #[.int .i64 _, .slice _ _ _]) (Y.build pl_61 Tryz.zeroValue61 rfl rfl) ?_
  refine Ops.go (O.alloc I Tryz.zeroValue61 rfl ?_)
  intro b8 w I
  refine Ops.go (O.store (v := .agg #[_, _]) I ty_61 0 rfl rfl rfl rfl rfl rfl (Nat.le_of_ble_eq_true rfl) rfl ?_)
  intro w I
  refine Ops.nil ?_
  refine WP.seq ?_
  refine WP.seq ?_
  refine WP.region ?_
  refine Ops.y (v := .int .i64 _) (Y.assign rfl) ?_
  refine Ops.nil ?_
  refine WP.block ?_
  refine WP.loopE (σ := Nat) (fun k => [(0, l.val), (4, .pointer (some ⟨b4, 0, none⟩)), (5, .string (mk n0)), (6, .string (mk r0)), (7, .bool b0), (8, .pointer (some ⟨b8, 0, none⟩)), (9, .int .i64 k)])
    (fun k w => k ≤ l.xs.length ∧ Inv B B.h [box b8 [.int .i64 (pixF l.xs n0 k), .slice none 0 0] 61, box b4 [.int .i64 0, .slice none 0 0] 61] w) (fun k => l.xs.length - k)
    ⟨0, ⟨rfl, rfl, rfl, rfl, rfl, rfl, rfl, trivial⟩, Nat.zero_le _, I⟩ ?_
  clear I
  rintro k e w ⟨hk, I⟩
  refine WP.seq ?_
  refine WP.seq ?_
  refine WP.region ?_
  refine Ops.y (v := .int .i64 _) (Y.move rfl) ?_
  refine Ops.y (v := .slice _ _ _) (Y.move rfl) ?_
  refine Ops.y (v := .int .i64 _) (Y.lens Tryz.underlying22 rfl) ?_
  refine Ops.y (v := .bool (decide _)) (Y.lti rfl rfl) ?_
  refine Ops.nil ?_
  refine WP.cond_dec rfl (fun h21 => ?_) (fun h21 => ?_)
  · have hk' : k < l.xs.length := by omega
    have E := hl.at hk'
    have hg : l.xs.getD k default = l.xs[k] := by rw [List.getD_eq_getElem?_getD, List.getElem?_eq_getElem hk']; rfl
    have hp := pixF_succ l.xs n0 k
    rw [hg] at hp
    obtain ⟨x, hx⟩ : ∃ x, l.xs[k] = x := ⟨_, rfl⟩
    rw [hx] at E hp
    refine WP.skip ?_
    refine WP.seq ?_
    refine WP.block ?_
    refine WP.seq ?_
    refine WP.region ?_
    refine Ops.y (v := .slice _ _ _) (Y.move rfl) ?_
    refine Ops.y (v := .int .i64 _) (Y.move rfl) ?_
    refine Ops.y (v := .pointer (some ⟨_, _, none⟩)) (Y.idxEl E Tryz.underlying22 Tryz.sizeOf53 rfl rfl (Int.natCast_nonneg _) rfl) ?_
    refine Ops.y (v := .pointer (some ⟨_, _, none⟩)) (Y.fa0 fa_53_0 rfl) ?_
    refine Ops.y (v := .string _) (Y.loadv ty_9 rfl (I.rd (E.rd.part 0 1)) rfl rfl) ?_
    refine Ops.y (v := .string _) (Y.move rfl) ?_
    refine Ops.y (v := .bool _) (Y.eqs rfl rfl) ?_
    refine Ops.nil ?_
    refine WP.cond rfl (fun h30 => ?_) (fun h30 => ?_)
    · have hn : tx x.name = n0 := by rw [beq_tx] at h30; exact of_decide_eq_true h30
      rw [if_pos hn] at hp
      refine WP.region ?_
      refine Ops.y (v := .int .i64 _) (Y.move rfl) ?_
      refine Ops.y (v := .pointer (some ⟨_, _, none⟩)) (Y.fa0 fa_61_0 rfl) ?_
      refine Ops.go (O.store (v := .int .i64 _) I ty_3 0 rfl rfl rfl rfl rfl rfl (Nat.le_of_ble_eq_true rfl) rfl ?_)
      intro w I
      refine Ops.nil ?_
      refine WP.region ?_
      refine Ops.y (v := .int .i64 _) (Y.move rfl) ?_
      refine Ops.y (v := .int .i64 _) (Y.addi rfl rfl ⟨by omega, by omega⟩) ?_
      refine Ops.y (v := .int .i64 _) (Y.assign rfl) ?_
      refine Ops.nil ?_
      refine ⟨k + 1, ⟨⟨rfl, rfl, rfl, rfl, rfl, rfl, rfl, trivial⟩, by omega, ?_⟩, by omega⟩
      rw [hp]; exact I
    · have hn : ¬ tx x.name = n0 := by rw [beq_tx] at h30; exact of_decide_eq_false h30
      rw [if_neg hn] at hp
      refine WP.skip ?_
      refine WP.region ?_
      refine Ops.y (v := .int .i64 _) (Y.move rfl) ?_
      refine Ops.y (v := .int .i64 _) (Y.addi rfl rfl ⟨by omega, by omega⟩) ?_
      refine Ops.y (v := .int .i64 _) (Y.assign rfl) ?_
      refine Ops.nil ?_
      refine ⟨k + 1, ⟨⟨rfl, rfl, rfl, rfl, rfl, rfl, rfl, trivial⟩, by omega, ?_⟩, by omega⟩
      rw [hp]; exact I
  obtain rfl : k = l.xs.length := by omega
  generalize pixF l.xs n0 l.xs.length = P at I hF
  clear h21
  refine WP.exit ?_
  refine WP.seq ?_
  refine WP.block ?_
  refine WP.loopE (σ := Bs × Bool × List Trm × Option Addr × Nat × Heap) (fun z => [(0, l.val), (4, .pointer (some ⟨b4, 0, none⟩)), (6, .string (mk z.1)), (7, .bool z.2.1), (8, .pointer (some ⟨b8, 0, none⟩))])
    (fun z w => Inv B z.2.2.2.2.2 [ownSl 109 2 (.slice z.2.2.2.1 z.2.2.1.length z.2.2.2.2.1) z.2.2.1.length (z.2.2.1.flatMap Trm.enc), box b8 [.int .i64 P, .slice z.2.2.2.1 z.2.2.1.length z.2.2.2.2.1] 61, box b4 [.int .i64 0, .slice none 0 0] 61] w ∧ B.h.le z.2.2.2.2.2 ∧
      (∃ f, z.2.2.1 ++ (if z.2.1 = true then argsF f z.1 else []) = tot ∧ (z.2.1 = true → z.1.length < f)) ∧ z.1.length ≤ 4096 ∧ z.2.2.1.length + (if z.2.1 = true then z.1.length + 1 else 0) ≤ 4098) (fun z => if z.2.1 = true then z.1.length + 1 else 0)
    ⟨(r0, b0, [], none, 0, B.h), ⟨rfl, rfl, rfl, rfl, rfl, trivial⟩, I.nilSl 109 2, Heap.le.refl _, ⟨(tx s).length + 1, by rw [← htot]; rfl, fun _ => by dsimp only; omega⟩, by dsimp only; omega, by show 0 + (if b0 = true then r0.length + 1 else 0) ≤ 4098; split <;> omega⟩ ?_
  clear I
  rintro ⟨r, b, acc, q, c, hh⟩ e w ⟨I, gl, ⟨f, hf, hrf⟩, hr, hacc⟩
  dsimp only at I gl hf hrf hr hacc ⊢
  refine WP.seq ?_
  refine WP.seq ?_
  refine WP.region ?_
  refine Ops.y (v := .bool _) (Y.move rfl) ?_
  refine Ops.nil ?_
  refine WP.cond rfl (fun h33 => ?_) (fun h33 => ?_)
  · have hb : b = true := h33
    subst hb
    rw [if_pos rfl] at hf hacc
    have hrf := hrf rfl
    obtain ⟨f, rfl⟩ : ∃ g, f = g + 1 := ⟨f - 1, by omega⟩
    obtain ⟨c2, hc2⟩ : ∃ z, Lib.cut r [44] = z := ⟨_, rfl⟩
    obtain ⟨x, y, b2⟩ := c2
    have hlen2 := cut_len r [44]
    rw [hc2] at hlen2
    dsimp only at hlen2
    rw [argsF, hc2] at hf
    dsimp only at hf
    obtain ⟨wd, hwd⟩ : ∃ z, (if b2 = true then x else x.take (x.length - 1)) = z := ⟨_, rfl⟩
    have hwl : wd.length ≤ 4096 := by rw [← hwd]; split <;> first | omega | (rw [List.length_take]; omega)
    refine WP.skip ?_
    refine WP.block ?_
    refine WP.seq ?_
    refine WP.region ?_
    refine Ops.y (v := .string _) (Y.assign rfl) ?_
    refine Ops.nil ?_
    refine WP.seq ?_
    refine WP.region ?_
    refine Ops.y (v := .string _) (Y.move rfl) ?_
    refine Ops.go (O.callv I Tryz.call47 (dcut_is _ I.base_ok (mk r) [44] (by rw [mk_size]; omega) (by decide) hc2) rfl ?_)
    intro w I
    refine Ops.y (v := .tuple #[_, _, _]) (Y.move rfl) ?_
    refine Ops.y (v := .string _) (Y.extract rfl rfl) ?_
    refine Ops.y (v := .string _) (Y.extract rfl rfl) ?_
    refine Ops.y (v := .bool _) (Y.extract rfl rfl) ?_
    refine Ops.y (v := .string _) (Y.assign rfl) ?_
    refine Ops.y (v := .string _) (Y.assign rfl) ?_
    refine Ops.y (v := .bool _) (Y.assign rfl) ?_
    refine Ops.nil ?_
    refine WP.seq ?_
    refine WP.cutK (σ := Unit) (fun _ => [(0, l.val), (4, .pointer (some ⟨b4, 0, none⟩)), (6, .string (mk y)), (7, .bool b2), (8, .pointer (some ⟨b8, 0, none⟩)), (10, .string (mk wd))])
      (fun _ w => Inv B hh [ownSl 109 2 (.slice q acc.length c) acc.length (acc.flatMap Trm.enc), box b8 [.int .i64 P, .slice q acc.length c] 61, box b4 [.int .i64 0, .slice none 0 0] 61] w) ?_ ?_
    · cases b2 with
      | true =>
        rw [if_pos rfl] at hwd
        subst hwd
        refine WP.seq ?_
        refine WP.region ?_
        refine Ops.y (v := .bool _) (Y.move rfl) ?_
        refine Ops.y (v := .bool false) (Y.b (Y.not rfl) (rfl)) ?_
        refine Ops.y (v := .bool _) (Y.move rfl) ?_
        refine Ops.gf rfl ?_
        refine Ops.gf rfl ?_
        refine Ops.gf rfl ?_
        refine Ops.y (v := .bool _) (Y.pick_f rfl rfl) ?_
        refine Ops.nil ?_
        refine WP.cond_f rfl ?_
        refine WP.skip ?_
        exact ⟨(), ⟨rfl, rfl, rfl, rfl, rfl, rfl, trivial⟩, I⟩
      | false =>
        rw [if_neg (by decide)] at hwd
        by_cases hx0 : x = []
        · subst hx0
          subst hwd
          refine WP.seq ?_
          refine WP.region ?_
          refine Ops.y (v := .bool _) (Y.move rfl) ?_
          refine Ops.y (v := .bool true) (Y.b (Y.not rfl) (rfl)) ?_
          refine Ops.y (v := .bool _) (Y.move rfl) ?_
          refine Ops.ygt rfl (v := .string _) (Y.move rfl) ?_
          refine Ops.ygt rfl (v := .int .i64 _) (Y.lenstr Tryz.underlying9 rfl) ?_
          refine Ops.ygt rfl (v := .bool false) (Y.dec_f (Y.gti rfl rfl) ((by show ¬ ((0 : Nat) : Int) > 0; omega))) ?_
          refine Ops.y (v := .bool _) (Y.pick_t rfl rfl) ?_
          refine Ops.nil ?_
          refine WP.cond_f rfl ?_
          refine WP.skip ?_
          exact ⟨(), ⟨rfl, rfl, rfl, rfl, rfl, rfl, trivial⟩, I⟩
        · have hxp := List.length_pos_iff.2 hx0
          have hsub : (((mk x).size : Nat) : Int) - 1 = ((x.length - 1 : Nat) : Int) := by rw [mk_size]; omega
          subst hwd
          refine WP.seq ?_
          refine WP.region ?_
          refine Ops.y (v := .bool _) (Y.move rfl) ?_
          refine Ops.y (v := .bool true) (Y.b (Y.not rfl) (rfl)) ?_
          refine Ops.y (v := .bool _) (Y.move rfl) ?_
          refine Ops.ygt rfl (v := .string _) (Y.move rfl) ?_
          refine Ops.ygt rfl (v := .int .i64 _) (Y.lenstr Tryz.underlying9 rfl) ?_
          refine Ops.ygt rfl (v := .bool true) (Y.dec_t (Y.gti rfl rfl) ((by rw [mk_size]; omega))) ?_
          refine Ops.y (v := .bool _) (Y.pick_t rfl rfl) ?_
          refine Ops.nil ?_
          refine WP.cond_t rfl ?_
          refine WP.region ?_
          refine Ops.y (v := .string _) (Y.move rfl) ?_
          refine Ops.y (v := .string _) (Y.move rfl) ?_
          refine Ops.y (v := .int .i64 _) (Y.lenstr Tryz.underlying9 rfl) ?_
          refine Ops.y (v := .int .i64 _) (Y.subi rfl rfl ⟨by rw [mk_size]; omega, by rw [mk_size]; omega⟩) ?_
          refine Ops.y (v := .string _) (Y.slicestr (l := 0) (h := x.length - 1) Tryz.underlying9 rfl (.inl ⟨rfl, rfl⟩) (.inr ⟨_, _, rfl, congrArg (Value.int .i64) hsub⟩) (Nat.zero_le _) (by rw [mk_size]; omega)) ?_
          refine Ops.y (v := .string _) (Y.assign rfl) ?_
          refine Ops.nil ?_
          exact ⟨(), ⟨rfl, rfl, rfl, rfl, rfl, congrArg Value.string (mk_extract x 0 (x.length - 1)), trivial⟩, I⟩
    rintro _ e w I
    refine WP.regionG mixed RAp.pre ⟨hh, none⟩ (J := JAp B [box b8 [.int .i64 P, .slice q acc.length c] 61, box b4 [.int .i64 0, .slice none 0 0] 61] 109 2 acc.length 1 (.slice q acc.length c) (acc.flatMap Trm.enc) (termF wd).enc 5) ⟨rfl, I.drew⟩ 6 (by kernel_rfl) ?_
    refine OpsG.y_ (v := .pointer (some ⟨_, _, none⟩)) (fun _ => runsG_none _) RAp.pre (JAp.set (by decide)) (fun _ s w us hl hj => have I := hj.base; have hl := hl.h; Y.fa fa_61_1 rfl) ?_
    refine OpsG.y_ (v := .slice _ _ _) (fun _ => runsG_none _) RAp.pre (JAp.set (by decide)) (fun _ s w us hl hj => have I := hj.base; have hl := hl.h; Y.loadv ty_59 rfl (I.rdbox 0 rfl 1 1) rfl rfl) ?_
    refine OpsG.y_ (v := .string _) (fun _ => runsG_none _) RAp.pre (JAp.set (by decide)) (fun _ s w us hl hj => have I := hj.base; have hl := hl.h; Y.move rfl) ?_
    refine OpsG.x_ (Φ := KnAp (EqV ((termF wd).val))) (KnAp.mono EqV.mono) (fun _ => runsG_none _) (fun D' z w hDk hl hj => ?_) ?_
    · refine AllG.all fun us => ?_
      refine hj.know (by decide) fun N I => ?_
      have hl := hl.h
      refine O.call I Tryz.call154 (termFrom_ok _ I.base_ok (mk wd) (by rw [mk_size]; omega)) rfl ?_
      rintro _ h2 w I hl' rfl
      exact ⟨_, hl', I, rfl⟩
    refine OpsG.x_ (Φ := KnA (LitW 109 (termF wd).enc 1)) (KnA.mono LitW.mono) (fun _ => runsG_none _) (fun D' z w hDk hl hj => ?_) ?_
    · intro u55 q55
      obtain rfl : u55 = (termF wd).val := q55 rfl
      refine hj.know (by decide) fun N I => ?_
      exact O.mklit (cs := (termF wd).enc) I Tryz.underlying59 Tryz.sizeOf109 Tryz.zeroValue109 (by decide) (by decide) rfl rfl (fun v h w I le sl => ⟨h, le, I, sl⟩)
    refine OpsG.x_ (Φ := AtAp (acc.length + 1)) AtAp.mono (fun _ => runsG_none _) (fun D' z w hDk hl hj => ?_) ?_
    · intro u55 q55 u56 q56
      obtain ⟨bl, rfl, hbl⟩ := q56 rfl
      refine hj.app hDk fun I => ?_
      have kb : Known z.h bl (termF wd).enc := ⟨fun j v hv => by simp [Heap.cell, hbl, hv]⟩
      refine O.append I Tryz.underlying59 et_109 0 rfl rfl rfl (I.rd kb.rd) rfl rfl (by decide) (by omega) (by omega) ?_
      intro g c w I
      exact ⟨g, c, rfl, I⟩
    refine OpsG.nil ?_
    intro D z w hD hl hj u55 q55 u56 q56 u57 q57
    obtain ⟨g, c4, rfl, h7'⟩ := q57 rfl
    have I := hj.inv
    rw [h7'] at I
    refine Ops.y (v := .pointer (some ⟨_, _, none⟩)) (Y.fa fa_61_1 rfl) ?_
    refine Ops.go (O.store (v := .slice _ _ _) I ty_59 1 rfl rfl rfl rfl rfl rfl (Nat.le_of_ble_eq_true rfl) rfl ?_)
    intro w I
    refine Ops.nil ?_
    refine ⟨(y, b2, acc ++ [termF wd], some ⟨g, 0, none⟩, c4, z.h), ⟨⟨rfl, rfl, rfl, rfl, rfl, trivial⟩, ?_, gl.trans hl.h, ⟨f, ?_, fun hb2 => ?_⟩, by dsimp only; omega, ?_⟩, ?_⟩
    · simp only [List.length_append, List.length_singleton, List.flatMap_append, List.flatMap_singleton]
      exact I
    · dsimp only
      rw [← hf, ← hwd]
      cases b2 <;> simp
    · dsimp only at hb2 ⊢
      subst hb2
      have := cut_more hc2 (by decide)
      omega
    · dsimp only
      rw [List.length_append, List.length_singleton]
      cases b2 with
      | true => have := cut_more hc2 (by decide); rw [if_pos rfl]; omega
      | false => rw [if_neg (by decide)]; omega
    · dsimp only
      cases b2 with
      | true => have := cut_more hc2 (by decide); rw [if_pos rfl, if_pos rfl]; omega
      | false => rw [if_neg (by decide), if_pos rfl]; omega
  have hb : b = false := by simpa using h33
  subst hb
  rw [if_neg (by decide), List.append_nil] at hf
  rw [if_neg (by decide)] at hacc
  obtain ⟨h9, sl, le9, hv, hx, os, I⟩ := I.settleO rfl
  rw [← hv] at I
  refine WP.exit ?_
  refine WP.seq ?_
  refine WP.region ?_
  refine Ops.y (v := .agg #[_, _]) (Y.loadv ty_61 rfl (I.rdbox 0 rfl 0 2) rfl rfl) ?_
  refine Ops.go (O.store (v := .agg #[_, _]) I ty_61 1 rfl rfl rfl rfl rfl rfl (Nat.le_of_ble_eq_true rfl) rfl ?_)
  intro w I
  refine Ops.nil ?_
  refine WP.ret ?_
  repeat (first | refine thenE_ret ?_ | refine blockE_ret ?_)
  exact retQ.mk (vs := [.agg #[_, _]]) rfl ⟨⟨_, _, _, _, _, rfl, ty_61, I.rdbox 1 rfl 0 2, rfl, rfl⟩, trivial⟩ I.ext_of (⟨⟨P, sl⟩, rfl, os.older gl, by show sl.xs.length ≤ _; rw [hx]; omega, by rw [hF, ← hf, ← hx]; rfl⟩)
end Go.TF
end
section
/- The document reads a rule: walked. -/
namespace Go.TF
open Go Go.RowKit Go.Proofs
set_option maxRecDepth 20000

structure RulO (l : List Prd) (s : Bs) (r : Rul) (h0 h : Heap) : Prop where
  ho : OwnH 109 2 r.head.args Trm.enc h0 h
  hn : r.head.args.xs.length ≤ 4098
  bo : OwnH 68 3 r.body Ltl.enc h0 h
  bn : r.body.xs.length ≤ 4098
  lo : ∀ x ∈ r.body.xs, OwnH 109 2 x.atom.args Trm.enc h0 h ∧ x.atom.args.xs.length ≤ 4098
  er : r.er = ruleF l s
set_option maxHeartbeats 16000000 in
theorem ruleFrom_ok (B : Base) (hB : B.ok) (l : Sl Prd) (hl : Prds l B.h) (s : ByteArray) (hs : s.size ≤ 4096) : Fn Tryz.prog 49 [l.val, .string s] B (fun v h => ∃ r : Rul, v = r.val ∧ RulO l.xs (tx s) r B.h h) := by
  have hl0 := tx_len s
  obtain ⟨ct, hct⟩ : ∃ z, Lib.cut (tx s) [32, 58, 45, 32] = z := ⟨_, rfl⟩
  obtain ⟨n0, r0, b0⟩ := ct
  have hlen := cut_len (tx s) [32, 58, 45, 32]
  rw [hct] at hlen
  dsimp only at hlen
  obtain ⟨c2, hc2⟩ : ∃ z, Lib.cut n0 [32, 61, 32] = z := ⟨_, rfl⟩
  obtain ⟨n1, r1, b1⟩ := c2
  have hlen1 := cut_len n0 [32, 61, 32]
  rw [hc2] at hlen1
  dsimp only at hlen1
  obtain ⟨c3, hc3⟩ : ∃ z, Lib.cut r1 [43] = z := ⟨_, rfl⟩
  obtain ⟨n2, r2, b2⟩ := c3
  have hlen2 := cut_len r1 [43]
  rw [hc3] at hlen2
  dsimp only at hlen2
  obtain ⟨tot, htot⟩ : ∃ z, (if b0 = true then litsF l.xs ((tx s).length + 1) r0 else []) = z := ⟨_, rfl⟩
  obtain ⟨hv, hhv⟩ : ∃ z, hdF n0 = z := ⟨_, rfl⟩
  obtain ⟨hd, v1, v2⟩ := hv
  have hF : ruleF l.xs (tx s) = mkR (atomF l.xs hd) (v1, v2) tot := by unfold ruleF; rw [hct]; dsimp only; rw [hhv, ← htot]
  have hH : (if b1 = true then (n1, (if b2 = true ∧ n2 ≠ [] then (saidL (n2.drop 1), saidL r2) else (-1, saidL r1))) else (n0, ((-1 : Int), (0 : Int)))) = (hd, v1, v2) := by
    rw [← hhv]; unfold hdF valF; rw [hc2]; dsimp only; rw [hc3]
  refine Fn.of Tryz.func49 rfl Tryz.ntmps49 (by kernel_rfl) (by simp) ?_
  intro e
  have I := Inv.start hB
  refine WP.seq ?_
  refine WP.region ?_
  refine Ops.go (O.alloc I Tryz.zeroValue64 rfl ?_)
  intro b4 w I
  refine Ops.nil ?_
  refine WP.seq ?_
  refine WP.region ?_
  refine Ops.y (v := .string _) (Y.move rfl) ?_
  refine Ops.go (O.callv I Tryz.call47 (dcut_is _ I.base_ok s [32, 58, 45, 32] hs (by decide) hct) rfl ?_)
  intro w I
  refine Ops.y (v := .tuple #[_, _, _]) (Y.move rfl) ?_
  refine Ops.y (v := .string _) (Y.extract rfl rfl) ?_
  refine Ops.y (v := .string _) (Y.extract rfl rfl) ?_
  refine Ops.y (v := .bool _) (Y.extract rfl rfl) ?_
  refine Ops.y (v := .string _) (Y.assign rfl) ?_
  refine Ops.y (v := .string _) (Y.assign rfl) ?_
  refine Ops.y (v := .bool _) (Y.assign rfl) ?_
  refine Ops.nil ?_
  refine WP.seq ?_
  refine WP.region ?_
  refine Ops.y (v := .agg #[.int .i64 _, .slice _ _ _, .int .i64 _, .int .i64 _, .slice _ _ _]) (Y.build pl_64 Tryz.zeroValue64 rfl rfl) ?_
  refine Ops.go (O.alloc I Tryz.zeroValue64 rfl ?_)
  intro b8 w I
  refine Ops.go (O.store (v := .agg #[_, _, _, _, _]) I ty_64 0 rfl rfl rfl rfl rfl rfl (Nat.le_of_ble_eq_true rfl) rfl ?_)
  intro w I
  refine Ops.nil ?_
  refine WP.seq ?_
  refine WP.seq ?_
  refine WP.region ?_
  refine Ops.y (v := .string _) (Y.move rfl) ?_
  refine Ops.go (O.callv I Tryz.call47 (dcut_is _ I.base_ok (mk n0) [32, 61, 32] (by rw [mk_size]; omega) (by decide) hc2) rfl ?_)
  intro w I
  refine Ops.y (v := .tuple #[_, _, _]) (Y.move rfl) ?_
  refine Ops.y (v := .string _) (Y.extract rfl rfl) ?_
  refine Ops.y (v := .string _) (Y.extract rfl rfl) ?_
  refine Ops.y (v := .bool _) (Y.extract rfl rfl) ?_
  refine Ops.y (v := .string _) (Y.assign rfl) ?_
  refine Ops.y (v := .string _) (Y.assign rfl) ?_
  refine Ops.y (v := .bool _) (Y.assign rfl) ?_
  refine Ops.nil ?_
  refine WP.seq ?_
  refine WP.region ?_
  refine Ops.y (v := .bool _) (Y.move rfl) ?_
  refine Ops.nil ?_
  refine WP.cutK (σ := Unit) (fun _ => [(0, l.val), (4, .pointer (some ⟨b4, 0, none⟩)), (5, .string (mk hd)), (6, .string (mk r0)), (7, .bool b0), (8, .pointer (some ⟨b8, 0, none⟩))])
    (fun _ w => hd.length ≤ 4096 ∧ Inv B B.h [box b8 [.int .i64 0, .slice none 0 0, .int .i64 v1, .int .i64 v2, .slice none 0 0] 64, box b4 [.int .i64 0, .slice none 0 0, .int .i64 0, .int .i64 0, .slice none 0 0] 64] w) ?_ ?_
  · refine WP.cond rfl (fun h30 => ?_) (fun h30 => ?_)
    · have hb : b1 = true := h30
      rw [if_pos hb] at hH
      injection hH with e1 e2
      subst e1
      refine WP.seq ?_
      refine WP.region ?_
      refine Ops.y (v := .string _) (Y.move rfl) ?_
      refine Ops.y (v := .string _) (Y.assign rfl) ?_
      refine Ops.nil ?_
      refine WP.seq ?_
      refine WP.region ?_
      refine Ops.y (v := .string _) (Y.move rfl) ?_
      refine Ops.go (O.callv I Tryz.call47 (dcut_is _ I.base_ok (mk r1) [43] (by rw [mk_size]; omega) (by decide) hc3) rfl ?_)
      intro w I
      refine Ops.y (v := .tuple #[_, _, _]) (Y.move rfl) ?_
      refine Ops.y (v := .string _) (Y.extract rfl rfl) ?_
      refine Ops.y (v := .string _) (Y.extract rfl rfl) ?_
      refine Ops.y (v := .bool _) (Y.extract rfl rfl) ?_
      refine Ops.y (v := .string _) (Y.assign rfl) ?_
      refine Ops.y (v := .string _) (Y.assign rfl) ?_
      refine Ops.y (v := .bool _) (Y.assign rfl) ?_
      refine Ops.nil ?_
      by_cases hb2 : b2 = true ∧ n2 ≠ []
      · rw [if_pos hb2] at e2
        injection e2 with e2 e3
        subst e2; subst e3
        have hxp := List.length_pos_iff.2 hb2.2
        have e1 : (mk n2).extract 1 (mk n2).size = mk (n2.drop 1) := by rw [mk_extract, mk_size, List.take_length]
        refine WP.seq ?_
        refine WP.seq ?_
        refine WP.region ?_
        refine Ops.y (v := .bool _) (Y.move rfl) ?_
        refine Ops.y (v := .bool true) (Y.b (Y.move rfl) ((by rw [hb2.1]))) ?_
        refine Ops.ygt rfl (v := .string _) (Y.move rfl) ?_
        refine Ops.ygt rfl (v := .int .i64 _) (Y.lenstr Tryz.underlying9 rfl) ?_
        refine Ops.ygt rfl (v := .bool true) (Y.dec_t (Y.gti rfl rfl) ((by rw [mk_size]; omega))) ?_
        refine Ops.y (v := .bool _) (Y.pick_t rfl rfl) ?_
        refine Ops.nil ?_
        refine WP.cond_t rfl ?_
        refine WP.seq ?_
        refine WP.region ?_
        refine Ops.y (v := .string _) (Y.move rfl) ?_
        refine Ops.y (v := .string _) (Y.slicestr (l := 1) (h := (mk n2).size) Tryz.underlying9 rfl (.inr ⟨_, _, rfl, rfl⟩) (.inl ⟨rfl, rfl⟩) (by rw [mk_size]; omega) (Nat.le_refl _)) ?_
        refine Ops.go (O.callv I Tryz.call48 (said_ok _ I.base_ok ((mk n2).extract 1 (mk n2).size) (by rw [e1, mk_size, List.length_drop]; omega)) rfl ?_)
        intro w I
        refine Ops.y (v := .pointer (some ⟨_, _, none⟩)) (Y.fa fa_64_1 rfl) ?_
        refine Ops.go (O.store (v := .int .i64 _) I ty_3 0 rfl rfl rfl rfl rfl rfl (Nat.le_of_ble_eq_true rfl) rfl ?_)
        intro w I
        refine Ops.nil ?_
        refine WP.region ?_
        refine Ops.y (v := .string _) (Y.move rfl) ?_
        refine Ops.y (v := .string _) (Y.assign rfl) ?_
        refine Ops.nil ?_
        refine WP.region ?_
        refine Ops.y (v := .string _) (Y.move rfl) ?_
        refine Ops.go (O.callv I Tryz.call48 (said_ok _ I.base_ok (mk r2) (by rw [mk_size]; omega)) rfl ?_)
        intro w I
        refine Ops.y (v := .pointer (some ⟨_, _, none⟩)) (Y.fa fa_64_2 rfl) ?_
        refine Ops.go (O.store (v := .int .i64 _) I ty_3 0 rfl rfl rfl rfl rfl rfl (Nat.le_of_ble_eq_true rfl) rfl ?_)
        intro w I
        refine Ops.nil ?_
        rw [e1] at I
        exact ⟨(), ⟨rfl, rfl, rfl, rfl, rfl, rfl, trivial⟩, by omega, I⟩
      · rw [if_neg hb2] at e2
        injection e2 with e2 e3
        subst e2; subst e3
        by_cases hb3 : b2 = true
        · have hn : n2 = [] := by
            cases n2 with
            | nil => rfl
            | cons _ _ => exact absurd ⟨hb3, by simp⟩ hb2
          subst hn
          refine WP.seq ?_
          refine WP.seq ?_
          refine WP.region ?_
          refine Ops.y (v := .bool _) (Y.move rfl) ?_
          refine Ops.y (v := .bool true) (Y.b (Y.move rfl) ((by rw [hb3]))) ?_
          refine Ops.ygt rfl (v := .string _) (Y.move rfl) ?_
          refine Ops.ygt rfl (v := .int .i64 _) (Y.lenstr Tryz.underlying9 rfl) ?_
          refine Ops.ygt rfl (v := .bool false) (Y.dec_f (Y.gti rfl rfl) ((by show ¬ ((0 : Nat) : Int) > 0; omega))) ?_
          refine Ops.y (v := .bool _) (Y.pick_t rfl rfl) ?_
          refine Ops.nil ?_
          refine WP.cond_f rfl ?_
          refine WP.skip ?_
          refine WP.region ?_
          refine Ops.y (v := .string _) (Y.move rfl) ?_
          refine Ops.go (O.callv I Tryz.call48 (said_ok _ I.base_ok (mk r1) (by rw [mk_size]; omega)) rfl ?_)
          intro w I
          refine Ops.y (v := .pointer (some ⟨_, _, none⟩)) (Y.fa fa_64_2 rfl) ?_
          refine Ops.go (O.store (v := .int .i64 _) I ty_3 0 rfl rfl rfl rfl rfl rfl (Nat.le_of_ble_eq_true rfl) rfl ?_)
          intro w I
          refine Ops.nil ?_
          exact ⟨(), ⟨rfl, rfl, rfl, rfl, rfl, rfl, trivial⟩, by omega, I⟩
        · have hb3 : b2 = false := by simpa using hb3
          refine WP.seq ?_
          refine WP.seq ?_
          refine WP.region ?_
          refine Ops.y (v := .bool _) (Y.move rfl) ?_
          refine Ops.y (v := .bool false) (Y.b (Y.move rfl) ((by rw [hb3]))) ?_
          refine Ops.gf rfl ?_
          refine Ops.gf rfl ?_
          refine Ops.gf rfl ?_
          refine Ops.y (v := .bool _) (Y.pick_f rfl rfl) ?_
          refine Ops.nil ?_
          refine WP.cond_f rfl ?_
          refine WP.skip ?_
          refine WP.region ?_
          refine Ops.y (v := .string _) (Y.move rfl) ?_
          refine Ops.go (O.callv I Tryz.call48 (said_ok _ I.base_ok (mk r1) (by rw [mk_size]; omega)) rfl ?_)
          intro w I
          refine Ops.y (v := .pointer (some ⟨_, _, none⟩)) (Y.fa fa_64_2 rfl) ?_
          refine Ops.go (O.store (v := .int .i64 _) I ty_3 0 rfl rfl rfl rfl rfl rfl (Nat.le_of_ble_eq_true rfl) rfl ?_)
          intro w I
          refine Ops.nil ?_
          exact ⟨(), ⟨rfl, rfl, rfl, rfl, rfl, rfl, trivial⟩, by omega, I⟩
    · have hb : b1 = false := by simpa using h30
      rw [if_neg (by rw [hb]; decide)] at hH
      injection hH with e1 e2
      injection e2 with e2 e3
      subst e1; subst e2; subst e3
      refine WP.skip ?_
      exact ⟨(), ⟨rfl, rfl, rfl, rfl, rfl, rfl, trivial⟩, by omega, I⟩
  rintro _ e w ⟨hhd, I⟩
  refine WP.seq ?_
  refine WP.region ?_
  refine Ops.y (v := .slice _ _ _) (Y.move rfl) ?_
  refine Ops.y (v := .string _) (Y.move rfl) ?_
  refine Ops.go (O.call I Tryz.call108 (atomFrom_ok _ I.base_ok l hl (mk hd) (by rw [mk_size]; omega)) rfl ?_)
  rintro _ h1 w I gl1 ⟨a1, rfl, oa1, la1, ra1⟩
  refine Ops.y (v := .pointer (some ⟨_, _, none⟩)) (Y.fa0 fa_64_0 rfl) ?_
  refine Ops.go (O.store (v := .agg #[_, _]) I ty_61 0 rfl rfl rfl rfl rfl rfl (Nat.le_of_ble_eq_true rfl) rfl ?_)
  intro w I
  refine Ops.nil ?_
  have ra1 : a1.er = atomF l.xs hd := ra1
  refine WP.seq ?_
  refine WP.block ?_
  refine WP.loopE (σ := Bs × Bool × List Ltl × Option Addr × Nat × Heap) (fun z => [(0, l.val), (4, .pointer (some ⟨b4, 0, none⟩)), (6, .string (mk z.1)), (7, .bool z.2.1), (8, .pointer (some ⟨b8, 0, none⟩))])
    (fun z w => Inv B z.2.2.2.2.2 [ownSl 68 3 (.slice z.2.2.2.1 z.2.2.1.length z.2.2.2.2.1) z.2.2.1.length (z.2.2.1.flatMap Ltl.enc), box b8 [.int .i64 a1.pred, a1.args.val, .int .i64 v1, .int .i64 v2, .slice z.2.2.2.1 z.2.2.1.length z.2.2.2.2.1] 64, box b4 [.int .i64 0, .slice none 0 0, .int .i64 0, .int .i64 0, .slice none 0 0] 64] w ∧ h1.le z.2.2.2.2.2 ∧
      (∃ f, z.2.2.1.map Ltl.er ++ (if z.2.1 = true then litsF l.xs f z.1 else []) = tot ∧ (z.2.1 = true → z.1.length < f)) ∧ z.1.length ≤ 4096 ∧ z.2.2.1.length + (if z.2.1 = true then z.1.length + 1 else 0) ≤ 4098 ∧
      (∀ x ∈ z.2.2.1, OwnH 109 2 x.atom.args Trm.enc B.h z.2.2.2.2.2 ∧ x.atom.args.xs.length ≤ 4098)) (fun z => if z.2.1 = true then z.1.length + 1 else 0)
    ⟨(r0, b0, [], none, 0, h1), ⟨rfl, rfl, rfl, rfl, rfl, trivial⟩, I.nilSl 68 3, Heap.le.refl _, ⟨(tx s).length + 1, by rw [← htot]; rfl, fun _ => by dsimp only; omega⟩, by dsimp only; omega, by show 0 + (if b0 = true then r0.length + 1 else 0) ≤ 4098; split <;> omega, fun _ h => (by cases h)⟩ ?_
  clear I
  rintro ⟨r, b, acc, q, c, hh⟩ e w ⟨I, gl, ⟨f, hf, hrf⟩, hr, hacc, hown⟩
  dsimp only at I gl hf hrf hr hacc hown ⊢
  refine WP.seq ?_
  refine WP.seq ?_
  refine WP.region ?_
  refine Ops.y (v := .bool _) (Y.move rfl) ?_
  refine Ops.nil ?_
  refine WP.cond rfl (fun h56 => ?_) (fun h56 => ?_)
  · have hb : b = true := h56
    subst hb
    rw [if_pos rfl] at hf hacc
    have hrf := hrf rfl
    obtain ⟨f, rfl⟩ : ∃ g, f = g + 1 := ⟨f - 1, by omega⟩
    obtain ⟨c5, hc5⟩ : ∃ z, Lib.cut r [44, 32] = z := ⟨_, rfl⟩
    obtain ⟨x, y, b5⟩ := c5
    have hlen5 := cut_len r [44, 32]
    rw [hc5] at hlen5
    dsimp only at hlen5
    rw [litsF, hc5] at hf
    dsimp only at hf
    obtain ⟨nw, hnw⟩ : ∃ z, (if x.head? = some 33 then (true, x.drop 1) else (false, x)) = z := ⟨_, rfl⟩
    obtain ⟨ng, wd⟩ := nw
    have hL : litF l.xs x = ⟨ng, atomF l.xs wd⟩ := by
      unfold litF
      split at hnw <;> rename_i hh33 <;> (injection hnw with e1 e2; subst e1; subst e2) <;> simp [hh33]
    have hwl : wd.length ≤ 4096 := by
      split at hnw <;> (injection hnw with _ e2; subst e2) <;> first | omega | (rw [List.length_drop]; omega)
    refine WP.skip ?_
    refine WP.block ?_
    refine WP.seq ?_
    refine WP.region ?_
    refine Ops.y (v := .string _) (Y.assign rfl) ?_
    refine Ops.nil ?_
    refine WP.seq ?_
    refine WP.region ?_
    refine Ops.y (v := .string _) (Y.move rfl) ?_
    refine Ops.go (O.callv I Tryz.call47 (dcut_is _ I.base_ok (mk r) [44, 32] (by rw [mk_size]; omega) (by decide) hc5) rfl ?_)
    intro w I
    refine Ops.y (v := .tuple #[_, _, _]) (Y.move rfl) ?_
    refine Ops.y (v := .string _) (Y.extract rfl rfl) ?_
    refine Ops.y (v := .string _) (Y.extract rfl rfl) ?_
    refine Ops.y (v := .bool _) (Y.extract rfl rfl) ?_
    refine Ops.y (v := .string _) (Y.assign rfl) ?_
    refine Ops.y (v := .string _) (Y.assign rfl) ?_
    refine Ops.y (v := .bool _) (Y.assign rfl) ?_
    refine Ops.nil ?_
    refine WP.seq ?_
    refine WP.region ?_
    refine Ops.y (v := .agg #[.bool _, .int .i64 _, .slice _ _ _]) (Y.build pl_68 Tryz.zeroValue68 rfl rfl) ?_
    refine Ops.go (O.alloc I Tryz.zeroValue68 rfl ?_)
    intro b16 w I
    refine Ops.go (O.store (v := .agg #[_, _, _]) I ty_68 0 rfl rfl rfl rfl rfl rfl (Nat.le_of_ble_eq_true rfl) rfl ?_)
    intro w I
    refine Ops.nil ?_
    refine WP.seq ?_
    refine WP.cutK (σ := Unit) (fun _ => [(0, l.val), (4, .pointer (some ⟨b4, 0, none⟩)), (6, .string (mk y)), (7, .bool b5), (8, .pointer (some ⟨b8, 0, none⟩)), (15, .string (mk wd)), (16, .pointer (some ⟨b16, 0, none⟩))])
      (fun _ w => Inv B hh [box b16 [.bool ng, .int .i64 0, .slice none 0 0] 68, ownSl 68 3 (.slice q acc.length c) acc.length (acc.flatMap Ltl.enc), box b8 [.int .i64 a1.pred, a1.args.val, .int .i64 v1, .int .i64 v2, .slice q acc.length c] 64, box b4 [.int .i64 0, .slice none 0 0, .int .i64 0, .int .i64 0, .slice none 0 0] 64] w) ?_ ?_
    · cases x with
      | nil =>
        rw [if_neg (by simp)] at hnw
        injection hnw with e1 e2
        subst e1; subst e2
        refine WP.seq ?_
        refine WP.region ?_
        refine Ops.y (v := .string _) (Y.move rfl) ?_
        refine Ops.y (v := .int .i64 _) (Y.lenstr Tryz.underlying9 rfl) ?_
        refine Ops.y (v := .bool false) (Y.dec_f (Y.gti rfl rfl) ((by show ¬ ((0 : Nat) : Int) > 0; omega))) ?_
        refine Ops.y (v := .bool _) (Y.move rfl) ?_
        refine Ops.gf rfl ?_
        refine Ops.gf rfl ?_
        refine Ops.gf rfl ?_
        refine Ops.y (v := .bool _) (Y.pick_f rfl rfl) ?_
        refine Ops.nil ?_
        refine WP.cond_f rfl ?_
        refine WP.skip ?_
        exact ⟨(), ⟨rfl, rfl, rfl, rfl, rfl, rfl, rfl, trivial⟩, I⟩
      | cons ch x' =>
        have hg : (mk (ch :: x'))[0]? = some ch := rfl
        have hsz : (mk (ch :: x')).size = x'.length + 1 := mk_size _
        by_cases h33 : ch = 33
        · subst h33
          rw [if_pos (by rfl : ((33 : UInt8) :: x').head? = some 33)] at hnw
          injection hnw with e1 e2
          subst e1
          have e3 : (mk ((33 : UInt8) :: x')).extract 1 (mk ((33 : UInt8) :: x')).size = mk wd := by rw [mk_extract, mk_size, List.take_length, e2]
          refine WP.seq ?_
          refine WP.region ?_
          refine Ops.y (v := .string _) (Y.move rfl) ?_
          refine Ops.y (v := .int .i64 _) (Y.lenstr Tryz.underlying9 rfl) ?_
          refine Ops.y (v := .bool true) (Y.dec_t (Y.gti rfl rfl) ((by rw [hsz]; omega))) ?_
          refine Ops.y (v := .bool _) (Y.move rfl) ?_
          refine Ops.ygt rfl (v := .string _) (Y.move rfl) ?_
          refine Ops.ygt rfl (v := .int .u8 _) (Y.idxs Tryz.underlying9 rfl rfl (by decide) hg) ?_
          refine Ops.ygt rfl (v := .bool true) (Y.dec_t (Y.eqi rfl rfl) (rfl)) ?_
          refine Ops.y (v := .bool _) (Y.pick_t rfl rfl) ?_
          refine Ops.nil ?_
          refine WP.cond_t rfl ?_
          refine WP.seq ?_
          refine WP.region ?_
          refine Ops.y (v := .pointer (some ⟨_, _, none⟩)) (Y.fa0 fa_68_0 rfl) ?_
          refine Ops.go (O.store (v := .bool _) I ty_4 0 rfl rfl rfl rfl rfl rfl (Nat.le_of_ble_eq_true rfl) rfl ?_)
          intro w I
          refine Ops.nil ?_
          refine WP.region ?_
          refine Ops.y (v := .string _) (Y.move rfl) ?_
          refine Ops.y (v := .string _) (Y.slicestr (l := 1) (h := (mk ((33 : UInt8) :: x')).size) Tryz.underlying9 rfl (.inr ⟨_, _, rfl, rfl⟩) (.inl ⟨rfl, rfl⟩) (by rw [hsz]; omega) (Nat.le_refl _)) ?_
          refine Ops.y (v := .string _) (Y.assign rfl) ?_
          refine Ops.nil ?_
          exact ⟨(), ⟨rfl, rfl, rfl, rfl, rfl, congrArg Value.string e3, rfl, trivial⟩, I⟩
        · rw [if_neg (by simpa using h33)] at hnw
          injection hnw with e1 e2
          subst e1; subst e2
          refine WP.seq ?_
          refine WP.region ?_
          refine Ops.y (v := .string _) (Y.move rfl) ?_
          refine Ops.y (v := .int .i64 _) (Y.lenstr Tryz.underlying9 rfl) ?_
          refine Ops.y (v := .bool true) (Y.dec_t (Y.gti rfl rfl) ((by rw [hsz]; omega))) ?_
          refine Ops.y (v := .bool _) (Y.move rfl) ?_
          refine Ops.ygt rfl (v := .string _) (Y.move rfl) ?_
          refine Ops.ygt rfl (v := .int .u8 _) (Y.idxs Tryz.underlying9 rfl rfl (by decide) hg) ?_
          refine Ops.ygt rfl (v := .bool false) (Y.dec_f (Y.eqi rfl rfl) ((fun e => h33 (UInt8.toNat_inj.1 (by have : (ch.toNat : Int) = 33 := e; show ch.toNat = 33; omega))))) ?_
          refine Ops.y (v := .bool _) (Y.pick_t rfl rfl) ?_
          refine Ops.nil ?_
          refine WP.cond_f rfl ?_
          refine WP.skip ?_
          exact ⟨(), ⟨rfl, rfl, rfl, rfl, rfl, rfl, rfl, trivial⟩, I⟩
    rintro _ e w I
    refine WP.seq ?_
    refine WP.region ?_
    refine Ops.y (v := .slice _ _ _) (Y.move rfl) ?_
    refine Ops.y (v := .string _) (Y.move rfl) ?_
    refine Ops.go (O.call I Tryz.call108 (atomFrom_ok _ I.base_ok l (hl.le (gl1.trans gl)) (mk wd) (by rw [mk_size]; omega)) rfl ?_)
    rintro _ h2 w I gl2 ⟨a2, rfl, oa2, la2, ra2⟩
    refine Ops.y (v := .pointer (some ⟨_, _, none⟩)) (Y.fa fa_68_1 rfl) ?_
    refine Ops.go (O.store (v := .agg #[_, _]) I ty_61 0 rfl rfl rfl rfl rfl rfl (Nat.le_of_ble_eq_true rfl) rfl ?_)
    intro w I
    refine Ops.nil ?_
    have ra2 : a2.er = atomF l.xs wd := ra2
    obtain ⟨z, hz⟩ : ∃ z : Ltl, z = ⟨ng, a2⟩ := ⟨_, rfl⟩
    have hze : z.er = litF l.xs x := by rw [hL, ← ra2, hz]; rfl
    have I : Inv B h2 [box b16 z.enc 68, ownSl 68 3 (.slice q acc.length c) acc.length (acc.flatMap Ltl.enc), box b8 [.int .i64 a1.pred, a1.args.val, .int .i64 v1, .int .i64 v2, .slice q acc.length c] 64, box b4 [.int .i64 0, .slice none 0 0, .int .i64 0, .int .i64 0, .slice none 0 0] 64] w := by subst hz; exact I
    refine WP.region ?_
    refine Ops.y (v := .pointer (some ⟨_, _, none⟩)) (Y.fa fa_64_3 rfl) ?_
    refine Ops.y (v := .slice _ _ _) (Y.loadv ty_62 rfl (I.rdbox 2 rfl 4 1) rfl rfl) ?_
    refine Ops.y (v := .agg #[_, _, _]) (Y.loadv ty_68 rfl (I.rdbox 0 rfl 0 3) rfl rfl) ?_
    refine Ops.go (O.mksl (xs := [z]) (enc := Ltl.enc) I Tryz.underlying62 Tryz.sizeOf68 Tryz.zeroValue68 rfl (Nat.le_of_ble_eq_true rfl) rfl rfl (by decide) (fun _ => rfl) ?_)
    intro b82 h82 w I le82 sl82
    refine Ops.go (O.append I Tryz.underlying62 et_68 1 rfl rfl rfl (I.rd (sl82 0 _ rfl).2) rfl rfl (by decide) (by omega) (by omega) ?_)
    intro b83 c83 w I
    refine Ops.y (v := .pointer (some ⟨_, _, none⟩)) (Y.fa fa_64_3 rfl) ?_
    refine Ops.go (O.store (v := .slice _ _ _) I ty_62 2 rfl rfl rfl rfl rfl rfl (Nat.le_of_ble_eq_true rfl) rfl ?_)
    intro w I
    refine Ops.nil ?_
    refine ⟨(y, b5, acc ++ [z], some ⟨b83, 0, none⟩, c83, h82), ⟨⟨rfl, rfl, rfl, rfl, rfl, trivial⟩, ?_, (gl.trans gl2).trans le82, ⟨f, ?_, fun hb2 => ?_⟩, by dsimp only; omega, ?_, fun u hu => ?_⟩, ?_⟩
    · simp only [List.length_append, List.length_singleton, List.flatMap_append, List.flatMap_singleton]
      exact I.drop
    · dsimp only
      rw [← hf, List.map_append, List.map_singleton, hze]
      cases b5 <;> simp
    · dsimp only at hb2 ⊢
      subst hb2
      have := cut_more hc5 (by decide)
      omega
    · dsimp only
      rw [List.length_append, List.length_singleton]
      cases b5 with
      | true => have := cut_more hc5 (by decide); rw [if_pos rfl]; omega
      | false => rw [if_neg (by decide)]; omega
    · dsimp only at hu ⊢
      rcases List.mem_append.1 hu with hu | hu
      · exact ⟨(hown u hu).1.le (gl2.trans le82), (hown u hu).2⟩
      · rw [List.mem_singleton] at hu
        subst hu
        rw [hz]
        exact ⟨(oa2.older (gl1.trans gl)).le le82, la2⟩
    · dsimp only
      cases b5 with
      | true => have := cut_more hc5 (by decide); rw [if_pos rfl, if_pos rfl]; omega
      | false => rw [if_neg (by decide), if_pos rfl]; omega
  have hb : b = false := by simpa using h56
  subst hb
  rw [if_neg (by decide), List.append_nil] at hf
  rw [if_neg (by decide)] at hacc
  obtain ⟨h9, sl, le9, hv, hx, os, I⟩ := I.settleO rfl
  rw [← hv] at I
  refine WP.exit ?_
  refine WP.seq ?_
  refine WP.region ?_
  refine Ops.y (v := .agg #[_, _, _, _, _]) (Y.loadv ty_64 rfl (I.rdbox 0 rfl 0 5) rfl rfl) ?_
  refine Ops.go (O.store (v := .agg #[_, _, _, _, _]) I ty_64 1 rfl rfl rfl rfl rfl rfl (Nat.le_of_ble_eq_true rfl) rfl ?_)
  intro w I
  refine Ops.nil ?_
  refine WP.ret ?_
  repeat (first | refine thenE_ret ?_ | refine blockE_ret ?_)
  exact retQ.mk (vs := [.agg #[_, _, _, _, _]]) rfl ⟨⟨_, _, _, _, _, rfl, ty_64, I.rdbox 1 rfl 0 5, rfl, rfl⟩, trivial⟩ I.ext_of (⟨⟨a1, v1, v2, sl⟩, rfl, ⟨oa1.le (gl.trans le9), la1, os.older (gl1.trans gl), by show sl.xs.length ≤ _; rw [hx]; omega, fun u hu => ⟨(hown u (by rw [← hx]; exact hu)).1.le le9, (hown u (by rw [← hx]; exact hu)).2⟩, by rw [hF, ← hf, ← hx, ← ra1]; rfl⟩⟩)
end Go.TF
end
section
/- The document's text of a program is what the program writes: plain. -/
namespace Go.TF
open Go Go.RowKit Go.Proofs
set_option maxRecDepth 20000

theorem joinT_snoc {sep x : Bs} : ∀ {L : List Bs}, L ≠ [] → joinT sep (L ++ [x]) = joinT sep L ++ (sep ++ x)
  | [], h => absurd rfl h
  | [y], _ => rfl
  | y :: z :: r, _ => by
    have ih := joinT_snoc (sep := sep) (x := x) (L := z :: r) (by simp)
    show y ++ (sep ++ joinT sep ((z :: r) ++ [x])) = (y ++ (sep ++ joinT sep (z :: r))) ++ (sep ++ x)
    rw [ih]
    simp only [List.append_assoc]
section
variable {p : Prg} (h : checkProg p = 0)
include h
theorem prS_tx {x : Prd} (hx : x ∈ p.preds.xs) (s : ByteArray) : tx (prS s x) = tx s ++ (predL x ++ [10]) := by
  have hf := chk_preds h x hx
  unfold predFine at hf
  have hf := of_decide_eq_true hf
  unfold prS predL predW
  simp only [tx_app, dig_tx (n := x.arity.toNat) (by omega), dig_tx (n := x.kind.toNat) (by omega), txl, List.append_assoc]
theorem prK_tx : ∀ {k : Nat}, k ≤ p.preds.xs.length → tx (prK p.preds.xs k) = ((p.preds.xs.take k).map predL).flatMap (· ++ [10])
  | 0, _ => rfl
  | k + 1, hk => by
    have hx : p.preds.xs.getD k default = p.preds.xs[k] := by rw [List.getD_eq_getElem?_getD, List.getElem?_eq_getElem (by omega)]; rfl
    rw [prK, hx, prS_tx h (List.getElem_mem _), prK_tx (by omega), List.take_add_one, List.getElem?_eq_getElem (by omega), Option.toList_some, List.map_append, List.flatMap_append]
    simp
omit h in
theorem bdS_tx {x : Ltl} (ao : AOk p.preds.xs x.atom) (k : Nat) (s : ByteArray) : tx (bdS p.preds.xs k s x) = tx s ++ ((if k = 0 then [32, 58, 45, 32] else [44, 32]) ++ litL p.preds.xs x) := by
  unfold bdS litL
  rw [tx_app, atom_tx ao]
  by_cases hn : x.neg = true
  · rw [if_pos hn, if_pos hn]
    split <;> simp only [tx_app, txl, List.append_assoc]
  · rw [if_neg hn, if_neg hn]
    split <;> simp only [tx_app, txl, List.append_assoc, List.nil_append]
omit h in
theorem bdK_tx {b : List Ltl} (hb : ∀ x ∈ b, AOk p.preds.xs x.atom) (s : ByteArray) : ∀ {k : Nat}, k ≤ b.length → tx (bdK p.preds.xs b s k) = tx s ++ (if k = 0 then [] else [32, 58, 45, 32] ++ joinT [44, 32] ((b.take k).map (litL p.preds.xs)))
  | 0, _ => by simp [bdK]
  | k + 1, hk => by
    have hx : b.getD k default = b[k] := by rw [List.getD_eq_getElem?_getD, List.getElem?_eq_getElem (by omega)]; rfl
    have ht : b.take (k + 1) = b.take k ++ [b[k]] := by rw [List.take_add_one, List.getElem?_eq_getElem (by omega)]; rfl
    rw [bdK, hx, bdS_tx (hb _ (List.getElem_mem _)), bdK_tx hb s (by omega), if_neg (Nat.succ_ne_zero k), ht, List.map_append]
    by_cases h0 : k = 0
    · subst h0; simp [joinT]
    · rw [if_neg h0, if_neg h0, List.map_singleton, joinT_snoc (by
        intro e
        have := congrArg List.length e
        rw [List.length_map, List.length_take] at this
        simp only [List.length_nil] at this
        omega)]
      simp only [List.append_assoc]
theorem valS_tx {r : Rul} (hr : r ∈ p.rules.xs) (s : ByteArray) : tx (valS p.preds.xs s r) = tx s ++ valL p.preds.xs r := by
  have ro := chk_rok h r hr
  unfold valS valL
  split
  · rw [tx_app, dig_tx (by have := ro.n; omega)]
    unfold srcS srcL
    split
    · simp only [tx_app, txl, dig_tx (n := r.src.toNat) (by have := ro.src; have := ro.len; omega), List.append_assoc]
    · simp only [tx_app, txl, List.append_assoc, List.nil_append]
  · simp
theorem ruS_tx {r : Rul} (hr : r ∈ p.rules.xs) (s : ByteArray) : tx (ruS p.preds.xs s r) = tx s ++ (ruleL p.preds.xs r ++ [10]) := by
  have ro := chk_rok h r hr
  unfold ruS ruleL bodyL
  rw [tx_app, bdK_tx (fun x hx => aok_of ro.preds (ro.body x hx)) _ (Nat.le_refl _), valS_tx h hr, tx_app, atom_tx (aok_of ro.preds ro.head), List.take_length]
  by_cases h0 : r.body.xs = []
  · rw [if_pos (by rw [h0]; rfl), if_pos h0]; simp only [List.append_assoc, List.nil_append, txl]; rfl
  · rw [if_neg (fun e => h0 (List.length_eq_zero_iff.1 e)), if_neg h0]; simp only [List.append_assoc, txl]; rfl
theorem ruK_tx : ∀ {k : Nat}, k ≤ p.rules.xs.length → tx (ruK p.preds.xs p.rules.xs k) = (p.preds.xs.map predL ++ (p.rules.xs.take k).map (ruleL p.preds.xs)).flatMap (· ++ [10])
  | 0, _ => by
    rw [ruK, prK_tx h (Nat.le_refl _), List.take_length]
    simp
  | k + 1, hk => by
    have hx : p.rules.xs.getD k default = p.rules.xs[k] := by rw [List.getD_eq_getElem?_getD, List.getElem?_eq_getElem (by omega)]; rfl
    rw [ruK, hx, ruS_tx h (List.getElem_mem _), ruK_tx (by omega), List.take_add_one, List.getElem?_eq_getElem (by omega), Option.toList_some, List.map_append]
    simp [List.flatMap_append]
theorem progT_tx : tx (progT p) = progL p := by
  unfold progT progL linesP
  rw [ruK_tx h (Nat.le_refl _), List.take_length]
end
theorem ProgText_is (B : Base) (hB : B.ok) (p : Prg) (hp : p.In B.h) (hnm : p.Nm) (hpr : checkProg p = 0) : Fn Tryz.prog 17 [p.val] B (fun v _ => v = .string (mk (progL p))) :=
  (ProgText_ok B hB p hp hnm hpr).mono fun v h' _ hv => by rw [hv]; exact congrArg Value.string (tx_inj.1 (progT_tx hpr))
end Go.TF
end
section
/- Package text: the deferred call of Read. -/
namespace Go.TF
open Go Go.RowKit Go.Proofs
set_option maxRecDepth 20000

theorem wpSIn_of_WP {P : Program} {N : Nat} {c : Code} {kv : List (Nat × Value)} {w : World} {Q' : Exit → Env → World → Prop} {Q : Exit → Act → List Frame → World → Prop} {a : Act} {cs : List Frame} (hh : Has (env a) kv) (h : ∀ e, WP P N [] c (E e kv) w Q') (hs : slotsOk N c = true) (ha : a.tmps.size = N) (hd : a.defers = [])
    (hq : ∀ x a' w', a'.defers = [] → Q' x (env a') w' → Q x a' cs w') : c.wpSIn Fence.wide 0 P Q a cs w :=
  wpSIn_of_wpIn rfl (wpIn_mono (wpIn_wide.2 (h (env a) hs a ha hd (E_self hh).symm)) fun x a' w' ⟨_, g2, g3⟩ => hq x a' w' g2 g3)
abbrev brkR : List PanicEntry := [{ v := .iface 119 (.agg #[]), recovered := true }]
theorem Read1_ret (b2 b3 : Nat) (w : World) : CallsDIn Fence.wide 0 Tryz.prog 28 #[.pointer (some ⟨b2, 0, none⟩), .pointer (some ⟨b3, 0, none⟩)] .returning w fun ed u w' => (∃ v, ed = .returned v) ∧ u = .returning ∧ w' = w := by
  refine callsDIn_of_wpSIn Tryz.func28 rfl trivial fun c₀ cs hu => ?_
  apply wpSIn_seq
  apply wpSIn_region
  simp [wpOpsSIn, go_sem, recoverD, hu, Tryz.ntmps28, Exit.thenS]
  refine wpSIn_cond (t := false) (by simp [Act.eval, Array.replicate]) ?_
  simp only [Bool.false_eq_true, if_false]
  refine wpSIn_of_wpIn rfl (wpIn_skip ?_)
  cases c₀
  simp_all [bodyPostS, results, Tryz.results28]
theorem Read1_pan {B : Base} {h : Heap} {M : List SA} {w : World} (b2 b3 : Nat) {x y z : Value} (I : Inv B h (box b2 [x, y] 25 :: box b3 [z] 26 :: M) w) :
    CallsDIn Fence.wide 0 Tryz.prog 28 #[.pointer (some ⟨b2, 0, none⟩), .pointer (some ⟨b3, 0, none⟩)] (.panicking brk) w fun ed u w' => (∃ v, ed = .returned v) ∧ u = .panicking brkR ∧ Inv B h (box b2 [.slice none 0 0, .slice none 0 0] 25 :: box b3 [.int .i64 1] 26 :: M) w' := by
  refine callsDIn_of_wpSIn Tryz.func28 rfl trivial fun c₀ cs hu => ?_
  apply wpSIn_seq
  apply wpSIn_region
  simp [wpOpsSIn, go_sem, recoverD, hu, Tryz.ntmps28, Exit.thenS]
  refine wpSIn_cond (t := true) (by simp [Act.eval, Array.replicate]) ?_
  simp only [if_true]
  refine wpSIn_of_WP (N := 5) (kv := [(0, .pointer (some ⟨b2, 0, none⟩)), (1, .pointer (some ⟨b3, 0, none⟩))]) (Q' := fun x _ w' => x = .normal ∧ Inv B h (box b2 [.slice none 0 0, .slice none 0 0] 25 :: box b3 [.int .i64 1] 26 :: M) w') ⟨rfl, rfl, trivial⟩ ?_ rfl (by simp) rfl ?_
  · intro e
    refine WP.region ?_
    refine Ops.y (v := .agg #[.slice _ _ _, .slice _ _ _]) (Y.build pl_25 Tryz.zeroValue25 rfl rfl) ?_
    refine Ops.go (O.store (v := .agg #[_, _]) I ty_25 0 rfl rfl rfl rfl rfl rfl (Nat.le_of_ble_eq_true rfl) rfl ?_)
    intro w I
    refine Ops.go (O.store (v := .int .i64 _) I ty_26 1 rfl rfl rfl rfl rfl rfl (Nat.le_of_ble_eq_true rfl) rfl ?_)
    intro w I
    refine Ops.nil ?_
    exact ⟨rfl, I⟩
  · rintro x a' w' hd ⟨rfl, I⟩
    refine ⟨hd, _, rfl, ?_⟩
    simp [results, Tryz.results28, I]
end Go.TF
end
section
/- Package text: what Read answers: plain; its end. -/
namespace Go.TF
open Go Go.RowKit Go.Proofs
set_option maxRecDepth 20000

def prgOf (st : St) : Prg := ⟨⟨none, 0, st.1⟩, ⟨none, 0, st.2⟩⟩
/-- What a text is read as, if it is right. -/
noncomputable def readOK (s : ByteArray) : Option St := if 4096 < s.size then none else
  match readR (tx s) with
  | none => none
  | some st => if checkProg (prgOf st) = 0 ∧ progL (prgOf st) = tx s then some st else none
noncomputable def readE (s : ByteArray) : Int := if 4096 < s.size then 2 else if (readOK s).isSome = true then 0 else 1
noncomputable def readP (s : ByteArray) : Prg := prgOf ((readOK s).getD ([], []))
def ReadPost (s : ByteArray) (v : Value) (h : Heap) : Prop := ∃ p : Prg, v = .tuple #[p.val, .int .i64 (readE s)] ∧ p.In h ∧ p.Nm ∧ p.er = readP s
theorem readL_app {a b : List Bs} : ∀ {p : St}, readL (a ++ b) p = match readL a p with | none => none | some q => readL b q := by
  induction a with
  | nil => intro p; rfl
  | cons x r ih =>
    intro p
    simp only [List.cons_append, readL]
    cases lineR p x with
    | none => rfl
    | some q => exact ih
theorem linesS_cnt : ∀ {f : Nat} {s : Bs}, (linesS f s).length ≤ f
  | 0, _ => Nat.le_refl _
  | f + 1, s => by
    rw [linesS]
    split
    · exact Nat.zero_le _
    · split
      · simp only [List.length_cons]; have := linesS_cnt (f := f) (s := s.drop ((Lib.index s [10]).toNat + 1)); omega
      · simp
theorem linesS_each : ∀ {f : Nat} {s x : Bs}, x ∈ linesS f s → x.length ≤ s.length
  | 0, _, _, h => by cases h
  | f + 1, s, x, h => by
    rw [linesS] at h
    split at h
    · cases h
    · split at h
      · rcases List.mem_cons.1 h with rfl | h
        · rw [List.length_take]; omega
        · have := linesS_each h
          rw [List.length_drop] at this; omega
      · rw [List.mem_singleton] at h; subst h; exact Nat.le_refl _
/-- The deferred call. -/
def dfrR (b2 b3 : Nat) : Deferred := { target := .fn (.func 28) #[.pointer (some ⟨b2, 0, none⟩), .pointer (some ⟨b3, 0, none⟩)], args := #[] }
section
variable {B : Base} {h : Heap} {M : List SA} {w : World} {fn : Func} {tmps : Array Value} {R : Ending → World → Prop} {m b2 b3 : Nat}
theorem dfr_enter (w : World) : (invoke (dfrR b2 b3).target (dfrR b2 b3).args).run Tryz.prog w = .ok (.enter 28 #[.pointer (some ⟨b2, 0, none⟩), .pointer (some ⟨b3, 0, none⟩)]) w := by
  simp [invoke, dfrR, go_sem]
theorem end_ret (I : Inv B h (markSA m :: M) w) (k : ∀ w', Inv B h M w' → ∃ v, (results fn tmps).run Tryz.prog w' = .ok v w' ∧ R (.returned v) w') : LeavesInM Fence.wide 0 Tryz.prog fn tmps R [mark m, dfrR b2 b3] .returning w := by
  have hD : w.heap[m]? = some (.deferred (some [])) := (I.own _ (List.mem_cons_self ..)).1
  refine ⟨by simp, .inl ⟨m, _, rfl, run_takeMark hD, ?_⟩⟩
  refine ⟨by simp, .inr ⟨(fun hd => by cases hd), .func 28, _, _, _, rfl, dfr_enter _, fun _ _ => trivial, ?_⟩⟩
  refine (Read1_ret b2 b3 _).mono ?_
  rintro ed u w' ⟨⟨v, rfl⟩, rfl, rfl⟩
  exact k _ I.shut
theorem end_pan {x y z : Value} (I : Inv B h (markSA m :: box b2 [x, y] 25 :: box b3 [z] 26 :: M) w)
    (k : ∀ w', Inv B h (box b2 [.slice none 0 0, .slice none 0 0] 25 :: box b3 [.int .i64 1] 26 :: M) w' → ∃ v, (results fn tmps).run Tryz.prog w' = .ok v w' ∧ R (.returned v) w') : LeavesInM Fence.wide 0 Tryz.prog fn tmps R [mark m, dfrR b2 b3] (.panicking brk) w := by
  have hD : w.heap[m]? = some (.deferred (some [])) := (I.own _ (List.mem_cons_self ..)).1
  refine ⟨by simp, .inl ⟨m, _, rfl, run_takeMark hD, ?_⟩⟩
  refine ⟨by simp, .inr ⟨(fun hd => by cases hd), .func 28, _, _, _, rfl, dfr_enter _, fun _ _ => trivial, ?_⟩⟩
  refine (Read1_pan b2 b3 I.shut).mono ?_
  rintro ed u w' ⟨⟨v, rfl⟩, rfl, I⟩
  exact k _ I
end
end Go.TF
end
section
/- What is checked of programs, wherever they lie; what the roads' strata and needs are: plain. -/
namespace Go.TF
open Go

theorem ne_true {b : Bool} (h : b = false) : ¬ b = true := by rw [h]; decide
def cEr (c : Int × Ltl) : Int × Ltl := (c.1, c.2.er)
theorem usesL_er (rs : List Rul) : usesL (rs.map Rul.er) = (usesL rs).map cEr := by
  induction rs with
  | nil => rfl
  | cons r rs ih =>
    unfold usesL at ih ⊢
    simp only [List.map_cons, List.flatMap_cons, List.map_append, ih]
    congr 1
    simp [Rul.er, cEr, Function.comp_def, Atm.er]
theorem sol_er {cs : List (Int × Ltl)} {n : Nat} {L : List Int} : Sol (cs.map cEr) n L ↔ Sol cs n L :=
  ⟨fun h => ⟨h.len, h.pos, fun c hc => h.sat (cEr c) (List.mem_map_of_mem hc)⟩, fun h => ⟨h.len, h.pos, fun c hc => by obtain ⟨d, hd, rfl⟩ := List.mem_map.1 hc; exact h.sat d hd⟩⟩
theorem rulesErr_er (l : List Prd) (rs : List Rul) : rulesErr l (rs.map Rul.er) = rulesErr l rs := by
  induction rs with
  | nil => rfl
  | cons r rs ih => simp only [List.map_cons, rulesErr, checkRule_er, ih]
theorem checkProg_er (p : Prg) : checkProg p.er = checkProg p := by
  have h1 : p.er.preds.xs = p.preds.xs := rfl
  have h2 : p.er.rules.xs = p.rules.xs.map Rul.er := rfl
  unfold checkProg
  rw [h1, h2, List.length_map, rulesErr_er, usesL_er]
  rw [show (∃ M, Sol ((usesL p.rules.xs).map cEr) p.preds.xs.length M) = (∃ M, Sol (usesL p.rules.xs) p.preds.xs.length M) from propext ⟨fun ⟨M, h⟩ => ⟨M, sol_er.1 h⟩, fun ⟨M, h⟩ => ⟨M, sol_er.2 h⟩⟩]

/-! ### The roads -/
theorem lv3 {a b c : Int} (ha : 0 ≤ a) (hb : 0 ≤ b) (hc : 0 ≤ c) (i : Int) : 0 ≤ lv [a, b, c] i := by
  unfold lv
  rw [List.getD_eq_getElem?_getD]
  match i.toNat with
  | 0 => exact ha
  | 1 => exact hb
  | 2 => exact hc
  | _ + 3 => exact Int.le_refl 0
theorem roads_least : Least (usesL roadsC.rules.xs) 3 [0, 0, 1] := by
  refine ⟨⟨rfl, lv3 (by decide) (by decide) (by decide), ?_⟩, fun M hM i => ?_⟩
  · have : ∀ c ∈ usesL roadsC.rules.xs, lst [0, 0, 1] c ≤ lv [0, 0, 1] c.1 := by decide
    exact this
  · have h2 := hM.sat (2, ⟨true, aT 1 [tV 0, tV 0]⟩) (List.mem_of_getElem? (i := 4) rfl)
    have h1 := hM.pos 1
    have e : lst M (2, ⟨true, aT 1 [tV 0, tV 0]⟩) = lv M 1 + 1 := rfl
    unfold SatC at h2
    rw [e] at h2
    dsimp only at h2
    have hi := hM.pos i
    have key : lv [0, 0, 1] i = if i = 2 then 1 else 0 := by
      unfold lv
      rw [List.getD_eq_getElem?_getD]
      by_cases e : i = 2
      · subst e; rfl
      · rw [if_neg e]
        have : i.toNat ≠ 2 := by omega
        match h : i.toNat with
        | 0 => rfl
        | 1 => rfl
        | 2 => exact absurd h this
        | _ + 3 => rfl
    rw [key]
    split
    · rename_i e; subst e; omega
    · exact hi
theorem roads_check : checkProg roadsC = 0 := by
  unfold checkProg
  rw [if_neg (by decide), if_neg (ne_true (show (roadsC.preds.xs.any fun x => !isName x.name) = false by kernel_rfl)), if_neg (ne_true (show twice roadsC.preds.xs = false by kernel_rfl)), if_neg (ne_true (show roadsC.preds.xs.any badArity = false by kernel_rfl)), if_neg (ne_true (show roadsC.preds.xs.any badKind = false by kernel_rfl)), if_neg (by rw [show rulesErr roadsC.preds.xs roadsC.rules.xs = 0 by kernel_rfl]; decide)]
  exact if_pos ⟨_, roads_least.sol⟩
end Go.TF
end
section
/- Package text: Read: walked. -/
namespace Go.TF
open Go Go.RowKit Go.Proofs
set_option maxRecDepth 20000

theorem ruleL_er (l : List Prd) (r : Rul) : ruleL l r.er = ruleL l r := by
  unfold ruleL valL srcL bodyL
  have h1 : r.er.body.xs = r.body.xs.map Ltl.er := rfl
  have h2 : (r.body.xs.map Ltl.er).map (litL l) = r.body.xs.map (litL l) := by rw [List.map_map]; rfl
  have h3 : (r.body.xs.map Ltl.er = []) = (r.body.xs = []) := by simp
  rw [h1, h2]
  simp only [h3]
  rfl
theorem progL_er (p : Prg) : progL p.er = progL p := by
  unfold progL linesP
  have h1 : p.er.rules.xs = p.rules.xs.map Rul.er := rfl
  have h2 : (p.rules.xs.map Rul.er).map (ruleL p.er.preds.xs) = p.rules.xs.map (ruleL p.preds.xs) := by
    rw [List.map_map]; exact List.map_congr_left fun r _ => ruleL_er _ r
  rw [h1, h2]
  rfl
theorem post_nil {s : ByteArray} {v : Value} {h : Heap} (hn : readOK s = none) (hv : v = .tuple #[.agg #[.slice none 0 0, .slice none 0 0], .int .i64 (readE s)]) : ReadPost s v h :=
  ⟨⟨⟨none, 0, []⟩, ⟨none, 0, []⟩⟩, hv, ⟨nilIs, ⟨nilIs, (fun x hx => by cases hx)⟩⟩, (fun x hx => by cases hx), by unfold readP; rw [hn]; rfl⟩
theorem Lines_ok (B : Base) (hB : B.ok) (s : ByteArray) : FnM Tryz.prog 29 [.string s] B (fun v _ M => ∃ b, v = .func (.func 67) #[] #[.pointer (some ⟨b, 0, none⟩)] ∧ M = [box b [.string s] 9]) := by
  refine FnM.of Tryz.func29 rfl Tryz.ntmps29 (by kernel_rfl) (by simp) ?_
  intro e
  have I := Inv.start hB
  refine WP.seq ?_
  refine WP.region ?_
  refine Ops.go (O.box (v := .string _) I rfl rfl ?_)
  intro b1 w I
  refine Ops.y (v := .nilFunc) (Y.assign rfl) ?_
  refine Ops.nil ?_
  refine WP.seq ?_
  refine WP.region ?_
  refine Ops.y (v := .func _ _ _) (Y.mkfunc rfl rfl) ?_
  refine Ops.y (v := .func _ _ _) (Y.assign rfl) ?_
  refine Ops.nil ?_
  refine WP.ret ?_
  repeat (first | refine thenE_ret ?_ | refine blockE_ret ?_)
  exact retM.mk (vs := [_]) rfl ⟨rfl, trivial⟩ (I) (⟨b1, rfl, rfl⟩)
abbrev RdS := Option Addr × Nat × Option Addr × Nat × List Prd × List Rul
def rdU (b2 b3 : Nat) (z : RdS) : List SA := linM b2 z.1 z.2.2.2.2.1.length z.2.1 z.2.2.1 z.2.2.2.2.2.length z.2.2.2.1 z.2.2.2.2.1 z.2.2.2.2.2 [box b3 [.int .i64 0] 26]
def trimL (s : ByteArray) : List Bs := (linesS (tx s).length (tx s)).map fun l => Lib.trimSuffix l [10]
structure RdJ (s : ByteArray) (k : Nat) (hg : Heap) (z : RdS) : Prop where
  rd : readL ((trimL s).take k) ([], []) = some (z.2.2.2.2.1, z.2.2.2.2.2.map Rul.er)
  rin : ∀ r ∈ z.2.2.2.2.2, r.In hg
  nm : ∀ x ∈ z.2.2.2.2.1, x.name.size ≤ 4096
  lp : z.2.2.2.2.1.length ≤ k
  lr : z.2.2.2.2.2.length ≤ k
def rdX (B : Base) (s : ByteArray) (b2 b3 D : Nat) : PX := fun ch W => ch = brk ∧ readOK s = none ∧ ∃ hg x y, Inv B hg [markSA D, box b2 [x, y] 25, box b3 [.int .i64 0] 26] W
theorem trim_get {s : ByteArray} {k : Nat} {x : ByteArray} (h : (linesB s)[k]? = some x) : (trimL s)[k]? = some (Lib.trimSuffix (tx x) [10]) ∧ x.size ≤ s.size ∧ k < s.size := by
  unfold linesB at h
  rw [List.getElem?_map] at h
  obtain ⟨y, hy, rfl⟩ := Option.map_eq_some_iff.1 h
  refine ⟨?_, ?_, ?_⟩
  · unfold trimL; rw [List.getElem?_map, hy]; rfl
  · have := linesS_each (List.mem_of_getElem? hy)
    rw [mk_size, ← tx_len s]; exact this
  · have h1 := (List.getElem?_eq_some_iff.1 hy).1
    have h2 := linesS_cnt (f := (tx s).length) (s := tx s)
    rw [← tx_len s]; omega
theorem readL_step {s : ByteArray} {k : Nat} {z : Bs} {q : St} (hz : (trimL s)[k]? = some z) (h : readL ((trimL s).take k) ([], []) = some q) : readL ((trimL s).take (k + 1)) ([], []) = lineR q z := by
  rw [List.take_add_one, hz, Option.toList_some, readL_app, h]
  simp only [readL]
  cases lineR q z <;> rfl
theorem readR_none {s : ByteArray} {k : Nat} (h : readL ((trimL s).take k) ([], []) = none) : readR (tx s) = none := by
  show readL (trimL s) ([], []) = none
  rw [← List.take_append_drop k (trimL s), readL_app, h]
set_option maxHeartbeats 4000000 in
theorem Read_ok (B : Base) (hB : B.ok) (V : Vars B.h) (s : ByteArray) : Fn Tryz.prog 8 [.string s] B (ReadPost s) := by
  show Calls _ _ ([.string s] : List Value).toArray B.w _
  refine Calls.ofF (args := [.string s]) Tryz.func8 rfl Tryz.ntmps8 (by kernel_rfl) (by simp) ?_
  intro e
  have I := Inv.start hB
  refine WPF.seq ?_
  refine WPF.region ?_
  refine Ops.go (O.alloc I Tryz.zeroValue25 rfl ?_)
  intro b2 w I
  refine Ops.go (O.alloc I Tryz.zeroValue26 rfl ?_)
  intro b3 w I
  refine Ops.nil ?_
  refine WPF.seq ?_
  refine WPF.seq ?_
  refine WPF.region ?_
  refine Ops.y (v := .string _) (Y.move rfl) ?_
  refine Ops.y (v := .int .i64 _) (Y.lenstr Tryz.underlying9 rfl) ?_
  refine Ops.y (v := .bool (decide _)) (Y.gti rfl rfl) ?_
  refine Ops.nil ?_
  refine WPF.cond_dec rfl (fun h9 => ?_) (fun h9 => ?_)
  · have hn : readOK s = none := by unfold readOK; rw [if_pos (by omega)]
    have hE : readE s = 2 := by unfold readE; rw [if_pos (by omega)]
    refine WPF.seq ?_
    refine WPF.region ?_
    refine Ops.y (v := .agg #[.slice _ _ _, .slice _ _ _]) (Y.build pl_25 Tryz.zeroValue25 rfl rfl) ?_
    refine Ops.go (O.store (v := .agg #[_, _]) I ty_25 1 rfl rfl rfl rfl rfl rfl (Nat.le_of_ble_eq_true rfl) rfl ?_)
    intro w I
    refine Ops.go (O.store (v := .int .i64 _) I ty_26 0 rfl rfl rfl rfl rfl rfl (Nat.le_of_ble_eq_true rfl) rfl ?_)
    intro w I
    refine Ops.nil ?_
    refine WPF.ret ?_
    repeat (first | refine thenD_ret ?_ | refine blockD_ret ?_)
    intro tmps he
    exact ⟨_, results_run (a := { tmps := tmps, defers := [] }) rfl (vs := [.agg #[.slice none 0 0, .slice none 0 0], .int .i64 2]) (by rw [he]; exact ⟨⟨_, _, _, _, _, rfl, ty_25, I.rdbox 1 rfl 0 2, rfl, rfl⟩, ⟨_, _, _, _, _, rfl, ty_26, I.rdbox 0 rfl 0 1, rfl, rfl⟩, trivial⟩), _, _, rfl, I.ext_of, post_nil hn (by rw [hE]; rfl)⟩
  have hs : s.size ≤ 4096 := by omega
  refine WPF.skip ?_
  refine WPF.seq ?_
  refine WPF.deferR (v := .func (.func 28) #[] #[.pointer (some ⟨b2, 0, none⟩), .pointer (some ⟨b3, 0, none⟩)]) (dd := dfrR b2 b3) (Y.mkfunc rfl rfl) (by simp [execOp, resolve, ev, upd, Deferred.ofValue, dfrR]) ?_
  refine WPF.seq ?_
  refine WPF.seq ?_
  refine WPF.region ?_
  refine Ops.y (v := .string _) (Y.move rfl) ?_
  refine Ops.go (O.callM I Tryz.call29 (Lines_ok _ I.base_ok s) rfl ?_)
  rintro _ h1 M1 w I gl1 ⟨bl, rfl, rfl⟩
  try simp only [List.cons_append, List.nil_append] at I
  refine Ops.nil ?_
  have I := (((((((I.nilSl 64 5).nilSl 53 3).front 3 rfl).front 4 rfl).front 3 rfl).front 3 rfl).front 4 rfl)
  refine WPF.block ?_
  have hpan : ∀ (e : Env) (D : Nat) (ch : List PanicEntry) (W : World), e 2 = .pointer (some ⟨b2, 0, none⟩) → e 3 = .pointer (some ⟨b3, 0, none⟩) → rdX B s b2 b3 D ch W → endF Tryz.prog Tryz.f8 (fun x w' => ∃ v h', x = .returned v ∧ Ext B w' h' ∧ ReadPost s v h') (.panic ch) e W [mark D, dfrR b2 b3] := by
    rintro e D ch W e2 e3 ⟨rfl, hn, hg, x, y, I⟩ tmps he
    have hE : readE s = 1 := by unfold readE; rw [if_neg (by omega), hn]; rfl
    refine end_pan I fun w' I => ?_
    exact ⟨_, results_run (a := { tmps := tmps, defers := [] }) rfl (vs := [.agg #[.slice none 0 0, .slice none 0 0], .int .i64 1]) (by rw [he]; exact ⟨⟨_, _, _, _, _, e2, ty_25, I.rdbox 0 rfl 0 2, rfl, rfl⟩, ⟨_, _, _, _, _, e3, ty_26, I.rdbox 1 rfl 0 1, rfl, rfl⟩, trivial⟩), _, _, rfl, I.ext_of, post_nil hn (by rw [hE]; rfl)⟩
  refine WPF.rangeFunc (σ := RdS) (own := box bl [.string s] 9) (encs := strC) (xs := linesB s) ⟨_, Tryz.func8⟩ (rdU b2 b3) (RdJ s) (rdX B s b2 b3) (none, 0, none, 0, [], []) I ⟨rfl, (fun _ h => by cases h), (fun _ h => by cases h), Nat.le_refl _, Nat.le_refl _⟩
    (fun k z hg hg' hl j => ⟨j.rd, fun r hr => (j.rin r hr).le hl, j.nm, j.lp, j.lr⟩) rfl Tryz.call67 (Lines1_it s hs bl) (fun _ => rfl) (by kernel_rfl) (by kernel_rfl) (by kernel_rfl) ?_ ?_ (fun D ch W hx => hpan _ D ch W rfl rfl hx)
  · rintro l D r hg k x ⟨q, c, q2, c2, ps, rs⟩ X W hx gl I ⟨hrd, hin, hnm, hlp, hlr⟩
    dsimp only at hrd hin hnm hlp hlr
    obtain ⟨hz, hxs, hks⟩ := trim_get hx
    have htl := Lib.trimSuffix_le (tx x) [10]
    rw [tx_len] at htl
    have hBh : B.h.le hg := gl1.trans gl
    have hstep := readL_step hz hrd
    refine WPI.region (by kernel_rfl) ?_
    refine Ops.y (v := .string _) (Y.assign rfl) ?_
    refine Ops.nil ?_
    refine ⟨hg, Heap.le.refl _, I, fun r' W2 I => ?_⟩
    have J : Inv B hg ((rdU b2 b3 (q, c, q2, c2, ps, rs) ++ [loopSA l r', markSA D]) ++ X) W2 := I.perm List.perm_append_comm
    have I : Inv B hg (linM b2 q ps.length c q2 rs.length c2 ps rs ([box b3 [.int .i64 0] 26, loopSA l r', markSA D] ++ X)) W2 := J
    refine WPI.block ?_
    refine WPI.regionP _ (fun _ _ _ h => h) ?_
    refine OpsP.y (v := .string _) (Y.move rfl) ?_
    refine OpsP.go (O.callv I Tryz.call31 (TrimSuf_ok _ I.base_ok x ⟨#[10]⟩ (by omega)) rfl ?_)
    intro w I
    refine OpsP.p (O.callsP Tryz.call30 (line_v (V.le hBh) I (by omega) (by omega) hin hnm hBh (mk (Lib.trimSuffix (tx x) [10])) (by rw [mk_size]; omega)) rfl ?_)
    rintro ed w hq
    rcases ed with v | ch | _
    · obtain ⟨rfl, h', q', c', q2', c2', ps', rs', gl', I, hl, hin', hnm', hlp', hlr'⟩ := hq
      refine .inl ⟨_, rfl, ?_⟩
      refine OpsP.nil ?_
      refine ⟨h', (q', c', q2', c2', ps', rs'), [], gl', ?_, ⟨hstep.trans hl, hin', hnm', by dsimp only; omega, by dsimp only; omega⟩⟩
      have J : Inv B h' ((rdU b2 b3 (q', c', q2', c2', ps', rs') ++ [loopSA l r', markSA D]) ++ X) w := I
      show Inv B h' (X ++ (rdU b2 b3 (q', c', q2', c2', ps', rs') ++ [loopSA l r', markSA D])) w
      exact J.perm List.perm_append_comm
    · obtain ⟨rfl, ⟨h', I⟩, hl⟩ := hq
      have J : Inv B h' [box b2 [.slice q ps.length c, .slice q2 rs.length c2] 25, box b3 [.int .i64 0] 26, markSA D] w := I.weak (List.Sublist.cons_cons _ (List.Sublist.cons_cons _ (List.Sublist.cons _ (List.Sublist.cons_cons _ (List.nil_sublist _)))))
      refine .inr ⟨_, rfl, rfl, ?_, h', _, _, J.front 2 rfl⟩
      unfold readOK
      rw [if_neg (by omega), readR_none (k := k + 1) (hstep.trans hl)]
    · exact hq.elim
  · rintro D h2 ⟨q, c, q2, c2, ps, rs⟩ W gl I ⟨hrd, hin, hnm, hlp, hlr⟩
    dsimp only at hrd hin hnm hlp hlr
    have hcnt : (linesB s).length ≤ 4096 := by
      unfold linesB; rw [List.length_map]
      have := linesS_cnt (f := (tx s).length) (s := tx s)
      rw [tx_len] at this ⊢; omega
    have hR : readR (tx s) = some (ps, rs.map Rul.er) := by
      rw [List.take_of_length_le (by unfold trimL linesB; simp)] at hrd
      exact hrd
    obtain ⟨h3, sp, le3, hvp, hxp, isp, I⟩ := I.settleSl (fun _ => rfl) rfl
    obtain ⟨h4, sr, le4, hvr, hxr, isr, I⟩ := I.settleSl (fun _ => rfl) rfl
    subst hxp
    subst hxr
    rw [← hvp, ← hvr] at I
    obtain ⟨p, hp⟩ : ∃ p : Prg, p = ⟨sp, sr⟩ := ⟨_, rfl⟩
    have hpin : p.In h4 := by
      subst hp
      exact ⟨⟨Sl.In.le isp le4, by show sp.xs.length ≤ _; omega⟩, ⟨isr, by show sr.xs.length ≤ _; omega⟩, fun y hy => (hin y hy).le (le3.trans le4)⟩
    have hpnm : p.Nm := fun y hy => by subst hp; have := hnm y hy; omega
    have hpe : p.er = prgOf (sp.xs, sr.xs.map Rul.er) := by subst hp; rfl
    have hR2 : readOK s = if checkProg p = 0 ∧ progL p = tx s then some (sp.xs, sr.xs.map Rul.er) else none := by
      unfold readOK
      rw [if_neg (by omega), hR]
      simp only
      rw [← hpe, checkProg_er, progL_er]
    have I : Inv B h4 [box b2 p.enc 25, box b3 [.int .i64 0] 26, markSA D] W := by subst hp; exact I
    have hE : ∀ {st : Option St}, readOK s = st → readE s = if st.isSome = true then 0 else 1 := fun h => by unfold readE; rw [if_neg (by omega), h]
    by_cases hc : checkProg p = 0 ∧ progL p = tx s
    · rw [if_pos hc] at hR2
      have hS : Fn Tryz.prog 7 [p.val] ⟨W, h4⟩ (fun v _ => v = .tuple #[.string s, .int .i64 0]) := (Show_ok ⟨W, h4⟩ I.base_ok p hpin hpnm).mono fun v h' _ hv => by
        rw [hv]; unfold showOf; rw [if_pos hc.1, hc.2, show mk (tx s) = s from mk_tx s]
      refine WPF.seq ?_
      refine WPF.region ?_
      refine Ops.y (v := .agg #[_, _]) (Y.loadv ty_25 rfl (I.rdbox 0 rfl 0 2) rfl rfl) ?_
      refine Ops.go (O.callv I Tryz.call7 (hS) rfl ?_)
      intro w I
      refine Ops.y (v := .tuple #[_, _]) (Y.move rfl) ?_
      refine Ops.y (v := .string _) (Y.extract rfl rfl) ?_
      refine Ops.y (v := .int .i64 _) (Y.extract rfl rfl) ?_
      refine Ops.y (v := .string _) (Y.assign rfl) ?_
      refine Ops.y (v := .int .i64 _) (Y.assign rfl) ?_
      refine Ops.nil ?_
      refine WPF.seq ?_
      refine WPF.regionE _ (fun _ _ _ h => h) ?_
      refine OpsE.y (v := .int .i64 _) (Y.move rfl) ?_
      refine OpsE.y (v := .bool true) (Y.dec_t (Y.eqi rfl rfl) (rfl)) ?_
      refine OpsE.y (v := .bool _) (Y.move rfl) ?_
      refine OpsE.ygt rfl (v := .string _) (Y.move rfl) ?_
      refine OpsE.ygt rfl (v := .string _) (Y.move rfl) ?_
      refine OpsE.ygt rfl (v := .bool true) (Y.is (Y.eqs rfl rfl) ((by rw [beq_tx]; simp))) ?_
      refine OpsE.y (v := .bool _) (Y.pick_t rfl rfl) ?_
      refine OpsE.p (O.callpX I Tryz.call32 (must_ok _ I.base_ok true) rfl (fun w' g p => by cases p) ?_)
      rintro _ h5 w I hle ⟨_, rfl⟩
      refine OpsE.nil ?_
      refine WPF.seq ?_
      refine WPF.region ?_
      refine Ops.y (v := .agg #[_, _]) (Y.loadv ty_25 rfl (I.rdbox 0 rfl 0 2) rfl rfl) ?_
      refine Ops.go (O.store (v := .agg #[_, _]) I ty_25 0 rfl rfl rfl rfl rfl rfl (Nat.le_of_ble_eq_true rfl) rfl ?_)
      intro w I
      refine Ops.go (O.store (v := .int .i64 _) I ty_26 1 rfl rfl rfl rfl rfl rfl (Nat.le_of_ble_eq_true rfl) rfl ?_)
      intro w I
      refine Ops.nil ?_
      refine WPF.ret ?_
      repeat (first | refine thenD_ret ?_ | refine blockD_ret ?_)
      intro tmps he
      refine end_ret (I.front 2 rfl) (fun w' I => ⟨_, results_run (a := { tmps := tmps, defers := [] }) rfl (vs := [p.val, .int .i64 0]) (by rw [he]; exact ⟨⟨_, _, _, _, _, rfl, ty_25, I.rdbox 0 rfl 0 2, rfl, rfl⟩, ⟨_, _, _, _, _, rfl, ty_26, I.rdbox 1 rfl 0 1, rfl, rfl⟩, trivial⟩), _, _, rfl, I.ext_of, p, by rw [hE hR2]; rfl, hpin.le hle, hpnm, ?_⟩)
      rw [hpe]; unfold readP; rw [hR2]; rfl
    · rw [if_neg hc] at hR2
      by_cases hc0 : checkProg p = 0
      · have hne : mk (progL p) ≠ s := fun e => hc ⟨hc0, by rw [← e]⟩
        have hS : Fn Tryz.prog 7 [p.val] ⟨W, h4⟩ (fun v _ => v = .tuple #[.string (mk (progL p)), .int .i64 0]) := (Show_ok ⟨W, h4⟩ I.base_ok p hpin hpnm).mono fun v h' _ hv => by
          rw [hv]; unfold showOf; rw [if_pos hc0]
        refine WPF.seq ?_
        refine WPF.region ?_
        refine Ops.y (v := .agg #[_, _]) (Y.loadv ty_25 rfl (I.rdbox 0 rfl 0 2) rfl rfl) ?_
        refine Ops.go (O.callv I Tryz.call7 (hS) rfl ?_)
        intro w I
        refine Ops.y (v := .tuple #[_, _]) (Y.move rfl) ?_
        refine Ops.y (v := .string _) (Y.extract rfl rfl) ?_
        refine Ops.y (v := .int .i64 _) (Y.extract rfl rfl) ?_
        refine Ops.y (v := .string _) (Y.assign rfl) ?_
        refine Ops.y (v := .int .i64 _) (Y.assign rfl) ?_
        refine Ops.nil ?_
        refine WPF.seq ?_
        refine WPF.regionE _ (fun _ _ _ h => h) ?_
        refine OpsE.y (v := .int .i64 _) (Y.move rfl) ?_
        refine OpsE.y (v := .bool true) (Y.dec_t (Y.eqi rfl rfl) (rfl)) ?_
        refine OpsE.y (v := .bool _) (Y.move rfl) ?_
        refine OpsE.ygt rfl (v := .string _) (Y.move rfl) ?_
        refine OpsE.ygt rfl (v := .string _) (Y.move rfl) ?_
        refine OpsE.ygt rfl (v := .bool false) (Y.is (Y.eqs rfl rfl) ((by rw [beq_tx, decide_eq_false (fun e => hne (tx_inj.1 e))]))) ?_
        refine OpsE.y (v := .bool _) (Y.pick_t rfl rfl) ?_
        refine OpsE.p (O.callpX I Tryz.call32 (must_ok _ I.base_ok false) rfl (fun w' g p => hpan _ D _ _ rfl rfl ⟨rfl, hR2, _, _, _, (I.grow g).front 2 rfl⟩) ?_)
        rintro _ h5 w I hle ⟨h, _⟩
        refine OpsE.nil ?_
        cases h
      · have hS : Fn Tryz.prog 7 [p.val] ⟨W, h4⟩ (fun v _ => v = .tuple #[.string ⟨#[]⟩, .int .i64 (checkProg p)]) := (Show_ok ⟨W, h4⟩ I.base_ok p hpin hpnm).mono fun v h' _ hv => by
          rw [hv]; unfold showOf; rw [if_neg hc0]
        refine WPF.seq ?_
        refine WPF.region ?_
        refine Ops.y (v := .agg #[_, _]) (Y.loadv ty_25 rfl (I.rdbox 0 rfl 0 2) rfl rfl) ?_
        refine Ops.go (O.callv I Tryz.call7 (hS) rfl ?_)
        intro w I
        refine Ops.y (v := .tuple #[_, _]) (Y.move rfl) ?_
        refine Ops.y (v := .string _) (Y.extract rfl rfl) ?_
        refine Ops.y (v := .int .i64 _) (Y.extract rfl rfl) ?_
        refine Ops.y (v := .string _) (Y.assign rfl) ?_
        refine Ops.y (v := .int .i64 _) (Y.assign rfl) ?_
        refine Ops.nil ?_
        refine WPF.seq ?_
        refine WPF.regionE _ (fun _ _ _ h => h) ?_
        refine OpsE.y (v := .int .i64 _) (Y.move rfl) ?_
        refine OpsE.y (v := .bool false) (Y.dec_f (Y.eqi rfl rfl) (hc0)) ?_
        refine OpsE.y (v := .bool _) (Y.move rfl) ?_
        refine OpsE.gf rfl ?_
        refine OpsE.gf rfl ?_
        refine OpsE.gf rfl ?_
        refine OpsE.y (v := .bool _) (Y.pick_f rfl rfl) ?_
        refine OpsE.p (O.callpX I Tryz.call32 (must_ok _ I.base_ok false) rfl (fun w' g p => hpan _ D _ _ rfl rfl ⟨rfl, hR2, _, _, _, (I.grow g).front 2 rfl⟩) ?_)
        rintro _ h5 w I hle ⟨h, _⟩
        refine OpsE.nil ?_
        cases h
end Go.TF
end
section
/- Terms, predicates: are they the same? -/
namespace Go.TF
open Go
instance : DecidableEq Trm := fun a b => decidable_of_iff (a.var = b.var ∧ a.n = b.n) (by cases a; cases b; simp)
instance : DecidableEq Prd := fun a b => decidable_of_iff (a.name = b.name ∧ a.arity = b.arity ∧ a.kind = b.kind) (by cases a; cases b; simp)
end Go.TF
end
