/- Texts Base29 Txp4 Txp9 Txq1 SpRoads Txq2 SpDec Same1 Prog9 RoadsM Prog10 BaseLaw Txq3 Txq4 TxtLaw1 Open Base31. -/
import Derived.Test.YtljkkojkfddpeaaGreatDoorU2
import Derived.Test.YtljkkojkfddpeaaGreatDoorU4
import Derived.RecoverIn
import Derived.Test.YtljkkojkfddpeaaGreatDoorU7
import Derived.Laws.Pointers
import Derived.Tactics2
import Derived.TacticsInMore
import Derived.RegionIn
import Derived.Test.YtljkkojkfddpeaaGreatDoorU5
import Derived.Test.YtljkkojkfddpeaaGreatDoorU3
import Derived.KernelRfl
import Derived.Test.YtljkkojkfddpeaaGreatDoorU6
import Derived.Deep.Slices
import Derived.SizedLaws
import Derived.OpenShut
import Derived.ChangeArms
import Derived.Stop.LaidErr
section
/- Ranges over functions whose rounds may panic, under a deferred call that recovers. -/
namespace Go.TF
open Go Go.RowKit

/-! ### A call of yield that may panic -/
def Op1Y (P : Program) (X : PX) (o : Oper) (e : Env) (w : World) (K : Value → World → Prop) : Prop :=
  Op1P P X o e w K ∨ ∃ l f tmps assign body w', (execOp (ev e) o).run P w = .ok (.round l f tmps assign body) w' ∧ RoundIn Fence.wide 0 P l f tmps assign body w' fun | .returned v, w'' => K v w'' | .panicked ch, w'' => X ch w'' | _, _ => False
def OpsY (P : Program) (X : PX) (full : Array Oper) : List Oper → Env → World → (Env → World → Prop) → Prop
  | [], e, w, K => K e w
  | o :: rest, e, w, K => if runs full e o then Op1Y P X o e w (fun v w' => OpsY P X full rest (updo e o.dst v) w' K) else OpsY P X full rest (updo e o.dst undef) w K
theorem uponIn_of_Op1P {P : Program} {X : PX} {F : Fence} {o : Oper} {a : Act} {w : World} {next : Act → World → Prop} {Q : Exit → Act → World → Prop} (hfn : ∀ f, F.fn f) (hdep : F.depth = none) (hal : ∀ f args w R, Calls P f args w R → CallsIn F (0 - 1) P f args w R)
    (hnd : ∀ c, o.op ≠ .defer c) (hX : ∀ ch w', X ch w' → Q (.panic ch) a w') (h : Op1P P X o (env a) w fun v w' => next (a.put o.dst v) w') : o.wpIn F 0 P a w next Q := by
  refine ⟨fun f _ => hfn f, ?_⟩
  rw [Oper.semAt_eq _ _ _ hnd, eval_env]
  unfold Op1P at h
  generalize (execOp (ev (env a)) o).run P w = r at *
  cases r with
  | ok n w' =>
    cases n <;> simp only at h <;> first | exact h.elim | exact h | skip
    refine ⟨(fun hd => by rw [hdep] at hd; cases hd), (hal _ _ _ _ h).mono fun e w'' he => ?_⟩
    cases e <;> first | exact he | exact hX _ _ he | exact he.elim
  | halt x w' => cases x <;> simp only at h <;> first | exact h.elim | exact hX _ _ h
theorem OpsY.sound {P : Program} {X : PX} {ops : Array Oper} {Q : Exit → Act → World → Prop} {N : Nat} {D : List Deferred} (hX : ∀ a ch w', a.tmps.size = N → a.defers = D → X ch w' → Q (.panic ch) a w') (hds : dstsOk N ops.toList = true) (hnd : noDefer ops.toList = true) : ∀ (n k : Nat) (a : Act) (w : World) (K : Env → World → Prop),
    k + n = ops.size → a.tmps.size = N → a.defers = D → (∀ a' w', a'.tmps.size = N → a'.defers = D → K (env a') w' → Q .normal a' w') → OpsY P X ops (ops.toList.drop k) (env a) w K → wpOpsIn Fence.wide 0 P ops Q (List.range' k n) a w
  | 0, k, a, w, K, hk, hs, hd, hK, h => by
    rw [List.drop_eq_nil_of_le (by simp; omega)] at h
    exact hK _ _ hs hd h
  | n + 1, k, a, w, K, hk, hs, hd, hK, h => by
    obtain ⟨o, ho, hdr⟩ := drop_cons hk
    have hmem : o ∈ ops.toList := by have := Array.mem_of_getElem? ho; simpa using this
    have hdo : o.dst.all (· < N) = true := (List.all_eq_true.1 hds) o hmem
    have hno : ∀ c, o.op ≠ .defer c := fun c e => by have := (List.all_eq_true.1 hnd) o hmem; simp [e] at this
    have hput : ∀ v, env (a.put o.dst v) = updo (env a) o.dst v := fun v => env_puto a o.dst v (by rw [hs]; exact hdo)
    rw [hdr] at h
    simp only [List.range'_succ, wpOpsIn, ho, wanted_env]
    simp only [OpsY] at h
    split
    · rename_i hr
      rw [if_pos hr] at h
      have step : ∀ v w', OpsY P X ops (ops.toList.drop (k + 1)) (updo (env a) o.dst v) w' K → wpOpsIn Fence.wide 0 P ops Q (List.range' (k + 1) n) (a.put o.dst v) w' := fun v w' hh =>
        OpsY.sound hX hds hnd n (k + 1) _ _ K (by omega) (by rw [size_put, hs]) (by rw [defers_put, hd]) hK (by rw [hput]; exact hh)
      rcases h with h | ⟨l, f, tmps, assign, body, w', hrun, hround⟩
      · exact uponIn_of_Op1P (fun _ => trivial) rfl (fun _ _ _ _ h => calls_wide _ h) hno (fun ch w' => hX a ch w' hs hd) (h.mono step)
      · refine ⟨fun _ _ => trivial, ?_⟩
        rw [Oper.semAt_eq _ _ _ hno, eval_env, hrun]
        refine ⟨(fun hd => by cases hd), hround.mono fun e w'' he => ?_⟩
        cases e <;> first | exact step _ _ he | exact hX a _ _ hs hd he | exact he.elim
    · rename_i hr
      rw [if_neg hr] at h
      exact ⟨fun _ _ => trivial, OpsY.sound hX hds hnd n (k + 1) _ _ K (by omega) (by rw [size_put, hs]) (by rw [defers_put, hd]) hK (by rw [hput]; exact h)⟩
theorem WP.regionY {P : Program} {N : Nat} {D : List Deferred} {e : Env} {w : World} {Q : Exit → Env → World → Prop} {id : Nat} {ops : Array Oper} (X : PX) (hX : ∀ e ch w', X ch w' → Q (.panic ch) e w') (hnd : noDefer ops.toList = true)
    (h : OpsY P X ops ops.toList e w (fun e' w' => Q .normal e' w')) : WP P N D (.region id ops false) e w Q := by
  intro hs a h1 h2 h3
  subst h3
  refine (wpIn_wide (n := 0)).1 (wpIn_region ?_)
  rw [List.range_eq_range']
  exact OpsY.sound (fun a ch w' g1 g2 g3 => ⟨g1, g2, hX _ _ _ g3⟩) hs hnd _ 0 a w _ (by omega) h1 h2 (fun _ _ g1 g2 g3 => ⟨g1, g2, g3⟩) h
section
variable {P : Program} {X : PX} {full : Array Oper} {rest : List Oper} {e : Env} {w : World} {K : Env → World → Prop}
theorem OpsY.nil (h : K e w) : OpsY P X full [] e w K := h
theorem OpsY.p {d : Option Nat} {op : Op} {t : TypeId} {pos : String} {af : Array Edge} (h : Op1P P X ⟨d, op, t, pos, af, none⟩ e w (fun v w' => OpsY P X full rest (updo e d v) w' K)) :
    OpsY P X full (⟨d, op, t, pos, af, none⟩ :: rest) e w K := by simp only [OpsY, runs, if_true]; exact .inl h
theorem OpsY.go {d : Option Nat} {op : Op} {t : TypeId} {pos : String} {af : Array Edge} (h : Op1 P ⟨d, op, t, pos, af, none⟩ e w (fun v w' => OpsY P X full rest (updo e d v) w' K)) :
    OpsY P X full (⟨d, op, t, pos, af, none⟩ :: rest) e w K := OpsY.p (.of h)
theorem OpsY.y {d : Nat} {op : Op} {t : TypeId} {pos : String} {af : Array Edge} {v : Value} (hy : Y P ⟨some d, op, t, pos, af, none⟩ e w v) (h : OpsY P X full rest (upd e d v) w K) :
    OpsY P X full (⟨some d, op, t, pos, af, none⟩ :: rest) e w K := OpsY.go (by unfold Op1; rw [hy]; exact h)
theorem OpsY.yield {d : Option Nat} {x : Operand} {l : Nat} {args : Array Operand} {ts : Array TypeId} {vs : List Value} {t : TypeId} {pos : String} {af : Array Edge} {R : Ending → World → Prop} (hx : ev e x = .func (.yield l) #[] #[]) (ha : args.toList.map (ev e) = vs)
    (hy : YieldAt Fence.wide 0 P l vs.toArray w R) (k : ∀ ed w', R ed w' → (∃ v, ed = .returned v ∧ OpsY P X full rest (updo e d v) w' K) ∨ ∃ ch, ed = .panicked ch ∧ X ch w') :
    OpsY P X full (⟨d, .call { callee := .value x, args := args, argTypes := ts }, t, pos, af, none⟩ :: rest) e w K := by
  have ha' : args.map (ev e) = vs.toArray := by rw [← ha]; apply Array.ext'; simp
  obtain ⟨fn, tmps, assign, body, hrun, hR⟩ := hy
  simp only [OpsY, runs, if_true]
  refine .inr ⟨l, fn, tmps, assign, body, w, ?_, hR.mono fun ed w' hh => ?_⟩
  · simp only [execOp, resolve, hx, Deferred.ofValue]
    simp [invoke, ha', hrun]
  · rcases k ed w' hh with ⟨v, rfl, hk⟩ | ⟨ch, rfl, hk⟩
    · exact hk
    · exact hk
end

/-! ### A round that may panic -/
def roundPostP (P : Program) (l : Nat) (R : Ending → World → Prop) : Exit → Act → World → Prop
  | .panic ch, a, w => a.defers = [] ∧ R (.panicked ch) w
  | x, a, w => roundPost P l R x a w
theorem roundIn_of_wpInP {P : Program} {l : Nat} {f : FuncId} {tmps : Array Value} {assign body : Code} {w : World} {R : Ending → World → Prop} (hf : ∃ fn, P.funcs[f]? = some fn)
    (h : assign.wpIn (Fence.wide.inRound l) 0 P (Exit.then (fun a₁ w₁ => ∃ w₂, (Instr.beginRound l).run P w₁ = .ok () w₂ ∧ body.wpIn (Fence.wide.inRound l) 0 P (roundPostP P l R) a₁ w₂) (fun _ _ _ => False))
      { tmps := tmps, defers := [] } w) :
    RoundIn Fence.wide 0 P l f tmps assign body w R := by
  have hF : Fence.wide.fn f := trivial
  refine ⟨hF, fun c cs hr => ?_⟩
  let b : Frame := { (default : Frame) with fn := f, kind := .normal, roundOf := some l }
  have hb0 : Frame.round l f tmps assign body .normal = b.atR { tmps := tmps, defers := [] } [.code assign, .beginRound, .code body] := by
    simp [Frame.round, Frame.atR, b]
  have hr' : (Fence.wide.inRound l).room ((c :: cs).length + 1 + 0) := hr
  have hF' : (Fence.wide.inRound l).fn b.fn := hF
  obtain ⟨e, a₁, w₁, hq, harr⟩ := h b [.beginRound, .code body] (c :: cs) rfl hF' hr'
  rw [← hb0] at harr
  cases e with
  | normal =>
    obtain ⟨w₂, hbr, hbody⟩ := hq
    have s1 : StepsIn (Machine.fenced P (Fence.wide.inRound l)) P (lone (b.atR a₁ [.beginRound, .code body]) (c :: cs) w₁) (lone (b.atR a₁ [.code body]) (c :: cs) w₂) :=
      .one (fenced_calm (fr := b.atR a₁ [.beginRound, .code body]) hF' hr' rfl) (stepR_beginRound rfl hbr)
    obtain ⟨e₂, a₂, w₃, hq₂, harr₂⟩ := hbody b [] (c :: cs) rfl hF' hr'
    cases e₂ with
    | normal =>
      obtain ⟨v, w₄, hend, hR⟩ := hq₂
      exact ⟨.returned v, w₄, hR, (StepsIn.trans harr s1).trans (StepsIn.trans harr₂ (.one (fenced_calm (fr := b.atR a₂ []) hF' hr' rfl) (stepR_round_end rfl rfl hend)))⟩
    | ret =>
      obtain ⟨v, w₄, hend, hR⟩ := hq₂
      obtain ⟨k₁, hs⟩ := harr₂.2 rfl
      exact ⟨.returned v, w₄, hR, (StepsIn.trans harr s1).trans (StepsIn.trans hs (.one (fenced_calm (fr := b.atR a₂ (.code .ret :: k₁)) hF' hr' rfl) (stepR_round_ret rfl rfl hend)))⟩
    | exit id =>
      obtain ⟨v, w₄, hend, hR⟩ := hq₂
      obtain ⟨k₁, hk, hs⟩ := harr₂.2 rfl rfl
      exact ⟨.returned v, w₄, hR, (StepsIn.trans harr s1).trans (StepsIn.trans hs (.one (fenced_calm (fr := b.atR a₂ (.code (.exit id) :: k₁)) hF' hr' rfl) (stepR_round_exit rfl rfl hk hend)))⟩
    | goto t =>
      obtain ⟨v, w₄, hend, hR⟩ := hq₂
      obtain ⟨k₁, hk, hs⟩ := harr₂.2 rfl rfl
      exact ⟨.returned v, w₄, hR, (StepsIn.trans harr s1).trans (StepsIn.trans hs (.one (fenced_calm (fr := b.atR a₂ (.code (.goto t) :: k₁)) hF' hr' rfl) (stepR_round_goto rfl rfl hk hend)))⟩
    | panic chain =>
      obtain ⟨hd, hR⟩ := hq₂
      obtain ⟨todo, hs⟩ := harr₂
      have hleave : ({ b.atR a₂ todo with mode := .panicking chain } : Frame).leaving P w₃ (.panicked chain) := ⟨rfl, hd, hf⟩
      exact ⟨.panicked chain, w₃, hR, (StepsIn.trans harr s1).trans (StepsIn.trans hs (.one (fenced_leaving (fr := { b.atR a₂ todo with mode := .panicking chain }) hF' hr' hleave) (step_leave_panicked hleave)))⟩
    | outgrown => exact hq₂.elim
  | exit id => exact hq.elim
  | goto t => exact hq.elim
  | ret => exact hq.elim
  | panic chain => exact hq.elim
  | outgrown => exact hq.elim
theorem WPI.regionP {P : Program} {N l : Nat} {e : Env} {w : World} {Q : Exit → Env → World → Prop} {id : Nat} {ops : Array Oper} (X : PX) (hX : ∀ e ch w', X ch w' → Q (.panic ch) e w') (h : OpsP P X ops ops.toList e w (fun e' w' => Q .normal e' w')) (hnd : noDefer ops.toList = true := by kernel_rfl) : WPI P N l (.region id ops false) e w Q := by
  intro hs a h1 h2 h3
  subst h3
  refine wpIn_region ?_
  rw [List.range_eq_range']
  have key : ∀ (n k : Nat) (a : Act) (w : World), k + n = ops.size → a.tmps.size = N → a.defers = [] → OpsP P X ops (ops.toList.drop k) (env a) w (fun e' w' => Q .normal e' w') →
      wpOpsIn (Fence.wide.inRound l) 0 P ops (fun x a' w' => a'.tmps.size = N ∧ a'.defers = [] ∧ Q x (env a') w') (List.range' k n) a w := by
    intro n
    induction n with
    | zero =>
      intro k a w hk hs1 hd h
      rw [List.drop_eq_nil_of_le (by simp; omega)] at h
      exact ⟨hs1, hd, h⟩
    | succ n ih =>
      intro k a w hk hs1 hd h
      obtain ⟨o, ho, hdr⟩ := drop_cons hk
      have hmem : o ∈ ops.toList := by have := Array.mem_of_getElem? ho; simpa using this
      have hdo : o.dst.all (· < N) = true := (List.all_eq_true.1 hs) o hmem
      have hno : ∀ c, o.op ≠ .defer c := fun c e => by have := (List.all_eq_true.1 hnd) o hmem; simp [e] at this
      have hput : ∀ v, env (a.put o.dst v) = updo (env a) o.dst v := fun v => env_puto a o.dst v (by rw [hs1]; exact hdo)
      rw [hdr] at h
      simp only [List.range'_succ, wpOpsIn, ho, wanted_env]
      simp only [OpsP] at h
      have step : ∀ v w', OpsP P X ops (ops.toList.drop (k + 1)) (updo (env a) o.dst v) w' (fun e' w' => Q .normal e' w') → wpOpsIn (Fence.wide.inRound l) 0 P ops (fun x a' w' => a'.tmps.size = N ∧ a'.defers = [] ∧ Q x (env a') w') (List.range' (k + 1) n) (a.put o.dst v) w' := fun v w' hh =>
        ih (k + 1) _ _ (by omega) (by rw [size_put, hs1]) (by rw [defers_put, hd]) (by rw [hput]; exact hh)
      split
      · rename_i hr
        rw [if_pos hr] at h
        exact uponIn_of_Op1P (fun _ => trivial) rfl (fun _ _ _ _ h => (calls_wide _ h).inRound l) hno (fun ch w' hx => ⟨hs1, hd, hX _ _ _ hx⟩) (h.mono step)
      · rename_i hr
        rw [if_neg hr] at h
        exact ⟨fun _ _ => trivial, step _ _ h⟩
  exact key _ 0 a w (by omega) h1 h2 h

/-! ### Code of one function's activation -/
def wpF (P : Program) (f : FuncId) (c : Code) (Q : Exit → Act → World → Prop) (a : Act) (w : World) : Prop :=
  ∀ (b : Frame) (k : List Item) (cs : List Frame), b.roundOf = none → b.fn = f → ∃ e a' w', Q e a' w' ∧ ArrivesIn (Machine.fenced P Fence.wide) P (lone (b.atR a (.code c :: k)) cs w) b k cs e a' w'
section
variable {P : Program} {f : FuncId} {Q : Exit → Act → World → Prop} {a : Act} {w : World}
theorem wpF_of {c : Code} (h : c.wpIn Fence.wide 0 P Q a w) : wpF P f c Q a w := fun b k cs hr _ => h b k cs hr trivial (room_wide _)
theorem wpF_mono {c : Code} {Q' : Exit → Act → World → Prop} (h : wpF P f c Q a w) (hq : ∀ x a w, Q x a w → Q' x a w) : wpF P f c Q' a w := fun b k cs hr hf =>
  let ⟨e, a', w', q, r⟩ := h b k cs hr hf; ⟨e, a', w', hq _ _ _ q, r⟩
theorem wpF_seq {x y : Code} (h : wpF P f x (Exit.then (wpF P f y Q) Q) a w) : wpF P f (.seq x y) Q a w := by
  intro b k cs hr hf
  have i0 : (lone (b.atR a (.code (.seq x y) :: k)) cs w).fenced P Fence.wide := fenced_wide _ _
  obtain ⟨e, a₁, w₁, hq, harr⟩ := h b (.code y :: k) cs hr hf
  cases e with
  | normal =>
    obtain ⟨e₂, a₂, w₂, hq₂, harr₂⟩ := hq b k cs hr hf
    exact ⟨e₂, a₂, w₂, hq₂, .of_steps (.head i0 stepR_seq harr) harr₂⟩
  | exit id => exact ⟨_, a₁, w₁, hq, .of_steps (.one i0 stepR_seq) (.pass (x := .code y) rfl (fun _ _ => .inl (by simp)) harr)⟩
  | goto l => exact ⟨_, a₁, w₁, hq, .of_steps (.one i0 stepR_seq) (.pass (x := .code y) rfl (fun _ _ => .inl (by simp)) harr)⟩
  | ret => exact ⟨_, a₁, w₁, hq, .of_steps (.one i0 stepR_seq) (.pass (x := .code y) rfl (fun _ _ => .inl (by simp)) harr)⟩
  | panic ch => exact ⟨_, a₁, w₁, hq, .of_steps (.one i0 stepR_seq) (.pass (x := .code y) rfl (fun _ _ => .inl (by simp)) harr)⟩
  | outgrown => exact ⟨_, a₁, w₁, hq, .of_steps (.one i0 stepR_seq) (.pass (x := .code y) rfl (fun _ _ => .inl (by simp)) harr)⟩
theorem wpF_block {id : Nat} {c : Code} (h : wpF P f c (Exit.inBlock id Q) a w) : wpF P f (.block id c) Q a w := by
  intro b k cs hro hb
  have h0 : (lone (b.atR a (.code (.block id c) :: k)) cs w).fenced P Fence.wide := fenced_wide _ _
  obtain ⟨e, a₁, w₁, hq, harr⟩ := h b (.inBlock id :: k) cs hro hb
  cases e with
  | normal => exact ⟨.normal, a₁, w₁, hq, .head h0 stepR_block (StepsIn.trans harr (.one (fenced_wide _ _) stepR_inBlock))⟩
  | exit id' =>
    by_cases hid : id' = id
    · simp only [Exit.inBlock, hid, if_true] at hq
      exact ⟨.normal, a₁, w₁, hq, .head h0 stepR_block (harr.1 k (by simp [exitTo, hid]))⟩
    · simp only [Exit.inBlock, hid, if_false] at hq
      have this : (id == id') = false := by simp; exact fun h => hid h.symm
      have hx : exitTo id' (.inBlock id :: k) = exitTo id' k := by simp [exitTo, this]
      exact ⟨.exit id', a₁, w₁, hq, fun k' hk => .head h0 stepR_block (harr.1 k' (by rw [hx]; exact hk)),
        fun hr' hk => let ⟨k₁, h1, h2⟩ := harr.2 hr' (by rw [hx]; exact hk); ⟨k₁, h1, .head h0 stepR_block h2⟩⟩
  | goto l =>
    have hx : gotoIn l (.inBlock id :: k) = gotoIn l k := by simp [gotoIn]
    exact ⟨_, a₁, w₁, hq, fun k' hk => .head h0 stepR_block (harr.1 k' (by rw [hx]; exact hk)),
      fun hr' hk => let ⟨k₁, h1, h2⟩ := harr.2 hr' (by rw [hx]; exact hk); ⟨k₁, h1, .head h0 stepR_block h2⟩⟩
  | ret => exact ⟨_, a₁, w₁, hq, .of_steps (.one h0 stepR_block) harr⟩
  | panic ch => exact ⟨_, a₁, w₁, hq, .of_steps (.one h0 stepR_block) harr⟩
  | outgrown => exact ⟨_, a₁, w₁, hq, .of_steps (.one h0 stepR_block) harr⟩
theorem wpF_cond {c : Operand} {x y : Code} {t : Bool} (hc : a.eval c = .bool t) (h : wpF P f (if t then x else y) Q a w) : wpF P f (.cond c x y) Q a w :=
  fun b k cs hr hf => let ⟨e, a', w', q, r⟩ := h b k cs hr hf; ⟨e, a', w', q, .of_steps (.one (fenced_wide _ _) (stepR_cond hc)) r⟩
/-- The statement itself: what the kit says of a frame of any function, of a frame of this one. -/
theorem wpF_rangeFunc {g : Operand} {ps : Array Tmp} {assign body : Code}
    (h : ∃ (l : Nat) (mark : List Deferred) (w₁ : World) (d : Deferred) (w₁' : World) (f' : FuncId) (args : Array Value) (w₂ : World),
      (Instr.enterLoop f a.tmps ps assign body none).run P w = .ok (l, mark) w₁ ∧
      (resolve a.eval (rangeCall g l) 0).run P w₁ = .ok d w₁' ∧
      (invoke d.target d.args).run P w₁' = .ok (.enter f' args) w₂ ∧
      CallsIn Fence.wide 0 P f' args w₂ (fun | .returned _, w₃ => ∃ w₄, (Instr.endLoop l).run P w₃ = .ok none w₄ ∧ Q .normal { a with defers := mark ++ a.defers } w₄ | .panicked ch, w₃ => Q (.panic ch) { a with defers := mark ++ a.defers } w₃ | .outgrown, _ => False)) :
    wpF P f (.rangeFunc g ps assign body) Q a w := by
  intro b k cs hro hb
  obtain ⟨l, mark, w₁, d, w₁', f', args, w₂, he, hres, hinv, hF, hcall⟩ := h
  rw [← hro, ← hb] at he
  have h0 : (lone (b.atR a (.code (.rangeFunc g ps assign body) :: k)) cs w).fenced P Fence.wide := fenced_wide _ _
  have henter := stepR_rangeFunc (P := P) (b := b) (a := a) (k := k) (cs := cs) (w := w) he hres hinv
  obtain ⟨e, w₃, fr, hR, hsteps, hfn, hleave⟩ := hcall (b.atR { a with defers := mark ++ a.defers } (.inRangeFunc l :: k) :: cs) (room_wide _)
  cases e with
  | outgrown => exact hR.elim
  | returned v =>
    have hl : (lone fr (b.atR { a with defers := mark ++ a.defers } (.inRangeFunc l :: k) :: cs) w₃).fenced P Fence.wide := fenced_wide _ _
    obtain ⟨w₄, hend, hj⟩ := hR
    refine ⟨.normal, _, w₄, hj, .head h0 henter (StepsIn.trans hsteps (.head hl ?_ (.one (fenced_wide _ _) (stepR_endRangeFunc (k := k) hend))))⟩
    rw [← finish_atR_inRangeFunc l v]; exact step_leave_returned hleave
  | panicked chain =>
    have hl : (lone fr (b.atR { a with defers := mark ++ a.defers } (.inRangeFunc l :: k) :: cs) w₃).fenced P Fence.wide := fenced_wide _ _
    refine ⟨.panic chain, _, w₃, hR, .inRangeFunc l :: k, .head h0 henter (StepsIn.trans hsteps (.one hl ?_))⟩
    rw [← Frame.raise_atR]; exact step_leave_panicked hleave
end
def WPF (P : Program) (f : FuncId) (N : Nat) (D : List Deferred) (c : Code) (e : Env) (w : World) (Q : Exit → Env → World → List Deferred → Prop) : Prop :=
  slotsOk N c = true → ∀ a : Act, a.tmps.size = N → a.defers = D → env a = e → wpF P f c (fun x a' w' => a'.tmps.size = N ∧ Q x (env a') w' a'.defers) a w
section
variable {P : Program} {f : FuncId} {N : Nat} {D : List Deferred} {e : Env} {w : World} {Q : Exit → Env → World → List Deferred → Prop}
theorem WPF.ofD {c : Code} (h : WPD P N D c e w Q) : WPF P f N D c e w Q := fun hs a h1 h2 h3 => wpF_of (wpIn_wide.2 (h hs a h1 h2 h3))
theorem WPF.of {c : Code} (h : WP P N D c e w (fun x e' w' => Q x e' w' D)) : WPF P f N D c e w Q := WPF.ofD (WPD.of h)
theorem WPF.seq {x y : Code} (h : WPF P f N D x e w (thenD (fun e' w' D' => WPF P f N D' y e' w' Q) Q)) : WPF P f N D (.seq x y) e w Q := by
  intro hs a h1 h2 h3
  simp only [slotsOk, Bool.and_eq_true] at hs
  refine wpF_seq (wpF_mono (h hs.1 a h1 h2 h3) ?_)
  rintro x a' w' ⟨g1, g3⟩
  cases x <;> simp only [thenD] at g3 <;> first | exact ⟨g1, g3⟩ | exact g3 hs.2 a' g1 rfl rfl
theorem WPF.block {id : Nat} {c : Code} (h : WPF P f N D c e w (blockD id Q)) : WPF P f N D (.block id c) e w Q := by
  intro hs a h1 h2 h3
  refine wpF_block (wpF_mono (h hs a h1 h2 h3) ?_)
  rintro x a' w' ⟨g1, g3⟩
  cases x <;> simp only [blockD] at g3 <;> simp only [Exit.inBlock] <;> first | exact ⟨g1, g3⟩ | (split at g3 <;> rename_i hi <;> simp only [hi, if_true, if_false] <;> exact ⟨g1, g3⟩)
theorem WPF.cond {c : Operand} {x y : Code} {b : Bool} (hc : ev e c = .bool b) (ht : b = true → WPF P f N D x e w Q) (hf : b = false → WPF P f N D y e w Q) : WPF P f N D (.cond c x y) e w Q := by
  intro hs a h1 h2 h3
  simp only [slotsOk, Bool.and_eq_true] at hs
  have he : a.eval c = .bool b := by rw [eval_env, h3]; exact hc
  refine wpF_cond he ?_
  cases b
  · exact hf rfl hs.2 a h1 h2 h3
  · exact ht rfl hs.1 a h1 h2 h3
theorem WPF.cond_dec {c : Operand} {x y : Code} {p : Prop} [Decidable p] (hc : ev e c = .bool (decide p)) (ht : p → WPF P f N D x e w Q) (hf : ¬ p → WPF P f N D y e w Q) : WPF P f N D (.cond c x y) e w Q :=
  WPF.cond hc (fun h => ht (of_decide_eq_true h)) (fun h => hf (of_decide_eq_false h))
theorem WPF.skip (h : Q .normal e w D) : WPF P f N D .skip e w Q := WPF.ofD (WPD.skip h)
theorem WPF.ret (h : Q .ret e w D) : WPF P f N D .ret e w Q := WPF.ofD (WPD.ret h)
theorem WPF.region {id : Nat} {ops : Array Oper} (h : Ops P ops ops.toList e w (fun e' w' => Q .normal e' w' D)) : WPF P f N D (.region id ops false) e w Q := WPF.of (WP.region h)
theorem WPF.regionP {id : Nat} {ops : Array Oper} (X : PX) (hX : ∀ e ch w', X ch w' → Q (.panic ch) e w' D) (h : OpsP P X ops ops.toList e w (fun e' w' => Q .normal e' w' D)) : WPF P f N D (.region id ops false) e w Q := WPF.of (WP.regionP X hX h)
/-- A statement defer. -/
theorem WPF.deferR {id : Nat} {d1 : Nat} {op1 op2 : Op} {t1 t2 : TypeId} {p1 p2 : String} {a1 a2 : Array Edge} {v : Value} {dd : Deferred} (hy : Y P ⟨some d1, op1, t1, p1, a1, none⟩ e w v)
    (hd : (execOp (ev (upd e d1 v)) ⟨none, op2, t2, p2, a2, none⟩).run P w = .ok (.defer dd) w) (h : Q .normal (upd e d1 v) w (dd :: D)) : WPF P f N D (.region id #[⟨some d1, op1, t1, p1, a1, none⟩, ⟨none, op2, t2, p2, a2, none⟩] false) e w Q := by
  refine WPF.ofD ?_
  intro hs a h1 h2 h3
  subst h3
  refine wp_region_list ?_
  have hd1 : d1 < N := by
    have := hs
    simp [slotsOk, dstsOk] at this
    exact this
  have hput : env (a.put (some d1) v) = upd (env a) d1 v := env_puto a (some d1) v (by rw [h1]; simpa using hd1)
  simp only [wpList, wanted_env, runs, if_true]
  refine .inl ?_
  unfold Oper.wp
  rw [eval_env]
  unfold Y at hy
  rw [hy, Oper.upon_value]
  refine .inl ?_
  rw [eval_env, hput, hd, Oper.upon_defer]
  refine ⟨by rw [size_put]; show (a.put (some d1) v).tmps.size = N; rw [size_put, h1], ?_⟩
  have e1 : env (({ a.put (some d1) v with defers := dd :: (a.put (some d1) v).defers } : Act).put none undef) = upd (env a) d1 v := hput
  have e2 : (({ a.put (some d1) v with defers := dd :: (a.put (some d1) v).defers } : Act).put none undef).defers = dd :: D := by
    show dd :: (a.put (some d1) v).defers = _
    rw [defers_put, h2]
  rw [e1, e2]
  exact h
end
/-! ### A region in the order of the text; what a panic tells may look at the slots -/
def OpsE (P : Program) (X : Env → PX) (full : Array Oper) : List Oper → Env → World → (Env → World → Prop) → Prop
  | [], e, w, K => K e w
  | o :: rest, e, w, K => if runs full e o then Op1P P (X e) o e w (fun v w' => OpsE P X full rest (updo e o.dst v) w' K) else OpsE P X full rest (updo e o.dst undef) w K
theorem OpsE.sound {P : Program} {X : Env → PX} {full : Array Oper} {Q : Exit → Act → World → Prop} {N : Nat} {D : List Deferred} (hX : ∀ a ch w', a.tmps.size = N → a.defers = D → X (env a) ch w' → Q (.panic ch) a w') : ∀ (l : List Oper) (a : Act) (w : World) (K : Env → World → Prop),
    dstsOk N l = true → a.tmps.size = N → a.defers = D → (∀ a' w', a'.tmps.size = N → a'.defers = D → K (env a') w' → Q .normal a' w') → OpsE P X full l (env a) w K → wpList P full Q l a w
  | [], a, w, K, _, hs, hd, hK, h => by simp only [OpsE] at h; exact hK _ _ hs hd h
  | o :: rest, a, w, K, hds, hs, hd, hK, h => by
    simp only [dstsOk, List.all_cons, Bool.and_eq_true] at hds
    have hput : ∀ v, env (a.put o.dst v) = updo (env a) o.dst v := fun v => env_puto a o.dst v (by rw [hs]; exact hds.1)
    simp only [wpList, wanted_env]
    simp only [OpsE] at h
    split
    · rename_i hr
      rw [if_pos hr] at h
      refine .inl (wp_of_Op1P (fun ch w' => hX a ch w' hs hd) (h.mono fun v w' hh => ?_))
      rw [← hput] at hh
      exact OpsE.sound hX rest _ _ K hds.2 (by rw [size_put, hs]) (by rw [defers_put, hd]) hK hh
    · rename_i hr
      rw [if_neg hr] at h
      rw [← hput] at h
      exact OpsE.sound hX rest _ _ K hds.2 (by rw [size_put, hs]) (by rw [defers_put, hd]) hK h
theorem WP.regionE {P : Program} {N : Nat} {D : List Deferred} {e : Env} {w : World} {Q : Exit → Env → World → Prop} {id : Nat} {ops : Array Oper} (X : Env → PX) (hX : ∀ e ch w', X e ch w' → Q (.panic ch) e w') (h : OpsE P X ops ops.toList e w (fun e' w' => Q .normal e' w')) : WP P N D (.region id ops false) e w Q := by
  intro hs a h1 h2 h3
  subst h3
  exact wp_region_list (OpsE.sound (fun a ch w' g1 g2 g3 => ⟨g1, g2, hX _ _ _ g3⟩) _ a w _ hs h1 h2 (fun _ _ g1 g2 g3 => ⟨g1, g2, g3⟩) h)
theorem WPF.regionE {P : Program} {f : FuncId} {N : Nat} {D : List Deferred} {e : Env} {w : World} {Q : Exit → Env → World → List Deferred → Prop} {id : Nat} {ops : Array Oper} (X : Env → PX) (hX : ∀ e ch w', X e ch w' → Q (.panic ch) e w' D) (h : OpsE P X ops ops.toList e w (fun e' w' => Q .normal e' w' D)) : WPF P f N D (.region id ops false) e w Q := WPF.of (WP.regionE X hX h)
section
variable {P : Program} {X : Env → PX} {full : Array Oper} {rest : List Oper} {e : Env} {w : World} {K : Env → World → Prop}
theorem OpsE.nil (h : K e w) : OpsE P X full [] e w K := h
theorem OpsE.p {d : Option Nat} {op : Op} {t : TypeId} {pos : String} {af : Array Edge} (h : Op1P P (X e) ⟨d, op, t, pos, af, none⟩ e w (fun v w' => OpsE P X full rest (updo e d v) w' K)) :
    OpsE P X full (⟨d, op, t, pos, af, none⟩ :: rest) e w K := by simpa [OpsE, runs] using h
theorem OpsE.go {d : Option Nat} {op : Op} {t : TypeId} {pos : String} {af : Array Edge} (h : Op1 P ⟨d, op, t, pos, af, none⟩ e w (fun v w' => OpsE P X full rest (updo e d v) w' K)) :
    OpsE P X full (⟨d, op, t, pos, af, none⟩ :: rest) e w K := OpsE.p (.of h)
theorem OpsE.y {d : Nat} {op : Op} {t : TypeId} {pos : String} {af : Array Edge} {v : Value} (hy : Y P ⟨some d, op, t, pos, af, none⟩ e w v) (h : OpsE P X full rest (upd e d v) w K) :
    OpsE P X full (⟨some d, op, t, pos, af, none⟩ :: rest) e w K := OpsE.go (by unfold Op1; rw [hy]; exact h)
theorem OpsE.gt {d : Option Nat} {op : Op} {t : TypeId} {pos : String} {af : Array Edge} {j : Nat} {b : Bool} (hg : yieldE full e j = some b) (h : Op1 P ⟨d, op, t, pos, af, some (j, b)⟩ e w (fun v w' => OpsE P X full rest (updo e d v) w' K)) :
    OpsE P X full (⟨d, op, t, pos, af, some (j, b)⟩ :: rest) e w K := by
  have h' := Op1P.of (X := X e) h
  simpa [OpsE, runs, hg] using h'
theorem OpsE.ygt {d : Nat} {op : Op} {t : TypeId} {pos : String} {af : Array Edge} {v : Value} {j : Nat} {b : Bool} (hg : yieldE full e j = some b) (hy : Y P ⟨some d, op, t, pos, af, some (j, b)⟩ e w v) (h : OpsE P X full rest (upd e d v) w K) :
    OpsE P X full (⟨some d, op, t, pos, af, some (j, b)⟩ :: rest) e w K := OpsE.gt hg (by unfold Op1; rw [hy]; exact h)
theorem OpsE.gf {d : Option Nat} {op : Op} {t : TypeId} {pos : String} {af : Array Edge} {j : Nat} {b : Bool} (hg : (yieldE full e j == some b) = false) (h : OpsE P X full rest (updo e d undef) w K) :
    OpsE P X full (⟨d, op, t, pos, af, some (j, b)⟩ :: rest) e w K := by simpa [OpsE, runs, hg] using h
end
/-! ### The range -/
/-- An iterator that owns something: it hands xs to yield, one behind the other. -/
def IterP {α : Type} (P : Program) (g : FuncId) (lb : List Value) (encs : α → List Value) (xs : List α) (own : SA) : Prop :=
  ∀ {σ : Type} (l : Nat) (B : Base) (h : Heap) (U : σ → List SA) (Jc : Nat → Heap → σ → Prop) (Xp : PX) (W : World) (s0 : σ), Inv B h (own :: U s0) W → Jc 0 h s0 → (∀ k s hg hg', hg.le hg' → Jc k hg s → Jc k hg' s) →
    (∀ k hg x s X W, xs[k]? = some x → h.le hg → Inv B hg (X ++ U s) W → Jc k hg s → YieldAt Fence.wide 0 P l (encs x).toArray W fun ed W' => (ed = .returned (.bool true) ∧ ∃ h2 s', hg.le h2 ∧ Inv B h2 (X ++ U s') W' ∧ Jc (k + 1) h2 s') ∨ ∃ ch, ed = .panicked ch ∧ Xp ch W') →
    Calls P g (#[.func (.yield l) #[] #[]] ++ lb.toArray) W fun ed W' => ((∃ v, ed = .returned v) ∧ ∃ h2 s', h.le h2 ∧ Inv B h2 (U s') W' ∧ Jc xs.length h2 s') ∨ ∃ ch, ed = .panicked ch ∧ Xp ch W'
def roundQP (B : Base) (hg : Heap) {σ : Type} (X : List SA) (U : σ → List SA) (T : List SA) (Jn : Heap → σ → Prop) (Xp : PX) : Exit → Env → World → Prop
  | .normal, _, W => ∃ h2 s Z, hg.le h2 ∧ Inv B h2 (Z ++ (X ++ (U s ++ T))) W ∧ Jn h2 s
  | .panic ch, _, W => Xp ch W
  | _, _, _ => False
theorem WPF.rangeFunc {α σ : Type} {P : Program} {f : FuncId} {N : Nat} {e : Env} {w : World} {Q : Exit → Env → World → List Deferred → Prop} {D0 : List Deferred} {B : Base} {h : Heap} {g : Operand} {ps : Array Tmp} {assign body : Code} {gf : FuncId} {lb : List Value}
    {encs : α → List Value} {xs : List α} {own : SA} (hfn : ∃ fn, P.funcs[f]? = some fn) (U : σ → List SA) (Jc : Nat → Heap → σ → Prop) (Xp : Nat → PX) (s0 : σ) (I : Inv B h (own :: U s0) w) (j0 : Jc 0 h s0) (mono : ∀ k s hg hg', hg.le hg' → Jc k hg s → Jc k hg' s)
    (hg : ev e g = .func (.func gf) #[] lb.toArray) (eg : Enters P gf) (it : IterP P gf lb encs xs own) (hps : ∀ x, (encs x).length = ps.size) (hpN : ps.toList.all (· < N) = true) (hsa : slotsOk N assign = true) (hsb : slotsOk N body = true)
    (round : ∀ (l D : Nat) (r : Loop) (hg : Heap) (k : Nat) (x : α) (s : σ) (X : List SA) (W : World), xs[k]? = some x → h.le hg → Inv B hg (X ++ (U s ++ [loopSA l r, markSA D])) W → Jc k hg s →
      WPI P N l assign (argE e (ps.toList.zip (encs x))) W (thenE (fun e1 W1 => ∃ h1, hg.le h1 ∧ Inv B h1 (X ++ (U s ++ [loopSA l r, markSA D])) W1 ∧
        ∀ r' W2, Inv B h1 (X ++ (U s ++ [loopSA l r', markSA D])) W2 → WPI P N l body e1 W2 (roundQP B h1 X U [loopSA l r', markSA D] (Jc (k + 1)) (Xp D))) (fun _ _ _ => False)))
    (hdone : ∀ D h2 s W, h.le h2 → Inv B h2 (U s ++ [markSA D]) W → Jc xs.length h2 s → Q .normal e W (mark D :: D0))
    (hpan : ∀ D ch W, Xp D ch W → Q (.panic ch) e W (mark D :: D0)) :
    WPF P f N D0 (.rangeFunc g ps assign body) e w Q := by
  intro _ a h1 h2 h3
  subst h3
  refine wpF_rangeFunc ?_
  obtain ⟨rec, hrec⟩ : ∃ rec : LoopState → Option Code → Loop, rec = fun st pe => { state := st, pending := pe, fn := f, tmps := a.tmps, params := ps, assign, body, defers := w.heap.size } := ⟨_, rfl⟩
  obtain ⟨l, hl⟩ : ∃ l, l = w.heap.size + 1 := ⟨_, rfl⟩
  obtain ⟨W1, hW1⟩ : ∃ W1, (w.alloc (.deferred (some []))).alloc (.loop (rec .ready none)) = W1 := ⟨_, rfl⟩
  have I1 : Inv B h (own :: (U s0 ++ [loopSA l (rec .ready none), markSA w.heap.size])) W1 := by
    have J1 : Inv B h (markSA w.heap.size :: own :: U s0) (w.alloc (.deferred (some []))) := I.gain (Grow.alloc w _) (World.alloc_heap_new w _) (fun b hb => by simp [markSA] at hb; subst hb; simp)
    have J2 : Inv B h (loopSA l (rec .ready none) :: markSA w.heap.size :: own :: U s0) W1 := by
      rw [← hW1]
      refine J1.gain (Grow.alloc _ _) ?_ (fun b hb => ?_)
      · have := World.alloc_heap_new (w.alloc (.deferred (some []))) (.loop (rec .ready none))
        rw [World.size_alloc] at this
        rw [hl]; exact this
      · simp [loopSA] at hb; subst hb; rw [hl]; simp
    refine J2.perm ?_
    show ((own :: U s0) ++ [loopSA l (rec .ready none), markSA w.heap.size]).Perm ([loopSA l (rec .ready none), markSA w.heap.size] ++ (own :: U s0))
    exact List.perm_append_comm
  refine ⟨l, [mark w.heap.size], W1, { target := .fn (.func gf) lb.toArray, args := #[.func (.yield l) #[] #[]] }, W1, gf, #[.func (.yield l) #[] #[]] ++ lb.toArray, W1, ?_, ?_, ?_, ?_⟩
  · rw [← hW1, hrec, hl]; exact run_enterLoop_outer _ _ _ _ _
  · rw [eval_env]
    have hg' : ev (env a) g = .func (.func gf) #[] lb.toArray := hg
    simp only [resolve, hg']
    simp [go_sem]
    rfl
  · simp [invoke, go_sem]; exact eg _ _
  · refine callsIn_wide.2 ?_
    refine (it l B h (fun s => U s ++ [loopSA l (rec .ready none), markSA w.heap.size]) Jc (Xp w.heap.size) W1 s0 I1 j0 mono ?_).mono ?_
    · intro k hg' x s X W hx g1 IW hj
      have IL : Inv B hg' ((X ++ U s) ++ loopSA l (rec .ready none) :: [markSA w.heap.size]) W := by rw [List.append_assoc]; exact IW
      have hy := run_yield (P := P) (args := (encs x).toArray) IL.getLoop (by rw [hrec]; simpa using hps x)
      refine ⟨_, _, _, _, hy, ?_⟩
      rw [hrec]
      refine roundIn_of_wpInP hfn ?_
      have hfold : (ps.zip (encs x).toArray).foldl (fun tmps (t, a) => tmps.setIfInBounds t a) a.tmps = (ps.toList.zip (encs x)).foldl (fun t p => t.setIfInBounds p.1 p.2) a.tmps := by
        rw [← Array.foldl_toList]; simp
      have hE := env_args (N := N) (ps.toList.zip (encs x)) a.tmps h1 (fun p hp => by
        have := (List.all_eq_true.1 hpN) p.1 (List.of_mem_zip hp).1
        simpa using this)
      have henv : env { tmps := a.tmps, defers := [] } = env a := rfl
      rw [henv] at hE
      have hR := round l w.heap.size (rec .ready none) hg' k x s X W hx g1 IW hj hsa { tmps := (ps.toList.zip (encs x)).foldl (fun t p => t.setIfInBounds p.1 p.2) a.tmps, defers := [] } hE.2 rfl hE.1
      simp only [hfold]
      refine wpIn_mono hR ?_
      rintro x1 a1 w1 ⟨k1, k2, k3⟩
      cases x1 <;> simp only [thenE] at k3 <;> first | exact k3.elim | skip
      obtain ⟨hg1, gl1, IX, hb⟩ := k3
      have IX' : Inv B hg1 ((X ++ U s) ++ loopSA l (rec .ready none) :: [markSA w.heap.size]) w1 := by rw [List.append_assoc]; exact IX
      refine ⟨_, run_beginRound IX'.getLoop (by rw [hrec]), ?_⟩
      have I2 := IX'.setLoop { rec .ready none with state := .busy }
      rw [List.append_assoc] at I2
      refine wpIn_mono (hb _ _ I2 hsb a1 k1 k2 rfl) ?_
      rintro x2 a2 w2 ⟨q1, q2, q3⟩
      cases x2 <;> simp only [roundQP] at q3 <;> simp only [roundPostP, roundPost] <;> first | exact q3.elim | skip
      · obtain ⟨h2, s2, Z, gl2, I3, hj2⟩ := q3
        have I3' : Inv B h2 ((X ++ U s2) ++ loopSA l { rec .ready none with state := .busy } :: [markSA w.heap.size]) w2 := by
          rw [List.append_assoc]; exact I3.weak (List.sublist_append_right _ _)
        have hr := run_endRound (P := P) none I3'.getLoop
        have I4 := I3'.setLoop (rec .ready none)
        refine ⟨_, _, hr, .inl ⟨rfl, h2, s2, gl1.trans gl2, ?_, hj2⟩⟩
        rw [List.append_assoc] at I4
        rw [hrec] at I4 ⊢
        exact I4
      · exact ⟨q2, .inr ⟨_, rfl, q3⟩⟩
    · rintro ed W2 (⟨⟨v, rfl⟩, hg', s, gl, I2, hj⟩ | ⟨ch, rfl, hx⟩)
      · refine ⟨_, by have := run_endLoop (P := P) I2.getLoop (by rw [hrec]; simp); rw [hrec] at this; exact this, h1, ?_⟩
        have I3 := (I2.setLoop { rec .ready none with state := .exhausted }).outLoop
        have hq := hdone w.heap.size hg' s _ gl I3 hj
        have hq' : Q .normal (env a) (W2.putObj l (.loop { rec .ready none with state := .exhausted })) (mark w.heap.size :: a.defers) := by rw [h2]; exact hq
        rw [hrec] at hq'
        exact hq'
      · refine ⟨h1, ?_⟩
        have hq := hpan _ _ _ hx
        rw [← h2] at hq
        exact hq
/-! ### The function's end -/
def endF (P : Program) (fn : Func) (R : Ending → World → Prop) : Exit → Env → World → List Deferred → Prop
  | .normal, e, w, D | .ret, e, w, D => ∀ tmps, env { tmps := tmps, defers := [] } = e → LeavesInM Fence.wide 0 P fn tmps R D .returning w
  | .panic ch, e, w, D => ∀ tmps, env { tmps := tmps, defers := [] } = e → LeavesInM Fence.wide 0 P fn tmps R D (.panicking ch) w
  | _, _, _, _ => False
theorem Calls.ofF {P : Program} {f : FuncId} {fn : Func} {c : Code} {N : Nat} {args : List Value} {w : World} {R : Ending → World → Prop} (hf : P.funcs[f]? = some fn) (hb : fn.body = some c) (hN : fn.ntmps = N) (hs : slotsOk N c = true)
    (hl : args.length ≤ N) (h : ∀ e, WPF P f N [] c (E e (argsE 0 args)) w (endF P fn R)) : Calls P f args.toArray w R := by
  refine (callsIn_wide (n := 0)).1 ⟨trivial, fun cs hr => ?_⟩
  subst hN
  let b : Frame := { (default : Frame) with fn := f, kind := .normal, roundOf := none }
  have henter : Frame.enter P f args.toArray .normal = b.atR { tmps := args.toArray ++ Array.replicate (fn.ntmps - args.toArray.size) undef, defers := [] } [.code c] := by
    simp [Frame.enter, Frame.atR, hf, hb, b]
  obtain ⟨e, a', w', ⟨_, hq⟩, harr⟩ := h _ hs { tmps := args.toArray ++ Array.replicate (fn.ntmps - args.toArray.size) undef, defers := [] } (by simp; omega) rfl (E_self (has_args args 0 fun j v hv => by
    have hj := (List.getElem?_eq_some_iff.1 hv).1
    have hg : args[j] = v := (List.getElem?_eq_some_iff.1 hv).2
    simp [env, Array.getD_eq_getD_getElem?, Array.getElem?_append, hj, hg])).symm b [] cs rfl rfl
  rw [← henter] at harr
  cases e with
  | normal =>
    obtain ⟨e', w'', fr', hR, hs, hfn, hl⟩ := leaves_stepsInM a'.defers .returning w' { b.atR a' [] with mode := .returning } cs rfl rfl rfl hf rfl trivial hr (hq a'.tmps rfl)
    exact ⟨e', w'', fr', hR, ComesIn.of_steps (StepsIn.trans harr (.one (fenced_wide _ _) (stepR_end rfl))) hs, hfn, hl⟩
  | ret =>
    obtain ⟨todo, hs₀⟩ := harr.1 rfl
    obtain ⟨e', w'', fr', hR, hs, hfn, hl⟩ := leaves_stepsInM a'.defers .returning w' { b.atR a' todo with mode := .returning } cs rfl rfl rfl hf rfl trivial hr (hq a'.tmps rfl)
    exact ⟨e', w'', fr', hR, ComesIn.of_steps hs₀ hs, hfn, hl⟩
  | panic chain =>
    obtain ⟨todo, hs₀⟩ := harr
    obtain ⟨e', w'', fr', hR, hs, hfn, hl⟩ := leaves_stepsInM a'.defers (.panicking chain) w' { b.atR a' todo with mode := .panicking chain } cs rfl rfl rfl hf rfl trivial hr (hq a'.tmps rfl)
    exact ⟨e', w'', fr', hR, ComesIn.of_steps hs₀ hs, hfn, hl⟩
  | exit id => exact hq.elim
  | goto l => exact hq.elim
  | outgrown => exact hq.elim
end Go.TF
end
section
/- Package text: the lines of a text, as strings.Lines hands them out. -/
namespace Go.TF
open Go Go.RowKit Go.Proofs
set_option maxRecDepth 20000

theorem index_one (c : UInt8) : ∀ s : Bs, Lib.index s [c] = Lib.indexByte s c
  | [] => rfl
  | b :: l => by
    rw [Lib.index, Lib.indexByte, index_one c l]
    have : ([c].isPrefixOf (b :: l)) = (b == c) := by
      show (c == b && true) = (b == c)
      rw [Bool.and_true]
      exact BEq.comm
    rw [this]
theorem indexByte_lt (c : UInt8) : ∀ s : Bs, Lib.indexByte s c < s.length
  | [] => by show (-1 : Int) < 0; omega
  | b :: l => by
    have ih := indexByte_lt c l
    rw [Lib.indexByte]
    simp only [List.length_cons]
    split
    · omega
    · split <;> omega
theorem mk_extract (s : Bs) (i j : Nat) : (mk s).extract i j = mk ((s.take j).drop i) := by
  apply ByteArray.ext
  simp only [ByteArray.data_extract]
  apply Array.ext'
  simp [List.drop_take]
def linesB (s : ByteArray) : List ByteArray := (linesS (tx s).length (tx s)).map mk
abbrev strC (s : ByteArray) : List Value := [.string s]
theorem drop_step {α : Type} {x : α} {l xs : List α} {k : Nat} (h : x :: l = xs.drop k) : xs[k]? = some x ∧ l = xs.drop (k + 1) ∧ k < xs.length := by
  have hk : k < xs.length := by
    rcases Nat.lt_or_ge k xs.length with h1 | h1
    · exact h1
    · rw [List.drop_eq_nil_of_le h1] at h; cases h
  rw [List.drop_eq_getElem_cons hk] at h
  injection h with h1 h2
  exact ⟨by rw [List.getElem?_eq_getElem hk, ← h1], h2, hk⟩
theorem Lines1_it (s : ByteArray) (hs : s.size ≤ 4096) (b : Nat) : IterP Tryz.prog 67 [.pointer (some ⟨b, 0, none⟩)] strC (linesB s) (box b [.string s] 9) := by
  intro σ l B h U Jc Xp W s0 I j0 mono hy
  have hargs : (#[.func (.yield l) #[] #[]] : Array Value) ++ ([.pointer (some ⟨b, 0, none⟩)] : List Value).toArray = [.func (.yield l) #[] #[], .pointer (some ⟨b, 0, none⟩)].toArray := rfl
  rw [hargs]
  refine Calls.ofWPP (args := [.func (.yield l) #[] #[], .pointer (some ⟨b, 0, none⟩)]) Tryz.func67 rfl Tryz.ntmps67 (by kernel_rfl) (by simp) ?_
  intro e
  refine WP.block ?_
  refine WP.loopE (σ := Nat × Bs × Heap × σ) (fun z => [(0, .func (.yield l) #[] #[]), (1, .pointer (some ⟨b, 0, none⟩))])
    (fun z w => z.2.1.length ≤ 4096 ∧ z.1 ≤ (linesB s).length ∧ (∃ f, z.2.1.length ≤ f ∧ (linesS f z.2.1).map mk = (linesB s).drop z.1) ∧ Inv B z.2.2.1 (box b [.string (mk z.2.1)] 9 :: U z.2.2.2) w ∧ h.le z.2.2.1 ∧ Jc z.1 z.2.2.1 z.2.2.2) (fun z => z.2.1.length)
    ⟨(0, tx s, h, s0), ⟨rfl, rfl, trivial⟩, by rw [tx_len]; exact hs, Nat.zero_le _, ⟨_, Nat.le_refl _, rfl⟩, by have e : mk (tx s) = s := mk_tx s; show Inv B h (box b [.string (mk (tx s))] _ :: U s0) W; rw [e]; exact I, Heap.le.refl _, j0⟩ ?_
  rintro ⟨k, rest, hg, s1⟩ e w ⟨hr, hk, ⟨f, hf, hxs⟩, I, gl, hj⟩
  dsimp only at hr hk hf hxs I gl hj ⊢
  have hsz : (mk rest).size = rest.length := mk_size rest
  refine WP.seq ?_
  refine WP.seq ?_
  refine WP.region ?_
  refine Ops.y (v := .string _) (Y.loadv ty_9 rfl (I.rdbox 0 rfl 0 1) rfl rfl) ?_
  refine Ops.y (v := .int .i64 _) (Y.lenstr Tryz.underlying9 rfl) ?_
  refine Ops.y (v := .bool (decide _)) (Y.gti rfl rfl) ?_
  refine Ops.nil ?_
  refine WP.cond_dec rfl (fun h7 => ?_) (fun h7 => ?_)
  · have hne : rest ≠ [] := fun e => by rw [e] at hsz; have h0 : (mk ([] : Bs)).size = 0 := rfl; rw [e] at h7; omega
    obtain ⟨f, rfl⟩ : ∃ g, f = g + 1 := ⟨f - 1, by have : 0 < rest.length := List.length_pos_iff.2 hne; omega⟩
    rw [linesS, if_neg hne] at hxs
    obtain ⟨ix, hix⟩ : ∃ ix, Lib.index rest [10] = ix := ⟨_, rfl⟩
    have hib : Lib.indexByte (tx (mk rest)) (10 : Int).toNat.toUInt8 = ix := by rw [← hix, index_one]; rfl
    rw [hix] at hxs
    refine WP.skip ?_
    refine WP.block ?_
    refine WP.seq ?_
    refine WP.region ?_
    refine Ops.y (v := .string _) (Y.assign rfl) ?_
    refine Ops.nil ?_
    refine WP.seq ?_
    refine WP.seq ?_
    refine WP.region ?_
    refine Ops.y (v := .string _) (Y.loadv ty_9 rfl (I.rdbox 0 rfl 0 1) rfl rfl) ?_
    refine Ops.go (O.callv I Tryz.call68 (hib ▸ IdxByte_ok (B := ⟨w, hg⟩) I.base_ok (mk rest) 10) rfl ?_)
    intro w I
    refine Ops.y (v := .int .i64 _) (Y.assign rfl) ?_
    refine Ops.nil ?_
    refine WP.seq ?_
    refine WP.region ?_
    refine Ops.y (v := .int .i64 _) (Y.move rfl) ?_
    refine Ops.y (v := .bool (decide _)) (Y.gei rfl rfl) ?_
    refine Ops.nil ?_
    refine WP.cutK (σ := Bs × Bs × Heap) (fun z => [(0, .func (.yield l) #[] #[]), (1, .pointer (some ⟨b, 0, none⟩)), (3, .string (mk z.1))])
      (fun z w => z.2.1.length < rest.length ∧ z.2.1.length ≤ f ∧ (mk z.1) :: (linesS f z.2.1).map mk = (linesB s).drop k ∧ hg.le z.2.2 ∧ Inv B z.2.2 (box b [.string (mk z.2.1)] 9 :: U s1) w) ?_ ?_
    · refine WP.cond_dec rfl (fun h11 => ?_) (fun h11 => ?_)
      · have h11' : 0 ≤ ix := h11
        rw [if_pos h11'] at hxs
        have hlt : ix < rest.length := by rw [← hix, index_one]; exact indexByte_lt _ _
        obtain ⟨n, hn⟩ : ∃ n : Nat, ix = n := ⟨ix.toNat, by omega⟩
        subst hn
        refine WP.regionF mixed I 9 (by kernel_rfl) ?_
        refine OpsF.y_ (v := .string _) (fun _ => runs_none _) (fun _ w us hl I => Y.loadv ty_9 rfl (I.rdbox 0 rfl 0 1) rfl rfl) ?_
        refine OpsF.y_ (v := .int .i64 _) (fun _ => runs_none _) (fun _ w us hl I => Y.move rfl) ?_
        refine OpsF.y_ (v := .int .i64 _) (fun _ => runs_none _) (fun _ w us hl I => Y.addi rfl rfl ⟨by omega, by omega⟩) ?_
        refine OpsF.y_ (v := .string _) (fun _ => runs_none _) (fun _ w us hl I => Y.slicestr (l := 0) (h := n + 1) Tryz.underlying9 rfl (.inl ⟨rfl, rfl⟩) (.inr ⟨_, _, rfl, rfl⟩) (by omega) (by rw [hsz]; omega)) ?_
        refine OpsF.y_ (v := .string _) (fun _ => runs_none _) (fun _ w us hl I => Y.loadv ty_9 rfl (I.rdbox 0 rfl 0 1) rfl rfl) ?_
        refine OpsF.y_ (v := .int .i64 _) (fun _ => runs_none _) (fun _ w us hl I => Y.move rfl) ?_
        refine OpsF.y_ (v := .int .i64 _) (fun _ => runs_none _) (fun _ w us hl I => Y.addi rfl rfl ⟨by omega, by omega⟩) ?_
        refine OpsF.y_ (v := .string _) (fun _ => runs_none _) (fun _ w us hl I => Y.slicestr (l := n + 1) (h := (mk rest).size) Tryz.underlying9 rfl (.inr ⟨_, _, rfl, rfl⟩) (.inl ⟨rfl, rfl⟩) (by rw [hsz]; omega) (Nat.le_refl _)) ?_
        refine OpsF.y_ (v := .string _) (fun _ => runs_none _) (fun _ w us hl I => Y.assign rfl) ?_
        refine OpsF.nil ?_
        intro _ w hl I
        try unfold AllL
        refine Ops.go (O.store (v := .string _) I ty_9 0 rfl rfl rfl rfl rfl rfl (Nat.le_of_ble_eq_true rfl) rfl ?_)
        intro w I
        refine Ops.nil ?_
        have e1 : (mk rest).extract 0 (n + 1) = mk (rest.take (n + 1)) := by rw [mk_extract]; rfl
        have e2 : (mk rest).extract (n + 1) (mk rest).size = mk (rest.drop (n + 1)) := by rw [mk_extract, hsz, List.take_of_length_le (Nat.le_refl _)]
        rw [e2] at I
        refine ⟨(rest.take (n + 1), rest.drop (n + 1), _), ⟨rfl, rfl, by rw [← e1]; rfl, trivial⟩, ?_, ?_, ?_, hl, I⟩
        · simp only [List.length_drop]; omega
        · simp only [List.length_drop]; omega
        · simpa using hxs
      · have h11' : ¬ 0 ≤ ix := h11
        rw [if_neg h11'] at hxs
        refine WP.region ?_
        refine Ops.y (v := .string _) (Y.loadv ty_9 rfl (I.rdbox 0 rfl 0 1) rfl rfl) ?_
        refine Ops.y (v := .string _) (Y.assign rfl) ?_
        refine Ops.go (O.store (v := .string _) I ty_9 0 rfl rfl rfl rfl rfl rfl (Nat.le_of_ble_eq_true rfl) rfl ?_)
        intro w I
        refine Ops.nil ?_
        refine ⟨(rest, [], hg), ⟨rfl, rfl, rfl, trivial⟩, ?_, ?_, ?_, Heap.le.refl _, I⟩
        · simp only [List.length_nil]; omega
        · simp
        · cases f <;> simpa [linesS] using hxs
    rintro ⟨x, r2, hg2⟩ e w ⟨hlt, hf2, hx2, gl1, I⟩
    dsimp only at hlt hf2 hx2 gl1 I ⊢
    obtain ⟨hget, hdr, hk1⟩ := drop_step hx2
    refine WP.seq ?_
    refine WP.regionY _ (fun _ _ _ h => h) (by kernel_rfl) ?_
    refine OpsY.y (v := .func _ _ _) (Y.move rfl) ?_
    refine OpsY.y (v := .string _) (Y.move rfl) ?_
    refine OpsY.yield rfl rfl (hy k hg2 (mk x) s1 [box b [.string (mk r2)] 9] w hget (gl.trans gl1) I (mono _ _ _ _ gl1 hj)) ?_
    rintro ed w (⟨rfl, h2, s2, gl2, I, hj2⟩ | ⟨ch, rfl, hx⟩)
    · refine .inl ⟨_, rfl, ?_⟩
      refine OpsY.y (v := .bool false) (Y.b (Y.not rfl) (rfl)) ?_
      refine OpsY.nil ?_
      refine WP.cond_f rfl ?_
      refine WP.skip ?_
      exact ⟨(k + 1, r2, h2, s2), ⟨⟨rfl, rfl, trivial⟩, by dsimp only; omega, by dsimp only; omega, ⟨f, hf2, hdr⟩, I, (gl.trans gl1).trans gl2, hj2⟩, hlt⟩
    · refine .inr ⟨ch, rfl, ?_⟩
      exact .inr ⟨ch, rfl, hx⟩
  obtain rfl : rest = [] := List.length_eq_zero_iff.1 (by omega)
  have hend : k = (linesB s).length := by
    have : (linesS f []).map mk = [] := by cases f <;> simp [linesS]
    rw [this] at hxs
    have := congrArg List.length hxs
    simp only [List.length_nil, List.length_drop] at this
    omega
  subst hend
  refine WP.exit ?_
  exact ⟨[], trivial, .inl ⟨⟨_, rfl⟩, hg, s1, gl, I.drop, hj⟩⟩
end Go.TF
end
section
/- Package text: the deferred call of Read. -/
namespace Go.TF
open Go Go.RowKit Go.Proofs
set_option maxRecDepth 20000

theorem wpSIn_of_WP {P : Program} {N : Nat} {c : Code} {kv : List (Nat × Value)} {w : World} {Q' : Exit → Env → World → Prop} {Q : Exit → Act → List Frame → World → Prop} {a : Act} {cs : List Frame} (hh : Has (env a) kv) (h : ∀ e, WP P N [] c (E e kv) w Q') (hs : slotsOk N c = true) (ha : a.tmps.size = N) (hd : a.defers = [])
    (hq : ∀ x a' w', a'.defers = [] → Q' x (env a') w' → Q x a' cs w') : c.wpSIn Fence.wide 0 P Q a cs w :=
  wpSIn_of_wpIn rfl (wpIn_mono (wpIn_wide.2 (h (env a) hs a ha hd (E_self hh).symm)) fun x a' w' ⟨_, g2, g3⟩ => hq x a' w' g2 g3)
abbrev brkR : List PanicEntry := [{ v := .iface 119 (.agg #[]), recovered := true }]
theorem Read1_ret (b2 b3 : Nat) (w : World) : CallsDIn Fence.wide 0 Tryz.prog 28 #[.pointer (some ⟨b2, 0, none⟩), .pointer (some ⟨b3, 0, none⟩)] .returning w fun ed u w' => (∃ v, ed = .returned v) ∧ u = .returning ∧ w' = w := by
  refine callsDIn_of_wpSIn Tryz.func28 rfl trivial fun c₀ cs hu => ?_
  apply wpSIn_seq
  apply wpSIn_region
  simp [wpOpsSIn, go_sem, recoverD, hu, Tryz.ntmps28, Exit.thenS]
  refine wpSIn_cond (t := false) (by simp [Act.eval, Array.replicate]) ?_
  simp only [Bool.false_eq_true, if_false]
  refine wpSIn_of_wpIn rfl (wpIn_skip ?_)
  cases c₀
  simp_all [bodyPostS, results, Tryz.results28]
theorem Read1_pan {B : Base} {h : Heap} {M : List SA} {w : World} (b2 b3 : Nat) {x y z : Value} (I : Inv B h (box b2 [x, y] 25 :: box b3 [z] 26 :: M) w) :
    CallsDIn Fence.wide 0 Tryz.prog 28 #[.pointer (some ⟨b2, 0, none⟩), .pointer (some ⟨b3, 0, none⟩)] (.panicking brk) w fun ed u w' => (∃ v, ed = .returned v) ∧ u = .panicking brkR ∧ Inv B h (box b2 [.slice none 0 0, .slice none 0 0] 25 :: box b3 [.int .i64 1] 26 :: M) w' := by
  refine callsDIn_of_wpSIn Tryz.func28 rfl trivial fun c₀ cs hu => ?_
  apply wpSIn_seq
  apply wpSIn_region
  simp [wpOpsSIn, go_sem, recoverD, hu, Tryz.ntmps28, Exit.thenS]
  refine wpSIn_cond (t := true) (by simp [Act.eval, Array.replicate]) ?_
  simp only [if_true]
  refine wpSIn_of_WP (N := 5) (kv := [(0, .pointer (some ⟨b2, 0, none⟩)), (1, .pointer (some ⟨b3, 0, none⟩))]) (Q' := fun x _ w' => x = .normal ∧ Inv B h (box b2 [.slice none 0 0, .slice none 0 0] 25 :: box b3 [.int .i64 1] 26 :: M) w') ⟨rfl, rfl, trivial⟩ ?_ rfl (by simp) rfl ?_
  · intro e
    refine WP.region ?_
    refine Ops.y (v := .agg #[.slice _ _ _, .slice _ _ _]) (Y.build pl_25 Tryz.zeroValue25 rfl rfl) ?_
    refine Ops.go (O.store (v := .agg #[_, _]) I ty_25 0 rfl rfl rfl rfl rfl rfl (Nat.le_of_ble_eq_true rfl) rfl ?_)
    intro w I
    refine Ops.go (O.store (v := .int .i64 _) I ty_26 1 rfl rfl rfl rfl rfl rfl (Nat.le_of_ble_eq_true rfl) rfl ?_)
    intro w I
    refine Ops.nil ?_
    exact ⟨rfl, I⟩
  · rintro x a' w' hd ⟨rfl, I⟩
    refine ⟨hd, _, rfl, ?_⟩
    simp [results, Tryz.results28, I]
end Go.TF
end
section
/- Package text: what Read answers: plain; its end. -/
namespace Go.TF
open Go Go.RowKit Go.Proofs
set_option maxRecDepth 20000

def prgOf (st : St) : Prg := ⟨⟨none, 0, st.1⟩, ⟨none, 0, st.2⟩⟩
/-- What a text is read as, if it is right. -/
noncomputable def readOK (s : ByteArray) : Option St := if 4096 < s.size then none else
  match readR (tx s) with
  | none => none
  | some st => if checkProg (prgOf st) = 0 ∧ progL (prgOf st) = tx s then some st else none
noncomputable def readE (s : ByteArray) : Int := if 4096 < s.size then 2 else if (readOK s).isSome = true then 0 else 1
noncomputable def readP (s : ByteArray) : Prg := prgOf ((readOK s).getD ([], []))
def ReadPost (s : ByteArray) (v : Value) (h : Heap) : Prop := ∃ p : Prg, v = .tuple #[p.val, .int .i64 (readE s)] ∧ p.In h ∧ p.Nm ∧ p.er = readP s
theorem readL_app {a b : List Bs} : ∀ {p : St}, readL (a ++ b) p = match readL a p with | none => none | some q => readL b q := by
  induction a with
  | nil => intro p; rfl
  | cons x r ih =>
    intro p
    simp only [List.cons_append, readL]
    cases lineR p x with
    | none => rfl
    | some q => exact ih
theorem linesS_cnt : ∀ {f : Nat} {s : Bs}, (linesS f s).length ≤ f
  | 0, _ => Nat.le_refl _
  | f + 1, s => by
    rw [linesS]
    split
    · exact Nat.zero_le _
    · split
      · simp only [List.length_cons]; have := linesS_cnt (f := f) (s := s.drop ((Lib.index s [10]).toNat + 1)); omega
      · simp
theorem linesS_each : ∀ {f : Nat} {s x : Bs}, x ∈ linesS f s → x.length ≤ s.length
  | 0, _, _, h => by cases h
  | f + 1, s, x, h => by
    rw [linesS] at h
    split at h
    · cases h
    · split at h
      · rcases List.mem_cons.1 h with rfl | h
        · rw [List.length_take]; omega
        · have := linesS_each h
          rw [List.length_drop] at this; omega
      · rw [List.mem_singleton] at h; subst h; exact Nat.le_refl _
/-- The deferred call. -/
def dfrR (b2 b3 : Nat) : Deferred := { target := .fn (.func 28) #[.pointer (some ⟨b2, 0, none⟩), .pointer (some ⟨b3, 0, none⟩)], args := #[] }
section
variable {B : Base} {h : Heap} {M : List SA} {w : World} {fn : Func} {tmps : Array Value} {R : Ending → World → Prop} {m b2 b3 : Nat}
theorem dfr_enter (w : World) : (invoke (dfrR b2 b3).target (dfrR b2 b3).args).run Tryz.prog w = .ok (.enter 28 #[.pointer (some ⟨b2, 0, none⟩), .pointer (some ⟨b3, 0, none⟩)]) w := by
  simp [invoke, dfrR, go_sem]
theorem end_ret (I : Inv B h (markSA m :: M) w) (k : ∀ w', Inv B h M w' → ∃ v, (results fn tmps).run Tryz.prog w' = .ok v w' ∧ R (.returned v) w') : LeavesInM Fence.wide 0 Tryz.prog fn tmps R [mark m, dfrR b2 b3] .returning w := by
  have hD : w.heap[m]? = some (.deferred (some [])) := (I.own _ (List.mem_cons_self ..)).1
  refine ⟨by simp, .inl ⟨m, _, rfl, run_takeMark hD, ?_⟩⟩
  refine ⟨by simp, .inr ⟨(fun hd => by cases hd), .func 28, _, _, _, rfl, dfr_enter _, fun _ _ => trivial, ?_⟩⟩
  refine (Read1_ret b2 b3 _).mono ?_
  rintro ed u w' ⟨⟨v, rfl⟩, rfl, rfl⟩
  exact k _ I.shut
theorem end_pan {x y z : Value} (I : Inv B h (markSA m :: box b2 [x, y] 25 :: box b3 [z] 26 :: M) w)
    (k : ∀ w', Inv B h (box b2 [.slice none 0 0, .slice none 0 0] 25 :: box b3 [.int .i64 1] 26 :: M) w' → ∃ v, (results fn tmps).run Tryz.prog w' = .ok v w' ∧ R (.returned v) w') : LeavesInM Fence.wide 0 Tryz.prog fn tmps R [mark m, dfrR b2 b3] (.panicking brk) w := by
  have hD : w.heap[m]? = some (.deferred (some [])) := (I.own _ (List.mem_cons_self ..)).1
  refine ⟨by simp, .inl ⟨m, _, rfl, run_takeMark hD, ?_⟩⟩
  refine ⟨by simp, .inr ⟨(fun hd => by cases hd), .func 28, _, _, _, rfl, dfr_enter _, fun _ _ => trivial, ?_⟩⟩
  refine (Read1_pan b2 b3 I.shut).mono ?_
  rintro ed u w' ⟨⟨v, rfl⟩, rfl, I⟩
  exact k _ I
end
end Go.TF
end
section
/- What is checked of programs, wherever they lie; what the roads' strata and needs are: plain. -/
namespace Go.TF
open Go

theorem ne_true {b : Bool} (h : b = false) : ¬ b = true := by rw [h]; decide
def cEr (c : Int × Ltl) : Int × Ltl := (c.1, c.2.er)
theorem usesL_er (rs : List Rul) : usesL (rs.map Rul.er) = (usesL rs).map cEr := by
  induction rs with
  | nil => rfl
  | cons r rs ih =>
    unfold usesL at ih ⊢
    simp only [List.map_cons, List.flatMap_cons, List.map_append, ih]
    congr 1
    simp [Rul.er, cEr, Function.comp_def, Atm.er]
theorem sol_er {cs : List (Int × Ltl)} {n : Nat} {L : List Int} : Sol (cs.map cEr) n L ↔ Sol cs n L :=
  ⟨fun h => ⟨h.len, h.pos, fun c hc => h.sat (cEr c) (List.mem_map_of_mem hc)⟩, fun h => ⟨h.len, h.pos, fun c hc => by obtain ⟨d, hd, rfl⟩ := List.mem_map.1 hc; exact h.sat d hd⟩⟩
theorem rulesErr_er (l : List Prd) (rs : List Rul) : rulesErr l (rs.map Rul.er) = rulesErr l rs := by
  induction rs with
  | nil => rfl
  | cons r rs ih => simp only [List.map_cons, rulesErr, checkRule_er, ih]
theorem checkProg_er (p : Prg) : checkProg p.er = checkProg p := by
  have h1 : p.er.preds.xs = p.preds.xs := rfl
  have h2 : p.er.rules.xs = p.rules.xs.map Rul.er := rfl
  unfold checkProg
  rw [h1, h2, List.length_map, rulesErr_er, usesL_er]
  rw [show (∃ M, Sol ((usesL p.rules.xs).map cEr) p.preds.xs.length M) = (∃ M, Sol (usesL p.rules.xs) p.preds.xs.length M) from propext ⟨fun ⟨M, h⟩ => ⟨M, sol_er.1 h⟩, fun ⟨M, h⟩ => ⟨M, sol_er.2 h⟩⟩]

/-! ### The roads -/
theorem lv3 {a b c : Int} (ha : 0 ≤ a) (hb : 0 ≤ b) (hc : 0 ≤ c) (i : Int) : 0 ≤ lv [a, b, c] i := by
  unfold lv
  rw [List.getD_eq_getElem?_getD]
  match i.toNat with
  | 0 => exact ha
  | 1 => exact hb
  | 2 => exact hc
  | _ + 3 => exact Int.le_refl 0
theorem roads_least : Least (usesL roadsC.rules.xs) 3 [0, 0, 1] := by
  refine ⟨⟨rfl, lv3 (by decide) (by decide) (by decide), ?_⟩, fun M hM i => ?_⟩
  · have : ∀ c ∈ usesL roadsC.rules.xs, lst [0, 0, 1] c ≤ lv [0, 0, 1] c.1 := by decide
    exact this
  · have h2 := hM.sat (2, ⟨true, aT 1 [tV 0, tV 0]⟩) (List.mem_of_getElem? (i := 4) rfl)
    have h1 := hM.pos 1
    have e : lst M (2, ⟨true, aT 1 [tV 0, tV 0]⟩) = lv M 1 + 1 := rfl
    unfold SatC at h2
    rw [e] at h2
    dsimp only at h2
    have hi := hM.pos i
    have key : lv [0, 0, 1] i = if i = 2 then 1 else 0 := by
      unfold lv
      rw [List.getD_eq_getElem?_getD]
      by_cases e : i = 2
      · subst e; rfl
      · rw [if_neg e]
        have : i.toNat ≠ 2 := by omega
        match h : i.toNat with
        | 0 => rfl
        | 1 => rfl
        | 2 => exact absurd h this
        | _ + 3 => rfl
    rw [key]
    split
    · rename_i e; subst e; omega
    · exact hi
theorem roads_check : checkProg roadsC = 0 := by
  unfold checkProg
  rw [if_neg (by decide), if_neg (ne_true (show (roadsC.preds.xs.any fun x => !isName x.name) = false by kernel_rfl)), if_neg (ne_true (show twice roadsC.preds.xs = false by kernel_rfl)), if_neg (ne_true (show roadsC.preds.xs.any badArity = false by kernel_rfl)), if_neg (ne_true (show roadsC.preds.xs.any badKind = false by kernel_rfl)), if_neg (by rw [show rulesErr roadsC.preds.xs roadsC.rules.xs = 0 by kernel_rfl]; decide)]
  exact if_pos ⟨_, roads_least.sol⟩
end Go.TF
end
section
/- Package text: Read: walked. -/
namespace Go.TF
open Go Go.RowKit Go.Proofs
set_option maxRecDepth 20000

theorem ruleL_er (l : List Prd) (r : Rul) : ruleL l r.er = ruleL l r := by
  unfold ruleL valL srcL bodyL
  have h1 : r.er.body.xs = r.body.xs.map Ltl.er := rfl
  have h2 : (r.body.xs.map Ltl.er).map (litL l) = r.body.xs.map (litL l) := by rw [List.map_map]; rfl
  have h3 : (r.body.xs.map Ltl.er = []) = (r.body.xs = []) := by simp
  rw [h1, h2]
  simp only [h3]
  rfl
theorem progL_er (p : Prg) : progL p.er = progL p := by
  unfold progL linesP
  have h1 : p.er.rules.xs = p.rules.xs.map Rul.er := rfl
  have h2 : (p.rules.xs.map Rul.er).map (ruleL p.er.preds.xs) = p.rules.xs.map (ruleL p.preds.xs) := by
    rw [List.map_map]; exact List.map_congr_left fun r _ => ruleL_er _ r
  rw [h1, h2]
  rfl
theorem post_nil {s : ByteArray} {v : Value} {h : Heap} (hn : readOK s = none) (hv : v = .tuple #[.agg #[.slice none 0 0, .slice none 0 0], .int .i64 (readE s)]) : ReadPost s v h :=
  ⟨⟨⟨none, 0, []⟩, ⟨none, 0, []⟩⟩, hv, ⟨nilIs, ⟨nilIs, (fun x hx => by cases hx)⟩⟩, (fun x hx => by cases hx), by unfold readP; rw [hn]; rfl⟩
theorem Lines_ok (B : Base) (hB : B.ok) (s : ByteArray) : FnM Tryz.prog 29 [.string s] B (fun v _ M => ∃ b, v = .func (.func 67) #[] #[.pointer (some ⟨b, 0, none⟩)] ∧ M = [box b [.string s] 9]) := by
  refine FnM.of Tryz.func29 rfl Tryz.ntmps29 (by kernel_rfl) (by simp) ?_
  intro e
  have I := Inv.start hB
  refine WP.seq ?_
  refine WP.region ?_
  refine Ops.go (O.box (v := .string _) I rfl rfl ?_)
  intro b1 w I
  refine Ops.y (v := .nilFunc) (Y.assign rfl) ?_
  refine Ops.nil ?_
  refine WP.seq ?_
  refine WP.region ?_
  refine Ops.y (v := .func _ _ _) (Y.mkfunc rfl rfl) ?_
  refine Ops.y (v := .func _ _ _) (Y.assign rfl) ?_
  refine Ops.nil ?_
  refine WP.ret ?_
  repeat (first | refine thenE_ret ?_ | refine blockE_ret ?_)
  exact retM.mk (vs := [_]) rfl ⟨rfl, trivial⟩ (I) (⟨b1, rfl, rfl⟩)
abbrev RdS := Option Addr × Nat × Option Addr × Nat × List Prd × List Rul
def rdU (b2 b3 : Nat) (z : RdS) : List SA := linM b2 z.1 z.2.2.2.2.1.length z.2.1 z.2.2.1 z.2.2.2.2.2.length z.2.2.2.1 z.2.2.2.2.1 z.2.2.2.2.2 [box b3 [.int .i64 0] 26]
def trimL (s : ByteArray) : List Bs := (linesS (tx s).length (tx s)).map fun l => Lib.trimSuffix l [10]
structure RdJ (s : ByteArray) (k : Nat) (hg : Heap) (z : RdS) : Prop where
  rd : readL ((trimL s).take k) ([], []) = some (z.2.2.2.2.1, z.2.2.2.2.2.map Rul.er)
  rin : ∀ r ∈ z.2.2.2.2.2, r.In hg
  nm : ∀ x ∈ z.2.2.2.2.1, x.name.size ≤ 4096
  lp : z.2.2.2.2.1.length ≤ k
  lr : z.2.2.2.2.2.length ≤ k
def rdX (B : Base) (s : ByteArray) (b2 b3 D : Nat) : PX := fun ch W => ch = brk ∧ readOK s = none ∧ ∃ hg x y, Inv B hg [markSA D, box b2 [x, y] 25, box b3 [.int .i64 0] 26] W
theorem trim_get {s : ByteArray} {k : Nat} {x : ByteArray} (h : (linesB s)[k]? = some x) : (trimL s)[k]? = some (Lib.trimSuffix (tx x) [10]) ∧ x.size ≤ s.size ∧ k < s.size := by
  unfold linesB at h
  rw [List.getElem?_map] at h
  obtain ⟨y, hy, rfl⟩ := Option.map_eq_some_iff.1 h
  refine ⟨?_, ?_, ?_⟩
  · unfold trimL; rw [List.getElem?_map, hy]; rfl
  · have := linesS_each (List.mem_of_getElem? hy)
    rw [mk_size, ← tx_len s]; exact this
  · have h1 := (List.getElem?_eq_some_iff.1 hy).1
    have h2 := linesS_cnt (f := (tx s).length) (s := tx s)
    rw [← tx_len s]; omega
theorem readL_step {s : ByteArray} {k : Nat} {z : Bs} {q : St} (hz : (trimL s)[k]? = some z) (h : readL ((trimL s).take k) ([], []) = some q) : readL ((trimL s).take (k + 1)) ([], []) = lineR q z := by
  rw [List.take_add_one, hz, Option.toList_some, readL_app, h]
  simp only [readL]
  cases lineR q z <;> rfl
theorem readR_none {s : ByteArray} {k : Nat} (h : readL ((trimL s).take k) ([], []) = none) : readR (tx s) = none := by
  show readL (trimL s) ([], []) = none
  rw [← List.take_append_drop k (trimL s), readL_app, h]
set_option maxHeartbeats 4000000 in
theorem Read_ok (B : Base) (hB : B.ok) (V : Vars B.h) (s : ByteArray) : Fn Tryz.prog 8 [.string s] B (ReadPost s) := by
  show Calls _ _ ([.string s] : List Value).toArray B.w _
  refine Calls.ofF (args := [.string s]) Tryz.func8 rfl Tryz.ntmps8 (by kernel_rfl) (by simp) ?_
  intro e
  have I := Inv.start hB
  refine WPF.seq ?_
  refine WPF.region ?_
  refine Ops.go (O.alloc I Tryz.zeroValue25 rfl ?_)
  intro b2 w I
  refine Ops.go (O.alloc I Tryz.zeroValue26 rfl ?_)
  intro b3 w I
  refine Ops.nil ?_
  refine WPF.seq ?_
  refine WPF.seq ?_
  refine WPF.region ?_
  refine Ops.y (v := .string _) (Y.move rfl) ?_
  refine Ops.y (v := .int .i64 _) (Y.lenstr Tryz.underlying9 rfl) ?_
  refine Ops.y (v := .bool (decide _)) (Y.gti rfl rfl) ?_
  refine Ops.nil ?_
  refine WPF.cond_dec rfl (fun h9 => ?_) (fun h9 => ?_)
  · have hn : readOK s = none := by unfold readOK; rw [if_pos (by omega)]
    have hE : readE s = 2 := by unfold readE; rw [if_pos (by omega)]
    refine WPF.seq ?_
    refine WPF.region ?_
    refine Ops.y (v := .agg #[.slice _ _ _, .slice _ _ _]) (Y.build pl_25 Tryz.zeroValue25 rfl rfl) ?_
    refine Ops.go (O.store (v := .agg #[_, _]) I ty_25 1 rfl rfl rfl rfl rfl rfl (Nat.le_of_ble_eq_true rfl) rfl ?_)
    intro w I
    refine Ops.go (O.store (v := .int .i64 _) I ty_26 0 rfl rfl rfl rfl rfl rfl (Nat.le_of_ble_eq_true rfl) rfl ?_)
    intro w I
    refine Ops.nil ?_
    refine WPF.ret ?_
    repeat (first | refine thenD_ret ?_ | refine blockD_ret ?_)
    intro tmps he
    exact ⟨_, results_run (a := { tmps := tmps, defers := [] }) rfl (vs := [.agg #[.slice none 0 0, .slice none 0 0], .int .i64 2]) (by rw [he]; exact ⟨⟨_, _, _, _, _, rfl, ty_25, I.rdbox 1 rfl 0 2, rfl, rfl⟩, ⟨_, _, _, _, _, rfl, ty_26, I.rdbox 0 rfl 0 1, rfl, rfl⟩, trivial⟩), _, _, rfl, I.ext_of, post_nil hn (by rw [hE]; rfl)⟩
  have hs : s.size ≤ 4096 := by omega
  refine WPF.skip ?_
  refine WPF.seq ?_
  refine WPF.deferR (v := .func (.func 28) #[] #[.pointer (some ⟨b2, 0, none⟩), .pointer (some ⟨b3, 0, none⟩)]) (dd := dfrR b2 b3) (Y.mkfunc rfl rfl) (by simp [execOp, resolve, ev, upd, Deferred.ofValue, dfrR]) ?_
  refine WPF.seq ?_
  refine WPF.seq ?_
  refine WPF.region ?_
  refine Ops.y (v := .string _) (Y.move rfl) ?_
  refine Ops.go (O.callM I Tryz.call29 (Lines_ok _ I.base_ok s) rfl ?_)
  rintro _ h1 M1 w I gl1 ⟨bl, rfl, rfl⟩
  try simp only [List.cons_append, List.nil_append] at I
  refine Ops.nil ?_
  have I := (((((((I.nilSl 64 5).nilSl 53 3).front 3 rfl).front 4 rfl).front 3 rfl).front 3 rfl).front 4 rfl)
  refine WPF.block ?_
  have hpan : ∀ (e : Env) (D : Nat) (ch : List PanicEntry) (W : World), e 2 = .pointer (some ⟨b2, 0, none⟩) → e 3 = .pointer (some ⟨b3, 0, none⟩) → rdX B s b2 b3 D ch W → endF Tryz.prog Tryz.f8 (fun x w' => ∃ v h', x = .returned v ∧ Ext B w' h' ∧ ReadPost s v h') (.panic ch) e W [mark D, dfrR b2 b3] := by
    rintro e D ch W e2 e3 ⟨rfl, hn, hg, x, y, I⟩ tmps he
    have hE : readE s = 1 := by unfold readE; rw [if_neg (by omega), hn]; rfl
    refine end_pan I fun w' I => ?_
    exact ⟨_, results_run (a := { tmps := tmps, defers := [] }) rfl (vs := [.agg #[.slice none 0 0, .slice none 0 0], .int .i64 1]) (by rw [he]; exact ⟨⟨_, _, _, _, _, e2, ty_25, I.rdbox 0 rfl 0 2, rfl, rfl⟩, ⟨_, _, _, _, _, e3, ty_26, I.rdbox 1 rfl 0 1, rfl, rfl⟩, trivial⟩), _, _, rfl, I.ext_of, post_nil hn (by rw [hE]; rfl)⟩
  refine WPF.rangeFunc (σ := RdS) (own := box bl [.string s] 9) (encs := strC) (xs := linesB s) ⟨_, Tryz.func8⟩ (rdU b2 b3) (RdJ s) (rdX B s b2 b3) (none, 0, none, 0, [], []) I ⟨rfl, (fun _ h => by cases h), (fun _ h => by cases h), Nat.le_refl _, Nat.le_refl _⟩
    (fun k z hg hg' hl j => ⟨j.rd, fun r hr => (j.rin r hr).le hl, j.nm, j.lp, j.lr⟩) rfl Tryz.call67 (Lines1_it s hs bl) (fun _ => rfl) (by kernel_rfl) (by kernel_rfl) (by kernel_rfl) ?_ ?_ (fun D ch W hx => hpan _ D ch W rfl rfl hx)
  · rintro l D r hg k x ⟨q, c, q2, c2, ps, rs⟩ X W hx gl I ⟨hrd, hin, hnm, hlp, hlr⟩
    dsimp only at hrd hin hnm hlp hlr
    obtain ⟨hz, hxs, hks⟩ := trim_get hx
    have htl := Lib.trimSuffix_le (tx x) [10]
    rw [tx_len] at htl
    have hBh : B.h.le hg := gl1.trans gl
    have hstep := readL_step hz hrd
    refine WPI.region (by kernel_rfl) ?_
    refine Ops.y (v := .string _) (Y.assign rfl) ?_
    refine Ops.nil ?_
    refine ⟨hg, Heap.le.refl _, I, fun r' W2 I => ?_⟩
    have J : Inv B hg ((rdU b2 b3 (q, c, q2, c2, ps, rs) ++ [loopSA l r', markSA D]) ++ X) W2 := I.perm List.perm_append_comm
    have I : Inv B hg (linM b2 q ps.length c q2 rs.length c2 ps rs ([box b3 [.int .i64 0] 26, loopSA l r', markSA D] ++ X)) W2 := J
    refine WPI.block ?_
    refine WPI.regionP _ (fun _ _ _ h => h) ?_
    refine OpsP.y (v := .string _) (Y.move rfl) ?_
    refine OpsP.go (O.callv I Tryz.call31 (TrimSuf_ok _ I.base_ok x ⟨#[10]⟩ (by omega)) rfl ?_)
    intro w I
    refine OpsP.p (O.callsP Tryz.call30 (line_v (V.le hBh) I (by omega) (by omega) hin hnm hBh (mk (Lib.trimSuffix (tx x) [10])) (by rw [mk_size]; omega)) rfl ?_)
    rintro ed w hq
    rcases ed with v | ch | _
    · obtain ⟨rfl, h', q', c', q2', c2', ps', rs', gl', I, hl, hin', hnm', hlp', hlr'⟩ := hq
      refine .inl ⟨_, rfl, ?_⟩
      refine OpsP.nil ?_
      refine ⟨h', (q', c', q2', c2', ps', rs'), [], gl', ?_, ⟨hstep.trans hl, hin', hnm', by dsimp only; omega, by dsimp only; omega⟩⟩
      have J : Inv B h' ((rdU b2 b3 (q', c', q2', c2', ps', rs') ++ [loopSA l r', markSA D]) ++ X) w := I
      show Inv B h' (X ++ (rdU b2 b3 (q', c', q2', c2', ps', rs') ++ [loopSA l r', markSA D])) w
      exact J.perm List.perm_append_comm
    · obtain ⟨rfl, ⟨h', I⟩, hl⟩ := hq
      have J : Inv B h' [box b2 [.slice q ps.length c, .slice q2 rs.length c2] 25, box b3 [.int .i64 0] 26, markSA D] w := I.weak (List.Sublist.cons_cons _ (List.Sublist.cons_cons _ (List.Sublist.cons _ (List.Sublist.cons_cons _ (List.nil_sublist _)))))
      refine .inr ⟨_, rfl, rfl, ?_, h', _, _, J.front 2 rfl⟩
      unfold readOK
      rw [if_neg (by omega), readR_none (k := k + 1) (hstep.trans hl)]
    · exact hq.elim
  · rintro D h2 ⟨q, c, q2, c2, ps, rs⟩ W gl I ⟨hrd, hin, hnm, hlp, hlr⟩
    dsimp only at hrd hin hnm hlp hlr
    have hcnt : (linesB s).length ≤ 4096 := by
      unfold linesB; rw [List.length_map]
      have := linesS_cnt (f := (tx s).length) (s := tx s)
      rw [tx_len] at this ⊢; omega
    have hR : readR (tx s) = some (ps, rs.map Rul.er) := by
      rw [List.take_of_length_le (by unfold trimL linesB; simp)] at hrd
      exact hrd
    obtain ⟨h3, sp, le3, hvp, hxp, isp, I⟩ := I.settleSl (fun _ => rfl) rfl
    obtain ⟨h4, sr, le4, hvr, hxr, isr, I⟩ := I.settleSl (fun _ => rfl) rfl
    subst hxp
    subst hxr
    rw [← hvp, ← hvr] at I
    obtain ⟨p, hp⟩ : ∃ p : Prg, p = ⟨sp, sr⟩ := ⟨_, rfl⟩
    have hpin : p.In h4 := by
      subst hp
      exact ⟨⟨Sl.In.le isp le4, by show sp.xs.length ≤ _; omega⟩, ⟨isr, by show sr.xs.length ≤ _; omega⟩, fun y hy => (hin y hy).le (le3.trans le4)⟩
    have hpnm : p.Nm := fun y hy => by subst hp; have := hnm y hy; omega
    have hpe : p.er = prgOf (sp.xs, sr.xs.map Rul.er) := by subst hp; rfl
    have hR2 : readOK s = if checkProg p = 0 ∧ progL p = tx s then some (sp.xs, sr.xs.map Rul.er) else none := by
      unfold readOK
      rw [if_neg (by omega), hR]
      simp only
      rw [← hpe, checkProg_er, progL_er]
    have I : Inv B h4 [box b2 p.enc 25, box b3 [.int .i64 0] 26, markSA D] W := by subst hp; exact I
    have hE : ∀ {st : Option St}, readOK s = st → readE s = if st.isSome = true then 0 else 1 := fun h => by unfold readE; rw [if_neg (by omega), h]
    by_cases hc : checkProg p = 0 ∧ progL p = tx s
    · rw [if_pos hc] at hR2
      have hS : Fn Tryz.prog 7 [p.val] ⟨W, h4⟩ (fun v _ => v = .tuple #[.string s, .int .i64 0]) := (Show_ok ⟨W, h4⟩ I.base_ok p hpin hpnm).mono fun v h' _ hv => by
        rw [hv]; unfold showOf; rw [if_pos hc.1, hc.2, show mk (tx s) = s from mk_tx s]
      refine WPF.seq ?_
      refine WPF.region ?_
      refine Ops.y (v := .agg #[_, _]) (Y.loadv ty_25 rfl (I.rdbox 0 rfl 0 2) rfl rfl) ?_
      refine Ops.go (O.callv I Tryz.call7 (hS) rfl ?_)
      intro w I
      refine Ops.y (v := .tuple #[_, _]) (Y.move rfl) ?_
      refine Ops.y (v := .string _) (Y.extract rfl rfl) ?_
      refine Ops.y (v := .int .i64 _) (Y.extract rfl rfl) ?_
      refine Ops.y (v := .string _) (Y.assign rfl) ?_
      refine Ops.y (v := .int .i64 _) (Y.assign rfl) ?_
      refine Ops.nil ?_
      refine WPF.seq ?_
      refine WPF.regionE _ (fun _ _ _ h => h) ?_
      refine OpsE.y (v := .int .i64 _) (Y.move rfl) ?_
      refine OpsE.y (v := .bool true) (Y.dec_t (Y.eqi rfl rfl) (rfl)) ?_
      refine OpsE.y (v := .bool _) (Y.move rfl) ?_
      refine OpsE.ygt rfl (v := .string _) (Y.move rfl) ?_
      refine OpsE.ygt rfl (v := .string _) (Y.move rfl) ?_
      refine OpsE.ygt rfl (v := .bool true) (Y.is (Y.eqs rfl rfl) ((by rw [beq_tx]; simp))) ?_
      refine OpsE.y (v := .bool _) (Y.pick_t rfl rfl) ?_
      refine OpsE.p (O.callpX I Tryz.call32 (must_ok _ I.base_ok true) rfl (fun w' g p => by cases p) ?_)
      rintro _ h5 w I hle ⟨_, rfl⟩
      refine OpsE.nil ?_
      refine WPF.seq ?_
      refine WPF.region ?_
      refine Ops.y (v := .agg #[_, _]) (Y.loadv ty_25 rfl (I.rdbox 0 rfl 0 2) rfl rfl) ?_
      refine Ops.go (O.store (v := .agg #[_, _]) I ty_25 0 rfl rfl rfl rfl rfl rfl (Nat.le_of_ble_eq_true rfl) rfl ?_)
      intro w I
      refine Ops.go (O.store (v := .int .i64 _) I ty_26 1 rfl rfl rfl rfl rfl rfl (Nat.le_of_ble_eq_true rfl) rfl ?_)
      intro w I
      refine Ops.nil ?_
      refine WPF.ret ?_
      repeat (first | refine thenD_ret ?_ | refine blockD_ret ?_)
      intro tmps he
      refine end_ret (I.front 2 rfl) (fun w' I => ⟨_, results_run (a := { tmps := tmps, defers := [] }) rfl (vs := [p.val, .int .i64 0]) (by rw [he]; exact ⟨⟨_, _, _, _, _, rfl, ty_25, I.rdbox 0 rfl 0 2, rfl, rfl⟩, ⟨_, _, _, _, _, rfl, ty_26, I.rdbox 1 rfl 0 1, rfl, rfl⟩, trivial⟩), _, _, rfl, I.ext_of, p, by rw [hE hR2]; rfl, hpin.le hle, hpnm, ?_⟩)
      rw [hpe]; unfold readP; rw [hR2]; rfl
    · rw [if_neg hc] at hR2
      by_cases hc0 : checkProg p = 0
      · have hne : mk (progL p) ≠ s := fun e => hc ⟨hc0, by rw [← e]⟩
        have hS : Fn Tryz.prog 7 [p.val] ⟨W, h4⟩ (fun v _ => v = .tuple #[.string (mk (progL p)), .int .i64 0]) := (Show_ok ⟨W, h4⟩ I.base_ok p hpin hpnm).mono fun v h' _ hv => by
          rw [hv]; unfold showOf; rw [if_pos hc0]
        refine WPF.seq ?_
        refine WPF.region ?_
        refine Ops.y (v := .agg #[_, _]) (Y.loadv ty_25 rfl (I.rdbox 0 rfl 0 2) rfl rfl) ?_
        refine Ops.go (O.callv I Tryz.call7 (hS) rfl ?_)
        intro w I
        refine Ops.y (v := .tuple #[_, _]) (Y.move rfl) ?_
        refine Ops.y (v := .string _) (Y.extract rfl rfl) ?_
        refine Ops.y (v := .int .i64 _) (Y.extract rfl rfl) ?_
        refine Ops.y (v := .string _) (Y.assign rfl) ?_
        refine Ops.y (v := .int .i64 _) (Y.assign rfl) ?_
        refine Ops.nil ?_
        refine WPF.seq ?_
        refine WPF.regionE _ (fun _ _ _ h => h) ?_
        refine OpsE.y (v := .int .i64 _) (Y.move rfl) ?_
        refine OpsE.y (v := .bool true) (Y.dec_t (Y.eqi rfl rfl) (rfl)) ?_
        refine OpsE.y (v := .bool _) (Y.move rfl) ?_
        refine OpsE.ygt rfl (v := .string _) (Y.move rfl) ?_
        refine OpsE.ygt rfl (v := .string _) (Y.move rfl) ?_
        refine OpsE.ygt rfl (v := .bool false) (Y.is (Y.eqs rfl rfl) ((by rw [beq_tx, decide_eq_false (fun e => hne (tx_inj.1 e))]))) ?_
        refine OpsE.y (v := .bool _) (Y.pick_t rfl rfl) ?_
        refine OpsE.p (O.callpX I Tryz.call32 (must_ok _ I.base_ok false) rfl (fun w' g p => hpan _ D _ _ rfl rfl ⟨rfl, hR2, _, _, _, (I.grow g).front 2 rfl⟩) ?_)
        rintro _ h5 w I hle ⟨h, _⟩
        refine OpsE.nil ?_
        cases h
      · have hS : Fn Tryz.prog 7 [p.val] ⟨W, h4⟩ (fun v _ => v = .tuple #[.string ⟨#[]⟩, .int .i64 (checkProg p)]) := (Show_ok ⟨W, h4⟩ I.base_ok p hpin hpnm).mono fun v h' _ hv => by
          rw [hv]; unfold showOf; rw [if_neg hc0]
        refine WPF.seq ?_
        refine WPF.region ?_
        refine Ops.y (v := .agg #[_, _]) (Y.loadv ty_25 rfl (I.rdbox 0 rfl 0 2) rfl rfl) ?_
        refine Ops.go (O.callv I Tryz.call7 (hS) rfl ?_)
        intro w I
        refine Ops.y (v := .tuple #[_, _]) (Y.move rfl) ?_
        refine Ops.y (v := .string _) (Y.extract rfl rfl) ?_
        refine Ops.y (v := .int .i64 _) (Y.extract rfl rfl) ?_
        refine Ops.y (v := .string _) (Y.assign rfl) ?_
        refine Ops.y (v := .int .i64 _) (Y.assign rfl) ?_
        refine Ops.nil ?_
        refine WPF.seq ?_
        refine WPF.regionE _ (fun _ _ _ h => h) ?_
        refine OpsE.y (v := .int .i64 _) (Y.move rfl) ?_
        refine OpsE.y (v := .bool false) (Y.dec_f (Y.eqi rfl rfl) (hc0)) ?_
        refine OpsE.y (v := .bool _) (Y.move rfl) ?_
        refine OpsE.gf rfl ?_
        refine OpsE.gf rfl ?_
        refine OpsE.gf rfl ?_
        refine OpsE.y (v := .bool _) (Y.pick_f rfl rfl) ?_
        refine OpsE.p (O.callpX I Tryz.call32 (must_ok _ I.base_ok false) rfl (fun w' g p => hpan _ D _ _ rfl rfl ⟨rfl, hR2, _, _, _, (I.grow g).front 2 rfl⟩) ?_)
        rintro _ h5 w I hle ⟨h, _⟩
        refine OpsE.nil ?_
        cases h
end Go.TF
end
section
/- Terms, predicates: are they the same? -/
namespace Go.TF
open Go
instance : DecidableEq Trm := fun a b => decidable_of_iff (a.var = b.var ∧ a.n = b.n) (by cases a; cases b; simp)
instance : DecidableEq Prd := fun a b => decidable_of_iff (a.name = b.name ∧ a.arity = b.arity ∧ a.kind = b.kind) (by cases a; cases b; simp)
end Go.TF
end
section
/- Sameness of predicates, atoms, programs. -/
namespace Go.TF
open Go Go.RowKit Go.Proofs
set_option maxRecDepth 20000

theorem toList_eq {a b : ByteArray} : (a.toList == b.toList) = decide (a = b) := by rw [← beq_bytes, beq_toListBytes]
theorem prd_eq {a b : Prd} : (a.name.toList == b.name.toList && (a.arity == b.arity && (a.kind == b.kind && true))) = decide (a = b) := by
  rw [toList_eq, Bool.eq_iff_iff]
  simp only [Bool.and_eq_true, decide_eq_true_eq, beq_iff_eq]
  cases a; cases b; simp
theorem Atm.er_iff {a b : Atm} : a.er = b.er ↔ a.pred = b.pred ∧ a.args.xs = b.args.xs := by
  obtain ⟨p, ⟨x, y, z⟩⟩ := a; obtain ⟨p', ⟨x', y', z'⟩⟩ := b
  simp [Atm.er, Sl.er]
theorem trm_eq {a b : Trm} : ((a.var == b.var) && ((a.n == b.n) && true)) = decide (a = b) := by
  rw [Bool.eq_iff_iff]
  simp only [Bool.and_eq_true, decide_eq_true_eq, beq_iff_eq]
  cases a; cases b; simp
theorem sameAtoms_ok (B : Base) (hB : B.ok) (a b : Atm) (ha : a.In B.h) (hb : b.In B.h) (he : a.er = b.er) : Fn Tryz.prog 34 [a.val, b.val] B (fun v _ => v = .bool true) := by
  have hsa : a.args.xs.length ≤ 140737488355328 := Sl.Is.small ha
  have hsb : b.args.xs.length ≤ 140737488355328 := Sl.Is.small hb
  obtain ⟨e1, e2⟩ := Atm.er_iff.1 he
  have e3 : a.args.xs.length = b.args.xs.length := by rw [e2]
  refine Fn.of Tryz.func34 rfl Tryz.ntmps34 (by kernel_rfl) (by simp) ?_
  intro e
  have I := Inv.start hB
  refine WP.seq ?_
  refine WP.region ?_
  refine Ops.go (O.box (v := .agg #[_, _]) I rfl rfl ?_)
  intro b2 w I
  refine Ops.go (O.box (v := .agg #[_, _]) I rfl rfl ?_)
  intro b3 w I
  refine Ops.y (v := .bool _) (Y.assign rfl) ?_
  refine Ops.nil ?_
  refine WP.seq ?_
  refine WP.seq ?_
  refine WP.region ?_
  refine Ops.y (v := .pointer (some ⟨_, _, none⟩)) (Y.fa0 fa_61_0 rfl) ?_
  refine Ops.y (v := .int .i64 _) (Y.loadv ty_3 rfl (I.rdbox 1 rfl 0 1) rfl rfl) ?_
  refine Ops.y (v := .pointer (some ⟨_, _, none⟩)) (Y.fa0 fa_61_0 rfl) ?_
  refine Ops.y (v := .int .i64 _) (Y.loadv ty_3 rfl (I.rdbox 0 rfl 0 1) rfl rfl) ?_
  refine Ops.y (v := .bool false) (Y.dec_f (Y.nei rfl rfl) ((fun h => h e1))) ?_
  refine Ops.y (v := .bool _) (Y.move rfl) ?_
  refine Ops.ygt rfl (v := .pointer (some ⟨_, _, none⟩)) (Y.fa fa_61_1 rfl) ?_
  refine Ops.ygt rfl (v := .slice _ _ _) (Y.loadv ty_59 rfl (I.rdbox 1 rfl 1 1) rfl rfl) ?_
  refine Ops.ygt rfl (v := .int .i64 _) (Y.lens Tryz.underlying59 rfl) ?_
  refine Ops.ygt rfl (v := .pointer (some ⟨_, _, none⟩)) (Y.fa fa_61_1 rfl) ?_
  refine Ops.ygt rfl (v := .slice _ _ _) (Y.loadv ty_59 rfl (I.rdbox 0 rfl 1 1) rfl rfl) ?_
  refine Ops.ygt rfl (v := .int .i64 _) (Y.lens Tryz.underlying59 rfl) ?_
  refine Ops.ygt rfl (v := .bool false) (Y.dec_f (Y.nei rfl rfl) ((fun h => h (by rw [e3])))) ?_
  refine Ops.y (v := .bool _) (Y.pick_f rfl rfl) ?_
  refine Ops.nil ?_
  refine WP.cond_f rfl ?_
  refine WP.skip ?_
  refine WP.seq ?_
  refine WP.seq ?_
  refine WP.region ?_
  refine Ops.y (v := .int .i64 _) (Y.assign rfl) ?_
  refine Ops.nil ?_
  refine WP.block ?_
  refine WP.loopE (σ := Nat) (fun k => [(2, .pointer (some ⟨b2, 0, none⟩)), (3, .pointer (some ⟨b3, 0, none⟩)), (5, .int .i64 k)]) (fun k w => Inv B B.h [box b3 b.enc 61, box b2 a.enc 61] w ∧ k ≤ a.args.xs.length) (fun k => a.args.xs.length - k)
    ⟨0, ⟨rfl, rfl, rfl, trivial⟩, I, Nat.zero_le _⟩ ?_
  rintro k e w ⟨I, hk⟩
  refine WP.seq ?_
  refine WP.seq ?_
  refine WP.region ?_
  refine Ops.y (v := .int .i64 _) (Y.move rfl) ?_
  refine Ops.y (v := .pointer (some ⟨_, _, none⟩)) (Y.fa fa_61_1 rfl) ?_
  refine Ops.y (v := .slice _ _ _) (Y.loadv ty_59 rfl (I.rdbox 1 rfl 1 1) rfl rfl) ?_
  refine Ops.y (v := .int .i64 _) (Y.lens Tryz.underlying59 rfl) ?_
  refine Ops.y (v := .bool (decide _)) (Y.lti rfl rfl) ?_
  refine Ops.nil ?_
  refine WP.cond_dec rfl (fun h4 => ?_) (fun h4 => ?_)
  · have hk' : k < a.args.xs.length := by omega
    have hkb : k < b.args.xs.length := by omega
    have E1 := Sl.Is.at ha hk'
    have E2 := Sl.Is.at hb hkb
    have he : a.args.xs[k] = b.args.xs[k] := by simp only [e2]
    refine WP.skip ?_
    refine WP.seq ?_
    refine WP.block ?_
    refine WP.seq ?_
    refine WP.regionQ mixed I (by kernel_rfl) ?_
    refine OpsQ.y (v := .pointer (some ⟨_, _, none⟩)) (fun w I => Y.fa fa_61_1 rfl) ?_
    refine OpsQ.y (v := .slice _ _ _) (fun w I => Y.loadv ty_59 rfl (I.rdbox 1 rfl 1 1) rfl rfl) ?_
    refine OpsQ.y (v := .int .i64 _) (fun w I => Y.move rfl) ?_
    refine OpsQ.y (v := .pointer (some ⟨_, _, none⟩)) (fun w I => Y.idxEl E1 Tryz.underlying59 Tryz.sizeOf109 rfl rfl (Int.natCast_nonneg _) rfl) ?_
    refine OpsQ.y (v := .agg #[_, _]) (fun w I => Y.loadv ty_109 rfl (I.rd (E1.rd.part 0 2)) rfl rfl) ?_
    refine OpsQ.y (v := .pointer (some ⟨_, _, none⟩)) (fun w I => Y.fa fa_61_1 rfl) ?_
    refine OpsQ.y (v := .slice _ _ _) (fun w I => Y.loadv ty_59 rfl (I.rdbox 0 rfl 1 1) rfl rfl) ?_
    refine OpsQ.y (v := .int .i64 _) (fun w I => Y.move rfl) ?_
    refine OpsQ.y (v := .pointer (some ⟨_, _, none⟩)) (fun w I => Y.idxEl E2 Tryz.underlying59 Tryz.sizeOf109 rfl rfl (Int.natCast_nonneg _) rfl) ?_
    refine OpsQ.y (v := .agg #[_, _]) (fun w I => Y.loadv ty_109 rfl (I.rd (E2.rd.part 0 2)) rfl rfl) ?_
    refine OpsQ.y (v := .bool _) (fun w I => Y.nest Tryz.eqGuardType109 (eq_109 _ _ _ _) rfl rfl) ?_
    refine OpsQ.nil ?_
    intro w I
    refine WP.cond rfl (fun h6 => ?_) (fun h6 => ?_)
    · exfalso
      rw [trm_eq, he] at h6; simp at h6
    refine WP.skip ?_
    refine WP.region ?_
    refine Ops.y (v := .int .i64 _) (Y.move rfl) ?_
    refine Ops.y (v := .int .i64 _) (Y.addi rfl rfl ⟨by omega, by omega⟩) ?_
    refine Ops.y (v := .int .i64 _) (Y.assign rfl) ?_
    refine Ops.nil ?_
    exact ⟨k + 1, ⟨⟨rfl, rfl, rfl, trivial⟩, I, hk'⟩, by omega⟩
  refine WP.exit ?_
  refine WP.seq ?_
  refine WP.region ?_
  refine Ops.y (v := .bool _) (Y.assign rfl) ?_
  refine Ops.nil ?_
  refine WP.ret ?_
  repeat (first | refine thenE_ret ?_ | refine blockE_ret ?_)
  exact retQ.mk (vs := [.bool _]) rfl ⟨rfl, trivial⟩ I.ext_of (rfl)
theorem Rul.er_iff {a b : Rul} (h : a.er = b.er) : a.head.er = b.head.er ∧ a.src = b.src ∧ a.n = b.n ∧ a.body.xs.map Ltl.er = b.body.xs.map Ltl.er := by
  have h1 := congrArg Rul.head h; have h2 := congrArg Rul.src h; have h3 := congrArg Rul.n h; have h4 := congrArg (fun r : Rul => r.body.xs) h
  exact ⟨h1, h2, h3, h4⟩
theorem Prg.er_iff {p q : Prg} (h : p.er = q.er) : p.preds.xs = q.preds.xs ∧ p.rules.xs.map Rul.er = q.rules.xs.map Rul.er := by
  have h1 := congrArg (fun p : Prg => p.preds.xs) h; have h2 := congrArg (fun p : Prg => p.rules.xs) h
  exact ⟨h1, h2⟩
theorem map_at {α β : Type} {f : α → β} {l m : List α} (h : l.map f = m.map f) {k : Nat} (h1 : k < l.length) (h2 : k < m.length) : f l[k] = f m[k] := by
  have := congrArg (fun x => x[k]?) h
  simpa [h1, h2] using this
set_option maxHeartbeats 4000000 in
theorem SameProgs_ok (B : Base) (hB : B.ok) (p q : Prg) (hp : p.In B.h) (hq : q.In B.h) (he : p.preds.xs = q.preds.xs → p.er = q.er) : Fn Tryz.prog 10 [p.val, q.val] B (fun v _ => v = .bool (decide (p.preds.xs = q.preds.xs))) := by
  have hs1 := hp.preds.small
  have hs2 := hq.preds.small
  have hs3 := hp.rules.is.small
  have hs4 := hq.rules.is.small
  refine Fn.of Tryz.func10 rfl Tryz.ntmps10 (by kernel_rfl) (by simp) ?_
  intro e
  have I := Inv.start hB
  refine WP.seq ?_
  refine WP.region ?_
  refine Ops.go (O.box (v := .agg #[_, _]) I rfl rfl ?_)
  intro b2 w I
  refine Ops.go (O.box (v := .agg #[_, _]) I rfl rfl ?_)
  intro b3 w I
  refine Ops.y (v := .bool _) (Y.assign rfl) ?_
  refine Ops.nil ?_
  by_cases hpq : p.preds.xs = q.preds.xs
  case neg =>
    by_cases hl : (p.preds.xs.length : Int) ≠ q.preds.xs.length
    · refine WP.seq ?_
      refine WP.seq ?_
      refine WP.region ?_
      refine Ops.y (v := .pointer (some ⟨_, _, none⟩)) (Y.fa0 fa_25_0 rfl) ?_
      refine Ops.y (v := .slice _ _ _) (Y.loadv ty_22 rfl (I.rdbox 1 rfl 0 1) rfl rfl) ?_
      refine Ops.y (v := .int .i64 _) (Y.lens Tryz.underlying22 rfl) ?_
      refine Ops.y (v := .pointer (some ⟨_, _, none⟩)) (Y.fa0 fa_25_0 rfl) ?_
      refine Ops.y (v := .slice _ _ _) (Y.loadv ty_22 rfl (I.rdbox 0 rfl 0 1) rfl rfl) ?_
      refine Ops.y (v := .int .i64 _) (Y.lens Tryz.underlying22 rfl) ?_
      refine Ops.y (v := .bool true) (Y.dec_t (Y.nei rfl rfl) (hl)) ?_
      refine Ops.y (v := .bool _) (Y.move rfl) ?_
      refine Ops.gf rfl ?_
      refine Ops.gf rfl ?_
      refine Ops.gf rfl ?_
      refine Ops.gf rfl ?_
      refine Ops.gf rfl ?_
      refine Ops.gf rfl ?_
      refine Ops.gf rfl ?_
      refine Ops.y (v := .bool _) (Y.pick_t rfl rfl) ?_
      refine Ops.nil ?_
      refine WP.cond_t rfl ?_
      refine WP.seq ?_
      refine WP.region ?_
      refine Ops.y (v := .bool _) (Y.assign rfl) ?_
      refine Ops.nil ?_
      refine WP.ret ?_
      repeat (first | refine thenE_ret ?_ | refine blockE_ret ?_)
      exact retQ.mk (vs := [.bool _]) rfl ⟨rfl, trivial⟩ I.ext_of (by simp only [tup]; rw [decide_eq_false hpq])
    by_cases hl2 : (p.rules.xs.length : Int) ≠ q.rules.xs.length
    · refine WP.seq ?_
      refine WP.seq ?_
      refine WP.region ?_
      refine Ops.y (v := .pointer (some ⟨_, _, none⟩)) (Y.fa0 fa_25_0 rfl) ?_
      refine Ops.y (v := .slice _ _ _) (Y.loadv ty_22 rfl (I.rdbox 1 rfl 0 1) rfl rfl) ?_
      refine Ops.y (v := .int .i64 _) (Y.lens Tryz.underlying22 rfl) ?_
      refine Ops.y (v := .pointer (some ⟨_, _, none⟩)) (Y.fa0 fa_25_0 rfl) ?_
      refine Ops.y (v := .slice _ _ _) (Y.loadv ty_22 rfl (I.rdbox 0 rfl 0 1) rfl rfl) ?_
      refine Ops.y (v := .int .i64 _) (Y.lens Tryz.underlying22 rfl) ?_
      refine Ops.y (v := .bool false) (Y.dec_f (Y.nei rfl rfl) (hl)) ?_
      refine Ops.y (v := .bool _) (Y.move rfl) ?_
      refine Ops.ygt rfl (v := .pointer (some ⟨_, _, none⟩)) (Y.fa fa_25_1 rfl) ?_
      refine Ops.ygt rfl (v := .slice _ _ _) (Y.loadv ty_23 rfl (I.rdbox 1 rfl 1 1) rfl rfl) ?_
      refine Ops.ygt rfl (v := .int .i64 _) (Y.lens Tryz.underlying23 rfl) ?_
      refine Ops.ygt rfl (v := .pointer (some ⟨_, _, none⟩)) (Y.fa fa_25_1 rfl) ?_
      refine Ops.ygt rfl (v := .slice _ _ _) (Y.loadv ty_23 rfl (I.rdbox 0 rfl 1 1) rfl rfl) ?_
      refine Ops.ygt rfl (v := .int .i64 _) (Y.lens Tryz.underlying23 rfl) ?_
      refine Ops.ygt rfl (v := .bool true) (Y.dec_t (Y.nei rfl rfl) (hl2)) ?_
      refine Ops.y (v := .bool _) (Y.pick_f rfl rfl) ?_
      refine Ops.nil ?_
      refine WP.cond_t rfl ?_
      refine WP.seq ?_
      refine WP.region ?_
      refine Ops.y (v := .bool _) (Y.assign rfl) ?_
      refine Ops.nil ?_
      refine WP.ret ?_
      repeat (first | refine thenE_ret ?_ | refine blockE_ret ?_)
      exact retQ.mk (vs := [.bool _]) rfl ⟨rfl, trivial⟩ I.ext_of (by simp only [tup]; rw [decide_eq_false hpq])
    refine WP.seq ?_
    refine WP.seq ?_
    refine WP.region ?_
    refine Ops.y (v := .pointer (some ⟨_, _, none⟩)) (Y.fa0 fa_25_0 rfl) ?_
    refine Ops.y (v := .slice _ _ _) (Y.loadv ty_22 rfl (I.rdbox 1 rfl 0 1) rfl rfl) ?_
    refine Ops.y (v := .int .i64 _) (Y.lens Tryz.underlying22 rfl) ?_
    refine Ops.y (v := .pointer (some ⟨_, _, none⟩)) (Y.fa0 fa_25_0 rfl) ?_
    refine Ops.y (v := .slice _ _ _) (Y.loadv ty_22 rfl (I.rdbox 0 rfl 0 1) rfl rfl) ?_
    refine Ops.y (v := .int .i64 _) (Y.lens Tryz.underlying22 rfl) ?_
    refine Ops.y (v := .bool false) (Y.dec_f (Y.nei rfl rfl) (hl)) ?_
    refine Ops.y (v := .bool _) (Y.move rfl) ?_
    refine Ops.ygt rfl (v := .pointer (some ⟨_, _, none⟩)) (Y.fa fa_25_1 rfl) ?_
    refine Ops.ygt rfl (v := .slice _ _ _) (Y.loadv ty_23 rfl (I.rdbox 1 rfl 1 1) rfl rfl) ?_
    refine Ops.ygt rfl (v := .int .i64 _) (Y.lens Tryz.underlying23 rfl) ?_
    refine Ops.ygt rfl (v := .pointer (some ⟨_, _, none⟩)) (Y.fa fa_25_1 rfl) ?_
    refine Ops.ygt rfl (v := .slice _ _ _) (Y.loadv ty_23 rfl (I.rdbox 0 rfl 1 1) rfl rfl) ?_
    refine Ops.ygt rfl (v := .int .i64 _) (Y.lens Tryz.underlying23 rfl) ?_
    refine Ops.ygt rfl (v := .bool false) (Y.dec_f (Y.nei rfl rfl) (hl2)) ?_
    refine Ops.y (v := .bool _) (Y.pick_f rfl rfl) ?_
    refine Ops.nil ?_
    refine WP.cond_f rfl ?_
    refine WP.skip ?_
    refine WP.seq ?_
    refine WP.seq ?_
    refine WP.region ?_
    refine Ops.y (v := .int .i64 _) (Y.assign rfl) ?_
    refine Ops.nil ?_
    refine WP.block ?_
    refine WP.loopE (σ := Nat) (fun k => [(2, .pointer (some ⟨b2, 0, none⟩)), (3, .pointer (some ⟨b3, 0, none⟩)), (5, .int .i64 k)]) (fun k w => Inv B B.h [box b3 q.enc 25, box b2 p.enc 25] w ∧ k ≤ p.preds.xs.length ∧ ∀ j, j < k → p.preds.xs[j]? = q.preds.xs[j]?) (fun k => p.preds.xs.length - k)
      ⟨0, ⟨rfl, rfl, rfl, trivial⟩, I, Nat.zero_le _, fun j hj => by omega⟩ ?_
    rintro k e w ⟨I, hk, hn⟩
    refine WP.seq ?_
    refine WP.seq ?_
    refine WP.region ?_
    refine Ops.y (v := .int .i64 _) (Y.move rfl) ?_
    refine Ops.y (v := .pointer (some ⟨_, _, none⟩)) (Y.fa0 fa_25_0 rfl) ?_
    refine Ops.y (v := .slice _ _ _) (Y.loadv ty_22 rfl (I.rdbox 1 rfl 0 1) rfl rfl) ?_
    refine Ops.y (v := .int .i64 _) (Y.lens Tryz.underlying22 rfl) ?_
    refine Ops.y (v := .bool (decide _)) (Y.lti rfl rfl) ?_
    refine Ops.nil ?_
    refine WP.cond_dec rfl (fun h4 => ?_) (fun h4 => ?_)
    · have hk' : k < p.preds.xs.length := by omega
      have hkb : k < q.preds.xs.length := by omega
      have E1 := hp.preds.at hk'
      have E2 := hq.preds.at hkb
      refine WP.skip ?_
      refine WP.seq ?_
      refine WP.block ?_
      refine WP.seq ?_
      refine WP.regionQ mixed I (by kernel_rfl) ?_
      refine OpsQ.y (v := .pointer (some ⟨_, _, none⟩)) (fun w I => Y.fa0 fa_25_0 rfl) ?_
      refine OpsQ.y (v := .slice _ _ _) (fun w I => Y.loadv ty_22 rfl (I.rdbox 1 rfl 0 1) rfl rfl) ?_
      refine OpsQ.y (v := .int .i64 _) (fun w I => Y.move rfl) ?_
      refine OpsQ.y (v := .pointer (some ⟨_, _, none⟩)) (fun w I => Y.idxEl E1 Tryz.underlying22 Tryz.sizeOf53 rfl rfl (Int.natCast_nonneg _) rfl) ?_
      refine OpsQ.y (v := .agg #[_, _, _]) (fun w I => Y.loadv ty_53 rfl (I.rd (E1.rd.part 0 3)) rfl rfl) ?_
      refine OpsQ.y (v := .pointer (some ⟨_, _, none⟩)) (fun w I => Y.fa0 fa_25_0 rfl) ?_
      refine OpsQ.y (v := .slice _ _ _) (fun w I => Y.loadv ty_22 rfl (I.rdbox 0 rfl 0 1) rfl rfl) ?_
      refine OpsQ.y (v := .int .i64 _) (fun w I => Y.move rfl) ?_
      refine OpsQ.y (v := .pointer (some ⟨_, _, none⟩)) (fun w I => Y.idxEl E2 Tryz.underlying22 Tryz.sizeOf53 rfl rfl (Int.natCast_nonneg _) rfl) ?_
      refine OpsQ.y (v := .agg #[_, _, _]) (fun w I => Y.loadv ty_53 rfl (I.rd (E2.rd.part 0 3)) rfl rfl) ?_
      refine OpsQ.y (v := .bool _) (fun w I => Y.nest Tryz.eqGuardType53 (eq_53 _ _ _ _ _ _) rfl rfl) ?_
      refine OpsQ.nil ?_
      intro w I
      refine WP.cond rfl (fun h6 => ?_) (fun h6 => ?_)
      · refine WP.seq ?_
        refine WP.region ?_
        refine Ops.y (v := .bool _) (Y.assign rfl) ?_
        refine Ops.nil ?_
        refine WP.ret ?_
        repeat (first | refine thenE_ret ?_ | refine blockE_ret ?_)
        exact retQ.mk (vs := [.bool _]) rfl ⟨rfl, trivial⟩ I.ext_of (by simp only [tup]; rw [decide_eq_false hpq])
      refine WP.skip ?_
      refine WP.region ?_
      refine Ops.y (v := .int .i64 _) (Y.move rfl) ?_
      refine Ops.y (v := .int .i64 _) (Y.addi rfl rfl ⟨by omega, by omega⟩) ?_
      refine Ops.y (v := .int .i64 _) (Y.assign rfl) ?_
      refine Ops.nil ?_
      exact ⟨k + 1, ⟨⟨rfl, rfl, rfl, trivial⟩, I, hk', fun j hj => by
        rcases Nat.lt_succ_iff_lt_or_eq.1 hj with h' | rfl
        · exact hn j h'
        · rw [List.getElem?_eq_getElem hk', List.getElem?_eq_getElem hkb]
          rw [prd_eq] at h6
          congr 1
          simpa using h6⟩, by omega⟩
    exact absurd (List.ext_getElem? fun j => by
      rcases Nat.lt_or_ge j k with h' | h'
      · exact hn j h'
      · rw [List.getElem?_eq_none (by omega), List.getElem?_eq_none (by omega)]) hpq
  obtain ⟨_, hr⟩ := Prg.er_iff (he hpq)
  have hlr : p.rules.xs.length = q.rules.xs.length := by have := congrArg List.length hr; simpa using this
  refine WP.seq ?_
  refine WP.seq ?_
  refine WP.region ?_
  refine Ops.y (v := .pointer (some ⟨_, _, none⟩)) (Y.fa0 fa_25_0 rfl) ?_
  refine Ops.y (v := .slice _ _ _) (Y.loadv ty_22 rfl (I.rdbox 1 rfl 0 1) rfl rfl) ?_
  refine Ops.y (v := .int .i64 _) (Y.lens Tryz.underlying22 rfl) ?_
  refine Ops.y (v := .pointer (some ⟨_, _, none⟩)) (Y.fa0 fa_25_0 rfl) ?_
  refine Ops.y (v := .slice _ _ _) (Y.loadv ty_22 rfl (I.rdbox 0 rfl 0 1) rfl rfl) ?_
  refine Ops.y (v := .int .i64 _) (Y.lens Tryz.underlying22 rfl) ?_
  refine Ops.y (v := .bool false) (Y.dec_f (Y.nei rfl rfl) ((fun h => h (by rw [hpq])))) ?_
  refine Ops.y (v := .bool _) (Y.move rfl) ?_
  refine Ops.ygt rfl (v := .pointer (some ⟨_, _, none⟩)) (Y.fa fa_25_1 rfl) ?_
  refine Ops.ygt rfl (v := .slice _ _ _) (Y.loadv ty_23 rfl (I.rdbox 1 rfl 1 1) rfl rfl) ?_
  refine Ops.ygt rfl (v := .int .i64 _) (Y.lens Tryz.underlying23 rfl) ?_
  refine Ops.ygt rfl (v := .pointer (some ⟨_, _, none⟩)) (Y.fa fa_25_1 rfl) ?_
  refine Ops.ygt rfl (v := .slice _ _ _) (Y.loadv ty_23 rfl (I.rdbox 0 rfl 1 1) rfl rfl) ?_
  refine Ops.ygt rfl (v := .int .i64 _) (Y.lens Tryz.underlying23 rfl) ?_
  refine Ops.ygt rfl (v := .bool false) (Y.dec_f (Y.nei rfl rfl) ((fun h => h (by rw [hlr])))) ?_
  refine Ops.y (v := .bool _) (Y.pick_f rfl rfl) ?_
  refine Ops.nil ?_
  refine WP.cond_f rfl ?_
  refine WP.skip ?_
  refine WP.seq ?_
  refine WP.seq ?_
  refine WP.region ?_
  refine Ops.y (v := .int .i64 _) (Y.assign rfl) ?_
  refine Ops.nil ?_
  refine WP.cutK (σ := Unit) (fun _ => [(2, .pointer (some ⟨b2, 0, none⟩)), (3, .pointer (some ⟨b3, 0, none⟩))]) (fun _ w => Inv B B.h [box b3 q.enc 25, box b2 p.enc 25] w) ?_ ?_
  · refine WP.block ?_
    refine WP.loopE (σ := Nat) (fun k => [(2, .pointer (some ⟨b2, 0, none⟩)), (3, .pointer (some ⟨b3, 0, none⟩)), (5, .int .i64 k)]) (fun k w => Inv B B.h [box b3 q.enc 25, box b2 p.enc 25] w ∧ k ≤ p.preds.xs.length) (fun k => p.preds.xs.length - k)
      ⟨0, ⟨rfl, rfl, rfl, trivial⟩, I, Nat.zero_le _⟩ ?_
    rintro k e w ⟨I, hk⟩
    refine WP.seq ?_
    refine WP.seq ?_
    refine WP.region ?_
    refine Ops.y (v := .int .i64 _) (Y.move rfl) ?_
    refine Ops.y (v := .pointer (some ⟨_, _, none⟩)) (Y.fa0 fa_25_0 rfl) ?_
    refine Ops.y (v := .slice _ _ _) (Y.loadv ty_22 rfl (I.rdbox 1 rfl 0 1) rfl rfl) ?_
    refine Ops.y (v := .int .i64 _) (Y.lens Tryz.underlying22 rfl) ?_
    refine Ops.y (v := .bool (decide _)) (Y.lti rfl rfl) ?_
    refine Ops.nil ?_
    refine WP.cond_dec rfl (fun h4 => ?_) (fun h4 => ?_)
    · have hk' : k < p.preds.xs.length := by omega
      have hkb : k < q.preds.xs.length := by rw [← hpq]; exact hk'
      have E1 := hp.preds.at hk'
      have E2 := hq.preds.at hkb
      have hee : p.preds.xs[k] = q.preds.xs[k] := by simp only [hpq]
      refine WP.skip ?_
      refine WP.seq ?_
      refine WP.block ?_
      refine WP.seq ?_
      refine WP.regionQ mixed I (by kernel_rfl) ?_
      refine OpsQ.y (v := .pointer (some ⟨_, _, none⟩)) (fun w I => Y.fa0 fa_25_0 rfl) ?_
      refine OpsQ.y (v := .slice _ _ _) (fun w I => Y.loadv ty_22 rfl (I.rdbox 1 rfl 0 1) rfl rfl) ?_
      refine OpsQ.y (v := .int .i64 _) (fun w I => Y.move rfl) ?_
      refine OpsQ.y (v := .pointer (some ⟨_, _, none⟩)) (fun w I => Y.idxEl E1 Tryz.underlying22 Tryz.sizeOf53 rfl rfl (Int.natCast_nonneg _) rfl) ?_
      refine OpsQ.y (v := .agg #[_, _, _]) (fun w I => Y.loadv ty_53 rfl (I.rd (E1.rd.part 0 3)) rfl rfl) ?_
      refine OpsQ.y (v := .pointer (some ⟨_, _, none⟩)) (fun w I => Y.fa0 fa_25_0 rfl) ?_
      refine OpsQ.y (v := .slice _ _ _) (fun w I => Y.loadv ty_22 rfl (I.rdbox 0 rfl 0 1) rfl rfl) ?_
      refine OpsQ.y (v := .int .i64 _) (fun w I => Y.move rfl) ?_
      refine OpsQ.y (v := .pointer (some ⟨_, _, none⟩)) (fun w I => Y.idxEl E2 Tryz.underlying22 Tryz.sizeOf53 rfl rfl (Int.natCast_nonneg _) rfl) ?_
      refine OpsQ.y (v := .agg #[_, _, _]) (fun w I => Y.loadv ty_53 rfl (I.rd (E2.rd.part 0 3)) rfl rfl) ?_
      refine OpsQ.y (v := .bool _) (fun w I => Y.nest Tryz.eqGuardType53 (eq_53 _ _ _ _ _ _) rfl rfl) ?_
      refine OpsQ.nil ?_
      intro w I
      refine WP.cond rfl (fun h6 => ?_) (fun h6 => ?_)
      · exfalso
        rw [prd_eq, hee] at h6; simp at h6
      refine WP.skip ?_
      refine WP.region ?_
      refine Ops.y (v := .int .i64 _) (Y.move rfl) ?_
      refine Ops.y (v := .int .i64 _) (Y.addi rfl rfl ⟨by omega, by omega⟩) ?_
      refine Ops.y (v := .int .i64 _) (Y.assign rfl) ?_
      refine Ops.nil ?_
      exact ⟨k + 1, ⟨⟨rfl, rfl, rfl, trivial⟩, I, hk'⟩, by omega⟩
    refine WP.exit ?_
    exact ⟨(), ⟨rfl, rfl, trivial⟩, I⟩
  rintro _ e w I
  refine WP.seq ?_
  refine WP.seq ?_
  refine WP.region ?_
  refine Ops.y (v := .int .i64 _) (Y.assign rfl) ?_
  refine Ops.nil ?_
  refine WP.block ?_
  refine WP.loopE (σ := Nat) (fun k => [(2, .pointer (some ⟨b2, 0, none⟩)), (3, .pointer (some ⟨b3, 0, none⟩)), (6, .int .i64 k)]) (fun k w => (∃ h0, B.h.le h0 ∧ Inv B h0 [box b3 q.enc 25, box b2 p.enc 25] w) ∧ k ≤ p.rules.xs.length) (fun k => p.rules.xs.length - k)
    ⟨0, ⟨rfl, rfl, rfl, trivial⟩, ⟨_, Heap.le.refl _, I⟩, Nat.zero_le _⟩ ?_
  rintro k e w ⟨⟨h0, gl, I⟩, hk⟩
  refine WP.seq ?_
  refine WP.seq ?_
  refine WP.region ?_
  refine Ops.y (v := .int .i64 _) (Y.move rfl) ?_
  refine Ops.y (v := .pointer (some ⟨_, _, none⟩)) (Y.fa fa_25_1 rfl) ?_
  refine Ops.y (v := .slice _ _ _) (Y.loadv ty_23 rfl (I.rdbox 1 rfl 1 1) rfl rfl) ?_
  refine Ops.y (v := .int .i64 _) (Y.lens Tryz.underlying23 rfl) ?_
  refine Ops.y (v := .bool (decide _)) (Y.lti rfl rfl) ?_
  refine Ops.nil ?_
  refine WP.cond_dec rfl (fun h9 => ?_) (fun h9 => ?_)
  · have hk' : k < p.rules.xs.length := by omega
    have hkb : k < q.rules.xs.length := by omega
    have E1 := (hp.rules.is.le gl).at hk'
    have E2 := (hq.rules.is.le gl).at hkb
    have i1 := (hp.rules.each _ (List.getElem_mem hk')).le gl
    have i2 := (hq.rules.each _ (List.getElem_mem hkb)).le gl
    obtain ⟨r1, r2, r3, r4⟩ := Rul.er_iff (map_at hr hk' hkb)
    have r5 : p.rules.xs[k].body.xs.length = q.rules.xs[k].body.xs.length := by have := congrArg List.length r4; simpa using this
    refine WP.skip ?_
    refine WP.seq ?_
    refine WP.block ?_
    refine WP.seq ?_
    refine WP.regionG mixed RBx.pre ⟨h0, none, none⟩ (J := JBx B [box b3 q.enc 25, box b2 p.enc 25] 64 [.int .i64 0, .slice none 0 0, .int .i64 0, .int .i64 0, .slice none 0 0] p.rules.xs[k].enc 10 11 12) ⟨rfl, rfl, fun h => (by cases h), I.drew⟩ 13 (by kernel_rfl) ?_
    refine OpsG.y_ (v := .pointer (some ⟨_, _, none⟩)) (fun _ => runsG_none _) RBx.pre (JBx.set (by decide)) (fun _ s w us hl hj => have I := hj.base; have hl := hl.h; Y.fa fa_25_1 rfl) ?_
    refine OpsG.y_ (v := .slice _ _ _) (fun _ => runsG_none _) RBx.pre (JBx.set (by decide)) (fun _ s w us hl hj => have I := hj.base; have hl := hl.h; Y.loadv ty_23 rfl (I.rdbox 1 rfl 1 1) rfl rfl) ?_
    refine OpsG.y_ (v := .int .i64 _) (fun _ => runsG_none _) RBx.pre (JBx.set (by decide)) (fun _ s w us hl hj => have I := hj.base; have hl := hl.h; Y.move rfl) ?_
    refine OpsG.y_ (v := .pointer (some ⟨_, _, none⟩)) (fun _ => runsG_none _) RBx.pre (JBx.set (by decide)) (fun _ s w us hl hj => have I := hj.base; have hl := hl.h; Y.idxEl E1 Tryz.underlying23 Tryz.sizeOf64 rfl rfl (Int.natCast_nonneg _) rfl) ?_
    refine OpsG.y_ (v := .agg #[_, _, _, _, _]) (fun _ => runsG_none _) RBx.pre (JBx.set (by decide)) (fun _ s w us hl hj => have I := hj.base; have hl := hl.h; Y.loadv ty_64 rfl (I.rd ((E1.rd.part 0 5).le hl)) rfl rfl) ?_
    refine OpsG.y_ (v := .pointer (some ⟨_, _, none⟩)) (fun _ => runsG_none _) RBx.pre (JBx.set (by decide)) (fun _ s w us hl hj => have I := hj.base; have hl := hl.h; Y.fa fa_25_1 rfl) ?_
    refine OpsG.y_ (v := .slice _ _ _) (fun _ => runsG_none _) RBx.pre (JBx.set (by decide)) (fun _ s w us hl hj => have I := hj.base; have hl := hl.h; Y.loadv ty_23 rfl (I.rdbox 0 rfl 1 1) rfl rfl) ?_
    refine OpsG.y_ (v := .int .i64 _) (fun _ => runsG_none _) RBx.pre (JBx.set (by decide)) (fun _ s w us hl hj => have I := hj.base; have hl := hl.h; Y.move rfl) ?_
    refine OpsG.y_ (v := .pointer (some ⟨_, _, none⟩)) (fun _ => runsG_none _) RBx.pre (JBx.set (by decide)) (fun _ s w us hl hj => have I := hj.base; have hl := hl.h; Y.idxEl E2 Tryz.underlying23 Tryz.sizeOf64 rfl rfl (Int.natCast_nonneg _) rfl) ?_
    refine OpsG.y_ (v := .agg #[_, _, _, _, _]) (fun _ => runsG_none _) RBx.pre (JBx.set (by decide)) (fun _ s w us hl hj => have I := hj.base; have hl := hl.h; Y.loadv ty_64 rfl (I.rd ((E2.rd.part 0 5).le hl)) rfl rfl) ?_
    refine OpsG.make7 Tryz.zeroValue64 rfl (by decide) (by decide) ?_
    refine OpsG.make8 Tryz.zeroValue64 rfl (by decide) (by decide) ?_
    refine OpsG.store7 ty_64 rfl rfl (fun s => by intro u7 q7 u8 _; exact ⟨q7 rfl, rfl⟩) rfl rfl (by decide) (by decide) ?_
    refine OpsG.nil ?_
    intro D s w hD hl hj u7 q7 u8 q8
    obtain ⟨b7, rfl, h7⟩ := q7 rfl
    obtain ⟨b8, rfl, h8⟩ := q8 rfl
    have I := hj.inv
    rw [h7, h8, hD 12 (by omega)] at I
    simp only [pcs, if_true, Bool.false_eq_true, if_false, List.cons_append, List.nil_append] at I
    have hl := hl.h
    refine Ops.go (O.store (v := .agg #[_, _, _, _, _]) I ty_64 1 rfl rfl rfl rfl rfl rfl (Nat.le_of_ble_eq_true rfl) rfl ?_)
    intro w I
    refine Ops.nil ?_
    generalize s.h = h1 at I hl
    have i1 := i1.le hl
    have i2 := i2.le hl
    refine WP.seq ?_
    refine WP.seq ?_
    refine WP.region ?_
    refine Ops.y (v := .pointer (some ⟨_, _, none⟩)) (Y.fa0 fa_64_0 rfl) ?_
    refine Ops.y (v := .agg #[_, _]) (Y.loadv ty_61 rfl (I.rdbox 0 rfl 0 2) rfl rfl) ?_
    refine Ops.y (v := .pointer (some ⟨_, _, none⟩)) (Y.fa0 fa_64_0 rfl) ?_
    refine Ops.y (v := .agg #[_, _]) (Y.loadv ty_61 rfl (I.rdbox 1 rfl 0 2) rfl rfl) ?_
    refine Ops.go (O.callv I Tryz.call34 (sameAtoms_ok _ I.base_ok _ _ i1.head i2.head r1) rfl ?_)
    intro w I
    refine Ops.y (v := .bool false) (Y.b (Y.not rfl) (rfl)) ?_
    refine Ops.y (v := .bool _) (Y.move rfl) ?_
    refine Ops.ygt rfl (v := .pointer (some ⟨_, _, none⟩)) (Y.fa fa_64_1 rfl) ?_
    refine Ops.ygt rfl (v := .int .i64 _) (Y.loadv ty_3 rfl (I.rdbox 0 rfl 2 1) rfl rfl) ?_
    refine Ops.ygt rfl (v := .pointer (some ⟨_, _, none⟩)) (Y.fa fa_64_1 rfl) ?_
    refine Ops.ygt rfl (v := .int .i64 _) (Y.loadv ty_3 rfl (I.rdbox 1 rfl 2 1) rfl rfl) ?_
    refine Ops.ygt rfl (v := .bool false) (Y.dec_f (Y.nei rfl rfl) ((fun h => h r2))) ?_
    refine Ops.y (v := .bool _) (Y.pick_f rfl rfl) ?_
    refine Ops.y (v := .bool _) (Y.move rfl) ?_
    refine Ops.ygt rfl (v := .pointer (some ⟨_, _, none⟩)) (Y.fa fa_64_2 rfl) ?_
    refine Ops.ygt rfl (v := .int .i64 _) (Y.loadv ty_3 rfl (I.rdbox 0 rfl 3 1) rfl rfl) ?_
    refine Ops.ygt rfl (v := .pointer (some ⟨_, _, none⟩)) (Y.fa fa_64_2 rfl) ?_
    refine Ops.ygt rfl (v := .int .i64 _) (Y.loadv ty_3 rfl (I.rdbox 1 rfl 3 1) rfl rfl) ?_
    refine Ops.ygt rfl (v := .bool false) (Y.dec_f (Y.nei rfl rfl) ((fun h => h r3))) ?_
    refine Ops.y (v := .bool _) (Y.pick_f rfl rfl) ?_
    refine Ops.y (v := .bool _) (Y.move rfl) ?_
    refine Ops.ygt rfl (v := .pointer (some ⟨_, _, none⟩)) (Y.fa fa_64_3 rfl) ?_
    refine Ops.ygt rfl (v := .slice _ _ _) (Y.loadv ty_62 rfl (I.rdbox 0 rfl 4 1) rfl rfl) ?_
    refine Ops.ygt rfl (v := .int .i64 _) (Y.lens Tryz.underlying62 rfl) ?_
    refine Ops.ygt rfl (v := .pointer (some ⟨_, _, none⟩)) (Y.fa fa_64_3 rfl) ?_
    refine Ops.ygt rfl (v := .slice _ _ _) (Y.loadv ty_62 rfl (I.rdbox 1 rfl 4 1) rfl rfl) ?_
    refine Ops.ygt rfl (v := .int .i64 _) (Y.lens Tryz.underlying62 rfl) ?_
    refine Ops.ygt rfl (v := .bool false) (Y.dec_f (Y.nei rfl rfl) ((fun h => h (by rw [r5])))) ?_
    refine Ops.y (v := .bool _) (Y.pick_f rfl rfl) ?_
    refine Ops.nil ?_
    refine WP.cond_f rfl ?_
    refine WP.skip ?_
    refine WP.seq ?_
    refine WP.region ?_
    refine Ops.y (v := .int .i64 _) (Y.assign rfl) ?_
    refine Ops.nil ?_
    refine WP.block ?_
    refine WP.loopE (σ := Nat) (fun j => [(2, .pointer (some ⟨b2, 0, none⟩)), (3, .pointer (some ⟨b3, 0, none⟩)), (6, .int .i64 k), (7, .pointer (some ⟨b7, 0, none⟩)), (8, .pointer (some ⟨b8, 0, none⟩)), (9, .int .i64 j)]) (fun j w => Inv B h1 [box b7 p.rules.xs[k].enc 64, box b8 q.rules.xs[k].enc 64, box b3 q.enc 25, box b2 p.enc 25] w ∧ j ≤ p.rules.xs[k].body.xs.length) (fun j => p.rules.xs[k].body.xs.length - j)
      ⟨0, ⟨rfl, rfl, rfl, rfl, rfl, rfl, trivial⟩, I, Nat.zero_le _⟩ ?_
    rintro j e w ⟨I, hj⟩
    have hs5 := i1.body.is.small
    refine WP.seq ?_
    refine WP.seq ?_
    refine WP.region ?_
    refine Ops.y (v := .int .i64 _) (Y.move rfl) ?_
    refine Ops.y (v := .pointer (some ⟨_, _, none⟩)) (Y.fa fa_64_3 rfl) ?_
    refine Ops.y (v := .slice _ _ _) (Y.loadv ty_62 rfl (I.rdbox 0 rfl 4 1) rfl rfl) ?_
    refine Ops.y (v := .int .i64 _) (Y.lens Tryz.underlying62 rfl) ?_
    refine Ops.y (v := .bool (decide _)) (Y.lti rfl rfl) ?_
    refine Ops.nil ?_
    refine WP.cond_dec rfl (fun h15 => ?_) (fun h15 => ?_)
    · have hj1 : j < p.rules.xs[k].body.xs.length := by omega
      have hj2 : j < q.rules.xs[k].body.xs.length := by omega
      have F1 := i1.body.is.at hj1
      have F2 := i2.body.is.at hj2
      have b1 := i1.body.each _ (List.getElem_mem hj1)
      have b2' := i2.body.each _ (List.getElem_mem hj2)
      have ee := map_at r4 hj1 hj2
      have e1 : p.rules.xs[k].body.xs[j].neg = q.rules.xs[k].body.xs[j].neg := by have := congrArg Ltl.neg ee; exact this
      have e2 : p.rules.xs[k].body.xs[j].atom.er = q.rules.xs[k].body.xs[j].atom.er := by have := congrArg Ltl.atom ee; exact this
      refine WP.skip ?_
      refine WP.seq ?_
      refine WP.block ?_
      refine WP.seq ?_
      refine WP.regionQ mixed I (by kernel_rfl) ?_
      refine OpsQ.y (v := .pointer (some ⟨_, _, none⟩)) (fun w I => Y.fa fa_64_3 rfl) ?_
      refine OpsQ.y (v := .slice _ _ _) (fun w I => Y.loadv ty_62 rfl (I.rdbox 0 rfl 4 1) rfl rfl) ?_
      refine OpsQ.y (v := .int .i64 _) (fun w I => Y.move rfl) ?_
      refine OpsQ.y (v := .pointer (some ⟨_, _, none⟩)) (fun w I => Y.idxEl F1 Tryz.underlying62 Tryz.sizeOf68 rfl rfl (Int.natCast_nonneg _) rfl) ?_
      refine OpsQ.y (v := .pointer (some ⟨_, _, none⟩)) (fun w I => Y.fa0 fa_68_0 rfl) ?_
      refine OpsQ.y (v := .bool _) (fun w I => Y.loadv ty_4 rfl (I.rd (F1.rd.part 0 1)) rfl rfl) ?_
      refine OpsQ.y (v := .pointer (some ⟨_, _, none⟩)) (fun w I => Y.fa fa_64_3 rfl) ?_
      refine OpsQ.y (v := .slice _ _ _) (fun w I => Y.loadv ty_62 rfl (I.rdbox 1 rfl 4 1) rfl rfl) ?_
      refine OpsQ.y (v := .int .i64 _) (fun w I => Y.move rfl) ?_
      refine OpsQ.y (v := .pointer (some ⟨_, _, none⟩)) (fun w I => Y.idxEl F2 Tryz.underlying62 Tryz.sizeOf68 rfl rfl (Int.natCast_nonneg _) rfl) ?_
      refine OpsQ.y (v := .pointer (some ⟨_, _, none⟩)) (fun w I => Y.fa0 fa_68_0 rfl) ?_
      refine OpsQ.y (v := .bool _) (fun w I => Y.loadv ty_4 rfl (I.rd (F2.rd.part 0 1)) rfl rfl) ?_
      refine OpsQ.y (v := .bool false) (fun w I => Y.dec_f (Y.neb Tryz.underlying4 rfl rfl) ((fun h => h e1))) ?_
      refine OpsQ.y (v := .bool _) (fun w I => Y.move rfl) ?_
      refine OpsQ.ygt rfl (v := .pointer (some ⟨_, _, none⟩)) (fun w I => Y.fa fa_64_3 rfl) ?_
      refine OpsQ.ygt rfl (v := .slice _ _ _) (fun w I => Y.loadv ty_62 rfl (I.rdbox 0 rfl 4 1) rfl rfl) ?_
      refine OpsQ.ygt rfl (v := .int .i64 _) (fun w I => Y.move rfl) ?_
      refine OpsQ.ygt rfl (v := .pointer (some ⟨_, _, none⟩)) (fun w I => Y.idxEl F1 Tryz.underlying62 Tryz.sizeOf68 rfl rfl (Int.natCast_nonneg _) rfl) ?_
      refine OpsQ.ygt rfl (v := .pointer (some ⟨_, _, none⟩)) (fun w I => Y.fa fa_68_1 rfl) ?_
      refine OpsQ.ygt rfl (v := .agg #[_, _]) (fun w I => Y.loadv ty_61 rfl (I.rd (F1.rd.part 1 2)) rfl rfl) ?_
      refine OpsQ.ygt rfl (v := .pointer (some ⟨_, _, none⟩)) (fun w I => Y.fa fa_64_3 rfl) ?_
      refine OpsQ.ygt rfl (v := .slice _ _ _) (fun w I => Y.loadv ty_62 rfl (I.rdbox 1 rfl 4 1) rfl rfl) ?_
      refine OpsQ.ygt rfl (v := .int .i64 _) (fun w I => Y.move rfl) ?_
      refine OpsQ.ygt rfl (v := .pointer (some ⟨_, _, none⟩)) (fun w I => Y.idxEl F2 Tryz.underlying62 Tryz.sizeOf68 rfl rfl (Int.natCast_nonneg _) rfl) ?_
      refine OpsQ.ygt rfl (v := .pointer (some ⟨_, _, none⟩)) (fun w I => Y.fa fa_68_1 rfl) ?_
      refine OpsQ.ygt rfl (v := .agg #[_, _]) (fun w I => Y.loadv ty_61 rfl (I.rd (F2.rd.part 1 2)) rfl rfl) ?_
      refine OpsQ.cgt rfl (fun w I => QC.callv I Tryz.call34 (sameAtoms_ok _ I.base_ok _ _ b1 b2' e2) rfl) ?_
      refine OpsQ.ygt rfl (v := .bool false) (fun w I => Y.b (Y.not rfl) (rfl)) ?_
      refine OpsQ.y (v := .bool _) (fun w I => Y.pick_f rfl rfl) ?_
      refine OpsQ.nil ?_
      intro w I
      refine WP.cond_f rfl ?_
      refine WP.skip ?_
      refine WP.region ?_
      refine Ops.y (v := .int .i64 _) (Y.move rfl) ?_
      refine Ops.y (v := .int .i64 _) (Y.addi rfl rfl ⟨by omega, by omega⟩) ?_
      refine Ops.y (v := .int .i64 _) (Y.assign rfl) ?_
      refine Ops.nil ?_
      exact ⟨j + 1, ⟨⟨rfl, rfl, rfl, rfl, rfl, rfl, trivial⟩, I, hj1⟩, by omega⟩
    refine WP.exit ?_
    refine WP.region ?_
    refine Ops.y (v := .int .i64 _) (Y.move rfl) ?_
    refine Ops.y (v := .int .i64 _) (Y.addi rfl rfl ⟨by omega, by omega⟩) ?_
    refine Ops.y (v := .int .i64 _) (Y.assign rfl) ?_
    refine Ops.nil ?_
    exact ⟨k + 1, ⟨⟨rfl, rfl, rfl, trivial⟩, ⟨h1, gl.trans hl, I.weak ((List.sublist_cons_self _ _).trans (List.sublist_cons_self _ _))⟩, hk'⟩, by omega⟩
  refine WP.exit ?_
  refine WP.seq ?_
  refine WP.region ?_
  refine Ops.y (v := .bool _) (Y.assign rfl) ?_
  refine Ops.nil ?_
  refine WP.ret ?_
  repeat (first | refine thenE_ret ?_ | refine blockE_ret ?_)
  exact retQ.mk (vs := [.bool _]) rfl ⟨rfl, trivial⟩ I.ext_of (by simp only [tup]; rw [decide_eq_true hpq])
theorem SameProgs_at (B : Base) (hB : B.ok) (p q : Prg) (hp : p.In B.h) (hq : q.In B.h) (he : p.er = q.er) : Fn Tryz.prog 10 [p.val, q.val] B (fun v _ => v = .bool true) := by
  have := SameProgs_ok B hB p q hp hq fun _ => he
  rwa [decide_eq_true (Prg.er_iff he).1] at this
end Go.TF
end
section
/- Needs: who is needed, by a queue. -/
namespace Go.TF
open Go Go.RowKit Go.Proofs
set_option maxRecDepth 20000

structure NdS where
  g : Nat
  o : Nat
  c : Nat
  q : List Int
  N : List Bool
  ms : List Nat
@[reducible] def NdU (b8 bo b2 : Nat) (p : Prg) (g o c : Nat) (q : List Int) (N : List Bool) : List SA := [box b8 [.slice (some ⟨g, o, none⟩) (q.map vI).length c] 78, ownQ 3 g o c (q.map vI), box bo (N.map vB) 4, box b2 p.enc 25]
structure NdJ (B : Base) (b8 bo b2 : Nat) (p : Prg) (pr : Int) (s : NdS) (w : World) : Prop where
  inv : ∃ h1, B.h.le h1 ∧ Inv B h1 (NdU b8 bo b2 p s.g s.o s.c s.q s.N ++ s.ms.map markSA) w
  len : s.N.length = p.preds.xs.length
  snd : ∀ i : Int, 0 ≤ i → i < p.preds.xs.length → bv s.N i = true → Reach (usesL p.rules.xs) pr i
  qin : ∀ x ∈ s.q, (0 ≤ x ∧ x < p.preds.xs.length) ∧ Reach (usesL p.rules.xs) pr x
  clo : ∀ c ∈ usesL p.rules.xs, bv s.N c.1 = true → bv s.N c.2.atom.pred = true ∨ c.2.atom.pred ∈ s.q
  has : bv s.N pr = true ∨ pr ∈ s.q
  small : s.q.length ≤ 1 + 24 * trues s.N
end Go.TF
end
section
/- The roads, their arrays the caller's own. -/
namespace Go.TF
open Go Go.RowKit Go.Proofs
set_option maxRecDepth 20000

def prC : List Prd := [⟨bEdge, 2, 0⟩, ⟨bFar, 2, 2⟩, ⟨bLone, 1, 0⟩]
structure RoadsM (v : Value) (h : Heap) (M : List SA) (bp br : Nat) (r0 r1 r2 r3 r4 r5 r6 : Rul) : Prop where
  val : v = .agg #[.slice (some ⟨bp, 0, none⟩) 3 3, .slice (some ⟨br, 0, none⟩) 7 7]
  own : M = [box br ([r0, r1, r2, r3, r4, r5, r6].flatMap Rul.enc) 64, box bp (prC.flatMap Prd.enc) 53]
  is : ∀ x ∈ [r0, r1, r2, r3, r4, r5, r6], x.In h
  cap : ∀ x ∈ [r0, r1, r2, r3, r4, r5, r6], x.body.xs.length ≤ x.body.cap
  er : [r0, r1, r2, r3, r4, r5, r6].map Rul.er = roadsC.rules.xs
end Go.TF
end
section
/- What the laws of programs begin with. -/
namespace Go.TF
open Go Go.RowKit Go.Proofs
set_option maxRecDepth 20000

def LtlS (x : Ltl) : Sp := fun u h => ∃ y : Ltl, u = y.val ∧ y.er = x ∧ y.In h
theorem LtlS.mono {x : Ltl} : MonoS (LtlS x) := fun _ _ _ hl ⟨s, a, b, c⟩ => ⟨s, a, b, c.le hl⟩
def LtlsS (xs : List Ltl) : Sp := fun u h => ∃ s : Sl Ltl, u = s.val ∧ s.xs.map Ltl.er = xs ∧ Ltls s h ∧ s.at_ = some ⟨s.blk, s.off, none⟩
theorem LtlsS.mono {xs : List Ltl} : MonoS (LtlsS xs) := fun _ _ _ hl ⟨s, a, b, c, d⟩ => ⟨s, a, b, c.le hl, d⟩
def LtlsF (xs : List Ltl) : Sp := fun u h => ∃ s : Sl Ltl, u = s.val ∧ s.xs.map Ltl.er = xs ∧ Ltls s h ∧ s.at_ = some ⟨s.blk, s.off, none⟩ ∧ s.cap = s.xs.length
theorem LtlsF.mono {xs : List Ltl} : MonoS (LtlsF xs) := fun _ _ _ hl ⟨s, a, b, c, d⟩ => ⟨s, a, b, c.le hl, d⟩
theorem RoadsAt.nm {p : Prg} {h : Heap} (x : RoadsAt p h) : p.Nm := by
  unfold Prg.Nm
  rw [x.preds]
  decide
theorem RoadsAt.check {p : Prg} {h : Heap} (x : RoadsAt p h) : checkProg p = 0 := by rw [← checkProg_er, x.er, roads_check]
theorem RoadsAt.uses {p : Prg} {h : Heap} (x : RoadsAt p h) : (usesL p.rules.xs).map cEr = usesL roadsC.rules.xs := by
  rw [← usesL_er]
  have := congrArg (fun q : Prg => q.rules.xs) x.er
  exact congrArg usesL this
theorem RoadsAt.len {p : Prg} {h : Heap} (x : RoadsAt p h) : p.preds.xs.length = 3 := by rw [x.preds]; rfl
end Go.TF
end
section
/- The laws of facts: each returns true. -/
namespace Go.TF
open Go Go.RowKit Go.Proofs
set_option maxRecDepth 20000

def pathsC : List Fct := [⟨0, 0, 1, 0⟩, ⟨0, 1, 2, 0⟩, ⟨1, 0, 1, 4⟩]
theorem paths_ok (B : Base) (hB : B.ok) : Fn Tryz.prog 36 [] B (fun v h => ∃ s : Sl Fct, v = s.val ∧ s.xs = pathsC ∧ Fcts s h) := by
  refine Fn.of Tryz.func36 rfl Tryz.ntmps36 (by kernel_rfl) (by simp) ?_
  intro e
  have I := Inv.start hB
  refine WP.seq ?_
  refine WP.region ?_
  refine Ops.y (v := .slice _ _ _) (Y.assign rfl) ?_
  refine Ops.nil ?_
  refine WP.seq ?_
  refine WP.region ?_
  refine Ops.y (v := .agg #[.int .i64 _, .int .i64 _, .int .i64 _, .int .i64 _]) (Y.build pl_83 Tryz.zeroValue83 rfl rfl) ?_
  refine Ops.y (v := .agg #[.int .i64 _, .int .i64 _, .int .i64 _, .int .i64 _]) (Y.build pl_83 Tryz.zeroValue83 rfl rfl) ?_
  refine Ops.y (v := .agg #[.int .i64 _, .int .i64 _, .int .i64 _, .int .i64 _]) (Y.build pl_83 Tryz.zeroValue83 rfl rfl) ?_
  refine Ops.go (O.mksl (xs := [⟨0, 0, 1, 0⟩, ⟨0, 1, 2, 0⟩, ⟨1, 0, 1, 4⟩]) (enc := Fct.enc) I Tryz.underlying31 Tryz.sizeOf83 Tryz.zeroValue83 rfl (Nat.le_of_ble_eq_true rfl) rfl rfl (by decide) (fun _ => rfl) ?_)
  intro b4 h4 w I le4 sl4
  refine Ops.y (v := .slice _ _ _) (Y.assign rfl) ?_
  refine Ops.nil ?_
  refine WP.ret ?_
  repeat (first | refine thenE_ret ?_ | refine blockE_ret ?_)
  exact retQ.mk (vs := [.slice _ _ _]) rfl ⟨rfl, trivial⟩ I.ext_of (⟨⟨some ⟨b4, 0, none⟩, 3, [⟨0, 0, 1, 0⟩, ⟨0, 1, 2, 0⟩, ⟨1, 0, 1, 4⟩]⟩, rfl, rfl, sl4, by simp⟩)
end Go.TF
end
section
/- Package text: what is shown of a right program is read as it was: plain; the law's beginning: walked. -/
namespace Go.TF
open Go Go.RowKit Go.Proofs
set_option maxRecDepth 20000

theorem prog_len {p : Prg} (h : checkProg p = 0) : (progL p).length ≤ 1183 := by
  have := shown_len h (linesP p).length
  rwa [List.take_length] at this
theorem readOK_show {p : Prg} (h : checkProg p = 0) : readOK (mk (progL p)) = some (p.preds.xs, p.rules.xs.map Rul.er) := by
  have hl := prog_len h
  unfold readOK
  rw [if_neg (by rw [mk_size]; omega)]
  rw [show tx (mk (progL p)) = progL p from rfl, readR_ok h]
  simp only
  have e : prgOf (p.preds.xs, p.rules.xs.map Rul.er) = p.er := rfl
  rw [e, checkProg_er, progL_er, if_pos ⟨h, rfl⟩]
theorem readE_show {p : Prg} (h : checkProg p = 0) : readE (mk (progL p)) = 0 := by
  have hl := prog_len h
  unfold readE
  rw [if_neg (by rw [mk_size]; omega), readOK_show h]; rfl
theorem readP_show {p : Prg} (h : checkProg p = 0) : readP (mk (progL p)) = p.er := by
  unfold readP; rw [readOK_show h]; rfl
abbrev sA : ByteArray := ⟨#[112, 114, 101, 100, 32, 97, 32, 48, 32, 48]⟩
theorem sA_none : readOK sA = none := by
  have h1 : readR (tx sA) = some ([⟨⟨#[97]⟩, 0, 0⟩], []) := by kernel_rfl
  unfold readOK
  rw [if_neg (by show ¬ 4096 < 10; omega), h1]
  simp only
  rw [if_neg]
  rintro ⟨_, h⟩
  have : progL (prgOf ([⟨⟨#[97]⟩, 0, 0⟩], [])) = [112, 114, 101, 100, 32, 97, 32, 48, 32, 48, 10] := by kernel_rfl
  rw [this] at h
  cases h
theorem sA_one : readE sA = 1 := by unfold readE; rw [if_neg (by show ¬ 4096 < 10; omega), sA_none]; rfl
theorem roads_shown : progL roadsC = progL roadsC ∧ (progL roadsC).length = 185 ∧ (progL roadsC).take 14 = [112, 114, 101, 100, 32, 101, 100, 103, 101, 32, 50, 32, 48, 10] ∧ (progL roadsC).drop 152 = [108, 111, 110, 101, 40, 65, 41, 32, 58, 45, 32, 101, 100, 103, 101, 40, 65, 44, 66, 41, 44, 32, 33, 102, 97, 114, 40, 65, 44, 65, 41, 46, 10] := ⟨rfl, by kernel_rfl, by kernel_rfl, by kernel_rfl⟩
theorem paths_shown : factsL roadsC.preds.xs pathsC = [101, 100, 103, 101, 40, 48, 44, 49, 41, 46, 10, 101, 100, 103, 101, 40, 49, 44, 50, 41, 46, 10, 102, 97, 114, 40, 48, 44, 49, 41, 32, 61, 32, 52, 46, 10] := by kernel_rfl
theorem rd_shown {p : Prg} (h : p.er = roadsC) : progL p = progL roadsC := by rw [← progL_er, h]
end Go.TF
end
section
/- The laws of texts begin: walked. -/
namespace Go.TF
open Go Go.RowKit Go.Proofs
set_option maxRecDepth 20000

def RoadS : Sp := fun u h => ∃ p : Prg, u = p.val ∧ RoadsAt p h
theorem RoadS.mono : MonoS RoadS := fun _ _ _ hl ⟨p, a, b⟩ => ⟨p, a, b.le hl⟩
theorem Show_rd (B : Base) (hB : B.ok) (p : Prg) (hp : RoadsAt p B.h) : Fn Tryz.prog 7 [p.val] B (fun v _ => v = .tuple #[.string (mk (progL roadsC)), .int .i64 0]) :=
  (Show_ok B hB p hp.is hp.nm).mono fun v h' _ hv => by rw [hv]; unfold showOf; rw [if_pos hp.check, rd_shown hp.er]
theorem Facts_rd (B : Base) (hB : B.ok) (p : Prg) (hp : RoadsAt p B.h) (f : Sl Fct) (hf : Fcts f B.h) (he : f.xs = pathsC) : Fn Tryz.prog 19 [p.val, f.val] B (fun v _ => v = .tuple #[.string (mk (factsL roadsC.preds.xs pathsC)), .int .i64 0]) :=
  (Facts_ok B hB p hp.is hp.nm f hf).mono fun v h' _ hv => by
    have hpr : p.preds.xs = roadsC.preds.xs := by have := congrArg (fun q : Prg => q.preds.xs) hp.er; exact this
    have ha : askR p pathsC = 0 := askR_iff.2 ⟨hp.check, checkFacts_ok.1 (by rw [hpr]; kernel_rfl)⟩
    rw [hv]; unfold factsV; rw [he, if_pos ha, hpr]
theorem Read_rd (B : Base) (hB : B.ok) (V : Vars B.h) : Fn Tryz.prog 8 [.string (mk (progL roadsC))] B (fun v h => ∃ g : Prg, v = .tuple #[g.val, .int .i64 0] ∧ g.In h ∧ g.er = roadsC) :=
  (Read_ok B hB V _).mono fun v h' _ ⟨g, hv, gi, _, ge⟩ => ⟨g, by rw [hv, readE_show roads_check], gi, by rw [ge, readP_show roads_check]; rfl⟩
theorem Read_sA (B : Base) (hB : B.ok) (V : Vars B.h) : Fn Tryz.prog 8 [.string sA] B (fun v _ => ∃ g : Prg, v = .tuple #[g.val, .int .i64 1]) :=
  (Read_ok B hB V _).mono fun v h' _ ⟨g, hv, gi, _, ge⟩ => ⟨g, by rw [hv, sA_one]⟩
set_option maxHeartbeats 4000000 in
theorem textBegun_ok (B : Base) (hB : B.ok) (V : Vars B.h) : Fn Tryz.prog 12 [] B (fun v _ => v = .bool true) := by
  refine Fn.of Tryz.func12 rfl Tryz.ntmps12 (by kernel_rfl) (by simp) ?_
  intro e
  have I := Inv.start hB
  refine WP.seq ?_
  refine WP.region ?_
  refine Ops.y (v := .bool _) (Y.assign rfl) ?_
  refine Ops.nil ?_
  refine WP.seq ?_
  refine WP.region ?_
  refine Ops.go (O.call I Tryz.call35 (roads_ok _ I.base_ok) rfl ?_)
  rintro _ h1 w I le1 ⟨p1, rfl, hp1⟩
  refine Ops.go (O.callv I Tryz.call7 (Show_rd _ I.base_ok p1 hp1) rfl ?_)
  intro w I
  refine Ops.y (v := .tuple #[_, _]) (Y.move rfl) ?_
  refine Ops.y (v := .string _) (Y.extract rfl rfl) ?_
  refine Ops.y (v := .int .i64 _) (Y.extract rfl rfl) ?_
  refine Ops.y (v := .string _) (Y.assign rfl) ?_
  refine Ops.y (v := .int .i64 _) (Y.assign rfl) ?_
  refine Ops.nil ?_
  refine WP.seq ?_
  refine WP.region ?_
  refine Ops.y (v := .string _) (Y.move rfl) ?_
  refine Ops.go (O.call I Tryz.call8 (Read_rd _ I.base_ok (V.le le1)) rfl ?_)
  rintro _ h2 w I le2 ⟨g, rfl, gi, ge⟩
  refine Ops.y (v := .tuple #[_, _]) (Y.move rfl) ?_
  refine Ops.y (v := .agg #[_, _]) (Y.extract rfl rfl) ?_
  refine Ops.y (v := .int .i64 _) (Y.extract rfl rfl) ?_
  refine Ops.go (O.alloc I Tryz.zeroValue25 rfl ?_)
  intro b3 w I
  refine Ops.go (O.store (v := .agg #[_, _]) I ty_25 0 rfl rfl rfl rfl rfl rfl (Nat.le_of_ble_eq_true rfl) rfl ?_)
  intro w I
  refine Ops.y (v := .int .i64 _) (Y.assign rfl) ?_
  refine Ops.nil ?_
  refine WP.seq ?_
  refine WP.region ?_
  refine Ops.go (O.call I Tryz.call35 (roads_ok _ I.base_ok) rfl ?_)
  rintro _ h3 w I le3 ⟨p3, rfl, hp3⟩
  refine Ops.go (O.call I Tryz.call36 (paths_ok _ I.base_ok) rfl ?_)
  rintro _ h4 w I le4 ⟨f, rfl, fe, fi⟩
  refine Ops.go (O.callv I Tryz.call19 (Facts_rd _ I.base_ok p3 (hp3.le le4) f fi fe) rfl ?_)
  intro w I
  refine Ops.y (v := .tuple #[_, _]) (Y.move rfl) ?_
  refine Ops.y (v := .string _) (Y.extract rfl rfl) ?_
  refine Ops.y (v := .int .i64 _) (Y.extract rfl rfl) ?_
  refine Ops.y (v := .string _) (Y.assign rfl) ?_
  refine Ops.y (v := .int .i64 _) (Y.assign rfl) ?_
  refine Ops.nil ?_
  refine WP.seq ?_
  refine WP.region ?_
  refine Ops.go (O.call I Tryz.call8 (Read_sA _ I.base_ok (V.le (((le1.trans le2).trans le3).trans le4))) rfl ?_)
  rintro _ h5 w I le5 ⟨g2, rfl⟩
  refine Ops.y (v := .tuple #[_, _]) (Y.move rfl) ?_
  refine Ops.y (v := .agg #[_, _]) (Y.extract rfl rfl) ?_
  refine Ops.y (v := .int .i64 _) (Y.extract rfl rfl) ?_
  refine Ops.go (O.alloc I Tryz.zeroValue25 rfl ?_)
  intro b7 w I
  refine Ops.go (O.store (v := .agg #[_, _]) I ty_25 0 rfl rfl rfl rfl rfl rfl (Nat.le_of_ble_eq_true rfl) rfl ?_)
  intro w I
  refine Ops.y (v := .int .i64 _) (Y.assign rfl) ?_
  refine Ops.nil ?_
  have gi := gi.le ((le3.trans le4).trans le5)
  refine WP.seq ?_
  refine WP.regionF mixed I 39 (by kernel_rfl) ?_
  refine OpsF.y_ (v := .int .i64 _) (fun _ => runs_none _) (fun _ w us hl I => Y.move rfl) ?_
  refine OpsF.y_ (v := .bool true) (fun _ => runs_none _) (fun _ w us hl I => Y.dec_t (Y.eqi rfl rfl) (rfl)) ?_
  refine OpsF.y_ (v := .bool _) (fun _ => runs_none _) (fun _ w us hl I => Y.move rfl) ?_
  refine OpsF.y_ (v := .int .i64 _) (fun _ => runs_g rfl) (fun _ w us hl I => Y.move rfl) ?_
  refine OpsF.y_ (v := .bool true) (fun _ => runs_g rfl) (fun _ w us hl I => Y.dec_t (Y.eqi rfl rfl) (rfl)) ?_
  refine OpsF.y_ (v := .bool _) (fun _ => runs_none _) (fun _ w us hl I => Y.pick_t rfl rfl) ?_
  refine OpsF.y_ (v := .bool _) (fun _ => runs_none _) (fun _ w us hl I => Y.move rfl) ?_
  refine OpsF.y_ (v := .int .i64 _) (fun _ => runs_g rfl) (fun _ w us hl I => Y.move rfl) ?_
  refine OpsF.y_ (v := .bool true) (fun _ => runs_g rfl) (fun _ w us hl I => Y.dec_t (Y.eqi rfl rfl) (rfl)) ?_
  refine OpsF.y_ (v := .bool _) (fun _ => runs_none _) (fun _ w us hl I => Y.pick_t rfl rfl) ?_
  refine OpsF.y_ (v := .bool _) (fun _ => runs_none _) (fun _ w us hl I => Y.move rfl) ?_
  refine OpsF.y_ (v := .int .i64 _) (fun _ => runs_g rfl) (fun _ w us hl I => Y.move rfl) ?_
  refine OpsF.y_ (v := .bool true) (fun _ => runs_g rfl) (fun _ w us hl I => Y.dec_t (Y.eqi rfl rfl) (rfl)) ?_
  refine OpsF.y_ (v := .bool _) (fun _ => runs_none _) (fun _ w us hl I => Y.pick_t rfl rfl) ?_
  refine OpsF.y_ (v := .bool _) (fun _ => runs_none _) (fun _ w us hl I => Y.move rfl) ?_
  refine OpsF.y_ (v := .agg #[_, _]) (fun _ => runs_g rfl) (fun _ w us hl I => Y.loadv ty_25 rfl (I.rdbox 1 rfl 0 2) rfl rfl) ?_
  refine OpsF.x_ (Φ := RoadS) RoadS.mono (fun _ => runs_g rfl) ?_ ?_
  · intro _ w hl I
    try unfold AllL
    refine O.call I Tryz.call35 (roads_ok _ I.base_ok) rfl ?_
    rintro _ h6 w I hl' ⟨p6, rfl, hp6⟩
    exact ⟨_, hl', I, ⟨p6, rfl, hp6⟩⟩
  refine OpsF.d_ (v := .bool true) (fun _ => runs_g rfl) ?_ ?_
  · intro _ w hl I u45 q45
    obtain ⟨p6, rfl, hp6⟩ := q45 rfl
    exact O.callv I Tryz.call10 (SameProgs_at _ I.base_ok g p6 (gi.le hl) hp6.is (ge.trans hp6.er.symm)) rfl (fun w' I' => ⟨rfl, I'⟩)
  refine OpsF.y_ (v := .bool _) (fun _ => runs_none _) (fun _ w us hl I => Y.pick_t rfl rfl) ?_
  refine OpsF.y_ (v := .bool _) (fun _ => runs_none _) (fun _ w us hl I => Y.move rfl) ?_
  refine OpsF.y_ (v := .string _) (fun _ => runs_g rfl) (fun _ w us hl I => Y.move rfl) ?_
  refine OpsF.y_ (v := .bool true) (fun _ => runs_g rfl) (fun _ w us hl I => Y.is (Y.eqs rfl rfl) ((by rw [beq_tx]; exact congrArg Value.bool (decide_eq_true paths_shown)))) ?_
  refine OpsF.y_ (v := .bool _) (fun _ => runs_none _) (fun _ w us hl I => Y.pick_t rfl rfl) ?_
  refine OpsF.y_ (v := .bool _) (fun _ => runs_none _) (fun _ w us hl I => Y.move rfl) ?_
  refine OpsF.y_ (v := .string _) (fun _ => runs_g rfl) (fun _ w us hl I => Y.move rfl) ?_
  refine OpsF.y_ (v := .int .i64 _) (fun _ => runs_g rfl) (fun _ w us hl I => Y.lenstr Tryz.underlying9 rfl) ?_
  refine OpsF.y_ (v := .bool true) (fun _ => runs_g rfl) (fun _ w us hl I => Y.dec_t (Y.eqi rfl rfl) ((by rw [mk_size, roads_shown.2.1]; rfl))) ?_
  refine OpsF.y_ (v := .bool _) (fun _ => runs_none _) (fun _ w us hl I => Y.pick_t rfl rfl) ?_
  refine OpsF.y_ (v := .bool _) (fun _ => runs_none _) (fun _ w us hl I => Y.move rfl) ?_
  refine OpsF.y_ (v := .string _) (fun _ => runs_g rfl) (fun _ w us hl I => Y.move rfl) ?_
  refine OpsF.y_ (v := .string _) (fun _ => runs_g rfl) (fun _ w us hl I => Y.slicestr (l := 0) (h := 14) Tryz.underlying9 rfl (.inl ⟨rfl, rfl⟩) (.inr ⟨_, _, rfl, rfl⟩) (by omega) (by rw [mk_size, roads_shown.2.1]; omega)) ?_
  refine OpsF.y_ (v := .bool true) (fun _ => runs_g rfl) (fun _ w us hl I => Y.is (Y.eqs rfl rfl) ((by rw [beq_tx, mk_extract]; exact congrArg Value.bool (decide_eq_true roads_shown.2.2.1)))) ?_
  refine OpsF.y_ (v := .bool _) (fun _ => runs_none _) (fun _ w us hl I => Y.pick_t rfl rfl) ?_
  refine OpsF.y_ (v := .bool _) (fun _ => runs_none _) (fun _ w us hl I => Y.move rfl) ?_
  refine OpsF.y_ (v := .string _) (fun _ => runs_g rfl) (fun _ w us hl I => Y.move rfl) ?_
  refine OpsF.y_ (v := .string _) (fun _ => runs_g rfl) (fun _ w us hl I => Y.slicestr (l := 152) (h := (mk (progL roadsC)).size) Tryz.underlying9 rfl (.inr ⟨_, _, rfl, rfl⟩) (.inl ⟨rfl, rfl⟩) (by rw [mk_size, roads_shown.2.1]; omega) (Nat.le_refl _)) ?_
  refine OpsF.y_ (v := .bool true) (fun _ => runs_g rfl) (fun _ w us hl I => Y.is (Y.eqs rfl rfl) ((by rw [beq_tx, mk_extract, mk_size, List.take_length]; exact congrArg Value.bool (decide_eq_true roads_shown.2.2.2)))) ?_
  refine OpsF.y_ (v := .bool _) (fun _ => runs_none _) (fun _ w us hl I => Y.pick_t rfl rfl) ?_
  refine OpsF.y_ (v := .bool _) (fun _ => runs_none _) (fun _ w us hl I => Y.assign rfl) ?_
  refine OpsF.nil ?_
  intro _ w hl I u45 q45
  refine Ops.nil ?_
  refine WP.ret ?_
  repeat (first | refine thenE_ret ?_ | refine blockE_ret ?_)
  exact retQ.mk (vs := [.bool _]) rfl ⟨rfl, trivial⟩ I.ext_of (rfl)
end Go.TF
end
section
/- The law TextFacts: it returns true. -/
namespace Go.TF
open Go Go.RowKit Go.Proofs
set_option maxRecDepth 20000
set_option linter.unusedSimpArgs false


theorem facts_len {p : Prg} (hp0 : checkProg p = 0) {f : List Fct} (fo : FOk p.preds.xs f) (k : Nat) : (factsL p.preds.xs (f.take k)).length ≤ 2875 := by
  have h125 := fo.len125
  have h1 := flat_fl (n := 23) (L := f.take k) (g := fun x => factL p.preds.xs x ++ [46, 10]) fun x hx => by
    have := factL_len hp0 (fctR fo (List.mem_of_mem_take hx))
    simp only [List.length_append, List.length_cons, List.length_nil]; omega
  have h3 : (f.take k).length ≤ 125 := by rw [List.length_take]; omega
  have := Nat.mul_le_mul_right 23 h3
  unfold factsL
  omega
theorem FactsText_ok (B : Base) (hB : B.ok) (p : Prg) (hp : p.In B.h) (hp0 : checkProg p = 0) (f : Sl Fct) (hf : Fcts f B.h) (fo : FOk p.preds.xs f.xs) : Fn Tryz.prog 21 [p.preds.val, f.val] B (fun v _ => v = .string (mk (factsL p.preds.xs f.xs))) := by
  have hl := hp.preds
  have h125 := fo.len125
  refine Fn.of Tryz.func21 rfl Tryz.ntmps21 (by kernel_rfl) (by simp) ?_
  intro e
  have I := Inv.start hB
  refine WP.seq ?_
  refine WP.region ?_
  refine Ops.y (v := .string _) (Y.assign rfl) ?_
  refine Ops.nil ?_
  refine WP.seq ?_
  refine WP.region ?_
  refine Ops.y (v := .string _) (Y.assign rfl) ?_
  refine Ops.nil ?_
  refine WP.seq ?_
  refine WP.seq ?_
  refine WP.region ?_
  refine Ops.y (v := .int .i64 _) (Y.assign rfl) ?_
  refine Ops.nil ?_
  refine WP.block ?_
  refine WP.loopE (σ := Nat × Heap) (fun z => [(0, p.preds.val), (1, f.val), (5, .string (mk (factsL p.preds.xs (f.xs.take z.1)))), (6, .int .i64 z.1)])
    (fun z w => z.1 ≤ f.xs.length ∧ B.h.le z.2 ∧ Inv B z.2 [] w) (fun z => f.xs.length - z.1)
    ⟨(0, B.h), ⟨rfl, rfl, rfl, rfl, trivial⟩, Nat.zero_le _, Heap.le.refl _, I⟩ ?_
  rintro ⟨k, hh⟩ e w ⟨hk, gl, I⟩
  dsimp only at hk gl I ⊢
  refine WP.seq ?_
  refine WP.seq ?_
  refine WP.region ?_
  refine Ops.y (v := .int .i64 _) (Y.move rfl) ?_
  refine Ops.y (v := .slice _ _ _) (Y.move rfl) ?_
  refine Ops.y (v := .int .i64 _) (Y.lens Tryz.underlying31 rfl) ?_
  refine Ops.y (v := .bool (decide _)) (Y.lti rfl rfl) ?_
  refine Ops.nil ?_
  refine WP.cond_dec rfl (fun h10 => ?_) (fun h10 => ?_)
  · have hk' : k < f.xs.length := by omega
    have E := Sl.Is.at (hf.le gl) hk'
    have fr := fctR fo (List.getElem_mem hk')
    have hlen := factL_len hp0 fr
    have hnl := name_len hp0 (predOf_mem fr.pred)
    have hnx : f.xs.take (k + 1) = f.xs.take k ++ [f.xs[k]] := by rw [List.take_add_one, List.getElem?_eq_getElem hk']; rfl
    have hsl := facts_len hp0 fo k
    obtain ⟨x, hx⟩ : ∃ x, f.xs[k] = x := ⟨_, rfl⟩
    rw [hx] at E fr hlen hnl hnx
    refine WP.skip ?_
    refine WP.seq ?_
    refine WP.block ?_
    refine WP.region ?_
    refine Ops.y (v := .string _) (Y.move rfl) ?_
    refine Ops.y (v := .slice _ _ _) (Y.move rfl) ?_
    refine Ops.y (v := .slice _ _ _) (Y.move rfl) ?_
    refine Ops.y (v := .int .i64 _) (Y.move rfl) ?_
    refine Ops.y (v := .pointer (some ⟨_, _, none⟩)) (Y.idxEl E Tryz.underlying31 Tryz.sizeOf83 rfl rfl (Int.natCast_nonneg _) rfl) ?_
    refine Ops.y (v := .agg #[_, _, _, _]) (Y.loadv ty_83 rfl (I.rd (E.rd.part 0 4)) rfl rfl) ?_
    refine Ops.go (O.callv I Tryz.call53 (factText_ok _ I.base_ok p.preds (hl.le gl) x fr hnl) rfl ?_)
    intro w I
    refine Ops.y (v := .string _) (Y.adds rfl rfl ((by simp only [ByteArray.size_append, bsz, List.size_toArray, List.length_cons, List.length_nil, List.length_append]; omega))) ?_
    refine Ops.y (v := .string _) (Y.adds rfl rfl ((by simp only [ByteArray.size_append, bsz, List.size_toArray, List.length_cons, List.length_nil, List.length_append]; omega))) ?_
    refine Ops.y (v := .string _) (Y.assign rfl) ?_
    refine Ops.nil ?_
    refine WP.region ?_
    refine Ops.y (v := .int .i64 _) (Y.move rfl) ?_
    refine Ops.y (v := .int .i64 _) (Y.addi rfl rfl ⟨by omega, by omega⟩) ?_
    refine Ops.y (v := .int .i64 _) (Y.assign rfl) ?_
    refine Ops.nil ?_
    refine ⟨(k + 1, hh), ⟨⟨rfl, rfl, ?_, rfl, trivial⟩, by dsimp only; omega, gl, I⟩, by dsimp only; omega⟩
    dsimp only
    rw [hnx]
    unfold factsL
    rw [List.flatMap_append, List.flatMap_singleton]
    exact congrArg Value.string (tx_inj.1 (by simp only [tx_mk, tx_app, txl, List.append_assoc, Int.toNat_natCast, List.cons_append, List.nil_append]))
  · obtain rfl : k = f.xs.length := by omega
    rw [List.take_length]
    refine WP.exit ?_
    refine WP.seq ?_
    refine WP.region ?_
    refine Ops.y (v := .string _) (Y.move rfl) ?_
    refine Ops.y (v := .string _) (Y.assign rfl) ?_
    refine Ops.nil ?_
    refine WP.ret ?_
    repeat (first | refine thenE_ret ?_ | refine blockE_ret ?_)
    exact retQ.mk (vs := [.string _]) rfl ⟨rfl, trivial⟩ I.ext_of (rfl)
set_option maxHeartbeats 4000000 in
theorem TextFacts_ok (B : Base) (hB : B.ok) (V : Vars B.h) (p : Prg) (hp : p.In B.h) (hnm : p.Nm) (f : Sl Fct) (hf : Fcts f B.h) : Fn Tryz.prog 6 [p.val, f.val] B (fun v _ => v = .bool true) := by
  by_cases h0 : askR p f.xs = 0
  · obtain ⟨hp0, fo⟩ := askR_iff.1 h0
    have hF : ∀ B : Base, B.ok → p.In B.h → Fcts f B.h → Fn Tryz.prog 19 [p.val, f.val] B (fun v _ => v = .tuple #[.string (mk (factsL p.preds.xs f.xs)), .int .i64 0]) := fun B hB hp hf => (Facts_ok B hB p hp hnm f hf).mono fun v h' _ hv => by
      rw [hv]; unfold factsV; rw [if_pos h0]
    refine Fn.of Tryz.func6 rfl Tryz.ntmps6 (by kernel_rfl) (by simp) ?_
    intro e
    have I := Inv.start hB
    refine WP.seq ?_
    refine WP.region ?_
    refine Ops.go (O.box (v := .agg #[_, _]) I rfl rfl ?_)
    intro b2 w I
    refine Ops.y (v := .bool _) (Y.assign rfl) ?_
    refine Ops.nil ?_
    refine WP.seq ?_
    refine WP.region ?_
    refine Ops.y (v := .agg #[_, _]) (Y.loadv ty_25 rfl (I.rdbox 0 rfl 0 2) rfl rfl) ?_
    refine Ops.y (v := .slice _ _ _) (Y.move rfl) ?_
    refine Ops.go (O.callv I Tryz.call19 (hF _ I.base_ok hp hf) rfl ?_)
    intro w I
    refine Ops.y (v := .tuple #[_, _]) (Y.move rfl) ?_
    refine Ops.y (v := .string _) (Y.extract rfl rfl) ?_
    refine Ops.y (v := .int .i64 _) (Y.extract rfl rfl) ?_
    refine Ops.y (v := .string _) (Y.assign rfl) ?_
    refine Ops.y (v := .int .i64 _) (Y.assign rfl) ?_
    refine Ops.nil ?_
    refine WP.seq ?_
    refine WP.region ?_
    refine Ops.y (v := .agg #[_, _]) (Y.loadv ty_25 rfl (I.rdbox 0 rfl 0 2) rfl rfl) ?_
    refine Ops.y (v := .slice _ _ _) (Y.move rfl) ?_
    refine Ops.go (O.callv I Tryz.call20 (h0 ▸ RoundError_ok _ I.base_ok p hp hnm f hf) rfl ?_)
    intro w I
    refine Ops.y (v := .int .i64 _) (Y.assign rfl) ?_
    refine Ops.nil ?_
    refine WP.seq ?_
    refine WP.region ?_
    refine Ops.y (v := .string _) (Y.assign rfl) ?_
    refine Ops.nil ?_
    refine WP.seq ?_
    refine WP.seq ?_
    refine WP.region ?_
    refine Ops.y (v := .int .i64 _) (Y.move rfl) ?_
    refine Ops.y (v := .bool true) (Y.dec_t (Y.eqi rfl rfl) (rfl)) ?_
    refine Ops.nil ?_
    refine WP.cond_t rfl ?_
    refine WP.region ?_
    refine Ops.y (v := .pointer (some ⟨_, _, none⟩)) (Y.fa0 fa_25_0 rfl) ?_
    refine Ops.y (v := .slice _ _ _) (Y.loadv ty_22 rfl (I.rdbox 0 rfl 0 1) rfl rfl) ?_
    refine Ops.y (v := .slice _ _ _) (Y.move rfl) ?_
    refine Ops.go (O.callv I Tryz.call21 (FactsText_ok _ I.base_ok p hp hp0 f hf fo) rfl ?_)
    intro w I
    refine Ops.y (v := .string _) (Y.assign rfl) ?_
    refine Ops.nil ?_
    refine WP.seq ?_
    refine WP.region ?_
    refine Ops.go (O.call I Tryz.call12 (textBegun_ok _ I.base_ok V) rfl ?_)
    rintro _ h1 w I le1 rfl
    refine Ops.y (v := .bool true) (Y.b (Y.move rfl) (rfl)) ?_
    refine Ops.ygt rfl (v := .string _) (Y.move rfl) ?_
    refine Ops.ygt rfl (v := .string _) (Y.move rfl) ?_
    refine Ops.ygt rfl (v := .bool true) (Y.is (Y.eqs rfl rfl) ((by rw [beq_tx]; simp))) ?_
    refine Ops.y (v := .bool _) (Y.pick_t rfl rfl) ?_
    refine Ops.y (v := .bool _) (Y.move rfl) ?_
    refine Ops.ygt rfl (v := .int .i64 _) (Y.move rfl) ?_
    refine Ops.ygt rfl (v := .int .i64 _) (Y.move rfl) ?_
    refine Ops.ygt rfl (v := .bool true) (Y.dec_t (Y.eqi rfl rfl) (rfl)) ?_
    refine Ops.y (v := .bool _) (Y.pick_t rfl rfl) ?_
    refine Ops.y (v := .bool _) (Y.assign rfl) ?_
    refine Ops.nil ?_
    refine WP.ret ?_
    repeat (first | refine thenE_ret ?_ | refine blockE_ret ?_)
    exact retQ.mk (vs := [.bool _]) rfl ⟨rfl, trivial⟩ I.ext_of (rfl)
  · have hF : ∀ B : Base, B.ok → p.In B.h → Fcts f B.h → Fn Tryz.prog 19 [p.val, f.val] B (fun v _ => v = .tuple #[.string ⟨#[]⟩, .int .i64 (askR p f.xs)]) := fun B hB hp hf => (Facts_ok B hB p hp hnm f hf).mono fun v h' _ hv => by
      rw [hv]; unfold factsV; rw [if_neg h0]
    refine Fn.of Tryz.func6 rfl Tryz.ntmps6 (by kernel_rfl) (by simp) ?_
    intro e
    have I := Inv.start hB
    refine WP.seq ?_
    refine WP.region ?_
    refine Ops.go (O.box (v := .agg #[_, _]) I rfl rfl ?_)
    intro b2 w I
    refine Ops.y (v := .bool _) (Y.assign rfl) ?_
    refine Ops.nil ?_
    refine WP.seq ?_
    refine WP.region ?_
    refine Ops.y (v := .agg #[_, _]) (Y.loadv ty_25 rfl (I.rdbox 0 rfl 0 2) rfl rfl) ?_
    refine Ops.y (v := .slice _ _ _) (Y.move rfl) ?_
    refine Ops.go (O.callv I Tryz.call19 (hF _ I.base_ok hp hf) rfl ?_)
    intro w I
    refine Ops.y (v := .tuple #[_, _]) (Y.move rfl) ?_
    refine Ops.y (v := .string _) (Y.extract rfl rfl) ?_
    refine Ops.y (v := .int .i64 _) (Y.extract rfl rfl) ?_
    refine Ops.y (v := .string _) (Y.assign rfl) ?_
    refine Ops.y (v := .int .i64 _) (Y.assign rfl) ?_
    refine Ops.nil ?_
    refine WP.seq ?_
    refine WP.region ?_
    refine Ops.y (v := .agg #[_, _]) (Y.loadv ty_25 rfl (I.rdbox 0 rfl 0 2) rfl rfl) ?_
    refine Ops.y (v := .slice _ _ _) (Y.move rfl) ?_
    refine Ops.go (O.callv I Tryz.call20 (RoundError_ok _ I.base_ok p hp hnm f hf) rfl ?_)
    intro w I
    refine Ops.y (v := .int .i64 _) (Y.assign rfl) ?_
    refine Ops.nil ?_
    refine WP.seq ?_
    refine WP.region ?_
    refine Ops.y (v := .string _) (Y.assign rfl) ?_
    refine Ops.nil ?_
    refine WP.seq ?_
    refine WP.seq ?_
    refine WP.region ?_
    refine Ops.y (v := .int .i64 _) (Y.move rfl) ?_
    refine Ops.y (v := .bool false) (Y.dec_f (Y.eqi rfl rfl) (h0)) ?_
    refine Ops.nil ?_
    refine WP.cond_f rfl ?_
    refine WP.skip ?_
    refine WP.seq ?_
    refine WP.region ?_
    refine Ops.go (O.call I Tryz.call12 (textBegun_ok _ I.base_ok V) rfl ?_)
    rintro _ h1 w I le1 rfl
    refine Ops.y (v := .bool true) (Y.b (Y.move rfl) (rfl)) ?_
    refine Ops.ygt rfl (v := .string _) (Y.move rfl) ?_
    refine Ops.ygt rfl (v := .string _) (Y.move rfl) ?_
    refine Ops.ygt rfl (v := .bool true) (Y.is (Y.eqs rfl rfl) ((by rw [beq_tx]; simp))) ?_
    refine Ops.y (v := .bool _) (Y.pick_t rfl rfl) ?_
    refine Ops.y (v := .bool _) (Y.move rfl) ?_
    refine Ops.ygt rfl (v := .int .i64 _) (Y.move rfl) ?_
    refine Ops.ygt rfl (v := .int .i64 _) (Y.move rfl) ?_
    refine Ops.ygt rfl (v := .bool true) (Y.dec_t (Y.eqi rfl rfl) (rfl)) ?_
    refine Ops.y (v := .bool _) (Y.pick_t rfl rfl) ?_
    refine Ops.y (v := .bool _) (Y.assign rfl) ?_
    refine Ops.nil ?_
    refine WP.ret ?_
    repeat (first | refine thenE_ret ?_ | refine blockE_ret ?_)
    exact retQ.mk (vs := [.bool _]) rfl ⟨rfl, trivial⟩ I.ext_of (rfl)
end Go.TF
end
section
/- Arguments as they come in: what is read as data lies in memory as located data. -/
namespace Go.TF
open Go Go.RowKit Go.Proofs Go.Deep

def memH (W : World) : Heap := fun b => W.heap[b]?
theorem memH_cell {W : World} {b o : Nat} {v : Value} (h : W.cell? ⟨b, o, none⟩ = some v) : (memH W).cell b o = some v := by
  unfold World.cell? at h
  unfold Heap.cell memH
  split at h
  · rename_i c t f hb; rw [hb]; simpa using h
  · cases h
def Opens (P : Program) (T : TypeId) {α : Type} (enc : α → List Value) (In : α → Heap → Prop) : Prop :=
  ∀ (H : Type) (en : TypeId × Value → H) (W : World) (fuel : Nat) (cs : List Value) (x : DataW H × List MemPlace), DataW.trod en P W 0 (fun _ => true) true fuel T cs = some x → (∀ n ∈ x.1.weights P T, n ≤ reachBytes) → ∃ y : α, cs = enc y ∧ In y (memH W)
/-- A slice, its elements, and that there are not too many. -/
structure Sl.Ok {α : Type} (s : Sl α) (k b : Nat) (enc : α → List Value) (In : α → Heap → Prop) (h : Heap) : Prop where
  is : s.Is k enc h
  each : ∀ x ∈ s.xs, In x h
  cap : s.xs.length ≤ s.cap
  size : s.cap * b ≤ reachBytes
section
variable {P : Program} {T : TypeId}
theorem op_int (hT : P.underlying T = some (.int .i64)) : Opens P T (fun n : Int => [.int .i64 n]) (fun n _ => I64 n) := fun H en W fuel cs x h _ => by
  obtain ⟨n, rfl, _, hw⟩ := DataW.trod_int hT h
  refine ⟨n, rfl, ?_⟩
  simp only [Lit.wf, Bool.and_eq_true, decide_eq_true_eq] at hw
  have h1 : IntKind.i64.min = -9223372036854775808 := rfl
  have h2 : IntKind.i64.max = 9223372036854775807 := rfl
  exact ⟨by omega, by omega⟩
theorem op_bool (hT : P.underlying T = some .bool) : Opens P T (fun n : Bool => [.bool n]) (fun _ _ => True) := fun H en W fuel cs x h _ => by
  obtain ⟨n, rfl, _⟩ := DataW.trod_bool hT h
  exact ⟨n, rfl, trivial⟩
theorem op_string (hT : P.underlying T = some .string) : Opens P T (fun n : ByteArray => [.string n]) (fun s _ => s.size ≤ reachBytes) := fun H en W fuel cs x h hw => by
  obtain ⟨n, rfl, rfl, _⟩ := DataW.trod_string hT h
  refine ⟨n, rfl, ?_⟩
  have := hw n.data.toList.length (by simp [DataW.weights])
  simpa using this
theorem weightsAll_mem {H : Type} {e : TypeId} : ∀ {l : List (DataW H)} {d : DataW H}, d ∈ l → ∀ n ∈ d.weights P e, n ∈ DataW.weightsAll P e l
  | x :: l, d, hd, n, hn => by
    simp only [DataW.weightsAll]
    rcases List.mem_cons.1 hd with rfl | hd
    · exact List.mem_append_left _ hn
    · exact List.mem_append_right _ (weightsAll_mem hd n hn)
theorem op_slice {e k b : Nat} {α : Type} {enc : α → List Value} {In : α → Heap → Prop} (hT : P.underlying T = some (.slice e)) (hk : P.cellsOf e = k) (hb : P.bytesOf e = b) (hb0 : 0 < b) (hk0 : 0 < k) (he : Opens P e enc In) :
    Opens P T (fun s : Sl α => [s.val]) (fun s h => s.Ok k b enc In h) := fun H en W fuel cs x h hw => by
  rcases open_slice hT h with ⟨rfl, rfl⟩ | ⟨a, len, cap, m, n, D, Pl, rfl, _, hl, _, hmm, rfl, hall⟩
  · exact ⟨⟨none, 0, []⟩, rfl, ⟨⟨fun i x hx => by simp at hx, by simp⟩, fun x hx => by simp at hx, by simp, by simp [reachBytes]⟩⟩
  · simp only [if_true] at hmm
    subst hmm
    have hel : ∀ i, i < len → ∃ (y : α), W.cells? 0 (a.add (i * k)) k = some (enc y) ∧ In y (memH W) := fun i hi => by
      obtain ⟨cs', h1, h2⟩ := hall i (by omega)
      obtain ⟨y, rfl, hy⟩ := he H en W n cs' _ h2 fun q hq => hw q (by
        simp only [DataW.weights, hT]
        refine List.mem_cons_of_mem _ (List.mem_append_left _ (weightsAll_mem (d := D i) (List.mem_map.2 ⟨i, List.mem_range.2 hi, rfl⟩) q hq)))
      rw [hk] at h1
      exact ⟨y, h1, hy⟩
    have hsz : m * b ≤ reachBytes := by
      have := hw ((len + (m - len)) * b) (by simp [DataW.weights, hT, hb])
      rwa [show len + (m - len) = m by omega] at this
    have hm47 : m ≤ 140737488355328 := by
      have h1 : m ≤ m * b := Nat.le_mul_of_pos_right m hb0
      have h2 : reachBytes ≤ 140737488355328 := by decide
      omega
    have key : ∃ xs : List α, xs.length = len ∧ ∀ i y, xs[i]? = some y → W.cells? 0 (a.add (i * k)) k = some (enc y) ∧ In y (memH W) := by
      have : ∀ l, l ≤ len → ∃ xs : List α, xs.length = l ∧ ∀ i y, xs[i]? = some y → W.cells? 0 (a.add (i * k)) k = some (enc y) ∧ In y (memH W) := by
        intro l
        induction l with
        | zero => intro _; exact ⟨[], rfl, fun i y hy => by simp at hy⟩
        | succ l ih =>
          intro hl'
          obtain ⟨xs, h1, h2⟩ := ih (by omega)
          obtain ⟨y, h3⟩ := hel l (by omega)
          refine ⟨xs ++ [y], by simp [h1], fun i z hz => ?_⟩
          rw [List.getElem?_append] at hz
          split at hz
          · exact h2 i z hz
          · have : i = l := by
              have := (List.getElem?_eq_some_iff.1 hz).1
              simp at this; omega
            subst this
            simp [h1] at hz
            subst hz; exact h3
      exact this len (Nat.le_refl _)
    obtain ⟨xs, hxs, hx⟩ := key
    obtain ⟨ab, ao, spot⟩ := a
    have hspot : 0 < len → spot = none := fun h0 => by
      obtain ⟨y, h1, _⟩ := hel 0 h0
      obtain ⟨_, hlen, hc⟩ := World.cells?_some h1
      have hc0 := hc 0 hk0
      have : ∃ v, (enc y)[0]? = some v := ⟨(enc y)[0]'(by omega), by simp⟩
      obtain ⟨v, hv⟩ := this
      rw [hv] at hc0
      have := World.cell?_spot hc0
      simpa [Addr.add] using this
    refine ⟨⟨some ⟨ab, ao, spot⟩, m, xs⟩, by simp [Sl.val, hxs], ⟨⟨fun i y hy => ?_, by simp only [hxs]; omega⟩, fun y hy => ?_, by simp only [hxs]; omega, hsz⟩⟩
    · have hi : i < xs.length := (List.getElem?_eq_some_iff.1 hy).1
      have hs := hspot (by omega)
      subst hs
      refine ⟨rfl, fun j v hj => ?_⟩
      obtain ⟨_, hlen, hc⟩ := World.cells?_some (hx i y hy).1
      have hjk : j < k := by have := (List.getElem?_eq_some_iff.1 hj).1; omega
      have := hc j hjk
      rw [hj, addr_add, addr_add] at this
      exact memH_cell this
    · obtain ⟨i, hi, rfl⟩ := List.getElem_of_mem hy
      exact (hx i xs[i] (List.getElem?_eq_getElem hi)).2
theorem op_field {fs : Array Field} {H : Type} {en : TypeId × Value → H} {W : World} {fuel : Nat} {cs : List Value} {x : DataW H × List MemPlace} (hT : P.underlying T = some (.struct fs)) (h : DataW.trod en P W 0 (fun _ => true) true fuel T cs = some x) (hw : ∀ n ∈ x.1.weights P T, n ≤ reachBytes)
    {α : Type} {enc : α → List Value} {In : α → Heap → Prop} (i : Nat) {f : Field} (hf : fs[i]? = some f) {k : Nat} (hk : P.cellsOf f.type = k) (he : Opens P f.type enc In) : ∃ y : α, (cs.drop f.offset).take k = enc y ∧ In y (memH W) := by
  subst hk
  obtain ⟨xs, n, _, rfl, _, hlen, hfs⟩ := DataW.trod_struct hT h
  have hi : i < xs.length := by rw [hlen]; exact (Array.getElem?_eq_some_iff.1 hf).1
  have h1 := hfs i f hf
  rw [List.getElem?_eq_getElem hi] at h1
  refine he H en W n _ xs[i] h1 fun q hq => hw q ?_
  simp only [DataW.weights, hT]
  exact DataW.weights_mem_each (j := i) (t := f.type) (d := xs[i].1) (by simp [hf]) (by simp [hi]) q hq
theorem op_len {fs : Array Field} {H : Type} {en : TypeId × Value → H} {W : World} {fuel : Nat} {cs : List Value} {x : DataW H × List MemPlace} (hT : P.underlying T = some (.struct fs)) (h : DataW.trod en P W 0 (fun _ => true) true fuel T cs = some x) : cs.length = P.cellsOf T := by
  obtain ⟨xs, n, _, rfl, hl, _, _⟩ := DataW.trod_struct hT h
  exact hl
/-- From the argument's cells to its value. -/
theorem val_slice {W : World} {r : Go.Reach} {b0 e : Nat} {v w : Value} (hT : P.underlying T = some (.slice e)) (hval : Value.okWide P W r b0 T v) (hc : v.cells.toList = [w]) : v = w := by
  unfold Value.okWide at hval
  rw [hT] at hval
  simp only at hval
  cases v <;> simp_all [Value.cells, Cell.okWide, Cell.ok]
theorem val_struct {W : World} {r : Go.Reach} {b0 : Nat} {fs : Array Field} {v : Value} {cs : List Value} (hT : P.underlying T = some (.struct fs)) (hval : Value.okWide P W r b0 T v) (hc : v.cells.toList = cs) : v = .agg cs.toArray := by
  unfold Value.okWide at hval
  rw [hT] at hval
  obtain ⟨cs', rfl, _⟩ := hval
  subst hc; simp [Value.cells]
theorem weights_of {H : Type} {ts : List TypeId} {ds : List (DataW H)} (hz : (DataW.weightsEach P ts ds).all (· ≤ reachBytes) = true) (j : Nat) {t : TypeId} {d : DataW H} (ht : ts[j]? = some t) (hd : ds[j]? = some d) : ∀ n ∈ d.weights P t, n ≤ reachBytes := fun n hn => by
  have := List.all_eq_true.1 hz n (DataW.weights_mem_each ht hd n hn)
  simpa using this
end
theorem open_of {P : Program} {T : TypeId} {α : Type} {enc : α → List Value} {In : α → Heap → Prop} {H : Type} {en : TypeId × Value → H} {W : World} {v : Value} {d : DataW H} {ps : List MemPlace} (he : Opens P T enc In) (hd : DataW.Trod en P W 0 (fun _ => true) true T v d ps) (hw : ∀ n ∈ d.weights P T, n ≤ reachBytes) :
    ∃ y : α, v.cells.toList = enc y ∧ In y (memH W) := by
  obtain ⟨fuel, h⟩ := hd
  exact he H en W fuel _ _ h hw

/-! ### This program's types -/
theorem len2 {cs : List Value} (h : cs.length = 2) : ∃ c0 c1, cs = [c0, c1] := by
  match cs, h with
  | [c0, c1], _ => exact ⟨c0, c1, rfl⟩
theorem len3 {cs : List Value} (h : cs.length = 3) : ∃ c0 c1 c2, cs = [c0, c1, c2] := by
  match cs, h with
  | [c0, c1, c2], _ => exact ⟨c0, c1, c2, rfl⟩
theorem len4 {cs : List Value} (h : cs.length = 4) : ∃ c0 c1 c2 c3, cs = [c0, c1, c2, c3] := by
  match cs, h with
  | [c0, c1, c2, c3], _ => exact ⟨c0, c1, c2, c3, rfl⟩
theorem len5 {cs : List Value} (h : cs.length = 5) : ∃ c0 c1 c2 c3 c4, cs = [c0, c1, c2, c3, c4] := by
  match cs, h with
  | [c0, c1, c2, c3, c4], _ => exact ⟨c0, c1, c2, c3, c4, rfl⟩
def TrmOk (t : Trm) (_ : Heap) : Prop := I64 t.n
structure PrdOk (p : Prd) (_ : Heap) : Prop where
  name : p.name.size ≤ reachBytes
  arity : I64 p.arity
  kind : I64 p.kind
structure AtmOk (a : Atm) (h : Heap) : Prop where
  pred : I64 a.pred
  args : a.args.Ok 2 16 Trm.enc TrmOk h
def LtlOk (x : Ltl) (h : Heap) : Prop := AtmOk x.atom h
structure RulOk (r : Rul) (h : Heap) : Prop where
  head : AtmOk r.head h
  src : I64 r.src
  n : I64 r.n
  body : r.body.Ok 3 40 Ltl.enc LtlOk h
structure PrgOk (p : Prg) (h : Heap) : Prop where
  preds : p.preds.Ok 3 32 Prd.enc PrdOk h
  rules : p.rules.Ok 5 72 Rul.enc RulOk h
structure FctOk (x : Fct) (_ : Heap) : Prop where
  pred : I64 x.pred
  a : I64 x.a
  b : I64 x.b
  v : I64 x.v
structure VrsOk (x : Vrs) (_ : Heap) : Prop where
  x0 : I64 x.x0
  x1 : I64 x.x1
  x2 : I64 x.x2
structure StpOk (x : Stp) (h : Heap) : Prop where
  rule : I64 x.rule
  vars : VrsOk x.vars h
theorem AtmOk.in_ {a : Atm} {h : Heap} (x : AtmOk a h) : a.In h := x.args.is
theorem RulOk.in_ {r : Rul} {h : Heap} (x : RulOk r h) : r.In h := ⟨x.head.in_, x.body.is, fun y hy => AtmOk.in_ (x.body.each y hy)⟩
theorem PrgOk.in_ {p : Prg} {h : Heap} (x : PrgOk p h) : p.In h := ⟨x.preds.is, x.rules.is, fun y hy => (x.rules.each y hy).in_⟩
theorem op_Trm : Opens Tryz.prog 109 Trm.enc TrmOk := fun H en W fuel cs x h hw => by
  have hl := op_len Tryz.underlying109 h
  rw [show Tryz.prog.cellsOf 109 = 2 by kernel_rfl] at hl
  obtain ⟨y0, e0, g0⟩ := op_field Tryz.underlying109 h hw 0 rfl (k := 1) (by kernel_rfl) (op_bool Tryz.underlying4)
  obtain ⟨y1, e1, g1⟩ := op_field Tryz.underlying109 h hw 1 rfl (k := 1) (by kernel_rfl) (op_int Tryz.underlying3)
  obtain ⟨c0, c1, rfl⟩ := len2 hl
  replace e0 : [c0] = _ := e0
  replace e1 : [c1] = _ := e1
  simp only [List.cons.injEq, and_true] at e0 e1
  exact ⟨⟨y0, y1⟩, by simp [*], g1⟩
theorem op_SlTrm : Opens Tryz.prog 59 (fun s : Sl Trm => [s.val]) (fun s h => s.Ok 2 16 Trm.enc TrmOk h) := op_slice Tryz.underlying59 (by kernel_rfl) (by kernel_rfl) (by decide) (by decide) op_Trm
theorem op_Prd : Opens Tryz.prog 53 Prd.enc PrdOk := fun H en W fuel cs x h hw => by
  have hl := op_len Tryz.underlying53 h
  rw [show Tryz.prog.cellsOf 53 = 3 by kernel_rfl] at hl
  obtain ⟨y0, e0, g0⟩ := op_field Tryz.underlying53 h hw 0 rfl (k := 1) (by kernel_rfl) (op_string Tryz.underlying9)
  obtain ⟨y1, e1, g1⟩ := op_field Tryz.underlying53 h hw 1 rfl (k := 1) (by kernel_rfl) (op_int Tryz.underlying3)
  obtain ⟨y2, e2, g2⟩ := op_field Tryz.underlying53 h hw 2 rfl (k := 1) (by kernel_rfl) (op_int Tryz.underlying3)
  obtain ⟨c0, c1, c2, rfl⟩ := len3 hl
  replace e0 : [c0] = _ := e0
  replace e1 : [c1] = _ := e1
  replace e2 : [c2] = _ := e2
  simp only [List.cons.injEq, and_true] at e0 e1 e2
  exact ⟨⟨y0, y1, y2⟩, by simp [*], ⟨g0, g1, g2⟩⟩
theorem op_SlPrd : Opens Tryz.prog 22 (fun s : Sl Prd => [s.val]) (fun s h => s.Ok 3 32 Prd.enc PrdOk h) := op_slice Tryz.underlying22 (by kernel_rfl) (by kernel_rfl) (by decide) (by decide) op_Prd
theorem op_Atm : Opens Tryz.prog 61 Atm.enc AtmOk := fun H en W fuel cs x h hw => by
  have hl := op_len Tryz.underlying61 h
  rw [show Tryz.prog.cellsOf 61 = 2 by kernel_rfl] at hl
  obtain ⟨y0, e0, g0⟩ := op_field Tryz.underlying61 h hw 0 rfl (k := 1) (by kernel_rfl) (op_int Tryz.underlying3)
  obtain ⟨y1, e1, g1⟩ := op_field Tryz.underlying61 h hw 1 rfl (k := 1) (by kernel_rfl) (op_SlTrm)
  obtain ⟨c0, c1, rfl⟩ := len2 hl
  replace e0 : [c0] = _ := e0
  replace e1 : [c1] = _ := e1
  simp only [List.cons.injEq, and_true] at e0 e1
  exact ⟨⟨y0, y1⟩, by simp [*], ⟨g0, g1⟩⟩
theorem op_Ltl : Opens Tryz.prog 68 Ltl.enc LtlOk := fun H en W fuel cs x h hw => by
  have hl := op_len Tryz.underlying68 h
  rw [show Tryz.prog.cellsOf 68 = 3 by kernel_rfl] at hl
  obtain ⟨y0, e0, g0⟩ := op_field Tryz.underlying68 h hw 0 rfl (k := 1) (by kernel_rfl) (op_bool Tryz.underlying4)
  obtain ⟨y1, e1, g1⟩ := op_field Tryz.underlying68 h hw 1 rfl (k := 2) (by kernel_rfl) (op_Atm)
  obtain ⟨c0, c1, c2, rfl⟩ := len3 hl
  replace e0 : [c0] = _ := e0
  replace e1 : [c1, c2] = _ := e1
  simp only [List.cons.injEq, and_true] at e0 e1
  exact ⟨⟨y0, y1⟩, by simp [*], g1⟩
theorem op_SlLtl : Opens Tryz.prog 62 (fun s : Sl Ltl => [s.val]) (fun s h => s.Ok 3 40 Ltl.enc LtlOk h) := op_slice Tryz.underlying62 (by kernel_rfl) (by kernel_rfl) (by decide) (by decide) op_Ltl
theorem op_Rul : Opens Tryz.prog 64 Rul.enc RulOk := fun H en W fuel cs x h hw => by
  have hl := op_len Tryz.underlying64 h
  rw [show Tryz.prog.cellsOf 64 = 5 by kernel_rfl] at hl
  obtain ⟨y0, e0, g0⟩ := op_field Tryz.underlying64 h hw 0 rfl (k := 2) (by kernel_rfl) (op_Atm)
  obtain ⟨y1, e1, g1⟩ := op_field Tryz.underlying64 h hw 1 rfl (k := 1) (by kernel_rfl) (op_int Tryz.underlying3)
  obtain ⟨y2, e2, g2⟩ := op_field Tryz.underlying64 h hw 2 rfl (k := 1) (by kernel_rfl) (op_int Tryz.underlying3)
  obtain ⟨y3, e3, g3⟩ := op_field Tryz.underlying64 h hw 3 rfl (k := 1) (by kernel_rfl) (op_SlLtl)
  obtain ⟨c0, c1, c2, c3, c4, rfl⟩ := len5 hl
  replace e0 : [c0, c1] = _ := e0
  replace e1 : [c2] = _ := e1
  replace e2 : [c3] = _ := e2
  replace e3 : [c4] = _ := e3
  simp only [List.cons.injEq, and_true] at e0 e1 e2 e3
  exact ⟨⟨y0, y1, y2, y3⟩, by simp [*], ⟨g0, g1, g2, g3⟩⟩
theorem op_SlRul : Opens Tryz.prog 23 (fun s : Sl Rul => [s.val]) (fun s h => s.Ok 5 72 Rul.enc RulOk h) := op_slice Tryz.underlying23 (by kernel_rfl) (by kernel_rfl) (by decide) (by decide) op_Rul
theorem op_Prg : Opens Tryz.prog 25 Prg.enc PrgOk := fun H en W fuel cs x h hw => by
  have hl := op_len Tryz.underlying25 h
  rw [show Tryz.prog.cellsOf 25 = 2 by kernel_rfl] at hl
  obtain ⟨y0, e0, g0⟩ := op_field Tryz.underlying25 h hw 0 rfl (k := 1) (by kernel_rfl) (op_SlPrd)
  obtain ⟨y1, e1, g1⟩ := op_field Tryz.underlying25 h hw 1 rfl (k := 1) (by kernel_rfl) (op_SlRul)
  obtain ⟨c0, c1, rfl⟩ := len2 hl
  replace e0 : [c0] = _ := e0
  replace e1 : [c1] = _ := e1
  simp only [List.cons.injEq, and_true] at e0 e1
  exact ⟨⟨y0, y1⟩, by simp [*], ⟨g0, g1⟩⟩
theorem op_Fct : Opens Tryz.prog 83 Fct.enc FctOk := fun H en W fuel cs x h hw => by
  have hl := op_len Tryz.underlying83 h
  rw [show Tryz.prog.cellsOf 83 = 4 by kernel_rfl] at hl
  obtain ⟨y0, e0, g0⟩ := op_field Tryz.underlying83 h hw 0 rfl (k := 1) (by kernel_rfl) (op_int Tryz.underlying3)
  obtain ⟨y1, e1, g1⟩ := op_field Tryz.underlying83 h hw 1 rfl (k := 1) (by kernel_rfl) (op_int Tryz.underlying3)
  obtain ⟨y2, e2, g2⟩ := op_field Tryz.underlying83 h hw 2 rfl (k := 1) (by kernel_rfl) (op_int Tryz.underlying3)
  obtain ⟨y3, e3, g3⟩ := op_field Tryz.underlying83 h hw 3 rfl (k := 1) (by kernel_rfl) (op_int Tryz.underlying3)
  obtain ⟨c0, c1, c2, c3, rfl⟩ := len4 hl
  replace e0 : [c0] = _ := e0
  replace e1 : [c1] = _ := e1
  replace e2 : [c2] = _ := e2
  replace e3 : [c3] = _ := e3
  simp only [List.cons.injEq, and_true] at e0 e1 e2 e3
  exact ⟨⟨y0, y1, y2, y3⟩, by simp [*], ⟨g0, g1, g2, g3⟩⟩
theorem op_SlFct : Opens Tryz.prog 31 (fun s : Sl Fct => [s.val]) (fun s h => s.Ok 4 32 Fct.enc FctOk h) := op_slice Tryz.underlying31 (by kernel_rfl) (by kernel_rfl) (by decide) (by decide) op_Fct
end Go.TF
end
section
/- What a row's listed variables hold: a table of numbers. -/
namespace Go.TF
open Go Go.RowKit

theorem laid_ints {P : Program} {n : String} {k : IntKind} {zs : List Int} {r : List (String × DataW Unit)} {W : World} {g : Nat} {t e : TypeId} (h : laidMet P ((n, .agg (zs.map fun z => .lit (.int k z))) :: r) W)
    (hg : P.globalNamed n = some g) (ht : (P.globals[g]?).map (·.type) = some t) (hu : P.underlying t = some (.array zs.length e)) (he : P.underlying e = some (.int k)) (hce : P.cellsOf e = 1) (hct : P.cellsOf t = zs.length) :
    ∃ T f, W.heap[g]? = some (.cells (zs.map fun z => Value.int k z).toArray T f) := by
  obtain ⟨ps, ⟨g0, t0, cs, fuel, p, q, hg0, ht0, hv, hd, _, _⟩, _, _⟩ := h
  obtain rfl := Option.some.inj (hg.symm.trans hg0)
  obtain rfl := Option.some.inj (ht.symm.trans ht0)
  obtain ⟨xs, m, _, ex, hl, hxl, hel⟩ := DataW.trod_array hu hd
  have e3 : (xs.map (·.1)) = zs.map fun z => (.lit (.int k z) : DataW Unit) := (DataW.agg.inj (Prod.mk.inj ex).1).symm
  have key : cs.toList = zs.map fun z => Value.int k z := by
    refine List.ext_getElem? fun i => ?_
    by_cases hi : i < zs.length
    · have hE := hel i hi
      rw [hce, Nat.mul_one, List.getElem?_eq_getElem (by omega)] at hE
      obtain ⟨z, e1, e2, _⟩ := DataW.trod_int he hE
      have e4 : (xs.map (·.1))[i]? = (zs.map fun z => (.lit (.int k z) : DataW Unit))[i]? := by rw [e3]
      rw [List.getElem?_map, List.getElem?_map, List.getElem?_eq_getElem (by omega : i < xs.length), List.getElem?_eq_getElem hi, e2] at e4
      simp only [Option.map_some, Option.some.injEq, DataW.lit.injEq, Lit.int.injEq, true_and] at e4
      have h0 : ((cs.toList.drop i).take 1)[0]? = some (.int k z) := by rw [e1]; rfl
      rw [List.getElem?_map, List.getElem?_eq_getElem hi, Option.map_some, ← e4]
      simpa using h0
    · rw [List.getElem?_eq_none (by omega), List.getElem?_eq_none (by rw [List.length_map]; omega)]
  unfold World.var? at hv
  rw [hg, Option.bind_some] at hv
  split at hv
  · rename_i c T f hb
    injection hv with hv
    subst hv
    exact ⟨T, f, by rw [hb, ← key]⟩
  · cases hv
end Go.TF
end
