/- Operations that make or write memory; calls; a function's contract. -/
import Derived.Test.YtenigglapeajdaaBase3
namespace Go.TF
open Go Go.RowKit

theorem Inv.alloc {B : Base} {h : Heap} {M : List SA} {w : World} (I : Inv B h M w) (cs : List Value) (T : TypeId) : Inv B h (box w.heap.size cs T :: M) (w.alloc (.cells cs.toArray T)) :=
  I.gain (Grow.alloc w _) (heap_alloc_new w _) (fun b hb => by simp [box] at hb; subst hb; simp)

def putAt (cs : List Value) : Nat → List Value → List Value
  | 0, vs => vs ++ cs.drop vs.length
  | o + 1, vs => match cs with
    | [] => vs
    | c :: r => c :: putAt r o vs
theorem putAt_eq : ∀ (cs : List Value) (o : Nat) (vs : List Value), o ≤ cs.length → putAt cs o vs = cs.take o ++ vs ++ cs.drop (o + vs.length)
  | cs, 0, vs, _ => by simp [putAt]
  | [], o + 1, vs, h => by simp at h
  | c :: r, o + 1, vs, h => by
    simp only [putAt, putAt_eq r o vs (by simpa using h), List.take_succ_cons, List.cons_append]
    congr 2
    rw [show o + 1 + vs.length = (o + vs.length) + 1 by omega, List.drop_succ_cons]
def oneCells (vs : List Value) : Bool := vs.all (·.oneCell')
theorem run_storeCells_box (P : Program) {w : World} {b : Nat} {cs : List Value} {T : TypeId} (hb : w.heap[b]? = some (.cells cs.toArray T (0, 0))) (o : Nat) (vs : List Value) (h1 : oneCells vs = true) (hl : o + vs.length ≤ cs.length) :
    (storeCells ⟨b, o, none⟩ vs).run P w = .ok () (w.setRow b (putAt cs o vs).toArray) := by
  have := run_storeCells_at P b o T vs 0 cs.toArray w hb (by simpa using hl) (by simpa [oneCells] using h1)
  rw [putAt_eq cs o vs (by omega)]
  simpa using this
theorem Inv.stepAt {B : Base} {h : Heap} {M : List SA} {w w' : World} (I : Inv B h M w) (n : Nat) {A A' : SA} (hn : M[n]? = some A) (hos : w'.os = w.os) (ht : w'.tape = w.tape) (ho : w'.output = w.output) (hs : w.heap.size ≤ w'.heap.size)
    (hb : ∀ b, b < w.heap.size → b ∉ A.fp → w'.heap[b]? = w.heap[b]?) (hA : A'.P w') (hf : ∀ b ∈ A'.fp, (b ∈ A.fp ∨ w.heap.size ≤ b) ∧ b < w'.heap.size) : Inv B h (M.set n A') w' := by
  have I1 := (I.front n hn).step hos ht ho hs hb hA hf
  refine I1.perm ?_
  obtain ⟨hlt, _⟩ := List.getElem?_eq_some_iff.1 hn
  have := perm_front (M.set n A') n (by simpa using hlt)
  simpa [List.eraseIdx_set_eq] using this.symm
theorem Inv.putBox {B : Base} {h : Heap} {M : List SA} {w : World} (I : Inv B h M w) (n : Nat) {b : Nat} {cs : List Value} {T : TypeId} (hn : M[n]? = some (box b cs T)) (cs' : List Value) :
    Inv B h (M.set n (box b cs' T)) (w.setRow b cs'.toArray) := by
  have hb : w.heap[b]? = some (.cells cs.toArray T (0, 0)) := I.at n hn
  refine I.stepAt n hn rfl rfl rfl (by simp) (fun k _ hk' => setRow_other w b k _ (fun e => hk' (by simp [box, e]))) (setRow_heap w b cs.toArray cs'.toArray T (0, 0) hb) (fun k hk => ?_)
  simp [box] at hk
  subst hk
  exact ⟨.inl (by simp [box]), by simpa using (Array.getElem?_eq_some_iff.1 hb).1⟩

/-- A function's contract: called so, it returns; what is handed back and what is then known for good is told. -/
def Fn (P : Program) (f : FuncId) (args : List Value) (B : Base) (Post : Value → Heap → Prop) : Prop :=
  Calls P f args.toArray B.w fun x w' => ∃ v h', x = .returned v ∧ Ext B w' h' ∧ Post v h'
theorem Fn.mono {P : Program} {f : FuncId} {args : List Value} {B : Base} {Post Post' : Value → Heap → Prop} (h : Fn P f args B Post) (hp : ∀ v h', B.h.le h' → Post v h' → Post' v h') : Fn P f args B Post' :=
  Calls.mono h fun _ _ ⟨v, h', e, X, p⟩ => ⟨v, h', e, X, hp v h' X.ext p⟩
abbrev Enters (P : Program) (f : FuncId) : Prop := ∀ args w, (callFunc f args).run P w = .ok (.enter f args) w

section
variable {P : Program} {full : Array Oper} {rest : List Oper} {e : Env} {w : World} {K : Env → World → Prop} {B : Base} {h : Heap} {M : List SA}
variable {t : TypeId} {pos : String} {af : Array Edge} {g : Option (Nat × Bool)}
theorem O.alloc {d : Option Nat} {T : TypeId} {v : Value} {cs : List Value} {K : Value → World → Prop} (I : Inv B h M w) (hz : Zero P T v) (hc : v.cells = cs.toArray)
    (k : ∀ b w', Inv B h (box b cs T :: M) w' → K (.pointer (some ⟨b, 0, none⟩)) w') : Op1 P ⟨d, .alloc T, t, pos, af, g⟩ e w K := by
  have : (execOp (ev e) ⟨d, .alloc T, t, pos, af, g⟩).run P w = .ok (.value (.pointer (some ⟨w.heap.size, 0, none⟩))) (w.alloc (.cells cs.toArray T)) := by
    simp [execOp, Instr.alloc, hz w, newVar, newRow, hc]
  unfold Op1
  rw [this]
  exact k _ _ (I.alloc cs T)
theorem O.box {d : Option Nat} {T : TypeId} {x : Operand} {v : Value} {cs : List Value} {K : Value → World → Prop} (I : Inv B h M w) (hx : ev e x = v) (hc : v.cells = cs.toArray)
    (k : ∀ b w', Inv B h (box b cs T :: M) w' → K (.pointer (some ⟨b, 0, none⟩)) w') : Op1 P ⟨d, .box T x, t, pos, af, g⟩ e w K := by
  have : (execOp (ev e) ⟨d, .box T x, t, pos, af, g⟩).run P w = .ok (.value (.pointer (some ⟨w.heap.size, 0, none⟩))) (w.alloc (.cells cs.toArray T)) := by
    simp [execOp, Instr.box, hx, newVar, newRow, hc]
  unfold Op1
  rw [this]
  exact k _ _ (I.alloc cs T)
theorem O.store {d : Option Nat} {T T' : TypeId} {a x : Operand} {v : Value} {b o m : Nat} {ag : Bool} {cs vs cs' : List Value} {K : Value → World → Prop} (I : Inv B h M w) (hT : Ty P T m ag) (n : Nat) (hn : M[n]? = some (TF.box b cs T'))
    (ha : ev e a = .pointer (some ⟨b, o, none⟩)) (hx : ev e x = v) (hv : v.cells = vs.toArray) (hl : vs.length = m) (h1 : oneCells vs = true) (hf : o + vs.length ≤ cs.length) (hp : putAt cs o vs = cs')
    (k : ∀ w', Inv B h (M.set n (TF.box b cs' T')) w' → K undef w') : Op1 P ⟨d, .store T a x, t, pos, af, g⟩ e w K := by
  have hb : w.heap[b]? = some (.cells cs.toArray T' (0, 0)) := I.at n hn
  have : (execOp (ev e) ⟨d, .store T a x, t, pos, af, g⟩).run P w = .ok .skip (w.setRow b cs'.toArray) := by
    subst hp
    simp [execOp, Instr.storeAt, Instr.sureAddr, ha, hx, storeVar, hv, hT.size, hl, run_storeCells_box P hb o vs h1 hf]
  unfold Op1
  rw [this]
  exact k _ (I.putBox n hn cs')
theorem O.call {d : Option Nat} {f : FuncId} {args : Array Operand} {ts : Array TypeId} {vs : List Value} {Post : Value → Heap → Prop} {K : Value → World → Prop} (I : Inv B h M w) (hf : Enters P f) (hfn : Fn P f vs ⟨w, h⟩ Post)
    (ha : args.toList.map (ev e) = vs) (k : ∀ v h' w', Inv B h' M w' → h.le h' → Post v h' → K v w') : Op1 P ⟨d, .call { callee := .value (.func f), args := args, argTypes := ts }, t, pos, af, g⟩ e w K := by
  have ha' : args.map (ev e) = vs.toArray := by rw [← ha]; apply Array.ext'; simp
  have : (execOp (ev e) ⟨d, .call { callee := .value (.func f), args := args, argTypes := ts }, t, pos, af, g⟩).run P w = .ok (.enter f vs.toArray) w := by
    simp [execOp, resolve, ev, Deferred.ofValue, invoke, ha', hf]
  unfold Op1
  rw [this]
  refine Calls.mono hfn ?_
  rintro x w' ⟨v, h', rfl, X, hp⟩
  exact k v h' w' (I.called X) X.ext hp
/-- A call of a function value. -/
theorem O.callc {d : Option Nat} {x : Operand} {f : FuncId} {fs cs : List Value} {args : Array Operand} {ts : Array TypeId} {vs : List Value} {Post : Value → Heap → Prop} {K : Value → World → Prop} (I : Inv B h M w) (hf : Enters P f)
    (hx : ev e x = .func (.func f) fs.toArray cs.toArray) (hfn : Fn P f vs ⟨w, h⟩ Post)
    (ha : fs ++ args.toList.map (ev e) ++ cs = vs) (k : ∀ v h' w', Inv B h' M w' → h.le h' → Post v h' → K v w') : Op1 P ⟨d, .call { callee := .value x, args := args, argTypes := ts }, t, pos, af, g⟩ e w K := by
  have ha' : fs.toArray ++ args.map (ev e) ++ cs.toArray = vs.toArray := by rw [← ha]; apply Array.ext'; simp
  have : (execOp (ev e) ⟨d, .call { callee := .value x, args := args, argTypes := ts }, t, pos, af, g⟩).run P w = .ok (.enter f vs.toArray) w := by
    simp only [execOp, resolve, hx, Deferred.ofValue]
    simp [invoke, ha', hf]
  unfold Op1
  rw [this]
  refine Calls.mono hfn ?_
  rintro y w' ⟨v, h', rfl, X, hp⟩
  exact k v h' w' (I.called X) X.ext hp
theorem O.callcv {d : Option Nat} {x : Operand} {f : FuncId} {fs cs : List Value} {args : Array Operand} {ts : Array TypeId} {vs : List Value} {r : Value} {K : Value → World → Prop} (I : Inv B h M w) (hf : Enters P f)
    (hx : ev e x = .func (.func f) fs.toArray cs.toArray) (hfn : Fn P f vs ⟨w, h⟩ (fun v _ => v = r))
    (ha : fs ++ args.toList.map (ev e) ++ cs = vs) (k : ∀ w', Inv B h M w' → K r w') : Op1 P ⟨d, .call { callee := .value x, args := args, argTypes := ts }, t, pos, af, g⟩ e w K := by
  have ha' : fs.toArray ++ args.map (ev e) ++ cs.toArray = vs.toArray := by rw [← ha]; apply Array.ext'; simp
  have : (execOp (ev e) ⟨d, .call { callee := .value x, args := args, argTypes := ts }, t, pos, af, g⟩).run P w = .ok (.enter f vs.toArray) w := by
    simp only [execOp, resolve, hx, Deferred.ofValue]
    simp [invoke, ha', hf]
  unfold Op1
  rw [this]
  refine Calls.mono hfn ?_
  rintro y w' ⟨v, h', rfl, X, rfl⟩
  exact k w' (I.grow X.below)
theorem O.callv {d : Option Nat} {f : FuncId} {args : Array Operand} {ts : Array TypeId} {vs : List Value} {r : Value} {K : Value → World → Prop} (I : Inv B h M w) (hf : Enters P f) (hfn : Fn P f vs ⟨w, h⟩ (fun v _ => v = r))
    (ha : args.toList.map (ev e) = vs) (k : ∀ w', Inv B h M w' → K r w') : Op1 P ⟨d, .call { callee := .value (.func f), args := args, argTypes := ts }, t, pos, af, g⟩ e w K := by
  have ha' : args.map (ev e) = vs.toArray := by rw [← ha]; apply Array.ext'; simp
  have : (execOp (ev e) ⟨d, .call { callee := .value (.func f), args := args, argTypes := ts }, t, pos, af, g⟩).run P w = .ok (.enter f vs.toArray) w := by
    simp [execOp, resolve, ev, Deferred.ofValue, invoke, ha', hf]
  unfold Op1
  rw [this]
  refine Calls.mono hfn ?_
  rintro x w' ⟨v, h', rfl, X, rfl⟩
  exact k w' (I.grow X.below)
end

/-! ### A function -/
def RV (P : Program) (e : Env) (w : World) : List ResultVar → List Value → Prop
  | [], [] => True
  | .tmp t :: rs, v :: vs => e t = v ∧ RV P e w rs vs
  | .cell a T :: rs, v :: vs => (∃ b o n ag cs, e a = .pointer (some ⟨b, o, none⟩) ∧ Ty P T n ag ∧ Rd w b o cs ∧ cs.length = n ∧ ldv ag cs = v) ∧ RV P e w rs vs
  | _, _ => False
def tup : List Value → Value
  | [v] => v
  | vs => .tuple vs.toArray
theorem mapM_rv {P : Program} {a : Act} {w : World} {F : ResultVar → Sem Value} (h0 : ∀ t, F (.tmp t) = pure (a.tmps.getD t undef)) (h1 : ∀ p T, F (.cell p T) = (do loadVar T (← asAddr (a.tmps.getD p undef)))) :
    ∀ (rs : List ResultVar) (vs : List Value), RV P (env a) w rs vs → (rs.mapM F).run P w = .ok vs w
  | [], [], _ => by simp
  | [], _ :: _, h => h.elim
  | .tmp _ :: _, [], h => h.elim
  | .cell _ _ :: _, [], h => h.elim
  | .tmp t :: rs, v :: vs, h => by
    have ih := mapM_rv h0 h1 rs vs h.2
    have e1 : a.tmps.getD t undef = v := h.1
    simp only [List.mapM_cons, h0, e1, Sem.run_bind, Sem.run_pure, Result.andThen_ok, ih]
  | .cell p T :: rs, v :: vs, h => by
    have ih := mapM_rv h0 h1 rs vs h.2
    obtain ⟨⟨b, o, n, ag, cs, g1, g2, g3, g4, g5⟩, _⟩ := h
    have e1 : asAddr (a.tmps.getD p undef) = pure ⟨b, o, none⟩ := by rw [show a.tmps.getD p undef = .pointer (some ⟨b, o, none⟩) from g1]; rfl
    simp only [List.mapM_cons, h1, e1, Sem.run_bind, Sem.run_pure, Result.andThen_ok, loadVar_run g2 g3 g4, g5, ih]
theorem results_run {P : Program} {fn : Func} {a : Act} {w : World} {rs : List ResultVar} {vs : List Value} (hr : fn.results.toList = rs) (h : RV P (env a) w rs vs) : (results fn a.tmps).run P w = .ok (tup vs) w := by
  have hr' : fn.results = rs.toArray := by rw [← hr]
  unfold results
  rw [hr', List.mapM_toArray, Sem.run_bind, Sem.run_map, mapM_rv (fun _ => rfl) (fun _ _ => rfl) rs vs h]
  simp only [Result.andThen_ok]
  match vs with
  | [] => rfl
  | [v] => rfl
  | _ :: _ :: _ => rfl
/-- What a function owes at its end. -/
def retQ (P : Program) (fn : Func) (B : Base) (Post : Value → Heap → Prop) : Exit → Env → World → Prop
  | .ret, e, w | .normal, e, w => ∃ vs h', RV P e w fn.results.toList vs ∧ Ext B w h' ∧ Post (tup vs) h'
  | _, _, _ => False
theorem retQ.mk {P : Program} {fn : Func} {B : Base} {Post : Value → Heap → Prop} {e : Env} {w : World} {rs : List ResultVar} {vs : List Value} {h : Heap} (hr : fn.results.toList = rs) (hv : RV P e w rs vs) (X : Ext B w h) (hp : Post (tup vs) h) :
    retQ P fn B Post .ret e w := ⟨vs, h, by rw [hr]; exact hv, X, hp⟩
theorem retQ.fin {P : Program} {fn : Func} {B : Base} {Post : Value → Heap → Prop} {e : Env} {w : World} {rs : List ResultVar} {vs : List Value} {h : Heap} (hr : fn.results.toList = rs) (hv : RV P e w rs vs) (X : Ext B w h) (hp : Post (tup vs) h) :
    retQ P fn B Post .normal e w := ⟨vs, h, by rw [hr]; exact hv, X, hp⟩

/-- A cut: what the slots hold, and what is known of the world, between a piece of code and the rest. -/
theorem WP.cutK {P : Program} {N : Nat} {D : List Deferred} {e : Env} {w : World} {Q : Exit → Env → World → Prop} {x : Code} {K : Env → World → Prop} {σ : Type} (kv : σ → List (Nat × Value)) (J : σ → World → Prop)
    (hx : WP P N D x e w (thenE (fun e' w' => ∃ s, Has e' (kv s) ∧ J s w') Q)) (hy : ∀ s e' w', J s w' → K (E e' (kv s)) w') : WP P N D x e w (thenE K Q) := by
  refine hx.mono ?_
  intro x e' w' h
  cases x <;> first | exact h | skip
  obtain ⟨s, h1, h2⟩ := h
  have := hy s e' w' h2
  rwa [E_self h1] at this
theorem WP.cutL {P : Program} {N : Nat} {D : List Deferred} {e : Env} {w : World} {Q : Exit → Env → World → Prop} {x : Code} {σ : Type} (kv : σ → List (Nat × Value)) (J : σ → World → Prop)
    (hx : WP P N D x e w (thenE (fun e' w' => ∃ s, Has e' (kv s) ∧ J s w') Q)) (hy : ∀ s e' w', J s w' → Q .normal (E e' (kv s)) w') : WP P N D x e w Q := by
  refine hx.mono ?_
  intro x e' w' h
  cases x <;> first | exact h | skip
  obtain ⟨s, h1, h2⟩ := h
  have := hy s e' w' h2
  rwa [E_self h1] at this
def argsE : Nat → List Value → List (Nat × Value)
  | _, [] => []
  | i, v :: r => (i, v) :: argsE (i + 1) r
theorem has_args {e : Env} : ∀ (vs : List Value) (i : Nat), (∀ j v, vs[j]? = some v → e (i + j) = v) → Has e (argsE i vs)
  | [], _, _ => trivial
  | v :: r, i, h => ⟨h 0 v rfl, has_args r (i + 1) fun j u hu => by have := h (j + 1) u (by simpa using hu); rwa [show i + (j + 1) = i + 1 + j by omega] at this⟩
theorem Fn.of {P : Program} {f : FuncId} {fn : Func} {c : Code} {N : Nat} {args : List Value} {B : Base} {Post : Value → Heap → Prop} (hf : P.funcs[f]? = some fn) (hb : fn.body = some c) (hN : fn.ntmps = N) (hs : slotsOk N c = true)
    (hl : args.length ≤ N) (h : ∀ e, WP P N [] c (E e (argsE 0 args)) B.w (retQ P fn B Post)) : Fn P f args B Post := by
  refine calls_of_wp hf hb ?_
  subst hN
  refine wp_mono (h _ hs { tmps := args.toArray ++ Array.replicate (fn.ntmps - args.toArray.size) undef, defers := [] } (by simp; omega) rfl (E_self (has_args args 0 fun j v hv => ?_)).symm) ?_
  · have hj := (List.getElem?_eq_some_iff.1 hv).1
    have hg : args[j] = v := (List.getElem?_eq_some_iff.1 hv).2
    simp [env, Array.getD_eq_getD_getElem?, Array.getElem?_append, hj, hg]
  · rintro x a' w' ⟨_, g2, g3⟩
    cases x <;> simp only [retQ] at g3 <;> first | exact g3.elim | skip
    all_goals
      obtain ⟨vs, h', hv, X, hp⟩ := g3
      exact ⟨g2, _, results_run rfl hv, _, _, rfl, X, hp⟩
end Go.TF
