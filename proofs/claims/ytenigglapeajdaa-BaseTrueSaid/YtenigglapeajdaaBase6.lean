/- Regions that draw their order and only read or call quietly: one walk in the order of the text. -/
import Derived.Test.YtenigglapeajdaaBase5
import Derived.Deep.Quiet
namespace Go.TF
open Go Go.RowKit

/-- Operations that yield one value in every world of the class C. -/
def OpsQ (P : Program) (full : Array Oper) (C : World → Prop) : List Oper → Env → (Env → Prop) → Prop
  | [], e, K => K e
  | o :: rest, e, K => if runs full e o then ∃ v, (∀ w, C w → Oper.quietUpon P C w v ((execOp (ev e) o).run P w)) ∧ OpsQ P full C rest (updo e o.dst v) K else OpsQ P full C rest (updo e o.dst undef) K
theorem OpsQ.sound {P : Program} {full : Array Oper} {C : World → Prop} {N : Nat} {D : List Deferred} : ∀ (l : List Oper) (a : Act) (K : Env → Prop) (Q : Act → Prop),
    dstsOk N l = true → a.tmps.size = N → a.defers = D → (∀ a', a'.tmps.size = N → a'.defers = D → K (env a') → Q a') → OpsQ P full C l (env a) K → wpQuiet P full C Q l a
  | [], a, K, Q, _, hs, hd, hK, h => by simp only [OpsQ] at h; exact hK _ hs hd h
  | o :: rest, a, K, Q, hds, hs, hd, hK, h => by
    simp only [dstsOk, List.all_cons, Bool.and_eq_true] at hds
    have hput : ∀ v, env (a.put o.dst v) = updo (env a) o.dst v := fun v => env_puto a o.dst v (by rw [hs]; exact hds.1)
    simp only [wpQuiet, wanted_env]
    simp only [OpsQ] at h
    split
    · rename_i hr
      rw [if_pos hr] at h
      obtain ⟨v, h1, h2⟩ := h
      refine ⟨v, fun w hw => ?_, ?_⟩
      · unfold Oper.quietAt; rw [eval_env]; exact h1 w hw
      · rw [← hput] at h2
        exact OpsQ.sound rest _ K Q hds.2 (by rw [size_put, hs]) (by rw [defers_put, hd]) hK h2
    · rename_i hr
      rw [if_neg hr] at h
      rw [← hput] at h
      exact OpsQ.sound rest _ K Q hds.2 (by rw [size_put, hs]) (by rw [defers_put, hd]) hK h
abbrev Mixed (P : Program) : Prop := P.follows .mixedOrders = true
theorem WP.regionQ {P : Program} {N : Nat} {D : List Deferred} {e : Env} {w : World} {Q : Exit → Env → World → Prop} {id : Nat} {ops : Array Oper} {B : Base} {h : Heap} {M : List SA} (hm : Mixed P) (I : Inv B h M w) (hB : Region.lexB .any ops = true)
    (k : OpsQ P ops (Inv B h M) ops.toList e (fun e' => ∀ w', Inv B h M w' → Q .normal e' w')) : WP P N D (.region id ops true) e w Q := by
  intro hs a h1 h2 h3
  subst h3
  refine wp_region_quiet (C := Inv B h M) hm hB I.drew ?_
  exact OpsQ.sound _ a _ _ hs h1 h2 (fun a' g1 g2 g3 w' hw' => ⟨g1, g2, g3 w' hw'⟩) k

section
variable {P : Program} {full : Array Oper} {rest : List Oper} {e : Env} {K : Env → Prop} {C : World → Prop}
theorem OpsQ.nil (h : K e) : OpsQ P full C [] e K := h
theorem OpsQ.y {d : Nat} {op : Op} {t : TypeId} {pos : String} {af : Array Edge} {v : Value} (hy : ∀ w, C w → Y P ⟨some d, op, t, pos, af, none⟩ e w v) (h : OpsQ P full C rest (upd e d v) K) :
    OpsQ P full C (⟨some d, op, t, pos, af, none⟩ :: rest) e K := by
  simp only [OpsQ, runs, if_true]
  exact ⟨v, fun w hw => by rw [hy w hw]; exact ⟨rfl, rfl⟩, h⟩
theorem OpsQ.ygt {d : Nat} {op : Op} {t : TypeId} {pos : String} {af : Array Edge} {v : Value} {j : Nat} {b : Bool} (hg : yieldE full e j = some b) (hy : ∀ w, C w → Y P ⟨some d, op, t, pos, af, some (j, b)⟩ e w v) (h : OpsQ P full C rest (upd e d v) K) :
    OpsQ P full C (⟨some d, op, t, pos, af, some (j, b)⟩ :: rest) e K := by
  simp only [OpsQ, runs, hg, beq_self_eq_true, if_true]
  exact ⟨v, fun w hw => by rw [hy w hw]; exact ⟨rfl, rfl⟩, h⟩
theorem OpsQ.gf {d : Nat} {op : Op} {t : TypeId} {pos : String} {af : Array Edge} {j : Nat} {b : Bool} (hg : (yieldE full e j == some b) = false) (h : OpsQ P full C rest (upd e d undef) K) :
    OpsQ P full C (⟨some d, op, t, pos, af, some (j, b)⟩ :: rest) e K := by simpa [OpsQ, runs, hg, updo] using h
/-- A quiet call: it hands back r, whatever the world. -/
def QC (P : Program) (C : World → Prop) (o : Oper) (e : Env) (w : World) (v : Value) : Prop := Oper.quietUpon P C w v ((execOp (ev e) o).run P w)
theorem OpsQ.c {d : Nat} {op : Op} {t : TypeId} {pos : String} {af : Array Edge} {v : Value} (hy : ∀ w, C w → QC P C ⟨some d, op, t, pos, af, none⟩ e w v) (h : OpsQ P full C rest (upd e d v) K) :
    OpsQ P full C (⟨some d, op, t, pos, af, none⟩ :: rest) e K := by
  simp only [OpsQ, runs, if_true]
  exact ⟨v, hy, h⟩
theorem OpsQ.cgt {d : Nat} {op : Op} {t : TypeId} {pos : String} {af : Array Edge} {v : Value} {j : Nat} {b : Bool} (hg : yieldE full e j = some b) (hy : ∀ w, C w → QC P C ⟨some d, op, t, pos, af, some (j, b)⟩ e w v) (h : OpsQ P full C rest (upd e d v) K) :
    OpsQ P full C (⟨some d, op, t, pos, af, some (j, b)⟩ :: rest) e K := by
  simp only [OpsQ, runs, hg, beq_self_eq_true, if_true]
  exact ⟨v, hy, h⟩
theorem QC.callv {B : Base} {h : Heap} {M : List SA} {w : World} {d : Option Nat} {t : TypeId} {pos : String} {af : Array Edge} {g : Option (Nat × Bool)} {f : FuncId} {args : Array Operand} {ts : Array TypeId} {vs : List Value} {r : Value}
    (I : Inv B h M w) (hf : Enters P f) (hfn : Fn P f vs ⟨w, h⟩ (fun v _ => v = r)) (ha : args.toList.map (ev e) = vs) : QC P (Inv B h M) ⟨d, .call { callee := .value (.func f), args := args, argTypes := ts }, t, pos, af, g⟩ e w r := by
  have ha' : args.map (ev e) = vs.toArray := by rw [← ha]; apply Array.ext'; simp
  have : (execOp (ev e) ⟨d, .call { callee := .value (.func f), args := args, argTypes := ts }, t, pos, af, g⟩).run P w = .ok (.enter f vs.toArray) w := by
    simp [execOp, resolve, ev, Deferred.ofValue, invoke, ha', hf]
  unfold QC
  rw [this]
  refine ⟨rfl, Calls.mono hfn ?_⟩
  rintro x w' ⟨v, h', rfl, X, rfl⟩
  exact ⟨rfl, I.grow X.below⟩
end
end Go.TF
