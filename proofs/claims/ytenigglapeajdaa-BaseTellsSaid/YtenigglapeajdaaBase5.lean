/- More laws of operations: tests that are known, loads, located slices, structs as values. -/
import Derived.Test.YtenigglapeajdaaBase4
namespace Go.TF
open Go Go.RowKit

/-- A slice as it lies: where, its capacity, its elements. -/
structure Sl (α : Type) where
  at_ : Option Addr
  cap : Nat
  xs : List α
@[reducible] def Sl.val {α : Type} (s : Sl α) : Value := .slice s.at_ s.xs.length s.cap
def Sl.blk {α : Type} (s : Sl α) : Nat := (s.at_.getD default).block
def Sl.off {α : Type} (s : Sl α) : Nat := (s.at_.getD default).off
/-- Element i of a slice whose elements take k cells each is x, and is known for good. -/
structure El {α : Type} (s : Sl α) (k : Nat) (enc : α → List Value) (h : Heap) (i : Nat) (x : α) : Prop where
  at_ : s.at_ = some ⟨s.blk, s.off, none⟩
  rd : RdH h s.blk (s.off + i * k) (enc x)
  lt : i < s.xs.length
  get : s.xs[i]? = some x
def Sl.In {α : Type} (s : Sl α) (k : Nat) (enc : α → List Value) (h : Heap) : Prop := ∀ i x, s.xs[i]? = some x → s.at_ = some ⟨s.blk, s.off, none⟩ ∧ RdH h s.blk (s.off + i * k) (enc x)
theorem Sl.In.el {α : Type} {s : Sl α} {k : Nat} {enc : α → List Value} {h : Heap} (hs : s.In k enc h) {i : Nat} {x : α} (hx : s.xs[i]? = some x) : El s k enc h i x :=
  ⟨(hs i x hx).1, (hs i x hx).2, (List.getElem?_eq_some_iff.1 hx).1, hx⟩
theorem Sl.In.le {α : Type} {s : Sl α} {k : Nat} {enc : α → List Value} {h h' : Heap} (hs : s.In k enc h) (hl : h.le h') : s.In k enc h' := fun i x hx => ⟨(hs i x hx).1, (hs i x hx).2.le hl⟩
theorem El.le {α : Type} {s : Sl α} {k : Nat} {enc : α → List Value} {h h' : Heap} {i : Nat} {x : α} (hs : El s k enc h i x) (hl : h.le h') : El s k enc h' i x := ⟨hs.at_, hs.rd.le hl, hs.lt, hs.get⟩

def Fd (P : Program) (T i ft off : Nat) : Prop := ∃ fs f, P.underlying T = some (.struct fs) ∧ fs[i]? = some f ∧ f.type = ft ∧ f.offset = off
def Pl (P : Program) (T : Nat) (ps : List (Nat × Nat)) : Prop := ∃ fs, P.underlying T = some (.struct fs) ∧ ∀ w, (fs.mapM (m := Sem) fun f => do pure (f.offset, ← sizeOf f.type)).run P w = .ok ps.toArray w

theorem part_run {P : Program} {el k o : Nat} {ag : Bool} (hk : Ty P el k ag) {cs part : List Value} (hp : (cs.drop o).take k = part) (hl : part.length = k) (w : World) : (Go.part el cs.toArray o).run P w = .ok (ldv ag part) w := by
  subst hp
  cases ag with
  | true => simp [Go.part, hk.agg, hk.size, ldv]
  | false =>
    have := hk.one rfl
    subst this
    cases hh : cs[o]? with
    | none => simp [List.drop_eq_nil_of_le (List.getElem?_eq_none_iff.1 hh)] at hl
    | some v =>
      have : (cs.drop o).take 1 = [v] := by
        obtain ⟨h2, h3⟩ := List.getElem?_eq_some_iff.1 hh
        rw [List.drop_eq_getElem_cons h2, h3]; rfl
      simp [Go.part, hk.agg, hh, ldv, this]

/-- A struct's cells filled in, on lists. -/
def cellsL : Value → List Value
  | .agg cs => cs.toList
  | v => [v]
theorem cells_eq (v : Value) : v.cells = (cellsL v).toArray := by cases v <;> rfl
def fillL (place : Nat → Option (Nat × Nat)) : List Value → List (Nat × Value) → Option (List Value)
  | cs, [] => some cs
  | cs, (i, v) :: rest =>
    match place i with
    | none => none
    | some (off, size) => bif Nat.beq (cellsL v).length size && Nat.ble (off + (cellsL v).length) cs.length then fillL place (putAt cs off (cellsL v)) rest else none
theorem foldl_set (vs : List Value) : ∀ (cs : List Value) (off s : Nat), off + s + vs.length ≤ cs.length →
    ((vs.zipIdx s).foldl (fun (a : Array Value) (p : Value × Nat) => a.setIfInBounds (off + p.2) p.1) cs.toArray) = (putAt cs (off + s) vs).toArray := by
  induction vs with
  | nil => intro cs off s h; rw [putAt_eq cs _ [] (by simpa using h)]; simp
  | cons v vs ih =>
    intro cs off s h
    simp only [List.length_cons] at h
    simp only [List.zipIdx_cons, List.foldl_cons]
    rw [show cs.toArray.setIfInBounds (off + s) v = (cs.set (off + s) v).toArray by simp, ih (cs.set (off + s) v) off (s + 1) (by simp; omega)]
    rw [putAt_eq _ _ vs (by simp; omega), putAt_eq _ _ (v :: vs) (by omega)]
    congr 1
    apply List.ext_getElem?
    intro i
    simp only [List.getElem?_append, List.length_append, List.length_take, List.length_set, List.length_cons]
    simp only [List.getElem?_take, List.getElem?_drop, List.getElem?_set, List.getElem?_cons]
    have hm1 : min (off + (s + 1)) cs.length = off + s + 1 := by omega
    have hm2 : min (off + s) cs.length = off + s := by omega
    rw [hm1, hm2]
    by_cases h1 : i < off + s
    · simp [show i < off + s + 1 by omega, h1, show i < off + s + 1 + vs.length by omega, show i < off + s + (vs.length + 1) by omega, show i < off + (s + 1) by omega, show off + s ≠ i by omega]
    · by_cases h2 : i = off + s
      · subst h2; simp [show off + s < off + s + 1 + vs.length by omega, show off + s < off + (s + 1) by omega, show off + s < cs.length by omega]
      · by_cases h3 : i < off + s + 1 + vs.length
        · simp [h3, show ¬ i < off + s + 1 by omega, show ¬ i < off + s by omega, show i < off + s + (vs.length + 1) by omega, show i - (off + s) ≠ 0 by omega, show i - (off + s + 1) = i - (off + s) - 1 by omega]
        · simp [h3, show ¬ i < off + s + (vs.length + 1) by omega]
          rw [if_neg (by omega), show off + (s + 1) + vs.length + (i - (off + s + 1 + vs.length)) = i by omega, show off + s + (vs.length + 1) + (i - (off + s + (vs.length + 1))) = i by omega]
theorem fill_eq (place : Nat → Option (Nat × Nat)) : ∀ (ps : List (Nat × Value)) (cs : List Value), Instr.fill place cs.toArray ps = (fillL place cs ps).map List.toArray
  | [], cs => rfl
  | (i, v) :: rest, cs => by
    simp only [Instr.fill, fillL]
    cases place i with
    | none => rfl
    | some p =>
      obtain ⟨off, size⟩ := p
      simp only [cells_eq v, List.size_toArray]
      by_cases h : (cellsL v).length = size ∧ off + (cellsL v).length ≤ cs.length
      · obtain ⟨h1, h2⟩ := h
        have hb : (Nat.beq (cellsL v).length size && Nat.ble (off + (cellsL v).length) cs.length) = true := by simp [h1]; omega
        rw [if_neg (by simp; omega), hb, cond_true, ← fill_eq place rest]
        congr 1
        have := foldl_set (cellsL v) cs off 0 (by omega)
        simpa using this
      · have hb : (Nat.beq (cellsL v).length size && Nat.ble (off + (cellsL v).length) cs.length) = false := by
          rw [Bool.eq_false_iff]
          intro h'
          simp only [Bool.and_eq_true, Nat.beq_eq, Nat.ble_eq] at h'
          exact h ⟨h'.1, h'.2⟩
        rw [if_pos (by simp; omega), hb, cond_false]
        rfl
section
variable {P : Program} {e : Env} {w : World} {d : Option Nat} {t : TypeId} {pos : String} {af : Array Edge} {g : Option (Nat × Bool)}
theorem Y.is {o : Oper} {v v' : Value} (h : Y P o e w v) (hv : v = v') : Y P o e w v' := hv ▸ h
theorem Y.b {o : Oper} {x y : Bool} (h : Y P o e w (.bool x)) (hx : x = y) : Y P o e w (.bool y) := hx ▸ h
theorem Y.dec_t {o : Oper} {p : Prop} [Decidable p] (h : Y P o e w (.bool (decide p))) (hp : p) : Y P o e w (.bool true) := h.is (by rw [decide_eq_true hp])
theorem Y.dec_f {o : Oper} {p : Prop} [Decidable p] (h : Y P o e w (.bool (decide p))) (hp : ¬p) : Y P o e w (.bool false) := h.is (by rw [decide_eq_false hp])
theorem Y.loadv {x : Operand} {T n b o : Nat} {ag : Bool} {cs : List Value} {v : Value} (hT : Ty P T n ag) (hx : ev e x = .pointer (some ⟨b, o, none⟩)) (hr : Rd w b o cs) (hl : cs.length = n) (hv : ldv ag cs = v) :
    Y P ⟨d, .load T x, t, pos, af, g⟩ e w v := hv ▸ Y.load hT hx hr hl
theorem Y.idxEl {x ix : Operand} {T el k c i : Nat} {ik : IntKind} {iv : Int} {α : Type} {s : Sl α} {enc : α → List Value} {h : Heap} {y : α} (hE : El s k enc h i y) (hT : Und P T (.slice el)) (hk : ∀ w, (sizeOf el).run P w = .ok k w)
    (hx : ev e x = .slice s.at_ s.xs.length c) (hi : ev e ix = .int ik iv) (h0 : 0 ≤ iv) (hn : iv.toNat = i) : Y P ⟨d, .indexAddr T x ix, t, pos, af, g⟩ e w (.pointer (some ⟨s.blk, s.off + i * k, none⟩)) := by
  have := hE.lt
  have hx' : ev e x = .slice (some ⟨s.blk, s.off, none⟩) s.xs.length c := by rw [← hE.at_]; exact hx
  have := Y.idx (d := d) (t := t) (pos := pos) (af := af) (g := g) (w := w) hT hk hx' hi h0 (by omega)
  rwa [hn] at this
theorem Y.idxvv {x ix : Operand} {T el k n : Nat} {ag : Bool} {ik : IntKind} {i : Int} {cs : List Value} (hT : Und P T (.array n el)) (hk : Ty P el k ag) (hx : ev e x = .agg cs.toArray) (hi : ev e ix = .int ik i) (h0 : 0 ≤ i) (h1 : i < n)
    {part : List Value} (hp : (cs.drop (i.toNat * k)).take k = part) (hl : part.length = k) {v : Value} (hv : ldv ag part = v) : Y P ⟨d, .index T x ix, t, pos, af, g⟩ e w v := hv ▸ Y.idxv hT hk hx hi h0 h1 hp hl
theorem Y.field {x : Operand} {T i ft off n : Nat} {ag : Bool} {cs part : List Value} {v : Value} (hF : Fd P T i ft off) (hT : Ty P ft n ag) (hx : ev e x = .agg cs.toArray) (hp : (cs.drop off).take n = part) (hl : part.length = n) (hv : ldv ag part = v) :
    Y P ⟨d, .field T x i, t, pos, af, g⟩ e w v := by
  obtain ⟨fs, f, h1, h2, rfl, rfl⟩ := hF
  subst hv
  simp [Y, execOp, hx, Instr.field, run_underlying h1, h2, asAgg, part_run hT hp hl]
theorem Y.build {T : Nat} {parts : Array (Nat × Operand)} {ps : List (Nat × Nat)} {z : Value} {cs : List Value} (hP : Pl P T ps) (hz : Zero P T z) (hf : fillL (fun i => ps[i]?) (cellsL z) (parts.toList.map fun (i, x) => (i, ev e x)) = some cs)
    {v : Value} (hv : Value.agg cs.toArray = v) : Y P ⟨d, .build T parts, t, pos, af, g⟩ e w v := by
  obtain ⟨fs, h1, h2⟩ := hP
  subst hv
  have h3 : (parts.map fun (i, x) => (i, ev e x)).toList = parts.toList.map fun (i, x) => (i, ev e x) := by simp
  have h4 := fill_eq (fun i => ps[i]?) (parts.toList.map fun (i, x) => (i, ev e x)) (cellsL z)
  rw [hf] at h4
  simp only [Y, execOp, Instr.build, Sem.run_bind, hz w, Result.andThen_ok, run_underlying h1, h2 w, h3]
  simp only [List.getElem?_toArray, cells_eq z, h4, Option.map_some, Sem.run_pure, Result.andThen_ok]
theorem Y.builda {T el n k : Nat} {parts : Array (Nat × Operand)} {z : Value} {cs : List Value} (hT : Und P T (.array n el)) (hz : Zero P T z) (hk : ∀ w, (sizeOf el).run P w = .ok k w)
    (hf : fillL (fun i => some (i * k, k)) (cellsL z) (parts.toList.map fun (i, x) => (i, ev e x)) = some cs)
    {v : Value} (hv : Value.agg cs.toArray = v) : Y P ⟨d, .build T parts, t, pos, af, g⟩ e w v := by
  subst hv
  have h3 : (parts.map fun (i, x) => (i, ev e x)).toList = parts.toList.map fun (i, x) => (i, ev e x) := by simp
  have h4 := fill_eq (fun i => some (i * k, k)) (parts.toList.map fun (i, x) => (i, ev e x)) (cellsL z)
  rw [hf] at h4
  simp only [Y, execOp, Instr.build, Sem.run_bind, hz w, Result.andThen_ok, run_underlying hT, hk w, h3]
  simp only [cells_eq z, h4, Option.map_some, Sem.run_pure, Result.andThen_ok]
end
end Go.TF
