/- Memory as the walk tells it: what the call owns (each piece apart from the others), what is never written again, and that nothing older is turned. -/
import Derived.Test.YtenigglapeajdaaBase1
namespace Go.TF
open Go Go.RowKit

/-- What is known for good of blocks: never written again. -/
abbrev Heap := Nat → Option Obj
def Heap.cell (h : Heap) (b o : Nat) : Option Value := match h b with | some (.cells c _ _) => c[o]? | _ => none
def Heap.le (h h' : Heap) : Prop := ∀ b o, h b = some o → h' b = some o
theorem Heap.le.refl (h : Heap) : h.le h := fun _ _ e => e
theorem Heap.le.trans {a b c : Heap} (h : a.le b) (k : b.le c) : a.le c := fun x o e => k x o (h x o e)
theorem Heap.le.cell {h h' : Heap} (hl : h.le h') {b o : Nat} {v : Value} (hc : h.cell b o = some v) : h'.cell b o = some v := by
  unfold Heap.cell at *
  split at hc
  · rename_i c t f hb; rw [hl _ _ hb]; exact hc
  · cases hc

/-- A piece of memory that the call owns: its blocks, and what is said of them (of them alone). -/
structure SA where
  fp : List Nat
  P : World → Prop
  loc : ∀ w w' : World, (∀ b ∈ fp, w'.heap[b]? = w.heap[b]?) → P w → P w'
structure Base where
  w : World
  h : Heap
/-- What is known in the course of a call that began at B. -/
structure Inv (B : Base) (h : Heap) (M : List SA) (w : World) : Prop where
  below : Below B.w.heap.size B.w w
  ext : B.h.le h
  new : ∀ b o, h b = some o → B.h b = some o ∨ B.w.heap.size ≤ b
  imm : ∀ b o, h b = some o → w.heap[b]? = some o
  own : ∀ A ∈ M, A.P w ∧ ∀ b ∈ A.fp, B.w.heap.size ≤ b ∧ b < w.heap.size ∧ h b = none
  apart : M.Pairwise fun A C => ∀ b ∈ A.fp, b ∉ C.fp
def Base.ok (B : Base) : Prop := ∀ b o, B.h b = some o → B.w.heap[b]? = some o
theorem Inv.start {B : Base} (h : B.ok) : Inv B B.h [] B.w :=
  ⟨Below.refl _ _, Heap.le.refl _, fun _ _ e => .inl e, h, (fun _ h => by cases h), List.Pairwise.nil⟩

/-- From w to w' nothing that there was is turned. -/
def Grow (w w' : World) : Prop := Below w.heap.size w w'
theorem Grow.refl (w : World) : Grow w w := Below.refl _ _
theorem Grow.trans {a b c : World} (h : Grow a b) (k : Grow b c) : Grow a c := Below.trans h (Below.mono k h.size)
theorem Grow.drew (w : World) : Grow w w.drew := (Below.refl _ w).drew
theorem Grow.alloc (w : World) (o : Obj) : Grow w (w.alloc o) := (Below.refl _ w).alloc (Nat.le_refl _) o

section
variable {B : Base} {h : Heap} {M : List SA} {w w' : World}
theorem Inv.lt (I : Inv B h M w) {b : Nat} {o : Obj} (hb : h b = some o) : b < w.heap.size := by
  have := I.imm b o hb
  exact (Array.getElem?_eq_some_iff.1 this).1
theorem Inv.grow (I : Inv B h M w) (g : Grow w w') : Inv B h M w' where
  below := I.below.trans (g.mono I.below.size)
  ext := I.ext
  new := I.new
  imm := fun b o hb => (g.block b (I.lt hb)).trans (I.imm b o hb)
  own := fun A hA => by
    obtain ⟨h1, h2⟩ := I.own A hA
    refine ⟨A.loc w w' (fun b hb => g.block b (h2 b hb).2.1) h1, fun b hb => ?_⟩
    obtain ⟨k1, k2, k3⟩ := h2 b hb
    exact ⟨k1, Nat.lt_of_lt_of_le k2 g.size, k3⟩
  apart := I.apart
theorem Inv.drew (I : Inv B h M w) : Inv B h M w.drew := I.grow (Grow.drew w)
/-- The call ended, and what it hands on is known for good. -/
abbrev Ext (B : Base) (w : World) (h : Heap) : Prop := Inv B h [] w
theorem Inv.ext_of (I : Inv B h M w) : Ext B w h := ⟨I.below, I.ext, I.new, I.imm, (fun _ h => by cases h), List.Pairwise.nil⟩
theorem Ext.grow (I : Inv B h M w) : Grow B.w w := I.below
/-- Behind a callee's call. -/
theorem Inv.called {h' : Heap} (I : Inv B h M w) (X : Ext ⟨w, h⟩ w' h') : Inv B h' M w' where
  below := I.below.trans (X.below.mono I.below.size)
  ext := I.ext.trans X.ext
  new := fun b o hb => by
    rcases X.new b o hb with h1 | h1
    · exact I.new b o h1
    · exact .inr (Nat.le_trans I.below.size h1)
  imm := X.imm
  own := fun A hA => by
    obtain ⟨h1, h2⟩ := I.own A hA
    refine ⟨A.loc w w' (fun b hb => X.below.block b (h2 b hb).2.1) h1, fun b hb => ?_⟩
    obtain ⟨k1, k2, k3⟩ := h2 b hb
    refine ⟨k1, Nat.lt_of_lt_of_le k2 X.below.size, ?_⟩
    cases hh : h' b with
    | none => rfl
    | some o =>
      rcases X.new b o hh with h1 | h1
      · exact absurd (h1.symm.trans k3) (by simp)
      · exact absurd k2 (by simpa using h1)
  apart := I.apart
theorem Inv.base_ok (I : Inv B h M w) : Base.ok ⟨w, h⟩ := I.imm
theorem Inv.weak (I : Inv B h M w) {M' : List SA} (hs : M'.Sublist M) : Inv B h M' w :=
  ⟨I.below, I.ext, I.new, I.imm, fun A hA => I.own A (hs.subset hA), I.apart.sublist hs⟩
theorem Inv.drop {A : SA} (I : Inv B h (A :: M) w) : Inv B h M w := I.weak (List.sublist_cons_self A M)
theorem Inv.clear (I : Inv B h M w) : Inv B h [] w := I.weak (List.nil_sublist M)
theorem Inv.perm {M' : List SA} (I : Inv B h M w) (hp : M'.Perm M) : Inv B h M' w :=
  ⟨I.below, I.ext, I.new, I.imm, fun A hA => I.own A (hp.subset hA), I.apart.perm hp.symm fun hxy b hb hb' => hxy b hb' hb⟩
theorem perm_front {α : Type} : ∀ (l : List α) (n : Nat) (h : n < l.length), (l[n] :: l.eraseIdx n).Perm l
  | a :: l, 0, _ => List.Perm.refl _
  | a :: l, n + 1, h => by
    simp only [List.getElem_cons_succ, List.eraseIdx_cons_succ]
    exact (List.Perm.swap a _ _).trans ((perm_front l n (by simpa using h)).cons a)
/-- One of the owned pieces to the front. -/
theorem Inv.front (I : Inv B h M w) (n : Nat) {A : SA} (hn : M[n]? = some A) : Inv B h (A :: M.eraseIdx n) w := by
  obtain ⟨hlt, rfl⟩ := List.getElem?_eq_some_iff.1 hn
  exact I.perm (perm_front M n hlt)
theorem Inv.at (I : Inv B h M w) (n : Nat) {A : SA} (hn : M[n]? = some A) : A.P w := (I.own A (List.mem_of_getElem? hn)).1
/-- A step that turns nothing but the piece at the front (and what is new). -/
theorem Inv.step {A A' : SA} (I : Inv B h (A :: M) w) (hos : w'.os = w.os) (ht : w'.tape = w.tape) (ho : w'.output = w.output) (hs : w.heap.size ≤ w'.heap.size)
    (hb : ∀ b, b < w.heap.size → b ∉ A.fp → w'.heap[b]? = w.heap[b]?) (hA : A'.P w') (hf : ∀ b ∈ A'.fp, (b ∈ A.fp ∨ w.heap.size ≤ b) ∧ b < w'.heap.size) : Inv B h (A' :: M) w' := by
  have hown := I.own A (List.mem_cons_self ..)
  have hnot : ∀ b, h b ≠ none → b ∉ A.fp := fun b hb hm => hb (hown.2 b hm).2.2
  have hap := List.pairwise_cons.1 I.apart
  refine ⟨?_, I.ext, I.new, fun b o hbo => ?_, fun C hC => ?_, List.pairwise_cons.2 ⟨fun C hC b hb' hbC => ?_, hap.2⟩⟩
  · exact I.below.trans ⟨hos, ht, ho, hs, fun k hk => hb k (Nat.lt_of_lt_of_le hk I.below.size) (fun hm => by have := (hown.2 k hm).1; omega)⟩
  · rw [hb b (I.lt hbo) (hnot b (by simp [hbo]))]; exact I.imm b o hbo
  · rcases List.mem_cons.1 hC with rfl | hC
    · refine ⟨hA, fun b hb' => ?_⟩
      obtain ⟨h1, h2⟩ := hf b hb'
      rcases h1 with h1 | h1
      · exact ⟨(hown.2 b h1).1, h2, (hown.2 b h1).2.2⟩
      · refine ⟨Nat.le_trans I.below.size h1, h2, ?_⟩
        cases hh : h b with
        | none => rfl
        | some o => exact absurd (I.lt hh) (by omega)
    · obtain ⟨h1, h2⟩ := I.own C (List.mem_cons_of_mem _ hC)
      refine ⟨C.loc w w' (fun b hb' => hb b (h2 b hb').2.1 (fun hm => hap.1 C hC b hm hb')) h1, fun b hb' => ?_⟩
      obtain ⟨k1, k2, k3⟩ := h2 b hb'
      exact ⟨k1, Nat.lt_of_lt_of_le k2 hs, k3⟩
  · obtain ⟨h1, _⟩ := hf b hb'
    rcases h1 with h1 | h1
    · exact hap.1 C hC b h1 hbC
    · have := ((I.own C (List.mem_cons_of_mem _ hC)).2 b hbC).2.1; omega
/-- A piece that is new. -/
theorem Inv.gain {A : SA} (I : Inv B h M w) (g : Grow w w') (hA : A.P w') (hf : ∀ b ∈ A.fp, w.heap.size ≤ b ∧ b < w'.heap.size) : Inv B h (A :: M) w' := by
  have I' : Inv B h (⟨[], fun _ => True, fun _ _ _ h => h⟩ :: M) w :=
    ⟨I.below, I.ext, I.new, I.imm, fun C hC => by
      rcases List.mem_cons.1 hC with rfl | hC
      · exact ⟨trivial, (fun b hb => by cases hb)⟩
      · exact I.own C hC, List.pairwise_cons.2 ⟨(fun _ _ b hb => by cases hb), I.apart⟩⟩
  exact I'.step g.os g.tape g.output g.size (fun b hb _ => g.block b hb) hA (fun b hb => ⟨.inr (hf b hb).1, (hf b hb).2⟩)
/-- A piece is never written again: it goes to what is known for good. -/
theorem Inv.settle {A : SA} (I : Inv B h (A :: M) w) : ∃ h', h.le h' ∧ (∀ b ∈ A.fp, h' b = w.heap[b]?) ∧ Inv B h' M w := by
  have hown := I.own A (List.mem_cons_self ..)
  have hap := List.pairwise_cons.1 I.apart
  refine ⟨fun b => if b ∈ A.fp then w.heap[b]? else h b, ?_, fun b hb => by simp [hb], ?_⟩
  · intro b o hb
    have : b ∉ A.fp := fun hm => by have := (hown.2 b hm).2.2; simp [this] at hb
    simp [this, hb]
  · refine ⟨I.below, fun b o hb => ?_, fun b o hb => ?_, fun b o hb => ?_, fun C hC => ?_, hap.2⟩
    · have hb' := I.ext b o hb
      have : b ∉ A.fp := fun hm => by have := (hown.2 b hm).2.2; simp [this] at hb'
      simp [this, hb']
    · by_cases hm : b ∈ A.fp
      · exact .inr (hown.2 b hm).1
      · simp only [hm, if_false] at hb; exact I.new b o hb
    · by_cases hm : b ∈ A.fp
      · simpa [hm] using hb
      · simp only [hm, if_false] at hb; exact I.imm b o hb
    · obtain ⟨h1, h2⟩ := I.own C (List.mem_cons_of_mem _ hC)
      refine ⟨h1, fun b hb => ?_⟩
      obtain ⟨k1, k2, k3⟩ := h2 b hb
      have : b ∉ A.fp := fun hm => hap.1 C hC b hm hb
      exact ⟨k1, k2, by simp [this, k3]⟩
end

/-- A variable of the call's own. -/
def box (b : Nat) (cs : List Value) (T : TypeId) : SA where
  fp := [b]
  P := fun w => w.heap[b]? = some (.cells cs.toArray T (0, 0))
  loc := fun _ _ h hp => (h b (by simp)).trans hp

/-- What a cell's row holds. -/
def Rd (w : World) (b o : Nat) (cs : List Value) : Prop := ∀ j v, cs[j]? = some v → w.cell? ⟨b, o + j, none⟩ = some v
def RdH (h : Heap) (b o : Nat) (cs : List Value) : Prop := ∀ j v, cs[j]? = some v → h.cell b (o + j) = some v
theorem Inv.cell {B : Base} {h : Heap} {M : List SA} {w : World} (I : Inv B h M w) {b o : Nat} {v : Value} (hc : h.cell b o = some v) : w.cell? ⟨b, o, none⟩ = some v := by
  unfold Heap.cell at hc
  split at hc
  · rename_i c t f hb; simp [World.cell?, I.imm _ _ hb, hc]
  · cases hc
theorem Inv.rd {B : Base} {h : Heap} {M : List SA} {w : World} (I : Inv B h M w) {b o : Nat} {cs : List Value} (hr : RdH h b o cs) : Rd w b o cs := fun j v e => I.cell (hr j v e)
theorem RdH.le {h h' : Heap} (hl : h.le h') {b o : Nat} {cs : List Value} (hr : RdH h b o cs) : RdH h' b o cs := fun j v e => hl.cell (hr j v e)
theorem RdH.part {h : Heap} {b o : Nat} {cs : List Value} (hr : RdH h b o cs) (i n : Nat) : RdH h b (o + i) ((cs.drop i).take n) := fun j v e => by
  rw [Nat.add_assoc]
  refine hr (i + j) v ?_
  rw [List.getElem?_take] at e
  split at e
  · rwa [List.getElem?_drop] at e
  · cases e
theorem rd_box {w : World} {b : Nat} {cs : List Value} {T : TypeId} (hp : w.heap[b]? = some (.cells cs.toArray T (0, 0))) (o n : Nat) : Rd w b o ((cs.drop o).take n) := fun j v e => by
  rw [List.getElem?_take] at e
  split at e
  · rw [List.getElem?_drop] at e; simp [World.cell?, hp, e]
  · cases e
theorem Inv.rdbox {B : Base} {h : Heap} {M : List SA} {w : World} (I : Inv B h M w) (n : Nat) {b : Nat} {cs : List Value} {T : TypeId} (hn : M[n]? = some (box b cs T)) (o m : Nat) : Rd w b o ((cs.drop o).take m) :=
  rd_box (I.at n hn) o m

/-! ### Types of the program, as the operations ask them -/
def tsize (P : Program) (T : TypeId) : Option Nat := (P.info? T).map (·.size)
def tagg (P : Program) (T : TypeId) : Option Bool := (P.underlying T).map fun | .struct _ | .array _ _ => true | _ => false
/-- Size in cells; a struct or an array? -/
def TI (P : Program) (T : TypeId) (n : Nat) (ag : Bool) : Prop := tsize P T = some n ∧ tagg P T = some ag
theorem run_sizeOf {P : Program} {T : TypeId} {n : Nat} (h : tsize P T = some n) (w : World) : (sizeOf T).run P w = .ok n w := by
  unfold tsize at h
  cases hi : P.info? T with
  | none => simp [hi] at h
  | some i => simp [hi] at h; subst h; simp [sizeOf, typeInfo, hi]
theorem run_isAgg {P : Program} {T : TypeId} {ag : Bool} (h : tagg P T = some ag) (w : World) : (isAgg T).run P w = .ok ag w := by
  unfold tagg at h
  cases hi : P.underlying T with
  | none => simp [hi] at h
  | some d => simp [hi] at h; subst h; cases d <;> simp [isAgg, underlying, hi]

def ldv : Bool → List Value → Value
  | true, cs => .agg cs.toArray
  | false, cs => cs.headD undef
theorem addr_add (b o i : Nat) : (⟨b, o, none⟩ : Addr).add i = ⟨b, o + i, none⟩ := by unfold Addr.add; split <;> simp_all
theorem run_loadVar {P : Program} {T : TypeId} {n : Nat} {ag : Bool} (ti : TI P T n ag) {w : World} {b o : Nat} {cs : List Value} (hr : Rd w b o cs) (hl : cs.length = n) (h1 : ag = false → n = 1) :
    (loadVar T ⟨b, o, none⟩).run P w = .ok (ldv ag cs) w := by
  unfold loadVar
  cases ag with
  | true =>
    have := run_loadCells_list (P := P) (w := w) ⟨b, o, none⟩ cs (fun j v e => by rw [addr_add]; exact hr j v e)
    simp [run_isAgg ti.2, run_sizeOf ti.1, ← hl, this, ldv]
  | false =>
    have := h1 rfl
    match cs, hl with
    | [c], _ =>
      have hc := hr 0 c rfl
      simp [run_isAgg ti.2, hc, ldv, load, Sem.run] at hc ⊢
    | [], hl => simp at hl; omega
    | _ :: _ :: _, hl => simp at hl; omega
end Go.TF
