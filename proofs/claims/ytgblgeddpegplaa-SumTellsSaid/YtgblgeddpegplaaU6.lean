/- Texts Base22 Sum2 Sum3 Base23 Prog9 RoadsM Prog10 Sum4. -/
import Derived.Test.YtgblgeddpegplaaU5
import Derived.Test.YtgblgeddpegplaaU4
import Derived.Test.YtgblgeddpegplaaU3
section
/- A region in which a variable is made, and a slice is made and turned into another; what is known may grow in it. -/
namespace Go.TF
open Go Go.RowKit

structure UnS where
  h : Heap
  o2 : Option Value
  o4 : Option Value
  o7 : Option Nat
def pcB (o7 : Option Nat) (z : List Value) (Tb : TypeId) : List SA := match o7 with
  | none => []
  | some b => [box b z Tb]
structure JUn (B : Base) (M : List SA) (T k n m : Nat) (c2 c4 : List Value) (Tb : TypeId) (z : List Value) (i2 i4 i7 : Nat) (D : Nat → Bool) (s : UnS) (w : World) : Prop where
  h2 : s.o2.isSome = D i2
  h4 : s.o4.isSome = D i4
  h7 : s.o7.isSome = D i7
  ord : D i4 = true → D i2 = true
  inv : Inv B s.h (pcD T k n m c2 c4 s.o2 s.o4 ++ (pcB s.o7 z Tb ++ M)) w
structure RUn (s s' : UnS) : Prop where
  h : s.h.le s'.h
  h2 : ∀ v, s.o2 = some v → s'.o2 = some v
  h4 : ∀ v, s.o4 = some v → s'.o4 = some v
  h7 : ∀ v, s.o7 = some v → s'.o7 = some v
theorem RUn.pre : Pre RUn := ⟨fun _ => ⟨Heap.le.refl _, fun _ h => h, fun _ h => h, fun _ h => h⟩, fun _ _ _ h k => ⟨h.h.trans k.h, fun b e => k.h2 b (h.h2 b e), fun b e => k.h4 b (h.h4 b e), fun b e => k.h7 b (h.h7 b e)⟩⟩
def AtU2 (u : Value) (s : UnS) : Prop := s.o2 = some u
def AtU4 (u : Value) (s : UnS) : Prop := s.o4 = some u
def AtU7 (u : Value) (s : UnS) : Prop := ∃ b, u = .pointer (some ⟨b, 0, none⟩) ∧ s.o7 = some b
def KnUn (Φ : Sp) (u : Value) (s : UnS) : Prop := Φ u s.h
theorem AtU2.mono : MonoG RUn AtU2 := fun _ _ _ r h => r.h2 _ h
theorem AtU4.mono : MonoG RUn AtU4 := fun _ _ _ r h => r.h4 _ h
theorem AtU7.mono : MonoG RUn AtU7 := fun _ _ _ r ⟨b, h1, h2⟩ => ⟨b, h1, r.h7 b h2⟩
theorem KnUn.mono {Φ : Sp} (hm : MonoS Φ) : MonoG RUn (KnUn Φ) := fun _ _ _ r h => hm _ _ _ r.h h
/-- A pair, the second the slice that was turned. -/
def PrU (Ψ : Sp) (u : Value) (s : UnS) : Prop := ∃ x v, u = .agg #[x, v] ∧ Ψ x s.h ∧ s.o4 = some v
theorem PrU.mono {Ψ : Sp} (hm : MonoS Ψ) : MonoG RUn (PrU Ψ) := fun _ _ _ r ⟨x, v, a, b, c⟩ => ⟨x, v, a, hm _ _ _ r.h b, r.h4 _ c⟩
section
variable {P : Program} {o : Oper} {e : Env} {B : Base} {M : List SA} {T k n m : Nat} {c2 c4 : List Value} {Tb : TypeId} {z : List Value} {i2 i4 i7 i : Nat} {D : Nat → Bool} {s : UnS} {w : World}
theorem JUn.base (j : JUn B M T k n m c2 c4 Tb z i2 i4 i7 D s w) : Inv B s.h M w := j.inv.weak ((List.sublist_append_right _ _).trans (List.sublist_append_right _ _))
theorem JUn.set (h : i2 ≠ i ∧ i4 ≠ i ∧ i7 ≠ i) : ∀ D s w, JUn B M T k n m c2 c4 Tb z i2 i4 i7 D s w → JUn B M T k n m c2 c4 Tb z i2 i4 i7 (setD D i) s w := fun D s w j => by
  have e : ∀ x, x ≠ i → setD D i x = D x := fun x hx => by simp [setD, hx]
  exact ⟨by rw [e _ h.1]; exact j.h2, by rw [e _ h.2.1]; exact j.h4, by rw [e _ h.2.2]; exact j.h7, by rw [e _ h.1, e _ h.2.1]; exact j.ord, j.inv⟩
theorem JUn.know {Φ : Sp} (j : JUn B M T k n m c2 c4 Tb z i2 i4 i7 D s w) (h : i2 ≠ i ∧ i4 ≠ i ∧ i7 ≠ i) (hop : ∀ N, Inv B s.h N w → Op1 P o e w fun u w' => ∃ h', s.h.le h' ∧ Inv B h' N w' ∧ Φ u h') :
    Op1 P o e w fun u w' => ∃ s', RUn s s' ∧ JUn B M T k n m c2 c4 Tb z i2 i4 i7 (setD D i) s' w' ∧ KnUn Φ u s' :=
  (hop _ j.inv).mono fun u w' ⟨h', hl, I, hu⟩ => by
    have e : ∀ x, x ≠ i → setD D i x = D x := fun x hx => by simp [setD, hx]
    exact ⟨⟨h', s.o2, s.o4, s.o7⟩, ⟨hl, fun _ e => e, fun _ e => e, fun _ e => e⟩, ⟨by rw [e _ h.1]; exact j.h2, by rw [e _ h.2.1]; exact j.h4, by rw [e _ h.2.2]; exact j.h7, by rw [e _ h.1, e _ h.2.1]; exact j.ord, I⟩, hu⟩
theorem JUn.first (j : JUn B M T k n m c2 c4 Tb z i2 i4 i7 D s w) (hD : D i2 = false) (h24 : i4 ≠ i2) (h27 : i7 ≠ i2) (hop : ∀ N, Inv B s.h N w → Op1 P o e w fun u w' => ∃ h', s.h.le h' ∧ Inv B h' (ownSl T k u n c2 :: N) w') :
    Op1 P o e w fun u w' => ∃ s', RUn s s' ∧ JUn B M T k n m c2 c4 Tb z i2 i4 i7 (setD D i2) s' w' ∧ AtU2 u s' := by
  have h2 : s.o2 = none := by have := j.h2; rw [hD] at this; cases h : s.o2 <;> simp_all
  have hD4 : D i4 = false := by
    cases h : D i4
    · rfl
    · rw [j.ord h] at hD; cases hD
  have h4 : s.o4 = none := by have := j.h4; rw [hD4] at this; cases h : s.o4 <;> simp_all
  have I := j.inv
  rw [h2, h4] at I
  refine (hop _ I).mono fun u w' ⟨h', hl, I⟩ => ⟨⟨h', some u, none, s.o7⟩, ⟨hl, fun v hv => (by rw [h2] at hv; cases hv), fun v hv => (by rw [h4] at hv; cases hv), fun v hv => hv⟩, ⟨?_, ?_, ?_, fun hh => ?_, I⟩, rfl⟩
  · simp [setD]
  · rw [show setD D i2 i4 = D i4 by simp [setD, h24], hD4]; rfl
  · rw [show setD D i2 i7 = D i7 by simp [setD, h27]]; exact j.h7
  · simp [setD]
theorem JUn.second (j : JUn B M T k n m c2 c4 Tb z i2 i4 i7 D s w) (hD : D i4 = false) (h24 : i2 ≠ i4) (h47 : i7 ≠ i4) {u2 : Value} (hu : AtU2 u2 s) (hop : ∀ N, Inv B s.h (ownSl T k u2 n c2 :: N) w → Op1 P o e w fun u w' => ∃ h', s.h.le h' ∧ Inv B h' (ownSl T k u m c4 :: N) w') :
    Op1 P o e w fun u w' => ∃ s', RUn s s' ∧ JUn B M T k n m c2 c4 Tb z i2 i4 i7 (setD D i4) s' w' ∧ AtU4 u s' := by
  have h4 : s.o4 = none := by have := j.h4; rw [hD] at this; cases h : s.o4 <;> simp_all
  have h2 : s.o2 = some u2 := hu
  have I := j.inv
  rw [h4, h2] at I
  have hD2 : D i2 = true := by rw [← j.h2, h2]; rfl
  refine (hop _ I).mono fun u w' ⟨h', hl, I⟩ => ⟨⟨h', some u2, some u, s.o7⟩, ⟨hl, fun v hv => (by rw [h2] at hv; exact hv), fun v hv => (by rw [h4] at hv; cases hv), fun v hv => hv⟩, ⟨?_, ?_, ?_, fun _ => ?_, I⟩, rfl⟩
  · rw [show setD D i4 i2 = D i2 by simp [setD, h24], hD2]; rfl
  · simp [setD]
  · rw [show setD D i4 i7 = D i7 by simp [setD, h47]]; exact j.h7
  · rw [show setD D i4 i2 = D i2 by simp [setD, h24], hD2]
theorem JUn.make {d : Option Nat} {t : TypeId} {pos : String} {af : Array Edge} {zv : Value} (j : JUn B M T k n m c2 c4 Tb z i2 i4 i7 D s w) (hz : Zero P Tb zv) (hc : zv.cells = z.toArray) (hD : D i7 = false) (h27 : i2 ≠ i7) (h47 : i4 ≠ i7) :
    Op1 P ⟨d, .alloc Tb, t, pos, af, none⟩ e w fun u w' => ∃ s', RUn s s' ∧ JUn B M T k n m c2 c4 Tb z i2 i4 i7 (setD D i7) s' w' ∧ AtU7 u s' := by
  have h7 : s.o7 = none := by have := j.h7; rw [hD] at this; cases h : s.o7 <;> simp_all
  have I := j.inv
  rw [h7] at I
  refine O.alloc I hz hc fun b w' I' => ⟨⟨s.h, s.o2, s.o4, some b⟩, ⟨Heap.le.refl _, fun _ e => e, fun _ e => e, fun v hv => (by rw [h7] at hv; cases hv)⟩, ⟨?_, ?_, ?_, ?_, ?_⟩, b, rfl, rfl⟩
  · rw [show setD D i7 i2 = D i2 by simp [setD, h27]]; exact j.h2
  · rw [show setD D i7 i4 = D i4 by simp [setD, h47]]; exact j.h4
  · simp [setD]
  · rw [show setD D i7 i2 = D i2 by simp [setD, h27], show setD D i7 i4 = D i4 by simp [setD, h47]]; exact j.ord
  · exact I'.perm List.perm_middle
theorem JUn.box (j : JUn B M T k n m c2 c4 Tb z i2 i4 i7 D s w) {b : Nat} (h : s.o7 = some b) : Inv B s.h (box b z Tb :: M) w := by
  have I := j.inv
  rw [h] at I
  exact I.weak (List.sublist_append_right _ _)
theorem JUn.turned (j : JUn B M T k n m c2 c4 Tb z i2 i4 i7 D s w) {v : Value} (h : s.o4 = some v) : Inv B s.h (ownSl T k v m c4 :: M) w := by
  have I := j.inv
  rw [h] at I
  exact I.weak (.cons_cons _ (List.sublist_append_right _ _))
theorem JUn.both (j : JUn B M T k n m c2 c4 Tb z i2 i4 i7 D s w) {v : Value} (h : s.o4 = some v) {b : Nat} (h7 : s.o7 = some b) : Inv B s.h (ownSl T k v m c4 :: Go.TF.box b z Tb :: M) w := by
  have I := j.inv
  rw [h, h7] at I
  exact I
/-- What is only looked at. -/
theorem JUn.look {Φ : Sq UnS} {v : Value} (j : JUn B M T k n m c2 c4 Tb z i2 i4 i7 D s w) (h : i2 ≠ i ∧ i4 ≠ i ∧ i7 ≠ i) (hy : Y P o e w v) (hv : Φ v s) :
    Op1 P o e w fun u w' => ∃ s', RUn s s' ∧ JUn B M T k n m c2 c4 Tb z i2 i4 i7 (setD D i) s' w' ∧ Φ u s' := by
  unfold Op1; rw [hy]; exact ⟨s, RUn.pre.refl s, JUn.set h _ _ _ j, hv⟩
end
/-! ### A slice that begins empty and is appended to twice -/
structure U3S where
  h : Heap
  o1 : Option Value
  o2 : Option Value
  o4 : Option Value
  o7 : Option Nat
def pc3 (T k n m : Nat) (c2 c4 : List Value) (o1 o2 o4 : Option Value) : List SA := match o2, o4, o1 with
  | some _, some v, _ => [ownSl T k v m c4]
  | some v, none, _ => [ownSl T k v n c2]
  | none, _, some v => [ownSl T k v 0 []]
  | none, _, none => []
structure JU3 (B : Base) (M : List SA) (T k n m : Nat) (c2 c4 : List Value) (Tb : TypeId) (z : List Value) (i1 i2 i4 i7 : Nat) (D : Nat → Bool) (s : U3S) (w : World) : Prop where
  h1 : s.o1.isSome = D i1
  h2 : s.o2.isSome = D i2
  h4 : s.o4.isSome = D i4
  h7 : s.o7.isSome = D i7
  ord : D i4 = true → D i2 = true
  ord1 : D i2 = true → D i1 = true
  inv : Inv B s.h (pc3 T k n m c2 c4 s.o1 s.o2 s.o4 ++ (pcB s.o7 z Tb ++ M)) w
structure RU3 (s s' : U3S) : Prop where
  h : s.h.le s'.h
  h1 : ∀ v, s.o1 = some v → s'.o1 = some v
  h2 : ∀ v, s.o2 = some v → s'.o2 = some v
  h4 : ∀ v, s.o4 = some v → s'.o4 = some v
  h7 : ∀ v, s.o7 = some v → s'.o7 = some v
theorem RU3.pre : Pre RU3 := ⟨fun _ => ⟨Heap.le.refl _, fun _ h => h, fun _ h => h, fun _ h => h, fun _ h => h⟩, fun _ _ _ h k => ⟨h.h.trans k.h, fun b e => k.h1 b (h.h1 b e), fun b e => k.h2 b (h.h2 b e), fun b e => k.h4 b (h.h4 b e), fun b e => k.h7 b (h.h7 b e)⟩⟩
def At31 (u : Value) (s : U3S) : Prop := s.o1 = some u
def At32 (u : Value) (s : U3S) : Prop := s.o2 = some u
def At34 (u : Value) (s : U3S) : Prop := s.o4 = some u ∧ s.o2.isSome = true
def At37 (u : Value) (s : U3S) : Prop := ∃ b, u = .pointer (some ⟨b, 0, none⟩) ∧ s.o7 = some b
def KnU3 (Φ : Sp) (u : Value) (s : U3S) : Prop := Φ u s.h
theorem At31.mono : MonoG RU3 At31 := fun _ _ _ r h => r.h1 _ h
theorem At32.mono : MonoG RU3 At32 := fun _ _ _ r h => r.h2 _ h
theorem At34.mono : MonoG RU3 At34 := fun _ _ _ r ⟨h, k⟩ => ⟨r.h4 _ h, by obtain ⟨v, hv⟩ := Option.isSome_iff_exists.1 k; rw [r.h2 _ hv]; rfl⟩
theorem At37.mono : MonoG RU3 At37 := fun _ _ _ r ⟨b, h1, h2⟩ => ⟨b, h1, r.h7 b h2⟩
theorem KnU3.mono {Φ : Sp} (hm : MonoS Φ) : MonoG RU3 (KnU3 Φ) := fun _ _ _ r h => hm _ _ _ r.h h
def Pr3 (Ψ : Sp) (u : Value) (s : U3S) : Prop := ∃ x v, u = .agg #[x, v] ∧ Ψ x s.h ∧ At34 v s
theorem Pr3.mono {Ψ : Sp} (hm : MonoS Ψ) : MonoG RU3 (Pr3 Ψ) := fun _ _ _ r ⟨x, v, a, b, c⟩ => ⟨x, v, a, hm _ _ _ r.h b, At34.mono _ _ _ r c⟩
section
variable {P : Program} {o : Oper} {e : Env} {B : Base} {M : List SA} {T k n m : Nat} {c2 c4 : List Value} {Tb : TypeId} {z : List Value} {i1 i2 i4 i7 i : Nat} {D : Nat → Bool} {s : U3S} {w : World}
theorem JU3.base (j : JU3 B M T k n m c2 c4 Tb z i1 i2 i4 i7 D s w) : Inv B s.h M w := j.inv.weak ((List.sublist_append_right _ _).trans (List.sublist_append_right _ _))
theorem JU3.set (h : i1 ≠ i ∧ i2 ≠ i ∧ i4 ≠ i ∧ i7 ≠ i) : ∀ D s w, JU3 B M T k n m c2 c4 Tb z i1 i2 i4 i7 D s w → JU3 B M T k n m c2 c4 Tb z i1 i2 i4 i7 (setD D i) s w := fun D s w j => by
  have e : ∀ x, x ≠ i → setD D i x = D x := fun x hx => by simp [setD, hx]
  exact ⟨by rw [e _ h.1]; exact j.h1, by rw [e _ h.2.1]; exact j.h2, by rw [e _ h.2.2.1]; exact j.h4, by rw [e _ h.2.2.2]; exact j.h7, by rw [e _ h.2.1, e _ h.2.2.1]; exact j.ord, by rw [e _ h.1, e _ h.2.1]; exact j.ord1, j.inv⟩
theorem JU3.know {Φ : Sp} (j : JU3 B M T k n m c2 c4 Tb z i1 i2 i4 i7 D s w) (h : i1 ≠ i ∧ i2 ≠ i ∧ i4 ≠ i ∧ i7 ≠ i) (hop : ∀ N, Inv B s.h N w → Op1 P o e w fun u w' => ∃ h', s.h.le h' ∧ Inv B h' N w' ∧ Φ u h') :
    Op1 P o e w fun u w' => ∃ s', RU3 s s' ∧ JU3 B M T k n m c2 c4 Tb z i1 i2 i4 i7 (setD D i) s' w' ∧ KnU3 Φ u s' :=
  (hop _ j.inv).mono fun u w' ⟨h', hl, I, hu⟩ => by
    have q := JU3.set (B := B) (M := M) (T := T) (k := k) (n := n) (m := m) (c2 := c2) (c4 := c4) (Tb := Tb) (z := z) h D s w j
    exact ⟨⟨h', s.o1, s.o2, s.o4, s.o7⟩, ⟨hl, fun _ e => e, fun _ e => e, fun _ e => e, fun _ e => e⟩, ⟨q.h1, q.h2, q.h4, q.h7, q.ord, q.ord1, I⟩, hu⟩
theorem JU3.look {Φ : Sq U3S} {v : Value} (j : JU3 B M T k n m c2 c4 Tb z i1 i2 i4 i7 D s w) (h : i1 ≠ i ∧ i2 ≠ i ∧ i4 ≠ i ∧ i7 ≠ i) (hy : Y P o e w v) (hv : Φ v s) :
    Op1 P o e w fun u w' => ∃ s', RU3 s s' ∧ JU3 B M T k n m c2 c4 Tb z i1 i2 i4 i7 (setD D i) s' w' ∧ Φ u s' := by
  unfold Op1; rw [hy]; exact ⟨s, RU3.pre.refl s, JU3.set h _ _ _ j, hv⟩
theorem JU3.first (j : JU3 B M T k n m c2 c4 Tb z i1 i2 i4 i7 D s w) (hD : D i1 = false) (h : i2 ≠ i1 ∧ i4 ≠ i1 ∧ i7 ≠ i1) (hop : ∀ N, Inv B s.h N w → Op1 P o e w fun u w' => ∃ h', s.h.le h' ∧ Inv B h' (ownSl T k u 0 [] :: N) w') :
    Op1 P o e w fun u w' => ∃ s', RU3 s s' ∧ JU3 B M T k n m c2 c4 Tb z i1 i2 i4 i7 (setD D i1) s' w' ∧ At31 u s' := by
  have e : ∀ x, x ≠ i1 → setD D i1 x = D x := fun x hx => by simp [setD, hx]
  have h1 : s.o1 = none := by have := j.h1; rw [hD] at this; cases h : s.o1 <;> simp_all
  have hD2 : D i2 = false := by
    cases h : D i2
    · rfl
    · rw [j.ord1 h] at hD; cases hD
  have h2 : s.o2 = none := by have := j.h2; rw [hD2] at this; cases h : s.o2 <;> simp_all
  have I := j.inv
  have hpc : pc3 T k n m c2 c4 s.o1 s.o2 s.o4 = [] := by rw [h1, h2]; cases s.o4 <;> rfl
  rw [hpc] at I
  refine (hop _ I).mono fun u w' ⟨h', hl, I⟩ => ⟨⟨h', some u, none, s.o4, s.o7⟩, ⟨hl, fun v hv => (by rw [h1] at hv; cases hv), fun v hv => (by rw [h2] at hv; cases hv), fun v hv => hv, fun v hv => hv⟩, ⟨?_, ?_, ?_, ?_, ?_, ?_, ?_⟩, rfl⟩
  · simp [setD]
  · rw [e _ h.1, hD2]; rfl
  · rw [e _ h.2.1]; exact j.h4
  · rw [e _ h.2.2]; exact j.h7
  · rw [e _ h.1, e _ h.2.1]; exact j.ord
  · rw [e _ h.1, hD2]; exact fun h => by cases h
  · cases s.o4 <;> exact I
theorem JU3.second (j : JU3 B M T k n m c2 c4 Tb z i1 i2 i4 i7 D s w) (hD : D i2 = false) (h : i1 ≠ i2 ∧ i4 ≠ i2 ∧ i7 ≠ i2) {u2 : Value} (hu : At31 u2 s) (hop : ∀ N, Inv B s.h (ownSl T k u2 0 [] :: N) w → Op1 P o e w fun u w' => ∃ h', s.h.le h' ∧ Inv B h' (ownSl T k u n c2 :: N) w') :
    Op1 P o e w fun u w' => ∃ s', RU3 s s' ∧ JU3 B M T k n m c2 c4 Tb z i1 i2 i4 i7 (setD D i2) s' w' ∧ At32 u s' := by
  have e : ∀ x, x ≠ i2 → setD D i2 x = D x := fun x hx => by simp [setD, hx]
  have h2 : s.o2 = none := by have := j.h2; rw [hD] at this; cases h : s.o2 <;> simp_all
  have h1 : s.o1 = some u2 := hu
  have hD4 : D i4 = false := by
    cases h : D i4
    · rfl
    · rw [j.ord h] at hD; cases hD
  have h4 : s.o4 = none := by have := j.h4; rw [hD4] at this; cases h : s.o4 <;> simp_all
  have hD1 : D i1 = true := by rw [← j.h1, h1]; rfl
  have I := j.inv
  rw [h1, h2, h4] at I
  refine (hop _ I).mono fun u w' ⟨h', hl, I⟩ => ⟨⟨h', some u2, some u, none, s.o7⟩, ⟨hl, fun v hv => (by rw [h1] at hv; exact hv), fun v hv => (by rw [h2] at hv; cases hv), fun v hv => (by rw [h4] at hv; cases hv), fun v hv => hv⟩, ⟨?_, ?_, ?_, ?_, ?_, ?_, I⟩, rfl⟩
  · rw [e _ h.1, hD1]; rfl
  · simp [setD]
  · rw [e _ h.2.1, hD4]; rfl
  · rw [e _ h.2.2]; exact j.h7
  · rw [e _ h.2.1, hD4]; exact fun h => by cases h
  · rw [e _ h.1]; exact fun _ => hD1
theorem JU3.third (j : JU3 B M T k n m c2 c4 Tb z i1 i2 i4 i7 D s w) (hD : D i4 = false) (h : i1 ≠ i4 ∧ i2 ≠ i4 ∧ i7 ≠ i4) {u2 : Value} (hu : At32 u2 s) (hop : ∀ N, Inv B s.h (ownSl T k u2 n c2 :: N) w → Op1 P o e w fun u w' => ∃ h', s.h.le h' ∧ Inv B h' (ownSl T k u m c4 :: N) w') :
    Op1 P o e w fun u w' => ∃ s', RU3 s s' ∧ JU3 B M T k n m c2 c4 Tb z i1 i2 i4 i7 (setD D i4) s' w' ∧ At34 u s' := by
  have e : ∀ x, x ≠ i4 → setD D i4 x = D x := fun x hx => by simp [setD, hx]
  have h4 : s.o4 = none := by have := j.h4; rw [hD] at this; cases h : s.o4 <;> simp_all
  have h2 : s.o2 = some u2 := hu
  have hD2 : D i2 = true := by rw [← j.h2, h2]; rfl
  have I := j.inv
  rw [h2, h4] at I
  have I : Inv B s.h (ownSl T k u2 n c2 :: (pcB s.o7 z Tb ++ M)) w := by cases h : s.o1 <;> rw [h] at I <;> exact I
  refine (hop _ I).mono fun u w' ⟨h', hl, I⟩ => ⟨⟨h', s.o1, some u2, some u, s.o7⟩, ⟨hl, fun v hv => hv, fun v hv => (by rw [h2] at hv; exact hv), fun v hv => (by rw [h4] at hv; cases hv), fun v hv => hv⟩, ⟨?_, ?_, ?_, ?_, ?_, ?_, ?_⟩, rfl, rfl⟩
  · rw [e _ h.1]; exact j.h1
  · rw [e _ h.2.1, hD2]; rfl
  · simp [setD]
  · rw [e _ h.2.2]; exact j.h7
  · rw [e _ h.2.1]; exact fun _ => hD2
  · rw [e _ h.1, e _ h.2.1]; exact j.ord1
  · cases s.o1 <;> exact I
theorem JU3.make {d : Option Nat} {t : TypeId} {pos : String} {af : Array Edge} {zv : Value} (j : JU3 B M T k n m c2 c4 Tb z i1 i2 i4 i7 D s w) (hz : Zero P Tb zv) (hc : zv.cells = z.toArray) (hD : D i7 = false) (h : i1 ≠ i7 ∧ i2 ≠ i7 ∧ i4 ≠ i7) :
    Op1 P ⟨d, .alloc Tb, t, pos, af, none⟩ e w fun u w' => ∃ s', RU3 s s' ∧ JU3 B M T k n m c2 c4 Tb z i1 i2 i4 i7 (setD D i7) s' w' ∧ At37 u s' := by
  have e : ∀ x, x ≠ i7 → setD D i7 x = D x := fun x hx => by simp [setD, hx]
  have h7 : s.o7 = none := by have := j.h7; rw [hD] at this; cases h : s.o7 <;> simp_all
  have I := j.inv
  rw [h7] at I
  refine O.alloc I hz hc fun b w' I' => ⟨⟨s.h, s.o1, s.o2, s.o4, some b⟩, ⟨Heap.le.refl _, fun _ e => e, fun _ e => e, fun _ e => e, fun v hv => (by rw [h7] at hv; cases hv)⟩, ⟨?_, ?_, ?_, ?_, ?_, ?_, ?_⟩, b, rfl, rfl⟩
  · rw [e _ h.1]; exact j.h1
  · rw [e _ h.2.1]; exact j.h2
  · rw [e _ h.2.2]; exact j.h4
  · simp [setD]
  · rw [e _ h.2.1, e _ h.2.2]; exact j.ord
  · rw [e _ h.1, e _ h.2.1]; exact j.ord1
  · exact I'.perm List.perm_middle
theorem JU3.piece (j : JU3 B M T k n m c2 c4 Tb z i1 i2 i4 i7 D s w) {v : Value} (h : At34 v s) : Inv B s.h (ownSl T k v m c4 :: (pcB s.o7 z Tb ++ M)) w := by
  have I := j.inv
  obtain ⟨u, hu⟩ := Option.isSome_iff_exists.1 h.2
  rw [hu, h.1] at I
  cases h1 : s.o1 <;> rw [h1] at I <;> exact I
theorem JU3.turned (j : JU3 B M T k n m c2 c4 Tb z i1 i2 i4 i7 D s w) {v : Value} (h : At34 v s) : Inv B s.h (ownSl T k v m c4 :: M) w := (j.piece h).weak (.cons_cons _ (List.sublist_append_right _ _))
theorem JU3.both (j : JU3 B M T k n m c2 c4 Tb z i1 i2 i4 i7 D s w) {v : Value} (h : At34 v s) {b : Nat} (h7 : s.o7 = some b) : Inv B s.h (ownSl T k v m c4 :: Go.TF.box b z Tb :: M) w := by
  have I := j.piece h
  rw [h7] at I
  exact I
end
end Go.TF
end
section
/- Slices of rules: room, one behind the other, one taken out. -/
namespace Go.TF
open Go Go.RowKit Go.Proofs
set_option maxRecDepth 20000

/-- A slice that the call made, with what it holds. -/
def OwS {α : Type} (T k : Nat) (enc : α → List Value) (h0 : Heap) (xs : List α) : Sp := fun v h => ∃ s : Sl α, v = s.val ∧ s.xs = xs ∧ OwnH T k s enc h0 h
theorem OwS.mono {α : Type} {T k : Nat} {enc : α → List Value} {h0 : Heap} {xs : List α} : MonoS (OwS T k enc h0 xs) := fun _ _ _ hl ⟨s, a, b, c⟩ => ⟨s, a, b, c.le hl⟩
section
variable {P : Program} {e : Env} {w : World} {t : TypeId} {pos : String} {af : Array Edge} {g : Option (Nat × Bool)} {d : Option Nat}
theorem Y.slice3 {T el k b n c i j m : Nat} {x lo hi mx : Operand} {k1 k2 k3 : IntKind} (hT : Und P T (.slice el)) (hk : ∀ w, (sizeOf el).run P w = .ok k w) (hx : ev e x = .slice (some ⟨b, 0, none⟩) n c)
    (hl : ev e lo = .int k1 (i : Int)) (hh : ev e hi = .int k2 (j : Int)) (hm : ev e mx = .int k3 (m : Int)) (h1 : i ≤ j) (h2 : j ≤ m) (h3 : m ≤ c) :
    Y P ⟨d, .slice T x (some lo) (some hi) (some mx), t, pos, af, g⟩ e w (.slice (some (if m = i then ⟨b, 0, none⟩ else ⟨b, i * k, none⟩)) (j - i) (m - i)) := by
  simp_all [Y, execOp, Instr.sliceAt, Instr.slice, Instr.sliceBounds, Instr.sliceBound, run_underlying hT, asIntOf, addr_add]
  split <;> rfl
/-- From an index on. -/
theorem Y.cutJ {T el k b n c l : Nat} {x q : Operand} {ik : IntKind} (hT : Und P T (.slice el)) (hk : ∀ w, (sizeOf el).run P w = .ok k w) (hx : ev e x = .slice (some ⟨b, 0, none⟩) n c) (hq : ev e q = .int ik (l : Int)) (h1 : l ≤ n) (h2 : n ≤ c) :
    Y P ⟨d, .slice T x (some q) none none, t, pos, af, g⟩ e w (.slice (some ⟨b, if c = l then 0 else l * k, none⟩) (n - l) (c - l)) := by
  refine (Y.slicesl hT hk hx (.inr ⟨q, ik, rfl, hq⟩) (.inl ⟨rfl, rfl⟩) h1 h2).is ?_
  split <;> simp
end
set_option maxHeartbeats 1000000 in
theorem GrowRul_ok {B : Base} {h : Heap} {M : List SA} {w : World} (I : Inv B h M w) (n : Nat) (hn : n ≤ 1000) :
    Calls Try.prog 51 [.slice none 0 0, .int .i64 n].toArray w
      (fun ed w' => ∃ v, ed = .returned v ∧ Inv B h (ownSl 49 5 v 0 [] :: M) w') := by
  refine Calls.ofWP (args := [.slice none 0 0, .int .i64 n]) Try.func51 rfl Try.ntmps51 (by kernel_rfl) (by simp) ?_
  intro e
  refine WP.seq ?_
  refine WP.region ?_
  refine Ops.y (v := .slice _ _ _) (Y.assign rfl) ?_
  refine Ops.nil ?_
  refine WP.seq ?_
  refine WP.seq ?_
  refine WP.region ?_
  refine Ops.y (v := .int .i64 _) (Y.move rfl) ?_
  refine Ops.y (v := .bool false) (Y.dec_f (Y.lti rfl rfl) ((by omega))) ?_
  refine Ops.nil ?_
  refine WP.cond_f rfl ?_
  refine WP.skip ?_
  refine WP.seq ?_
  refine WP.seq ?_
  refine WP.region ?_
  refine Ops.y (v := .int .i64 _) (Y.move rfl) ?_
  refine Ops.y (v := .slice _ _ _) (Y.move rfl) ?_
  refine Ops.y (v := .int .i64 _) (Y.caps Try.underlying23 rfl) ?_
  refine Ops.y (v := .slice _ _ _) (Y.move rfl) ?_
  refine Ops.y (v := .int .i64 _) (Y.lens Try.underlying23 rfl) ?_
  refine Ops.y (v := .int .i64 _) (Y.subi rfl rfl ⟨by omega, by omega⟩) ?_
  refine Ops.y (v := .int .i64 _) (Y.subi rfl rfl ⟨by omega, by omega⟩) ?_
  refine Ops.y (v := .int .i64 _) (Y.assign rfl) ?_
  refine Ops.nil ?_
  refine WP.seq ?_
  refine WP.region ?_
  refine Ops.y (v := .int .i64 _) (Y.move rfl) ?_
  refine Ops.y (v := .bool (decide _)) (Y.gti rfl rfl) ?_
  refine Ops.nil ?_
  refine WP.cond_dec rfl (fun h4 => ?_) (fun h4 => ?_)
  · refine WP.region ?_
    refine Ops.y (v := .slice _ _ _) (Y.move rfl) ?_
    refine Ops.y (v := .slice _ _ _) (Y.move rfl) ?_
    refine Ops.y (v := .int .i64 _) (Y.caps Try.underlying23 rfl) ?_
    refine Ops.y (v := .slice _ _ _) (Y.slicenil Try.underlying23 Try.sizeOf49 rfl (.inl rfl) (.inr ⟨_, _, rfl, rfl⟩)) ?_
    refine Ops.y (v := .int .i64 _) (Y.move rfl) ?_
    refine Ops.go (O.growZ (n := n) I Try.underlying23 Try.underlying3 et_49 rfl rfl (by omega) (by omega) (by omega) ?_)
    intro gg cap xs w I
    obtain ⟨_, hcap⟩ := I.shapeOwn 0 rfl
    refine Ops.y (v := .slice _ _ _) (Y.move rfl) ?_
    refine Ops.y (v := .int .i64 _) (Y.lens Try.underlying23 rfl) ?_
    refine Ops.y (v := .slice _ _ _) (Y.cutO (l := 0) (h' := 0) Try.underlying23 Try.sizeOf49 rfl (.inl ⟨rfl, rfl⟩) (.inr ⟨_, _, rfl, rfl⟩) (by omega) (by omega) (by omega)) ?_
    refine Ops.y (v := .slice _ _ _) (Y.assign rfl) ?_
    refine Ops.nil ?_
    refine WP.seq ?_
    refine WP.region ?_
    refine Ops.y (v := .slice _ _ _) (Y.move rfl) ?_
    refine Ops.y (v := .slice _ _ _) (Y.assign rfl) ?_
    refine Ops.nil ?_
    refine WP.ret ?_
    repeat (first | refine thenE_ret ?_ | refine blockE_ret ?_)
    exact ⟨.inl rfl, [.slice (some ⟨gg, 0, none⟩) 0 cap], ⟨rfl, trivial⟩, _, rfl, I.cutSl (m := 0) (by omega)⟩
  · obtain rfl : n = 0 := by omega
    refine WP.skip ?_
    refine WP.seq ?_
    refine WP.region ?_
    refine Ops.y (v := .slice _ _ _) (Y.move rfl) ?_
    refine Ops.y (v := .slice _ _ _) (Y.assign rfl) ?_
    refine Ops.nil ?_
    refine WP.ret ?_
    repeat (first | refine thenE_ret ?_ | refine blockE_ret ?_)
    exact ⟨.inl rfl, [.slice none 0 0], ⟨rfl, trivial⟩, _, rfl, I.nilSl _ _⟩
theorem rul_len (x : Rul) : x.enc.length = 5 := rfl
theorem rul_one1 (x : Rul) : oneCells x.enc = true := rfl
theorem rul_one (xs : List Rul) : oneCells (xs.flatMap Rul.enc) = true := by
  simp only [oneCells, List.all_flatMap]
  rw [List.all_eq_true]
  intro x _
  exact rul_one1 x
@[reducible] def slE (s : Sl Rul) : List Value := [s.val]
def catL (l : List (Sl Rul)) : List Rul := l.flatMap (·.xs)
theorem catL_take {l : List (Sl Rul)} {k : Nat} (hk : k < l.length) : catL (l.take (k + 1)) = catL (l.take k) ++ l[k].xs := by unfold catL; exact flat_take_succ _ hk
theorem catL_le (l : List (Sl Rul)) (k : Nat) : (catL (l.take k)).length ≤ (catL l).length := flat_take_le _ _ _
set_option maxHeartbeats 4000000 in
theorem ConcatRul_ok (B : Base) (hB : B.ok) (l : Sl (Sl Rul)) (hl : l.Is 1 slE B.h) (hin : ∀ s ∈ l.xs, s.Is 5 Rul.enc B.h) (hsz : (catL l.xs).length ≤ 1000) :
    Fn Try.prog 23 [l.val] B (OwS 49 5 Rul.enc B.h (catL l.xs)) := by
  have hsm := hl.small
  refine Fn.of Try.func23 rfl Try.ntmps23 (by kernel_rfl) (by simp) ?_
  intro e
  have I := Inv.start hB
  refine WP.seq ?_
  refine WP.region ?_
  refine Ops.y (v := .slice _ _ _) (Y.assign rfl) ?_
  refine Ops.nil ?_
  refine WP.seq ?_
  refine WP.region ?_
  refine Ops.y (v := .int .i64 _) (Y.assign rfl) ?_
  refine Ops.nil ?_
  refine WP.seq ?_
  refine WP.seq ?_
  refine WP.region ?_
  refine Ops.y (v := .slice _ _ _) (Y.move rfl) ?_
  refine Ops.y (v := .int .i64 _) (Y.lens Try.underlying99 rfl) ?_
  refine Ops.y (v := .int .i64 _) (Y.move rfl) ?_
  refine Ops.nil ?_
  refine WP.block ?_
  refine WP.loopE (σ := Nat) (fun k => [(0, l.val), (3, .int .i64 (catL (l.xs.take k)).length), (9, l.val), (10, .int .i64 l.xs.length), (11, .int .i64 k)])
    (fun k w => Inv B B.h [] w ∧ k ≤ l.xs.length) (fun k => l.xs.length - k) ⟨0, ⟨rfl, rfl, rfl, rfl, rfl, trivial⟩, I, Nat.zero_le _⟩ ?_
  rintro k e w ⟨I, hk⟩
  refine WP.seq ?_
  refine WP.region ?_
  refine Ops.y (v := .bool (decide _)) (Y.lti rfl rfl) ?_
  refine Ops.nil ?_
  refine WP.seq ?_
  refine WP.cond_dec rfl (fun h3 => ?_) (fun h3 => ?_)
  · have hk' : k < l.xs.length := by omega
    have E := hl.at hk'
    have hc := catL_take hk'
    have hle := catL_le l.xs (k + 1)
    rw [hc, List.length_append] at hle
    refine WP.skip ?_
    refine WP.seq ?_
    refine WP.block ?_
    refine WP.seq ?_
    refine WP.region ?_
    refine Ops.y (v := .pointer (some ⟨_, _, none⟩)) (Y.idxEl E Try.underlying99 Try.sizeOf23 rfl rfl (Int.natCast_nonneg _) rfl) ?_
    refine Ops.y (v := .slice _ _ _) (Y.loadv ty_23 rfl (I.rd (E.rd.part 0 1)) rfl rfl) ?_
    refine Ops.y (v := .slice _ _ _) (Y.assign rfl) ?_
    refine Ops.nil ?_
    refine WP.seq ?_
    refine WP.region ?_
    refine Ops.y (v := .int .i64 _) (Y.move rfl) ?_
    refine Ops.y (v := .slice _ _ _) (Y.move rfl) ?_
    refine Ops.y (v := .int .i64 _) (Y.lens Try.underlying23 rfl) ?_
    refine Ops.y (v := .int .i64 _) (Y.addi rfl rfl ⟨by omega, by omega⟩) ?_
    refine Ops.y (v := .int .i64 _) (Y.assign rfl) ?_
    refine Ops.nil ?_
    refine WP.seq ?_
    refine WP.region ?_
    refine Ops.y (v := .int .i64 _) (Y.move rfl) ?_
    refine Ops.y (v := .bool false) (Y.dec_f (Y.lti rfl rfl) ((by omega))) ?_
    refine Ops.nil ?_
    refine WP.cond_f rfl ?_
    refine WP.skip ?_
    refine WP.region ?_
    refine Ops.y (v := .int .i64 _) (Y.addi rfl rfl ⟨by omega, by omega⟩) ?_
    refine Ops.y (v := .int .i64 _) (Y.move rfl) ?_
    refine Ops.nil ?_
    exact ⟨k + 1, ⟨⟨rfl, by rw [hc, List.length_append]; exact congrArg (Value.int IntKind.i64) (by omega), rfl, rfl, rfl, trivial⟩, I, by omega⟩, by omega⟩
  obtain rfl : k = l.xs.length := by omega
  refine WP.exit ?_
  refine WP.seq ?_
  refine WP.region ?_
  refine Ops.y (v := .int .i64 _) (Y.move rfl) ?_
  refine Ops.go (O.calls Try.call51 (GrowRul_ok I _ (Nat.le_trans (catL_le l.xs _) hsz)) rfl ?_)
  rintro ed w ⟨v, rfl, I⟩
  refine ⟨_, rfl, ?_⟩
  refine Ops.y (v := v) (Y.assign rfl) ?_
  refine Ops.nil ?_
  refine WP.seq ?_
  refine WP.seq ?_
  refine WP.region ?_
  refine Ops.y (v := .slice _ _ _) (Y.move rfl) ?_
  refine Ops.y (v := .int .i64 _) (Y.lens Try.underlying99 rfl) ?_
  refine Ops.y (v := .int .i64 _) (Y.move rfl) ?_
  refine Ops.nil ?_
  refine WP.block ?_
  refine WP.loopE (σ := Nat × Value) (fun s => [(6, s.2), (25, l.val), (26, .int .i64 l.xs.length), (27, .int .i64 s.1)])
    (fun s w => Inv B B.h [ownSl 49 5 s.2 (catL (l.xs.take s.1)).length ((catL (l.xs.take s.1)).flatMap Rul.enc)] w ∧ s.1 ≤ l.xs.length) (fun s => l.xs.length - s.1) ⟨(0, v), ⟨rfl, rfl, rfl, rfl, trivial⟩, I, Nat.zero_le _⟩ ?_
  rintro ⟨k, v⟩ e w ⟨I, hk⟩
  dsimp only at I hk ⊢
  refine WP.seq ?_
  refine WP.region ?_
  refine Ops.y (v := .bool (decide _)) (Y.lti rfl rfl) ?_
  refine Ops.nil ?_
  refine WP.seq ?_
  refine WP.cond_dec rfl (fun h11 => ?_) (fun h11 => ?_)
  · have hk' : k < l.xs.length := by omega
    have E := hl.at hk'
    have hc := catL_take hk'
    have hle := catL_le l.xs (k + 1)
    rw [hc, List.length_append] at hle
    have hs := hin _ (List.getElem_mem hk')
    refine WP.skip ?_
    refine WP.seq ?_
    refine WP.block ?_
    refine WP.seq ?_
    refine WP.region ?_
    refine Ops.y (v := .pointer (some ⟨_, _, none⟩)) (Y.idxEl E Try.underlying99 Try.sizeOf23 rfl rfl (Int.natCast_nonneg _) rfl) ?_
    refine Ops.y (v := .slice _ _ _) (Y.loadv ty_23 rfl (I.rd (E.rd.part 0 1)) rfl rfl) ?_
    refine Ops.y (v := .slice _ _ _) (Y.assign rfl) ?_
    refine Ops.nil ?_
    refine WP.region ?_
    refine Ops.y (v := v) (Y.move rfl) ?_
    refine Ops.y (v := .slice _ _ _) (Y.move rfl) ?_
    refine Ops.go (O.appendL I Try.underlying23 et_49 0 rfl rul_len rul_one1 hs.el rfl rfl (by omega) (by omega) ?_)
    intro v' w I
    refine Ops.y (v := v') (Y.assign rfl) ?_
    refine Ops.nil ?_
    refine WP.region ?_
    refine Ops.y (v := .int .i64 _) (Y.addi rfl rfl ⟨by omega, by omega⟩) ?_
    refine Ops.y (v := .int .i64 _) (Y.move rfl) ?_
    refine Ops.nil ?_
    exact ⟨(k + 1, v'), ⟨⟨rfl, rfl, rfl, rfl, trivial⟩, by dsimp only; rw [hc, List.length_append, List.flatMap_append]; exact I, by dsimp only; omega⟩, by dsimp only; omega⟩
  obtain rfl : k = l.xs.length := by omega
  rw [List.take_length] at I
  obtain ⟨h8, s, le8, rfl, hx, ow, I⟩ := I.settleO rfl
  refine WP.exit ?_
  refine WP.seq ?_
  refine WP.region ?_
  refine Ops.y (v := .slice _ _ _) (Y.move rfl) ?_
  refine Ops.y (v := .slice _ _ _) (Y.assign rfl) ?_
  refine Ops.nil ?_
  refine WP.ret ?_
  repeat (first | refine thenE_ret ?_ | refine blockE_ret ?_)
  exact retQ.mk (vs := [.slice _ _ _]) rfl ⟨rfl, trivial⟩ I.ext_of (⟨s, rfl, hx, ow⟩)
set_option maxHeartbeats 4000000 in
theorem DelRul_ok {B : Base} {h : Heap} {M : List SA} {w : World} {gg c m i : Nat} {xs : List Rul} (I : Inv B h (ownSl 49 5 (.slice (some ⟨gg, 0, none⟩) m c) m (xs.flatMap Rul.enc) :: M) w) (hm : m = xs.length) (hi : i < m) (hsz : m ≤ 1000) :
    Calls Try.prog 24 [.slice (some ⟨gg, 0, none⟩) m c, .int .i64 i, .int .i64 (i + 1)].toArray w
      (fun ed w' => ∃ v h', ed = .returned v ∧ h.le h' ∧ Inv B h' (ownSl 49 5 v (m - 1) ((xs.eraseIdx i).flatMap Rul.enc) :: M) w') := by
  obtain ⟨_, hcap⟩ := I.shapeOwn 0 rfl
  refine Calls.ofWP (args := [.slice (some ⟨gg, 0, none⟩) m c, .int .i64 i, .int .i64 (i + 1)]) Try.func24 rfl Try.ntmps24 (by kernel_rfl) (by simp) ?_
  intro e
  refine WP.seq ?_
  refine WP.region ?_
  refine Ops.y (v := .slice _ _ _) (Y.assign rfl) ?_
  refine Ops.nil ?_
  refine WP.seq ?_
  refine WP.region ?_
  refine Ops.y (v := .slice _ _ _) (Y.move rfl) ?_
  refine Ops.y (v := .int .i64 _) (Y.move rfl) ?_
  refine Ops.y (v := .int .i64 _) (Y.move rfl) ?_
  refine Ops.y (v := .slice _ _ _) (Y.move rfl) ?_
  refine Ops.y (v := .int .i64 _) (Y.lens Try.underlying23 rfl) ?_
  refine Ops.y (v := .slice _ _ _) (Y.slice3 (i := i) (j := i + 1) (m := m) Try.underlying23 Try.sizeOf49 rfl rfl rfl rfl (by omega) (by omega) (by omega)) ?_
  refine Ops.nil ?_
  refine WP.seq ?_
  refine WP.seq ?_
  refine WP.region ?_
  refine Ops.y (v := .int .i64 _) (Y.move rfl) ?_
  refine Ops.y (v := .int .i64 _) (Y.move rfl) ?_
  refine Ops.y (v := .bool false) (Y.dec_f (Y.eqi rfl rfl) ((by omega))) ?_
  refine Ops.nil ?_
  refine WP.cond_f rfl ?_
  refine WP.skip ?_
  refine WP.seq ?_
  refine WP.region ?_
  refine Ops.y (v := .slice _ _ _) (Y.move rfl) ?_
  refine Ops.y (v := .int .i64 _) (Y.lens Try.underlying23 rfl) ?_
  refine Ops.y (v := .int .i64 _) (Y.assign rfl) ?_
  refine Ops.nil ?_
  have hfl : (xs.flatMap Rul.enc).take (i * 5) ++ (xs.flatMap Rul.enc).drop ((i + 1) * 5) = (xs.eraseIdx i).flatMap Rul.enc := by rw [flat_take rul_len, flat_drop rul_len, ← List.flatMap_append, List.eraseIdx_eq_take_drop_succ]
  refine WP.seq ?_
  refine WP.regionF mixed I 6 (by kernel_rfl) ?_
  refine OpsF.y_ (v := .slice _ _ _) (fun _ => runs_none _) (fun _ w us hl I => Y.move rfl) ?_
  refine OpsF.y_ (v := .int .i64 _) (fun _ => runs_none _) (fun _ w us hl I => Y.move rfl) ?_
  refine OpsF.y_ (v := .slice _ _ _) (fun _ => runs_none _) (fun _ w us hl I => Y.cutO (l := 0) (h' := i) Try.underlying23 Try.sizeOf49 rfl (.inl ⟨rfl, rfl⟩) (.inr ⟨_, _, rfl, rfl⟩) (by omega) (by omega) (by omega)) ?_
  refine OpsF.y_ (v := .slice _ _ _) (fun _ => runs_none _) (fun _ w us hl I => Y.move rfl) ?_
  refine OpsF.y_ (v := .int .i64 _) (fun _ => runs_none _) (fun _ w us hl I => Y.move rfl) ?_
  refine OpsF.y_ (v := .slice _ _ _) (fun _ => runs_none _) (fun _ w us hl I => Y.cutJ (l := i + 1) Try.underlying23 Try.sizeOf49 rfl rfl (by omega) (by omega)) ?_
  refine OpsF.nil ?_
  intro _ w hl I
  refine Ops.go (O.closeUp (i := i) (j := i + 1) I Try.underlying23 et_49 (rul_one xs) (by omega) (by omega) rfl rfl (by split <;> omega) ?_)
  intro w I
  refine Ops.y (v := .slice _ _ _) (Y.assign rfl) ?_
  refine Ops.nil ?_
  rw [hfl] at I
  refine WP.seq ?_
  refine WP.region ?_
  refine Ops.y (v := .slice _ _ _) (Y.move rfl) ?_
  refine Ops.y (v := .slice _ _ _) (Y.move rfl) ?_
  refine Ops.y (v := .int .i64 _) (Y.lens Try.underlying23 rfl) ?_
  refine Ops.y (v := .int .i64 _) (Y.move rfl) ?_
  refine Ops.y (v := .slice _ _ _) (Y.cutO (l := i + (m - (i + 1))) (h' := m) Try.underlying23 Try.sizeOf49 rfl (.inr ⟨_, _, rfl, rfl⟩) (.inr ⟨_, _, rfl, rfl⟩) (by omega) (by omega) (by omega)) ?_
  refine Ops.go (O.clearS I Try.underlying23 et_49 (by simp [Value.cells, Value.oneCell']) rfl (by omega) rfl (by omega) ?_)
  intro w I
  refine Ops.nil ?_
  refine WP.seq ?_
  refine WP.region ?_
  refine Ops.y (v := .slice _ _ _) (Y.move rfl) ?_
  refine Ops.y (v := .slice _ _ _) (Y.assign rfl) ?_
  refine Ops.nil ?_
  refine WP.ret ?_
  repeat (first | refine thenE_ret ?_ | refine blockE_ret ?_)
  rw [show i + (m - (i + 1)) = m - 1 by omega] at I
  exact ⟨.inl rfl, [.slice (some ⟨gg, 0, none⟩) (i + (m - (i + 1))) c], ⟨rfl, trivial⟩, _, _, rfl, hl, by rw [show i + (m - (i + 1)) = m - 1 by omega]; exact I⟩
theorem DelRul_v {B : Base} {h : Heap} {M : List SA} {w : World} {v : Value} {m i : Nat} {xs : List Rul} (I : Inv B h (ownSl 49 5 v m (xs.flatMap Rul.enc) :: M) w) (hm : m = xs.length) (hi : i < m) (hsz : m ≤ 1000) :
    Calls Try.prog 24 [v, .int .i64 i, .int .i64 (i + 1)].toArray w
      (fun ed w' => ∃ v h', ed = .returned v ∧ h.le h' ∧ Inv B h' (ownSl 49 5 v (m - 1) ((xs.eraseIdx i).flatMap Rul.enc) :: M) w') := by
  rcases (I.at 0 rfl).2 with ⟨_, h0⟩ | ⟨gg, cap, cur, rfl, _⟩
  · omega
  · exact DelRul_ok I hm hi hsz
/-! ### Cuts of what is known -/
section
variable {P : Program} {e : Env} {w : World} {t : TypeId} {pos : String} {af : Array Edge} {g : Option (Nat × Bool)} {d : Option Nat} {α : Type}
@[reducible] def Sl.takeS (s : Sl α) (l : Nat) : Sl α := ⟨s.at_, s.cap, s.xs.take l⟩
@[reducible] def Sl.dropS (s : Sl α) (k l : Nat) : Sl α := ⟨some (if s.cap = l then ⟨s.blk, s.off, none⟩ else ⟨s.blk, s.off + l * k, none⟩), s.cap - l, s.xs.drop l⟩
theorem Y.takeS {T el k l : Nat} {ik : IntKind} {x q : Operand} {s : Sl α} (ha : s.at_ = some ⟨s.blk, s.off, none⟩) (hT : Und P T (.slice el)) (hk : ∀ w, (sizeOf el).run P w = .ok k w) (hx : ev e x = s.val) (hq : ev e q = .int ik (l : Int)) (hl : l ≤ s.xs.length) (hc : s.xs.length ≤ s.cap) :
    Y P ⟨d, .slice T x none (some q) none, t, pos, af, g⟩ e w (s.takeS l).val := by
  have hx' : ev e x = .slice (some ⟨s.blk, s.off, none⟩) s.xs.length s.cap := by rw [hx]; unfold Sl.val; rw [← ha]
  refine (Y.slicesl (l := 0) (h := l) hT hk hx' (.inl ⟨rfl, rfl⟩) (.inr ⟨q, ik, rfl, hq⟩) (Nat.zero_le _) (by omega)).is ?_
  simp [Sl.val, Nat.min_eq_left hl]
  exact ha.symm
theorem Y.dropS {T el k l : Nat} {ik : IntKind} {x q : Operand} {s : Sl α} (ha : s.at_ = some ⟨s.blk, s.off, none⟩) (hT : Und P T (.slice el)) (hk : ∀ w, (sizeOf el).run P w = .ok k w) (hx : ev e x = s.val) (hq : ev e q = .int ik (l : Int)) (hl : l ≤ s.xs.length) (hc : s.xs.length ≤ s.cap) :
    Y P ⟨d, .slice T x (some q) none none, t, pos, af, g⟩ e w (s.dropS k l).val := by
  have hx' : ev e x = .slice (some ⟨s.blk, s.off, none⟩) s.xs.length s.cap := by rw [hx]; unfold Sl.val; rw [← ha]
  refine (Y.slicesl (l := l) (h := s.xs.length) hT hk hx' (.inr ⟨q, ik, rfl, hq⟩) (.inl ⟨rfl, rfl⟩) hl hc).is ?_
  simp [Sl.val]
theorem takeS_is {s : Sl α} {k l : Nat} {enc : α → List Value} {h : Heap} (hs : s.Is k enc h) : (s.takeS l).Is k enc h := by
  refine ⟨fun i x hx => hs.el i x ?_, ?_⟩
  · rw [List.getElem?_take] at hx
    split at hx
    · exact hx
    · cases hx
  · have := hs.small
    show (s.xs.take l).length ≤ _
    rw [List.length_take]; omega
theorem dropS_is {s : Sl α} {k l : Nat} {enc : α → List Value} {h : Heap} (hs : s.Is k enc h) (hl : l ≤ s.xs.length) (hc : s.xs.length ≤ s.cap) : (s.dropS k l).Is k enc h := by
  refine ⟨fun i x hx => ?_, ?_⟩
  · rw [List.getElem?_drop] at hx
    have hlt := (List.getElem?_eq_some_iff.1 hx).1
    have hne : s.cap ≠ l := by omega
    have e : s.dropS k l = ⟨some ⟨s.blk, s.off + l * k, none⟩, s.cap - l, s.xs.drop l⟩ := by unfold Sl.dropS; rw [if_neg hne]
    obtain ⟨_, h2⟩ := hs.el (l + i) x hx
    rw [e]
    refine ⟨rfl, ?_⟩
    show RdH h s.blk (s.off + l * k + i * k) (enc x)
    rw [Nat.add_assoc, ← Nat.add_mul]
    exact h2
  · have := hs.small
    show (s.xs.drop l).length ≤ _
    rw [List.length_drop]; omega
end
end Go.TF
end
section
/- Two programs in one, one without a rule: the program's answer and the document's. -/
namespace Go.TF
open Go Go.RowKit Go.Proofs
set_option maxRecDepth 20000

/-- Two slices in one struct. -/
def Pr2 (Φ Ψ : Sp) : Sp := fun u h => ∃ x y, u = .agg #[x, y] ∧ Φ x h ∧ Ψ y h
theorem Pr2.mono' {Φ Ψ : Sp} (h1 : MonoS Φ) (h2 : MonoS Ψ) : MonoS (Pr2 Φ Ψ) := fun _ _ _ hl ⟨x, y, a, b, c⟩ => ⟨x, y, a, h1 _ _ _ hl b, h2 _ _ _ hl c⟩
@[reducible] def PdS (h0 : Heap) (xs : List Prd) : Sp := OwS 56 3 Prd.enc h0 xs
@[reducible] def RlS (h0 : Heap) (xs : List Rul) : Sp := OwS 49 5 Rul.enc h0 xs
def PgS (h0 : Heap) (ps : List Prd) (rs : List Rul) : Sp := Pr2 (PdS h0 ps) (RlS h0 rs)
theorem PgS.mono {h0 : Heap} {ps : List Prd} {rs : List Rul} : MonoS (PgS h0 ps rs) := Pr2.mono' OwS.mono OwS.mono
theorem PdS.mono {h0 : Heap} {xs : List Prd} : MonoS (PdS h0 xs) := OwS.mono
theorem RlS.mono {h0 : Heap} {xs : List Rul} : MonoS (RlS h0 xs) := OwS.mono
/-- What comes: a program, its slices made by the call. -/
def SumO (h0 : Heap) (r : (List Prd × List Rul) × Int) (v : Value) (h : Heap) : Prop := ∃ a : Prg, v = .tuple #[a.val, .int .i64 r.2] ∧ a.preds.xs = r.1.1 ∧ a.rules.xs = r.1.2 ∧ OwnH 56 3 a.preds Prd.enc h0 h ∧ OwnH 49 5 a.rules Rul.enc h0 h
theorem own_prg {a : Prg} {h0 h : Heap} (hl : h0.le h) (o1 : OwnH 56 3 a.preds Prd.enc h0 h) (o2 : OwnH 49 5 a.rules Rul.enc h0 h) (h1 : a.preds.xs.length ≤ 5) (h2 : a.rules.xs.length ≤ 16) (he : ∀ r ∈ a.rules.xs, r.In h0) : a.In h :=
  ⟨⟨o1.in (fun _ => rfl), by omega⟩, ⟨⟨o2.in rul_len, by omega⟩, fun x hx => (he x hx).le hl⟩⟩
theorem cat_in {p q : Prg} {h : Heap} (hp : p.In h) (hq : q.In h) {l : Sl (Sl Rul)} (e : l.xs = [p.rules, q.rules]) : ∀ s ∈ l.xs, s.Is 5 Rul.enc h := by
  rw [e]
  intro s hs
  rcases List.mem_cons.1 hs with rfl | hs
  · exact hp.rules.is
  · rw [List.mem_singleton.1 hs]; exact hq.rules.is
theorem cat_each {p q : Prg} {h : Heap} (hp : p.In h) (hq : q.In h) : ∀ r ∈ p.rules.xs ++ q.rules.xs, r.In h := fun r hr => by
  rcases List.mem_append.1 hr with hr | hr
  · exact hp.rules.each r hr
  · exact hq.rules.each r hr
set_option maxHeartbeats 8000000 in
theorem Union_own (B : Base) (hB : B.ok) (p q : Prg) (hp : p.In B.h) (hq : q.In B.h) (hnm : p.Nm) (hnq : q.Nm) : Fn Try.prog 6 [p.val, q.val] B (SumO B.h (unionOf p q)) := by
  refine Fn.of Try.func6 rfl Try.ntmps6 (by kernel_rfl) (by simp) ?_
  intro e
  have I := Inv.start hB
  refine WP.seq ?_
  refine WP.region ?_
  refine Ops.go (O.box (v := .agg #[_, _]) I rfl rfl ?_)
  intro b2 w I
  refine Ops.go (O.box (v := .agg #[_, _]) I rfl rfl ?_)
  intro b3 w I
  refine Ops.go (O.alloc I Try.zeroValue25 rfl ?_)
  intro b4 w I
  refine Ops.y (v := .int .i64 _) (Y.assign rfl) ?_
  refine Ops.nil ?_
  refine WP.seq ?_
  refine WP.seq ?_
  refine WP.region ?_
  refine Ops.y (v := .agg #[_, _]) (Y.loadv ty_25 rfl (I.rdbox 2 rfl 0 2) rfl rfl) ?_
  refine Ops.y (v := .agg #[_, _]) (Y.loadv ty_25 rfl (I.rdbox 1 rfl 0 2) rfl rfl) ?_
  refine Ops.go (O.mksl (xs := [p, q]) (enc := Prg.enc) I Try.underlying52 Try.sizeOf25 Try.zeroValue25 rfl (Nat.le_of_ble_eq_true rfl) rfl rfl (by decide) (fun _ => rfl) ?_)
  intro b13 h13 w I le13 sl13
  refine Ops.y (v := .int .i64 _) (Y.lens Try.underlying52 rfl) ?_
  refine Ops.y (v := .int .i64 _) (Y.move rfl) ?_
  refine Ops.nil ?_
  refine WP.block ?_
  refine WP.loopE (σ := Nat) (fun k => [(2, .pointer (some ⟨b2, 0, none⟩)), (3, .pointer (some ⟨b3, 0, none⟩)), (4, .pointer (some ⟨b4, 0, none⟩)), (13, .slice (some ⟨b13, 0, none⟩) 2 2), (14, .int .i64 2), (15, .int .i64 k)])
    (fun k w => Inv B h13 [box b4 [.slice none 0 0, .slice none 0 0] 25, box b3 q.enc 25, box b2 p.enc 25] w ∧ k ≤ 2 ∧ ∀ j (hj : j < k) (hj2 : j < 2), checkProg ([p, q][j]'hj2) = 0) (fun k => 2 - k)
    ⟨0, ⟨rfl, rfl, rfl, rfl, rfl, rfl, trivial⟩, I, Nat.zero_le _, fun j hj => by omega⟩ ?_
  rintro k e w ⟨I, hk, hc⟩
  refine WP.seq ?_
  refine WP.region ?_
  refine Ops.y (v := .bool (decide _)) (Y.lti rfl rfl) ?_
  refine Ops.nil ?_
  refine WP.seq ?_
  refine WP.cond_dec rfl (fun h2 => ?_) (fun h2 => ?_)
  · have hk' : k < 2 := by omega
    obtain ⟨x, hx⟩ : ∃ x, [p, q][k]'hk' = x := ⟨_, rfl⟩
    have hxin : x.In h13 ∧ x.Nm := by
      have : k = 0 ∨ k = 1 := by omega
      rcases this with rfl | rfl
      · subst hx; exact ⟨hp.le le13, hnm⟩
      · subst hx; exact ⟨hq.le le13, hnq⟩
    have E : El (⟨some ⟨b13, 0, none⟩, 2, [p, q]⟩ : Sl Prg) 2 Prg.enc h13 k x := sl13.el (by rw [List.getElem?_eq_getElem hk', hx])
    refine WP.skip ?_
    refine WP.seq ?_
    refine WP.block ?_
    refine WP.seq ?_
    refine WP.region ?_
    refine Ops.y (v := .pointer (some ⟨_, _, none⟩)) (Y.idxEl E Try.underlying52 Try.sizeOf25 rfl rfl (Int.natCast_nonneg _) rfl) ?_
    refine Ops.y (v := .agg #[_, _]) (Y.loadv ty_25 rfl (I.rd (E.rd.part 0 2)) rfl rfl) ?_
    refine Ops.go (O.alloc I Try.zeroValue25 rfl ?_)
    intro b7 w I
    refine Ops.go (O.store (v := .agg #[_, _]) I ty_25 0 rfl rfl rfl rfl rfl rfl (Nat.le_of_ble_eq_true rfl) rfl ?_)
    intro w I
    refine Ops.nil ?_
    refine WP.seq ?_
    refine WP.region ?_
    refine Ops.y (v := .agg #[_, _]) (Y.loadv ty_25 rfl (I.rdbox 0 rfl 0 2) rfl rfl) ?_
    refine Ops.go (O.callv I Try.call20 (PCheck_ok _ I.base_ok x hxin.1 hxin.2) rfl ?_)
    intro w I
    refine Ops.y (v := .int .i64 _) (Y.assign rfl) ?_
    refine Ops.nil ?_
    refine WP.seq ?_
    refine WP.region ?_
    refine Ops.y (v := .int .i64 _) (Y.move rfl) ?_
    refine Ops.y (v := .bool (decide _)) (Y.nei rfl rfl) ?_
    refine Ops.nil ?_
    refine WP.cond_dec rfl (fun h5 => ?_) (fun h5 => ?_)
    · have hr : unionOf p q = (([], []), checkProg x) := by
        have : k = 0 ∨ k = 1 := by omega
        rcases this with rfl | rfl
        · obtain rfl : p = x := hx
          unfold unionOf; rw [if_pos h5]
        · obtain rfl : q = x := hx
          have h0 : checkProg p = 0 := hc 0 (by omega) (by omega)
          unfold unionOf; rw [if_neg (by rw [h0]; decide), if_pos h5]
      refine WP.seq ?_
      refine WP.region ?_
      refine Ops.y (v := .agg #[.slice _ _ _, .slice _ _ _]) (Y.build pl_25 Try.zeroValue25 rfl rfl) ?_
      refine Ops.y (v := .int .i64 _) (Y.move rfl) ?_
      refine Ops.go (O.store (v := .agg #[_, _]) I ty_25 1 rfl rfl rfl rfl rfl rfl (Nat.le_of_ble_eq_true rfl) rfl ?_)
      intro w I
      refine Ops.y (v := .int .i64 _) (Y.assign rfl) ?_
      refine Ops.nil ?_
      refine WP.ret ?_
      repeat (first | refine thenE_ret ?_ | refine blockE_ret ?_)
      exact retQ.mk (vs := [.agg #[_, _], .int .i64 _]) rfl ⟨⟨_, _, _, _, _, rfl, ty_25, I.rdbox 1 rfl 0 2, rfl, rfl⟩, rfl, trivial⟩ I.ext_of (by rw [hr]; exact ⟨⟨⟨none, 0, []⟩, ⟨none, 0, []⟩⟩, rfl, rfl, rfl, .inl rfl, .inl rfl⟩)
    have h5 : checkProg x = 0 := Decidable.not_not.1 h5
    refine WP.skip ?_
    refine WP.region ?_
    refine Ops.y (v := .int .i64 _) (Y.addi rfl rfl ⟨by omega, by omega⟩) ?_
    refine Ops.y (v := .int .i64 _) (Y.move rfl) ?_
    refine Ops.nil ?_
    exact ⟨k + 1, ⟨⟨rfl, rfl, rfl, rfl, rfl, rfl, trivial⟩, I.drop, by omega, fun j hj hj2 => by
      rcases Nat.lt_succ_iff_lt_or_eq.1 hj with h | rfl
      · exact hc j h hj2
      · rw [hx]; exact h5⟩, by omega⟩
  obtain rfl : k = 2 := by omega
  have hcp : checkProg p = 0 := hc 0 (by omega) (by omega)
  have hcq : checkProg q = 0 := hc 1 (by omega) (by omega)
  obtain ⟨n5, n8, _⟩ := checkProg_ok hcp
  obtain ⟨m5, m8, _⟩ := checkProg_ok hcq
  refine WP.exit ?_
  refine WP.seq ?_
  refine WP.seq ?_
  refine WP.region ?_
  refine Ops.y (v := .pointer (some ⟨_, _, none⟩)) (Y.fa0 fa_25_0 rfl) ?_
  refine Ops.y (v := .slice _ _ _) (Y.loadv ty_22 rfl (I.rdbox 2 rfl 0 1) rfl rfl) ?_
  refine Ops.y (v := .pointer (some ⟨_, _, none⟩)) (Y.fa0 fa_25_0 rfl) ?_
  refine Ops.y (v := .slice _ _ _) (Y.loadv ty_22 rfl (I.rdbox 1 rfl 0 1) rfl rfl) ?_
  refine Ops.go (O.callv I Try.call21 (EqualPrd_ok _ I.base_ok p.preds q.preds (hp.le le13).preds (hq.le le13).preds) rfl ?_)
  intro w I
  refine Ops.y (v := .bool _) (Y.not rfl) ?_
  refine Ops.nil ?_
  refine WP.cond rfl (fun h8 => ?_) (fun h8 => ?_)
  · have h8 : p.preds.xs ≠ q.preds.xs := by simpa using h8
    refine WP.seq ?_
    refine WP.region ?_
    refine Ops.y (v := .agg #[.slice _ _ _, .slice _ _ _]) (Y.build pl_25 Try.zeroValue25 rfl rfl) ?_
    refine Ops.go (O.store (v := .agg #[_, _]) I ty_25 0 rfl rfl rfl rfl rfl rfl (Nat.le_of_ble_eq_true rfl) rfl ?_)
    intro w I
    refine Ops.y (v := .int .i64 _) (Y.assign rfl) ?_
    refine Ops.nil ?_
    refine WP.ret ?_
    repeat (first | refine thenE_ret ?_ | refine blockE_ret ?_)
    exact retQ.mk (vs := [.agg #[_, _], .int .i64 _]) rfl ⟨⟨_, _, _, _, _, rfl, ty_25, I.rdbox 0 rfl 0 2, rfl, rfl⟩, rfl, trivial⟩ I.ext_of (by unfold unionOf; rw [if_neg (by rw [hcp]; decide), if_neg (by rw [hcq]; decide), if_pos h8]; exact ⟨⟨⟨none, 0, []⟩, ⟨none, 0, []⟩⟩, rfl, rfl, rfl, .inl rfl, .inl rfl⟩)
  have h8 : p.preds.xs = q.preds.xs := by simpa using h8
  have hcl : (catL [p.rules, q.rules]).length ≤ 1000 := by simp [catL]; omega
  refine WP.skip ?_
  refine WP.seq ?_
  refine WP.regionG mixed RUn.pre ⟨h13, none, none, none⟩ (J := JUn B [box b4 [.slice none 0 0, .slice none 0 0] 25, box b3 q.enc 25, box b2 p.enc 25] 0 0 0 0 [] [] 25 [.slice none 0 0, .slice none 0 0] 98 97 10) ⟨rfl, rfl, rfl, fun h => (by cases h), I.drew⟩ 11 (by kernel_rfl) ?_
  refine OpsG.y_ (v := .pointer (some ⟨_, _, none⟩)) (fun _ => runsG_none _) RUn.pre (JUn.set (by decide)) (fun _ s w us hl hj => have I := hj.base; have hl := hl.h; Y.fa0 fa_25_0 rfl) ?_
  refine OpsG.y_ (v := .slice _ _ _) (fun _ => runsG_none _) RUn.pre (JUn.set (by decide)) (fun _ s w us hl hj => have I := hj.base; have hl := hl.h; Y.loadv ty_22 rfl (I.rdbox 2 rfl 0 1) rfl rfl) ?_
  refine OpsG.x_ (Φ := KnUn (PdS B.h p.preds.xs)) (KnUn.mono PdS.mono) (fun _ => runsG_none _) (fun D' z w hDk hl hj => ?_) ?_
  · refine AllG.all fun us => ?_
    refine hj.know (by decide) fun N I => ?_
    have hl := hl.h
    refine O.call I Try.call22 (ClonePrd_ok _ I.base_ok p.preds ((hp.le le13).preds.le hl) (by omega)) rfl ?_
    rintro _ h1 w I hl' ⟨s, rfl, es, os, _⟩
    exact ⟨_, hl', I, ⟨s, rfl, es, os.older (le13.trans hl)⟩⟩
  refine OpsG.y_ (v := .pointer (some ⟨_, _, none⟩)) (fun _ => runsG_none _) RUn.pre (JUn.set (by decide)) (fun _ s w us hl hj => have I := hj.base; have hl := hl.h; Y.fa fa_25_1 rfl) ?_
  refine OpsG.y_ (v := .slice _ _ _) (fun _ => runsG_none _) RUn.pre (JUn.set (by decide)) (fun _ s w us hl hj => have I := hj.base; have hl := hl.h; Y.loadv ty_23 rfl (I.rdbox 2 rfl 1 1) rfl rfl) ?_
  refine OpsG.y_ (v := .pointer (some ⟨_, _, none⟩)) (fun _ => runsG_none _) RUn.pre (JUn.set (by decide)) (fun _ s w us hl hj => have I := hj.base; have hl := hl.h; Y.fa fa_25_1 rfl) ?_
  refine OpsG.y_ (v := .slice _ _ _) (fun _ => runsG_none _) RUn.pre (JUn.set (by decide)) (fun _ s w us hl hj => have I := hj.base; have hl := hl.h; Y.loadv ty_23 rfl (I.rdbox 1 rfl 1 1) rfl rfl) ?_
  refine OpsG.x_ (Φ := KnUn (SlS 1 slE [p.rules, q.rules])) (KnUn.mono SlS.mono) (fun _ => runsG_none _) (fun D' z w hDk hl hj => ?_) ?_
  · intro u35 q35
    refine hj.know (by decide) fun N I => ?_
    have hl := hl.h
    exact O.mksl (xs := [p.rules, q.rules]) (enc := slE) I Try.underlying99 Try.sizeOf23 Try.zeroValue23 rfl (Nat.le_of_ble_eq_true rfl) rfl rfl (by decide) (fun _ => rfl) (fun b h w I le sl => ⟨h, le, I, ⟨⟨some ⟨b, 0, none⟩, _, [p.rules, q.rules]⟩, rfl, rfl, ⟨sl, by simp⟩⟩⟩)
  refine OpsG.x_ (Φ := KnUn (RlS B.h (p.rules.xs ++ q.rules.xs))) (KnUn.mono RlS.mono) (fun _ => runsG_none _) (fun D' z w hDk hl hj => ?_) ?_
  · intro u35 q35 u40 q40
    obtain ⟨l8, rfl, e8, i8⟩ := q40 rfl
    refine hj.know (by decide) fun N I => ?_
    have hl := hl.h
    refine O.call I Try.call23 (ConcatRul_ok _ I.base_ok l8 i8 (cat_in ((hp.le le13).le hl) ((hq.le le13).le hl) e8) (by rw [e8]; exact hcl)) rfl ?_
    rintro _ h1 w I hl' ⟨s, rfl, es, os⟩
    exact ⟨_, hl', I, ⟨s, rfl, by rw [es, e8]; simp [catL], os.older (le13.trans hl)⟩⟩
  refine OpsG.x_ (Φ := KnUn (PgS B.h p.preds.xs (p.rules.xs ++ q.rules.xs))) (KnUn.mono PgS.mono) (fun _ => runsG_none _) (fun D' z w hDk hl hj => ?_) ?_
  · intro u35 q35 u40 q40 u41 q41
    obtain ⟨s1, rfl, e1, o1⟩ := q35 rfl
    obtain ⟨s2, rfl, e2, o2⟩ := q41 rfl
    refine hj.know (by decide) fun N I => ?_
    have hl := hl.h
    exact O.yx I (Y.build pl_25 Try.zeroValue25 rfl rfl) (⟨_, _, rfl, ⟨s1, rfl, e1, o1⟩, s2, rfl, e2, o2⟩)
  refine OpsG.x_ (Φ := AtU7) (AtU7.mono) (fun _ => runsG_none _) (fun D' z w hDk hl hj => ?_) ?_
  · intro u35 q35 u40 q40 u41 q41 u42 q42
    exact hj.make Try.zeroValue25 rfl hDk (by decide) (by decide)
  refine OpsG.nil ?_
  intro D z w hD hl hj u35 q35 u40 q40 u41 q41 u42 q42 u9 q9
  obtain ⟨b9, rfl, h9⟩ := q9 rfl
  have I := hj.box h9
  obtain ⟨_, _, rfl, ⟨s1, rfl, e1, o1⟩, s2, rfl, e2, o2⟩ := q42 rfl
  refine Ops.go (O.store (v := .agg #[_, _]) I ty_25 0 rfl rfl rfl rfl rfl rfl (Nat.le_of_ble_eq_true rfl) rfl ?_)
  intro w I
  refine Ops.nil ?_
  obtain ⟨a, ha⟩ : ∃ a : Prg, a = ⟨s1, s2⟩ := ⟨_, rfl⟩
  have ha1 : a.preds = s1 := by rw [ha]
  have ha2 : a.rules = s2 := by rw [ha]
  have gl := le13.trans hl.h
  have hin : a.In z.h := own_prg gl (ha1 ▸ o1) (ha2 ▸ o2) (by rw [ha1, e1]; exact n5) (by rw [ha2, e2, List.length_append]; omega) (by rw [ha2, e2]; exact cat_each hp hq)
  have hanm : a.Nm := by unfold Prg.Nm; rw [ha1, e1]; exact hnm
  have hcg : checkProg a = checkProg (mkP p.preds.xs (p.rules.xs ++ q.rules.xs)) := checkProg_congr (by rw [ha1, e1]; rfl) (by rw [ha2, e2]; rfl)
  have hu : unionOf p q = if checkProg a ≠ 0 then (([], []), checkProg a) else ((p.preds.xs, p.rules.xs ++ q.rules.xs), 0) := by
    unfold unionOf
    rw [if_neg (by rw [hcp]; decide), if_neg (by rw [hcq]; decide), if_neg (fun h => h h8), hcg]
  refine WP.seq ?_
  refine WP.seq ?_
  refine WP.region ?_
  refine Ops.y (v := .agg #[_, _]) (Y.loadv ty_25 rfl (I.rdbox 0 rfl 0 2) rfl rfl) ?_
  refine Ops.go (O.callv I Try.call20 (ha ▸ PCheck_ok _ I.base_ok a hin hanm) rfl ?_)
  intro w I
  refine Ops.y (v := .int .i64 _) (Y.assign rfl) ?_
  refine Ops.nil ?_
  refine WP.seq ?_
  refine WP.region ?_
  refine Ops.y (v := .int .i64 _) (Y.move rfl) ?_
  refine Ops.y (v := .bool (decide _)) (Y.nei rfl rfl) ?_
  refine Ops.nil ?_
  refine WP.cond_dec rfl (fun h12 => ?_) (fun h12 => ?_)
  · refine WP.seq ?_
    refine WP.region ?_
    refine Ops.y (v := .agg #[.slice _ _ _, .slice _ _ _]) (Y.build pl_25 Try.zeroValue25 rfl rfl) ?_
    refine Ops.y (v := .int .i64 _) (Y.move rfl) ?_
    refine Ops.go (O.store (v := .agg #[_, _]) I ty_25 1 rfl rfl rfl rfl rfl rfl (Nat.le_of_ble_eq_true rfl) rfl ?_)
    intro w I
    refine Ops.y (v := .int .i64 _) (Y.assign rfl) ?_
    refine Ops.nil ?_
    refine WP.ret ?_
    repeat (first | refine thenE_ret ?_ | refine blockE_ret ?_)
    exact retQ.mk (vs := [.agg #[_, _], .int .i64 _]) rfl ⟨⟨_, _, _, _, _, rfl, ty_25, I.rdbox 1 rfl 0 2, rfl, rfl⟩, rfl, trivial⟩ I.ext_of (by rw [hu, if_pos (ha ▸ h12)]; exact ⟨⟨⟨none, 0, []⟩, ⟨none, 0, []⟩⟩, by rw [ha]; rfl, rfl, rfl, .inl rfl, .inl rfl⟩)
  · refine WP.skip ?_
    refine WP.seq ?_
    refine WP.region ?_
    refine Ops.y (v := .agg #[_, _]) (Y.loadv ty_25 rfl (I.rdbox 0 rfl 0 2) rfl rfl) ?_
    refine Ops.go (O.store (v := .agg #[_, _]) I ty_25 1 rfl rfl rfl rfl rfl rfl (Nat.le_of_ble_eq_true rfl) rfl ?_)
    intro w I
    refine Ops.y (v := .int .i64 _) (Y.assign rfl) ?_
    refine Ops.nil ?_
    refine WP.ret ?_
    repeat (first | refine thenE_ret ?_ | refine blockE_ret ?_)
    exact retQ.mk (vs := [.agg #[_, _], .int .i64 _]) rfl ⟨⟨_, _, _, _, _, rfl, ty_25, I.rdbox 1 rfl 0 2, rfl, rfl⟩, rfl, trivial⟩ I.ext_of (by rw [hu, if_neg (ha ▸ h12)]; exact ⟨⟨s1, s2⟩, rfl, e1, e2, o1, o2⟩)
theorem SumO.err {h0 h : Heap} {e : Int} : SumO h0 (([], []), e) (.tuple #[.agg #[.slice none 0 0, .slice none 0 0], .int .i64 e]) h := ⟨⟨⟨none, 0, []⟩, ⟨none, 0, []⟩⟩, rfl, rfl, rfl, .inl rfl, .inl rfl⟩
theorem erase_len {rs : List Rul} {i : Nat} (h : i < rs.length) : rs.length - 1 = (rs.eraseIdx i).length := by rw [List.length_eraseIdx, if_pos h]
set_option maxHeartbeats 8000000 in
theorem Without_own (B : Base) (hB : B.ok) (p : Prg) (hp : p.In B.h) (hnm : p.Nm) (n : Int) : Fn Try.prog 7 [p.val, .int .i64 n] B (SumO B.h (withoutOf p n)) := by
  refine Fn.of Try.func7 rfl Try.ntmps7 (by kernel_rfl) (by simp) ?_
  intro e
  have I := Inv.start hB
  refine WP.seq ?_
  refine WP.region ?_
  refine Ops.go (O.box (v := .agg #[_, _]) I rfl rfl ?_)
  intro b2 w I
  refine Ops.go (O.alloc I Try.zeroValue25 rfl ?_)
  intro b4 w I
  refine Ops.y (v := .int .i64 _) (Y.assign rfl) ?_
  refine Ops.nil ?_
  refine WP.seq ?_
  refine WP.seq ?_
  refine WP.region ?_
  refine Ops.y (v := .agg #[_, _]) (Y.loadv ty_25 rfl (I.rdbox 1 rfl 0 2) rfl rfl) ?_
  refine Ops.go (O.callv I Try.call20 (PCheck_ok _ I.base_ok p hp hnm) rfl ?_)
  intro w I
  refine Ops.y (v := .int .i64 _) (Y.assign rfl) ?_
  refine Ops.nil ?_
  refine WP.seq ?_
  refine WP.region ?_
  refine Ops.y (v := .int .i64 _) (Y.move rfl) ?_
  refine Ops.y (v := .bool (decide _)) (Y.nei rfl rfl) ?_
  refine Ops.nil ?_
  refine WP.cond_dec rfl (fun h2 => ?_) (fun h2 => ?_)
  · refine WP.seq ?_
    refine WP.region ?_
    refine Ops.y (v := .agg #[.slice _ _ _, .slice _ _ _]) (Y.build pl_25 Try.zeroValue25 rfl rfl) ?_
    refine Ops.y (v := .int .i64 _) (Y.move rfl) ?_
    refine Ops.go (O.store (v := .agg #[_, _]) I ty_25 0 rfl rfl rfl rfl rfl rfl (Nat.le_of_ble_eq_true rfl) rfl ?_)
    intro w I
    refine Ops.y (v := .int .i64 _) (Y.assign rfl) ?_
    refine Ops.nil ?_
    refine WP.ret ?_
    repeat (first | refine thenE_ret ?_ | refine blockE_ret ?_)
    exact retQ.mk (vs := [.agg #[_, _], .int .i64 _]) rfl ⟨⟨_, _, _, _, _, rfl, ty_25, I.rdbox 0 rfl 0 2, rfl, rfl⟩, rfl, trivial⟩ I.ext_of (by unfold withoutOf; rw [if_pos h2]; exact SumO.err)
  have hpr := Decidable.not_not.1 h2
  obtain ⟨n5, n8, _⟩ := checkProg_ok hpr
  refine WP.skip ?_
  refine WP.seq ?_
  refine WP.seq ?_
  by_cases o0 : n < 0
  · refine WP.region ?_
    refine Ops.y (v := .int .i64 _) (Y.move rfl) ?_
    refine Ops.y (v := .bool true) (Y.dec_t (Y.lti rfl rfl) (o0)) ?_
    refine Ops.y (v := .bool _) (Y.move rfl) ?_
    refine Ops.gf rfl ?_
    refine Ops.gf rfl ?_
    refine Ops.gf rfl ?_
    refine Ops.gf rfl ?_
    refine Ops.gf rfl ?_
    refine Ops.y (v := .bool _) (Y.pick_t rfl rfl) ?_
    refine Ops.nil ?_
    refine WP.cond_t rfl ?_
    refine WP.seq ?_
    refine WP.region ?_
    refine Ops.y (v := .agg #[.slice _ _ _, .slice _ _ _]) (Y.build pl_25 Try.zeroValue25 rfl rfl) ?_
    refine Ops.go (O.store (v := .agg #[_, _]) I ty_25 0 rfl rfl rfl rfl rfl rfl (Nat.le_of_ble_eq_true rfl) rfl ?_)
    intro w I
    refine Ops.y (v := .int .i64 _) (Y.assign rfl) ?_
    refine Ops.nil ?_
    refine WP.ret ?_
    repeat (first | refine thenE_ret ?_ | refine blockE_ret ?_)
    exact retQ.mk (vs := [.agg #[_, _], .int .i64 _]) rfl ⟨⟨_, _, _, _, _, rfl, ty_25, I.rdbox 0 rfl 0 2, rfl, rfl⟩, rfl, trivial⟩ I.ext_of (by unfold withoutOf; rw [if_neg (by rw [hpr]; decide), if_pos (by omega)]; exact SumO.err)
  by_cases o1 : (p.rules.xs.length : Int) ≤ n
  · refine WP.region ?_
    refine Ops.y (v := .int .i64 _) (Y.move rfl) ?_
    refine Ops.y (v := .bool false) (Y.dec_f (Y.lti rfl rfl) (o0)) ?_
    refine Ops.y (v := .bool _) (Y.move rfl) ?_
    refine Ops.ygt rfl (v := .int .i64 _) (Y.move rfl) ?_
    refine Ops.ygt rfl (v := .pointer (some ⟨_, _, none⟩)) (Y.fa fa_25_1 rfl) ?_
    refine Ops.ygt rfl (v := .slice _ _ _) (Y.loadv ty_23 rfl (I.rdbox 1 rfl 1 1) rfl rfl) ?_
    refine Ops.ygt rfl (v := .int .i64 _) (Y.lens Try.underlying23 rfl) ?_
    refine Ops.ygt rfl (v := .bool true) (Y.dec_t (Y.gei rfl rfl) (o1)) ?_
    refine Ops.y (v := .bool _) (Y.pick_f rfl rfl) ?_
    refine Ops.nil ?_
    refine WP.cond_t rfl ?_
    refine WP.seq ?_
    refine WP.region ?_
    refine Ops.y (v := .agg #[.slice _ _ _, .slice _ _ _]) (Y.build pl_25 Try.zeroValue25 rfl rfl) ?_
    refine Ops.go (O.store (v := .agg #[_, _]) I ty_25 0 rfl rfl rfl rfl rfl rfl (Nat.le_of_ble_eq_true rfl) rfl ?_)
    intro w I
    refine Ops.y (v := .int .i64 _) (Y.assign rfl) ?_
    refine Ops.nil ?_
    refine WP.ret ?_
    repeat (first | refine thenE_ret ?_ | refine blockE_ret ?_)
    exact retQ.mk (vs := [.agg #[_, _], .int .i64 _]) rfl ⟨⟨_, _, _, _, _, rfl, ty_25, I.rdbox 0 rfl 0 2, rfl, rfl⟩, rfl, trivial⟩ I.ext_of (by unfold withoutOf; rw [if_neg (by rw [hpr]; decide), if_pos (by omega)]; exact SumO.err)
  refine WP.region ?_
  refine Ops.y (v := .int .i64 _) (Y.move rfl) ?_
  refine Ops.y (v := .bool false) (Y.dec_f (Y.lti rfl rfl) (o0)) ?_
  refine Ops.y (v := .bool _) (Y.move rfl) ?_
  refine Ops.ygt rfl (v := .int .i64 _) (Y.move rfl) ?_
  refine Ops.ygt rfl (v := .pointer (some ⟨_, _, none⟩)) (Y.fa fa_25_1 rfl) ?_
  refine Ops.ygt rfl (v := .slice _ _ _) (Y.loadv ty_23 rfl (I.rdbox 1 rfl 1 1) rfl rfl) ?_
  refine Ops.ygt rfl (v := .int .i64 _) (Y.lens Try.underlying23 rfl) ?_
  refine Ops.ygt rfl (v := .bool false) (Y.dec_f (Y.gei rfl rfl) (o1)) ?_
  refine Ops.y (v := .bool _) (Y.pick_f rfl rfl) ?_
  refine Ops.nil ?_
  refine WP.cond_f rfl ?_
  obtain ⟨i, rfl⟩ : ∃ i : Nat, n = i := ⟨n.toNat, by omega⟩
  have hi : i < p.rules.xs.length := by omega
  refine WP.skip ?_
  refine WP.seq ?_
  refine WP.regionG mixed RUn.pre ⟨B.h, none, none, none⟩ (J := JUn B [box b4 [.slice none 0 0, .slice none 0 0] 25, box b2 p.enc 25] 49 5 p.rules.xs.length (p.rules.xs.length - 1) (p.rules.xs.flatMap Rul.enc) ((p.rules.xs.eraseIdx i).flatMap Rul.enc) 25 [.slice none 0 0, .slice none 0 0] 5 9 97) ⟨rfl, rfl, rfl, fun h => (by cases h), I.drew⟩ 11 (by kernel_rfl) ?_
  refine OpsG.y_ (v := .pointer (some ⟨_, _, none⟩)) (fun _ => runsG_none _) RUn.pre (JUn.set (by decide)) (fun _ s w us hl hj => have I := hj.base; have hl := hl.h; Y.fa0 fa_25_0 rfl) ?_
  refine OpsG.y_ (v := .slice _ _ _) (fun _ => runsG_none _) RUn.pre (JUn.set (by decide)) (fun _ s w us hl hj => have I := hj.base; have hl := hl.h; Y.loadv ty_22 rfl (I.rdbox 1 rfl 0 1) rfl rfl) ?_
  refine OpsG.x_ (Φ := KnUn (PdS B.h p.preds.xs)) (KnUn.mono PdS.mono) (fun _ => runsG_none _) (fun D' z w hDk hl hj => ?_) ?_
  · refine AllG.all fun us => ?_
    refine hj.know (by decide) fun N I => ?_
    have hl := hl.h
    refine O.call I Try.call22 (ClonePrd_ok _ I.base_ok p.preds (hp.preds.le hl) (by omega)) rfl ?_
    rintro _ h1 w I hl' ⟨s, rfl, es, os, _⟩
    exact ⟨_, hl', I, ⟨s, rfl, es, os.older hl⟩⟩
  refine OpsG.y_ (v := .pointer (some ⟨_, _, none⟩)) (fun _ => runsG_none _) RUn.pre (JUn.set (by decide)) (fun _ s w us hl hj => have I := hj.base; have hl := hl.h; Y.fa fa_25_1 rfl) ?_
  refine OpsG.y_ (v := .slice _ _ _) (fun _ => runsG_none _) RUn.pre (JUn.set (by decide)) (fun _ s w us hl hj => have I := hj.base; have hl := hl.h; Y.loadv ty_23 rfl (I.rdbox 1 rfl 1 1) rfl rfl) ?_
  refine OpsG.x_ (Φ := AtU2) (AtU2.mono) (fun _ => runsG_none _) (fun D' z w hDk hl hj => ?_) ?_
  · intro u25 q25
    refine hj.first hDk (by decide) (by decide) fun N I => ?_
    refine O.call I Try.call25 (CloneRul_ok _ I.base_ok p.rules (hp.rules.is.le hl.h) (by omega)) rfl ?_
    rintro _ h7 w I hl' ⟨gs, rfl, eg, og, _⟩
    obtain ⟨h8, I, mono8, _⟩ := I.unsettle og hl.h
    exact ⟨h8, mono8 _ hl' (Heap.le.refl _), by rw [eg] at I; exact I⟩
  refine OpsG.y_ (v := .int .i64 _) (fun _ => runsG_none _) RUn.pre (JUn.set (by decide)) (fun _ s w us hl hj => have I := hj.base; have hl := hl.h; Y.move rfl) ?_
  refine OpsG.y_ (v := .int .i64 _) (fun _ => runsG_none _) RUn.pre (JUn.set (by decide)) (fun _ s w us hl hj => have I := hj.base; have hl := hl.h; Y.move rfl) ?_
  refine OpsG.y_ (v := .int .i64 _) (fun _ => runsG_none _) RUn.pre (JUn.set (by decide)) (fun _ s w us hl hj => have I := hj.base; have hl := hl.h; Y.addi rfl rfl ⟨by omega, by omega⟩) ?_
  refine OpsG.x_ (Φ := AtU4) (AtU4.mono) (fun _ => runsG_none _) (fun D' z w hDk hl hj => ?_) ?_
  · intro u25 q25 u28 q28
    refine hj.second hDk (by decide) (by decide) (q28 rfl) fun N I => ?_
    refine O.calls Try.call24 (DelRul_v I rfl hi (by omega)) rfl ?_
    rintro ed w ⟨v, h8, rfl, hl8, I⟩
    exact ⟨_, rfl, h8, hl8, I⟩
  refine OpsG.x_ (Φ := PrU (PdS B.h p.preds.xs)) (PrU.mono PdS.mono) (fun _ => runsG_none _) (fun D' z w hDk hl hj => ?_) ?_
  · intro u25 q25 u28 q28 u32 q32
    obtain ⟨s1, rfl, e1, o1⟩ := q25 rfl
    rcases ((hj.turned (q32 rfl)).at 0 rfl).2 with ⟨rfl, _⟩ | ⟨gg, cap, cur, rfl, _⟩
    all_goals exact hj.look (by decide) (Y.build pl_25 Try.zeroValue25 rfl rfl) ⟨_, _, rfl, ⟨s1, rfl, e1, o1⟩, q32 rfl⟩
  refine OpsG.nil ?_
  intro D z w hD hl hj u25 q25 u28 q28 u32 q32 u33 q33
  obtain ⟨_, v4, rfl, ⟨s1, rfl, e1, o1⟩, h4⟩ := q33 rfl
  have I := hj.turned h4
  obtain ⟨h8, s2, le8, rfl, e2, o2, I⟩ := I.settleO (erase_len hi)
  refine Ops.go (O.store (v := .agg #[_, _]) I ty_25 0 rfl rfl rfl rfl rfl rfl (Nat.le_of_ble_eq_true rfl) rfl ?_)
  intro w I
  refine Ops.y (v := .int .i64 _) (Y.assign rfl) ?_
  refine Ops.nil ?_
  refine WP.ret ?_
  repeat (first | refine thenE_ret ?_ | refine blockE_ret ?_)
  exact retQ.mk (vs := [.agg #[_, _], .int .i64 _]) rfl ⟨⟨_, _, _, _, _, rfl, ty_25, I.rdbox 0 rfl 0 2, rfl, rfl⟩, rfl, trivial⟩ I.ext_of (by unfold withoutOf; rw [if_neg (by rw [hpr]; decide), if_neg (by omega)]; exact ⟨⟨s1, s2⟩, rfl, e1, e2, o1.le le8, o2.older hl.h⟩)
/-- An empty literal. -/
def EmS {α : Type} (T k : Nat) (enc : α → List Value) (h0 : Heap) : Sp := fun v h => ∃ s : Sl α, v = s.val ∧ OwnH T k s enc h0 h ∧ s.xs = [] ∧ s.cap = 0 ∧ ∃ b, s.at_ = some ⟨b, 0, none⟩
theorem EmS.mono {α : Type} {T k : Nat} {enc : α → List Value} {h0 : Heap} : MonoS (EmS T k enc h0) := fun _ _ _ hl ⟨s, a, b, c⟩ => ⟨s, a, b.le hl, c⟩
set_option maxHeartbeats 8000000 in
theorem WithoutOf_own (B : Base) (hB : B.ok) (p : Prg) (hp : p.In B.h) (hnm : p.Nm) (hcap : p.rules.xs.length ≤ p.rules.cap) (n : Int) : Fn Try.prog 9 [p.val, .int .i64 n] B (SumO B.h (withoutOf p n)) := by
  refine Fn.of Try.func9 rfl Try.ntmps9 (by kernel_rfl) (by simp) ?_
  intro e
  have I := Inv.start hB
  refine WP.seq ?_
  refine WP.region ?_
  refine Ops.go (O.box (v := .agg #[_, _]) I rfl rfl ?_)
  intro b2 w I
  refine Ops.go (O.alloc I Try.zeroValue25 rfl ?_)
  intro b4 w I
  refine Ops.y (v := .int .i64 _) (Y.assign rfl) ?_
  refine Ops.nil ?_
  refine WP.seq ?_
  refine WP.seq ?_
  refine WP.region ?_
  refine Ops.y (v := .agg #[_, _]) (Y.loadv ty_25 rfl (I.rdbox 1 rfl 0 2) rfl rfl) ?_
  refine Ops.go (O.callv I Try.call26 (CheckProg_ok _ I.base_ok p hp hnm) rfl ?_)
  intro w I
  refine Ops.y (v := .int .i64 _) (Y.assign rfl) ?_
  refine Ops.nil ?_
  refine WP.seq ?_
  refine WP.region ?_
  refine Ops.y (v := .int .i64 _) (Y.move rfl) ?_
  refine Ops.y (v := .bool (decide _)) (Y.nei rfl rfl) ?_
  refine Ops.nil ?_
  refine WP.cond_dec rfl (fun h2 => ?_) (fun h2 => ?_)
  · refine WP.seq ?_
    refine WP.region ?_
    refine Ops.y (v := .agg #[.slice _ _ _, .slice _ _ _]) (Y.build pl_25 Try.zeroValue25 rfl rfl) ?_
    refine Ops.y (v := .int .i64 _) (Y.move rfl) ?_
    refine Ops.go (O.store (v := .agg #[_, _]) I ty_25 0 rfl rfl rfl rfl rfl rfl (Nat.le_of_ble_eq_true rfl) rfl ?_)
    intro w I
    refine Ops.y (v := .int .i64 _) (Y.assign rfl) ?_
    refine Ops.nil ?_
    refine WP.ret ?_
    repeat (first | refine thenE_ret ?_ | refine blockE_ret ?_)
    exact retQ.mk (vs := [.agg #[_, _], .int .i64 _]) rfl ⟨⟨_, _, _, _, _, rfl, ty_25, I.rdbox 0 rfl 0 2, rfl, rfl⟩, rfl, trivial⟩ I.ext_of (by unfold withoutOf; rw [if_pos h2]; exact SumO.err)
  have hpr := Decidable.not_not.1 h2
  obtain ⟨n5, n8, _⟩ := checkProg_ok hpr
  refine WP.skip ?_
  refine WP.seq ?_
  refine WP.seq ?_
  refine WP.region ?_
  refine Ops.y (v := .int .i64 _) (Y.move rfl) ?_
  refine Ops.y (v := .pointer (some ⟨_, _, none⟩)) (Y.fa fa_25_1 rfl) ?_
  refine Ops.y (v := .slice _ _ _) (Y.loadv ty_23 rfl (I.rdbox 1 rfl 1 1) rfl rfl) ?_
  refine Ops.y (v := .int .i64 _) (Y.lens Try.underlying23 rfl) ?_
  refine Ops.y (v := .int .i64 _) (Y.subi rfl rfl ⟨by omega, by omega⟩) ?_
  refine Ops.go (O.callv I Try.call27 (within_ok _ I.base_ok n 0 (p.rules.xs.length - 1)) rfl ?_)
  intro w I
  refine Ops.y (v := .bool _) (Y.not rfl) ?_
  refine Ops.nil ?_
  refine WP.cond rfl (fun h4 => ?_) (fun h4 => ?_)
  · have h4 : ¬ within n 0 ((p.rules.xs.length : Int) - 1) := by simpa using h4
    refine WP.seq ?_
    refine WP.region ?_
    refine Ops.y (v := .agg #[.slice _ _ _, .slice _ _ _]) (Y.build pl_25 Try.zeroValue25 rfl rfl) ?_
    refine Ops.go (O.store (v := .agg #[_, _]) I ty_25 0 rfl rfl rfl rfl rfl rfl (Nat.le_of_ble_eq_true rfl) rfl ?_)
    intro w I
    refine Ops.y (v := .int .i64 _) (Y.assign rfl) ?_
    refine Ops.nil ?_
    refine WP.ret ?_
    repeat (first | refine thenE_ret ?_ | refine blockE_ret ?_)
    exact retQ.mk (vs := [.agg #[_, _], .int .i64 _]) rfl ⟨⟨_, _, _, _, _, rfl, ty_25, I.rdbox 0 rfl 0 2, rfl, rfl⟩, rfl, trivial⟩ I.ext_of (by unfold withoutOf; rw [if_neg (by rw [hpr]; decide), if_pos (by unfold within at h4; omega)]; exact SumO.err)
  have h4 : within n 0 ((p.rules.xs.length : Int) - 1) := by simpa using h4
  have hn : 0 ≤ n ∧ n < p.rules.xs.length := by unfold within at h4; omega
  obtain ⟨i, rfl⟩ : ∃ i : Nat, n = i := ⟨n.toNat, by omega⟩
  have hi : i < p.rules.xs.length := by omega
  have hat := (hp.rules.is.at hi).at_
  have hit : (p.rules.takeS i).xs.length = i := by show (p.rules.xs.take i).length = i; rw [List.length_take]; omega
  have hdl : i + (p.rules.dropS 5 (i + 1)).xs.length = p.rules.xs.length - 1 := by show i + (p.rules.xs.drop (i + 1)).length = _; rw [List.length_drop]; omega
  have hdc : (p.rules.xs.take i).flatMap Rul.enc ++ (p.rules.dropS 5 (i + 1)).xs.flatMap Rul.enc = (p.rules.xs.eraseIdx i).flatMap Rul.enc := by rw [← List.flatMap_append, List.eraseIdx_eq_take_drop_succ]
  refine WP.skip ?_
  refine WP.seq ?_
  refine WP.regionG mixed RU3.pre ⟨B.h, none, none, none, none⟩ (J := JU3 B [box b4 [.slice none 0 0, .slice none 0 0] 25, box b2 p.enc 25] 49 5 i (p.rules.xs.length - 1) ((p.rules.xs.take i).flatMap Rul.enc) ((p.rules.xs.eraseIdx i).flatMap Rul.enc) 25 [.slice none 0 0, .slice none 0 0] 4 9 15 97) ⟨rfl, rfl, rfl, rfl, fun h => (by cases h), fun h => (by cases h), I.drew⟩ 17 (by kernel_rfl) ?_
  refine OpsG.x_ (Φ := KnU3 (EmS 56 3 Prd.enc B.h)) (KnU3.mono EmS.mono) (fun _ => runsG_none _) (fun D' z w hDk hl hj => ?_) ?_
  · refine AllG.all fun us => ?_
    refine hj.know (by decide) fun N I => ?_
    have hl := hl.h
    exact O.mkE (α := Prd) Prd.enc I Try.underlying22 Try.sizeOf56 fun s h w I le e c a o => ⟨h, le, I, s, rfl, o.older hl, e, c, a⟩
  refine OpsG.y_ (v := .pointer (some ⟨_, _, none⟩)) (fun _ => runsG_none _) RU3.pre (JU3.set (by decide)) (fun _ s w us hl hj => have I := hj.base; have hl := hl.h; Y.fa0 fa_25_0 rfl) ?_
  refine OpsG.y_ (v := .slice _ _ _) (fun _ => runsG_none _) RU3.pre (JU3.set (by decide)) (fun _ s w us hl hj => have I := hj.base; have hl := hl.h; Y.loadv ty_22 rfl (I.rdbox 1 rfl 0 1) rfl rfl) ?_
  refine OpsG.x_ (Φ := KnU3 (PdS B.h p.preds.xs)) (KnU3.mono PdS.mono) (fun _ => runsG_none _) (fun D' z w hDk hl hj => ?_) ?_
  · intro u21 q21
    obtain ⟨s0, rfl, o0, e0, c0, a0⟩ := q21 rfl
    refine hj.know (by decide) fun N I => ?_
    have hl := hl.h
    exact O.appendE (α := Prd) I Try.underlying22 et_56 (fun _ => rfl) o0 hl e0 c0 a0 (hp.preds.el.le hl) rfl rfl (by omega) (by omega) (fun r h' w' I hl hr o2 r0 => ⟨h', hl, I, r, rfl, hr, o2⟩)
  refine OpsG.x_ (Φ := At31) (At31.mono) (fun _ => runsG_none _) (fun D' z w hDk hl hj => ?_) ?_
  · intro u21 q21 u24 q24
    refine hj.first hDk (by decide) fun N I => ?_
    refine O.mkE (α := Rul) Rul.enc I Try.underlying23 Try.sizeOf49 fun s h8 w I le e c a o => ?_
    obtain ⟨h9, I, mono9, _⟩ := I.unsettle o hl.h
    rw [e] at I
    exact ⟨h9, mono9 _ le (Heap.le.refl _), I⟩
  refine OpsG.y_ (v := .pointer (some ⟨_, _, none⟩)) (fun _ => runsG_none _) RU3.pre (JU3.set (by decide)) (fun _ s w us hl hj => have I := hj.base; have hl := hl.h; Y.fa fa_25_1 rfl) ?_
  refine OpsG.y_ (v := .slice _ _ _) (fun _ => runsG_none _) RU3.pre (JU3.set (by decide)) (fun _ s w us hl hj => have I := hj.base; have hl := hl.h; Y.loadv ty_23 rfl (I.rdbox 1 rfl 1 1) rfl rfl) ?_
  refine OpsG.y_ (v := .int .i64 _) (fun _ => runsG_none _) RU3.pre (JU3.set (by decide)) (fun _ s w us hl hj => have I := hj.base; have hl := hl.h; Y.move rfl) ?_
  refine OpsG.y_ (v := .slice _ _ _) (fun _ => runsG_none _) RU3.pre (JU3.set (by decide)) (fun _ s w us hl hj => have I := hj.base; have hl := hl.h; Y.takeS (l := i) hat Try.underlying23 Try.sizeOf49 rfl rfl (by omega) hcap) ?_
  refine OpsG.x_ (Φ := At32) (At32.mono) (fun _ => runsG_none _) (fun D' z w hDk hl hj => ?_) ?_
  · intro u21 q21 u24 q24 u25 q25
    refine hj.second hDk (by decide) (q25 rfl) fun N I => ?_
    refine O.appendL (u := p.rules.takeS i) I Try.underlying23 et_49 0 rfl rul_len rul_one1 (takeS_is (hp.rules.is.le hl.h)).el rfl rfl (by omega) (by omega) ?_
    intro v' w I
    refine ⟨z.h, Heap.le.refl _, ?_⟩
    rw [hit, Nat.zero_add] at I
    exact I
  refine OpsG.y_ (v := .pointer (some ⟨_, _, none⟩)) (fun _ => runsG_none _) RU3.pre (JU3.set (by decide)) (fun _ s w us hl hj => have I := hj.base; have hl := hl.h; Y.fa fa_25_1 rfl) ?_
  refine OpsG.y_ (v := .slice _ _ _) (fun _ => runsG_none _) RU3.pre (JU3.set (by decide)) (fun _ s w us hl hj => have I := hj.base; have hl := hl.h; Y.loadv ty_23 rfl (I.rdbox 1 rfl 1 1) rfl rfl) ?_
  refine OpsG.y_ (v := .int .i64 _) (fun _ => runsG_none _) RU3.pre (JU3.set (by decide)) (fun _ s w us hl hj => have I := hj.base; have hl := hl.h; Y.move rfl) ?_
  refine OpsG.y_ (v := .int .i64 _) (fun _ => runsG_none _) RU3.pre (JU3.set (by decide)) (fun _ s w us hl hj => have I := hj.base; have hl := hl.h; Y.addi rfl rfl ⟨by omega, by omega⟩) ?_
  refine OpsG.y_ (v := .slice _ _ _) (fun _ => runsG_none _) RU3.pre (JU3.set (by decide)) (fun _ s w us hl hj => have I := hj.base; have hl := hl.h; Y.dropS (l := i + 1) hat Try.underlying23 Try.sizeOf49 rfl rfl (by omega) hcap) ?_
  refine OpsG.x_ (Φ := At34) (At34.mono) (fun _ => runsG_none _) (fun D' z w hDk hl hj => ?_) ?_
  · intro u21 q21 u24 q24 u25 q25 u30 q30
    refine hj.third hDk (by decide) (q30 rfl) fun N I => ?_
    refine O.appendL (u := p.rules.dropS 5 (i + 1)) I Try.underlying23 et_49 0 rfl rul_len rul_one1 (dropS_is (hp.rules.is.le hl.h) (by omega) hcap).el rfl rfl (by omega) (by omega) ?_
    intro v' w I
    refine ⟨z.h, Heap.le.refl _, ?_⟩
    rw [hdl, hdc] at I
    exact I
  refine OpsG.x_ (Φ := Pr3 (PdS B.h p.preds.xs)) (Pr3.mono PdS.mono) (fun _ => runsG_none _) (fun D' z w hDk hl hj => ?_) ?_
  · intro u21 q21 u24 q24 u25 q25 u30 q30 u36 q36
    obtain ⟨s1, rfl, e1, o1⟩ := q24 rfl
    rcases ((hj.turned (q36 rfl)).at 0 rfl).2 with ⟨rfl, _⟩ | ⟨gg, cap, cur, rfl, _⟩
    all_goals exact hj.look (by decide) (Y.build pl_25 Try.zeroValue25 rfl rfl) ⟨_, _, rfl, ⟨s1, rfl, e1, o1⟩, q36 rfl⟩
  refine OpsG.nil ?_
  intro D z w hD hl hj u21 q21 u24 q24 u25 q25 u30 q30 u36 q36 u37 q37
  obtain ⟨_, v4, rfl, ⟨s1, rfl, e1, o1⟩, h4⟩ := q37 rfl
  have I := hj.turned h4
  obtain ⟨h8, s2, le8, rfl, e2, o2, I⟩ := I.settleO (erase_len hi)
  refine Ops.go (O.store (v := .agg #[_, _]) I ty_25 0 rfl rfl rfl rfl rfl rfl (Nat.le_of_ble_eq_true rfl) rfl ?_)
  intro w I
  refine Ops.y (v := .int .i64 _) (Y.assign rfl) ?_
  refine Ops.nil ?_
  refine WP.ret ?_
  repeat (first | refine thenE_ret ?_ | refine blockE_ret ?_)
  exact retQ.mk (vs := [.agg #[_, _], .int .i64 _]) rfl ⟨⟨_, _, _, _, _, rfl, ty_25, I.rdbox 0 rfl 0 2, rfl, rfl⟩, rfl, trivial⟩ I.ext_of (by unfold withoutOf; rw [if_neg (by rw [hpr]; decide), if_neg (by omega)]; exact ⟨⟨s1, s2⟩, rfl, e1, e2, o1.le le8, o2.older hl.h⟩)
theorem nil_in {l : Sl Prd} {h : Heap} (hl : Prds l h) : Prg.In ⟨l, ⟨none, 0, []⟩⟩ h := ⟨hl, ⟨nilIs, fun x hx => by simp at hx⟩⟩
set_option maxHeartbeats 8000000 in
theorem UnionOf_own (B : Base) (hB : B.ok) (p q : Prg) (hp : p.In B.h) (hq : q.In B.h) (hnm : p.Nm) (hnq : q.Nm) : Fn Try.prog 8 [p.val, q.val] B (SumO B.h (unionOf p q)) := by
  refine Fn.of Try.func8 rfl Try.ntmps8 (by kernel_rfl) (by simp) ?_
  intro e
  have I := Inv.start hB
  refine WP.seq ?_
  refine WP.region ?_
  refine Ops.go (O.box (v := .agg #[_, _]) I rfl rfl ?_)
  intro b2 w I
  refine Ops.go (O.box (v := .agg #[_, _]) I rfl rfl ?_)
  intro b3 w I
  refine Ops.go (O.alloc I Try.zeroValue25 rfl ?_)
  intro b4 w I
  refine Ops.y (v := .int .i64 _) (Y.assign rfl) ?_
  refine Ops.nil ?_
  refine WP.seq ?_
  refine WP.seq ?_
  refine WP.region ?_
  refine Ops.y (v := .agg #[_, _]) (Y.loadv ty_25 rfl (I.rdbox 2 rfl 0 2) rfl rfl) ?_
  refine Ops.go (O.callv I Try.call26 (CheckProg_ok _ I.base_ok p hp hnm) rfl ?_)
  intro w I
  refine Ops.y (v := .int .i64 _) (Y.assign rfl) ?_
  refine Ops.nil ?_
  refine WP.seq ?_
  refine WP.region ?_
  refine Ops.y (v := .int .i64 _) (Y.move rfl) ?_
  refine Ops.y (v := .bool (decide _)) (Y.nei rfl rfl) ?_
  refine Ops.nil ?_
  refine WP.cond_dec rfl (fun h2 => ?_) (fun h2 => ?_)
  · refine WP.seq ?_
    refine WP.region ?_
    refine Ops.y (v := .agg #[.slice _ _ _, .slice _ _ _]) (Y.build pl_25 Try.zeroValue25 rfl rfl) ?_
    refine Ops.y (v := .int .i64 _) (Y.move rfl) ?_
    refine Ops.go (O.store (v := .agg #[_, _]) I ty_25 0 rfl rfl rfl rfl rfl rfl (Nat.le_of_ble_eq_true rfl) rfl ?_)
    intro w I
    refine Ops.y (v := .int .i64 _) (Y.assign rfl) ?_
    refine Ops.nil ?_
    refine WP.ret ?_
    repeat (first | refine thenE_ret ?_ | refine blockE_ret ?_)
    exact retQ.mk (vs := [.agg #[_, _], .int .i64 _]) rfl ⟨⟨_, _, _, _, _, rfl, ty_25, I.rdbox 0 rfl 0 2, rfl, rfl⟩, rfl, trivial⟩ I.ext_of (by unfold unionOf; rw [if_pos h2]; exact SumO.err)
  have hcp := Decidable.not_not.1 h2
  refine WP.skip ?_
  refine WP.seq ?_
  refine WP.seq ?_
  refine WP.region ?_
  refine Ops.y (v := .agg #[_, _]) (Y.loadv ty_25 rfl (I.rdbox 1 rfl 0 2) rfl rfl) ?_
  refine Ops.go (O.callv I Try.call26 (CheckProg_ok _ I.base_ok q hq hnq) rfl ?_)
  intro w I
  refine Ops.y (v := .int .i64 _) (Y.assign rfl) ?_
  refine Ops.nil ?_
  refine WP.seq ?_
  refine WP.region ?_
  refine Ops.y (v := .int .i64 _) (Y.move rfl) ?_
  refine Ops.y (v := .bool (decide _)) (Y.nei rfl rfl) ?_
  refine Ops.nil ?_
  refine WP.cond_dec rfl (fun h5 => ?_) (fun h5 => ?_)
  · refine WP.seq ?_
    refine WP.region ?_
    refine Ops.y (v := .agg #[.slice _ _ _, .slice _ _ _]) (Y.build pl_25 Try.zeroValue25 rfl rfl) ?_
    refine Ops.y (v := .int .i64 _) (Y.move rfl) ?_
    refine Ops.go (O.store (v := .agg #[_, _]) I ty_25 0 rfl rfl rfl rfl rfl rfl (Nat.le_of_ble_eq_true rfl) rfl ?_)
    intro w I
    refine Ops.y (v := .int .i64 _) (Y.assign rfl) ?_
    refine Ops.nil ?_
    refine WP.ret ?_
    repeat (first | refine thenE_ret ?_ | refine blockE_ret ?_)
    exact retQ.mk (vs := [.agg #[_, _], .int .i64 _]) rfl ⟨⟨_, _, _, _, _, rfl, ty_25, I.rdbox 0 rfl 0 2, rfl, rfl⟩, rfl, trivial⟩ I.ext_of (by unfold unionOf; rw [if_neg h2, if_pos h5]; exact SumO.err)
  have hcq := Decidable.not_not.1 h5
  obtain ⟨n5, n8, _⟩ := checkProg_ok hcp
  obtain ⟨m5, m8, _⟩ := checkProg_ok hcq
  refine WP.skip ?_
  refine WP.seq ?_
  refine WP.seq ?_
  refine WP.region ?_
  refine Ops.y (v := .pointer (some ⟨_, _, none⟩)) (Y.fa0 fa_25_0 rfl) ?_
  refine Ops.y (v := .slice _ _ _) (Y.loadv ty_22 rfl (I.rdbox 2 rfl 0 1) rfl rfl) ?_
  refine Ops.y (v := .agg #[.slice _ _ _, .slice _ _ _]) (Y.build pl_25 Try.zeroValue25 rfl rfl) ?_
  refine Ops.y (v := .pointer (some ⟨_, _, none⟩)) (Y.fa0 fa_25_0 rfl) ?_
  refine Ops.y (v := .slice _ _ _) (Y.loadv ty_22 rfl (I.rdbox 1 rfl 0 1) rfl rfl) ?_
  refine Ops.y (v := .agg #[.slice _ _ _, .slice _ _ _]) (Y.build pl_25 Try.zeroValue25 rfl rfl) ?_
  refine Ops.go (O.callv I Try.call11 (SameProgs_ok _ I.base_ok ⟨p.preds, ⟨none, 0, []⟩⟩ ⟨q.preds, ⟨none, 0, []⟩⟩ (nil_in hp.preds) (nil_in hq.preds) (fun e => by unfold Prg.er Sl.er; dsimp only at e ⊢; rw [e])) rfl ?_)
  intro w I
  refine Ops.y (v := .bool _) (Y.not rfl) ?_
  refine Ops.nil ?_
  refine WP.cond rfl (fun h8 => ?_) (fun h8 => ?_)
  · have h8 : p.preds.xs ≠ q.preds.xs := by simpa using h8
    refine WP.seq ?_
    refine WP.region ?_
    refine Ops.y (v := .agg #[.slice _ _ _, .slice _ _ _]) (Y.build pl_25 Try.zeroValue25 rfl rfl) ?_
    refine Ops.go (O.store (v := .agg #[_, _]) I ty_25 0 rfl rfl rfl rfl rfl rfl (Nat.le_of_ble_eq_true rfl) rfl ?_)
    intro w I
    refine Ops.y (v := .int .i64 _) (Y.assign rfl) ?_
    refine Ops.nil ?_
    refine WP.ret ?_
    repeat (first | refine thenE_ret ?_ | refine blockE_ret ?_)
    exact retQ.mk (vs := [.agg #[_, _], .int .i64 _]) rfl ⟨⟨_, _, _, _, _, rfl, ty_25, I.rdbox 0 rfl 0 2, rfl, rfl⟩, rfl, trivial⟩ I.ext_of (by unfold unionOf; rw [if_neg h2, if_neg h5, if_pos h8]; exact SumO.err)
  have h8 : p.preds.xs = q.preds.xs := by simpa using h8
  have hdc : p.rules.xs.flatMap Rul.enc ++ q.rules.xs.flatMap Rul.enc = (p.rules.xs ++ q.rules.xs).flatMap Rul.enc := by rw [List.flatMap_append]
  have hle : p.rules.xs.length + q.rules.xs.length = (p.rules.xs ++ q.rules.xs).length := by rw [List.length_append]
  refine WP.skip ?_
  refine WP.seq ?_
  refine WP.regionG mixed RU3.pre ⟨B.h, none, none, none, none⟩ (J := JU3 B [box b4 [.slice none 0 0, .slice none 0 0] 25, box b3 q.enc 25, box b2 p.enc 25] 49 5 p.rules.xs.length (p.rules.xs.length + q.rules.xs.length) (p.rules.xs.flatMap Rul.enc) ((p.rules.xs ++ q.rules.xs).flatMap Rul.enc) 25 [.slice none 0 0, .slice none 0 0] 4 7 10 12) ⟨rfl, rfl, rfl, rfl, fun h => (by cases h), fun h => (by cases h), I.drew⟩ 13 (by kernel_rfl) ?_
  refine OpsG.x_ (Φ := KnU3 (EmS 56 3 Prd.enc B.h)) (KnU3.mono EmS.mono) (fun _ => runsG_none _) (fun D' z w hDk hl hj => ?_) ?_
  · refine AllG.all fun us => ?_
    refine hj.know (by decide) fun N I => ?_
    have hl := hl.h
    exact O.mkE (α := Prd) Prd.enc I Try.underlying22 Try.sizeOf56 fun s h w I le e c a o => ⟨h, le, I, s, rfl, o.older hl, e, c, a⟩
  refine OpsG.y_ (v := .pointer (some ⟨_, _, none⟩)) (fun _ => runsG_none _) RU3.pre (JU3.set (by decide)) (fun _ s w us hl hj => have I := hj.base; have hl := hl.h; Y.fa0 fa_25_0 rfl) ?_
  refine OpsG.y_ (v := .slice _ _ _) (fun _ => runsG_none _) RU3.pre (JU3.set (by decide)) (fun _ s w us hl hj => have I := hj.base; have hl := hl.h; Y.loadv ty_22 rfl (I.rdbox 2 rfl 0 1) rfl rfl) ?_
  refine OpsG.x_ (Φ := KnU3 (PdS B.h p.preds.xs)) (KnU3.mono PdS.mono) (fun _ => runsG_none _) (fun D' z w hDk hl hj => ?_) ?_
  · intro u31 q31
    obtain ⟨s0, rfl, o0, e0, c0, a0⟩ := q31 rfl
    refine hj.know (by decide) fun N I => ?_
    have hl := hl.h
    exact O.appendE (α := Prd) I Try.underlying22 et_56 (fun _ => rfl) o0 hl e0 c0 a0 (hp.preds.el.le hl) rfl rfl (by omega) (by omega) (fun r h' w' I hl hr o2 r0 => ⟨h', hl, I, r, rfl, hr, o2⟩)
  refine OpsG.x_ (Φ := At31) (At31.mono) (fun _ => runsG_none _) (fun D' z w hDk hl hj => ?_) ?_
  · intro u31 q31 u34 q34
    refine hj.first hDk (by decide) fun N I => ?_
    refine O.mkE (α := Rul) Rul.enc I Try.underlying23 Try.sizeOf49 fun s h8 w I le e c a o => ?_
    obtain ⟨h9, I, mono9, _⟩ := I.unsettle o hl.h
    rw [e] at I
    exact ⟨h9, mono9 _ le (Heap.le.refl _), I⟩
  refine OpsG.y_ (v := .pointer (some ⟨_, _, none⟩)) (fun _ => runsG_none _) RU3.pre (JU3.set (by decide)) (fun _ s w us hl hj => have I := hj.base; have hl := hl.h; Y.fa fa_25_1 rfl) ?_
  refine OpsG.y_ (v := .slice _ _ _) (fun _ => runsG_none _) RU3.pre (JU3.set (by decide)) (fun _ s w us hl hj => have I := hj.base; have hl := hl.h; Y.loadv ty_23 rfl (I.rdbox 2 rfl 1 1) rfl rfl) ?_
  refine OpsG.x_ (Φ := At32) (At32.mono) (fun _ => runsG_none _) (fun D' z w hDk hl hj => ?_) ?_
  · intro u31 q31 u34 q34 u35 q35
    refine hj.second hDk (by decide) (q35 rfl) fun N I => ?_
    refine O.appendL (u := p.rules) I Try.underlying23 et_49 0 rfl rul_len rul_one1 (hp.rules.is.le hl.h).el rfl rfl (by omega) (by omega) ?_
    intro v' w I
    refine ⟨z.h, Heap.le.refl _, ?_⟩
    rw [Nat.zero_add] at I
    exact I
  refine OpsG.y_ (v := .pointer (some ⟨_, _, none⟩)) (fun _ => runsG_none _) RU3.pre (JU3.set (by decide)) (fun _ s w us hl hj => have I := hj.base; have hl := hl.h; Y.fa fa_25_1 rfl) ?_
  refine OpsG.y_ (v := .slice _ _ _) (fun _ => runsG_none _) RU3.pre (JU3.set (by decide)) (fun _ s w us hl hj => have I := hj.base; have hl := hl.h; Y.loadv ty_23 rfl (I.rdbox 1 rfl 1 1) rfl rfl) ?_
  refine OpsG.x_ (Φ := At34) (At34.mono) (fun _ => runsG_none _) (fun D' z w hDk hl hj => ?_) ?_
  · intro u31 q31 u34 q34 u35 q35 u38 q38
    refine hj.third hDk (by decide) (q38 rfl) fun N I => ?_
    refine O.appendL (u := q.rules) I Try.underlying23 et_49 0 rfl rul_len rul_one1 (hq.rules.is.le hl.h).el rfl rfl (by omega) (by omega) ?_
    intro v' w I
    refine ⟨z.h, Heap.le.refl _, ?_⟩
    rw [hdc] at I
    exact I
  refine OpsG.x_ (Φ := Pr3 (PdS B.h p.preds.xs)) (Pr3.mono PdS.mono) (fun _ => runsG_none _) (fun D' z w hDk hl hj => ?_) ?_
  · intro u31 q31 u34 q34 u35 q35 u38 q38 u41 q41
    obtain ⟨s1, rfl, e1, o1⟩ := q34 rfl
    rcases ((hj.turned (q41 rfl)).at 0 rfl).2 with ⟨rfl, _⟩ | ⟨gg, cap, cur, rfl, _⟩
    all_goals exact hj.look (by decide) (Y.build pl_25 Try.zeroValue25 rfl rfl) ⟨_, _, rfl, ⟨s1, rfl, e1, o1⟩, q41 rfl⟩
  refine OpsG.x_ (Φ := At37) (At37.mono) (fun _ => runsG_none _) (fun D' z w hDk hl hj => ?_) ?_
  · intro u31 q31 u34 q34 u35 q35 u38 q38 u41 q41 u42 q42
    exact hj.make Try.zeroValue25 rfl hDk (by decide)
  refine OpsG.nil ?_
  intro D z w hD hl hj u31 q31 u34 q34 u35 q35 u38 q38 u41 q41 u42 q42 u8 q8
  obtain ⟨b8, rfl, h9⟩ := q8 rfl
  obtain ⟨_, v4, rfl, ⟨s1, rfl, e1, o1⟩, h4⟩ := q42 rfl
  have I := hj.both h4 h9
  obtain ⟨h8', s2, le8, rfl, e2, o2, I⟩ := I.settleO hle
  refine Ops.go (O.store (v := .agg #[_, _]) I ty_25 0 rfl rfl rfl rfl rfl rfl (Nat.le_of_ble_eq_true rfl) rfl ?_)
  intro w I
  refine Ops.nil ?_
  obtain ⟨a, ha⟩ : ∃ a : Prg, a = ⟨s1, s2⟩ := ⟨_, rfl⟩
  have ha1 : a.preds = s1 := by rw [ha]
  have ha2 : a.rules = s2 := by rw [ha]
  have o1 := o1.le le8
  have o2 := o2.older hl.h
  have hin : a.In h8' := own_prg (hl.h.trans le8) (ha1 ▸ o1) (ha2 ▸ o2) (by rw [ha1, e1]; exact n5) (by rw [ha2, e2, List.length_append]; omega) (by rw [ha2, e2]; exact cat_each hp hq)
  have hanm : a.Nm := by unfold Prg.Nm; rw [ha1, e1]; exact hnm
  have hcg : checkProg a = checkProg (mkP p.preds.xs (p.rules.xs ++ q.rules.xs)) := checkProg_congr (by rw [ha1, e1]; rfl) (by rw [ha2, e2]; rfl)
  have hu : unionOf p q = if checkProg a ≠ 0 then (([], []), checkProg a) else ((p.preds.xs, p.rules.xs ++ q.rules.xs), 0) := by
    unfold unionOf
    rw [if_neg h2, if_neg h5, if_neg (fun h => h h8), hcg]
  refine WP.seq ?_
  refine WP.seq ?_
  refine WP.region ?_
  refine Ops.y (v := .agg #[_, _]) (Y.loadv ty_25 rfl (I.rdbox 0 rfl 0 2) rfl rfl) ?_
  refine Ops.go (O.callv I Try.call26 (ha ▸ CheckProg_ok _ I.base_ok a hin hanm) rfl ?_)
  intro w I
  refine Ops.y (v := .int .i64 _) (Y.assign rfl) ?_
  refine Ops.nil ?_
  refine WP.seq ?_
  refine WP.region ?_
  refine Ops.y (v := .int .i64 _) (Y.move rfl) ?_
  refine Ops.y (v := .bool (decide _)) (Y.nei rfl rfl) ?_
  refine Ops.nil ?_
  refine WP.cond_dec rfl (fun h12 => ?_) (fun h12 => ?_)
  · refine WP.seq ?_
    refine WP.region ?_
    refine Ops.y (v := .agg #[.slice _ _ _, .slice _ _ _]) (Y.build pl_25 Try.zeroValue25 rfl rfl) ?_
    refine Ops.y (v := .int .i64 _) (Y.move rfl) ?_
    refine Ops.go (O.store (v := .agg #[_, _]) I ty_25 1 rfl rfl rfl rfl rfl rfl (Nat.le_of_ble_eq_true rfl) rfl ?_)
    intro w I
    refine Ops.y (v := .int .i64 _) (Y.assign rfl) ?_
    refine Ops.nil ?_
    refine WP.ret ?_
    repeat (first | refine thenE_ret ?_ | refine blockE_ret ?_)
    exact retQ.mk (vs := [.agg #[_, _], .int .i64 _]) rfl ⟨⟨_, _, _, _, _, rfl, ty_25, I.rdbox 1 rfl 0 2, rfl, rfl⟩, rfl, trivial⟩ I.ext_of (by rw [hu, if_pos (ha ▸ h12)]; exact ⟨⟨⟨none, 0, []⟩, ⟨none, 0, []⟩⟩, by rw [ha]; rfl, rfl, rfl, .inl rfl, .inl rfl⟩)
  · refine WP.skip ?_
    refine WP.seq ?_
    refine WP.region ?_
    refine Ops.y (v := .agg #[_, _]) (Y.loadv ty_25 rfl (I.rdbox 0 rfl 0 2) rfl rfl) ?_
    refine Ops.go (O.store (v := .agg #[_, _]) I ty_25 1 rfl rfl rfl rfl rfl rfl (Nat.le_of_ble_eq_true rfl) rfl ?_)
    intro w I
    refine Ops.y (v := .int .i64 _) (Y.assign rfl) ?_
    refine Ops.nil ?_
    refine WP.ret ?_
    repeat (first | refine thenE_ret ?_ | refine blockE_ret ?_)
    exact retQ.mk (vs := [.agg #[_, _], .int .i64 _]) rfl ⟨⟨_, _, _, _, _, rfl, ty_25, I.rdbox 1 rfl 0 2, rfl, rfl⟩, rfl, trivial⟩ I.ext_of (by rw [hu, if_neg (ha ▸ h12)]; exact ⟨⟨s1, s2⟩, rfl, e1, e2, o1, o2⟩)
/-- What comes, known for good. -/
def SumR (r : (List Prd × List Rul) × Int) (v : Value) (h : Heap) : Prop := ∃ a : Prg, v = .tuple #[a.val, .int .i64 r.2] ∧ a.preds.xs = r.1.1 ∧ a.rules.xs = r.1.2 ∧ a.In h ∧ a.Nm
theorem union_short {p q : Prg} : (unionOf p q).1.1.length ≤ 5 ∧ (unionOf p q).1.2.length ≤ 16 ∧ (∀ x ∈ (unionOf p q).1.1, x ∈ p.preds.xs) ∧ ∀ r ∈ (unionOf p q).1.2, r ∈ p.rules.xs ++ q.rules.xs := by
  by_cases h : (unionOf p q).2 = 0
  · obtain ⟨h1, h2, _, _, e⟩ := unionOf_ok h
    obtain ⟨n5, n8, _⟩ := checkProg_ok h1
    obtain ⟨m5, m8, _⟩ := checkProg_ok h2
    rw [e]
    exact ⟨n5, by show (p.rules.xs ++ q.rules.xs).length ≤ 16; rw [List.length_append]; omega, fun x hx => hx, fun r hr => hr⟩
  · have e : (unionOf p q).1 = ([], []) := by
      unfold unionOf at h ⊢
      split
      · rfl
      rename_i h1; rw [if_neg h1] at h
      split
      · rfl
      rename_i h2; rw [if_neg h2] at h
      split
      · rfl
      rename_i h3; rw [if_neg h3] at h
      split
      · rfl
      rename_i h4; rw [if_neg h4] at h
      exact absurd rfl h
    rw [e]
    simp
theorem without_short {p : Prg} {n : Int} : (withoutOf p n).1.1.length ≤ 5 ∧ (withoutOf p n).1.2.length ≤ 16 ∧ (∀ x ∈ (withoutOf p n).1.1, x ∈ p.preds.xs) ∧ ∀ r ∈ (withoutOf p n).1.2, r ∈ p.rules.xs := by
  by_cases h : (withoutOf p n).2 = 0
  · obtain ⟨h1, h2, e⟩ := withoutOf_ok h
    obtain ⟨n5, n8, _⟩ := checkProg_ok h1
    rw [e]
    exact ⟨n5, by have := (erase_sub (rs := p.rules.xs) (n := n.toNat)).1; show (p.rules.xs.eraseIdx n.toNat).length ≤ 16; omega, fun x hx => hx, erase_sub.2⟩
  · have e : (withoutOf p n).1 = ([], []) := by
      unfold withoutOf at h ⊢
      split
      · rfl
      rename_i h1; rw [if_neg h1] at h
      split
      · rfl
      rename_i h2; rw [if_neg h2] at h
      exact absurd rfl h
    rw [e]
    simp
theorem SumO.sum {r : (List Prd × List Rul) × Int} {h0 h : Heap} {v : Value} (x : SumO h0 r v h) (hl : h0.le h) (h5 : r.1.1.length ≤ 5) (h16 : r.1.2.length ≤ 16) (hn : ∀ x ∈ r.1.1, x.name.size ≤ 140737488355328) (hr : ∀ y ∈ r.1.2, y.In h0) : SumR r v h := by
  obtain ⟨a, rfl, e1, e2, o1, o2⟩ := x
  exact ⟨a, rfl, e1, e2, own_prg hl o1 o2 (by rw [e1]; exact h5) (by rw [e2]; exact h16) (by rw [e2]; exact hr), by unfold Prg.Nm; rw [e1]; exact hn⟩
section
variable (B : Base) (hB : B.ok) (p q : Prg) (hp : p.In B.h) (hq : q.In B.h) (hnm : p.Nm) (hnq : q.Nm)
include hB hp hq hnm hnq
theorem Union_ok : Fn Try.prog 6 [p.val, q.val] B (SumR (unionOf p q)) :=
  (Union_own B hB p q hp hq hnm hnq).mono fun _ _ hl x => x.sum hl union_short.1 union_short.2.1 (fun y hy => hnm y (union_short.2.2.1 y hy)) fun y hy => cat_each hp hq y (union_short.2.2.2 y hy)
theorem UnionOf_ok : Fn Try.prog 8 [p.val, q.val] B (SumR (unionOf p q)) :=
  (UnionOf_own B hB p q hp hq hnm hnq).mono fun _ _ hl x => x.sum hl union_short.1 union_short.2.1 (fun y hy => hnm y (union_short.2.2.1 y hy)) fun y hy => cat_each hp hq y (union_short.2.2.2 y hy)
end
section
variable (B : Base) (hB : B.ok) (p : Prg) (hp : p.In B.h) (hnm : p.Nm) (n : Int)
include hB hp hnm
theorem Without_ok : Fn Try.prog 7 [p.val, .int .i64 n] B (SumR (withoutOf p n)) :=
  (Without_own B hB p hp hnm n).mono fun _ _ hl x => x.sum hl without_short.1 without_short.2.1 (fun y hy => hnm y (without_short.2.2.1 y hy)) fun y hy => hp.rules.each y (without_short.2.2.2 y hy)
theorem WithoutOf_ok (hcap : p.rules.xs.length ≤ p.rules.cap) : Fn Try.prog 9 [p.val, .int .i64 n] B (SumR (withoutOf p n)) :=
  (WithoutOf_own B hB p hp hnm hcap n).mono fun _ _ hl x => x.sum hl without_short.1 without_short.2.1 (fun y hy => hnm y (without_short.2.2.1 y hy)) fun y hy => hp.rules.each y (without_short.2.2.2 y hy)
end
theorem SumR.mono {r : (List Prd × List Rul) × Int} : MonoS (SumR r) := fun _ _ _ hl ⟨a, b, c, d, e, f⟩ => ⟨a, b, c, d, e.le hl, f⟩
end Go.TF
end
section
/- A region in which a variable is made and written with what the region itself yields. -/
namespace Go.TF
open Go Go.RowKit

structure StS where
  h : Heap
  o7 : Option Nat
  c : Option (List Value)
structure JSt (B : Base) (M : List SA) (Tb : TypeId) (z : List Value) (Ψ : List Value → Heap → Prop) (i7 i9 : Nat) (D : Nat → Bool) (s : StS) (w : World) : Prop where
  h7 : s.o7.isSome = D i7
  hc : s.c.isSome = D i9
  ord : D i9 = true → D i7 = true
  ok : ∀ cs, s.c = some cs → Ψ cs s.h
  inv : Inv B s.h (pcB s.o7 (s.c.getD z) Tb ++ M) w
structure RSt (s s' : StS) : Prop where
  h : s.h.le s'.h
  h7 : ∀ v, s.o7 = some v → s'.o7 = some v
theorem RSt.pre : Pre RSt := ⟨fun _ => ⟨Heap.le.refl _, fun _ h => h⟩, fun _ _ _ h k => ⟨h.h.trans k.h, fun b e => k.h7 b (h.h7 b e)⟩⟩
def AtS7 (u : Value) (s : StS) : Prop := ∃ b, u = .pointer (some ⟨b, 0, none⟩) ∧ s.o7 = some b
def KnSt (Φ : Sp) (u : Value) (s : StS) : Prop := Φ u s.h
theorem AtS7.mono : MonoG RSt AtS7 := fun _ _ _ r ⟨b, h1, h2⟩ => ⟨b, h1, r.h7 b h2⟩
theorem KnSt.mono {Φ : Sp} (hm : MonoS Φ) : MonoG RSt (KnSt Φ) := fun _ _ _ r h => hm _ _ _ r.h h
def MonoC (Ψ : List Value → Heap → Prop) : Prop := ∀ cs h h', h.le h' → Ψ cs h → Ψ cs h'
section
variable {P : Program} {o : Oper} {e : Env} {B : Base} {M : List SA} {Tb : TypeId} {z : List Value} {Ψ : List Value → Heap → Prop} {i7 i9 i : Nat} {D : Nat → Bool} {s : StS} {w : World}
theorem JSt.base (j : JSt B M Tb z Ψ i7 i9 D s w) : Inv B s.h M w := j.inv.weak (List.sublist_append_right _ _)
theorem JSt.set (h : i7 ≠ i ∧ i9 ≠ i) : ∀ D s w, JSt B M Tb z Ψ i7 i9 D s w → JSt B M Tb z Ψ i7 i9 (setD D i) s w := fun D s w j => by
  have e : ∀ x, x ≠ i → setD D i x = D x := fun x hx => by simp [setD, hx]
  exact ⟨by rw [e _ h.1]; exact j.h7, by rw [e _ h.2]; exact j.hc, by rw [e _ h.1, e _ h.2]; exact j.ord, j.ok, j.inv⟩
theorem JSt.know' {Φ : Sp} (hm : MonoC Ψ) (j : JSt B M Tb z Ψ i7 i9 D s w) (h : i7 ≠ i ∧ i9 ≠ i) (hop : ∀ N, Inv B s.h N w → Op1 P o e w fun u w' => ∃ h', s.h.le h' ∧ Inv B h' N w' ∧ Φ u h') :
    Op1 P o e w fun u w' => ∃ s', RSt s s' ∧ JSt B M Tb z Ψ i7 i9 (setD D i) s' w' ∧ KnSt Φ u s' :=
  (hop _ j.inv).mono fun u w' ⟨h', hl, I, hu⟩ => by
    have q := JSt.set (B := B) (M := M) (Tb := Tb) (z := z) (Ψ := Ψ) h D s w j
    exact ⟨⟨h', s.o7, s.c⟩, ⟨hl, fun _ e => e⟩, ⟨q.h7, q.hc, q.ord, fun cs hcs => hm cs _ _ hl (j.ok cs hcs), I⟩, hu⟩
theorem JSt.look {Φ : Sq StS} {v : Value} (j : JSt B M Tb z Ψ i7 i9 D s w) (h : i7 ≠ i ∧ i9 ≠ i) (hy : Y P o e w v) (hv : Φ v s) :
    Op1 P o e w fun u w' => ∃ s', RSt s s' ∧ JSt B M Tb z Ψ i7 i9 (setD D i) s' w' ∧ Φ u s' := by
  unfold Op1; rw [hy]; exact ⟨s, RSt.pre.refl s, JSt.set h _ _ _ j, hv⟩
theorem JSt.make {d : Option Nat} {t : TypeId} {pos : String} {af : Array Edge} {zv : Value} (j : JSt B M Tb z Ψ i7 i9 D s w) (hz : Zero P Tb zv) (hc : zv.cells = z.toArray) (hD : D i7 = false) (h : i9 ≠ i7) :
    Op1 P ⟨d, .alloc Tb, t, pos, af, none⟩ e w fun u w' => ∃ s', RSt s s' ∧ JSt B M Tb z Ψ i7 i9 (setD D i7) s' w' ∧ AtS7 u s' := by
  have e : ∀ x, x ≠ i7 → setD D i7 x = D x := fun x hx => by simp [setD, hx]
  have h7 : s.o7 = none := by have := j.h7; rw [hD] at this; cases h : s.o7 <;> simp_all
  have hD9 : D i9 = false := by
    cases h : D i9
    · rfl
    · rw [j.ord h] at hD; cases hD
  have hc9 : s.c = none := by have := j.hc; rw [hD9] at this; cases h : s.c <;> simp_all
  have I := j.inv
  rw [h7] at I
  refine O.alloc I hz hc fun b w' I' => ⟨⟨s.h, some b, none⟩, ⟨Heap.le.refl _, fun v hv => (by rw [h7] at hv; cases hv)⟩, ⟨?_, ?_, ?_, fun cs hcs => (by cases hcs), I'⟩, b, rfl, rfl⟩
  · simp [setD]
  · rw [e _ h, hD9]; rfl
  · rw [e _ h, hD9]; exact fun h => by cases h
theorem JSt.put {t : TypeId} {pos : String} {af : Array Edge} {a x : Operand} {n : Nat} {ag : Bool} {v : Value} {c : List Value} (j : JSt B M Tb z Ψ i7 i9 D s w) (hT : Ty P Tb n ag) (hz : z.length = n) (hcl : c.length = n) (hD : D i9 = false) (h : i7 ≠ i9) {u : Value} (hu : AtS7 u s) (ha : ev e a = u) (hx : ev e x = v) (hv : v.cells = c.toArray) (h1 : oneCells c = true) (hΨ : Ψ c s.h) :
    Op1 P ⟨none, .store Tb a x, t, pos, af, none⟩ e w fun u w' => ∃ s', RSt s s' ∧ JSt B M Tb z Ψ i7 i9 (setD D i9) s' w' ∧ u = undef := by
  have e' : ∀ x, x ≠ i9 → setD D i9 x = D x := fun x hx => by simp [setD, hx]
  obtain ⟨b, rfl, hb⟩ := hu
  have hc9 : s.c = none := by have := j.hc; rw [hD] at this; cases h : s.c <;> simp_all
  have hD7 : D i7 = true := by rw [← j.h7, hb]; rfl
  have I := j.inv
  rw [hb, hc9] at I
  refine O.store (cs' := c) I hT 0 rfl ha hx hv hcl h1 (by show 0 + c.length ≤ z.length; omega) ?_ fun w' I' => ⟨⟨s.h, some b, some c⟩, ⟨Heap.le.refl _, fun v hv => (by rw [hb] at hv; exact hv)⟩, ⟨?_, ?_, fun _ => ?_, fun cs hcs => ?_, I'⟩, rfl⟩
  · show putAt z 0 c = c
    rw [putAt_eq _ _ _ (Nat.zero_le _)]
    simp [hcl, hz]
  · rw [e' _ h, hD7]; rfl
  · simp [setD]
  · rw [e' _ h]; exact hD7
  · injection hcs with hcs; subst hcs; exact hΨ
theorem JSt.fin (j : JSt B M Tb z Ψ i7 i9 D s w) (hD : D i9 = true) {b : Nat} (h7 : s.o7 = some b) : ∃ cs, Ψ cs s.h ∧ Inv B s.h (box b cs Tb :: M) w := by
  have hc := j.hc
  rw [hD] at hc
  obtain ⟨cs, hcs⟩ := Option.isSome_iff_exists.1 hc
  have I := j.inv
  rw [h7, hcs] at I
  exact ⟨cs, j.ok cs hcs, I⟩
end
end Go.TF
end
section
/- Needs: who is needed, by a queue. -/
namespace Go.TF
open Go Go.RowKit Go.Proofs
set_option maxRecDepth 20000

structure NdS where
  g : Nat
  o : Nat
  c : Nat
  q : List Int
  N : List Bool
  ms : List Nat
@[reducible] def NdU (b8 bo b2 : Nat) (p : Prg) (g o c : Nat) (q : List Int) (N : List Bool) : List SA := [box b8 [.slice (some ⟨g, o, none⟩) (q.map vI).length c] 40, ownQ 3 g o c (q.map vI), box bo (N.map vB) 4, box b2 p.enc 25]
structure NdJ (B : Base) (b8 bo b2 : Nat) (p : Prg) (pr : Int) (s : NdS) (w : World) : Prop where
  inv : ∃ h1, B.h.le h1 ∧ Inv B h1 (NdU b8 bo b2 p s.g s.o s.c s.q s.N ++ s.ms.map markSA) w
  len : s.N.length = p.preds.xs.length
  snd : ∀ i : Int, 0 ≤ i → i < p.preds.xs.length → bv s.N i = true → Reach (usesL p.rules.xs) pr i
  qin : ∀ x ∈ s.q, (0 ≤ x ∧ x < p.preds.xs.length) ∧ Reach (usesL p.rules.xs) pr x
  clo : ∀ c ∈ usesL p.rules.xs, bv s.N c.1 = true → bv s.N c.2.atom.pred = true ∨ c.2.atom.pred ∈ s.q
  has : bv s.N pr = true ∨ pr ∈ s.q
  small : s.q.length ≤ 1 + 24 * trues s.N
end Go.TF
end
section
/- The roads, their arrays the caller's own. -/
namespace Go.TF
open Go Go.RowKit Go.Proofs
set_option maxRecDepth 20000

def prC : List Prd := [⟨bEdge, 2, 0⟩, ⟨bFar, 2, 2⟩, ⟨bLone, 1, 0⟩]
structure RoadsM (v : Value) (h : Heap) (M : List SA) (bp br : Nat) (r0 r1 r2 r3 r4 r5 r6 : Rul) : Prop where
  val : v = .agg #[.slice (some ⟨bp, 0, none⟩) 3 3, .slice (some ⟨br, 0, none⟩) 7 7]
  own : M = [box br ([r0, r1, r2, r3, r4, r5, r6].flatMap Rul.enc) 49, box bp (prC.flatMap Prd.enc) 56]
  is : ∀ x ∈ [r0, r1, r2, r3, r4, r5, r6], x.In h
  cap : ∀ x ∈ [r0, r1, r2, r3, r4, r5, r6], x.body.xs.length ≤ x.body.cap
  er : [r0, r1, r2, r3, r4, r5, r6].map Rul.er = roadsC.rules.xs
end Go.TF
end
section
/- What the laws of programs begin with. -/
namespace Go.TF
open Go Go.RowKit Go.Proofs
set_option maxRecDepth 20000

def LtlS (x : Ltl) : Sp := fun u h => ∃ y : Ltl, u = y.val ∧ y.er = x ∧ y.In h
theorem LtlS.mono {x : Ltl} : MonoS (LtlS x) := fun _ _ _ hl ⟨s, a, b, c⟩ => ⟨s, a, b, c.le hl⟩
def LtlsS (xs : List Ltl) : Sp := fun u h => ∃ s : Sl Ltl, u = s.val ∧ s.xs.map Ltl.er = xs ∧ Ltls s h ∧ s.at_ = some ⟨s.blk, s.off, none⟩
theorem LtlsS.mono {xs : List Ltl} : MonoS (LtlsS xs) := fun _ _ _ hl ⟨s, a, b, c, d⟩ => ⟨s, a, b, c.le hl, d⟩
def LtlsF (xs : List Ltl) : Sp := fun u h => ∃ s : Sl Ltl, u = s.val ∧ s.xs.map Ltl.er = xs ∧ Ltls s h ∧ s.at_ = some ⟨s.blk, s.off, none⟩ ∧ s.cap = s.xs.length
theorem LtlsF.mono {xs : List Ltl} : MonoS (LtlsF xs) := fun _ _ _ hl ⟨s, a, b, c, d⟩ => ⟨s, a, b, c.le hl, d⟩
theorem RoadsAt.nm {p : Prg} {h : Heap} (x : RoadsAt p h) : p.Nm := by
  unfold Prg.Nm
  rw [x.preds]
  decide
theorem RoadsAt.check {p : Prg} {h : Heap} (x : RoadsAt p h) : checkProg p = 0 := by rw [← checkProg_er, x.er, roads_check]
theorem RoadsAt.uses {p : Prg} {h : Heap} (x : RoadsAt p h) : (usesL p.rules.xs).map cEr = usesL roadsC.rules.xs := by
  rw [← usesL_er]
  have := congrArg (fun q : Prg => q.rules.xs) x.er
  exact congrArg usesL this
theorem RoadsAt.len {p : Prg} {h : Heap} (x : RoadsAt p h) : p.preds.xs.length = 3 := by rw [x.preds]; rfl
end Go.TF
end
section
/- What must be of sums in any case; the law of sums. -/
namespace Go.TF
open Go Go.RowKit Go.Proofs
set_option maxRecDepth 20000

theorem RoadsAt.rls {p : Prg} {h : Heap} (x : RoadsAt p h) : p.rules.xs.map Rul.er = roadsC.rules.xs := congrArg (fun q : Prg => q.rules.xs) x.er
theorem RoadsAt.prs {p : Prg} {h : Heap} (x : RoadsAt p h) : p.preds.xs = roadsC.preds.xs := by have := congrArg (fun q : Prg => q.preds.xs) x.er; exact this
theorem RoadsAt.rlen {p : Prg} {h : Heap} (x : RoadsAt p h) : p.rules.xs.length = 7 := by rw [← List.length_map (f := Rul.er), x.rls]; rfl
theorem er_mk {a : Prg} {l : List Prd} {rs : List Rul} (h1 : a.preds.xs = l) (h2 : a.rules.xs.map Rul.er = rs) : a.er = mkP l rs := by
  subst h1; subst h2; rfl
theorem rd_take : checkProg (mkP roadsC.preds.xs (roadsC.rules.xs.take 6)) = 0 := checkProg_sub (p := roadsC) rfl (by decide) (fun _ h => List.mem_of_mem_take h) roads_check
theorem rd_drop : checkProg (mkP roadsC.preds.xs (roadsC.rules.xs.drop 6)) = 0 := checkProg_sub (p := roadsC) rfl (by decide) (fun _ h => List.mem_of_mem_drop h) roads_check
theorem chk_empty : checkProg ⟨⟨none, 0, []⟩, ⟨none, 0, []⟩⟩ = 0 := by
  have hs : ∃ M, Sol (usesL []) 0 M := ⟨[], rfl, fun i => by simp [lv], fun c hc => by cases hc⟩
  unfold checkProg
  rw [if_neg (by simp), if_neg (by simp), if_neg (by decide), if_neg (by simp), if_neg (by simp), if_neg (by simp [rulesErr])]
  exact if_pos hs
def RdS : Sp := fun v h => ∃ p : Prg, v = p.val ∧ RoadsAt p h ∧ p.rules.xs.length ≤ p.rules.cap
theorem RdS.mono : MonoS RdS := fun _ _ _ hl ⟨p, a, b, c⟩ => ⟨p, a, ⟨b.is.le hl, b.er, b.cap⟩, c⟩
def RpS : Sp := fun v h => ∃ s : Sl Prd, v = s.val ∧ Prds s h ∧ s.xs = roadsC.preds.xs
theorem RpS.mono : MonoS RpS := fun _ _ _ hl ⟨p, a, b, c⟩ => ⟨p, a, b.le hl, c⟩
def RrS : Sp := fun v h => ∃ s : Sl Rul, v = s.val ∧ Ruls s h ∧ s.xs.map Rul.er = roadsC.rules.xs ∧ s.xs.length ≤ s.cap
theorem RrS.mono : MonoS RrS := fun _ _ _ hl ⟨p, a, b, c⟩ => ⟨p, a, b.le hl, c⟩
def R6S : Sp := fun v h => ∃ s : Sl Rul, v = s.val ∧ Ruls s h ∧ s.xs.map Rul.er = roadsC.rules.xs.drop 6
theorem R6S.mono : MonoS R6S := fun _ _ _ hl ⟨p, a, b, c⟩ => ⟨p, a, b.le hl, c⟩
def R2S : Sp := fun v h => ∃ a : Prg, v = a.val ∧ a.In h ∧ a.preds.xs = roadsC.preds.xs ∧ a.rules.xs.map Rul.er = roadsC.rules.xs.drop 6
theorem R2S.mono : MonoS R2S := fun _ _ _ hl ⟨p, a, b, c⟩ => ⟨p, a, b.le hl, c⟩
def EqS (v0 : Value) : Sp := fun v _ => v = v0
theorem EqS.mono {v0 : Value} : MonoS (EqS v0) := fun _ _ _ _ h => h
/-- The union, as it comes and its parts. -/
def UtS : Sp := fun v h => ∃ a : Prg, v = .tuple #[a.val, .int .i64 0] ∧ a.In h ∧ a.er = roadsC
theorem UtS.mono : MonoS UtS := fun _ _ _ hl ⟨p, a, b, c⟩ => ⟨p, a, b.le hl, c⟩
def UpS : Sp := fun v h => ∃ a : Prg, v = a.val ∧ a.In h ∧ a.er = roadsC
theorem UpS.mono : MonoS UpS := fun _ _ _ hl ⟨p, a, b, c⟩ => ⟨p, a, b.le hl, c⟩
def UcS (cs : List Value) (h : Heap) : Prop := ∃ a : Prg, cs = a.enc ∧ a.In h ∧ a.er = roadsC
theorem nm_rd {a : Prg} (h : a.preds.xs = roadsC.preds.xs) : a.Nm := by unfold Prg.Nm; rw [h]; decide
theorem rls_drop {s : Sl Rul} {h : Heap} (hs : Ruls s h) (he : s.xs.map Rul.er = roadsC.rules.xs) (hc : s.xs.length ≤ s.cap) : Ruls (s.dropS 5 6) h ∧ (s.dropS 5 6).xs.map Rul.er = roadsC.rules.xs.drop 6 := by
  have hl : s.xs.length = 7 := by rw [← List.length_map (f := Rul.er), he]; rfl
  refine ⟨⟨dropS_is hs.is (by omega) hc, fun x hx => hs.each x (List.mem_of_mem_drop hx)⟩, ?_⟩
  show (s.xs.drop 6).map Rul.er = _
  rw [List.map_drop, he]
theorem union_rd {a b : Prg} (h1 : a.preds.xs = roadsC.preds.xs) (h2 : a.rules.xs.map Rul.er = roadsC.rules.xs.take 6) (h3 : b.preds.xs = roadsC.preds.xs) (h4 : b.rules.xs.map Rul.er = roadsC.rules.xs.drop 6) :
    unionOf a b = ((a.preds.xs, a.rules.xs ++ b.rules.xs), 0) := by
  have c1 : checkProg a = 0 := by rw [← checkProg_er, er_mk h1 h2]; exact rd_take
  have c2 : checkProg b = 0 := by rw [← checkProg_er, er_mk h3 h4]; exact rd_drop
  have c3 : checkProg (mkP a.preds.xs (a.rules.xs ++ b.rules.xs)) = 0 := by
    rw [← checkProg_er, er_mk (a := mkP a.preds.xs (a.rules.xs ++ b.rules.xs)) (l := roadsC.preds.xs) (rs := roadsC.rules.xs) h1 (by show (a.rules.xs ++ b.rules.xs).map Rul.er = _; rw [List.map_append, h2, h4, List.take_append_drop])]
    exact roads_check
  unfold unionOf
  rw [if_neg (by rw [c1]; decide), if_neg (by rw [c2]; decide), if_neg (fun h => h (h1.trans h3.symm)), if_neg (by rw [c3]; decide)]
theorem union_rd0 {a : Prg} (h1 : a.preds.xs = roadsC.preds.xs) (h2 : a.rules.xs.map Rul.er = roadsC.rules.xs.take 6) : unionOf a ⟨⟨none, 0, []⟩, ⟨none, 0, []⟩⟩ = (([], []), 1) := by
  have c1 : checkProg a = 0 := by rw [← checkProg_er, er_mk h1 h2]; exact rd_take
  unfold unionOf
  rw [if_neg (by rw [c1]; decide), if_neg (by rw [chk_empty]; decide), if_pos (by rw [h1]; intro h; cases h)]
theorem without_rd {p : Prg} {h : Heap} (x : RoadsAt p h) : withoutOf p 6 = ((p.preds.xs, p.rules.xs.eraseIdx 6), 0) := by
  unfold withoutOf
  rw [if_neg (by rw [x.check]; decide), if_neg (by rw [x.rlen]; decide)]; rfl
theorem without_rd7 {p : Prg} {h : Heap} (x : RoadsAt p h) : withoutOf p 7 = (([], []), 7) := by
  unfold withoutOf
  rw [if_neg (by rw [x.check]; decide), if_pos (by rw [x.rlen]; decide)]
theorem union_rd2 {p q : Prg} {h k : Heap} (x : RoadsAt p h) (y : RoadsAt q k) : unionOf p q = (([], []), 2) := by
  have c3 : checkProg (mkP p.preds.xs (p.rules.xs ++ q.rules.xs)) = 2 := by
    unfold checkProg
    rw [if_pos (.inr (by show 8 < (p.rules.xs ++ q.rules.xs).length; rw [List.length_append, x.rlen, y.rlen]; decide))]
  unfold unionOf
  rw [if_neg (by rw [x.check]; decide), if_neg (by rw [y.check]; decide), if_neg (fun h => h (x.prs.trans y.prs.symm)), if_pos (by rw [c3]; decide), c3]
theorem erase6 {l : List Rul} (h : l.map Rul.er = roadsC.rules.xs) : (l.eraseIdx 6).map Rul.er = roadsC.rules.xs.take 6 := by
  have hl : l.length = 7 := by rw [← List.length_map (f := Rul.er), h]; rfl
  rw [List.eraseIdx_eq_take_drop_succ, List.drop_of_length_le (by omega), List.append_nil, List.map_take, h]
section
variable (B : Base) (hB : B.ok) (p q : Prg) (hp : p.In B.h) (hq : q.In B.h) (hnm : p.Nm) (hnq : q.Nm) (r : (List Prd × List Rul) × Int)
include hB hp hnm
theorem Without_at (n : Int) (h : withoutOf p n = r) : Fn Try.prog 7 [p.val, .int .i64 n] B (SumR r) := h ▸ Without_ok B hB p hp hnm n
include hq hnq
theorem Union_at (h : unionOf p q = r) : Fn Try.prog 6 [p.val, q.val] B (SumR r) := h ▸ Union_ok B hB p q hp hq hnm hnq
end
theorem Union_rd (B : Base) (hB : B.ok) (a b : Prg) (ha : a.In B.h) (hb : b.In B.h) (h1 : a.preds.xs = roadsC.preds.xs) (h2 : a.rules.xs.map Rul.er = roadsC.rules.xs.take 6) (h3 : b.preds.xs = roadsC.preds.xs) (h4 : b.rules.xs.map Rul.er = roadsC.rules.xs.drop 6) :
    Fn Try.prog 6 [a.val, b.val] B UtS := (Union_at B hB a b ha hb (nm_rd h1) (nm_rd h3) _ (union_rd h1 h2 h3 h4)).mono fun _ _ _ ⟨c, e, e1, e2, i, _⟩ =>
  ⟨c, e, i, er_mk (l := roadsC.preds.xs) (rs := roadsC.rules.xs) (e1.trans h1) (by rw [e2]; show (a.rules.xs ++ b.rules.xs).map Rul.er = _; rw [List.map_append, h2, h4, List.take_append_drop])⟩
theorem SameProgs_at (B : Base) (hB : B.ok) (p q : Prg) (hp : p.In B.h) (hq : q.In B.h) (he : p.er = q.er) : Fn Try.prog 11 [p.val, q.val] B (fun v _ => v = .bool true) := by
  have := SameProgs_ok B hB p q hp hq fun _ => he
  rwa [decide_eq_true (Prg.er_iff he).1] at this
theorem er_same {a b : Prg} (h1 : a.preds.xs = b.preds.xs) (h2 : a.rules.xs = b.rules.xs) : a.er = b.er := by rw [er_mk (a := b) rfl rfl]; exact er_mk h1 (by rw [h2])
set_option maxHeartbeats 8000000 in
theorem sumBegun_ok (B : Base) (hB : B.ok) : Fn Try.prog 10 [] B (fun v _ => v = .bool true) := by
  refine Fn.of Try.func10 rfl Try.ntmps10 (by kernel_rfl) (by simp) ?_
  intro e
  have I := Inv.start hB
  refine WP.seq ?_
  refine WP.region ?_
  refine Ops.y (v := .bool _) (Y.assign rfl) ?_
  refine Ops.nil ?_
  refine WP.seq ?_
  refine WP.region ?_
  refine Ops.go (O.call I Try.call28 (roads_ok _ I.base_ok) rfl ?_)
  rintro _ h1 w I le1 ⟨p1, rfl, hp1⟩
  refine Ops.go (O.call I Try.call7 (Without_at _ I.base_ok p1 hp1.is hp1.nm _ 6 (without_rd hp1)) rfl ?_)
  rintro _ h2 w I le2 ⟨a1, rfl, e1, e2, i1, n1⟩
  refine Ops.y (v := .tuple #[_, _]) (Y.move rfl) ?_
  refine Ops.y (v := .agg #[_, _]) (Y.extract rfl rfl) ?_
  refine Ops.y (v := .int .i64 _) (Y.extract rfl rfl) ?_
  refine Ops.go (O.alloc I Try.zeroValue25 rfl ?_)
  intro b1 w I
  refine Ops.go (O.store (v := .agg #[_, _]) I ty_25 0 rfl rfl rfl rfl rfl rfl (Nat.le_of_ble_eq_true rfl) rfl ?_)
  intro w I
  refine Ops.y (v := .int .i64 _) (Y.assign rfl) ?_
  refine Ops.nil ?_
  have e1 : a1.preds.xs = roadsC.preds.xs := e1.trans hp1.prs
  have e2 : a1.rules.xs.map Rul.er = roadsC.rules.xs.take 6 := by rw [e2]; exact erase6 hp1.rls
  have hmC : MonoC UcS := fun _ _ _ hl ⟨a, b, c, d⟩ => ⟨a, b, c.le hl, d⟩
  refine WP.seq ?_
  refine WP.regionG mixed RSt.pre ⟨h2, none, none⟩ (J := JSt B [box b1 a1.enc 25] 25 [.slice none 0 0, .slice none 0 0] UcS 11 12) ⟨rfl, rfl, fun h => (by cases h), fun _ h => (by cases h), I.drew⟩ 13 (by kernel_rfl) ?_
  refine OpsG.y_ (v := .agg #[_, _]) (fun _ => runsG_none _) RSt.pre (JSt.set (by decide)) (fun _ s w us hl hj => have I := hj.base; have hl := hl.h; Y.loadv ty_25 rfl (I.rdbox 0 rfl 0 2) rfl rfl) ?_
  refine OpsG.x_ (Φ := KnSt (RdS)) (KnSt.mono RdS.mono) (fun _ => runsG_none _) (fun D' z w hDk hl hj => ?_) ?_
  · refine AllG.all fun us => ?_
    refine hj.know' hmC (by decide) fun N I => ?_
    have hl := hl.h
    refine O.call I Try.call28 (roads_okC _ I.base_ok) rfl ?_
    rintro _ h3 w I hl' hx
    exact ⟨_, hl', I, hx⟩
  refine OpsG.x_ (Φ := KnSt (RpS)) (KnSt.mono RpS.mono) (fun _ => runsG_none _) (fun D' z w hDk hl hj => ?_) ?_
  · intro u18 q18
    obtain ⟨p2, rfl, hp2, c2⟩ := q18 rfl
    refine hj.know' hmC (by decide) fun N I => ?_
    have hl := hl.h
    exact O.yx I (Y.field fd_25_0 ty_22 rfl rfl rfl rfl) (⟨_, rfl, hp2.is.preds, hp2.prs⟩)
  refine OpsG.x_ (Φ := KnSt (RdS)) (KnSt.mono RdS.mono) (fun _ => runsG_none _) (fun D' z w hDk hl hj => ?_) ?_
  · intro u18 q18 u19 q19
    refine hj.know' hmC (by decide) fun N I => ?_
    have hl := hl.h
    refine O.call I Try.call28 (roads_okC _ I.base_ok) rfl ?_
    rintro _ h3 w I hl' hx
    exact ⟨_, hl', I, hx⟩
  refine OpsG.x_ (Φ := KnSt (RrS)) (KnSt.mono RrS.mono) (fun _ => runsG_none _) (fun D' z w hDk hl hj => ?_) ?_
  · intro u18 q18 u19 q19 u20 q20
    obtain ⟨p3, rfl, hp3, c3⟩ := q20 rfl
    refine hj.know' hmC (by decide) fun N I => ?_
    have hl := hl.h
    exact O.yx I (Y.field fd_25_1 ty_23 rfl rfl rfl rfl) (⟨_, rfl, hp3.is.rules, hp3.rls, c3⟩)
  refine OpsG.x_ (Φ := KnSt (R6S)) (KnSt.mono R6S.mono) (fun _ => runsG_none _) (fun D' z w hDk hl hj => ?_) ?_
  · intro u18 q18 u19 q19 u20 q20 u21 q21
    obtain ⟨s3, rfl, i3, e3, c3⟩ := q21 rfl
    refine hj.know' hmC (by decide) fun N I => ?_
    have hl := hl.h
    have hl7 : s3.xs.length = 7 := (by rw [← List.length_map (f := Rul.er), e3]; rfl)
    exact O.yx I (Y.dropS (l := 6) (i3.is.at (i := 0) (by omega)).at_ Try.underlying23 Try.sizeOf49 rfl rfl (by omega) c3) ⟨_, rfl, (rls_drop i3 e3 c3).1, (rls_drop i3 e3 c3).2⟩
  refine OpsG.x_ (Φ := KnSt (R2S)) (KnSt.mono R2S.mono) (fun _ => runsG_none _) (fun D' z w hDk hl hj => ?_) ?_
  · intro u18 q18 u19 q19 u20 q20 u21 q21 u22 q22
    obtain ⟨s2, rfl, i2, e4⟩ := q19 rfl
    obtain ⟨s3, rfl, i3, e3⟩ := q22 rfl
    refine hj.know' hmC (by decide) fun N I => ?_
    have hl := hl.h
    exact O.yx I (Y.build pl_25 Try.zeroValue25 rfl rfl) (⟨⟨s2, s3⟩, rfl, ⟨i2, i3⟩, e4, e3⟩)
  refine OpsG.x_ (Φ := KnSt (UtS)) (KnSt.mono UtS.mono) (fun _ => runsG_none _) (fun D' z w hDk hl hj => ?_) ?_
  · intro u18 q18 u19 q19 u20 q20 u21 q21 u22 q22 u23 q23
    obtain ⟨b, rfl, ib, e5, e6⟩ := q23 rfl
    refine hj.know' hmC (by decide) fun N I => ?_
    have hl := hl.h
    refine O.call I Try.call6 (Union_rd _ I.base_ok a1 b (i1.le hl) ib e1 e2 e5 e6) rfl ?_
    rintro _ h3 w I hl' hx
    exact ⟨_, hl', I, hx⟩
  refine OpsG.x_ (Φ := KnSt (UtS)) (KnSt.mono UtS.mono) (fun _ => runsG_none _) (fun D' z w hDk hl hj => ?_) ?_
  · intro u18 q18 u19 q19 u20 q20 u21 q21 u22 q22 u23 q23 u24 q24
    refine hj.know' hmC (by decide) fun N I => ?_
    have hl := hl.h
    exact O.yx I (Y.move rfl) (q24 rfl)
  refine OpsG.x_ (Φ := KnSt (UpS)) (KnSt.mono UpS.mono) (fun _ => runsG_none _) (fun D' z w hDk hl hj => ?_) ?_
  · intro u18 q18 u19 q19 u20 q20 u21 q21 u22 q22 u23 q23 u24 q24 u16 q16
    obtain ⟨c, rfl, ic, ec⟩ := q16 rfl
    refine hj.know' hmC (by decide) fun N I => ?_
    have hl := hl.h
    exact O.yx I (Y.extract rfl rfl) (⟨c, rfl, ic, ec⟩)
  refine OpsG.x_ (Φ := KnSt (EqS (.int .i64 0))) (KnSt.mono EqS.mono) (fun _ => runsG_none _) (fun D' z w hDk hl hj => ?_) ?_
  · intro u18 q18 u19 q19 u20 q20 u21 q21 u22 q22 u23 q23 u24 q24 u16 q16 u25 q25
    obtain ⟨c, rfl, ic, ec⟩ := q16 rfl
    refine hj.know' hmC (by decide) fun N I => ?_
    have hl := hl.h
    exact O.yx I (Y.extract rfl rfl) (rfl)
  refine OpsG.x_ (Φ := AtS7) (AtS7.mono) (fun _ => runsG_none _) (fun D' z w hDk hl hj => ?_) ?_
  · intro u18 q18 u19 q19 u20 q20 u21 q21 u22 q22 u23 q23 u24 q24 u16 q16 u25 q25 u26 q26
    exact hj.make Try.zeroValue25 rfl hDk (by decide)
  refine OpsG.s_ (fun _ => runsG_none _) (fun D' z w hDk hl hj => ?_) ?_
  · intro u18 q18 u19 q19 u20 q20 u21 q21 u22 q22 u23 q23 u24 q24 u16 q16 u25 q25 u26 q26 u3 q3
    obtain ⟨c, rfl, ic, ec⟩ := q25 rfl
    exact hj.put (c := c.enc) ty_25 rfl rfl hDk (by decide) (q3 rfl) rfl rfl rfl rfl ⟨c, rfl, ic, ec⟩
  refine OpsG.nil ?_
  intro D z w hD hl hj u18 q18 u19 q19 u20 q20 u21 q21 u22 q22 u23 q23 u24 q24 u16 q16 u25 q25 u26 q26 u3 q3
  obtain rfl : u26 = .int .i64 0 := q26 rfl
  obtain ⟨b3, rfl, h3⟩ := q3 rfl
  obtain ⟨cs, ⟨c, rfl, ic, ec⟩, I⟩ := hj.fin (hD 12 (by omega)) h3
  refine Ops.y (v := .int .i64 0) (Y.assign rfl) ?_
  refine Ops.nil ?_
  have i1 := i1.le hl.h
  refine WP.seq ?_
  refine WP.region ?_
  refine Ops.y (v := .agg #[_, _]) (Y.loadv ty_25 rfl (I.rdbox 1 rfl 0 2) rfl rfl) ?_
  refine Ops.y (v := .agg #[.slice none 0 0, .slice none 0 0]) (Y.build pl_25 Try.zeroValue25 rfl rfl) ?_
  refine Ops.go (O.call I Try.call6 (Union_at _ I.base_ok a1 ⟨⟨none, 0, []⟩, ⟨none, 0, []⟩⟩ i1 (nil_in nilIs) n1 (fun x hx => by cases hx) _ (union_rd0 e1 e2)) rfl ?_)
  rintro _ h4 w I le4 ⟨a4, rfl, _⟩
  refine Ops.y (v := .tuple #[_, _]) (Y.move rfl) ?_
  refine Ops.y (v := .agg #[_, _]) (Y.extract rfl rfl) ?_
  refine Ops.y (v := .int .i64 _) (Y.extract rfl rfl) ?_
  refine Ops.go (O.alloc I Try.zeroValue25 rfl ?_)
  intro b5 w I
  refine Ops.go (O.store (v := .agg #[_, _]) I ty_25 0 rfl rfl rfl rfl rfl rfl (Nat.le_of_ble_eq_true rfl) rfl ?_)
  intro w I
  refine Ops.y (v := .int .i64 _) (Y.assign rfl) ?_
  refine Ops.nil ?_
  refine WP.seq ?_
  refine WP.region ?_
  refine Ops.go (O.call I Try.call28 (roads_ok _ I.base_ok) rfl ?_)
  rintro _ h5 w I le5 ⟨p4, rfl, hp4⟩
  refine Ops.go (O.call I Try.call7 (Without_at _ I.base_ok p4 hp4.is hp4.nm _ 7 (without_rd7 hp4)) rfl ?_)
  rintro _ h6 w I le6 ⟨a5, rfl, _⟩
  refine Ops.y (v := .tuple #[_, _]) (Y.move rfl) ?_
  refine Ops.y (v := .agg #[_, _]) (Y.extract rfl rfl) ?_
  refine Ops.y (v := .int .i64 _) (Y.extract rfl rfl) ?_
  refine Ops.go (O.alloc I Try.zeroValue25 rfl ?_)
  intro b7 w I
  refine Ops.go (O.store (v := .agg #[_, _]) I ty_25 0 rfl rfl rfl rfl rfl rfl (Nat.le_of_ble_eq_true rfl) rfl ?_)
  intro w I
  refine Ops.y (v := .int .i64 _) (Y.assign rfl) ?_
  refine Ops.nil ?_
  refine WP.seq ?_
  refine WP.region ?_
  refine Ops.go (O.call I Try.call28 (roads_ok _ I.base_ok) rfl ?_)
  rintro _ h7 w I le7 ⟨p5, rfl, hp5⟩
  refine Ops.go (O.call I Try.call28 (roads_ok _ I.base_ok) rfl ?_)
  rintro _ h8 w I le8 ⟨p6, rfl, hp6⟩
  refine Ops.go (O.call I Try.call6 (Union_at _ I.base_ok p5 p6 (hp5.is.le le8) hp6.is hp5.nm hp6.nm _ (union_rd2 hp5 hp6)) rfl ?_)
  rintro _ h9 w I le9 ⟨a6, rfl, _⟩
  refine Ops.y (v := .tuple #[_, _]) (Y.move rfl) ?_
  refine Ops.y (v := .agg #[_, _]) (Y.extract rfl rfl) ?_
  refine Ops.y (v := .int .i64 _) (Y.extract rfl rfl) ?_
  refine Ops.go (O.alloc I Try.zeroValue25 rfl ?_)
  intro b9 w I
  refine Ops.go (O.store (v := .agg #[_, _]) I ty_25 0 rfl rfl rfl rfl rfl rfl (Nat.le_of_ble_eq_true rfl) rfl ?_)
  intro w I
  refine Ops.y (v := .int .i64 _) (Y.assign rfl) ?_
  refine Ops.nil ?_
  have ic := ic.le ((((le4.trans le5).trans le6).trans le7).trans (le8.trans le9))
  have hl6 : a1.rules.xs.length = 6 := by rw [← List.length_map (f := Rul.er), e2]; rfl
  refine WP.seq ?_
  refine WP.regionF mixed I 30 (by kernel_rfl) ?_
  refine OpsF.y_ (v := .int .i64 _) (fun _ => runs_none _) (fun _ w us hl I => Y.move rfl) ?_
  refine OpsF.y_ (v := .bool true) (fun _ => runs_none _) (fun _ w us hl I => Y.dec_t (Y.eqi rfl rfl) (rfl)) ?_
  refine OpsF.y_ (v := .bool _) (fun _ => runs_none _) (fun _ w us hl I => Y.move rfl) ?_
  refine OpsF.y_ (v := .int .i64 _) (fun _ => runs_g rfl) (fun _ w us hl I => Y.move rfl) ?_
  refine OpsF.y_ (v := .bool true) (fun _ => runs_g rfl) (fun _ w us hl I => Y.dec_t (Y.eqi rfl rfl) (rfl)) ?_
  refine OpsF.y_ (v := .bool _) (fun _ => runs_none _) (fun _ w us hl I => Y.pick_t rfl rfl) ?_
  refine OpsF.y_ (v := .bool _) (fun _ => runs_none _) (fun _ w us hl I => Y.move rfl) ?_
  refine OpsF.y_ (v := .int .i64 _) (fun _ => runs_g rfl) (fun _ w us hl I => Y.move rfl) ?_
  refine OpsF.y_ (v := .bool true) (fun _ => runs_g rfl) (fun _ w us hl I => Y.dec_t (Y.eqi rfl rfl) (rfl)) ?_
  refine OpsF.y_ (v := .bool _) (fun _ => runs_none _) (fun _ w us hl I => Y.pick_t rfl rfl) ?_
  refine OpsF.y_ (v := .bool _) (fun _ => runs_none _) (fun _ w us hl I => Y.move rfl) ?_
  refine OpsF.y_ (v := .int .i64 _) (fun _ => runs_g rfl) (fun _ w us hl I => Y.move rfl) ?_
  refine OpsF.y_ (v := .bool true) (fun _ => runs_g rfl) (fun _ w us hl I => Y.dec_t (Y.eqi rfl rfl) (rfl)) ?_
  refine OpsF.y_ (v := .bool _) (fun _ => runs_none _) (fun _ w us hl I => Y.pick_t rfl rfl) ?_
  refine OpsF.y_ (v := .bool _) (fun _ => runs_none _) (fun _ w us hl I => Y.move rfl) ?_
  refine OpsF.y_ (v := .int .i64 _) (fun _ => runs_g rfl) (fun _ w us hl I => Y.move rfl) ?_
  refine OpsF.y_ (v := .bool true) (fun _ => runs_g rfl) (fun _ w us hl I => Y.dec_t (Y.eqi rfl rfl) (rfl)) ?_
  refine OpsF.y_ (v := .bool _) (fun _ => runs_none _) (fun _ w us hl I => Y.pick_t rfl rfl) ?_
  refine OpsF.y_ (v := .bool _) (fun _ => runs_none _) (fun _ w us hl I => Y.move rfl) ?_
  refine OpsF.y_ (v := .pointer (some ⟨_, _, none⟩)) (fun _ => runs_g rfl) (fun _ w us hl I => Y.fa fa_25_1 rfl) ?_
  refine OpsF.y_ (v := .slice _ _ _) (fun _ => runs_g rfl) (fun _ w us hl I => Y.loadv ty_23 rfl (I.rdbox 4 rfl 1 1) rfl rfl) ?_
  refine OpsF.y_ (v := .int .i64 _) (fun _ => runs_g rfl) (fun _ w us hl I => Y.lens Try.underlying23 rfl) ?_
  refine OpsF.y_ (v := .bool true) (fun _ => runs_g rfl) (fun _ w us hl I => Y.dec_t (Y.eqi rfl rfl) ((by rw [hl6]; rfl))) ?_
  refine OpsF.y_ (v := .bool _) (fun _ => runs_none _) (fun _ w us hl I => Y.pick_t rfl rfl) ?_
  refine OpsF.y_ (v := .bool _) (fun _ => runs_none _) (fun _ w us hl I => Y.move rfl) ?_
  refine OpsF.y_ (v := .agg #[_, _]) (fun _ => runs_g rfl) (fun _ w us hl I => Y.loadv ty_25 rfl (I.rdbox 3 rfl 0 2) rfl rfl) ?_
  refine OpsF.x_ (Φ := RdS) RdS.mono (fun _ => runs_g rfl) ?_ ?_
  · intro _ w hl I
    try unfold AllL
    refine O.call I Try.call28 (roads_okC _ I.base_ok) rfl ?_
    rintro _ h10 w I hl' hx
    exact ⟨_, hl', I, hx⟩
  refine OpsF.d_ (v := .bool true) (fun _ => runs_g rfl) ?_ ?_
  · intro _ w hl I u70 q70
    obtain ⟨p7, rfl, hp7, _⟩ := q70 rfl
    exact O.callv I Try.call11 (SameProgs_at _ I.base_ok c p7 (ic.le hl) hp7.is (ec.trans hp7.er.symm)) rfl (fun w' I' => ⟨rfl, I'⟩)
  refine OpsF.y_ (v := .bool _) (fun _ => runs_none _) (fun _ w us hl I => Y.pick_t rfl rfl) ?_
  refine OpsF.y_ (v := .bool _) (fun _ => runs_none _) (fun _ w us hl I => Y.assign rfl) ?_
  refine OpsF.nil ?_
  intro _ w hl I u70 q70
  refine Ops.nil ?_
  refine WP.ret ?_
  repeat (first | refine thenE_ret ?_ | refine blockE_ret ?_)
  exact retQ.mk (vs := [.bool _]) rfl ⟨rfl, trivial⟩ I.ext_of (rfl)
set_option maxHeartbeats 4000000 in
theorem SumTells_ok (B : Base) (hB : B.ok) (p : Prg) (hp : p.In B.h) (hnm : p.Nm) (q : Prg) (hq : q.In B.h) (hnq : q.Nm) (hcap : p.rules.xs.length ≤ p.rules.cap) (n : Int) : Fn Try.prog 3 [p.val, q.val, .int .i64 n] B (fun v _ => v = .bool true) := by
  refine Fn.of Try.func3 rfl Try.ntmps3 (by kernel_rfl) (by simp) ?_
  intro e
  have I := Inv.start hB
  refine WP.seq ?_
  refine WP.region ?_
  refine Ops.go (O.box (v := .agg #[_, _]) I rfl rfl ?_)
  intro b3 w I
  refine Ops.go (O.box (v := .agg #[_, _]) I rfl rfl ?_)
  intro b4 w I
  refine Ops.y (v := .bool _) (Y.assign rfl) ?_
  refine Ops.nil ?_
  refine WP.seq ?_
  refine WP.region ?_
  refine Ops.y (v := .agg #[_, _]) (Y.loadv ty_25 rfl (I.rdbox 1 rfl 0 2) rfl rfl) ?_
  refine Ops.y (v := .agg #[_, _]) (Y.loadv ty_25 rfl (I.rdbox 0 rfl 0 2) rfl rfl) ?_
  refine Ops.go (O.call I Try.call6 (Union_ok _ I.base_ok p q hp hq hnm hnq) rfl ?_)
  rintro _ h1 w I le1 ⟨a, rfl, a1, a2, ai, _⟩
  refine Ops.y (v := .tuple #[_, _]) (Y.move rfl) ?_
  refine Ops.y (v := .agg #[_, _]) (Y.extract rfl rfl) ?_
  refine Ops.y (v := .int .i64 _) (Y.extract rfl rfl) ?_
  refine Ops.go (O.alloc I Try.zeroValue25 rfl ?_)
  intro b7 w I
  refine Ops.go (O.store (v := .agg #[_, _]) I ty_25 0 rfl rfl rfl rfl rfl rfl (Nat.le_of_ble_eq_true rfl) rfl ?_)
  intro w I
  refine Ops.y (v := .int .i64 _) (Y.assign rfl) ?_
  refine Ops.nil ?_
  have hp := hp.le le1
  have hq := hq.le le1
  refine WP.seq ?_
  refine WP.region ?_
  refine Ops.y (v := .agg #[_, _]) (Y.loadv ty_25 rfl (I.rdbox 2 rfl 0 2) rfl rfl) ?_
  refine Ops.y (v := .int .i64 _) (Y.move rfl) ?_
  refine Ops.go (O.call I Try.call7 (Without_ok _ I.base_ok p hp hnm n) rfl ?_)
  rintro _ h2 w I le2 ⟨b, rfl, d1, d2, bi, _⟩
  refine Ops.y (v := .tuple #[_, _]) (Y.move rfl) ?_
  refine Ops.y (v := .agg #[_, _]) (Y.extract rfl rfl) ?_
  refine Ops.y (v := .int .i64 _) (Y.extract rfl rfl) ?_
  refine Ops.go (O.alloc I Try.zeroValue25 rfl ?_)
  intro b9 w I
  refine Ops.go (O.store (v := .agg #[_, _]) I ty_25 0 rfl rfl rfl rfl rfl rfl (Nat.le_of_ble_eq_true rfl) rfl ?_)
  intro w I
  refine Ops.y (v := .int .i64 _) (Y.assign rfl) ?_
  refine Ops.nil ?_
  have hp := hp.le le2
  have hq := hq.le le2
  refine WP.seq ?_
  refine WP.region ?_
  refine Ops.y (v := .agg #[_, _]) (Y.loadv ty_25 rfl (I.rdbox 3 rfl 0 2) rfl rfl) ?_
  refine Ops.y (v := .agg #[_, _]) (Y.loadv ty_25 rfl (I.rdbox 2 rfl 0 2) rfl rfl) ?_
  refine Ops.go (O.call I Try.call8 (UnionOf_ok _ I.base_ok p q hp hq hnm hnq) rfl ?_)
  rintro _ h3 w I le3 ⟨x, rfl, x1, x2, xi, _⟩
  refine Ops.y (v := .tuple #[_, _]) (Y.move rfl) ?_
  refine Ops.y (v := .agg #[_, _]) (Y.extract rfl rfl) ?_
  refine Ops.y (v := .int .i64 _) (Y.extract rfl rfl) ?_
  refine Ops.go (O.alloc I Try.zeroValue25 rfl ?_)
  intro b11 w I
  refine Ops.go (O.store (v := .agg #[_, _]) I ty_25 0 rfl rfl rfl rfl rfl rfl (Nat.le_of_ble_eq_true rfl) rfl ?_)
  intro w I
  refine Ops.y (v := .int .i64 _) (Y.assign rfl) ?_
  refine Ops.nil ?_
  have hp := hp.le le3
  refine WP.seq ?_
  refine WP.region ?_
  refine Ops.y (v := .agg #[_, _]) (Y.loadv ty_25 rfl (I.rdbox 4 rfl 0 2) rfl rfl) ?_
  refine Ops.y (v := .int .i64 _) (Y.move rfl) ?_
  refine Ops.go (O.call I Try.call9 (WithoutOf_ok _ I.base_ok p hp hnm n hcap) rfl ?_)
  rintro _ h4 w I le4 ⟨y, rfl, y1, y2, yi, _⟩
  refine Ops.y (v := .tuple #[_, _]) (Y.move rfl) ?_
  refine Ops.y (v := .agg #[_, _]) (Y.extract rfl rfl) ?_
  refine Ops.y (v := .int .i64 _) (Y.extract rfl rfl) ?_
  refine Ops.go (O.alloc I Try.zeroValue25 rfl ?_)
  intro b13 w I
  refine Ops.go (O.store (v := .agg #[_, _]) I ty_25 0 rfl rfl rfl rfl rfl rfl (Nat.le_of_ble_eq_true rfl) rfl ?_)
  intro w I
  refine Ops.y (v := .int .i64 _) (Y.assign rfl) ?_
  refine Ops.nil ?_
  refine WP.seq ?_
  refine WP.region ?_
  refine Ops.go (O.callv I Try.call10 (sumBegun_ok _ I.base_ok) rfl ?_)
  intro w I
  refine Ops.y (v := .bool _) (Y.move rfl) ?_
  refine Ops.ygt rfl (v := .agg #[_, _]) (Y.loadv ty_25 rfl (I.rdbox 3 rfl 0 2) rfl rfl) ?_
  refine Ops.ygt rfl (v := .agg #[_, _]) (Y.loadv ty_25 rfl (I.rdbox 1 rfl 0 2) rfl rfl) ?_
  refine Ops.gt rfl (O.callv I Try.call11 (SameProgs_at _ I.base_ok a x (((ai.le le2).le le3).le le4) (xi.le le4) (er_same (a1.trans x1.symm) (a2.trans x2.symm))) rfl ?_)
  intro w I
  refine Ops.y (v := .bool _) (Y.pick_t rfl rfl) ?_
  refine Ops.y (v := .bool _) (Y.move rfl) ?_
  refine Ops.ygt rfl (v := .int .i64 _) (Y.move rfl) ?_
  refine Ops.ygt rfl (v := .int .i64 _) (Y.move rfl) ?_
  refine Ops.ygt rfl (v := .bool true) (Y.dec_t (Y.eqi rfl rfl) (rfl)) ?_
  refine Ops.y (v := .bool _) (Y.pick_t rfl rfl) ?_
  refine Ops.y (v := .bool _) (Y.move rfl) ?_
  refine Ops.ygt rfl (v := .agg #[_, _]) (Y.loadv ty_25 rfl (I.rdbox 2 rfl 0 2) rfl rfl) ?_
  refine Ops.ygt rfl (v := .agg #[_, _]) (Y.loadv ty_25 rfl (I.rdbox 0 rfl 0 2) rfl rfl) ?_
  refine Ops.gt rfl (O.callv I Try.call11 (SameProgs_at _ I.base_ok b y ((bi.le le3).le le4) yi (er_same (d1.trans y1.symm) (d2.trans y2.symm))) rfl ?_)
  intro w I
  refine Ops.y (v := .bool _) (Y.pick_t rfl rfl) ?_
  refine Ops.y (v := .bool _) (Y.move rfl) ?_
  refine Ops.ygt rfl (v := .int .i64 _) (Y.move rfl) ?_
  refine Ops.ygt rfl (v := .int .i64 _) (Y.move rfl) ?_
  refine Ops.ygt rfl (v := .bool true) (Y.dec_t (Y.eqi rfl rfl) (rfl)) ?_
  refine Ops.y (v := .bool _) (Y.pick_t rfl rfl) ?_
  refine Ops.y (v := .bool _) (Y.assign rfl) ?_
  refine Ops.nil ?_
  refine WP.ret ?_
  repeat (first | refine thenE_ret ?_ | refine blockE_ret ?_)
  exact retQ.mk (vs := [.bool _]) rfl ⟨rfl, trivial⟩ I.ext_of (rfl)
end Go.TF
end
