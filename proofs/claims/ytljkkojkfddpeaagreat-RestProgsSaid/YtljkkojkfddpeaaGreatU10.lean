/- Texts Base19 SlFuncs2 SlDel Base20 Base21 Base22 Sum2 Sum3 Base23 Prog9 RoadsM Prog10 Sum4 Base24 Txt1 Txt2 Nai1 Rst1. -/
import Derived.Test.YtljkkojkfddpeaaGreatU6
import Derived.Test.YtljkkojkfddpeaaGreatU5
import Derived.Test.YtljkkojkfddpeaaGreatU2
import Derived.Test.YtljkkojkfddpeaaGreatU9
import Derived.Test.YtljkkojkfddpeaaGreatU8
import Derived.Test.YtljkkojkfddpeaaGreatU3
import Derived.Laws.IdiomStrings
section
/- What is owned read by a call as if known for good; boxes taken back; elements of an owned slice. -/
namespace Go.TF
open Go Go.RowKit Go.Proofs

section
variable {P : Program} {e : Env} {w : World} {B : Base} {h : Heap} {M : List SA} {t : TypeId} {pos : String} {af : Array Edge} {g : Option (Nat × Bool)} {d : Option Nat} {K : Value → World → Prop}
theorem flat_overG {α : Type} {enc : α → List Value} {k : Nat} (hk : ∀ x, (enc x).length = k) (zs : List α) (i : Nat) (y : α) (hi : i < zs.length) : over (zs.flatMap enc) (i * k) (enc y) = (zs.set i y).flatMap enc := by
  unfold over
  rw [flat_take hk, hk, show i * k + k = (i + 1) * k by rw [Nat.add_mul, Nat.one_mul], flat_drop hk, List.set_eq_take_append_cons_drop, if_pos hi, List.flatMap_append, List.flatMap_cons, List.append_assoc]
end
section
variable {P : Program} {N : Nat} {D : List Deferred} {e : Env} {w : World} {Q : Exit → Env → World → List Deferred → Prop}
theorem WPD.cond_decT {c : Operand} {x y : Code} {p : Prop} [Decidable p] (hc : ev e c = .bool (decide p)) (hp : p) (ht : WPD P N D x e w Q) : WPD P N D (.cond c x y) e w Q :=
  WPD.cond_dec hc (fun _ => ht) (fun h => (h hp).elim)
theorem WPD.cond_decF {c : Operand} {x y : Code} {p : Prop} [Decidable p] (hc : ev e c = .bool (decide p)) (hp : ¬p) (hf : WPD P N D y e w Q) : WPD P N D (.cond c x y) e w Q :=
  WPD.cond_dec hc (fun h => (hp h).elim) (fun _ => hf)
theorem WPD.regionF {id : Nat} {ops : Array Oper} {B : Base} {h : Heap} {M : List SA} (hm : Mixed P) (I : Inv B h M w) (m : Nat) (hB : flowB ops m = true)
    (k : OpsF P ops B M h [] (ops.toList.take m) e (fun L e' => ∀ h1 w1, h.le h1 → Inv B h1 M w1 → AllL (fun _ => true) h1 L e' fun e'' => Ops P ops (ops.toList.drop m) e'' w1 (fun e3 w3 => Q .normal e3 w3 D))) : WPD P N D (.region id ops true) e w Q := WPD.of (WP.regionF hm I m hB k)
theorem WPD.cutK {x : Code} {K : Env → World → List Deferred → Prop} {σ : Type} (kv : σ → List (Nat × Value)) (J : σ → World → Prop) (Df : σ → List Deferred)
    (hx : WPD P N D x e w (thenD (fun e' w' D' => ∃ s, Has e' (kv s) ∧ D' = Df s ∧ J s w') Q)) (hy : ∀ s e' w', J s w' → K (E e' (kv s)) w' (Df s)) : WPD P N D x e w (thenD K Q) := by
  refine hx.mono ?_
  intro x e' w' D' h
  cases x <;> first | exact h | skip
  obtain ⟨s, h1, rfl, h2⟩ := h
  have := hy s e' w' h2
  rwa [E_self h1] at this
end
section
variable {α : Type} {p : α → Bool} {xs : List α}
end
end Go.TF
end
section
/- slices.IndexFunc, ContainsFunc at rules and literals. -/
namespace Go.TF
open Go Go.RowKit Go.Proofs
set_option maxRecDepth 10000
end Go.TF
end
section
/- slices.DeleteFunc at this program's types, of a slice of the call's own. -/
namespace Go.TF
open Go Go.RowKit Go.Proofs
set_option maxRecDepth 20000

theorem Fct_len (x : Fct) : x.enc.length = 4 := rfl
end Go.TF
end
section
/- A region in which a slice is made, and then turned into another, while what is loaded may be loaded ahead or behind. -/
namespace Go.TF
open Go Go.RowKit

structure DlS where
  h : Heap
  o2 : Option Value
  o4 : Option Value
def pcD (T k n m : Nat) (c2 c4 : List Value) (o2 o4 : Option Value) : List SA := match o4 with
  | some v => [ownSl T k v m c4]
  | none => match o2 with
    | some v => [ownSl T k v n c2]
    | none => []
structure JDl (B : Base) (M : List SA) (T k n m : Nat) (c2 c4 : List Value) (i2 i4 : Nat) (D : Nat → Bool) (s : DlS) (w : World) : Prop where
  h2 : s.o2.isSome = D i2
  h4 : s.o4.isSome = D i4
  ord : D i4 = true → D i2 = true
  inv : Inv B s.h (pcD T k n m c2 c4 s.o2 s.o4 ++ M) w
structure RDl (s s' : DlS) : Prop where
  h : s.h.le s'.h
  h2 : ∀ v, s.o2 = some v → s'.o2 = some v
  h4 : ∀ v, s.o4 = some v → s'.o4 = some v
theorem RDl.pre : Pre RDl := ⟨fun _ => ⟨Heap.le.refl _, fun _ h => h, fun _ h => h⟩, fun _ _ _ h k => ⟨h.h.trans k.h, fun b e => k.h2 b (h.h2 b e), fun b e => k.h4 b (h.h4 b e)⟩⟩
def AtD2 (u : Value) (s : DlS) : Prop := s.o2 = some u
def AtD4 (u : Value) (s : DlS) : Prop := s.o4 = some u
theorem AtD2.mono : MonoG RDl AtD2 := fun _ _ _ r h => r.h2 _ h
theorem AtD4.mono : MonoG RDl AtD4 := fun _ _ _ r h => r.h4 _ h
section
variable {P : Program} {o : Oper} {e : Env} {B : Base} {M : List SA} {T k n m : Nat} {c2 c4 : List Value} {i2 i4 i : Nat} {D : Nat → Bool} {s : DlS} {w : World}
theorem JDl.base (j : JDl B M T k n m c2 c4 i2 i4 D s w) : Inv B s.h M w := j.inv.weak (List.sublist_append_right _ _)
theorem JDl.set (h : i2 ≠ i ∧ i4 ≠ i) : ∀ D s w, JDl B M T k n m c2 c4 i2 i4 D s w → JDl B M T k n m c2 c4 i2 i4 (setD D i) s w := fun D s w j => by
  have e : ∀ x, x ≠ i → setD D i x = D x := fun x hx => by simp [setD, hx]
  exact ⟨by rw [e _ h.1]; exact j.h2, by rw [e _ h.2]; exact j.h4, by rw [e _ h.1, e _ h.2]; exact j.ord, j.inv⟩
theorem JDl.first (j : JDl B M T k n m c2 c4 i2 i4 D s w) (hD : D i2 = false) (h24 : i4 ≠ i2) (hop : Inv B s.h M w → Op1 P o e w fun u w' => ∃ h', s.h.le h' ∧ Inv B h' (ownSl T k u n c2 :: M) w') :
    Op1 P o e w fun u w' => ∃ s', RDl s s' ∧ JDl B M T k n m c2 c4 i2 i4 (setD D i2) s' w' ∧ AtD2 u s' := by
  have h2 : s.o2 = none := by have := j.h2; rw [hD] at this; cases h : s.o2 <;> simp_all
  have hD4 : D i4 = false := by
    cases h : D i4
    · rfl
    · rw [j.ord h] at hD; cases hD
  have h4 : s.o4 = none := by have := j.h4; rw [hD4] at this; cases h : s.o4 <;> simp_all
  refine (hop j.base).mono fun u w' ⟨h', hl, I⟩ => ⟨⟨h', some u, none⟩, ⟨hl, fun v hv => (by rw [h2] at hv; cases hv), fun v hv => (by rw [h4] at hv; cases hv)⟩, ⟨?_, ?_, fun hh => ?_, I⟩, rfl⟩
  · simp [setD]
  · rw [show setD D i2 i4 = D i4 by simp [setD, h24], hD4]; rfl
  · simp [setD]
theorem JDl.second (j : JDl B M T k n m c2 c4 i2 i4 D s w) (hD : D i4 = false) (h24 : i2 ≠ i4) {u2 : Value} (hu : AtD2 u2 s) (hop : Inv B s.h (ownSl T k u2 n c2 :: M) w → Op1 P o e w fun u w' => ∃ h', s.h.le h' ∧ Inv B h' (ownSl T k u m c4 :: M) w') :
    Op1 P o e w fun u w' => ∃ s', RDl s s' ∧ JDl B M T k n m c2 c4 i2 i4 (setD D i4) s' w' ∧ AtD4 u s' := by
  have h4 : s.o4 = none := by have := j.h4; rw [hD] at this; cases h : s.o4 <;> simp_all
  have h2 : s.o2 = some u2 := hu
  have I := j.inv
  rw [h4, h2] at I
  have hD2 : D i2 = true := by rw [← j.h2, h2]; rfl
  refine (hop I).mono fun u w' ⟨h', hl, I⟩ => ⟨⟨h', some u2, some u⟩, ⟨hl, fun v hv => (by rw [h2] at hv; exact hv), fun v hv => (by rw [h4] at hv; cases hv)⟩, ⟨?_, ?_, fun _ => ?_, I⟩, rfl⟩
  · rw [show setD D i4 i2 = D i2 by simp [setD, h24], hD2]; rfl
  · simp [setD]
  · rw [show setD D i4 i2 = D i2 by simp [setD, h24], hD2]
end
theorem WPD.regionG {σ : Type} {P : Program} {N : Nat} {D : List Deferred} {e : Env} {w : World} {Q : Exit → Env → World → List Deferred → Prop} {id : Nat} {ops : Array Oper} {J : (Nat → Bool) → σ → World → Prop} {R : σ → σ → Prop} (hm : Mixed P) (hR : Pre R) (s0 : σ) (I : J (fun _ => false) s0 w.drew) (m : Nat) (hB : flowB ops m = true)
    (k : OpsG P ops J R s0 0 [] (ops.toList.take m) e (fun L e' => ∀ D' h1 w1, (∀ j, j < m → D' j = true) → R s0 h1 → J D' h1 w1 → AllG (fun _ => true) h1 L e' fun e'' => Ops P ops (ops.toList.drop m) e'' w1 (fun e3 w3 => Q .normal e3 w3 D))) : WPD P N D (.region id ops true) e w Q := WPD.of (WP.regionG hm hR s0 I m hB k)
end Go.TF
end
section
/- A region in which a literal is made and appended to what the call owns, while what is loaded may be loaded ahead or behind. -/
namespace Go.TF
open Go Go.RowKit

structure ApS where
  h : Heap
  o7 : Option (Nat × Nat)
def pcA (T k n m : Nat) (v : Value) (xs x : List Value) (o7 : Option (Nat × Nat)) : SA := match o7 with
  | none => ownSl T k v n xs
  | some y => ownSl T k (.slice (some ⟨y.1, 0, none⟩) (n + m) y.2) (n + m) (xs ++ x)
structure JAp (B : Base) (M : List SA) (T k n m : Nat) (v : Value) (xs x : List Value) (i7 : Nat) (D : Nat → Bool) (s : ApS) (w : World) : Prop where
  h7 : s.o7.isSome = D i7
  inv : Inv B s.h (pcA T k n m v xs x s.o7 :: M) w
structure RAp (s s' : ApS) : Prop where
  h : s.h.le s'.h
  h7 : ∀ y, s.o7 = some y → s'.o7 = some y
theorem RAp.pre : Pre RAp := ⟨fun _ => ⟨Heap.le.refl _, fun _ h => h⟩, fun _ _ _ h k => ⟨h.h.trans k.h, fun y e => k.h7 y (h.h7 y e)⟩⟩
def AtAp (N : Nat) (u : Value) (s : ApS) : Prop := ∃ g c, u = .slice (some ⟨g, 0, none⟩) N c ∧ s.o7 = some (g, c)
theorem AtAp.mono {N : Nat} : MonoG RAp (AtAp N) := fun _ _ _ r ⟨g, c, h1, h2⟩ => ⟨g, c, h1, r.h7 _ h2⟩
def KnA (Φ : Sp) (u : Value) (s : ApS) : Prop := Φ u s.h
theorem KnA.mono {Φ : Sp} (hm : MonoS Φ) : MonoG RAp (KnA Φ) := fun _ _ _ r h => hm _ _ _ r.h h
section
variable {P : Program} {o : Oper} {e : Env} {B : Base} {M : List SA} {T k n m : Nat} {v : Value} {xs x : List Value} {i7 i : Nat} {D : Nat → Bool} {s : ApS} {w : World}
theorem JAp.base (j : JAp B M T k n m v xs x i7 D s w) : Inv B s.h M w := j.inv.drop
theorem JAp.set (h : i7 ≠ i) : ∀ D s w, JAp B M T k n m v xs x i7 D s w → JAp B M T k n m v xs x i7 (setD D i) s w := fun D s w j => ⟨by rw [show setD D i i7 = D i7 by simp [setD, h]]; exact j.h7, j.inv⟩
/-- What makes known more, and turns nothing. -/
theorem JAp.know {Φ : Sp} (j : JAp B M T k n m v xs x i7 D s w) (h : i7 ≠ i) (hop : ∀ N, Inv B s.h N w → Op1 P o e w fun u w' => ∃ h', s.h.le h' ∧ Inv B h' N w' ∧ Φ u h') :
    Op1 P o e w fun u w' => ∃ s', RAp s s' ∧ JAp B M T k n m v xs x i7 (setD D i) s' w' ∧ KnA Φ u s' :=
  (hop _ j.inv).mono fun u w' ⟨h', hl, I, hu⟩ => ⟨⟨h', s.o7⟩, ⟨hl, fun _ e => e⟩, ⟨by rw [show setD D i i7 = D i7 by simp [setD, h]]; exact j.h7, I⟩, hu⟩
end
end Go.TF
end
section
/- A region in which a variable is made, and a slice is made and turned into another; what is known may grow in it. -/
namespace Go.TF
open Go Go.RowKit

structure UnS where
  h : Heap
  o2 : Option Value
  o4 : Option Value
  o7 : Option Nat
def pcB (o7 : Option Nat) (z : List Value) (Tb : TypeId) : List SA := match o7 with
  | none => []
  | some b => [box b z Tb]
structure JUn (B : Base) (M : List SA) (T k n m : Nat) (c2 c4 : List Value) (Tb : TypeId) (z : List Value) (i2 i4 i7 : Nat) (D : Nat → Bool) (s : UnS) (w : World) : Prop where
  h2 : s.o2.isSome = D i2
  h4 : s.o4.isSome = D i4
  h7 : s.o7.isSome = D i7
  ord : D i4 = true → D i2 = true
  inv : Inv B s.h (pcD T k n m c2 c4 s.o2 s.o4 ++ (pcB s.o7 z Tb ++ M)) w
structure RUn (s s' : UnS) : Prop where
  h : s.h.le s'.h
  h2 : ∀ v, s.o2 = some v → s'.o2 = some v
  h4 : ∀ v, s.o4 = some v → s'.o4 = some v
  h7 : ∀ v, s.o7 = some v → s'.o7 = some v
theorem RUn.pre : Pre RUn := ⟨fun _ => ⟨Heap.le.refl _, fun _ h => h, fun _ h => h, fun _ h => h⟩, fun _ _ _ h k => ⟨h.h.trans k.h, fun b e => k.h2 b (h.h2 b e), fun b e => k.h4 b (h.h4 b e), fun b e => k.h7 b (h.h7 b e)⟩⟩
def AtU2 (u : Value) (s : UnS) : Prop := s.o2 = some u
def AtU4 (u : Value) (s : UnS) : Prop := s.o4 = some u
def AtU7 (u : Value) (s : UnS) : Prop := ∃ b, u = .pointer (some ⟨b, 0, none⟩) ∧ s.o7 = some b
def KnUn (Φ : Sp) (u : Value) (s : UnS) : Prop := Φ u s.h
theorem AtU2.mono : MonoG RUn AtU2 := fun _ _ _ r h => r.h2 _ h
theorem AtU4.mono : MonoG RUn AtU4 := fun _ _ _ r h => r.h4 _ h
theorem AtU7.mono : MonoG RUn AtU7 := fun _ _ _ r ⟨b, h1, h2⟩ => ⟨b, h1, r.h7 b h2⟩
theorem KnUn.mono {Φ : Sp} (hm : MonoS Φ) : MonoG RUn (KnUn Φ) := fun _ _ _ r h => hm _ _ _ r.h h
/-- A pair, the second the slice that was turned. -/
def PrU (Ψ : Sp) (u : Value) (s : UnS) : Prop := ∃ x v, u = .agg #[x, v] ∧ Ψ x s.h ∧ s.o4 = some v
theorem PrU.mono {Ψ : Sp} (hm : MonoS Ψ) : MonoG RUn (PrU Ψ) := fun _ _ _ r ⟨x, v, a, b, c⟩ => ⟨x, v, a, hm _ _ _ r.h b, r.h4 _ c⟩
section
variable {P : Program} {o : Oper} {e : Env} {B : Base} {M : List SA} {T k n m : Nat} {c2 c4 : List Value} {Tb : TypeId} {z : List Value} {i2 i4 i7 i : Nat} {D : Nat → Bool} {s : UnS} {w : World}
theorem JUn.base (j : JUn B M T k n m c2 c4 Tb z i2 i4 i7 D s w) : Inv B s.h M w := j.inv.weak ((List.sublist_append_right _ _).trans (List.sublist_append_right _ _))
theorem JUn.set (h : i2 ≠ i ∧ i4 ≠ i ∧ i7 ≠ i) : ∀ D s w, JUn B M T k n m c2 c4 Tb z i2 i4 i7 D s w → JUn B M T k n m c2 c4 Tb z i2 i4 i7 (setD D i) s w := fun D s w j => by
  have e : ∀ x, x ≠ i → setD D i x = D x := fun x hx => by simp [setD, hx]
  exact ⟨by rw [e _ h.1]; exact j.h2, by rw [e _ h.2.1]; exact j.h4, by rw [e _ h.2.2]; exact j.h7, by rw [e _ h.1, e _ h.2.1]; exact j.ord, j.inv⟩
theorem JUn.know {Φ : Sp} (j : JUn B M T k n m c2 c4 Tb z i2 i4 i7 D s w) (h : i2 ≠ i ∧ i4 ≠ i ∧ i7 ≠ i) (hop : ∀ N, Inv B s.h N w → Op1 P o e w fun u w' => ∃ h', s.h.le h' ∧ Inv B h' N w' ∧ Φ u h') :
    Op1 P o e w fun u w' => ∃ s', RUn s s' ∧ JUn B M T k n m c2 c4 Tb z i2 i4 i7 (setD D i) s' w' ∧ KnUn Φ u s' :=
  (hop _ j.inv).mono fun u w' ⟨h', hl, I, hu⟩ => by
    have e : ∀ x, x ≠ i → setD D i x = D x := fun x hx => by simp [setD, hx]
    exact ⟨⟨h', s.o2, s.o4, s.o7⟩, ⟨hl, fun _ e => e, fun _ e => e, fun _ e => e⟩, ⟨by rw [e _ h.1]; exact j.h2, by rw [e _ h.2.1]; exact j.h4, by rw [e _ h.2.2]; exact j.h7, by rw [e _ h.1, e _ h.2.1]; exact j.ord, I⟩, hu⟩
theorem JUn.first (j : JUn B M T k n m c2 c4 Tb z i2 i4 i7 D s w) (hD : D i2 = false) (h24 : i4 ≠ i2) (h27 : i7 ≠ i2) (hop : ∀ N, Inv B s.h N w → Op1 P o e w fun u w' => ∃ h', s.h.le h' ∧ Inv B h' (ownSl T k u n c2 :: N) w') :
    Op1 P o e w fun u w' => ∃ s', RUn s s' ∧ JUn B M T k n m c2 c4 Tb z i2 i4 i7 (setD D i2) s' w' ∧ AtU2 u s' := by
  have h2 : s.o2 = none := by have := j.h2; rw [hD] at this; cases h : s.o2 <;> simp_all
  have hD4 : D i4 = false := by
    cases h : D i4
    · rfl
    · rw [j.ord h] at hD; cases hD
  have h4 : s.o4 = none := by have := j.h4; rw [hD4] at this; cases h : s.o4 <;> simp_all
  have I := j.inv
  rw [h2, h4] at I
  refine (hop _ I).mono fun u w' ⟨h', hl, I⟩ => ⟨⟨h', some u, none, s.o7⟩, ⟨hl, fun v hv => (by rw [h2] at hv; cases hv), fun v hv => (by rw [h4] at hv; cases hv), fun v hv => hv⟩, ⟨?_, ?_, ?_, fun hh => ?_, I⟩, rfl⟩
  · simp [setD]
  · rw [show setD D i2 i4 = D i4 by simp [setD, h24], hD4]; rfl
  · rw [show setD D i2 i7 = D i7 by simp [setD, h27]]; exact j.h7
  · simp [setD]
theorem JUn.second (j : JUn B M T k n m c2 c4 Tb z i2 i4 i7 D s w) (hD : D i4 = false) (h24 : i2 ≠ i4) (h47 : i7 ≠ i4) {u2 : Value} (hu : AtU2 u2 s) (hop : ∀ N, Inv B s.h (ownSl T k u2 n c2 :: N) w → Op1 P o e w fun u w' => ∃ h', s.h.le h' ∧ Inv B h' (ownSl T k u m c4 :: N) w') :
    Op1 P o e w fun u w' => ∃ s', RUn s s' ∧ JUn B M T k n m c2 c4 Tb z i2 i4 i7 (setD D i4) s' w' ∧ AtU4 u s' := by
  have h4 : s.o4 = none := by have := j.h4; rw [hD] at this; cases h : s.o4 <;> simp_all
  have h2 : s.o2 = some u2 := hu
  have I := j.inv
  rw [h4, h2] at I
  have hD2 : D i2 = true := by rw [← j.h2, h2]; rfl
  refine (hop _ I).mono fun u w' ⟨h', hl, I⟩ => ⟨⟨h', some u2, some u, s.o7⟩, ⟨hl, fun v hv => (by rw [h2] at hv; exact hv), fun v hv => (by rw [h4] at hv; cases hv), fun v hv => hv⟩, ⟨?_, ?_, ?_, fun _ => ?_, I⟩, rfl⟩
  · rw [show setD D i4 i2 = D i2 by simp [setD, h24], hD2]; rfl
  · simp [setD]
  · rw [show setD D i4 i7 = D i7 by simp [setD, h47]]; exact j.h7
  · rw [show setD D i4 i2 = D i2 by simp [setD, h24], hD2]
theorem JUn.make {d : Option Nat} {t : TypeId} {pos : String} {af : Array Edge} {zv : Value} (j : JUn B M T k n m c2 c4 Tb z i2 i4 i7 D s w) (hz : Zero P Tb zv) (hc : zv.cells = z.toArray) (hD : D i7 = false) (h27 : i2 ≠ i7) (h47 : i4 ≠ i7) :
    Op1 P ⟨d, .alloc Tb, t, pos, af, none⟩ e w fun u w' => ∃ s', RUn s s' ∧ JUn B M T k n m c2 c4 Tb z i2 i4 i7 (setD D i7) s' w' ∧ AtU7 u s' := by
  have h7 : s.o7 = none := by have := j.h7; rw [hD] at this; cases h : s.o7 <;> simp_all
  have I := j.inv
  rw [h7] at I
  refine O.alloc I hz hc fun b w' I' => ⟨⟨s.h, s.o2, s.o4, some b⟩, ⟨Heap.le.refl _, fun _ e => e, fun _ e => e, fun v hv => (by rw [h7] at hv; cases hv)⟩, ⟨?_, ?_, ?_, ?_, ?_⟩, b, rfl, rfl⟩
  · rw [show setD D i7 i2 = D i2 by simp [setD, h27]]; exact j.h2
  · rw [show setD D i7 i4 = D i4 by simp [setD, h47]]; exact j.h4
  · simp [setD]
  · rw [show setD D i7 i2 = D i2 by simp [setD, h27], show setD D i7 i4 = D i4 by simp [setD, h47]]; exact j.ord
  · exact I'.perm List.perm_middle
theorem JUn.box (j : JUn B M T k n m c2 c4 Tb z i2 i4 i7 D s w) {b : Nat} (h : s.o7 = some b) : Inv B s.h (box b z Tb :: M) w := by
  have I := j.inv
  rw [h] at I
  exact I.weak (List.sublist_append_right _ _)
theorem JUn.turned (j : JUn B M T k n m c2 c4 Tb z i2 i4 i7 D s w) {v : Value} (h : s.o4 = some v) : Inv B s.h (ownSl T k v m c4 :: M) w := by
  have I := j.inv
  rw [h] at I
  exact I.weak (.cons_cons _ (List.sublist_append_right _ _))
theorem JUn.both (j : JUn B M T k n m c2 c4 Tb z i2 i4 i7 D s w) {v : Value} (h : s.o4 = some v) {b : Nat} (h7 : s.o7 = some b) : Inv B s.h (ownSl T k v m c4 :: Go.TF.box b z Tb :: M) w := by
  have I := j.inv
  rw [h, h7] at I
  exact I
/-- What is only looked at. -/
theorem JUn.look {Φ : Sq UnS} {v : Value} (j : JUn B M T k n m c2 c4 Tb z i2 i4 i7 D s w) (h : i2 ≠ i ∧ i4 ≠ i ∧ i7 ≠ i) (hy : Y P o e w v) (hv : Φ v s) :
    Op1 P o e w fun u w' => ∃ s', RUn s s' ∧ JUn B M T k n m c2 c4 Tb z i2 i4 i7 (setD D i) s' w' ∧ Φ u s' := by
  unfold Op1; rw [hy]; exact ⟨s, RUn.pre.refl s, JUn.set h _ _ _ j, hv⟩
end
/-! ### A slice that begins empty and is appended to twice -/
structure U3S where
  h : Heap
  o1 : Option Value
  o2 : Option Value
  o4 : Option Value
  o7 : Option Nat
def pc3 (T k n m : Nat) (c2 c4 : List Value) (o1 o2 o4 : Option Value) : List SA := match o2, o4, o1 with
  | some _, some v, _ => [ownSl T k v m c4]
  | some v, none, _ => [ownSl T k v n c2]
  | none, _, some v => [ownSl T k v 0 []]
  | none, _, none => []
structure JU3 (B : Base) (M : List SA) (T k n m : Nat) (c2 c4 : List Value) (Tb : TypeId) (z : List Value) (i1 i2 i4 i7 : Nat) (D : Nat → Bool) (s : U3S) (w : World) : Prop where
  h1 : s.o1.isSome = D i1
  h2 : s.o2.isSome = D i2
  h4 : s.o4.isSome = D i4
  h7 : s.o7.isSome = D i7
  ord : D i4 = true → D i2 = true
  ord1 : D i2 = true → D i1 = true
  inv : Inv B s.h (pc3 T k n m c2 c4 s.o1 s.o2 s.o4 ++ (pcB s.o7 z Tb ++ M)) w
structure RU3 (s s' : U3S) : Prop where
  h : s.h.le s'.h
  h1 : ∀ v, s.o1 = some v → s'.o1 = some v
  h2 : ∀ v, s.o2 = some v → s'.o2 = some v
  h4 : ∀ v, s.o4 = some v → s'.o4 = some v
  h7 : ∀ v, s.o7 = some v → s'.o7 = some v
theorem RU3.pre : Pre RU3 := ⟨fun _ => ⟨Heap.le.refl _, fun _ h => h, fun _ h => h, fun _ h => h, fun _ h => h⟩, fun _ _ _ h k => ⟨h.h.trans k.h, fun b e => k.h1 b (h.h1 b e), fun b e => k.h2 b (h.h2 b e), fun b e => k.h4 b (h.h4 b e), fun b e => k.h7 b (h.h7 b e)⟩⟩
def At31 (u : Value) (s : U3S) : Prop := s.o1 = some u
def At32 (u : Value) (s : U3S) : Prop := s.o2 = some u
def At34 (u : Value) (s : U3S) : Prop := s.o4 = some u ∧ s.o2.isSome = true
def At37 (u : Value) (s : U3S) : Prop := ∃ b, u = .pointer (some ⟨b, 0, none⟩) ∧ s.o7 = some b
def KnU3 (Φ : Sp) (u : Value) (s : U3S) : Prop := Φ u s.h
theorem At31.mono : MonoG RU3 At31 := fun _ _ _ r h => r.h1 _ h
theorem At32.mono : MonoG RU3 At32 := fun _ _ _ r h => r.h2 _ h
theorem At34.mono : MonoG RU3 At34 := fun _ _ _ r ⟨h, k⟩ => ⟨r.h4 _ h, by obtain ⟨v, hv⟩ := Option.isSome_iff_exists.1 k; rw [r.h2 _ hv]; rfl⟩
theorem At37.mono : MonoG RU3 At37 := fun _ _ _ r ⟨b, h1, h2⟩ => ⟨b, h1, r.h7 b h2⟩
theorem KnU3.mono {Φ : Sp} (hm : MonoS Φ) : MonoG RU3 (KnU3 Φ) := fun _ _ _ r h => hm _ _ _ r.h h
def Pr3 (Ψ : Sp) (u : Value) (s : U3S) : Prop := ∃ x v, u = .agg #[x, v] ∧ Ψ x s.h ∧ At34 v s
theorem Pr3.mono {Ψ : Sp} (hm : MonoS Ψ) : MonoG RU3 (Pr3 Ψ) := fun _ _ _ r ⟨x, v, a, b, c⟩ => ⟨x, v, a, hm _ _ _ r.h b, At34.mono _ _ _ r c⟩
section
variable {P : Program} {o : Oper} {e : Env} {B : Base} {M : List SA} {T k n m : Nat} {c2 c4 : List Value} {Tb : TypeId} {z : List Value} {i1 i2 i4 i7 i : Nat} {D : Nat → Bool} {s : U3S} {w : World}
theorem JU3.base (j : JU3 B M T k n m c2 c4 Tb z i1 i2 i4 i7 D s w) : Inv B s.h M w := j.inv.weak ((List.sublist_append_right _ _).trans (List.sublist_append_right _ _))
theorem JU3.set (h : i1 ≠ i ∧ i2 ≠ i ∧ i4 ≠ i ∧ i7 ≠ i) : ∀ D s w, JU3 B M T k n m c2 c4 Tb z i1 i2 i4 i7 D s w → JU3 B M T k n m c2 c4 Tb z i1 i2 i4 i7 (setD D i) s w := fun D s w j => by
  have e : ∀ x, x ≠ i → setD D i x = D x := fun x hx => by simp [setD, hx]
  exact ⟨by rw [e _ h.1]; exact j.h1, by rw [e _ h.2.1]; exact j.h2, by rw [e _ h.2.2.1]; exact j.h4, by rw [e _ h.2.2.2]; exact j.h7, by rw [e _ h.2.1, e _ h.2.2.1]; exact j.ord, by rw [e _ h.1, e _ h.2.1]; exact j.ord1, j.inv⟩
theorem JU3.know {Φ : Sp} (j : JU3 B M T k n m c2 c4 Tb z i1 i2 i4 i7 D s w) (h : i1 ≠ i ∧ i2 ≠ i ∧ i4 ≠ i ∧ i7 ≠ i) (hop : ∀ N, Inv B s.h N w → Op1 P o e w fun u w' => ∃ h', s.h.le h' ∧ Inv B h' N w' ∧ Φ u h') :
    Op1 P o e w fun u w' => ∃ s', RU3 s s' ∧ JU3 B M T k n m c2 c4 Tb z i1 i2 i4 i7 (setD D i) s' w' ∧ KnU3 Φ u s' :=
  (hop _ j.inv).mono fun u w' ⟨h', hl, I, hu⟩ => by
    have q := JU3.set (B := B) (M := M) (T := T) (k := k) (n := n) (m := m) (c2 := c2) (c4 := c4) (Tb := Tb) (z := z) h D s w j
    exact ⟨⟨h', s.o1, s.o2, s.o4, s.o7⟩, ⟨hl, fun _ e => e, fun _ e => e, fun _ e => e, fun _ e => e⟩, ⟨q.h1, q.h2, q.h4, q.h7, q.ord, q.ord1, I⟩, hu⟩
theorem JU3.look {Φ : Sq U3S} {v : Value} (j : JU3 B M T k n m c2 c4 Tb z i1 i2 i4 i7 D s w) (h : i1 ≠ i ∧ i2 ≠ i ∧ i4 ≠ i ∧ i7 ≠ i) (hy : Y P o e w v) (hv : Φ v s) :
    Op1 P o e w fun u w' => ∃ s', RU3 s s' ∧ JU3 B M T k n m c2 c4 Tb z i1 i2 i4 i7 (setD D i) s' w' ∧ Φ u s' := by
  unfold Op1; rw [hy]; exact ⟨s, RU3.pre.refl s, JU3.set h _ _ _ j, hv⟩
theorem JU3.first (j : JU3 B M T k n m c2 c4 Tb z i1 i2 i4 i7 D s w) (hD : D i1 = false) (h : i2 ≠ i1 ∧ i4 ≠ i1 ∧ i7 ≠ i1) (hop : ∀ N, Inv B s.h N w → Op1 P o e w fun u w' => ∃ h', s.h.le h' ∧ Inv B h' (ownSl T k u 0 [] :: N) w') :
    Op1 P o e w fun u w' => ∃ s', RU3 s s' ∧ JU3 B M T k n m c2 c4 Tb z i1 i2 i4 i7 (setD D i1) s' w' ∧ At31 u s' := by
  have e : ∀ x, x ≠ i1 → setD D i1 x = D x := fun x hx => by simp [setD, hx]
  have h1 : s.o1 = none := by have := j.h1; rw [hD] at this; cases h : s.o1 <;> simp_all
  have hD2 : D i2 = false := by
    cases h : D i2
    · rfl
    · rw [j.ord1 h] at hD; cases hD
  have h2 : s.o2 = none := by have := j.h2; rw [hD2] at this; cases h : s.o2 <;> simp_all
  have I := j.inv
  have hpc : pc3 T k n m c2 c4 s.o1 s.o2 s.o4 = [] := by rw [h1, h2]; cases s.o4 <;> rfl
  rw [hpc] at I
  refine (hop _ I).mono fun u w' ⟨h', hl, I⟩ => ⟨⟨h', some u, none, s.o4, s.o7⟩, ⟨hl, fun v hv => (by rw [h1] at hv; cases hv), fun v hv => (by rw [h2] at hv; cases hv), fun v hv => hv, fun v hv => hv⟩, ⟨?_, ?_, ?_, ?_, ?_, ?_, ?_⟩, rfl⟩
  · simp [setD]
  · rw [e _ h.1, hD2]; rfl
  · rw [e _ h.2.1]; exact j.h4
  · rw [e _ h.2.2]; exact j.h7
  · rw [e _ h.1, e _ h.2.1]; exact j.ord
  · rw [e _ h.1, hD2]; exact fun h => by cases h
  · cases s.o4 <;> exact I
theorem JU3.second (j : JU3 B M T k n m c2 c4 Tb z i1 i2 i4 i7 D s w) (hD : D i2 = false) (h : i1 ≠ i2 ∧ i4 ≠ i2 ∧ i7 ≠ i2) {u2 : Value} (hu : At31 u2 s) (hop : ∀ N, Inv B s.h (ownSl T k u2 0 [] :: N) w → Op1 P o e w fun u w' => ∃ h', s.h.le h' ∧ Inv B h' (ownSl T k u n c2 :: N) w') :
    Op1 P o e w fun u w' => ∃ s', RU3 s s' ∧ JU3 B M T k n m c2 c4 Tb z i1 i2 i4 i7 (setD D i2) s' w' ∧ At32 u s' := by
  have e : ∀ x, x ≠ i2 → setD D i2 x = D x := fun x hx => by simp [setD, hx]
  have h2 : s.o2 = none := by have := j.h2; rw [hD] at this; cases h : s.o2 <;> simp_all
  have h1 : s.o1 = some u2 := hu
  have hD4 : D i4 = false := by
    cases h : D i4
    · rfl
    · rw [j.ord h] at hD; cases hD
  have h4 : s.o4 = none := by have := j.h4; rw [hD4] at this; cases h : s.o4 <;> simp_all
  have hD1 : D i1 = true := by rw [← j.h1, h1]; rfl
  have I := j.inv
  rw [h1, h2, h4] at I
  refine (hop _ I).mono fun u w' ⟨h', hl, I⟩ => ⟨⟨h', some u2, some u, none, s.o7⟩, ⟨hl, fun v hv => (by rw [h1] at hv; exact hv), fun v hv => (by rw [h2] at hv; cases hv), fun v hv => (by rw [h4] at hv; cases hv), fun v hv => hv⟩, ⟨?_, ?_, ?_, ?_, ?_, ?_, I⟩, rfl⟩
  · rw [e _ h.1, hD1]; rfl
  · simp [setD]
  · rw [e _ h.2.1, hD4]; rfl
  · rw [e _ h.2.2]; exact j.h7
  · rw [e _ h.2.1, hD4]; exact fun h => by cases h
  · rw [e _ h.1]; exact fun _ => hD1
theorem JU3.third (j : JU3 B M T k n m c2 c4 Tb z i1 i2 i4 i7 D s w) (hD : D i4 = false) (h : i1 ≠ i4 ∧ i2 ≠ i4 ∧ i7 ≠ i4) {u2 : Value} (hu : At32 u2 s) (hop : ∀ N, Inv B s.h (ownSl T k u2 n c2 :: N) w → Op1 P o e w fun u w' => ∃ h', s.h.le h' ∧ Inv B h' (ownSl T k u m c4 :: N) w') :
    Op1 P o e w fun u w' => ∃ s', RU3 s s' ∧ JU3 B M T k n m c2 c4 Tb z i1 i2 i4 i7 (setD D i4) s' w' ∧ At34 u s' := by
  have e : ∀ x, x ≠ i4 → setD D i4 x = D x := fun x hx => by simp [setD, hx]
  have h4 : s.o4 = none := by have := j.h4; rw [hD] at this; cases h : s.o4 <;> simp_all
  have h2 : s.o2 = some u2 := hu
  have hD2 : D i2 = true := by rw [← j.h2, h2]; rfl
  have I := j.inv
  rw [h2, h4] at I
  have I : Inv B s.h (ownSl T k u2 n c2 :: (pcB s.o7 z Tb ++ M)) w := by cases h : s.o1 <;> rw [h] at I <;> exact I
  refine (hop _ I).mono fun u w' ⟨h', hl, I⟩ => ⟨⟨h', s.o1, some u2, some u, s.o7⟩, ⟨hl, fun v hv => hv, fun v hv => (by rw [h2] at hv; exact hv), fun v hv => (by rw [h4] at hv; cases hv), fun v hv => hv⟩, ⟨?_, ?_, ?_, ?_, ?_, ?_, ?_⟩, rfl, rfl⟩
  · rw [e _ h.1]; exact j.h1
  · rw [e _ h.2.1, hD2]; rfl
  · simp [setD]
  · rw [e _ h.2.2]; exact j.h7
  · rw [e _ h.2.1]; exact fun _ => hD2
  · rw [e _ h.1, e _ h.2.1]; exact j.ord1
  · cases s.o1 <;> exact I
theorem JU3.make {d : Option Nat} {t : TypeId} {pos : String} {af : Array Edge} {zv : Value} (j : JU3 B M T k n m c2 c4 Tb z i1 i2 i4 i7 D s w) (hz : Zero P Tb zv) (hc : zv.cells = z.toArray) (hD : D i7 = false) (h : i1 ≠ i7 ∧ i2 ≠ i7 ∧ i4 ≠ i7) :
    Op1 P ⟨d, .alloc Tb, t, pos, af, none⟩ e w fun u w' => ∃ s', RU3 s s' ∧ JU3 B M T k n m c2 c4 Tb z i1 i2 i4 i7 (setD D i7) s' w' ∧ At37 u s' := by
  have e : ∀ x, x ≠ i7 → setD D i7 x = D x := fun x hx => by simp [setD, hx]
  have h7 : s.o7 = none := by have := j.h7; rw [hD] at this; cases h : s.o7 <;> simp_all
  have I := j.inv
  rw [h7] at I
  refine O.alloc I hz hc fun b w' I' => ⟨⟨s.h, s.o1, s.o2, s.o4, some b⟩, ⟨Heap.le.refl _, fun _ e => e, fun _ e => e, fun _ e => e, fun v hv => (by rw [h7] at hv; cases hv)⟩, ⟨?_, ?_, ?_, ?_, ?_, ?_, ?_⟩, b, rfl, rfl⟩
  · rw [e _ h.1]; exact j.h1
  · rw [e _ h.2.1]; exact j.h2
  · rw [e _ h.2.2]; exact j.h4
  · simp [setD]
  · rw [e _ h.2.1, e _ h.2.2]; exact j.ord
  · rw [e _ h.1, e _ h.2.1]; exact j.ord1
  · exact I'.perm List.perm_middle
theorem JU3.piece (j : JU3 B M T k n m c2 c4 Tb z i1 i2 i4 i7 D s w) {v : Value} (h : At34 v s) : Inv B s.h (ownSl T k v m c4 :: (pcB s.o7 z Tb ++ M)) w := by
  have I := j.inv
  obtain ⟨u, hu⟩ := Option.isSome_iff_exists.1 h.2
  rw [hu, h.1] at I
  cases h1 : s.o1 <;> rw [h1] at I <;> exact I
theorem JU3.turned (j : JU3 B M T k n m c2 c4 Tb z i1 i2 i4 i7 D s w) {v : Value} (h : At34 v s) : Inv B s.h (ownSl T k v m c4 :: M) w := (j.piece h).weak (.cons_cons _ (List.sublist_append_right _ _))
theorem JU3.both (j : JU3 B M T k n m c2 c4 Tb z i1 i2 i4 i7 D s w) {v : Value} (h : At34 v s) {b : Nat} (h7 : s.o7 = some b) : Inv B s.h (ownSl T k v m c4 :: Go.TF.box b z Tb :: M) w := by
  have I := j.piece h
  rw [h7] at I
  exact I
end
end Go.TF
end
section
/- Slices of rules: room, one behind the other, one taken out. -/
namespace Go.TF
open Go Go.RowKit Go.Proofs
set_option maxRecDepth 20000

/-- A slice that the call made, with what it holds. -/
def OwS {α : Type} (T k : Nat) (enc : α → List Value) (h0 : Heap) (xs : List α) : Sp := fun v h => ∃ s : Sl α, v = s.val ∧ s.xs = xs ∧ OwnH T k s enc h0 h
theorem OwS.mono {α : Type} {T k : Nat} {enc : α → List Value} {h0 : Heap} {xs : List α} : MonoS (OwS T k enc h0 xs) := fun _ _ _ hl ⟨s, a, b, c⟩ => ⟨s, a, b, c.le hl⟩
section
variable {P : Program} {e : Env} {w : World} {t : TypeId} {pos : String} {af : Array Edge} {g : Option (Nat × Bool)} {d : Option Nat}
theorem Y.slice3 {T el k b n c i j m : Nat} {x lo hi mx : Operand} {k1 k2 k3 : IntKind} (hT : Und P T (.slice el)) (hk : ∀ w, (sizeOf el).run P w = .ok k w) (hx : ev e x = .slice (some ⟨b, 0, none⟩) n c)
    (hl : ev e lo = .int k1 (i : Int)) (hh : ev e hi = .int k2 (j : Int)) (hm : ev e mx = .int k3 (m : Int)) (h1 : i ≤ j) (h2 : j ≤ m) (h3 : m ≤ c) :
    Y P ⟨d, .slice T x (some lo) (some hi) (some mx), t, pos, af, g⟩ e w (.slice (some (if m = i then ⟨b, 0, none⟩ else ⟨b, i * k, none⟩)) (j - i) (m - i)) := by
  simp_all [Y, execOp, Instr.sliceAt, Instr.slice, Instr.sliceBounds, Instr.sliceBound, run_underlying hT, asIntOf, addr_add]
  split <;> rfl
/-- From an index on. -/
theorem Y.cutJ {T el k b n c l : Nat} {x q : Operand} {ik : IntKind} (hT : Und P T (.slice el)) (hk : ∀ w, (sizeOf el).run P w = .ok k w) (hx : ev e x = .slice (some ⟨b, 0, none⟩) n c) (hq : ev e q = .int ik (l : Int)) (h1 : l ≤ n) (h2 : n ≤ c) :
    Y P ⟨d, .slice T x (some q) none none, t, pos, af, g⟩ e w (.slice (some ⟨b, if c = l then 0 else l * k, none⟩) (n - l) (c - l)) := by
  refine (Y.slicesl hT hk hx (.inr ⟨q, ik, rfl, hq⟩) (.inl ⟨rfl, rfl⟩) h1 h2).is ?_
  split <;> simp
end
theorem rul_len (x : Rul) : x.enc.length = 5 := rfl
theorem rul_one1 (x : Rul) : oneCells x.enc = true := rfl
theorem rul_one (xs : List Rul) : oneCells (xs.flatMap Rul.enc) = true := by
  simp only [oneCells, List.all_flatMap]
  rw [List.all_eq_true]
  intro x _
  exact rul_one1 x
set_option maxHeartbeats 4000000 in
theorem DelRul_ok {B : Base} {h : Heap} {M : List SA} {w : World} {gg c m i : Nat} {xs : List Rul} (I : Inv B h (ownSl 46 5 (.slice (some ⟨gg, 0, none⟩) m c) m (xs.flatMap Rul.enc) :: M) w) (hm : m = xs.length) (hi : i < m) (hsz : m ≤ 1000) :
    Calls Tryz.prog 30 [.slice (some ⟨gg, 0, none⟩) m c, .int .i64 i, .int .i64 (i + 1)].toArray w
      (fun ed w' => ∃ v h', ed = .returned v ∧ h.le h' ∧ Inv B h' (ownSl 46 5 v (m - 1) ((xs.eraseIdx i).flatMap Rul.enc) :: M) w') := by
  obtain ⟨_, hcap⟩ := I.shapeOwn 0 rfl
  refine Calls.ofWP (args := [.slice (some ⟨gg, 0, none⟩) m c, .int .i64 i, .int .i64 (i + 1)]) Tryz.func30 rfl Tryz.ntmps30 (by kernel_rfl) (by simp) ?_
  intro e
  refine WP.seq ?_
  refine WP.region ?_
  refine Ops.y (v := .slice _ _ _) (Y.assign rfl) ?_
  refine Ops.nil ?_
  refine WP.seq ?_
  refine WP.region ?_
  refine Ops.y (v := .slice _ _ _) (Y.move rfl) ?_
  refine Ops.y (v := .int .i64 _) (Y.move rfl) ?_
  refine Ops.y (v := .int .i64 _) (Y.move rfl) ?_
  refine Ops.y (v := .slice _ _ _) (Y.move rfl) ?_
  refine Ops.y (v := .int .i64 _) (Y.lens Tryz.underlying23 rfl) ?_
  refine Ops.y (v := .slice _ _ _) (Y.slice3 (i := i) (j := i + 1) (m := m) Tryz.underlying23 Tryz.sizeOf46 rfl rfl rfl rfl (by omega) (by omega) (by omega)) ?_
  refine Ops.nil ?_
  refine WP.seq ?_
  refine WP.seq ?_
  refine WP.region ?_
  refine Ops.y (v := .int .i64 _) (Y.move rfl) ?_
  refine Ops.y (v := .int .i64 _) (Y.move rfl) ?_
  refine Ops.y (v := .bool false) (Y.dec_f (Y.eqi rfl rfl) ((by omega))) ?_
  refine Ops.nil ?_
  refine WP.cond_f rfl ?_
  refine WP.skip ?_
  refine WP.seq ?_
  refine WP.region ?_
  refine Ops.y (v := .slice _ _ _) (Y.move rfl) ?_
  refine Ops.y (v := .int .i64 _) (Y.lens Tryz.underlying23 rfl) ?_
  refine Ops.y (v := .int .i64 _) (Y.assign rfl) ?_
  refine Ops.nil ?_
  have hfl : (xs.flatMap Rul.enc).take (i * 5) ++ (xs.flatMap Rul.enc).drop ((i + 1) * 5) = (xs.eraseIdx i).flatMap Rul.enc := by rw [flat_take rul_len, flat_drop rul_len, ← List.flatMap_append, List.eraseIdx_eq_take_drop_succ]
  refine WP.seq ?_
  refine WP.regionF mixed I 6 (by kernel_rfl) ?_
  refine OpsF.y_ (v := .slice _ _ _) (fun _ => runs_none _) (fun _ w us hl I => Y.move rfl) ?_
  refine OpsF.y_ (v := .int .i64 _) (fun _ => runs_none _) (fun _ w us hl I => Y.move rfl) ?_
  refine OpsF.y_ (v := .slice _ _ _) (fun _ => runs_none _) (fun _ w us hl I => Y.cutO (l := 0) (h' := i) Tryz.underlying23 Tryz.sizeOf46 rfl (.inl ⟨rfl, rfl⟩) (.inr ⟨_, _, rfl, rfl⟩) (by omega) (by omega) (by omega)) ?_
  refine OpsF.y_ (v := .slice _ _ _) (fun _ => runs_none _) (fun _ w us hl I => Y.move rfl) ?_
  refine OpsF.y_ (v := .int .i64 _) (fun _ => runs_none _) (fun _ w us hl I => Y.move rfl) ?_
  refine OpsF.y_ (v := .slice _ _ _) (fun _ => runs_none _) (fun _ w us hl I => Y.cutJ (l := i + 1) Tryz.underlying23 Tryz.sizeOf46 rfl rfl (by omega) (by omega)) ?_
  refine OpsF.nil ?_
  intro _ w hl I
  try unfold AllL
  refine Ops.go (O.closeUp (i := i) (j := i + 1) I Tryz.underlying23 et_46 (rul_one xs) (by omega) (by omega) rfl rfl (by split <;> omega) ?_)
  intro w I
  refine Ops.y (v := .slice _ _ _) (Y.assign rfl) ?_
  refine Ops.nil ?_
  rw [hfl] at I
  refine WP.seq ?_
  refine WP.region ?_
  refine Ops.y (v := .slice _ _ _) (Y.move rfl) ?_
  refine Ops.y (v := .slice _ _ _) (Y.move rfl) ?_
  refine Ops.y (v := .int .i64 _) (Y.lens Tryz.underlying23 rfl) ?_
  refine Ops.y (v := .int .i64 _) (Y.move rfl) ?_
  refine Ops.y (v := .slice _ _ _) (Y.cutO (l := i + (m - (i + 1))) (h' := m) Tryz.underlying23 Tryz.sizeOf46 rfl (.inr ⟨_, _, rfl, rfl⟩) (.inr ⟨_, _, rfl, rfl⟩) (by omega) (by omega) (by omega)) ?_
  refine Ops.go (O.clearS I Tryz.underlying23 et_46 (by simp [Value.cells, Value.oneCell']) rfl (by omega) rfl (by omega) ?_)
  intro w I
  refine Ops.nil ?_
  refine WP.seq ?_
  refine WP.region ?_
  refine Ops.y (v := .slice _ _ _) (Y.move rfl) ?_
  refine Ops.y (v := .slice _ _ _) (Y.assign rfl) ?_
  refine Ops.nil ?_
  refine WP.ret ?_
  repeat (first | refine thenE_ret ?_ | refine blockE_ret ?_)
  rw [show i + (m - (i + 1)) = m - 1 by omega] at I
  exact ⟨.inl rfl, [.slice (some ⟨gg, 0, none⟩) (i + (m - (i + 1))) c], ⟨rfl, trivial⟩, _, _, rfl, hl, by rw [show i + (m - (i + 1)) = m - 1 by omega]; exact I⟩
theorem DelRul_v {B : Base} {h : Heap} {M : List SA} {w : World} {v : Value} {m i : Nat} {xs : List Rul} (I : Inv B h (ownSl 46 5 v m (xs.flatMap Rul.enc) :: M) w) (hm : m = xs.length) (hi : i < m) (hsz : m ≤ 1000) :
    Calls Tryz.prog 30 [v, .int .i64 i, .int .i64 (i + 1)].toArray w
      (fun ed w' => ∃ v h', ed = .returned v ∧ h.le h' ∧ Inv B h' (ownSl 46 5 v (m - 1) ((xs.eraseIdx i).flatMap Rul.enc) :: M) w') := by
  rcases (I.at 0 rfl).2 with ⟨_, h0⟩ | ⟨gg, cap, cur, rfl, _⟩
  · omega
  · exact DelRul_ok I hm hi hsz
/-! ### Cuts of what is known -/
section
variable {P : Program} {e : Env} {w : World} {t : TypeId} {pos : String} {af : Array Edge} {g : Option (Nat × Bool)} {d : Option Nat} {α : Type}
@[reducible] def Sl.takeS (s : Sl α) (l : Nat) : Sl α := ⟨s.at_, s.cap, s.xs.take l⟩
@[reducible] def Sl.dropS (s : Sl α) (k l : Nat) : Sl α := ⟨some (if s.cap = l then ⟨s.blk, s.off, none⟩ else ⟨s.blk, s.off + l * k, none⟩), s.cap - l, s.xs.drop l⟩
theorem Y.takeS {T el k l : Nat} {ik : IntKind} {x q : Operand} {s : Sl α} (ha : s.at_ = some ⟨s.blk, s.off, none⟩) (hT : Und P T (.slice el)) (hk : ∀ w, (sizeOf el).run P w = .ok k w) (hx : ev e x = s.val) (hq : ev e q = .int ik (l : Int)) (hl : l ≤ s.xs.length) (hc : s.xs.length ≤ s.cap) :
    Y P ⟨d, .slice T x none (some q) none, t, pos, af, g⟩ e w (s.takeS l).val := by
  have hx' : ev e x = .slice (some ⟨s.blk, s.off, none⟩) s.xs.length s.cap := by rw [hx]; unfold Sl.val; rw [← ha]
  refine (Y.slicesl (l := 0) (h := l) hT hk hx' (.inl ⟨rfl, rfl⟩) (.inr ⟨q, ik, rfl, hq⟩) (Nat.zero_le _) (by omega)).is ?_
  simp [Sl.val, Nat.min_eq_left hl]
  exact ha.symm
theorem Y.dropS {T el k l : Nat} {ik : IntKind} {x q : Operand} {s : Sl α} (ha : s.at_ = some ⟨s.blk, s.off, none⟩) (hT : Und P T (.slice el)) (hk : ∀ w, (sizeOf el).run P w = .ok k w) (hx : ev e x = s.val) (hq : ev e q = .int ik (l : Int)) (hl : l ≤ s.xs.length) (hc : s.xs.length ≤ s.cap) :
    Y P ⟨d, .slice T x (some q) none none, t, pos, af, g⟩ e w (s.dropS k l).val := by
  have hx' : ev e x = .slice (some ⟨s.blk, s.off, none⟩) s.xs.length s.cap := by rw [hx]; unfold Sl.val; rw [← ha]
  refine (Y.slicesl (l := l) (h := s.xs.length) hT hk hx' (.inr ⟨q, ik, rfl, hq⟩) (.inl ⟨rfl, rfl⟩) hl hc).is ?_
  simp [Sl.val]
theorem takeS_is {s : Sl α} {k l : Nat} {enc : α → List Value} {h : Heap} (hs : s.Is k enc h) : (s.takeS l).Is k enc h := by
  refine ⟨fun i x hx => hs.el i x ?_, ?_⟩
  · rw [List.getElem?_take] at hx
    split at hx
    · exact hx
    · cases hx
  · have := hs.small
    show (s.xs.take l).length ≤ _
    rw [List.length_take]; omega
theorem dropS_is {s : Sl α} {k l : Nat} {enc : α → List Value} {h : Heap} (hs : s.Is k enc h) (hl : l ≤ s.xs.length) (hc : s.xs.length ≤ s.cap) : (s.dropS k l).Is k enc h := by
  refine ⟨fun i x hx => ?_, ?_⟩
  · rw [List.getElem?_drop] at hx
    have hlt := (List.getElem?_eq_some_iff.1 hx).1
    have hne : s.cap ≠ l := by omega
    have e : s.dropS k l = ⟨some ⟨s.blk, s.off + l * k, none⟩, s.cap - l, s.xs.drop l⟩ := by unfold Sl.dropS; rw [if_neg hne]
    obtain ⟨_, h2⟩ := hs.el (l + i) x hx
    rw [e]
    refine ⟨rfl, ?_⟩
    show RdH h s.blk (s.off + l * k + i * k) (enc x)
    rw [Nat.add_assoc, ← Nat.add_mul]
    exact h2
  · have := hs.small
    show (s.xs.drop l).length ≤ _
    rw [List.length_drop]; omega
end
end Go.TF
end
section
/- Two programs in one, one without a rule: the program's answer and the document's. -/
namespace Go.TF
open Go Go.RowKit Go.Proofs
set_option maxRecDepth 20000

/-- Two slices in one struct. -/
def Pr2 (Φ Ψ : Sp) : Sp := fun u h => ∃ x y, u = .agg #[x, y] ∧ Φ x h ∧ Ψ y h
theorem Pr2.mono' {Φ Ψ : Sp} (h1 : MonoS Φ) (h2 : MonoS Ψ) : MonoS (Pr2 Φ Ψ) := fun _ _ _ hl ⟨x, y, a, b, c⟩ => ⟨x, y, a, h1 _ _ _ hl b, h2 _ _ _ hl c⟩
@[reducible] def PdS (h0 : Heap) (xs : List Prd) : Sp := OwS 40 3 Prd.enc h0 xs
@[reducible] def RlS (h0 : Heap) (xs : List Rul) : Sp := OwS 46 5 Rul.enc h0 xs
def PgS (h0 : Heap) (ps : List Prd) (rs : List Rul) : Sp := Pr2 (PdS h0 ps) (RlS h0 rs)
theorem PgS.mono {h0 : Heap} {ps : List Prd} {rs : List Rul} : MonoS (PgS h0 ps rs) := Pr2.mono' OwS.mono OwS.mono
theorem PdS.mono {h0 : Heap} {xs : List Prd} : MonoS (PdS h0 xs) := OwS.mono
theorem RlS.mono {h0 : Heap} {xs : List Rul} : MonoS (RlS h0 xs) := OwS.mono
/-- What comes: a program, its slices made by the call. -/
def SumO (h0 : Heap) (r : (List Prd × List Rul) × Int) (v : Value) (h : Heap) : Prop := ∃ a : Prg, v = .tuple #[a.val, .int .i64 r.2] ∧ a.preds.xs = r.1.1 ∧ a.rules.xs = r.1.2 ∧ OwnH 40 3 a.preds Prd.enc h0 h ∧ OwnH 46 5 a.rules Rul.enc h0 h
theorem own_prg {a : Prg} {h0 h : Heap} (hl : h0.le h) (o1 : OwnH 40 3 a.preds Prd.enc h0 h) (o2 : OwnH 46 5 a.rules Rul.enc h0 h) (h1 : a.preds.xs.length ≤ 5) (h2 : a.rules.xs.length ≤ 16) (he : ∀ r ∈ a.rules.xs, r.In h0) : a.In h :=
  ⟨⟨o1.in (fun _ => rfl), by omega⟩, ⟨⟨o2.in rul_len, by omega⟩, fun x hx => (he x hx).le hl⟩⟩
theorem SumO.err {h0 h : Heap} {e : Int} : SumO h0 (([], []), e) (.tuple #[.agg #[.slice none 0 0, .slice none 0 0], .int .i64 e]) h := ⟨⟨⟨none, 0, []⟩, ⟨none, 0, []⟩⟩, rfl, rfl, rfl, .inl rfl, .inl rfl⟩
theorem erase_len {rs : List Rul} {i : Nat} (h : i < rs.length) : rs.length - 1 = (rs.eraseIdx i).length := by rw [List.length_eraseIdx, if_pos h]
set_option maxHeartbeats 8000000 in
theorem Without_own (B : Base) (hB : B.ok) (p : Prg) (hp : p.In B.h) (hnm : p.Nm) (n : Int) : Fn Tryz.prog 9 [p.val, .int .i64 n] B (SumO B.h (withoutOf p n)) := by
  refine Fn.of Tryz.func9 rfl Tryz.ntmps9 (by kernel_rfl) (by simp) ?_
  intro e
  have I := Inv.start hB
  refine WP.seq ?_
  refine WP.region ?_
  refine Ops.go (O.box (v := .agg #[_, _]) I rfl rfl ?_)
  intro b2 w I
  refine Ops.go (O.alloc I Tryz.zeroValue25 rfl ?_)
  intro b4 w I
  refine Ops.y (v := .int .i64 _) (Y.assign rfl) ?_
  refine Ops.nil ?_
  refine WP.seq ?_
  refine WP.seq ?_
  refine WP.region ?_
  refine Ops.y (v := .agg #[_, _]) (Y.loadv ty_25 rfl (I.rdbox 1 rfl 0 2) rfl rfl) ?_
  refine Ops.go (O.callv I Tryz.call28 (PCheck_ok _ I.base_ok p hp hnm) rfl ?_)
  intro w I
  refine Ops.y (v := .int .i64 _) (Y.assign rfl) ?_
  refine Ops.nil ?_
  refine WP.seq ?_
  refine WP.region ?_
  refine Ops.y (v := .int .i64 _) (Y.move rfl) ?_
  refine Ops.y (v := .bool (decide _)) (Y.nei rfl rfl) ?_
  refine Ops.nil ?_
  refine WP.cond_dec rfl (fun h2 => ?_) (fun h2 => ?_)
  · refine WP.seq ?_
    refine WP.region ?_
    refine Ops.y (v := .agg #[.slice _ _ _, .slice _ _ _]) (Y.build pl_25 Tryz.zeroValue25 rfl rfl) ?_
    refine Ops.y (v := .int .i64 _) (Y.move rfl) ?_
    refine Ops.go (O.store (v := .agg #[_, _]) I ty_25 0 rfl rfl rfl rfl rfl rfl (Nat.le_of_ble_eq_true rfl) rfl ?_)
    intro w I
    refine Ops.y (v := .int .i64 _) (Y.assign rfl) ?_
    refine Ops.nil ?_
    refine WP.ret ?_
    repeat (first | refine thenE_ret ?_ | refine blockE_ret ?_)
    exact retQ.mk (vs := [.agg #[_, _], .int .i64 _]) rfl ⟨⟨_, _, _, _, _, rfl, ty_25, I.rdbox 0 rfl 0 2, rfl, rfl⟩, rfl, trivial⟩ I.ext_of (by unfold withoutOf; rw [if_pos h2]; exact SumO.err)
  have hpr := Decidable.not_not.1 h2
  obtain ⟨n5, n8, _⟩ := checkProg_ok hpr
  refine WP.skip ?_
  refine WP.seq ?_
  refine WP.seq ?_
  by_cases o0 : n < 0
  · refine WP.region ?_
    refine Ops.y (v := .int .i64 _) (Y.move rfl) ?_
    refine Ops.y (v := .bool true) (Y.dec_t (Y.lti rfl rfl) (o0)) ?_
    refine Ops.y (v := .bool _) (Y.move rfl) ?_
    refine Ops.gf rfl ?_
    refine Ops.gf rfl ?_
    refine Ops.gf rfl ?_
    refine Ops.gf rfl ?_
    refine Ops.gf rfl ?_
    refine Ops.y (v := .bool _) (Y.pick_t rfl rfl) ?_
    refine Ops.nil ?_
    refine WP.cond_t rfl ?_
    refine WP.seq ?_
    refine WP.region ?_
    refine Ops.y (v := .agg #[.slice _ _ _, .slice _ _ _]) (Y.build pl_25 Tryz.zeroValue25 rfl rfl) ?_
    refine Ops.go (O.store (v := .agg #[_, _]) I ty_25 0 rfl rfl rfl rfl rfl rfl (Nat.le_of_ble_eq_true rfl) rfl ?_)
    intro w I
    refine Ops.y (v := .int .i64 _) (Y.assign rfl) ?_
    refine Ops.nil ?_
    refine WP.ret ?_
    repeat (first | refine thenE_ret ?_ | refine blockE_ret ?_)
    exact retQ.mk (vs := [.agg #[_, _], .int .i64 _]) rfl ⟨⟨_, _, _, _, _, rfl, ty_25, I.rdbox 0 rfl 0 2, rfl, rfl⟩, rfl, trivial⟩ I.ext_of (by unfold withoutOf; rw [if_neg (by rw [hpr]; decide), if_pos (by omega)]; exact SumO.err)
  by_cases o1 : (p.rules.xs.length : Int) ≤ n
  · refine WP.region ?_
    refine Ops.y (v := .int .i64 _) (Y.move rfl) ?_
    refine Ops.y (v := .bool false) (Y.dec_f (Y.lti rfl rfl) (o0)) ?_
    refine Ops.y (v := .bool _) (Y.move rfl) ?_
    refine Ops.ygt rfl (v := .int .i64 _) (Y.move rfl) ?_
    refine Ops.ygt rfl (v := .pointer (some ⟨_, _, none⟩)) (Y.fa fa_25_1 rfl) ?_
    refine Ops.ygt rfl (v := .slice _ _ _) (Y.loadv ty_23 rfl (I.rdbox 1 rfl 1 1) rfl rfl) ?_
    refine Ops.ygt rfl (v := .int .i64 _) (Y.lens Tryz.underlying23 rfl) ?_
    refine Ops.ygt rfl (v := .bool true) (Y.dec_t (Y.gei rfl rfl) (o1)) ?_
    refine Ops.y (v := .bool _) (Y.pick_f rfl rfl) ?_
    refine Ops.nil ?_
    refine WP.cond_t rfl ?_
    refine WP.seq ?_
    refine WP.region ?_
    refine Ops.y (v := .agg #[.slice _ _ _, .slice _ _ _]) (Y.build pl_25 Tryz.zeroValue25 rfl rfl) ?_
    refine Ops.go (O.store (v := .agg #[_, _]) I ty_25 0 rfl rfl rfl rfl rfl rfl (Nat.le_of_ble_eq_true rfl) rfl ?_)
    intro w I
    refine Ops.y (v := .int .i64 _) (Y.assign rfl) ?_
    refine Ops.nil ?_
    refine WP.ret ?_
    repeat (first | refine thenE_ret ?_ | refine blockE_ret ?_)
    exact retQ.mk (vs := [.agg #[_, _], .int .i64 _]) rfl ⟨⟨_, _, _, _, _, rfl, ty_25, I.rdbox 0 rfl 0 2, rfl, rfl⟩, rfl, trivial⟩ I.ext_of (by unfold withoutOf; rw [if_neg (by rw [hpr]; decide), if_pos (by omega)]; exact SumO.err)
  refine WP.region ?_
  refine Ops.y (v := .int .i64 _) (Y.move rfl) ?_
  refine Ops.y (v := .bool false) (Y.dec_f (Y.lti rfl rfl) (o0)) ?_
  refine Ops.y (v := .bool _) (Y.move rfl) ?_
  refine Ops.ygt rfl (v := .int .i64 _) (Y.move rfl) ?_
  refine Ops.ygt rfl (v := .pointer (some ⟨_, _, none⟩)) (Y.fa fa_25_1 rfl) ?_
  refine Ops.ygt rfl (v := .slice _ _ _) (Y.loadv ty_23 rfl (I.rdbox 1 rfl 1 1) rfl rfl) ?_
  refine Ops.ygt rfl (v := .int .i64 _) (Y.lens Tryz.underlying23 rfl) ?_
  refine Ops.ygt rfl (v := .bool false) (Y.dec_f (Y.gei rfl rfl) (o1)) ?_
  refine Ops.y (v := .bool _) (Y.pick_f rfl rfl) ?_
  refine Ops.nil ?_
  refine WP.cond_f rfl ?_
  obtain ⟨i, rfl⟩ : ∃ i : Nat, n = i := ⟨n.toNat, by omega⟩
  have hi : i < p.rules.xs.length := by omega
  refine WP.skip ?_
  refine WP.seq ?_
  refine WP.regionG mixed RUn.pre ⟨B.h, none, none, none⟩ (J := JUn B [box b4 [.slice none 0 0, .slice none 0 0] 25, box b2 p.enc 25] 46 5 p.rules.xs.length (p.rules.xs.length - 1) (p.rules.xs.flatMap Rul.enc) ((p.rules.xs.eraseIdx i).flatMap Rul.enc) 25 [.slice none 0 0, .slice none 0 0] 5 9 97) ⟨rfl, rfl, rfl, fun h => (by cases h), I.drew⟩ 11 (by kernel_rfl) ?_
  refine OpsG.y_ (v := .pointer (some ⟨_, _, none⟩)) (fun _ => runsG_none _) RUn.pre (JUn.set (by decide)) (fun _ s w us hl hj => have I := hj.base; have hl := hl.h; Y.fa0 fa_25_0 rfl) ?_
  refine OpsG.y_ (v := .slice _ _ _) (fun _ => runsG_none _) RUn.pre (JUn.set (by decide)) (fun _ s w us hl hj => have I := hj.base; have hl := hl.h; Y.loadv ty_22 rfl (I.rdbox 1 rfl 0 1) rfl rfl) ?_
  refine OpsG.x_ (Φ := KnUn (PdS B.h p.preds.xs)) (KnUn.mono PdS.mono) (fun _ => runsG_none _) (fun D' z w hDk hl hj => ?_) ?_
  · refine AllG.all fun us => ?_
    refine hj.know (by decide) fun N I => ?_
    have hl := hl.h
    refine O.call I Tryz.call29 (ClonePrd_ok _ I.base_ok p.preds (hp.preds.le hl) (by omega)) rfl ?_
    rintro _ h1 w I hl' ⟨s, rfl, es, os, _⟩
    exact ⟨_, hl', I, ⟨s, rfl, es, os.older hl⟩⟩
  refine OpsG.y_ (v := .pointer (some ⟨_, _, none⟩)) (fun _ => runsG_none _) RUn.pre (JUn.set (by decide)) (fun _ s w us hl hj => have I := hj.base; have hl := hl.h; Y.fa fa_25_1 rfl) ?_
  refine OpsG.y_ (v := .slice _ _ _) (fun _ => runsG_none _) RUn.pre (JUn.set (by decide)) (fun _ s w us hl hj => have I := hj.base; have hl := hl.h; Y.loadv ty_23 rfl (I.rdbox 1 rfl 1 1) rfl rfl) ?_
  refine OpsG.x_ (Φ := AtU2) (AtU2.mono) (fun _ => runsG_none _) (fun D' z w hDk hl hj => ?_) ?_
  · intro u25 q25
    refine hj.first hDk (by decide) (by decide) fun N I => ?_
    refine O.call I Tryz.call31 (CloneRul_ok _ I.base_ok p.rules (hp.rules.is.le hl.h) (by omega)) rfl ?_
    rintro _ h7 w I hl' ⟨gs, rfl, eg, og, _⟩
    obtain ⟨h8, I, mono8, _⟩ := I.unsettle og hl.h
    exact ⟨h8, mono8 _ hl' (Heap.le.refl _), by rw [eg] at I; exact I⟩
  refine OpsG.y_ (v := .int .i64 _) (fun _ => runsG_none _) RUn.pre (JUn.set (by decide)) (fun _ s w us hl hj => have I := hj.base; have hl := hl.h; Y.move rfl) ?_
  refine OpsG.y_ (v := .int .i64 _) (fun _ => runsG_none _) RUn.pre (JUn.set (by decide)) (fun _ s w us hl hj => have I := hj.base; have hl := hl.h; Y.move rfl) ?_
  refine OpsG.y_ (v := .int .i64 _) (fun _ => runsG_none _) RUn.pre (JUn.set (by decide)) (fun _ s w us hl hj => have I := hj.base; have hl := hl.h; Y.addi rfl rfl ⟨by omega, by omega⟩) ?_
  refine OpsG.x_ (Φ := AtU4) (AtU4.mono) (fun _ => runsG_none _) (fun D' z w hDk hl hj => ?_) ?_
  · intro u25 q25 u28 q28
    refine hj.second hDk (by decide) (by decide) (q28 rfl) fun N I => ?_
    refine O.calls Tryz.call30 (DelRul_v I rfl hi (by omega)) rfl ?_
    rintro ed w ⟨v, h8, rfl, hl8, I⟩
    exact ⟨_, rfl, h8, hl8, I⟩
  refine OpsG.x_ (Φ := PrU (PdS B.h p.preds.xs)) (PrU.mono PdS.mono) (fun _ => runsG_none _) (fun D' z w hDk hl hj => ?_) ?_
  · intro u25 q25 u28 q28 u32 q32
    obtain ⟨s1, rfl, e1, o1⟩ := q25 rfl
    rcases ((hj.turned (q32 rfl)).at 0 rfl).2 with ⟨rfl, _⟩ | ⟨gg, cap, cur, rfl, _⟩
    all_goals exact hj.look (by decide) (Y.build pl_25 Tryz.zeroValue25 rfl rfl) ⟨_, _, rfl, ⟨s1, rfl, e1, o1⟩, q32 rfl⟩
  refine OpsG.nil ?_
  intro D z w hD hl hj u25 q25 u28 q28 u32 q32 u33 q33
  obtain ⟨_, v4, rfl, ⟨s1, rfl, e1, o1⟩, h4⟩ := q33 rfl
  have I := hj.turned h4
  obtain ⟨h8, s2, le8, rfl, e2, o2, I⟩ := I.settleO (erase_len hi)
  refine Ops.go (O.store (v := .agg #[_, _]) I ty_25 0 rfl rfl rfl rfl rfl rfl (Nat.le_of_ble_eq_true rfl) rfl ?_)
  intro w I
  refine Ops.y (v := .int .i64 _) (Y.assign rfl) ?_
  refine Ops.nil ?_
  refine WP.ret ?_
  repeat (first | refine thenE_ret ?_ | refine blockE_ret ?_)
  exact retQ.mk (vs := [.agg #[_, _], .int .i64 _]) rfl ⟨⟨_, _, _, _, _, rfl, ty_25, I.rdbox 0 rfl 0 2, rfl, rfl⟩, rfl, trivial⟩ I.ext_of (by unfold withoutOf; rw [if_neg (by rw [hpr]; decide), if_neg (by omega)]; exact ⟨⟨s1, s2⟩, rfl, e1, e2, o1.le le8, o2.older hl.h⟩)
/-- An empty literal. -/
def EmS {α : Type} (T k : Nat) (enc : α → List Value) (h0 : Heap) : Sp := fun v h => ∃ s : Sl α, v = s.val ∧ OwnH T k s enc h0 h ∧ s.xs = [] ∧ s.cap = 0 ∧ ∃ b, s.at_ = some ⟨b, 0, none⟩
theorem EmS.mono {α : Type} {T k : Nat} {enc : α → List Value} {h0 : Heap} : MonoS (EmS T k enc h0) := fun _ _ _ hl ⟨s, a, b, c⟩ => ⟨s, a, b.le hl, c⟩
set_option maxHeartbeats 8000000 in
theorem WithoutOf_own (B : Base) (hB : B.ok) (p : Prg) (hp : p.In B.h) (hnm : p.Nm) (hcap : p.rules.xs.length ≤ p.rules.cap) (n : Int) : Fn Tryz.prog 12 [p.val, .int .i64 n] B (SumO B.h (withoutOf p n)) := by
  refine Fn.of Tryz.func12 rfl Tryz.ntmps12 (by kernel_rfl) (by simp) ?_
  intro e
  have I := Inv.start hB
  refine WP.seq ?_
  refine WP.region ?_
  refine Ops.go (O.box (v := .agg #[_, _]) I rfl rfl ?_)
  intro b2 w I
  refine Ops.go (O.alloc I Tryz.zeroValue25 rfl ?_)
  intro b4 w I
  refine Ops.y (v := .int .i64 _) (Y.assign rfl) ?_
  refine Ops.nil ?_
  refine WP.seq ?_
  refine WP.seq ?_
  refine WP.region ?_
  refine Ops.y (v := .agg #[_, _]) (Y.loadv ty_25 rfl (I.rdbox 1 rfl 0 2) rfl rfl) ?_
  refine Ops.go (O.callv I Tryz.call15 (CheckProg_ok _ I.base_ok p hp hnm) rfl ?_)
  intro w I
  refine Ops.y (v := .int .i64 _) (Y.assign rfl) ?_
  refine Ops.nil ?_
  refine WP.seq ?_
  refine WP.region ?_
  refine Ops.y (v := .int .i64 _) (Y.move rfl) ?_
  refine Ops.y (v := .bool (decide _)) (Y.nei rfl rfl) ?_
  refine Ops.nil ?_
  refine WP.cond_dec rfl (fun h2 => ?_) (fun h2 => ?_)
  · refine WP.seq ?_
    refine WP.region ?_
    refine Ops.y (v := .agg #[.slice _ _ _, .slice _ _ _]) (Y.build pl_25 Tryz.zeroValue25 rfl rfl) ?_
    refine Ops.y (v := .int .i64 _) (Y.move rfl) ?_
    refine Ops.go (O.store (v := .agg #[_, _]) I ty_25 0 rfl rfl rfl rfl rfl rfl (Nat.le_of_ble_eq_true rfl) rfl ?_)
    intro w I
    refine Ops.y (v := .int .i64 _) (Y.assign rfl) ?_
    refine Ops.nil ?_
    refine WP.ret ?_
    repeat (first | refine thenE_ret ?_ | refine blockE_ret ?_)
    exact retQ.mk (vs := [.agg #[_, _], .int .i64 _]) rfl ⟨⟨_, _, _, _, _, rfl, ty_25, I.rdbox 0 rfl 0 2, rfl, rfl⟩, rfl, trivial⟩ I.ext_of (by unfold withoutOf; rw [if_pos h2]; exact SumO.err)
  have hpr := Decidable.not_not.1 h2
  obtain ⟨n5, n8, _⟩ := checkProg_ok hpr
  refine WP.skip ?_
  refine WP.seq ?_
  refine WP.seq ?_
  refine WP.region ?_
  refine Ops.y (v := .int .i64 _) (Y.move rfl) ?_
  refine Ops.y (v := .pointer (some ⟨_, _, none⟩)) (Y.fa fa_25_1 rfl) ?_
  refine Ops.y (v := .slice _ _ _) (Y.loadv ty_23 rfl (I.rdbox 1 rfl 1 1) rfl rfl) ?_
  refine Ops.y (v := .int .i64 _) (Y.lens Tryz.underlying23 rfl) ?_
  refine Ops.y (v := .int .i64 _) (Y.subi rfl rfl ⟨by omega, by omega⟩) ?_
  refine Ops.go (O.callv I Tryz.call37 (within_ok _ I.base_ok n 0 (p.rules.xs.length - 1)) rfl ?_)
  intro w I
  refine Ops.y (v := .bool _) (Y.not rfl) ?_
  refine Ops.nil ?_
  refine WP.cond rfl (fun h4 => ?_) (fun h4 => ?_)
  · have h4 : ¬ within n 0 ((p.rules.xs.length : Int) - 1) := by simpa using h4
    refine WP.seq ?_
    refine WP.region ?_
    refine Ops.y (v := .agg #[.slice _ _ _, .slice _ _ _]) (Y.build pl_25 Tryz.zeroValue25 rfl rfl) ?_
    refine Ops.go (O.store (v := .agg #[_, _]) I ty_25 0 rfl rfl rfl rfl rfl rfl (Nat.le_of_ble_eq_true rfl) rfl ?_)
    intro w I
    refine Ops.y (v := .int .i64 _) (Y.assign rfl) ?_
    refine Ops.nil ?_
    refine WP.ret ?_
    repeat (first | refine thenE_ret ?_ | refine blockE_ret ?_)
    exact retQ.mk (vs := [.agg #[_, _], .int .i64 _]) rfl ⟨⟨_, _, _, _, _, rfl, ty_25, I.rdbox 0 rfl 0 2, rfl, rfl⟩, rfl, trivial⟩ I.ext_of (by unfold withoutOf; rw [if_neg (by rw [hpr]; decide), if_pos (by unfold within at h4; omega)]; exact SumO.err)
  have h4 : within n 0 ((p.rules.xs.length : Int) - 1) := by simpa using h4
  have hn : 0 ≤ n ∧ n < p.rules.xs.length := by unfold within at h4; omega
  obtain ⟨i, rfl⟩ : ∃ i : Nat, n = i := ⟨n.toNat, by omega⟩
  have hi : i < p.rules.xs.length := by omega
  have hat := (hp.rules.is.at hi).at_
  have hit : (p.rules.takeS i).xs.length = i := by show (p.rules.xs.take i).length = i; rw [List.length_take]; omega
  have hdl : i + (p.rules.dropS 5 (i + 1)).xs.length = p.rules.xs.length - 1 := by show i + (p.rules.xs.drop (i + 1)).length = _; rw [List.length_drop]; omega
  have hdc : (p.rules.xs.take i).flatMap Rul.enc ++ (p.rules.dropS 5 (i + 1)).xs.flatMap Rul.enc = (p.rules.xs.eraseIdx i).flatMap Rul.enc := by rw [← List.flatMap_append, List.eraseIdx_eq_take_drop_succ]
  refine WP.skip ?_
  refine WP.seq ?_
  refine WP.regionG mixed RU3.pre ⟨B.h, none, none, none, none⟩ (J := JU3 B [box b4 [.slice none 0 0, .slice none 0 0] 25, box b2 p.enc 25] 46 5 i (p.rules.xs.length - 1) ((p.rules.xs.take i).flatMap Rul.enc) ((p.rules.xs.eraseIdx i).flatMap Rul.enc) 25 [.slice none 0 0, .slice none 0 0] 4 9 15 97) ⟨rfl, rfl, rfl, rfl, fun h => (by cases h), fun h => (by cases h), I.drew⟩ 17 (by kernel_rfl) ?_
  refine OpsG.x_ (Φ := KnU3 (EmS 40 3 Prd.enc B.h)) (KnU3.mono EmS.mono) (fun _ => runsG_none _) (fun D' z w hDk hl hj => ?_) ?_
  · refine AllG.all fun us => ?_
    refine hj.know (by decide) fun N I => ?_
    have hl := hl.h
    exact O.mkE (α := Prd) Prd.enc I Tryz.underlying22 Tryz.sizeOf40 fun s h w I le e c a o => ⟨h, le, I, s, rfl, o.older hl, e, c, a⟩
  refine OpsG.y_ (v := .pointer (some ⟨_, _, none⟩)) (fun _ => runsG_none _) RU3.pre (JU3.set (by decide)) (fun _ s w us hl hj => have I := hj.base; have hl := hl.h; Y.fa0 fa_25_0 rfl) ?_
  refine OpsG.y_ (v := .slice _ _ _) (fun _ => runsG_none _) RU3.pre (JU3.set (by decide)) (fun _ s w us hl hj => have I := hj.base; have hl := hl.h; Y.loadv ty_22 rfl (I.rdbox 1 rfl 0 1) rfl rfl) ?_
  refine OpsG.x_ (Φ := KnU3 (PdS B.h p.preds.xs)) (KnU3.mono PdS.mono) (fun _ => runsG_none _) (fun D' z w hDk hl hj => ?_) ?_
  · intro u21 q21
    obtain ⟨s0, rfl, o0, e0, c0, a0⟩ := q21 rfl
    refine hj.know (by decide) fun N I => ?_
    have hl := hl.h
    exact O.appendE (α := Prd) I Tryz.underlying22 et_40 (fun _ => rfl) o0 hl e0 c0 a0 (hp.preds.el.le hl) rfl rfl (by omega) (by omega) (fun r h' w' I hl hr o2 r0 => ⟨h', hl, I, r, rfl, hr, o2⟩)
  refine OpsG.x_ (Φ := At31) (At31.mono) (fun _ => runsG_none _) (fun D' z w hDk hl hj => ?_) ?_
  · intro u21 q21 u24 q24
    refine hj.first hDk (by decide) fun N I => ?_
    refine O.mkE (α := Rul) Rul.enc I Tryz.underlying23 Tryz.sizeOf46 fun s h8 w I le e c a o => ?_
    obtain ⟨h9, I, mono9, _⟩ := I.unsettle o hl.h
    rw [e] at I
    exact ⟨h9, mono9 _ le (Heap.le.refl _), I⟩
  refine OpsG.y_ (v := .pointer (some ⟨_, _, none⟩)) (fun _ => runsG_none _) RU3.pre (JU3.set (by decide)) (fun _ s w us hl hj => have I := hj.base; have hl := hl.h; Y.fa fa_25_1 rfl) ?_
  refine OpsG.y_ (v := .slice _ _ _) (fun _ => runsG_none _) RU3.pre (JU3.set (by decide)) (fun _ s w us hl hj => have I := hj.base; have hl := hl.h; Y.loadv ty_23 rfl (I.rdbox 1 rfl 1 1) rfl rfl) ?_
  refine OpsG.y_ (v := .int .i64 _) (fun _ => runsG_none _) RU3.pre (JU3.set (by decide)) (fun _ s w us hl hj => have I := hj.base; have hl := hl.h; Y.move rfl) ?_
  refine OpsG.y_ (v := .slice _ _ _) (fun _ => runsG_none _) RU3.pre (JU3.set (by decide)) (fun _ s w us hl hj => have I := hj.base; have hl := hl.h; Y.takeS (l := i) hat Tryz.underlying23 Tryz.sizeOf46 rfl rfl (by omega) hcap) ?_
  refine OpsG.x_ (Φ := At32) (At32.mono) (fun _ => runsG_none _) (fun D' z w hDk hl hj => ?_) ?_
  · intro u21 q21 u24 q24 u25 q25
    refine hj.second hDk (by decide) (q25 rfl) fun N I => ?_
    refine O.appendL (u := p.rules.takeS i) I Tryz.underlying23 et_46 0 rfl rul_len rul_one1 (takeS_is (hp.rules.is.le hl.h)).el rfl rfl (by omega) (by omega) ?_
    intro v' w I
    refine ⟨z.h, Heap.le.refl _, ?_⟩
    rw [hit, Nat.zero_add] at I
    exact I
  refine OpsG.y_ (v := .pointer (some ⟨_, _, none⟩)) (fun _ => runsG_none _) RU3.pre (JU3.set (by decide)) (fun _ s w us hl hj => have I := hj.base; have hl := hl.h; Y.fa fa_25_1 rfl) ?_
  refine OpsG.y_ (v := .slice _ _ _) (fun _ => runsG_none _) RU3.pre (JU3.set (by decide)) (fun _ s w us hl hj => have I := hj.base; have hl := hl.h; Y.loadv ty_23 rfl (I.rdbox 1 rfl 1 1) rfl rfl) ?_
  refine OpsG.y_ (v := .int .i64 _) (fun _ => runsG_none _) RU3.pre (JU3.set (by decide)) (fun _ s w us hl hj => have I := hj.base; have hl := hl.h; Y.move rfl) ?_
  refine OpsG.y_ (v := .int .i64 _) (fun _ => runsG_none _) RU3.pre (JU3.set (by decide)) (fun _ s w us hl hj => have I := hj.base; have hl := hl.h; Y.addi rfl rfl ⟨by omega, by omega⟩) ?_
  refine OpsG.y_ (v := .slice _ _ _) (fun _ => runsG_none _) RU3.pre (JU3.set (by decide)) (fun _ s w us hl hj => have I := hj.base; have hl := hl.h; Y.dropS (l := i + 1) hat Tryz.underlying23 Tryz.sizeOf46 rfl rfl (by omega) hcap) ?_
  refine OpsG.x_ (Φ := At34) (At34.mono) (fun _ => runsG_none _) (fun D' z w hDk hl hj => ?_) ?_
  · intro u21 q21 u24 q24 u25 q25 u30 q30
    refine hj.third hDk (by decide) (q30 rfl) fun N I => ?_
    refine O.appendL (u := p.rules.dropS 5 (i + 1)) I Tryz.underlying23 et_46 0 rfl rul_len rul_one1 (dropS_is (hp.rules.is.le hl.h) (by omega) hcap).el rfl rfl (by omega) (by omega) ?_
    intro v' w I
    refine ⟨z.h, Heap.le.refl _, ?_⟩
    rw [hdl, hdc] at I
    exact I
  refine OpsG.x_ (Φ := Pr3 (PdS B.h p.preds.xs)) (Pr3.mono PdS.mono) (fun _ => runsG_none _) (fun D' z w hDk hl hj => ?_) ?_
  · intro u21 q21 u24 q24 u25 q25 u30 q30 u36 q36
    obtain ⟨s1, rfl, e1, o1⟩ := q24 rfl
    rcases ((hj.turned (q36 rfl)).at 0 rfl).2 with ⟨rfl, _⟩ | ⟨gg, cap, cur, rfl, _⟩
    all_goals exact hj.look (by decide) (Y.build pl_25 Tryz.zeroValue25 rfl rfl) ⟨_, _, rfl, ⟨s1, rfl, e1, o1⟩, q36 rfl⟩
  refine OpsG.nil ?_
  intro D z w hD hl hj u21 q21 u24 q24 u25 q25 u30 q30 u36 q36 u37 q37
  obtain ⟨_, v4, rfl, ⟨s1, rfl, e1, o1⟩, h4⟩ := q37 rfl
  have I := hj.turned h4
  obtain ⟨h8, s2, le8, rfl, e2, o2, I⟩ := I.settleO (erase_len hi)
  refine Ops.go (O.store (v := .agg #[_, _]) I ty_25 0 rfl rfl rfl rfl rfl rfl (Nat.le_of_ble_eq_true rfl) rfl ?_)
  intro w I
  refine Ops.y (v := .int .i64 _) (Y.assign rfl) ?_
  refine Ops.nil ?_
  refine WP.ret ?_
  repeat (first | refine thenE_ret ?_ | refine blockE_ret ?_)
  exact retQ.mk (vs := [.agg #[_, _], .int .i64 _]) rfl ⟨⟨_, _, _, _, _, rfl, ty_25, I.rdbox 0 rfl 0 2, rfl, rfl⟩, rfl, trivial⟩ I.ext_of (by unfold withoutOf; rw [if_neg (by rw [hpr]; decide), if_neg (by omega)]; exact ⟨⟨s1, s2⟩, rfl, e1, e2, o1.le le8, o2.older hl.h⟩)
/-- What comes, known for good. -/
def SumR (r : (List Prd × List Rul) × Int) (v : Value) (h : Heap) : Prop := ∃ a : Prg, v = .tuple #[a.val, .int .i64 r.2] ∧ a.preds.xs = r.1.1 ∧ a.rules.xs = r.1.2 ∧ a.In h ∧ a.Nm
theorem without_short {p : Prg} {n : Int} : (withoutOf p n).1.1.length ≤ 5 ∧ (withoutOf p n).1.2.length ≤ 16 ∧ (∀ x ∈ (withoutOf p n).1.1, x ∈ p.preds.xs) ∧ ∀ r ∈ (withoutOf p n).1.2, r ∈ p.rules.xs := by
  by_cases h : (withoutOf p n).2 = 0
  · obtain ⟨h1, h2, e⟩ := withoutOf_ok h
    obtain ⟨n5, n8, _⟩ := checkProg_ok h1
    rw [e]
    exact ⟨n5, by have := (erase_sub (rs := p.rules.xs) (n := n.toNat)).1; show (p.rules.xs.eraseIdx n.toNat).length ≤ 16; omega, fun x hx => hx, erase_sub.2⟩
  · have e : (withoutOf p n).1 = ([], []) := by
      unfold withoutOf at h ⊢
      split
      · rfl
      rename_i h1; rw [if_neg h1] at h
      split
      · rfl
      rename_i h2; rw [if_neg h2] at h
      exact absurd rfl h
    rw [e]
    simp
theorem SumO.sum {r : (List Prd × List Rul) × Int} {h0 h : Heap} {v : Value} (x : SumO h0 r v h) (hl : h0.le h) (h5 : r.1.1.length ≤ 5) (h16 : r.1.2.length ≤ 16) (hn : ∀ x ∈ r.1.1, x.name.size ≤ 140737488355328) (hr : ∀ y ∈ r.1.2, y.In h0) : SumR r v h := by
  obtain ⟨a, rfl, e1, e2, o1, o2⟩ := x
  exact ⟨a, rfl, e1, e2, own_prg hl o1 o2 (by rw [e1]; exact h5) (by rw [e2]; exact h16) (by rw [e2]; exact hr), by unfold Prg.Nm; rw [e1]; exact hn⟩
section
variable (B : Base) (hB : B.ok) (p q : Prg) (hp : p.In B.h) (hq : q.In B.h) (hnm : p.Nm) (hnq : q.Nm)
include hB hp hq hnm hnq
end
section
variable (B : Base) (hB : B.ok) (p : Prg) (hp : p.In B.h) (hnm : p.Nm) (n : Int)
include hB hp hnm
theorem Without_ok : Fn Tryz.prog 9 [p.val, .int .i64 n] B (SumR (withoutOf p n)) :=
  (Without_own B hB p hp hnm n).mono fun _ _ hl x => x.sum hl without_short.1 without_short.2.1 (fun y hy => hnm y (without_short.2.2.1 y hy)) fun y hy => hp.rules.each y (without_short.2.2.2 y hy)
theorem WithoutOf_ok (hcap : p.rules.xs.length ≤ p.rules.cap) : Fn Tryz.prog 12 [p.val, .int .i64 n] B (SumR (withoutOf p n)) :=
  (WithoutOf_own B hB p hp hnm hcap n).mono fun _ _ hl x => x.sum hl without_short.1 without_short.2.1 (fun y hy => hnm y (without_short.2.2.1 y hy)) fun y hy => hp.rules.each y (without_short.2.2.2 y hy)
end
theorem SumR.mono {r : (List Prd × List Rul) × Int} : MonoS (SumR r) := fun _ _ _ hl ⟨a, b, c, d, e, f⟩ => ⟨a, b, c, d, e.le hl, f⟩
end Go.TF
end
section
/- A region in which a variable is made and written with what the region itself yields. -/
namespace Go.TF
open Go Go.RowKit

structure StS where
  h : Heap
  o7 : Option Nat
  c : Option (List Value)
structure JSt (B : Base) (M : List SA) (Tb : TypeId) (z : List Value) (Ψ : List Value → Heap → Prop) (i7 i9 : Nat) (D : Nat → Bool) (s : StS) (w : World) : Prop where
  h7 : s.o7.isSome = D i7
  hc : s.c.isSome = D i9
  ord : D i9 = true → D i7 = true
  ok : ∀ cs, s.c = some cs → Ψ cs s.h
  inv : Inv B s.h (pcB s.o7 (s.c.getD z) Tb ++ M) w
structure RSt (s s' : StS) : Prop where
  h : s.h.le s'.h
  h7 : ∀ v, s.o7 = some v → s'.o7 = some v
theorem RSt.pre : Pre RSt := ⟨fun _ => ⟨Heap.le.refl _, fun _ h => h⟩, fun _ _ _ h k => ⟨h.h.trans k.h, fun b e => k.h7 b (h.h7 b e)⟩⟩
def AtS7 (u : Value) (s : StS) : Prop := ∃ b, u = .pointer (some ⟨b, 0, none⟩) ∧ s.o7 = some b
def KnSt (Φ : Sp) (u : Value) (s : StS) : Prop := Φ u s.h
theorem AtS7.mono : MonoG RSt AtS7 := fun _ _ _ r ⟨b, h1, h2⟩ => ⟨b, h1, r.h7 b h2⟩
theorem KnSt.mono {Φ : Sp} (hm : MonoS Φ) : MonoG RSt (KnSt Φ) := fun _ _ _ r h => hm _ _ _ r.h h
section
variable {P : Program} {o : Oper} {e : Env} {B : Base} {M : List SA} {Tb : TypeId} {z : List Value} {Ψ : List Value → Heap → Prop} {i7 i9 i : Nat} {D : Nat → Bool} {s : StS} {w : World}
theorem JSt.base (j : JSt B M Tb z Ψ i7 i9 D s w) : Inv B s.h M w := j.inv.weak (List.sublist_append_right _ _)
theorem JSt.set (h : i7 ≠ i ∧ i9 ≠ i) : ∀ D s w, JSt B M Tb z Ψ i7 i9 D s w → JSt B M Tb z Ψ i7 i9 (setD D i) s w := fun D s w j => by
  have e : ∀ x, x ≠ i → setD D i x = D x := fun x hx => by simp [setD, hx]
  exact ⟨by rw [e _ h.1]; exact j.h7, by rw [e _ h.2]; exact j.hc, by rw [e _ h.1, e _ h.2]; exact j.ord, j.ok, j.inv⟩
theorem JSt.look {Φ : Sq StS} {v : Value} (j : JSt B M Tb z Ψ i7 i9 D s w) (h : i7 ≠ i ∧ i9 ≠ i) (hy : Y P o e w v) (hv : Φ v s) :
    Op1 P o e w fun u w' => ∃ s', RSt s s' ∧ JSt B M Tb z Ψ i7 i9 (setD D i) s' w' ∧ Φ u s' := by
  unfold Op1; rw [hy]; exact ⟨s, RSt.pre.refl s, JSt.set h _ _ _ j, hv⟩
theorem JSt.make {d : Option Nat} {t : TypeId} {pos : String} {af : Array Edge} {zv : Value} (j : JSt B M Tb z Ψ i7 i9 D s w) (hz : Zero P Tb zv) (hc : zv.cells = z.toArray) (hD : D i7 = false) (h : i9 ≠ i7) :
    Op1 P ⟨d, .alloc Tb, t, pos, af, none⟩ e w fun u w' => ∃ s', RSt s s' ∧ JSt B M Tb z Ψ i7 i9 (setD D i7) s' w' ∧ AtS7 u s' := by
  have e : ∀ x, x ≠ i7 → setD D i7 x = D x := fun x hx => by simp [setD, hx]
  have h7 : s.o7 = none := by have := j.h7; rw [hD] at this; cases h : s.o7 <;> simp_all
  have hD9 : D i9 = false := by
    cases h : D i9
    · rfl
    · rw [j.ord h] at hD; cases hD
  have hc9 : s.c = none := by have := j.hc; rw [hD9] at this; cases h : s.c <;> simp_all
  have I := j.inv
  rw [h7] at I
  refine O.alloc I hz hc fun b w' I' => ⟨⟨s.h, some b, none⟩, ⟨Heap.le.refl _, fun v hv => (by rw [h7] at hv; cases hv)⟩, ⟨?_, ?_, ?_, fun cs hcs => (by cases hcs), I'⟩, b, rfl, rfl⟩
  · simp [setD]
  · rw [e _ h, hD9]; rfl
  · rw [e _ h, hD9]; exact fun h => by cases h
theorem JSt.put {t : TypeId} {pos : String} {af : Array Edge} {a x : Operand} {n : Nat} {ag : Bool} {v : Value} {c : List Value} (j : JSt B M Tb z Ψ i7 i9 D s w) (hT : Ty P Tb n ag) (hz : z.length = n) (hcl : c.length = n) (hD : D i9 = false) (h : i7 ≠ i9) {u : Value} (hu : AtS7 u s) (ha : ev e a = u) (hx : ev e x = v) (hv : v.cells = c.toArray) (h1 : oneCells c = true) (hΨ : Ψ c s.h) :
    Op1 P ⟨none, .store Tb a x, t, pos, af, none⟩ e w fun u w' => ∃ s', RSt s s' ∧ JSt B M Tb z Ψ i7 i9 (setD D i9) s' w' ∧ u = undef := by
  have e' : ∀ x, x ≠ i9 → setD D i9 x = D x := fun x hx => by simp [setD, hx]
  obtain ⟨b, rfl, hb⟩ := hu
  have hc9 : s.c = none := by have := j.hc; rw [hD] at this; cases h : s.c <;> simp_all
  have hD7 : D i7 = true := by rw [← j.h7, hb]; rfl
  have I := j.inv
  rw [hb, hc9] at I
  refine O.store (cs' := c) I hT 0 rfl ha hx hv hcl h1 (by show 0 + c.length ≤ z.length; omega) ?_ fun w' I' => ⟨⟨s.h, some b, some c⟩, ⟨Heap.le.refl _, fun v hv => (by rw [hb] at hv; exact hv)⟩, ⟨?_, ?_, fun _ => ?_, fun cs hcs => ?_, I'⟩, rfl⟩
  · show putAt z 0 c = c
    rw [putAt_eq _ _ _ (Nat.zero_le _)]
    simp [hcl, hz]
  · rw [e' _ h, hD7]; rfl
  · simp [setD]
  · rw [e' _ h]; exact hD7
  · injection hcs with hcs; subst hcs; exact hΨ
theorem JSt.fin (j : JSt B M Tb z Ψ i7 i9 D s w) (hD : D i9 = true) {b : Nat} (h7 : s.o7 = some b) : ∃ cs, Ψ cs s.h ∧ Inv B s.h (box b cs Tb :: M) w := by
  have hc := j.hc
  rw [hD] at hc
  obtain ⟨cs, hcs⟩ := Option.isSome_iff_exists.1 hc
  have I := j.inv
  rw [h7, hcs] at I
  exact ⟨cs, j.ok cs hcs, I⟩
end
end Go.TF
end
section
/- Needs: who is needed, by a queue. -/
namespace Go.TF
open Go Go.RowKit Go.Proofs
set_option maxRecDepth 20000

structure NdS where
  g : Nat
  o : Nat
  c : Nat
  q : List Int
  N : List Bool
  ms : List Nat
@[reducible] def NdU (b8 bo b2 : Nat) (p : Prg) (g o c : Nat) (q : List Int) (N : List Bool) : List SA := [box b8 [.slice (some ⟨g, o, none⟩) (q.map vI).length c] 62, ownQ 3 g o c (q.map vI), box bo (N.map vB) 4, box b2 p.enc 25]
structure NdJ (B : Base) (b8 bo b2 : Nat) (p : Prg) (pr : Int) (s : NdS) (w : World) : Prop where
  inv : ∃ h1, B.h.le h1 ∧ Inv B h1 (NdU b8 bo b2 p s.g s.o s.c s.q s.N ++ s.ms.map markSA) w
  len : s.N.length = p.preds.xs.length
  snd : ∀ i : Int, 0 ≤ i → i < p.preds.xs.length → bv s.N i = true → Reach (usesL p.rules.xs) pr i
  qin : ∀ x ∈ s.q, (0 ≤ x ∧ x < p.preds.xs.length) ∧ Reach (usesL p.rules.xs) pr x
  clo : ∀ c ∈ usesL p.rules.xs, bv s.N c.1 = true → bv s.N c.2.atom.pred = true ∨ c.2.atom.pred ∈ s.q
  has : bv s.N pr = true ∨ pr ∈ s.q
  small : s.q.length ≤ 1 + 24 * trues s.N
end Go.TF
end
section
/- The roads, their arrays the caller's own. -/
namespace Go.TF
open Go Go.RowKit Go.Proofs
set_option maxRecDepth 20000

def prC : List Prd := [⟨bEdge, 2, 0⟩, ⟨bFar, 2, 2⟩, ⟨bLone, 1, 0⟩]
structure RoadsM (v : Value) (h : Heap) (M : List SA) (bp br : Nat) (r0 r1 r2 r3 r4 r5 r6 : Rul) : Prop where
  val : v = .agg #[.slice (some ⟨bp, 0, none⟩) 3 3, .slice (some ⟨br, 0, none⟩) 7 7]
  own : M = [box br ([r0, r1, r2, r3, r4, r5, r6].flatMap Rul.enc) 46, box bp (prC.flatMap Prd.enc) 40]
  is : ∀ x ∈ [r0, r1, r2, r3, r4, r5, r6], x.In h
  cap : ∀ x ∈ [r0, r1, r2, r3, r4, r5, r6], x.body.xs.length ≤ x.body.cap
  er : [r0, r1, r2, r3, r4, r5, r6].map Rul.er = roadsC.rules.xs
end Go.TF
end
section
/- What the laws of programs begin with. -/
namespace Go.TF
open Go Go.RowKit Go.Proofs
set_option maxRecDepth 20000

def LtlS (x : Ltl) : Sp := fun u h => ∃ y : Ltl, u = y.val ∧ y.er = x ∧ y.In h
theorem LtlS.mono {x : Ltl} : MonoS (LtlS x) := fun _ _ _ hl ⟨s, a, b, c⟩ => ⟨s, a, b, c.le hl⟩
def LtlsS (xs : List Ltl) : Sp := fun u h => ∃ s : Sl Ltl, u = s.val ∧ s.xs.map Ltl.er = xs ∧ Ltls s h ∧ s.at_ = some ⟨s.blk, s.off, none⟩
theorem LtlsS.mono {xs : List Ltl} : MonoS (LtlsS xs) := fun _ _ _ hl ⟨s, a, b, c, d⟩ => ⟨s, a, b, c.le hl, d⟩
def LtlsF (xs : List Ltl) : Sp := fun u h => ∃ s : Sl Ltl, u = s.val ∧ s.xs.map Ltl.er = xs ∧ Ltls s h ∧ s.at_ = some ⟨s.blk, s.off, none⟩ ∧ s.cap = s.xs.length
theorem LtlsF.mono {xs : List Ltl} : MonoS (LtlsF xs) := fun _ _ _ hl ⟨s, a, b, c, d⟩ => ⟨s, a, b, c.le hl, d⟩
theorem RoadsAt.check {p : Prg} {h : Heap} (x : RoadsAt p h) : checkProg p = 0 := by rw [← checkProg_er, x.er, roads_check]
theorem RoadsAt.uses {p : Prg} {h : Heap} (x : RoadsAt p h) : (usesL p.rules.xs).map cEr = usesL roadsC.rules.xs := by
  rw [← usesL_er]
  have := congrArg (fun q : Prg => q.rules.xs) x.er
  exact congrArg usesL this
theorem RoadsAt.len {p : Prg} {h : Heap} (x : RoadsAt p h) : p.preds.xs.length = 3 := by rw [x.preds]; rfl
end Go.TF
end
section
/- What must be of sums in any case; the law of sums. -/
namespace Go.TF
open Go Go.RowKit Go.Proofs
set_option maxRecDepth 20000

theorem er_mk {a : Prg} {l : List Prd} {rs : List Rul} (h1 : a.preds.xs = l) (h2 : a.rules.xs.map Rul.er = rs) : a.er = mkP l rs := by
  subst h1; subst h2; rfl
def RdS : Sp := fun v h => ∃ p : Prg, v = p.val ∧ RoadsAt p h ∧ p.rules.xs.length ≤ p.rules.cap
theorem RdS.mono : MonoS RdS := fun _ _ _ hl ⟨p, a, b, c⟩ => ⟨p, a, ⟨b.is.le hl, b.er, b.cap⟩, c⟩
def RpS : Sp := fun v h => ∃ s : Sl Prd, v = s.val ∧ Prds s h ∧ s.xs = roadsC.preds.xs
theorem RpS.mono : MonoS RpS := fun _ _ _ hl ⟨p, a, b, c⟩ => ⟨p, a, b.le hl, c⟩
def RrS : Sp := fun v h => ∃ s : Sl Rul, v = s.val ∧ Ruls s h ∧ s.xs.map Rul.er = roadsC.rules.xs ∧ s.xs.length ≤ s.cap
theorem RrS.mono : MonoS RrS := fun _ _ _ hl ⟨p, a, b, c⟩ => ⟨p, a, b.le hl, c⟩
def R6S : Sp := fun v h => ∃ s : Sl Rul, v = s.val ∧ Ruls s h ∧ s.xs.map Rul.er = roadsC.rules.xs.drop 6
theorem R6S.mono : MonoS R6S := fun _ _ _ hl ⟨p, a, b, c⟩ => ⟨p, a, b.le hl, c⟩
def R2S : Sp := fun v h => ∃ a : Prg, v = a.val ∧ a.In h ∧ a.preds.xs = roadsC.preds.xs ∧ a.rules.xs.map Rul.er = roadsC.rules.xs.drop 6
theorem R2S.mono : MonoS R2S := fun _ _ _ hl ⟨p, a, b, c⟩ => ⟨p, a, b.le hl, c⟩
def EqS (v0 : Value) : Sp := fun v _ => v = v0
theorem EqS.mono {v0 : Value} : MonoS (EqS v0) := fun _ _ _ _ h => h
/-- The union, as it comes and its parts. -/
def UtS : Sp := fun v h => ∃ a : Prg, v = .tuple #[a.val, .int .i64 0] ∧ a.In h ∧ a.er = roadsC
theorem UtS.mono : MonoS UtS := fun _ _ _ hl ⟨p, a, b, c⟩ => ⟨p, a, b.le hl, c⟩
def UpS : Sp := fun v h => ∃ a : Prg, v = a.val ∧ a.In h ∧ a.er = roadsC
theorem UpS.mono : MonoS UpS := fun _ _ _ hl ⟨p, a, b, c⟩ => ⟨p, a, b.le hl, c⟩
section
variable (B : Base) (hB : B.ok) (p q : Prg) (hp : p.In B.h) (hq : q.In B.h) (hnm : p.Nm) (hnq : q.Nm) (r : (List Prd × List Rul) × Int)
include hB hp hnm
include hq hnq
end
theorem SameProgs_at (B : Base) (hB : B.ok) (p q : Prg) (hp : p.In B.h) (hq : q.In B.h) (he : p.er = q.er) : Fn Tryz.prog 14 [p.val, q.val] B (fun v _ => v = .bool true) := by
  have := SameProgs_ok B hB p q hp hq fun _ => he
  rwa [decide_eq_true (Prg.er_iff he).1] at this
theorem er_same {a b : Prg} (h1 : a.preds.xs = b.preds.xs) (h2 : a.rules.xs = b.rules.xs) : a.er = b.er := by rw [er_mk (a := b) rfl rfl]; exact er_mk h1 (by rw [h2])
end Go.TF
end
section
/- Bytes as text. -/
namespace Go.TF
open Go Go.RowKit

@[reducible] def bEn8 (c : UInt8) : List Value := [.int .u8 (c.toNat : Int)]
theorem flat_b8 : ∀ l : List UInt8, l.flatMap bEn8 = l.map fun c => Value.int .u8 (c.toNat : Int)
  | [] => rfl
  | y :: r => by rw [List.flatMap_cons, flat_b8 r]; rfl
section
variable {P : Program} {e : Env} {w : World} {t : TypeId} {pos : String} {af : Array Edge} {g : Option (Nat × Bool)} {d : Option Nat}
theorem Y.b2s {S T el b o n c : Nat} {x : Operand} {l : List UInt8} (hs : Und P S (.slice el)) (he : Und P el (.int .u8)) (hd : Und P T .string) (hx : ev e x = .slice (some ⟨b, o, none⟩) n c) (hr : Rd w b o (l.flatMap bEn8) ∧ l.length = n) :
    Y P ⟨d, .convert S T x, t, pos, af, g⟩ e w (.string ⟨l.toArray⟩) := by
  obtain ⟨hr, rfl⟩ := hr
  have hfl := flat_b8 l
  have hc : ∀ j (hj : j < l.length), w.cell? ((⟨b, o, none⟩ : Addr).add j) = some (.int .u8 (l[j].toNat : Int)) := fun j hj => by
    rw [addr_add]
    exact hr j _ (by rw [hfl, List.getElem?_map, List.getElem?_eq_getElem hj]; rfl)
  have := run_convert_bytes_back (P := P) w S T el ⟨b, o, none⟩ c l hs he hd hc
  simp [Y, execOp, hx, this]
theorem Y.b2s1 {S T el b : Nat} {x : Operand} {c : UInt8} {h : Heap} {B : Base} {M : List SA} (I : Inv B h M w) (hs : Und P S (.slice el)) (he : Und P el (.int .u8)) (hd : Und P T .string) (hx : ev e x = .slice (some ⟨b, 0, none⟩) 1 1) (hr : (⟨some ⟨b, 0, none⟩, 1, [c]⟩ : Sl UInt8).In 1 bEn8 h) :
    Y P ⟨d, .convert S T x, t, pos, af, g⟩ e w (.string ⟨#[c]⟩) := Y.b2s (l := [c]) hs he hd hx ⟨I.rd (hr 0 c rfl).2, rfl⟩
end
/-- One byte of a number. -/
def chT (c : Int) : ByteArray := ⟨#[UInt8.ofNat c.toNat]⟩
theorem chT_size (c : Int) : (chT c).size = 1 := rfl
theorem wrap_u8 {c : Int} (h0 : 0 ≤ c) (h1 : c < 256) : IntKind.u8.wrap c = c := by
  simp only [IntKind.wrap, IntKind.bits, IntKind.signed]
  simp
  omega
theorem ch_byte {c : Int} (h0 : 0 ≤ c) (h1 : c < 256) : ((UInt8.ofNat c.toNat).toNat : Int) = c := by
  rw [UInt8.toNat_ofNat']
  omega
end Go.TF
end
section
/- Digits, and the text of an atom, of a program, as the document says: walked. -/
namespace Go.TF
open Go Go.RowKit Go.Proofs
set_option maxRecDepth 20000

def digT (n : Nat) : ByteArray := if n < 10 then chT (48 + (n % 10 : Nat)) else chT (48 + (n / 10 % 10 : Nat)) ++ chT (48 + (n % 10 : Nat))
theorem digT_size (n : Nat) : (digT n).size ≤ 2 := by
  unfold digT
  split
  · rw [chT_size]; omega
  · rw [ByteArray.size_append, chT_size, chT_size]; omega
theorem tmod10 (n : Nat) : (n : Int).tmod 10 = (n % 10 : Nat) := by
  rw [Int.tmod_eq_emod_of_nonneg (by omega)]; omega
theorem tdiv10 (n : Nat) : (n : Int).tdiv 10 = (n / 10 : Nat) := by
  rw [Int.tdiv_eq_ediv_of_nonneg (by omega)]; omega
theorem Digit1_ok (B : Base) (hB : B.ok) (n : Nat) (hn : n < 10) : Fn Tryz.prog 20 [.int .i64 n] B (fun v _ => v = .string (digT n)) := by
  have e10 := tmod10 n
  obtain ⟨c, hc⟩ : ∃ c : UInt8, c = UInt8.ofNat (48 + ((n % 10 : Nat) : Int)).toNat := ⟨_, rfl⟩
  have hb : (c.toNat : Int) = 48 + ((n % 10 : Nat) : Int) := by rw [hc]; exact ch_byte (by omega) (by omega)
  have hd : digT n = ⟨#[c]⟩ := by unfold digT chT; rw [if_pos hn, hc]
  refine Fn.of Tryz.func20 rfl Tryz.ntmps20 (by kernel_rfl) (by simp) ?_
  intro e
  have I := Inv.start hB
  refine WP.seq ?_
  refine WP.region ?_
  refine Ops.y (v := .string _) (Y.assign rfl) ?_
  refine Ops.nil ?_
  refine WP.seq ?_
  refine WP.region ?_
  refine Ops.y (v := .int .i64 _) (Y.move rfl) ?_
  refine Ops.y (v := .int .i64 _) (Y.remi rfl rfl (by omega)) ?_
  refine Ops.y (v := .int .i64 _) (Y.addi rfl rfl ⟨by omega, by omega⟩) ?_
  refine Ops.y (v := .int .u8 (c.toNat : Int)) ((Y.conv (by rw [Tryz.underlying3]; rfl) Tryz.underlying5 (wrap_u8 (by omega) (by omega)) rfl).is (by rw [hb, e10])) ?_
  refine Ops.go (O.mksl (xs := [c]) (enc := bEn8) I Tryz.underlying95 Tryz.sizeOf5 Tryz.zeroValue5 rfl (Nat.le_of_ble_eq_true rfl) rfl rfl (by decide) (fun _ => rfl) ?_)
  intro b8 h8 w I le8 sl8
  refine Ops.y (v := .string _) (Y.b2s1 I Tryz.underlying95 Tryz.underlying5 Tryz.underlying9 rfl sl8) ?_
  refine Ops.y (v := .string _) (Y.assign rfl) ?_
  refine Ops.nil ?_
  refine WP.seq ?_
  refine WP.seq ?_
  refine WP.region ?_
  refine Ops.y (v := .int .i64 _) (Y.move rfl) ?_
  refine Ops.y (v := .bool true) (Y.dec_t (Y.lti rfl rfl) ((by omega))) ?_
  refine Ops.nil ?_
  refine WP.cond_t rfl ?_
  refine WP.seq ?_
  refine WP.region ?_
  refine Ops.y (v := .string _) (Y.move rfl) ?_
  refine Ops.y (v := .string _) (Y.assign rfl) ?_
  refine Ops.nil ?_
  refine WP.ret ?_
  repeat (first | refine thenE_ret ?_ | refine blockE_ret ?_)
  exact retQ.mk (vs := [.string _]) rfl ⟨rfl, trivial⟩ I.ext_of (by rw [hd]; rfl)
theorem Digits_ok (B : Base) (hB : B.ok) (n : Nat) (hn : n < 100) : Fn Tryz.prog 20 [.int .i64 n] B (fun v _ => v = .string (digT n)) := by
  by_cases h10 : n < 10
  · exact Digit1_ok B hB n h10
  have e10 := tmod10 n
  have ed := tdiv10 n
  obtain ⟨c, hc⟩ : ∃ c : UInt8, c = UInt8.ofNat (48 + ((n % 10 : Nat) : Int)).toNat := ⟨_, rfl⟩
  have hb : (c.toNat : Int) = 48 + ((n % 10 : Nat) : Int) := by rw [hc]; exact ch_byte (by omega) (by omega)
  have hd : digT n = digT (n / 10) ++ ⟨#[c]⟩ := by
    have : digT (n / 10) = chT (48 + (n / 10 % 10 : Nat)) := by unfold digT; rw [if_pos (by omega)]
    rw [this]
    unfold digT
    rw [if_neg h10, hc]; rfl
  have hs := digT_size (n / 10)
  refine Fn.of Tryz.func20 rfl Tryz.ntmps20 (by kernel_rfl) (by simp) ?_
  intro e
  have I := Inv.start hB
  refine WP.seq ?_
  refine WP.region ?_
  refine Ops.y (v := .string _) (Y.assign rfl) ?_
  refine Ops.nil ?_
  refine WP.seq ?_
  refine WP.region ?_
  refine Ops.y (v := .int .i64 _) (Y.move rfl) ?_
  refine Ops.y (v := .int .i64 _) (Y.remi rfl rfl (by omega)) ?_
  refine Ops.y (v := .int .i64 _) (Y.addi rfl rfl ⟨by omega, by omega⟩) ?_
  refine Ops.y (v := .int .u8 (c.toNat : Int)) ((Y.conv (by rw [Tryz.underlying3]; rfl) Tryz.underlying5 (wrap_u8 (by omega) (by omega)) rfl).is (by rw [hb, e10])) ?_
  refine Ops.go (O.mksl (xs := [c]) (enc := bEn8) I Tryz.underlying95 Tryz.sizeOf5 Tryz.zeroValue5 rfl (Nat.le_of_ble_eq_true rfl) rfl rfl (by decide) (fun _ => rfl) ?_)
  intro b8 h8 w I le8 sl8
  refine Ops.y (v := .string _) (Y.b2s1 I Tryz.underlying95 Tryz.underlying5 Tryz.underlying9 rfl sl8) ?_
  refine Ops.y (v := .string _) (Y.assign rfl) ?_
  refine Ops.nil ?_
  refine WP.seq ?_
  refine WP.seq ?_
  refine WP.region ?_
  refine Ops.y (v := .int .i64 _) (Y.move rfl) ?_
  refine Ops.y (v := .bool false) (Y.dec_f (Y.lti rfl rfl) ((by omega))) ?_
  refine Ops.nil ?_
  refine WP.cond_f rfl ?_
  refine WP.skip ?_
  refine WP.seq ?_
  refine WP.region ?_
  refine Ops.y (v := .int .i64 _) (Y.move rfl) ?_
  refine Ops.y (v := .int .i64 _) (Y.quoi rfl rfl (by decide) ⟨by omega, by omega⟩) ?_
  refine Ops.go (O.callv I Tryz.call20 (ed ▸ Digit1_ok _ I.base_ok (n / 10) (by omega)) rfl ?_)
  intro w I
  refine Ops.y (v := .string _) (Y.move rfl) ?_
  refine Ops.y (v := .string _) (Y.adds rfl rfl (by show (digT (n / 10)).size + 1 ≤ _; omega)) ?_
  refine Ops.y (v := .string _) (Y.assign rfl) ?_
  refine Ops.nil ?_
  refine WP.ret ?_
  repeat (first | refine thenE_ret ?_ | refine blockE_ret ?_)
  exact retQ.mk (vs := [.string _]) rfl ⟨rfl, trivial⟩ I.ext_of (by rw [hd]; rfl)
/-! ### An atom -/
def termT (t : Trm) : ByteArray := if t.var = true then chT (65 + t.n) else digT t.n.toNat
def atomK (l : List Prd) (a : Atm) : Nat → ByteArray
  | 0 => (predOf l a.pred).name
  | k + 1 => (atomK l a k ++ (if k = 0 then ⟨#[40]⟩ else ⟨#[44]⟩)) ++ termT (a.args.xs.getD k default)
def atomT (l : List Prd) (a : Atm) : ByteArray := if 0 < a.args.xs.length then atomK l a a.args.xs.length ++ ⟨#[41]⟩ else atomK l a a.args.xs.length
theorem termT_size (t : Trm) : (termT t).size ≤ 2 := by
  unfold termT
  split
  · rw [chT_size]; omega
  · exact digT_size _
theorem atomK_size {l : List Prd} {a : Atm} : ∀ k, (atomK l a k).size ≤ (predOf l a.pred).name.size + 3 * k
  | 0 => Nat.le_refl _
  | k + 1 => by
    have ih := atomK_size (l := l) (a := a) k
    have h2 := termT_size (a.args.xs.getD k default)
    rw [atomK, ByteArray.size_append, ByteArray.size_append]
    split
    · have : ByteArray.size ⟨#[40]⟩ = 1 := rfl
      omega
    · have : ByteArray.size ⟨#[44]⟩ = 1 := rfl
      omega
theorem atomT_size {l : List Prd} {a : Atm} (h : a.args.xs.length ≤ 2) : (atomT l a).size ≤ (predOf l a.pred).name.size + 7 := by
  have := atomK_size (l := l) (a := a) a.args.xs.length
  unfold atomT
  split
  · rw [ByteArray.size_append]
    have : ByteArray.size ⟨#[41]⟩ = 1 := rfl
    omega
  · omega
set_option maxHeartbeats 4000000 in
theorem AtomText_ok (B : Base) (hB : B.ok) (l : Sl Prd) (hl : Prds l B.h) (a : Atm) (ha : a.In B.h) (ao : AOk l.xs a) (hnm : (predOf l.xs a.pred).name.size ≤ 140737488355328) : Fn Tryz.prog 21 [l.val, a.val] B (fun v _ => v = .string (atomT l.xs a)) := by
  have h2 := ao.len
  have Ep := hl.el.el (predOf_get ao.pred.1 ao.pred.2)
  refine Fn.of Tryz.func21 rfl Tryz.ntmps21 (by kernel_rfl) (by simp) ?_
  intro e
  have I := Inv.start hB
  refine WP.seq ?_
  refine WP.region ?_
  refine Ops.go (O.box (v := .agg #[_, _]) I rfl rfl ?_)
  intro b3 w I
  refine Ops.y (v := .string _) (Y.assign rfl) ?_
  refine Ops.nil ?_
  refine WP.seq ?_
  refine WP.region ?_
  refine Ops.y (v := .slice _ _ _) (Y.move rfl) ?_
  refine Ops.y (v := .pointer (some ⟨_, _, none⟩)) (Y.fa0 fa_43_0 rfl) ?_
  refine Ops.y (v := .int .i64 _) (Y.loadv ty_3 rfl (I.rdbox 0 rfl 0 1) rfl rfl) ?_
  refine Ops.y (v := .pointer (some ⟨_, _, none⟩)) (Y.idxEl Ep Tryz.underlying22 Tryz.sizeOf40 rfl rfl ao.pred.1 rfl) ?_
  refine Ops.y (v := .pointer (some ⟨_, _, none⟩)) (Y.fa0 fa_40_0 rfl) ?_
  refine Ops.y (v := .string _) (Y.loadv ty_9 rfl (I.rd (Ep.rd.part 0 1)) rfl rfl) ?_
  refine Ops.y (v := .string _) (Y.assign rfl) ?_
  refine Ops.nil ?_
  refine WP.seq ?_
  refine WP.seq ?_
  refine WP.region ?_
  refine Ops.y (v := .int .i64 _) (Y.assign rfl) ?_
  refine Ops.nil ?_
  refine WP.block ?_
  refine WP.loopE (σ := Nat × Heap) (fun s => [(0, l.val), (3, .pointer (some ⟨b3, 0, none⟩)), (5, .string (atomK l.xs a s.1)), (6, .int .i64 s.1)])
    (fun s w => Inv B s.2 [box b3 a.enc 43] w ∧ s.1 ≤ a.args.xs.length ∧ B.h.le s.2) (fun s => a.args.xs.length - s.1)
    ⟨(0, B.h), ⟨rfl, rfl, rfl, rfl, trivial⟩, I, Nat.zero_le _, Heap.le.refl _⟩ ?_
  rintro ⟨k, hh⟩ e w ⟨I, hk, gl⟩
  dsimp only at I hk gl ⊢
  have hks := atomK_size (l := l.xs) (a := a) k
  refine WP.seq ?_
  refine WP.seq ?_
  refine WP.region ?_
  refine Ops.y (v := .int .i64 _) (Y.move rfl) ?_
  refine Ops.y (v := .pointer (some ⟨_, _, none⟩)) (Y.fa fa_43_1 rfl) ?_
  refine Ops.y (v := .slice _ _ _) (Y.loadv ty_41 rfl (I.rdbox 0 rfl 1 1) rfl rfl) ?_
  refine Ops.y (v := .int .i64 _) (Y.lens Tryz.underlying41 rfl) ?_
  refine Ops.y (v := .bool (decide _)) (Y.lti rfl rfl) ?_
  refine Ops.nil ?_
  refine WP.cond_dec rfl (fun h3 => ?_) (fun h3 => ?_)
  · have hk' : k < a.args.xs.length := by omega
    have E := Sl.Is.at (Atm.In.le ha gl) hk'
    obtain ⟨t, ht⟩ : ∃ t, a.args.xs[k] = t := ⟨_, rfl⟩
    have htm : t ∈ a.args.xs := ht ▸ List.getElem_mem hk'
    have hgd : a.args.xs.getD k default = t := by rw [List.getD_eq_getElem?_getD, List.getElem?_eq_getElem hk', ht]; rfl
    rw [ht] at E
    obtain ⟨sep, hsep⟩ : ∃ sep : ByteArray, sep = if k = 0 then ⟨#[40]⟩ else ⟨#[44]⟩ := ⟨_, rfl⟩
    have hss : sep.size = 1 := by rw [hsep]; split <;> rfl
    have hnx : atomK l.xs a (k + 1) = (atomK l.xs a k ++ sep) ++ termT t := by rw [atomK, hgd, hsep]
    refine WP.skip ?_
    refine WP.seq ?_
    refine WP.block ?_
    refine WP.seq ?_
    refine WP.seq ?_
    refine WP.region ?_
    refine Ops.y (v := .int .i64 _) (Y.move rfl) ?_
    refine Ops.y (v := .bool (decide _)) (Y.eqi rfl rfl) ?_
    refine Ops.nil ?_
    refine WP.cutL (σ := Unit) (fun _ => [(0, l.val), (3, .pointer (some ⟨b3, 0, none⟩)), (5, .string (atomK l.xs a k ++ sep)), (6, .int .i64 k)]) (fun _ w => Inv B hh [box b3 a.enc 43] w) ?_ ?_
    · refine WP.cond_dec rfl (fun h5 => ?_) (fun h5 => ?_)
      · have h0 : k = 0 := by omega
        refine WP.region ?_
        refine Ops.y (v := .string _) (Y.move rfl) ?_
        refine Ops.y (v := .string _) (Y.adds rfl rfl (by show (atomK l.xs a k).size + 1 ≤ _; omega)) ?_
        refine Ops.y (v := .string _) (Y.assign rfl) ?_
        refine Ops.nil ?_
        exact ⟨(), ⟨rfl, rfl, by rw [hsep, if_pos h0]; rfl, rfl, trivial⟩, I⟩
      have h0 : ¬ k = 0 := by omega
      refine WP.region ?_
      refine Ops.y (v := .string _) (Y.move rfl) ?_
      refine Ops.y (v := .string _) (Y.adds rfl rfl (by show (atomK l.xs a k).size + 1 ≤ _; omega)) ?_
      refine Ops.y (v := .string _) (Y.assign rfl) ?_
      refine Ops.nil ?_
      exact ⟨(), ⟨rfl, rfl, by rw [hsep, if_neg h0]; rfl, rfl, trivial⟩, I⟩
    rintro _ e w I
    have hks2 : (atomK l.xs a k ++ sep).size ≤ (predOf l.xs a.pred).name.size + 3 * k + 1 := by rw [ByteArray.size_append]; omega
    refine WP.seq ?_
    refine WP.region ?_
    refine Ops.y (v := .pointer (some ⟨_, _, none⟩)) (Y.fa fa_43_1 rfl) ?_
    refine Ops.y (v := .slice _ _ _) (Y.loadv ty_41 rfl (I.rdbox 0 rfl 1 1) rfl rfl) ?_
    refine Ops.y (v := .int .i64 _) (Y.move rfl) ?_
    refine Ops.y (v := .pointer (some ⟨_, _, none⟩)) (Y.idxEl E Tryz.underlying41 Tryz.sizeOf89 rfl rfl (Int.natCast_nonneg _) rfl) ?_
    refine Ops.y (v := .pointer (some ⟨_, _, none⟩)) (Y.fa0 fa_89_0 rfl) ?_
    refine Ops.y (v := .bool _) (Y.loadv ty_4 rfl (I.rd (E.rd.part 0 1)) rfl rfl) ?_
    refine Ops.nil ?_
    refine WP.cond rfl (fun h8 => ?_) (fun h8 => ?_)
    · have hv : t.var = true := h8
      obtain ⟨n0, n3⟩ := ao.var htm hv
      obtain ⟨c, hc⟩ : ∃ c : UInt8, c = UInt8.ofNat (65 + t.n).toNat := ⟨_, rfl⟩
      have hb : (c.toNat : Int) = 65 + t.n := by rw [hc]; exact ch_byte (by omega) (by omega)
      have hT : termT t = ⟨#[c]⟩ := by unfold termT chT; rw [if_pos hv, hc]
      refine WP.region ?_
      refine Ops.y (v := .string _) (Y.move rfl) ?_
      refine Ops.y (v := .pointer (some ⟨_, _, none⟩)) (Y.fa fa_43_1 rfl) ?_
      refine Ops.y (v := .slice _ _ _) (Y.loadv ty_41 rfl (I.rdbox 0 rfl 1 1) rfl rfl) ?_
      refine Ops.y (v := .int .i64 _) (Y.move rfl) ?_
      refine Ops.y (v := .pointer (some ⟨_, _, none⟩)) (Y.idxEl E Tryz.underlying41 Tryz.sizeOf89 rfl rfl (Int.natCast_nonneg _) rfl) ?_
      refine Ops.y (v := .pointer (some ⟨_, _, none⟩)) (Y.fa fa_89_1 rfl) ?_
      refine Ops.y (v := .int .i64 _) (Y.loadv ty_3 rfl (I.rd (E.rd.part 1 1)) rfl rfl) ?_
      refine Ops.y (v := .int .i64 _) (Y.addi rfl rfl ⟨by omega, by omega⟩) ?_
      refine Ops.y (v := .int .u8 (c.toNat : Int)) ((Y.conv (by rw [Tryz.underlying3]; rfl) Tryz.underlying5 (wrap_u8 (by omega) (by omega)) rfl).is (by rw [hb])) ?_
      refine Ops.go (O.mksl (xs := [c]) (enc := bEn8) I Tryz.underlying95 Tryz.sizeOf5 Tryz.zeroValue5 rfl (Nat.le_of_ble_eq_true rfl) rfl rfl (by decide) (fun _ => rfl) ?_)
      intro b41 h41 w I le41 sl41
      refine Ops.y (v := .string _) (Y.b2s1 I Tryz.underlying95 Tryz.underlying5 Tryz.underlying9 rfl sl41) ?_
      refine Ops.y (v := .string _) (Y.adds rfl rfl (by show (atomK l.xs a k ++ sep).size + 1 ≤ _; omega)) ?_
      refine Ops.y (v := .string _) (Y.assign rfl) ?_
      refine Ops.nil ?_
      refine WP.region ?_
      refine Ops.y (v := .int .i64 _) (Y.move rfl) ?_
      refine Ops.y (v := .int .i64 _) (Y.addi rfl rfl ⟨by omega, by omega⟩) ?_
      refine Ops.y (v := .int .i64 _) (Y.assign rfl) ?_
      refine Ops.nil ?_
      exact ⟨(k + 1, h41), ⟨⟨rfl, rfl, by rw [hnx, hT]; rfl, rfl, trivial⟩, I, by dsimp only; omega, gl.trans le41⟩, by dsimp only; omega⟩
    · have hv : t.var = false := by simpa using h8
      have hcn := argsErr_con ao.err htm hv
      obtain ⟨n, hn⟩ : ∃ n : Nat, t.n = n := ⟨t.n.toNat, by omega⟩
      have hT : termT t = digT n := by unfold termT; rw [if_neg (by rw [hv]; decide), hn]; rfl
      have hds := digT_size n
      refine WP.region ?_
      refine Ops.y (v := .string _) (Y.move rfl) ?_
      refine Ops.y (v := .pointer (some ⟨_, _, none⟩)) (Y.fa fa_43_1 rfl) ?_
      refine Ops.y (v := .slice _ _ _) (Y.loadv ty_41 rfl (I.rdbox 0 rfl 1 1) rfl rfl) ?_
      refine Ops.y (v := .int .i64 _) (Y.move rfl) ?_
      refine Ops.y (v := .pointer (some ⟨_, _, none⟩)) (Y.idxEl E Tryz.underlying41 Tryz.sizeOf89 rfl rfl (Int.natCast_nonneg _) rfl) ?_
      refine Ops.y (v := .pointer (some ⟨_, _, none⟩)) (Y.fa fa_89_1 rfl) ?_
      refine Ops.y (v := .int .i64 _) (Y.loadv ty_3 rfl (I.rd (E.rd.part 1 1)) rfl rfl) ?_
      refine Ops.go (O.callv I Tryz.call20 (hn ▸ Digits_ok _ I.base_ok n (by omega)) rfl ?_)
      intro w I
      refine Ops.y (v := .string _) (Y.adds rfl rfl (by omega)) ?_
      refine Ops.y (v := .string _) (Y.assign rfl) ?_
      refine Ops.nil ?_
      refine WP.region ?_
      refine Ops.y (v := .int .i64 _) (Y.move rfl) ?_
      refine Ops.y (v := .int .i64 _) (Y.addi rfl rfl ⟨by omega, by omega⟩) ?_
      refine Ops.y (v := .int .i64 _) (Y.assign rfl) ?_
      refine Ops.nil ?_
      exact ⟨(k + 1, hh), ⟨⟨rfl, rfl, by rw [hnx, hT]; rfl, rfl, trivial⟩, I, by dsimp only; omega, gl⟩, by dsimp only; omega⟩
  obtain rfl : k = a.args.xs.length := by omega
  refine WP.exit ?_
  refine WP.seq ?_
  refine WP.seq ?_
  refine WP.region ?_
  refine Ops.y (v := .pointer (some ⟨_, _, none⟩)) (Y.fa fa_43_1 rfl) ?_
  refine Ops.y (v := .slice _ _ _) (Y.loadv ty_41 rfl (I.rdbox 0 rfl 1 1) rfl rfl) ?_
  refine Ops.y (v := .int .i64 _) (Y.lens Tryz.underlying41 rfl) ?_
  refine Ops.y (v := .bool (decide _)) (Y.gti rfl rfl) ?_
  refine Ops.nil ?_
  refine WP.cond_dec rfl (fun h11 => ?_) (fun h11 => ?_)
  · refine WP.region ?_
    refine Ops.y (v := .string _) (Y.move rfl) ?_
    refine Ops.y (v := .string _) (Y.adds rfl rfl (by show (atomK l.xs a a.args.xs.length).size + 1 ≤ _; omega)) ?_
    refine Ops.y (v := .string _) (Y.assign rfl) ?_
    refine Ops.nil ?_
    refine WP.seq ?_
    refine WP.region ?_
    refine Ops.y (v := .string _) (Y.move rfl) ?_
    refine Ops.y (v := .string _) (Y.assign rfl) ?_
    refine Ops.nil ?_
    refine WP.ret ?_
    repeat (first | refine thenE_ret ?_ | refine blockE_ret ?_)
    exact retQ.mk (vs := [.string _]) rfl ⟨rfl, trivial⟩ I.ext_of (by unfold atomT; rw [if_pos (by omega)]; rfl)
  · refine WP.skip ?_
    refine WP.seq ?_
    refine WP.region ?_
    refine Ops.y (v := .string _) (Y.move rfl) ?_
    refine Ops.y (v := .string _) (Y.assign rfl) ?_
    refine Ops.nil ?_
    refine WP.ret ?_
    repeat (first | refine thenE_ret ?_ | refine blockE_ret ?_)
    exact retQ.mk (vs := [.string _]) rfl ⟨rfl, trivial⟩ I.ext_of (by unfold atomT; rw [if_neg (by omega)]; rfl)
end Go.TF
end
section
/- The text of a program, as the document says: walked. -/
namespace Go.TF
open Go Go.RowKit Go.Proofs
set_option maxRecDepth 20000

def prS (s : ByteArray) (x : Prd) : ByteArray := ((((((s ++ ⟨#[112, 114, 101, 100, 32]⟩) ++ x.name) ++ ⟨#[32]⟩) ++ digT x.arity.toNat) ++ ⟨#[32]⟩) ++ digT x.kind.toNat) ++ ⟨#[10]⟩
def prK (l : List Prd) : Nat → ByteArray
  | 0 => ⟨#[]⟩
  | k + 1 => prS (prK l k) (l.getD k default)
def bdS (l : List Prd) (k : Nat) (s : ByteArray) (x : Ltl) : ByteArray :=
  (if x.neg = true then (s ++ (if k = 0 then ⟨#[32, 58, 45, 32]⟩ else ⟨#[44, 32]⟩)) ++ ⟨#[33]⟩ else s ++ (if k = 0 then ⟨#[32, 58, 45, 32]⟩ else ⟨#[44, 32]⟩)) ++ atomT l x.atom
def bdK (l : List Prd) (b : List Ltl) (s : ByteArray) : Nat → ByteArray
  | 0 => s
  | k + 1 => bdS l k (bdK l b s k) (b.getD k default)
def srcS (s : ByteArray) (r : Rul) : ByteArray := if 0 ≤ r.src then ((s ++ ⟨#[35]⟩) ++ digT r.src.toNat) ++ ⟨#[43]⟩ else s
def valS (l : List Prd) (s : ByteArray) (r : Rul) : ByteArray := if (predOf l r.head.pred).kind ≠ 0 then srcS (s ++ ⟨#[32, 61, 32]⟩) r ++ digT r.n.toNat else s
def ruS (l : List Prd) (s : ByteArray) (r : Rul) : ByteArray := bdK l r.body.xs (valS l (s ++ atomT l r.head) r) r.body.xs.length ++ ⟨#[46, 10]⟩
def ruK (l : List Prd) (rs : List Rul) : Nat → ByteArray
  | 0 => prK l l.length
  | k + 1 => ruS l (ruK l rs k) (rs.getD k default)
def progT (p : Prg) : ByteArray := ruK p.preds.xs p.rules.xs p.rules.xs.length
theorem prS_size {s : ByteArray} {x : Prd} : (prS s x).size ≤ s.size + x.name.size + 12 := by
  have h1 := digT_size x.arity.toNat
  have h2 := digT_size x.kind.toNat
  have e1 : ByteArray.size ⟨#[112, 114, 101, 100, 32]⟩ = 5 := rfl
  have e2 : ByteArray.size ⟨#[32]⟩ = 1 := rfl
  have e3 : ByteArray.size ⟨#[10]⟩ = 1 := rfl
  unfold prS
  simp only [ByteArray.size_append]
  omega
section
variable {l : List Prd} {X : Nat} (hX : ∀ i : Int, 0 ≤ i → i < l.length → (predOf l i).name.size ≤ X)
include hX
theorem prK_size : ∀ {k : Nat}, k ≤ l.length → (prK l k).size ≤ k * (X + 12)
  | 0, _ => Nat.zero_le _
  | k + 1, hk => by
    have ih := prK_size (k := k) (by omega)
    have h1 := prS_size (s := prK l k) (x := l.getD k default)
    have h2 := hX k (by omega) (by omega)
    have e : (predOf l (k : Int)) = l.getD k default := by unfold predOf; rw [Int.toNat_natCast]
    rw [e] at h2
    rw [prK, Nat.add_mul, Nat.one_mul]
    omega
theorem bdS_size {k : Nat} {s : ByteArray} {x : Ltl} (ao : AOk l x.atom) : (bdS l k s x).size ≤ s.size + X + 12 := by
  have h1 := atomT_size (l := l) ao.len
  have h2 := hX _ ao.pred.1 ao.pred.2
  have hs : ByteArray.size (if k = 0 then ⟨#[32, 58, 45, 32]⟩ else ⟨#[44, 32]⟩) ≤ 4 := by
    split
    · exact Nat.le_refl 4
    · exact (by decide : 2 ≤ 4)
  have e3 : ByteArray.size ⟨#[33]⟩ = 1 := rfl
  unfold bdS
  rw [ByteArray.size_append]
  split
  · rw [ByteArray.size_append, ByteArray.size_append]; omega
  · rw [ByteArray.size_append]; omega
theorem bdK_size {b : List Ltl} {s : ByteArray} (hb : ∀ x ∈ b, AOk l x.atom) : ∀ {k : Nat}, k ≤ b.length → (bdK l b s k).size ≤ s.size + k * (X + 12)
  | 0, _ => by rw [bdK]; omega
  | k + 1, hk => by
    have ih := bdK_size (s := s) hb (k := k) (by omega)
    have hm : b.getD k default ∈ b := by rw [List.getD_eq_getElem?_getD, List.getElem?_eq_getElem (by omega)]; exact List.getElem_mem _
    have h1 := bdS_size hX (k := k) (s := bdK l b s k) (hb _ hm)
    rw [bdK, Nat.add_mul, Nat.one_mul]
    omega
omit hX in
theorem srcS_size {s : ByteArray} {r : Rul} : (srcS s r).size ≤ s.size + 4 := by
  have h1 := digT_size r.src.toNat
  have e1 : ByteArray.size ⟨#[35]⟩ = 1 := rfl
  have e2 : ByteArray.size ⟨#[43]⟩ = 1 := rfl
  unfold srcS
  split
  · simp only [ByteArray.size_append]; omega
  · omega
omit hX in
theorem valS_size {s : ByteArray} {r : Rul} : (valS l s r).size ≤ s.size + 9 := by
  have h1 := digT_size r.n.toNat
  have h2 := srcS_size (s := s ++ ⟨#[32, 61, 32]⟩) (r := r)
  have e1 : ByteArray.size ⟨#[32, 61, 32]⟩ = 3 := rfl
  rw [ByteArray.size_append] at h2
  unfold valS
  split
  · rw [ByteArray.size_append]; omega
  · omega
theorem ruS_size {s : ByteArray} {r : Rul} (ok : ROk l r) : (ruS l s r).size ≤ s.size + 4 * (X + 20) := by
  have ao := aok_of ok.preds ok.head
  have h1 := atomT_size (l := l) ao.len
  have h2 := hX _ ao.pred.1 ao.pred.2
  have h3 := valS_size (l := l) (s := s ++ atomT l r.head) (r := r)
  have h4 := bdK_size hX (b := r.body.xs) (s := valS l (s ++ atomT l r.head) r) (fun x hx => aok_of ok.preds (ok.body x hx)) (Nat.le_refl _)
  have h5 := Nat.mul_le_mul_right (X + 12) ok.len
  have e1 : ByteArray.size ⟨#[46, 10]⟩ = 2 := rfl
  rw [ByteArray.size_append] at h3
  unfold ruS
  rw [ByteArray.size_append]
  omega
theorem ruK_size {rs : List Rul} (rk : ∀ r ∈ rs, ROk l r) : ∀ {k : Nat}, k ≤ rs.length → (ruK l rs k).size ≤ l.length * (X + 12) + k * (4 * (X + 20))
  | 0, _ => by rw [ruK]; have := prK_size hX (Nat.le_refl l.length); omega
  | k + 1, hk => by
    have ih := ruK_size rk (k := k) (by omega)
    have hm : rs.getD k default ∈ rs := by rw [List.getD_eq_getElem?_getD, List.getElem?_eq_getElem (by omega)]; exact List.getElem_mem _
    have h1 := ruS_size hX (s := ruK l rs k) (rk _ hm)
    rw [ruK, Nat.add_mul, Nat.one_mul]
    omega
end
set_option maxHeartbeats 16000000 in
theorem ProgText_ok (B : Base) (hB : B.ok) (p : Prg) (hp : p.In B.h) (hnm : p.Nm) (hpr : checkProg p = 0) : Fn Tryz.prog 6 [p.val] B (fun v _ => v = .string (progT p)) := by
  obtain ⟨k1, k2, k3, _, _⟩ := checkProg_ok hpr
  have rk := chk_rok hpr
  have hpf := chk_preds hpr
  have hin := chk_heads hpr
  have hX : ∀ i : Int, 0 ≤ i → i < p.preds.xs.length → (predOf p.preds.xs i).name.size ≤ 140737488355328 := fun i h0 h1 => hnm _ (predOf_mem ⟨h0, h1⟩)
  have hsp := hp.preds.small
  have hsr := hp.rules.is.small
  refine Fn.of Tryz.func6 rfl Tryz.ntmps6 (by kernel_rfl) (by simp) ?_
  intro e
  have I := Inv.start hB
  refine WP.seq ?_
  refine WP.region ?_
  refine Ops.go (O.box (v := .agg #[_, _]) I rfl rfl ?_)
  intro b1 w I
  refine Ops.y (v := .string _) (Y.assign rfl) ?_
  refine Ops.nil ?_
  refine WP.seq ?_
  refine WP.region ?_
  refine Ops.y (v := .string _) (Y.assign rfl) ?_
  refine Ops.nil ?_
  refine WP.seq ?_
  refine WP.seq ?_
  refine WP.region ?_
  refine Ops.y (v := .int .i64 _) (Y.assign rfl) ?_
  refine Ops.nil ?_
  refine WP.block ?_
  refine WP.loopE (σ := Nat) (fun k => [(1, .pointer (some ⟨b1, 0, none⟩)), (3, .string (prK p.preds.xs k)), (4, .int .i64 k)])
    (fun k w => Inv B B.h [box b1 p.enc 25] w ∧ k ≤ p.preds.xs.length) (fun k => p.preds.xs.length - k)
    ⟨0, ⟨rfl, rfl, rfl, trivial⟩, I, Nat.zero_le _⟩ ?_
  rintro k e w ⟨I, hk⟩
  have hz := prK_size hX hk
  refine WP.seq ?_
  refine WP.seq ?_
  refine WP.region ?_
  refine Ops.y (v := .int .i64 _) (Y.move rfl) ?_
  refine Ops.y (v := .pointer (some ⟨_, _, none⟩)) (Y.fa0 fa_25_0 rfl) ?_
  refine Ops.y (v := .slice _ _ _) (Y.loadv ty_22 rfl (I.rdbox 0 rfl 0 1) rfl rfl) ?_
  refine Ops.y (v := .int .i64 _) (Y.lens Tryz.underlying22 rfl) ?_
  refine Ops.y (v := .bool (decide _)) (Y.lti rfl rfl) ?_
  refine Ops.nil ?_
  refine WP.cond_dec rfl (fun h3 => ?_) (fun h3 => ?_)
  · have hk' : k < p.preds.xs.length := by omega
    have E := hp.preds.at hk'
    obtain ⟨x, hx⟩ : ∃ x, p.preds.xs[k] = x := ⟨_, rfl⟩
    have hgd : p.preds.xs.getD k default = x := by rw [List.getD_eq_getElem?_getD, List.getElem?_eq_getElem hk', hx]; rfl
    have hxm : x ∈ p.preds.xs := hx ▸ List.getElem_mem hk'
    have hf := hpf x hxm
    have hxn := hnm x hxm
    unfold predFine at hf
    obtain ⟨a0, a2, d0, d3⟩ := of_decide_eq_true hf
    obtain ⟨a, ha⟩ : ∃ a : Nat, x.arity = a := ⟨x.arity.toNat, by omega⟩
    obtain ⟨d, hd⟩ : ∃ d : Nat, x.kind = d := ⟨x.kind.toNat, by omega⟩
    have hda := digT_size a
    have hdd := digT_size d
    have hnx : prK p.preds.xs (k + 1) = ((((((prK p.preds.xs k ++ ⟨#[112, 114, 101, 100, 32]⟩) ++ x.name) ++ ⟨#[32]⟩) ++ digT a) ++ ⟨#[32]⟩) ++ digT d) ++ ⟨#[10]⟩ := by rw [prK, hgd]; unfold prS; rw [ha, hd]; rfl
    have z1 : (prK p.preds.xs k ++ ⟨#[112, 114, 101, 100, 32]⟩).size = (prK p.preds.xs k).size + 5 := by rw [ByteArray.size_append]; rfl
    have z2 : ((prK p.preds.xs k ++ ⟨#[112, 114, 101, 100, 32]⟩) ++ x.name).size = (prK p.preds.xs k).size + 5 + x.name.size := by rw [ByteArray.size_append, z1]
    have z3 : (((prK p.preds.xs k ++ ⟨#[112, 114, 101, 100, 32]⟩) ++ x.name) ++ ⟨#[32]⟩).size = (prK p.preds.xs k).size + 5 + x.name.size + 1 := by rw [ByteArray.size_append, z2]; rfl
    have z4 : ((((prK p.preds.xs k ++ ⟨#[112, 114, 101, 100, 32]⟩) ++ x.name) ++ ⟨#[32]⟩) ++ digT a).size ≤ (prK p.preds.xs k).size + 8 + x.name.size := by rw [ByteArray.size_append, z3]; omega
    have z5 : (((((prK p.preds.xs k ++ ⟨#[112, 114, 101, 100, 32]⟩) ++ x.name) ++ ⟨#[32]⟩) ++ digT a) ++ ⟨#[32]⟩).size ≤ (prK p.preds.xs k).size + 9 + x.name.size := by rw [ByteArray.size_append]; show _ + 1 ≤ _; omega
    have z6 : ((((((prK p.preds.xs k ++ ⟨#[112, 114, 101, 100, 32]⟩) ++ x.name) ++ ⟨#[32]⟩) ++ digT a) ++ ⟨#[32]⟩) ++ digT d).size ≤ (prK p.preds.xs k).size + 11 + x.name.size := by rw [ByteArray.size_append]; omega
    have hk5 : k * (140737488355328 + 12) ≤ 5 * (140737488355328 + 12) := Nat.mul_le_mul_right _ (by omega)
    rw [hx] at E
    refine WP.skip ?_
    refine WP.seq ?_
    refine WP.block ?_
    refine WP.regionQ mixed I (by kernel_rfl) ?_
    refine OpsQ.y (v := .string _) (fun w I => Y.move rfl) ?_
    refine OpsQ.y (v := .string _) (fun w I => Y.adds rfl rfl (by show _ + 5 ≤ _; omega)) ?_
    refine OpsQ.y (v := .pointer (some ⟨_, _, none⟩)) (fun w I => Y.fa0 fa_25_0 rfl) ?_
    refine OpsQ.y (v := .slice _ _ _) (fun w I => Y.loadv ty_22 rfl (I.rdbox 0 rfl 0 1) rfl rfl) ?_
    refine OpsQ.y (v := .int .i64 _) (fun w I => Y.move rfl) ?_
    refine OpsQ.y (v := .pointer (some ⟨_, _, none⟩)) (fun w I => Y.idxEl E Tryz.underlying22 Tryz.sizeOf40 rfl rfl (Int.natCast_nonneg _) rfl) ?_
    refine OpsQ.y (v := .pointer (some ⟨_, _, none⟩)) (fun w I => Y.fa0 fa_40_0 rfl) ?_
    refine OpsQ.y (v := .string _) (fun w I => Y.loadv ty_9 rfl (I.rd (E.rd.part 0 1)) rfl rfl) ?_
    refine OpsQ.y (v := .string _) (fun w I => Y.adds rfl rfl (by omega)) ?_
    refine OpsQ.y (v := .string _) (fun w I => Y.adds rfl rfl (by show _ + 1 ≤ _; omega)) ?_
    refine OpsQ.y (v := .pointer (some ⟨_, _, none⟩)) (fun w I => Y.fa0 fa_25_0 rfl) ?_
    refine OpsQ.y (v := .slice _ _ _) (fun w I => Y.loadv ty_22 rfl (I.rdbox 0 rfl 0 1) rfl rfl) ?_
    refine OpsQ.y (v := .int .i64 _) (fun w I => Y.move rfl) ?_
    refine OpsQ.y (v := .pointer (some ⟨_, _, none⟩)) (fun w I => Y.idxEl E Tryz.underlying22 Tryz.sizeOf40 rfl rfl (Int.natCast_nonneg _) rfl) ?_
    refine OpsQ.y (v := .pointer (some ⟨_, _, none⟩)) (fun w I => Y.fa fa_40_1 rfl) ?_
    refine OpsQ.y (v := .int .i64 _) (fun w I => Y.loadv ty_3 rfl (I.rd (E.rd.part 1 1)) rfl rfl) ?_
    refine OpsQ.c (fun w I => QC.callv I Tryz.call20 (ha ▸ Digits_ok _ I.base_ok a (by omega)) rfl) ?_
    refine OpsQ.y (v := .string _) (fun w I => Y.adds rfl rfl (by omega)) ?_
    refine OpsQ.y (v := .string _) (fun w I => Y.adds rfl rfl (by show _ + 1 ≤ _; omega)) ?_
    refine OpsQ.y (v := .pointer (some ⟨_, _, none⟩)) (fun w I => Y.fa0 fa_25_0 rfl) ?_
    refine OpsQ.y (v := .slice _ _ _) (fun w I => Y.loadv ty_22 rfl (I.rdbox 0 rfl 0 1) rfl rfl) ?_
    refine OpsQ.y (v := .int .i64 _) (fun w I => Y.move rfl) ?_
    refine OpsQ.y (v := .pointer (some ⟨_, _, none⟩)) (fun w I => Y.idxEl E Tryz.underlying22 Tryz.sizeOf40 rfl rfl (Int.natCast_nonneg _) rfl) ?_
    refine OpsQ.y (v := .pointer (some ⟨_, _, none⟩)) (fun w I => Y.fa fa_40_2 rfl) ?_
    refine OpsQ.y (v := .int .i64 _) (fun w I => Y.loadv ty_3 rfl (I.rd (E.rd.part 2 1)) rfl rfl) ?_
    refine OpsQ.c (fun w I => QC.callv I Tryz.call20 (hd ▸ Digits_ok _ I.base_ok d (by omega)) rfl) ?_
    refine OpsQ.y (v := .string _) (fun w I => Y.adds rfl rfl (by omega)) ?_
    refine OpsQ.y (v := .string _) (fun w I => Y.adds rfl rfl (by show _ + 1 ≤ _; omega)) ?_
    refine OpsQ.y (v := .string _) (fun w I => Y.assign rfl) ?_
    refine OpsQ.nil ?_
    intro w I
    refine WP.region ?_
    refine Ops.y (v := .int .i64 _) (Y.move rfl) ?_
    refine Ops.y (v := .int .i64 _) (Y.addi rfl rfl ⟨by omega, by omega⟩) ?_
    refine Ops.y (v := .int .i64 _) (Y.assign rfl) ?_
    refine Ops.nil ?_
    exact ⟨k + 1, ⟨⟨rfl, by rw [hnx]; rfl, rfl, trivial⟩, I, by omega⟩, by omega⟩
  obtain rfl : k = p.preds.xs.length := by omega
  refine WP.exit ?_
  refine WP.seq ?_
  refine WP.seq ?_
  refine WP.region ?_
  refine Ops.y (v := .int .i64 _) (Y.assign rfl) ?_
  refine Ops.nil ?_
  refine WP.block ?_
  refine WP.loopE (σ := Nat) (fun n => [(1, .pointer (some ⟨b1, 0, none⟩)), (3, .string (ruK p.preds.xs p.rules.xs n)), (5, .int .i64 n)])
    (fun n w => Inv B B.h [box b1 p.enc 25] w ∧ n ≤ p.rules.xs.length) (fun n => p.rules.xs.length - n)
    ⟨0, ⟨rfl, rfl, rfl, trivial⟩, I, Nat.zero_le _⟩ ?_
  rintro n e w ⟨I, hn⟩
  have hz := ruK_size hX rk hn
  have hk5 : p.preds.xs.length * (140737488355328 + 12) ≤ 5 * (140737488355328 + 12) := Nat.mul_le_mul_right _ k1
  have hn8 : n * (4 * (140737488355328 + 20)) ≤ 8 * (4 * (140737488355328 + 20)) := Nat.mul_le_mul_right _ (by omega)
  refine WP.seq ?_
  refine WP.seq ?_
  refine WP.region ?_
  refine Ops.y (v := .int .i64 _) (Y.move rfl) ?_
  refine Ops.y (v := .pointer (some ⟨_, _, none⟩)) (Y.fa fa_25_1 rfl) ?_
  refine Ops.y (v := .slice _ _ _) (Y.loadv ty_23 rfl (I.rdbox 0 rfl 1 1) rfl rfl) ?_
  refine Ops.y (v := .int .i64 _) (Y.lens Tryz.underlying23 rfl) ?_
  refine Ops.y (v := .bool (decide _)) (Y.lti rfl rfl) ?_
  refine Ops.nil ?_
  refine WP.cond_dec rfl (fun h7 => ?_) (fun h7 => ?_)
  · have hn' : n < p.rules.xs.length := by omega
    have Er := hp.rules.is.at hn'
    have hrm := List.getElem_mem hn'
    have ir := hp.rules.each _ hrm
    have ok := rk _ hrm
    have hgd : p.rules.xs.getD n default = p.rules.xs[n] := by rw [List.getD_eq_getElem?_getD, List.getElem?_eq_getElem hn']; rfl
    obtain ⟨i0, i1⟩ := hin _ hrm
    have Ek := hp.preds.el.el (predOf_get i0 i1)
    obtain ⟨r, hr⟩ : ∃ r, p.rules.xs[n] = r := ⟨_, rfl⟩
    rw [hr] at Er ir ok hgd i0 i1 Ek
    have ah := aok_of ok.preds ok.head
    have hb := fun x hx => aok_of ok.preds (ok.body x hx)
    have hlen := ok.len
    obtain ⟨s0, hs0⟩ : ∃ s, ruK p.preds.xs p.rules.xs n = s := ⟨_, rfl⟩
    have hnx : ruK p.preds.xs p.rules.xs (n + 1) = ruS p.preds.xs s0 r := by rw [ruK, hgd, hs0]
    have ha7 := atomT_size (l := p.preds.xs) ah.len
    have hXh := hX _ i0 i1
    obtain ⟨s1, hs1⟩ : ∃ s, s0 ++ atomT p.preds.xs r.head = s := ⟨_, rfl⟩
    have z1 : s1.size = s0.size + (atomT p.preds.xs r.head).size := by rw [← hs1, ByteArray.size_append]
    have hv9 := valS_size (l := p.preds.xs) (s := s1) (r := r)
    obtain ⟨s2, hs2⟩ : ∃ s, valS p.preds.xs s1 r = s := ⟨_, rfl⟩
    rw [hs2] at hv9
    rw [hs0] at hz
    have hru : ruS p.preds.xs s0 r = bdK p.preds.xs r.body.xs s2 r.body.xs.length ++ ⟨#[46, 10]⟩ := by unfold ruS; rw [hs1, hs2]
    rw [hs0]
    refine WP.skip ?_
    refine WP.seq ?_
    refine WP.block ?_
    refine WP.seq ?_
    refine WP.region ?_
    refine Ops.y (v := .pointer (some ⟨_, _, none⟩)) (Y.fa fa_25_1 rfl) ?_
    refine Ops.y (v := .slice _ _ _) (Y.loadv ty_23 rfl (I.rdbox 0 rfl 1 1) rfl rfl) ?_
    refine Ops.y (v := .int .i64 _) (Y.move rfl) ?_
    refine Ops.y (v := .pointer (some ⟨_, _, none⟩)) (Y.idxEl Er Tryz.underlying23 Tryz.sizeOf46 rfl rfl (Int.natCast_nonneg _) rfl) ?_
    refine Ops.y (v := .agg #[_, _, _, _, _]) (Y.loadv ty_46 rfl (I.rd (Er.rd.part 0 5)) rfl rfl) ?_
    refine Ops.go (O.alloc I Tryz.zeroValue46 rfl ?_)
    intro b6 w I
    refine Ops.go (O.store (v := .agg #[_, _, _, _, _]) I ty_46 0 rfl rfl rfl rfl rfl rfl (Nat.le_of_ble_eq_true rfl) rfl ?_)
    intro w I
    refine Ops.nil ?_
    refine WP.seq ?_
    refine WP.region ?_
    refine Ops.y (v := .string _) (Y.move rfl) ?_
    refine Ops.y (v := .pointer (some ⟨_, _, none⟩)) (Y.fa0 fa_25_0 rfl) ?_
    refine Ops.y (v := .slice _ _ _) (Y.loadv ty_22 rfl (I.rdbox 1 rfl 0 1) rfl rfl) ?_
    refine Ops.y (v := .pointer (some ⟨_, _, none⟩)) (Y.fa0 fa_46_0 rfl) ?_
    refine Ops.y (v := .agg #[_, _]) (Y.loadv ty_43 rfl (I.rdbox 0 rfl 0 2) rfl rfl) ?_
    refine Ops.go (O.callv I Tryz.call21 (AtomText_ok _ I.base_ok p.preds hp.preds r.head ir.head ah hXh) rfl ?_)
    intro w I
    refine Ops.y (v := .string _) (Y.adds rfl rfl (by omega)) ?_
    refine Ops.y (v := .string _) (Y.assign rfl) ?_
    refine Ops.nil ?_
    rw [hs1]
    refine WP.seq ?_
    refine WP.seq ?_
    refine WP.region ?_
    refine Ops.y (v := .pointer (some ⟨_, _, none⟩)) (Y.fa0 fa_25_0 rfl) ?_
    refine Ops.y (v := .slice _ _ _) (Y.loadv ty_22 rfl (I.rdbox 1 rfl 0 1) rfl rfl) ?_
    refine Ops.y (v := .pointer (some ⟨_, _, none⟩)) (Y.fa0 fa_46_0 rfl) ?_
    refine Ops.y (v := .pointer (some ⟨_, _, none⟩)) (Y.fa0 fa_43_0 rfl) ?_
    refine Ops.y (v := .int .i64 _) (Y.loadv ty_3 rfl (I.rdbox 0 rfl 0 1) rfl rfl) ?_
    refine Ops.y (v := .pointer (some ⟨_, _, none⟩)) (Y.idxEl Ek Tryz.underlying22 Tryz.sizeOf40 rfl rfl i0 rfl) ?_
    refine Ops.y (v := .pointer (some ⟨_, _, none⟩)) (Y.fa fa_40_2 rfl) ?_
    refine Ops.y (v := .int .i64 _) (Y.loadv ty_3 rfl (I.rd (Ek.rd.part 2 1)) rfl rfl) ?_
    refine Ops.y (v := .bool (decide _)) (Y.nei rfl rfl) ?_
    refine Ops.nil ?_
    refine WP.cutL (σ := Unit) (fun _ => [(1, .pointer (some ⟨b1, 0, none⟩)), (3, .string s2), (5, .int .i64 n), (6, .pointer (some ⟨b6, 0, none⟩))])
      (fun _ w => Inv B B.h [box b6 r.enc 46, box b1 p.enc 25] w) ?_ ?_
    · refine WP.cond_dec rfl (fun h11 => ?_) (fun h11 => ?_)
      · obtain ⟨m, hm⟩ : ∃ m : Nat, r.n = m := ⟨r.n.toNat, by have := ok.n; omega⟩
        have hm15 := ok.n
        have hdm := digT_size m
        have hv : s2 = srcS (s1 ++ ⟨#[32, 61, 32]⟩) r ++ digT m := by rw [← hs2]; unfold valS; rw [if_pos h11, hm]; rfl
        have z3 : (s1 ++ ⟨#[32, 61, 32]⟩).size = s1.size + 3 := by rw [ByteArray.size_append]; rfl
        have hsz := srcS_size (s := s1 ++ ⟨#[32, 61, 32]⟩) (r := r)
        refine WP.seq ?_
        refine WP.region ?_
        refine Ops.y (v := .string _) (Y.move rfl) ?_
        refine Ops.y (v := .string _) (Y.adds rfl rfl (by show _ + 3 ≤ _; omega)) ?_
        refine Ops.y (v := .string _) (Y.assign rfl) ?_
        refine Ops.nil ?_
        refine WP.seq ?_
        refine WP.seq ?_
        refine WP.region ?_
        refine Ops.y (v := .pointer (some ⟨_, _, none⟩)) (Y.fa fa_46_1 rfl) ?_
        refine Ops.y (v := .int .i64 _) (Y.loadv ty_3 rfl (I.rdbox 0 rfl 2 1) rfl rfl) ?_
        refine Ops.y (v := .bool (decide _)) (Y.gei rfl rfl) ?_
        refine Ops.nil ?_
        refine WP.cond_dec rfl (fun h13 => ?_) (fun h13 => ?_)
        · obtain ⟨m2, hm2⟩ : ∃ m : Nat, r.src = m := ⟨r.src.toNat, by omega⟩
          have hs3 := ok.src
          have hd2 := digT_size m2
          have hv2 : srcS (s1 ++ ⟨#[32, 61, 32]⟩) r = (((s1 ++ ⟨#[32, 61, 32]⟩) ++ ⟨#[35]⟩) ++ digT m2) ++ ⟨#[43]⟩ := by unfold srcS; rw [if_pos (by omega), hm2]; rfl
          have z4 : ((s1 ++ ⟨#[32, 61, 32]⟩) ++ ⟨#[35]⟩).size = s1.size + 4 := by rw [ByteArray.size_append, z3]; rfl
          have z5 : (((s1 ++ ⟨#[32, 61, 32]⟩) ++ ⟨#[35]⟩) ++ digT m2).size ≤ s1.size + 6 := by rw [ByteArray.size_append, z4]; omega
          rw [hv2] at hsz
          refine WP.region ?_
          refine Ops.y (v := .string _) (Y.move rfl) ?_
          refine Ops.y (v := .string _) (Y.adds rfl rfl (by show _ + 1 ≤ _; omega)) ?_
          refine Ops.y (v := .pointer (some ⟨_, _, none⟩)) (Y.fa fa_46_1 rfl) ?_
          refine Ops.y (v := .int .i64 _) (Y.loadv ty_3 rfl (I.rdbox 0 rfl 2 1) rfl rfl) ?_
          refine Ops.go (O.callv I Tryz.call20 (hm2 ▸ Digits_ok _ I.base_ok m2 (by omega)) rfl ?_)
          intro w I
          refine Ops.y (v := .string _) (Y.adds rfl rfl (by omega)) ?_
          refine Ops.y (v := .string _) (Y.adds rfl rfl (by show _ + 1 ≤ _; omega)) ?_
          refine Ops.y (v := .string _) (Y.assign rfl) ?_
          refine Ops.nil ?_
          refine WP.region ?_
          refine Ops.y (v := .string _) (Y.move rfl) ?_
          refine Ops.y (v := .pointer (some ⟨_, _, none⟩)) (Y.fa fa_46_2 rfl) ?_
          refine Ops.y (v := .int .i64 _) (Y.loadv ty_3 rfl (I.rdbox 0 rfl 3 1) rfl rfl) ?_
          refine Ops.go (O.callv I Tryz.call20 (hm ▸ Digits_ok _ I.base_ok m (by omega)) rfl ?_)
          intro w I
          refine Ops.y (v := .string _) (Y.adds rfl rfl (by omega)) ?_
          refine Ops.y (v := .string _) (Y.assign rfl) ?_
          refine Ops.nil ?_
          exact ⟨(), ⟨rfl, by rw [hv, hv2]; rfl, rfl, rfl, trivial⟩, I⟩
        · have hv2 : srcS (s1 ++ ⟨#[32, 61, 32]⟩) r = s1 ++ ⟨#[32, 61, 32]⟩ := by unfold srcS; rw [if_neg (by omega)]
          refine WP.skip ?_
          refine WP.region ?_
          refine Ops.y (v := .string _) (Y.move rfl) ?_
          refine Ops.y (v := .pointer (some ⟨_, _, none⟩)) (Y.fa fa_46_2 rfl) ?_
          refine Ops.y (v := .int .i64 _) (Y.loadv ty_3 rfl (I.rdbox 0 rfl 3 1) rfl rfl) ?_
          refine Ops.go (O.callv I Tryz.call20 (hm ▸ Digits_ok _ I.base_ok m (by omega)) rfl ?_)
          intro w I
          refine Ops.y (v := .string _) (Y.adds rfl rfl (by omega)) ?_
          refine Ops.y (v := .string _) (Y.assign rfl) ?_
          refine Ops.nil ?_
          exact ⟨(), ⟨rfl, by rw [hv, hv2]; rfl, rfl, rfl, trivial⟩, I⟩
      have hv : s2 = s1 := by rw [← hs2]; unfold valS; rw [if_neg h11]
      refine WP.skip ?_
      exact ⟨(), ⟨rfl, by rw [hv]; rfl, rfl, rfl, trivial⟩, I⟩
    rintro _ e w I
    refine WP.seq ?_
    refine WP.seq ?_
    refine WP.region ?_
    refine Ops.y (v := .int .i64 _) (Y.assign rfl) ?_
    refine Ops.nil ?_
    refine WP.block ?_
    refine WP.loopE (σ := Nat) (fun k => [(1, .pointer (some ⟨b1, 0, none⟩)), (3, .string (bdK p.preds.xs r.body.xs s2 k)), (5, .int .i64 n), (6, .pointer (some ⟨b6, 0, none⟩)), (7, .int .i64 k)])
      (fun k w => Inv B B.h [box b6 r.enc 46, box b1 p.enc 25] w ∧ k ≤ r.body.xs.length) (fun k => r.body.xs.length - k)
      ⟨0, ⟨rfl, rfl, rfl, rfl, rfl, trivial⟩, I, Nat.zero_le _⟩ ?_
    rintro k e w ⟨I, hk⟩
    have hzb := bdK_size hX (s := s2) hb hk
    have hk3 : k * (140737488355328 + 12) ≤ 3 * (140737488355328 + 12) := Nat.mul_le_mul_right _ (by omega)
    obtain ⟨t0, ht0⟩ : ∃ s, bdK p.preds.xs r.body.xs s2 k = s := ⟨_, rfl⟩
    rw [ht0] at hzb
    rw [ht0]
    refine WP.seq ?_
    refine WP.seq ?_
    refine WP.region ?_
    refine Ops.y (v := .int .i64 _) (Y.move rfl) ?_
    refine Ops.y (v := .pointer (some ⟨_, _, none⟩)) (Y.fa fa_46_3 rfl) ?_
    refine Ops.y (v := .slice _ _ _) (Y.loadv ty_44 rfl (I.rdbox 0 rfl 4 1) rfl rfl) ?_
    refine Ops.y (v := .int .i64 _) (Y.lens Tryz.underlying44 rfl) ?_
    refine Ops.y (v := .bool (decide _)) (Y.lti rfl rfl) ?_
    refine Ops.nil ?_
    refine WP.cond_dec rfl (fun h17 => ?_) (fun h17 => ?_)
    · have hk' : k < r.body.xs.length := by omega
      have E1 := ir.body.is.at hk'
      have ib := ir.body.each _ (List.getElem_mem hk')
      have hxm := List.getElem_mem hk'
      have hgx : r.body.xs.getD k default = r.body.xs[k] := by rw [List.getD_eq_getElem?_getD, List.getElem?_eq_getElem hk']; rfl
      obtain ⟨x, hx⟩ : ∃ x, r.body.xs[k] = x := ⟨_, rfl⟩
      rw [hx] at E1 ib hxm hgx
      have ab := hb x hxm
      have haa := atomT_size (l := p.preds.xs) ab.len
      have hXa := hX _ ab.pred.1 ab.pred.2
      obtain ⟨sep, hsep⟩ : ∃ sep : ByteArray, sep = if k = 0 then ⟨#[32, 58, 45, 32]⟩ else ⟨#[44, 32]⟩ := ⟨_, rfl⟩
      have hss : sep.size ≤ 4 := by
        rw [hsep]; split
        · exact Nat.le_refl 4
        · exact (by decide : 2 ≤ 4)
      have hnk : bdK p.preds.xs r.body.xs s2 (k + 1) = (if x.neg = true then (t0 ++ sep) ++ ⟨#[33]⟩ else t0 ++ sep) ++ atomT p.preds.xs x.atom := by rw [bdK, hgx, ht0]; unfold bdS; rw [← hsep]
      have y1 : (t0 ++ sep).size ≤ t0.size + 4 := by rw [ByteArray.size_append]; omega
      have y2 : ((t0 ++ sep) ++ ⟨#[33]⟩).size ≤ t0.size + 5 := by rw [ByteArray.size_append]; exact Nat.add_le_add_right y1 1
      refine WP.skip ?_
      refine WP.seq ?_
      refine WP.block ?_
      refine WP.seq ?_
      refine WP.seq ?_
      refine WP.region ?_
      refine Ops.y (v := .int .i64 _) (Y.move rfl) ?_
      refine Ops.y (v := .bool (decide _)) (Y.eqi rfl rfl) ?_
      refine Ops.nil ?_
      refine WP.cutL (σ := Unit) (fun _ => [(1, .pointer (some ⟨b1, 0, none⟩)), (3, .string (t0 ++ sep)), (5, .int .i64 n), (6, .pointer (some ⟨b6, 0, none⟩)), (7, .int .i64 k)])
        (fun _ w => Inv B B.h [box b6 r.enc 46, box b1 p.enc 25] w) ?_ ?_
      · refine WP.cond_dec rfl (fun h19 => ?_) (fun h19 => ?_)
        · have h0 : k = 0 := by omega
          refine WP.region ?_
          refine Ops.y (v := .string _) (Y.move rfl) ?_
          refine Ops.y (v := .string _) (Y.adds rfl rfl (by show _ + 4 ≤ _; omega)) ?_
          refine Ops.y (v := .string _) (Y.assign rfl) ?_
          refine Ops.nil ?_
          exact ⟨(), ⟨rfl, by rw [hsep, if_pos h0]; rfl, rfl, rfl, rfl, trivial⟩, I⟩
        have h0 : ¬ k = 0 := by omega
        refine WP.region ?_
        refine Ops.y (v := .string _) (Y.move rfl) ?_
        refine Ops.y (v := .string _) (Y.adds rfl rfl (by show _ + 2 ≤ _; omega)) ?_
        refine Ops.y (v := .string _) (Y.assign rfl) ?_
        refine Ops.nil ?_
        exact ⟨(), ⟨rfl, by rw [hsep, if_neg h0]; rfl, rfl, rfl, rfl, trivial⟩, I⟩
      rintro _ e w I
      refine WP.seq ?_
      refine WP.seq ?_
      refine WP.region ?_
      refine Ops.y (v := .pointer (some ⟨_, _, none⟩)) (Y.fa fa_46_3 rfl) ?_
      refine Ops.y (v := .slice _ _ _) (Y.loadv ty_44 rfl (I.rdbox 0 rfl 4 1) rfl rfl) ?_
      refine Ops.y (v := .int .i64 _) (Y.move rfl) ?_
      refine Ops.y (v := .pointer (some ⟨_, _, none⟩)) (Y.idxEl E1 Tryz.underlying44 Tryz.sizeOf61 rfl rfl (Int.natCast_nonneg _) rfl) ?_
      refine Ops.y (v := .pointer (some ⟨_, _, none⟩)) (Y.fa0 fa_61_0 rfl) ?_
      refine Ops.y (v := .bool _) (Y.loadv ty_4 rfl (I.rd (E1.rd.part 0 1)) rfl rfl) ?_
      refine Ops.nil ?_
      refine WP.cond rfl (fun h22 => ?_) (fun h22 => ?_)
      · have h22 : x.neg = true := h22
        rw [if_pos h22] at hnk
        refine WP.region ?_
        refine Ops.y (v := .string _) (Y.move rfl) ?_
        refine Ops.y (v := .string _) (Y.adds rfl rfl (by show _ + 1 ≤ _; omega)) ?_
        refine Ops.y (v := .string _) (Y.assign rfl) ?_
        refine Ops.nil ?_
        refine WP.regionQ mixed I (by kernel_rfl) ?_
        refine OpsQ.y (v := .string _) (fun w I => Y.move rfl) ?_
        refine OpsQ.y (v := .pointer (some ⟨_, _, none⟩)) (fun w I => Y.fa0 fa_25_0 rfl) ?_
        refine OpsQ.y (v := .slice _ _ _) (fun w I => Y.loadv ty_22 rfl (I.rdbox 1 rfl 0 1) rfl rfl) ?_
        refine OpsQ.y (v := .pointer (some ⟨_, _, none⟩)) (fun w I => Y.fa fa_46_3 rfl) ?_
        refine OpsQ.y (v := .slice _ _ _) (fun w I => Y.loadv ty_44 rfl (I.rdbox 0 rfl 4 1) rfl rfl) ?_
        refine OpsQ.y (v := .int .i64 _) (fun w I => Y.move rfl) ?_
        refine OpsQ.y (v := .pointer (some ⟨_, _, none⟩)) (fun w I => Y.idxEl E1 Tryz.underlying44 Tryz.sizeOf61 rfl rfl (Int.natCast_nonneg _) rfl) ?_
        refine OpsQ.y (v := .pointer (some ⟨_, _, none⟩)) (fun w I => Y.fa fa_61_1 rfl) ?_
        refine OpsQ.y (v := .agg #[_, _]) (fun w I => Y.loadv ty_43 rfl (I.rd (E1.rd.part 1 2)) rfl rfl) ?_
        refine OpsQ.c (fun w I => QC.callv I Tryz.call21 (AtomText_ok _ I.base_ok p.preds hp.preds x.atom ib ab hXa) rfl) ?_
        refine OpsQ.y (v := .string _) (fun w I => Y.adds rfl rfl (by omega)) ?_
        refine OpsQ.y (v := .string _) (fun w I => Y.assign rfl) ?_
        refine OpsQ.nil ?_
        intro w I
        refine WP.region ?_
        refine Ops.y (v := .int .i64 _) (Y.move rfl) ?_
        refine Ops.y (v := .int .i64 _) (Y.addi rfl rfl ⟨by omega, by omega⟩) ?_
        refine Ops.y (v := .int .i64 _) (Y.assign rfl) ?_
        refine Ops.nil ?_
        exact ⟨k + 1, ⟨⟨rfl, by rw [hnk]; rfl, rfl, rfl, rfl, trivial⟩, I, by omega⟩, by omega⟩
      · have h22 : x.neg = false := by simpa using h22
        rw [if_neg (by rw [h22]; decide)] at hnk
        refine WP.skip ?_
        refine WP.regionQ mixed I (by kernel_rfl) ?_
        refine OpsQ.y (v := .string _) (fun w I => Y.move rfl) ?_
        refine OpsQ.y (v := .pointer (some ⟨_, _, none⟩)) (fun w I => Y.fa0 fa_25_0 rfl) ?_
        refine OpsQ.y (v := .slice _ _ _) (fun w I => Y.loadv ty_22 rfl (I.rdbox 1 rfl 0 1) rfl rfl) ?_
        refine OpsQ.y (v := .pointer (some ⟨_, _, none⟩)) (fun w I => Y.fa fa_46_3 rfl) ?_
        refine OpsQ.y (v := .slice _ _ _) (fun w I => Y.loadv ty_44 rfl (I.rdbox 0 rfl 4 1) rfl rfl) ?_
        refine OpsQ.y (v := .int .i64 _) (fun w I => Y.move rfl) ?_
        refine OpsQ.y (v := .pointer (some ⟨_, _, none⟩)) (fun w I => Y.idxEl E1 Tryz.underlying44 Tryz.sizeOf61 rfl rfl (Int.natCast_nonneg _) rfl) ?_
        refine OpsQ.y (v := .pointer (some ⟨_, _, none⟩)) (fun w I => Y.fa fa_61_1 rfl) ?_
        refine OpsQ.y (v := .agg #[_, _]) (fun w I => Y.loadv ty_43 rfl (I.rd (E1.rd.part 1 2)) rfl rfl) ?_
        refine OpsQ.c (fun w I => QC.callv I Tryz.call21 (AtomText_ok _ I.base_ok p.preds hp.preds x.atom ib ab hXa) rfl) ?_
        refine OpsQ.y (v := .string _) (fun w I => Y.adds rfl rfl (by omega)) ?_
        refine OpsQ.y (v := .string _) (fun w I => Y.assign rfl) ?_
        refine OpsQ.nil ?_
        intro w I
        refine WP.region ?_
        refine Ops.y (v := .int .i64 _) (Y.move rfl) ?_
        refine Ops.y (v := .int .i64 _) (Y.addi rfl rfl ⟨by omega, by omega⟩) ?_
        refine Ops.y (v := .int .i64 _) (Y.assign rfl) ?_
        refine Ops.nil ?_
        exact ⟨k + 1, ⟨⟨rfl, by rw [hnk]; rfl, rfl, rfl, rfl, trivial⟩, I, by omega⟩, by omega⟩
    obtain rfl : k = r.body.xs.length := by omega
    refine WP.exit ?_
    refine WP.region ?_
    refine Ops.y (v := .string _) (Y.move rfl) ?_
    refine Ops.y (v := .string _) (Y.adds rfl rfl (by show _ + 2 ≤ _; omega)) ?_
    refine Ops.y (v := .string _) (Y.assign rfl) ?_
    refine Ops.nil ?_
    refine WP.region ?_
    refine Ops.y (v := .int .i64 _) (Y.move rfl) ?_
    refine Ops.y (v := .int .i64 _) (Y.addi rfl rfl ⟨by omega, by omega⟩) ?_
    refine Ops.y (v := .int .i64 _) (Y.assign rfl) ?_
    refine Ops.nil ?_
    exact ⟨n + 1, ⟨⟨rfl, by rw [hnx, hru, ht0]; rfl, rfl, trivial⟩, I.drop, by omega⟩, by omega⟩
  obtain rfl : n = p.rules.xs.length := by omega
  refine WP.exit ?_
  refine WP.seq ?_
  refine WP.region ?_
  refine Ops.y (v := .string _) (Y.move rfl) ?_
  refine Ops.y (v := .string _) (Y.assign rfl) ?_
  refine Ops.nil ?_
  refine WP.ret ?_
  repeat (first | refine thenE_ret ?_ | refine blockE_ret ?_)
  exact retQ.mk (vs := [.string _]) rfl ⟨rfl, trivial⟩ I.ext_of (rfl)
end Go.TF
end
section
/- Naive: how many strata; rounds of each until none changes anything; and the document's. -/
namespace Go.TF
open Go Go.RowKit Go.Proofs
set_option maxRecDepth 20000

def RecP (p : Prg) (v : Value) (h : Heap) : Prop := ∃ (s : Sl Fct) (r : Sl Int), v = .tuple #[s.val, r.val] ∧ Fcts s h ∧ r.Is 1 iEnc h ∧ ModK p (strataM p) (numS (strataM p)) s.xs r.xs
def RecO (h0 : Heap) (p : Prg) (v : Value) (h : Heap) : Prop := ∃ (s : Sl Fct) (r : Sl Int), v = .tuple #[s.val, r.val] ∧ Fcts s h ∧ r.Is 1 iEnc h ∧ ModK p (strataM p) (numS (strataM p)) s.xs r.xs ∧ OwnH 28 4 s Fct.enc h0 h
theorem RecO.rec {h0 h : Heap} {p : Prg} {v : Value} (x : RecO h0 p v h) : RecP p v h := by obtain ⟨s, r, a, b, c, d, _⟩ := x; exact ⟨s, r, a, b, c, d⟩
theorem PutO.mono {h0 : Heap} {r : List Fct × Bool} : MonoS (PutO h0 r) := fun _ _ _ hl ⟨s, a, b, c, d⟩ => ⟨s, a, b, c.le hl, d.le hl⟩
def SlO (h0 : Heap) (xs : List Fct) : Sp := fun v h => ∃ s : Sl Fct, v = s.val ∧ s.xs = xs ∧ Fcts s h ∧ OwnH 28 4 s Fct.enc h0 h
theorem SlO.mono {h0 : Heap} {xs : List Fct} : MonoS (SlO h0 xs) := fun _ _ _ hl ⟨s, a, b, c, d⟩ => ⟨s, a, b, c.le hl, d.le hl⟩
def MofP (p : Prg) (v : Value) (h : Heap) : Prop := ∃ (s : Sl Fct) (rs : List Int), v = s.val ∧ Fcts s h ∧ ModK p (strataM p) (numS (strataM p)) s.xs rs
def RofP (p : Prg) (v : Value) (h : Heap) : Prop := ∃ (r : Sl Int) (f : List Fct), v = r.val ∧ r.Is 1 iEnc h ∧ ModK p (strataM p) (numS (strataM p)) f r.xs
theorem MofP.mono {p : Prg} : MonoS (MofP p) := fun _ _ _ hl ⟨s, r, a, b, c⟩ => ⟨s, r, a, b.le hl, c⟩
theorem RofP.mono {p : Prg} : MonoS (RofP p) := fun _ _ _ hl ⟨s, r, a, b, c⟩ => ⟨s, r, a, b.le hl, c⟩
end Go.TF
end
section
/- Once and Add, what they hand back being the call's own. -/
namespace Go.TF
open Go Go.RowKit Go.Proofs
set_option maxRecDepth 20000

theorem PutO.older {h0 h1 h : Heap} {r : List Fct × Bool} {v : Value} (x : PutO h1 r v h) (hl : h0.le h1) : PutO h0 r v h := by obtain ⟨s, a, b, c, d⟩ := x; exact ⟨s, a, b, c, d.older hl⟩
def OncO (h0 : Heap) (tr : List Fct × Bool) (v : Value) (h : Heap) : Prop := ∃ s : Sl Fct, v = .tuple #[s.val, .bool tr.2, .int .i64 0] ∧ s.xs = tr.1 ∧ Fcts s h ∧ OwnH 28 4 s Fct.enc h0 h
set_option maxHeartbeats 2000000 in
theorem Once_own (B : Base) (hB : B.ok) (p : Prg) (hp : p.In B.h) (hnm : p.Nm) (f : Sl Fct) (hf : Fcts f B.h) (ha : askR p f.xs = 0) (st : Int) : Fn Tryz.prog 7 [p.val, f.val, .int .i64 st] B (OncO B.h (turnL p.preds.xs f.xs (toldL p.preds.xs f.xs p.rules.xs (ofQ p (strataM p) st)))) := by
  refine Fn.of Tryz.func7 rfl Tryz.ntmps7 (by kernel_rfl) (by simp) ?_
  intro e
  have I := Inv.start hB
  refine WP.seq ?_
  refine WP.region ?_
  refine Ops.go (O.box (v := .agg #[_, _]) I rfl rfl ?_)
  intro b3 w I
  refine Ops.y (v := .slice _ _ _) (Y.assign rfl) ?_
  refine Ops.y (v := .bool _) (Y.assign rfl) ?_
  refine Ops.y (v := .int .i64 _) (Y.assign rfl) ?_
  refine Ops.nil ?_
  refine WP.seq ?_
  refine WP.seq ?_
  refine WP.region ?_
  refine Ops.y (v := .agg #[_, _]) (Y.loadv ty_25 rfl (I.rdbox 0 rfl 0 2) rfl rfl) ?_
  refine Ops.y (v := .slice _ _ _) (Y.move rfl) ?_
  refine Ops.go (O.callv I Tryz.call22 (rasked_ok _ I.base_ok p hp hnm f hf) rfl ?_)
  intro w I
  refine Ops.y (v := .int .i64 _) (Y.assign rfl) ?_
  refine Ops.nil ?_
  refine WP.seq ?_
  refine WP.region ?_
  refine Ops.y (v := .int .i64 _) (Y.move rfl) ?_
  refine Ops.y (v := .bool (decide _)) (Y.nei rfl rfl) ?_
  refine Ops.nil ?_
  refine WP.cond_decF rfl ((fun h => h ha)) ?_
  obtain ⟨hpr, okf⟩ := askR_iff.1 ha
  obtain ⟨k1, k2, k3, M, hM⟩ := checkProg_ok hpr
  refine WP.skip ?_
  refine WP.seq ?_
  refine WP.region ?_
  refine Ops.y (v := .agg #[_, _]) (Y.loadv ty_25 rfl (I.rdbox 0 rfl 0 2) rfl rfl) ?_
  refine Ops.go (O.call I Tryz.call23 (Levels_ok _ I.base_ok p hp (inR_of k3) k1) rfl ?_)
  rintro v22 h3 w I le3 hL
  rcases hL with ⟨s, hS, hI, rfl⟩ | ⟨hno, rfl⟩
  rotate_left
  exact absurd hM (hno M)
  refine Ops.y (v := .tuple #[_, _]) (Y.move rfl) ?_
  refine Ops.y (v := .slice _ _ _) (Y.extract rfl rfl) ?_
  refine Ops.y (v := .bool _) (Y.extract rfl rfl) ?_
  refine Ops.y (v := .slice _ _ _) (Y.assign rfl) ?_
  refine Ops.y (v := .bool _) (Y.assign rfl) ?_
  refine Ops.nil ?_
  have hS : Least (usesL p.rules.xs) p.preds.xs.length s.xs := hS
  have hp := hp.le le3
  have hf := hf.le le3
  obtain ⟨tr, htr⟩ : ∃ t, turnL p.preds.xs f.xs (toldL p.preds.xs f.xs p.rules.xs (ofQ p s.xs st)) = t := ⟨_, rfl⟩
  refine WP.seq ?_
  refine WP.regionF mixed I 12 (by kernel_rfl) ?_
  refine OpsF.y_ (v := .agg #[_, _]) (fun _ => runs_none _) (fun _ w us hl I => Y.loadv ty_25 rfl (I.rdbox 0 rfl 0 2) rfl rfl) ?_
  refine OpsF.y_ (v := .slice _ _ _) (fun _ => runs_none _) (fun _ w us hl I => Y.move rfl) ?_
  refine OpsF.y_ (v := .agg #[_, _]) (fun _ => runs_none _) (fun _ w us hl I => Y.loadv ty_25 rfl (I.rdbox 0 rfl 0 2) rfl rfl) ?_
  refine OpsF.y_ (v := .slice _ _ _) (fun _ => runs_none _) (fun _ w us hl I => Y.move rfl) ?_
  refine OpsF.y_ (v := .int .i64 _) (fun _ => runs_none _) (fun _ w us hl I => Y.move rfl) ?_
  refine OpsF.x_ (Φ := ROfS p s.xs st) ROfS.mono (fun _ => runs_none _) ?_ ?_
  · intro _ w hl I
    try unfold AllL
    refine O.call I Tryz.call25 (ROf_ok _ I.base_ok p s st) rfl ?_
    rintro _ h5 w I hl' ⟨b4, b3, b5, rfl, k4, k3', k5⟩
    exact ⟨_, hl', I, ⟨_, rfl, ROf1_ok p s st b4 b3 b5 k4 k3' k5 ((hp.le hl).le hl') ((hI.le hl).le hl') hS.sol.len (heads_in k3)⟩⟩
  refine OpsF.x_ (Φ := PutO B.h tr) PutO.mono (fun _ => runs_none _) ?_ ?_
  · intro _ w hl I u31 q31
    obtain ⟨cs, rfl, hoc⟩ := q31 rfl
    try unfold AllL
    refine O.call I Tryz.call24 (htr ▸ Turn_own _ I.base_ok p (hp.le hl) hpr f (hf.le hl) okf 53 cs _ hoc) rfl ?_
    rintro _ h6 w I hl' hx
    exact ⟨_, hl', I, hx.older (le3.trans hl)⟩
  refine OpsF.x_ (Φ := PutO B.h tr) PutO.mono (fun _ => runs_none _) ?_ ?_
  · intro _ w hl I u31 q31 u32 q32
    exact O.yx I (Y.move rfl) (q32 rfl)
  refine OpsF.x_ (Φ := SlO B.h tr.1) SlO.mono (fun _ => runs_none _) ?_ ?_
  · intro _ w hl I u31 q31 u32 q32 u25 q25
    obtain ⟨s6, rfl, e6, i6, o6⟩ := q25 rfl
    exact O.yx I (Y.extract rfl rfl) (⟨s6, rfl, e6, i6, o6⟩)
  refine OpsF.d_ (v := .bool tr.2) (fun _ => runs_none _) ?_ ?_
  · intro _ w hl I u31 q31 u32 q32 u25 q25 u33 q33
    obtain ⟨s6, rfl, e6, i6, o6⟩ := q25 rfl
    exact O.yd I (Y.extract rfl rfl) (rfl)
  refine OpsF.x_ (Φ := SlO B.h tr.1) SlO.mono (fun _ => runs_none _) ?_ ?_
  · intro _ w hl I u31 q31 u32 q32 u25 q25 u33 q33
    exact O.yx I (Y.assign rfl) (q33 rfl)
  refine OpsF.y_ (v := .bool _) (fun _ => runs_none _) (fun _ w us hl I => Y.assign rfl) ?_
  refine OpsF.nil ?_
  intro _ w hl I u31 q31 u32 q32 u25 q25 u33 q33 u12 q12
  refine Ops.nil ?_
  obtain ⟨s6, rfl, hs6, is6, os6⟩ := q12 rfl
  refine WP.seq ?_
  refine WP.region ?_
  refine Ops.y (v := .slice _ _ _) (Y.move rfl) ?_
  refine Ops.y (v := .bool _) (Y.move rfl) ?_
  refine Ops.y (v := .slice _ _ _) (Y.assign rfl) ?_
  refine Ops.y (v := .bool _) (Y.assign rfl) ?_
  refine Ops.y (v := .int .i64 _) (Y.assign rfl) ?_
  refine Ops.nil ?_
  refine WP.ret ?_
  repeat (first | refine thenE_ret ?_ | refine blockE_ret ?_)
  exact retQ.mk (vs := [.slice _ _ _, .bool _, .int .i64 _]) rfl ⟨rfl, rfl, rfl, trivial⟩ I.ext_of (⟨s6, by rw [strataM_eq hS, htr]; rfl, by rw [strataM_eq hS, htr]; exact hs6, is6, os6⟩)
def AddO (h0 : Heap) (r : List Fct × Bool × Int) (v : Value) (h : Heap) : Prop := ∃ s : Sl Fct, v = .tuple #[s.val, .bool r.2.1, .int .i64 r.2.2] ∧ s.xs = r.1 ∧ Fcts s h ∧ OwnH 28 4 s Fct.enc h0 h
theorem Add_own (B : Base) (hB : B.ok) (l : Sl Prd) (hl : Prds l B.h) (f : Sl Fct) (hf : Fcts f B.h) (x : Fct) : Fn Tryz.prog 8 [l.val, f.val, x.val] B (AddO B.h (addOf l.xs f.xs x)) := by
  refine Fn.of Tryz.func8 rfl Tryz.ntmps8 (by kernel_rfl) (by simp) ?_
  intro e
  have I := Inv.start hB
  refine WP.seq ?_
  refine WP.region ?_
  refine Ops.go (O.box (v := .agg #[_, _, _, _]) I rfl rfl ?_)
  intro b5 w I
  refine Ops.y (v := .slice _ _ _) (Y.assign rfl) ?_
  refine Ops.y (v := .bool _) (Y.assign rfl) ?_
  refine Ops.y (v := .int .i64 _) (Y.assign rfl) ?_
  refine Ops.nil ?_
  refine WP.seq ?_
  refine WP.seq ?_
  refine WP.region ?_
  refine Ops.y (v := .slice _ _ _) (Y.move rfl) ?_
  refine Ops.y (v := .slice _ _ _) (Y.move rfl) ?_
  refine Ops.y (v := .agg #[_, _, _, _]) (Y.loadv ty_28 rfl (I.rdbox 0 rfl 0 4) rfl rfl) ?_
  refine Ops.go (O.callv I Tryz.call26 (asked_ok _ I.base_ok l hl f hf x) rfl ?_)
  intro w I
  refine Ops.y (v := .int .i64 _) (Y.assign rfl) ?_
  refine Ops.nil ?_
  refine WP.seq ?_
  refine WP.region ?_
  refine Ops.y (v := .int .i64 _) (Y.move rfl) ?_
  refine Ops.y (v := .bool (decide _)) (Y.nei rfl rfl) ?_
  refine Ops.nil ?_
  refine WP.cond_dec rfl (fun h => ?_) (fun h => ?_)
  · refine WP.seq ?_
    refine WP.region ?_
    refine Ops.y (v := .int .i64 _) (Y.move rfl) ?_
    refine Ops.y (v := .slice _ _ _) (Y.assign rfl) ?_
    refine Ops.y (v := .bool _) (Y.assign rfl) ?_
    refine Ops.y (v := .int .i64 _) (Y.assign rfl) ?_
    refine Ops.nil ?_
    refine WP.ret ?_
    repeat (first | refine thenE_ret ?_ | refine blockE_ret ?_)
    exact retQ.mk (vs := [.slice _ _ _, .bool _, .int .i64 _]) rfl ⟨rfl, rfl, rfl, trivial⟩ I.ext_of (by rw [ask_ne h]; exact ⟨⟨none, 0, []⟩, rfl, rfl, nilF, .inl rfl⟩)
  have hc : checkFacts l.xs f.xs = 0 := by unfold askF at h; split at h <;> rename_i hc <;> omega
  have hx : factFine l.xs x = true := by
    unfold askF at h; rw [if_neg (by simpa using hc)] at h
    cases hx : factFine l.xs x
    · rw [hx] at h; simp at h
    · rfl
  have ok := checkFacts_ok.1 hc
  refine WP.skip ?_
  refine WP.seq ?_
  refine WP.region ?_
  refine Ops.y (v := .slice _ _ _) (Y.move rfl) ?_
  refine Ops.y (v := .slice _ _ _) (Y.move rfl) ?_
  refine Ops.y (v := .agg #[_, _, _, _]) (Y.loadv ty_28 rfl (I.rdbox 0 rfl 0 4) rfl rfl) ?_
  refine Ops.go (O.call I Tryz.call27 (Put_own _ I.base_ok l hl f hf ok x hx) rfl ?_)
  rintro _ h2 w I le2 ⟨s, rfl, es, hs, os⟩
  refine Ops.y (v := .tuple #[_, _]) (Y.move rfl) ?_
  refine Ops.y (v := .slice _ _ _) (Y.extract rfl rfl) ?_
  refine Ops.y (v := .bool _) (Y.extract rfl rfl) ?_
  refine Ops.y (v := .slice _ _ _) (Y.assign rfl) ?_
  refine Ops.y (v := .bool _) (Y.assign rfl) ?_
  refine Ops.nil ?_
  refine WP.seq ?_
  refine WP.region ?_
  refine Ops.y (v := .slice _ _ _) (Y.move rfl) ?_
  refine Ops.y (v := .bool _) (Y.move rfl) ?_
  refine Ops.y (v := .slice _ _ _) (Y.assign rfl) ?_
  refine Ops.y (v := .bool _) (Y.assign rfl) ?_
  refine Ops.y (v := .int .i64 _) (Y.assign rfl) ?_
  refine Ops.nil ?_
  refine WP.ret ?_
  repeat (first | refine thenE_ret ?_ | refine blockE_ret ?_)
  exact retQ.mk (vs := [.slice _ _ _, .bool _, .int .i64 _]) rfl ⟨rfl, rfl, rfl, trivial⟩ I.ext_of (by unfold addOf; rw [if_neg (by simpa using hc), if_pos hx]; exact ⟨s, rfl, es, hs, os⟩)
/-- Taken back, what is of another type stays. -/
theorem OwnH.apart {α β : Type} {el k el2 k2 : Nat} {s : Sl α} {t : Sl β} {enc : α → List Value} {enc2 : β → List Value} {h0 h h1 h' : Heap} (o : OwnH el k s enc h0 h) (o2 : OwnH el2 k2 t enc2 h1 h) (hne : el ≠ el2) (hk : ∀ b x, h b = some x → h' b = some x ∨ t.at_ = some ⟨b, 0, none⟩) : OwnH el k s enc h0 h' := by
  rcases o with rfl | ⟨g, cur, a1, a2, a3, a4⟩
  · exact .inl rfl
  · refine .inr ⟨g, cur, a1, a2, ?_, a4⟩
    rcases hk g _ a3 with h | h
    · exact h
    · rcases o2 with rfl | ⟨g2, cur2, b1, _, b3, _⟩
      · cases h
      · rw [b1] at h
        injection h with h; injection h with h
        rw [h] at b3
        rw [b3] at a3
        injection a3 with a3
        injection a3 with _ a3
        exact absurd a3.symm hne
end Go.TF
end
