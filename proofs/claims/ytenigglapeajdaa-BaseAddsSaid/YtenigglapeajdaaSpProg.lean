/- What programs are, wherever they lie; pieces of slices; what is yielded in a region that draws: plain. -/
import Derived.Test.YtenigglapeajdaaSpRule2
import Derived.Test.YtenigglapeajdaaSpFact
namespace Go.TF
open Go Go.RowKit

/-! ### The same, laid nowhere -/
def Sl.er {α : Type} (s : Sl α) : Sl α := ⟨none, 0, s.xs⟩
def Atm.er (a : Atm) : Atm := ⟨a.pred, a.args.er⟩
def Ltl.er (x : Ltl) : Ltl := ⟨x.neg, x.atom.er⟩
def Rul.er (r : Rul) : Rul := ⟨r.head.er, r.src, r.n, ⟨none, 0, r.body.xs.map Ltl.er⟩⟩
def Prg.er (p : Prg) : Prg := ⟨p.preds.er, ⟨none, 0, p.rules.xs.map Rul.er⟩⟩
theorem checkAtom_er (l : List Prd) (a : Atm) : checkAtom l a.er = checkAtom l a := rfl
theorem standsIn_er (a : Atm) (v : Int) : standsIn a.er v = standsIn a v := rfl
theorem bodyErr_er (l : List Prd) (b : List Ltl) : bodyErr l (b.map Ltl.er) = bodyErr l b := by
  induction b with
  | nil => rfl
  | cons x r ih => simp only [List.map_cons, bodyErr, ih, Ltl.er, checkAtom_er]
theorem any_er (f : Ltl → Bool) (hf : ∀ x, f x.er = f x) (b : List Ltl) : (b.map Ltl.er).any f = b.any f := by
  rw [List.any_map]; congr 1; funext x; exact hf x
theorem freeVar_er (r : Rul) (v : Int) : freeVar r.er v = freeVar r v := by
  unfold freeVar boundIn Rul.er
  rw [any_er _ (fun x => rfl), any_er _ (fun x => rfl), standsIn_er]
theorem litOf_er {r : Rul} {k : Int} (h0 : 0 ≤ k) (h1 : k < r.body.xs.length) : litOf r.er k = (litOf r k).er := by
  have : k.toNat < r.body.xs.length := by omega
  simp [litOf, Rul.er, List.getD_eq_getElem?_getD, this]
theorem checkRule_er (l : List Prd) (r : Rul) : checkRule l r.er = checkRule l r := by
  have h1 : r.er.head = r.head.er := rfl
  have h2 : r.er.body.xs = r.body.xs.map Ltl.er := rfl
  have h3 : r.er.src = r.src := rfl
  have h4 : r.er.n = r.n := rfl
  have h5 : r.head.er.pred = r.head.pred := rfl
  unfold checkRule
  rw [h1, h2, h3, h4, h5, checkAtom_er, bodyErr_er, freeVar_er, freeVar_er, freeVar_er, List.length_map]
  by_cases c : r.src < -1 ∨ (r.body.xs.length : Int) ≤ r.src
  · simp only [if_pos c]
  · by_cases h0 : 0 ≤ r.src
    · rw [litOf_er h0 (by omega)]; rfl
    · have e : ∀ p : Prop, (0 ≤ r.src ∧ p) ↔ False := fun p => ⟨fun h => h0 h.1, False.elim⟩
      simp only [e]

/-- A piece of a slice. -/
def Sl.cut {α : Type} (s : Sl α) (k l h : Nat) : Sl α := ⟨some (if s.cap = l then ⟨s.blk, s.off, none⟩ else ⟨s.blk, s.off + l * k, none⟩), s.cap - l, (s.xs.take h).drop l⟩
theorem Sl.In.cut {α : Type} {s : Sl α} {k : Nat} {enc : α → List Value} {h : Heap} (hs : s.In k enc h) {l hi : Nat} (hc : s.xs.length ≤ s.cap) : (s.cut k l hi).In k enc h := fun i x hx => by
  simp only [Sl.cut, List.getElem?_drop, List.getElem?_take] at hx
  split at hx
  · have h1 := hs _ _ hx
    have h2 := (List.getElem?_eq_some_iff.1 hx).1
    have hne : s.cap ≠ l := by omega
    refine ⟨by simp [Sl.cut, hne, Sl.blk, Sl.off], ?_⟩
    have e1 : (s.cut k l hi).blk = s.blk := by simp [Sl.cut, hne, Sl.blk]
    have e2 : (s.cut k l hi).off = s.off + l * k := by
      have : (s.cut k l hi).off = ((if s.cap = l then (⟨s.blk, s.off, none⟩ : Addr) else ⟨s.blk, s.off + l * k, none⟩)).off := rfl
      rw [this, if_neg hne]
    rw [e1, e2, show s.off + l * k + i * k = s.off + (l + i) * k by rw [Nat.add_mul]; omega]
    exact h1.2
  · cases hx
theorem Sl.Is.cut {α : Type} {s : Sl α} {k : Nat} {enc : α → List Value} {h : Heap} (hs : s.Is k enc h) {l hi : Nat} (hc : s.xs.length ≤ s.cap) : (s.cut k l hi).Is k enc h :=
  ⟨hs.el.cut hc, by have := hs.small; simp only [Sl.cut, List.length_drop, List.length_take]; omega⟩
theorem Y.cut {P : Program} {e : Env} {w : World} {d : Option Nat} {t : TypeId} {pos : String} {af : Array Edge} {g : Option (Nat × Bool)} {α : Type} {s : Sl α} {x : Operand} {T el ks : TypeId} {lo hi : Option Operand} {l h : Nat} (hT : Und P T (.slice el)) (hk : ∀ w, (sizeOf el).run P w = .ok ks w)
    (ha : s.at_ = some ⟨s.blk, s.off, none⟩) (hc : s.xs.length ≤ s.cap) (hx : ev e x = s.val)
    (hl : lo = none ∧ l = 0 ∨ ∃ q k, lo = some q ∧ ev e q = .int k (l : Int)) (hh : hi = none ∧ h = s.xs.length ∨ ∃ q k, hi = some q ∧ ev e q = .int k (h : Int)) (h1 : l ≤ h) (h2 : h ≤ s.xs.length) :
    Y P ⟨d, .slice T x lo hi none, t, pos, af, g⟩ e w (s.cut ks l h).val := by
  have hx' : ev e x = .slice (some ⟨s.blk, s.off, none⟩) s.xs.length s.cap := by rw [hx, Sl.val, ha]
  refine (Y.slicesl hT hk hx' hl hh h1 (by omega)).is ?_
  simp only [Sl.cut, Sl.val, List.length_drop, List.length_take]
  rw [Nat.min_eq_left h2]

/-! ### What regions that draw their order yield -/
def SlS {α : Type} (k : Nat) (enc : α → List Value) (xs : List α) : Sp := fun u h => ∃ s : Sl α, u = s.val ∧ s.xs = xs ∧ s.Is k enc h
theorem SlS.mono {α : Type} {k : Nat} {enc : α → List Value} {xs : List α} : MonoS (SlS k enc xs) := fun _ _ _ hl ⟨s, a, b, c⟩ => ⟨s, a, b, c.le hl⟩
def AtmS (p : Int) (xs : List Trm) : Sp := fun u h => ∃ a : Atm, u = a.val ∧ a.er = ⟨p, ⟨none, 0, xs⟩⟩ ∧ a.In h
theorem AtmS.mono {p : Int} {xs : List Trm} : MonoS (AtmS p xs) := fun _ _ _ hl ⟨s, a, b, c⟩ => ⟨s, a, b, c.le hl⟩
theorem nilIs {α : Type} {k : Nat} {enc : α → List Value} {h : Heap} : (⟨none, 0, []⟩ : Sl α).Is k enc h := ⟨fun i x hx => by simp at hx, by simp⟩

/-! ### The roads -/
def aT (p : Int) (l : List Trm) : Atm := ⟨p, ⟨none, 0, l⟩⟩
@[reducible] def tV (n : Int) : Trm := ⟨true, n⟩
@[reducible] def tC (n : Int) : Trm := ⟨false, n⟩
def bEdge : ByteArray := ⟨#[101, 100, 103, 101]⟩
def bFar : ByteArray := ⟨#[102, 97, 114]⟩
def bLone : ByteArray := ⟨#[108, 111, 110, 101]⟩
def rT (h : Atm) (src n : Int) (b : List Ltl) : Rul := ⟨h, src, n, ⟨none, 0, b⟩⟩
def roadsC : Prg := ⟨⟨none, 0, [⟨bEdge, 2, 0⟩, ⟨bFar, 2, 2⟩, ⟨bLone, 1, 0⟩]⟩, ⟨none, 0, [
  rT (aT 0 [tC 0, tC 1]) (-1) 0 [], rT (aT 0 [tC 1, tC 2]) (-1) 0 [], rT (aT 0 [tC 2, tC 0]) (-1) 0 [], rT (aT 0 [tC 3, tC 0]) (-1) 0 [],
  rT (aT 1 [tV 0, tV 1]) (-1) 1 [⟨false, aT 0 [tV 0, tV 1]⟩],
  rT (aT 1 [tV 0, tV 2]) 0 1 [⟨false, aT 1 [tV 0, tV 1]⟩, ⟨false, aT 0 [tV 1, tV 2]⟩],
  rT (aT 2 [tV 0]) (-1) 0 [⟨false, aT 0 [tV 0, tV 1]⟩, ⟨true, aT 1 [tV 0, tV 0]⟩]]⟩⟩
structure RoadsAt (p : Prg) (h : Heap) : Prop where
  is : p.In h
  er : p.er = roadsC
  cap : ∀ x ∈ p.rules.xs, x.body.xs.length ≤ x.body.cap
end Go.TF
