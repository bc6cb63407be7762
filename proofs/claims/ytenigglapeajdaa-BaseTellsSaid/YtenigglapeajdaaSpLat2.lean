/- Values in plain Lean: joining is commutative, associative, idempotent; what is below is below, lifted too. -/
import Derived.Test.YtenigglapeajdaaSpLat
namespace Go.TF
open Go

abbrev VOk (kind v : Int) : Prop := checkVal kind v = 0
theorem vOk_iff {kind v : Int} : VOk kind v ↔ 0 ≤ kind ∧ kind ≤ 3 ∧ 0 ≤ v ∧ v ≤ 15 ∧ (kind = 0 → v = 0) := by
  unfold VOk checkVal; (repeat' split) <;> omega
theorem bothV_iff {kind a b : Int} : bothV kind a b = 0 ↔ VOk kind a ∧ VOk kind b := by
  unfold bothV; split <;> constructor <;> intro h <;> simp_all [VOk]
theorem orI_all : ∀ x, x < 16 → ∀ y, y < 16 → orI (x : Nat) (y : Nat) = ((x ||| y : Nat) : Int) ∧ x ||| y < 16 := by decide +kernel
theorem orI_nat {x y : Nat} (hx : x < 16) (hy : y < 16) : orI x y = ((x ||| y : Nat) : Int) := (orI_all x hx y hy).1
theorem toNat16 {a : Int} (h : 0 ≤ a ∧ a ≤ 15) : ∃ x : Nat, a = x ∧ x < 16 := ⟨a.toNat, by omega, by omega⟩
theorem joinV_ok {k a b : Int} (ha : VOk k a) (hb : VOk k b) : VOk k (joinV k a b) := by
  rw [vOk_iff] at *
  obtain ⟨h1, h2, h3, h4, h5⟩ := ha; obtain ⟨_, _, h6, h7, h8⟩ := hb
  obtain ⟨x, rfl, hx⟩ := toNat16 ⟨h3, h4⟩; obtain ⟨y, rfl, hy⟩ := toNat16 ⟨h6, h7⟩
  have ho := orI_all x hx y hy
  unfold joinV
  refine ⟨h1, h2, ?_, ?_, ?_⟩ <;> (repeat' split) <;> (try rw [ho.1]) <;> omega
theorem liftV_ok {k a b : Int} (ha : VOk k a) (hb : VOk k b) : VOk k (liftV k a b) := by
  rw [vOk_iff] at *
  obtain ⟨h1, h2, h3, h4, h5⟩ := ha; obtain ⟨_, _, h6, h7, h8⟩ := hb
  obtain ⟨x, rfl, hx⟩ := toNat16 ⟨h3, h4⟩; obtain ⟨y, rfl, hy⟩ := toNat16 ⟨h6, h7⟩
  have ho := orI_all x hx y hy
  unfold liftV
  refine ⟨h1, h2, ?_, ?_, ?_⟩ <;> (repeat' split) <;> (try rw [ho.1]) <;> omega
theorem joinV_comm {k a b : Int} (ha : VOk k a) (hb : VOk k b) : joinV k a b = joinV k b a := by
  rw [vOk_iff] at *
  obtain ⟨h1, h2, h3, h4, h5⟩ := ha; obtain ⟨_, _, h6, h7, h8⟩ := hb
  obtain ⟨x, rfl, hx⟩ := toNat16 ⟨h3, h4⟩; obtain ⟨y, rfl, hy⟩ := toNat16 ⟨h6, h7⟩
  unfold joinV
  rw [orI_nat hx hy, orI_nat hy hx, Nat.or_comm]
  (repeat' split) <;> omega
theorem joinV_assoc {k a b c : Int} (ha : VOk k a) (hb : VOk k b) (hc : VOk k c) : joinV k (joinV k a b) c = joinV k a (joinV k b c) := by
  rw [vOk_iff] at *
  obtain ⟨h1, h2, h3, h4, h5⟩ := ha; obtain ⟨_, _, h6, h7, h8⟩ := hb; obtain ⟨_, _, h9, h10, h11⟩ := hc
  obtain ⟨x, rfl, hx⟩ := toNat16 ⟨h3, h4⟩; obtain ⟨y, rfl, hy⟩ := toNat16 ⟨h6, h7⟩; obtain ⟨z, rfl, hz⟩ := toNat16 ⟨h9, h10⟩
  have h12 := orI_all x hx y hy; have h13 := orI_all y hy z hz
  unfold joinV
  by_cases k1 : k = 1
  · simp [k1, Int.max_assoc]
  by_cases k2 : k = 2
  · simp [k2, Int.min_assoc]
  by_cases k3 : k = 3
  · simp only [k3]; simp [h12.1, h13.1, orI_nat h12.2 hz, orI_nat hx h13.2, Nat.or_assoc]
  · simp [k1, k2, k3]
theorem joinV_idem {k a : Int} (ha : VOk k a) : joinV k a a = a := by
  rw [vOk_iff] at *
  obtain ⟨h1, h2, h3, h4, h5⟩ := ha
  obtain ⟨x, rfl, hx⟩ := toNat16 ⟨h3, h4⟩
  unfold joinV
  rw [orI_nat hx hx, Nat.or_self]
  (repeat' split) <;> omega
/-- Not above. -/
abbrev LeV (k a b : Int) : Prop := joinV k a b = b
theorem leV_up {k a b : Int} (ha : VOk k a) (hb : VOk k b) : LeV k a (joinV k a b) := by unfold LeV; rw [← joinV_assoc ha ha hb, joinV_idem ha]
theorem leV_trans {k a b c : Int} (ha : VOk k a) (hb : VOk k b) (hc : VOk k c) (h1 : LeV k a b) (h2 : LeV k b c) : LeV k a c := by
  unfold LeV at *
  have : joinV k a (joinV k b c) = joinV k b c := by rw [← joinV_assoc ha hb hc, h1]
  rwa [h2] at this
theorem leV_antisymm {k a b : Int} (ha : VOk k a) (hb : VOk k b) (h1 : LeV k a b) (h2 : LeV k b a) : a = b := by
  unfold LeV at *; rw [joinV_comm hb ha] at h2; exact h2.symm.trans h1
theorem leV_join_iff {k a b c : Int} (ha : VOk k a) (hb : VOk k b) (hc : VOk k c) : LeV k (joinV k a b) c ↔ LeV k a c ∧ LeV k b c := by
  constructor
  · intro h
    refine ⟨leV_trans ha (joinV_ok ha hb) hc (leV_up ha hb) h, leV_trans hb (joinV_ok ha hb) hc ?_ h⟩
    rw [joinV_comm ha hb]; exact leV_up hb ha
  · rintro ⟨h1, h2⟩
    unfold LeV at *
    rw [joinV_assoc ha hb hc, h2, h1]
theorem leV_lift {k a b n : Int} (ha : VOk k a) (hb : VOk k b) (hn : VOk k n) (h : LeV k a b) : LeV k (liftV k a n) (liftV k b n) := by
  by_cases k3 : k = 3
  · subst k3
    have e : ∀ x : Int, liftV 3 x n = joinV 3 x n := fun x => by simp [liftV, joinV]
    have ja := joinV_ok ha hn; have jb := joinV_ok hb hn
    simp only [LeV, e] at *
    have := (leV_join_iff ha hn jb).2 ⟨leV_trans ha hb jb h (leV_up hb hn), by rw [joinV_comm hb hn]; exact leV_up hn hb⟩
    exact this
  · rw [vOk_iff] at *
    unfold LeV joinV liftV at *
    (repeat' split) <;> (repeat' split at h) <;> omega
theorem liftV_zero {k a : Int} (ha : VOk k a) : liftV k a 0 = a := by
  rw [vOk_iff] at *
  obtain ⟨h1, h2, h3, h4, h5⟩ := ha
  obtain ⟨x, rfl, hx⟩ := toNat16 ⟨h3, h4⟩
  unfold liftV
  have := orI_nat hx (show 0 < 16 by decide)
  simp only [Nat.or_zero] at this
  have h0 : orI (x : Int) 0 = x := this
  rw [h0]
  (repeat' split) <;> omega
theorem joinOf_eq {k a b : Int} (ha : VOk k a) (hb : VOk k b) : joinOf k a b = (joinV k a b, 0) := by simp [joinOf, bothV_iff.2 ⟨ha, hb⟩]
theorem liftOf_eq {k a b : Int} (ha : VOk k a) (hb : VOk k b) : liftOf k a b = (liftV k a b, 0) := by simp [liftOf, bothV_iff.2 ⟨ha, hb⟩]
theorem leqOf_eq {k a b : Int} (ha : VOk k a) (hb : VOk k b) : leqOf k a b = (decide (LeV k a b), 0) := by simp [leqOf, bothV_iff.2 ⟨ha, hb⟩, LeV]
theorem joinOf_ok {k a b : Int} (h : (joinOf k a b).2 = 0) : VOk k a ∧ VOk k b := by unfold joinOf at h; rw [← bothV_iff]; split at h <;> simp_all
theorem liftOf_ok {k a b : Int} (h : (liftOf k a b).2 = 0) : VOk k a ∧ VOk k b := by unfold liftOf at h; rw [← bothV_iff]; split at h <;> simp_all
theorem leqOf_ok {k a b : Int} (h : (leqOf k a b).2 = 0) : VOk k a ∧ VOk k b := by unfold leqOf at h; rw [← bothV_iff]; split at h <;> simp_all
end Go.TF
