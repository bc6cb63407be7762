/- Texts Fir3 Fir4 Fir5 Fir6 Fir7 Fir8 Fir9 Fir10 Rnd1 Rnd2 Rnd3 Rnd4 Open RndLaw SpNaive2 RndLaw2 SpSub Nai1. -/
import Derived.Test.YtljkkojkfddpeaaGreatDoorU8
import Derived.Shelf.SlSortCmp.NoneTotal
import Derived.ChangeKeysEq
import Derived.Test.YtljkkojkfddpeaaGreatDoorU6
import Derived.Test.YtljkkojkfddpeaaGreatDoorU7
import Derived.Test.YtljkkojkfddpeaaGreatDoorU2
import Derived.Test.YtljkkojkfddpeaaGreatDoorU3
import Derived.Deep.Slices
import Derived.SizedLaws
import Derived.OpenShut
import Derived.ChangeArms
import Derived.Test.YtljkkojkfddpeaaGreatDoorU4
section
/- Steps compared, sorted. -/
namespace Go.TF
open Go Go.RowKit Go.Proofs
set_option maxRecDepth 20000

/-! ### In exactly this world -/
theorem isNaN_x (a : Int) (w : World) : Calls Tryz.prog 197 [.int .i64 a].toArray w (fun ed w' => ed = .returned (.bool false) ∧ w' = w) := by
  refine Calls.ofWP (args := [.int .i64 a]) Tryz.func197 rfl Tryz.ntmps197 (by kernel_rfl) (by simp) ?_
  intro e
  refine WP.seq ?_
  refine WP.region ?_
  refine Ops.y (v := .bool _) (Y.assign rfl) ?_
  refine Ops.nil ?_
  refine WP.seq ?_
  refine WP.region ?_
  refine Ops.y (v := .int .i64 _) (Y.move rfl) ?_
  refine Ops.y (v := .int .i64 _) (Y.move rfl) ?_
  refine Ops.y (v := .bool (decide _)) (Y.nei rfl rfl) ?_
  refine Ops.y (v := .bool _) (Y.assign rfl) ?_
  refine Ops.nil ?_
  refine WP.ret ?_
  repeat (first | refine thenE_ret ?_ | refine blockE_ret ?_)
  exact ⟨.inl rfl, [.bool _], ⟨rfl, trivial⟩, by simp [tup], rfl⟩
theorem Compare_x (a b : Int) (w : World) : Calls Tryz.prog 158 [.int .i64 a, .int .i64 b].toArray w (fun ed w' => ed = .returned (.int .i64 (cmpI a b)) ∧ w' = w) := by
  refine Calls.ofWP (args := [.int .i64 a, .int .i64 b]) Tryz.func158 rfl Tryz.ntmps158 (by kernel_rfl) (by simp) ?_
  intro e
  refine WP.seq ?_
  refine WP.region ?_
  refine Ops.y (v := .int .i64 _) (Y.assign rfl) ?_
  refine Ops.nil ?_
  refine WP.seq ?_
  refine WP.region ?_
  refine Ops.y (v := .int .i64 _) (Y.move rfl) ?_
  refine Ops.go (O.calls Tryz.call197 (isNaN_x a w) rfl ?_)
  rintro ed w' ⟨rfl, rfl⟩
  refine ⟨_, rfl, ?_⟩
  refine Ops.y (v := .bool _) (Y.assign rfl) ?_
  refine Ops.nil ?_
  refine WP.seq ?_
  refine WP.region ?_
  refine Ops.y (v := .int .i64 _) (Y.move rfl) ?_
  refine Ops.go (O.calls Tryz.call197 (isNaN_x b _) rfl ?_)
  rintro ed w' ⟨rfl, rfl⟩
  refine ⟨_, rfl, ?_⟩
  refine Ops.y (v := .bool _) (Y.assign rfl) ?_
  refine Ops.nil ?_
  refine WP.seq ?_
  refine WP.seq ?_
  refine WP.region ?_
  refine Ops.y (v := .bool _) (Y.move rfl) ?_
  refine Ops.nil ?_
  refine WP.cond_f rfl ?_
  refine WP.skip ?_
  refine WP.seq ?_
  refine WP.seq ?_
  refine WP.region ?_
  refine Ops.y (v := .bool _) (Y.move rfl) ?_
  refine Ops.nil ?_
  refine WP.cond_f rfl ?_
  refine WP.skip ?_
  refine WP.seq ?_
  refine WP.seq ?_
  refine WP.region ?_
  refine Ops.y (v := .int .i64 _) (Y.move rfl) ?_
  refine Ops.y (v := .int .i64 _) (Y.move rfl) ?_
  refine Ops.y (v := .bool (decide _)) (Y.lti rfl rfl) ?_
  refine Ops.nil ?_
  refine WP.cond_dec rfl (fun h1 => ?_) (fun h1 => ?_)
  · refine WP.seq ?_
    refine WP.region ?_
    refine Ops.y (v := .int .i64 _) (Y.assign rfl) ?_
    refine Ops.nil ?_
    refine WP.ret ?_
    repeat (first | refine thenE_ret ?_ | refine blockE_ret ?_)
    exact ⟨.inl rfl, [.int .i64 (-1)], ⟨rfl, trivial⟩, by simp only [tup, cmpI]; rw [if_pos h1], rfl⟩
  refine WP.skip ?_
  refine WP.seq ?_
  refine WP.seq ?_
  refine WP.region ?_
  refine Ops.y (v := .int .i64 _) (Y.move rfl) ?_
  refine Ops.y (v := .int .i64 _) (Y.move rfl) ?_
  refine Ops.y (v := .bool (decide _)) (Y.gti rfl rfl) ?_
  refine Ops.nil ?_
  refine WP.cond_dec rfl (fun h2 => ?_) (fun h2 => ?_)
  · refine WP.seq ?_
    refine WP.region ?_
    refine Ops.y (v := .int .i64 _) (Y.assign rfl) ?_
    refine Ops.nil ?_
    refine WP.ret ?_
    repeat (first | refine thenE_ret ?_ | refine blockE_ret ?_)
    exact ⟨.inl rfl, [.int .i64 1], ⟨rfl, trivial⟩, by simp only [tup, cmpI]; rw [if_neg h1, if_pos h2], rfl⟩
  refine WP.skip ?_
  refine WP.seq ?_
  refine WP.region ?_
  refine Ops.y (v := .int .i64 _) (Y.assign rfl) ?_
  refine Ops.nil ?_
  refine WP.ret ?_
  repeat (first | refine thenE_ret ?_ | refine blockE_ret ?_)
  exact ⟨.inl rfl, [.int .i64 0], ⟨rfl, trivial⟩, by simp only [tup, cmpI]; rw [if_neg h1, if_neg h2], rfl⟩
def cmpV (x y : Vrs) : Int := if cmpI x.x0 y.x0 ≠ 0 then cmpI x.x0 y.x0 else if cmpI x.x1 y.x1 ≠ 0 then cmpI x.x1 y.x1 else cmpI x.x2 y.x2
theorem cmpI_zero {a b : Int} : cmpI a b = 0 ↔ a = b := by unfold cmpI; (repeat' split) <;> omega
theorem cmpI_neg {a b : Int} : cmpI a b < 0 ↔ a < b := by unfold cmpI; (repeat' split) <;> omega
theorem cmpV_neg {x y : Vrs} : cmpV x y < 0 ↔ ltV x y := by
  unfold cmpV ltV
  have h0 := cmpI_neg (a := x.x0) (b := y.x0); have h1 := cmpI_neg (a := x.x1) (b := y.x1); have h2 := cmpI_neg (a := x.x2) (b := y.x2)
  have z0 := cmpI_zero (a := x.x0) (b := y.x0); have z1 := cmpI_zero (a := x.x1) (b := y.x1)
  split
  · omega
  · split <;> omega
theorem SCompare_x (x y : Vrs) (b1 b2 o1 o2 : Nat) (w : World) (h1 : Rd w b1 o1 x.enc) (h2 : Rd w b2 o2 y.enc) :
    Calls Tryz.prog 217 [.slice (some ⟨b1, o1, none⟩) (3 : Nat) (3 : Nat), .slice (some ⟨b2, o2, none⟩) (3 : Nat) (3 : Nat)].toArray w (fun ed w' => ed = .returned (.int .i64 (cmpV x y)) ∧ w' = w) := by
  refine Calls.ofWP (args := [.slice (some ⟨b1, o1, none⟩) (3 : Nat) (3 : Nat), .slice (some ⟨b2, o2, none⟩) (3 : Nat) (3 : Nat)]) Tryz.func217 rfl Tryz.ntmps217 (by kernel_rfl) (by simp) ?_
  intro e
  refine WP.seq ?_
  refine WP.region ?_
  refine Ops.y (v := .int .i64 _) (Y.assign rfl) ?_
  refine Ops.nil ?_
  refine WP.seq ?_
  refine WP.seq ?_
  refine WP.region ?_
  refine Ops.y (v := .slice _ _ _) (Y.move rfl) ?_
  refine Ops.y (v := .int .i64 _) (Y.lens Tryz.underlying78 rfl) ?_
  refine Ops.y (v := .int .i64 _) (Y.move rfl) ?_
  refine Ops.nil ?_
  refine WP.block ?_
  refine WP.loopE (σ := Nat) (fun k => [(0, .slice (some ⟨b1, o1, none⟩) (3 : Nat) (3 : Nat)), (1, .slice (some ⟨b2, o2, none⟩) (3 : Nat) (3 : Nat)), (9, .slice (some ⟨b1, o1, none⟩) (3 : Nat) (3 : Nat)), (10, .int .i64 (3 : Nat)), (11, .int .i64 k)]) (fun k w' => w' = w ∧ k ≤ 3 ∧ (0 < k → cmpI x.x0 y.x0 = 0) ∧ (1 < k → cmpI x.x1 y.x1 = 0) ∧ (2 < k → cmpI x.x2 y.x2 = 0)) (fun k => 3 - k)
    ⟨0, ⟨rfl, rfl, rfl, rfl, rfl, trivial⟩, rfl, Nat.zero_le _, fun h => by omega, fun h => by omega, fun h => by omega⟩ ?_
  rintro k e w' ⟨rfl, hk, g0, g1, g2⟩
  refine WP.seq ?_
  refine WP.region ?_
  refine Ops.y (v := .bool (decide _)) (Y.lti rfl rfl) ?_
  refine Ops.nil ?_
  refine WP.seq ?_
  refine WP.cond_dec rfl (fun h => ?_) (fun h => ?_)
  · have hk3 : k = 0 ∨ k = 1 ∨ k = 2 := by omega
    rcases hk3 with rfl | rfl | rfl
    · refine WP.skip ?_
      refine WP.seq ?_
      refine WP.block ?_
      refine WP.seq ?_
      refine WP.region ?_
      refine Ops.y (v := .int .i64 _) (Y.move rfl) ?_
      refine Ops.y (v := .pointer (some ⟨_, _, none⟩)) (Y.idx Tryz.underlying78 Tryz.sizeOf3 rfl rfl (by omega) (by omega)) ?_
      refine Ops.y (v := .int .i64 _) (Y.loadv ty_3 rfl (h1.one (i := 0) (x := .int .i64 x.x0) rfl) rfl rfl) ?_
      refine Ops.y (v := .int .i64 _) (Y.assign rfl) ?_
      refine Ops.y (v := .int .i64 _) (Y.assign rfl) ?_
      refine Ops.nil ?_
      refine WP.seq ?_
      refine WP.seq ?_
      refine WP.region ?_
      refine Ops.y (v := .int .i64 _) (Y.move rfl) ?_
      refine Ops.y (v := .slice _ _ _) (Y.move rfl) ?_
      refine Ops.y (v := .int .i64 _) (Y.lens Tryz.underlying78 rfl) ?_
      refine Ops.y (v := .bool (decide _)) (Y.gei rfl rfl) ?_
      refine Ops.nil ?_
      refine WP.cond_decF rfl ((by omega)) ?_
      refine WP.skip ?_
      refine WP.seq ?_
      refine WP.region ?_
      refine Ops.y (v := .slice _ _ _) (Y.move rfl) ?_
      refine Ops.y (v := .int .i64 _) (Y.move rfl) ?_
      refine Ops.y (v := .pointer (some ⟨_, _, none⟩)) (Y.idx Tryz.underlying78 Tryz.sizeOf3 rfl rfl (by omega) (by omega)) ?_
      refine Ops.y (v := .int .i64 _) (Y.loadv ty_3 rfl (h2.one (i := 0) (x := .int .i64 y.x0) rfl) rfl rfl) ?_
      refine Ops.y (v := .int .i64 _) (Y.assign rfl) ?_
      refine Ops.nil ?_
      refine WP.seq ?_
      refine WP.region ?_
      refine Ops.y (v := .int .i64 _) (Y.move rfl) ?_
      refine Ops.y (v := .int .i64 _) (Y.move rfl) ?_
      refine Ops.go (O.calls Tryz.call158 (Compare_x x.x0 y.x0 _) rfl ?_)
      rintro ed w' ⟨rfl, rfl⟩
      refine ⟨_, rfl, ?_⟩
      refine Ops.y (v := .int .i64 _) (Y.assign rfl) ?_
      refine Ops.nil ?_
      refine WP.seq ?_
      refine WP.region ?_
      refine Ops.y (v := .int .i64 _) (Y.move rfl) ?_
      refine Ops.y (v := .bool (decide _)) (Y.nei rfl rfl) ?_
      refine Ops.nil ?_
      refine WP.cond_dec rfl (fun h8 => ?_) (fun h8 => ?_)
      · refine WP.seq ?_
        refine WP.region ?_
        refine Ops.y (v := .int .i64 _) (Y.move rfl) ?_
        refine Ops.y (v := .int .i64 _) (Y.assign rfl) ?_
        refine Ops.nil ?_
        refine WP.ret ?_
        repeat (first | refine thenE_ret ?_ | refine blockE_ret ?_)
        refine ⟨.inl rfl, [.int .i64 (cmpI x.x0 y.x0)], ⟨rfl, trivial⟩, ?_, rfl⟩
        simp only [tup, cmpV]
        simp_all
      · refine WP.skip ?_
        refine WP.region ?_
        refine Ops.y (v := .int .i64 _) (Y.addi rfl rfl ⟨by omega, by omega⟩) ?_
        refine Ops.y (v := .int .i64 _) (Y.move rfl) ?_
        refine Ops.nil ?_
        exact ⟨1, ⟨⟨rfl, rfl, rfl, rfl, rfl, trivial⟩, rfl, by omega, fun h => by first | omega | exact Decidable.not_not.1 h8 | exact g0 (by omega), fun h => by first | omega | exact Decidable.not_not.1 h8 | exact g1 (by omega), fun h => by first | omega | exact Decidable.not_not.1 h8⟩, by omega⟩
    · refine WP.skip ?_
      refine WP.seq ?_
      refine WP.block ?_
      refine WP.seq ?_
      refine WP.region ?_
      refine Ops.y (v := .int .i64 _) (Y.move rfl) ?_
      refine Ops.y (v := .pointer (some ⟨_, _, none⟩)) (Y.idx Tryz.underlying78 Tryz.sizeOf3 rfl rfl (by omega) (by omega)) ?_
      refine Ops.y (v := .int .i64 _) (Y.loadv ty_3 rfl (h1.one (i := 1) (x := .int .i64 x.x1) rfl) rfl rfl) ?_
      refine Ops.y (v := .int .i64 _) (Y.assign rfl) ?_
      refine Ops.y (v := .int .i64 _) (Y.assign rfl) ?_
      refine Ops.nil ?_
      refine WP.seq ?_
      refine WP.seq ?_
      refine WP.region ?_
      refine Ops.y (v := .int .i64 _) (Y.move rfl) ?_
      refine Ops.y (v := .slice _ _ _) (Y.move rfl) ?_
      refine Ops.y (v := .int .i64 _) (Y.lens Tryz.underlying78 rfl) ?_
      refine Ops.y (v := .bool (decide _)) (Y.gei rfl rfl) ?_
      refine Ops.nil ?_
      refine WP.cond_decF rfl ((by omega)) ?_
      refine WP.skip ?_
      refine WP.seq ?_
      refine WP.region ?_
      refine Ops.y (v := .slice _ _ _) (Y.move rfl) ?_
      refine Ops.y (v := .int .i64 _) (Y.move rfl) ?_
      refine Ops.y (v := .pointer (some ⟨_, _, none⟩)) (Y.idx Tryz.underlying78 Tryz.sizeOf3 rfl rfl (by omega) (by omega)) ?_
      refine Ops.y (v := .int .i64 _) (Y.loadv ty_3 rfl (h2.one (i := 1) (x := .int .i64 y.x1) rfl) rfl rfl) ?_
      refine Ops.y (v := .int .i64 _) (Y.assign rfl) ?_
      refine Ops.nil ?_
      refine WP.seq ?_
      refine WP.region ?_
      refine Ops.y (v := .int .i64 _) (Y.move rfl) ?_
      refine Ops.y (v := .int .i64 _) (Y.move rfl) ?_
      refine Ops.go (O.calls Tryz.call158 (Compare_x x.x1 y.x1 _) rfl ?_)
      rintro ed w' ⟨rfl, rfl⟩
      refine ⟨_, rfl, ?_⟩
      refine Ops.y (v := .int .i64 _) (Y.assign rfl) ?_
      refine Ops.nil ?_
      refine WP.seq ?_
      refine WP.region ?_
      refine Ops.y (v := .int .i64 _) (Y.move rfl) ?_
      refine Ops.y (v := .bool (decide _)) (Y.nei rfl rfl) ?_
      refine Ops.nil ?_
      refine WP.cond_dec rfl (fun h8 => ?_) (fun h8 => ?_)
      · refine WP.seq ?_
        refine WP.region ?_
        refine Ops.y (v := .int .i64 _) (Y.move rfl) ?_
        refine Ops.y (v := .int .i64 _) (Y.assign rfl) ?_
        refine Ops.nil ?_
        refine WP.ret ?_
        repeat (first | refine thenE_ret ?_ | refine blockE_ret ?_)
        refine ⟨.inl rfl, [.int .i64 (cmpI x.x1 y.x1)], ⟨rfl, trivial⟩, ?_, rfl⟩
        simp only [tup, cmpV]
        simp_all
      · refine WP.skip ?_
        refine WP.region ?_
        refine Ops.y (v := .int .i64 _) (Y.addi rfl rfl ⟨by omega, by omega⟩) ?_
        refine Ops.y (v := .int .i64 _) (Y.move rfl) ?_
        refine Ops.nil ?_
        exact ⟨2, ⟨⟨rfl, rfl, rfl, rfl, rfl, trivial⟩, rfl, by omega, fun h => by first | omega | exact Decidable.not_not.1 h8 | exact g0 (by omega), fun h => by first | omega | exact Decidable.not_not.1 h8 | exact g1 (by omega), fun h => by first | omega | exact Decidable.not_not.1 h8⟩, by omega⟩
    · refine WP.skip ?_
      refine WP.seq ?_
      refine WP.block ?_
      refine WP.seq ?_
      refine WP.region ?_
      refine Ops.y (v := .int .i64 _) (Y.move rfl) ?_
      refine Ops.y (v := .pointer (some ⟨_, _, none⟩)) (Y.idx Tryz.underlying78 Tryz.sizeOf3 rfl rfl (by omega) (by omega)) ?_
      refine Ops.y (v := .int .i64 _) (Y.loadv ty_3 rfl (h1.one (i := 2) (x := .int .i64 x.x2) rfl) rfl rfl) ?_
      refine Ops.y (v := .int .i64 _) (Y.assign rfl) ?_
      refine Ops.y (v := .int .i64 _) (Y.assign rfl) ?_
      refine Ops.nil ?_
      refine WP.seq ?_
      refine WP.seq ?_
      refine WP.region ?_
      refine Ops.y (v := .int .i64 _) (Y.move rfl) ?_
      refine Ops.y (v := .slice _ _ _) (Y.move rfl) ?_
      refine Ops.y (v := .int .i64 _) (Y.lens Tryz.underlying78 rfl) ?_
      refine Ops.y (v := .bool (decide _)) (Y.gei rfl rfl) ?_
      refine Ops.nil ?_
      refine WP.cond_decF rfl ((by omega)) ?_
      refine WP.skip ?_
      refine WP.seq ?_
      refine WP.region ?_
      refine Ops.y (v := .slice _ _ _) (Y.move rfl) ?_
      refine Ops.y (v := .int .i64 _) (Y.move rfl) ?_
      refine Ops.y (v := .pointer (some ⟨_, _, none⟩)) (Y.idx Tryz.underlying78 Tryz.sizeOf3 rfl rfl (by omega) (by omega)) ?_
      refine Ops.y (v := .int .i64 _) (Y.loadv ty_3 rfl (h2.one (i := 2) (x := .int .i64 y.x2) rfl) rfl rfl) ?_
      refine Ops.y (v := .int .i64 _) (Y.assign rfl) ?_
      refine Ops.nil ?_
      refine WP.seq ?_
      refine WP.region ?_
      refine Ops.y (v := .int .i64 _) (Y.move rfl) ?_
      refine Ops.y (v := .int .i64 _) (Y.move rfl) ?_
      refine Ops.go (O.calls Tryz.call158 (Compare_x x.x2 y.x2 _) rfl ?_)
      rintro ed w' ⟨rfl, rfl⟩
      refine ⟨_, rfl, ?_⟩
      refine Ops.y (v := .int .i64 _) (Y.assign rfl) ?_
      refine Ops.nil ?_
      refine WP.seq ?_
      refine WP.region ?_
      refine Ops.y (v := .int .i64 _) (Y.move rfl) ?_
      refine Ops.y (v := .bool (decide _)) (Y.nei rfl rfl) ?_
      refine Ops.nil ?_
      refine WP.cond_dec rfl (fun h8 => ?_) (fun h8 => ?_)
      · refine WP.seq ?_
        refine WP.region ?_
        refine Ops.y (v := .int .i64 _) (Y.move rfl) ?_
        refine Ops.y (v := .int .i64 _) (Y.assign rfl) ?_
        refine Ops.nil ?_
        refine WP.ret ?_
        repeat (first | refine thenE_ret ?_ | refine blockE_ret ?_)
        refine ⟨.inl rfl, [.int .i64 (cmpI x.x2 y.x2)], ⟨rfl, trivial⟩, ?_, rfl⟩
        simp only [tup, cmpV]
        simp_all
      · refine WP.skip ?_
        refine WP.region ?_
        refine Ops.y (v := .int .i64 _) (Y.addi rfl rfl ⟨by omega, by omega⟩) ?_
        refine Ops.y (v := .int .i64 _) (Y.move rfl) ?_
        refine Ops.nil ?_
        exact ⟨3, ⟨⟨rfl, rfl, rfl, rfl, rfl, trivial⟩, rfl, by omega, fun h => by first | omega | exact Decidable.not_not.1 h8 | exact g0 (by omega), fun h => by first | omega | exact Decidable.not_not.1 h8 | exact g1 (by omega), fun h => by first | omega | exact Decidable.not_not.1 h8⟩, by omega⟩
  obtain rfl : k = 3 := by omega
  refine WP.exit ?_
  refine WP.seq ?_
  refine WP.seq ?_
  refine WP.region ?_
  refine Ops.y (v := .slice _ _ _) (Y.move rfl) ?_
  refine Ops.y (v := .int .i64 _) (Y.lens Tryz.underlying78 rfl) ?_
  refine Ops.y (v := .slice _ _ _) (Y.move rfl) ?_
  refine Ops.y (v := .int .i64 _) (Y.lens Tryz.underlying78 rfl) ?_
  refine Ops.y (v := .bool (decide _)) (Y.lti rfl rfl) ?_
  refine Ops.nil ?_
  refine WP.cond_decF rfl ((by omega)) ?_
  refine WP.skip ?_
  refine WP.seq ?_
  refine WP.region ?_
  refine Ops.y (v := .int .i64 _) (Y.assign rfl) ?_
  refine Ops.nil ?_
  refine WP.ret ?_
  repeat (first | refine thenE_ret ?_ | refine blockE_ret ?_)
  refine ⟨.inl rfl, [.int .i64 0], ⟨rfl, trivial⟩, ?_, rfl⟩
  simp only [tup, cmpV]
  rw [if_neg (by simp [g0]), if_neg (by simp [g1]), g2 (by omega)]
section
variable {P : Program} {e : Env} {w : World} {t : TypeId} {pos : String} {af : Array Edge} {g : Option (Nat × Bool)} {d : Option Nat} {K : Value → World → Prop}
theorem X.box {T : TypeId} {x : Operand} {v : Value} {cs : List Value} (hx : ev e x = v) (hc : v.cells = cs.toArray) (k : K (.pointer (some ⟨w.heap.size, 0, none⟩)) (w.alloc (.cells cs.toArray T))) : Op1 P ⟨d, .box T x, t, pos, af, g⟩ e w K := by
  have : (execOp (ev e) ⟨d, .box T x, t, pos, af, g⟩).run P w = .ok (.value (.pointer (some ⟨w.heap.size, 0, none⟩))) (w.alloc (.cells cs.toArray T)) := by
    simp [execOp, Instr.box, hx, newVar, newRow, hc]
  unfold Op1
  rw [this]
  exact k
theorem Y.slicearr {T el n k b o : Nat} {x : Operand} (hT : Und P T (.array n el)) (hk : ∀ w, (sizeOf el).run P w = .ok k w) (hx : ev e x = .pointer (some ⟨b, o, none⟩)) : Y P ⟨d, .slice T x none none none, t, pos, af, g⟩ e w (.slice (some ⟨b, o, none⟩) n n) := by
  simp [Y, execOp, hx, Instr.sliceAt, Instr.sureAddr, Instr.sliceBounds, run_underlying hT, hk, addr_add]
theorem WP.regionC {N : Nat} {D : List Deferred} {Q : Exit → Env → World → Prop} {id : Nat} {ops : Array Oper} {C : World → Prop} (hm : Mixed P) (hC : C w.drew) (hB : Region.lexB .any ops = true)
    (k : OpsQ P ops C ops.toList e (fun e' => ∀ w', C w' → Q .normal e' w')) : WP P N D (.region id ops true) e w Q := by
  intro hs a h1 h2 h3
  subst h3
  refine wp_region_quiet (C := C) hm hB hC ?_
  exact OpsQ.sound _ a _ _ hs h1 h2 (fun a' g1 g2 g3 w' hw' => ⟨g1, g2, g3 w' hw'⟩) k
theorem QC.calls {C : World → Prop} {f : FuncId} {args : Array Operand} {ts : Array TypeId} {vs : List Value} {r : Value} (hf : Enters P f) (hc : Calls P f vs.toArray w (fun ed w' => ed = .returned r ∧ w' = w)) (hC : C w) (ha : args.toList.map (ev e) = vs) :
    QC P C ⟨d, .call { callee := .value (.func f), args := args, argTypes := ts }, t, pos, af, g⟩ e w r := by
  have ha' : args.map (ev e) = vs.toArray := by rw [← ha]; apply Array.ext'; simp
  have : (execOp (ev e) ⟨d, .call { callee := .value (.func f), args := args, argTypes := ts }, t, pos, af, g⟩).run P w = .ok (.enter f vs.toArray) w := by
    simp [execOp, resolve, ev, Deferred.ofValue, invoke, ha', hf]
  unfold QC
  rw [this]
  exact ⟨rfl, Calls.mono hc fun _ _ ⟨h1, h2⟩ => ⟨h1, h2 ▸ hC⟩⟩
end
theorem Steps2_x (x y : Stp) (W : World) : Calls Tryz.prog 216 [x.val, y.val].toArray W (fun ed w' => ed = .returned (.int .i64 (cmpV x.vars y.vars)) ∧ ∃ q os', w' = Sort.grow (W.drewN q) os') := by
  refine Calls.ofWP (args := [x.val, y.val]) Tryz.func216 rfl Tryz.ntmps216 (by kernel_rfl) (by simp) ?_
  intro e
  refine WP.seq ?_
  refine WP.region ?_
  refine Ops.go (X.box (v := .agg #[_, _, _, _]) rfl rfl ?_)
  refine Ops.go (X.box (v := .agg #[_, _, _, _]) rfl rfl ?_)
  refine Ops.y (v := .int .i64 _) (Y.assign rfl) ?_
  refine Ops.nil ?_
  generalize hW1 : W.alloc (.cells x.enc.toArray 169) = W1
  have hs1 : W1.heap.size = W.heap.size + 1 := by rw [← hW1, Sort.alloc_eq_grow, Sort.size_grow]; rfl
  generalize hW2 : W1.alloc (.cells y.enc.toArray 169) = W2
  have hb1 : W2.heap[W.heap.size]? = some (.cells x.enc.toArray 169 (0, 0)) := by rw [← hW2, (Grow.alloc W1 _).block _ (by omega), ← hW1]; exact heap_alloc_new W _
  have hb2 : W2.heap[W1.heap.size]? = some (.cells y.enc.toArray 169 (0, 0)) := by rw [← hW2]; exact heap_alloc_new W1 _
  have hC0 : (fun w' => ∃ q, w' = W2.drewN q) W2.drew := ⟨1, rfl⟩
  refine WP.seq ?_
  refine WP.regionC (C := fun w' => ∃ q, w' = W2.drewN q) mixed hC0 (by kernel_rfl) ?_
  refine OpsQ.y (v := .pointer (some ⟨_, _, none⟩)) (fun w I => Y.fa fa_169_1 rfl) ?_
  refine OpsQ.y (v := .slice _ _ _) (fun w I => Y.slicearr Tryz.underlying167 Tryz.sizeOf3 rfl) ?_
  refine OpsQ.y (v := .pointer (some ⟨_, _, none⟩)) (fun w I => Y.fa fa_169_1 rfl) ?_
  refine OpsQ.y (v := .slice _ _ _) (fun w I => Y.slicearr Tryz.underlying167 Tryz.sizeOf3 rfl) ?_
  refine OpsQ.c (fun w hw => QC.calls Tryz.call217 ((by obtain ⟨q, rfl⟩ := hw; exact SCompare_x x.vars y.vars W.heap.size W1.heap.size 1 1 _ (rd_box (w := W2.drewN q) hb1 1 3) (rd_box (w := W2.drewN q) hb2 1 3))) hw rfl) ?_
  refine OpsQ.y (v := .int .i64 _) (fun w I => Y.assign rfl) ?_
  refine OpsQ.nil ?_
  intro w I
  obtain ⟨q, rfl⟩ := I
  refine WP.ret ?_
  repeat (first | refine thenE_ret ?_ | refine blockE_ret ?_)
  refine ⟨.inl rfl, [.int .i64 (cmpV x.vars y.vars)], ⟨rfl, trivial⟩, rfl, q, #[.cells x.enc.toArray 169 (0, 0), .cells y.enc.toArray 169 (0, 0)], ?_⟩
  rw [← hW2, ← hW1, Sort.alloc_eq_grow, Sort.alloc_eq_grow, Sort.grow_grow]
  rfl
end Go.TF
end
section
/- slices.SortFunc and CompactFunc of steps. -/
namespace Go.TF
open Go Go.RowKit Go.Proofs
set_option maxRecDepth 20000

def stpCmp (x y : Stp) : Int := cmpV x.vars y.vars
theorem stp_swo : Sort.SWO (ltOf stpCmp) where
  irrefl x := by simp only [ltOf, stpCmp, cmpV_neg]; exact decide_eq_false (ltV_irrefl _)
  trans x y z h1 h2 := by
    simp only [ltOf, stpCmp, cmpV_neg, decide_eq_true_eq] at *
    exact ltV_trans h1 h2
  ntrans x y z h1 h2 := by
    simp only [ltOf, stpCmp, cmpV_neg, decide_eq_false_iff_not] at *
    unfold ltV at *; omega
theorem stp_len (x : Stp) : x.enc.length = 4 := rfl
theorem flatK_eq (xs : List Stp) : Sort.flatK Stp.enc 4 xs.toArray = (xs.flatMap Stp.enc).toArray := by
  have hl := flat_len stp_len xs
  refine Sort.ext_get! (by simp [hl]) fun t ht => ?_
  have ht' : t < xs.length * 4 := by simpa using ht
  rw [Sort.get_flatK _ _ _ t (by simpa using ht')]
  have hv : (xs.flatMap Stp.enc)[t]? = some ((xs.flatMap Stp.enc)[t]'(by rw [hl]; exact ht')) := List.getElem?_eq_getElem _
  obtain ⟨x, h1, h2⟩ := flat_at stp_len (by decide) xs t _ hv
  have e1 : xs.toArray[t / 4]! = x := by simp [getElem!_def, h1]
  rw [e1]
  simp [getElem!_def, h2, hv]
theorem take_put (F : Array Value) (cur : Array Value) (h : F.size ≤ cur.size) : (Sort.putCells id 0 F cur).toList.take F.size = F.toList := by
  apply List.ext_getElem?
  intro j
  rw [List.getElem?_take]
  split
  · rename_i hj
    simp only [Sort.putCells, Array.getElem?_toList, Array.getElem?_mapIdx]
    have : j < cur.size := by omega
    simp [this, hj]
  · rename_i hj
    simp; omega
/-- Sorted by their variables. -/
abbrev SrtS (xs : List Stp) : Prop := xs.Pairwise fun x y => ¬ ltV y.vars x.vars
theorem sort_ok {B : Base} {h : Heap} {M : List SA} {w : World} {a : Option Addr} {c m : Nat} {xs : List Stp} (I : Inv B h (ownSl 169 4 (.slice a m c) m (xs.flatMap Stp.enc) :: M) w) (hm : m = xs.length) (hsz : m ≤ 1000000000) :
    Calls Tryz.prog 215 [.slice a m c, .func (.func 216) #[] #[]].toArray w
      (fun ed w' => ed = .returned (.tuple #[]) ∧ ∃ ys, ys.Perm xs ∧ SrtS ys ∧ Inv B h (ownSl 169 4 (.slice a m c) m (ys.flatMap Stp.enc) :: M) w') := by
  rcases (I.at 0 rfl).2 with ⟨h0, hn⟩ | ⟨g, cap, cur, he, _, hg, hnc, hcm, hcs, ht⟩
  · injection h0 with e1 e2 e3
    subst e1; subst e2; subst e3
    have hx : xs = [] := List.eq_nil_of_length_eq_zero hm.symm
    subst hx
    refine Calls.mono (AnyF.slices_SortFunc_none Tryz.sortStp none 0 (.func (.func 216) #[] #[]) w) ?_
    rintro ed w' ⟨rfl, rfl⟩
    exact ⟨rfl, [], List.Perm.refl _, List.Pairwise.nil, I⟩
  · injection he with e1 e2 e3
    subst e1; subst e3
    have hfl := flat_len stp_len xs
    have hcell : ∀ j, j < (xs.flatMap Stp.enc).length → w.cell? ⟨g, 0 + j, none⟩ = (xs.flatMap Stp.enc)[j]? := fun j hj => by
      have hc : w.cell? ⟨g, 0 + j, none⟩ = cur[j]? := by simp [World.cell?, hg]
      have h2 : (cur.toList.take (m * 4))[j]? = cur[j]? := by
        rw [List.getElem?_take, if_pos (by rw [hfl] at hj; rw [hm]; exact hj)]; simp
      rw [hc, ← h2, ht]
    have hH : Sort.HoldsK Stp.enc 4 w g 0 xs.toArray := by
      unfold Sort.HoldsK
      rw [flatK_eq]
      intro j hj
      have hj' : j < (xs.flatMap Stp.enc).length := by simpa using hj
      refine ⟨?_, by simp [World.frozen?, hg]⟩
      rw [hcell j hj']
      simp [getElem!_def, List.getElem?_eq_getElem hj']
    have hcon := AnyQ.slices_SortFunc Tryz.sortStp 4 (ty_169).agg Tryz.sizeOf169 Stp.enc stp_len (fun x v hv => by simp only [Stp.enc, List.mem_cons, List.not_mem_nil, or_false] at hv; rcases hv with rfl | rfl | rfl | rfl <;> rfl) stpCmp stp_swo 216 #[] g 0 c xs.toArray w Tryz.call216 (fun mm os dk _ x y => Steps2_x x y _) hH (by have := (Array.getElem?_eq_some_iff.1 hg).1; exact this) (by simp only [List.size_toArray]; omega)
    rw [show xs.toArray.size = m from by simp [hm]] at hcon
    refine Calls.mono hcon ?_
    rintro ed w' ⟨rfl, d', n, os, hp, hs, rfl⟩
    have hpl : d'.size = m := by have := hp.1; simpa [hm] using this
    have hperm : d'.toList.Perm xs := by
      have := hp.2.2
      have e1 : d'.extract 0 m = d' := by rw [← hpl]; simp
      have e2 : xs.toArray.extract 0 m = xs.toArray := by rw [hm]; simp
      rw [e1, e2] at this
      simpa using this
    refine ⟨rfl, d'.toList, hperm, ?_, ?_⟩
    · show List.Pairwise _ _
      rw [List.pairwise_iff_getElem]
      intro i j hi hj hij
      have hi' : i < d'.size := by simpa using hi
      have hj' : j < d'.size := by simpa using hj
      have := hs i j (Nat.zero_le _) hij (by rw [← hpl]; exact hj')
      simp only [ltOf, stpCmp, cmpV_neg, decide_eq_false_iff_not] at this
      rw [getElem!_pos d' i hi', getElem!_pos d' j hj'] at this
      simpa using this
    · have hF : Sort.flatK Stp.enc 4 d' = (d'.toList.flatMap Stp.enc).toArray := by have := flatK_eq d'.toList; simpa using this
      have hFs : (Sort.flatK Stp.enc 4 d').size = m * 4 := by rw [Sort.size_flatK, hpl]
      have hmk : m * 4 ≤ cur.size := by rw [hcs]; exact Nat.mul_le_mul_right _ hnc
      refine I.stepAt 0 rfl rfl rfl rfl ?_ (fun b hb hnb => ?_) ?_ (fun b hb => ?_)
      · simp [sortWorldK, Sort.putRowK, Sort.putRow, Sort.mapBlock, Sort.grow, Sort.ahead]
      · have hne : b ≠ g := fun e => hnb (by simp [ownSl, Value.ownBlock, e])
        simp only [sortWorldK, Sort.putRowK, Sort.putRow, Sort.mapBlock, Sort.grow, Sort.ahead]
        rw [Array.getElem?_append_left (by simpa using hb), Array.getElem?_modify, if_neg (Ne.symm hne)]
      · refine ⟨by rw [flat_len stp_len]; simp [hpl], .inr ⟨g, c, Sort.putCells id 0 (Sort.flatK Stp.enc 4 d') cur, rfl, Nat.zero_le _, ?_, hnc, hcm, ?_, ?_⟩⟩
        · simp only [sortWorldK, Sort.putRowK, Sort.putRow, Sort.mapBlock, Sort.grow, Sort.ahead]
          have hlt := (Array.getElem?_eq_some_iff.1 hg).1
          rw [Array.getElem?_append_left (by simpa using hlt), Array.getElem?_modify, if_pos rfl, hg]
          rfl
        · simp [Sort.putCells, hcs]
        · have := take_put (Sort.flatK Stp.enc 4 d') cur (by rw [hFs]; exact hmk)
          rw [hFs, hF] at this
          rw [hF]; simpa using this
      · have : b = g := by simpa [ownSl, Value.ownBlock] using hb
        subst this
        refine ⟨.inl (by simp [ownSl, Value.ownBlock]), ?_⟩
        have hlt := (Array.getElem?_eq_some_iff.1 hg).1
        simp only [sortWorldK, Sort.putRowK, Sort.putRow, Sort.mapBlock, Sort.grow, Sort.ahead, Array.size_append, Array.size_modify]
        omega
end Go.TF
end
section
/- slices.CompactFunc of steps. -/
namespace Go.TF
open Go Go.RowKit Go.Proofs
set_option maxRecDepth 20000

section
variable {P : Program} {e : Env} {w : World} {B : Base} {h : Heap} {M : List SA} {t : TypeId} {pos : String} {af : Array Edge} {g : Option (Nat × Bool)} {d : Option Nat} {K : Value → World → Prop}
/-- Cells of what is owned are stored. -/
theorem O.storeE {T el k bytes gg n cap o m : Nat} {ag : Bool} {z v : Value} {a x : Operand} {xs vs : List Value} (I : Inv B h M w) (hT : Ty P T m ag) (he : ElT P el k bytes z) (n0 : Nat) (hn : M[n0]? = some (ownSl el k (.slice (some ⟨gg, 0, none⟩) n cap) n xs))
    (ha : ev e a = .pointer (some ⟨gg, o, none⟩)) (hx : ev e x = v) (hv : v.cells = vs.toArray) (hl : vs.length = m) (h1 : oneCells vs = true) (ho : o + vs.length ≤ xs.length) (kk : ∀ w', Inv B h (M.set n0 (ownSl el k (.slice (some ⟨gg, 0, none⟩) n cap) n (over xs o vs))) w' → K undef w') :
    Op1 P ⟨d, .store T a x, t, pos, af, g⟩ e w K := by
  obtain ⟨ii, hi, hz, hsz, hby⟩ := he.info'
  subst hsz
  have hp : w.ownsRow 0 el ii.size (.slice (some ⟨gg, 0, none⟩) n cap) n xs := I.at n0 hn
  have hfp := (I.own _ (List.mem_of_getElem? hn)).2 gg (by simp [ownSl, Value.ownBlock])
  rcases hp.2 with ⟨h0, _⟩ | ⟨g', cap', cur, he', hb, hg, hnc, hcm, hcs, ht⟩
  · cases h0
  injection he' with e1 e2 e3; injection e1 with e1; injection e1 with e1; subst e1; subst e3
  have hnk : n * ii.size ≤ cap * ii.size := Nat.mul_le_mul_right _ hnc
  have hxl := hp.1
  have hone : ∀ u ∈ vs, u.oneCell' = true := fun u hu => by
    simp only [oneCells, List.all_eq_true] at h1
    exact h1 u hu
  have hst := run_storeCells_at P gg o el vs 0 cur w hg (by rw [hcs]; omega) hone
  simp only [Nat.add_zero] at hst
  have hA : (execOp (ev e) ⟨d, .store T a x, t, pos, af, g⟩).run P w = .ok .skip (w.setRow gg (cur.toList.take o ++ vs ++ cur.toList.drop (o + vs.length)).toArray) := by
    simp [execOp, Instr.storeAt, Instr.sureAddr, ha, hx, storeVar, hv, hT.size, hl, hst]
  unfold Op1
  rw [hA]
  have hcl : cur.toList.length = cap * ii.size := by rw [Array.length_toList, hcs]
  refine kk _ (I.stepAt n0 hn rfl rfl rfl (by simp) (fun b hb hnb => setRow_other w gg b _ (fun e => hnb (by simp [ownSl, Value.ownBlock, e]))) ?_ (fun b hb => ?_))
  · refine ⟨?_, .inr ⟨gg, cap, _, rfl, hb, setRow_heap w gg cur _ el _ hg, hnc, hcm, ?_, ?_⟩⟩
    · rw [over_len ho, hp.1]
    · simp only [List.size_toArray, List.length_append, List.length_take, List.length_drop, hcl]
      omega
    · rw [over_take _ _ _ _ (by omega) (by rw [hcl]; exact hnk), ht]
  · have : b = gg := by simpa [ownSl, Value.ownBlock] using hb
    subst this
    exact ⟨.inl (by simp [ownSl, Value.ownBlock]), by simpa using hfp.2.1⟩
end
theorem Inv.rdE {B : Base} {h : Heap} {M : List SA} {w : World} {T gg n cap : Nat} {zs : List Stp} (I : Inv B h M w) (n0 : Nat) (hn : M[n0]? = some (ownSl T 4 (.slice (some ⟨gg, 0, none⟩) n cap) n (zs.flatMap Stp.enc))) {i o : Nat} {y : Stp} (hy : zs[i]? = some y) (ho : o = i * 4) : Rd w gg o y.enc := by
  subst ho
  intro j v hj
  have hp : w.ownsRow 0 T 4 (.slice (some ⟨gg, 0, none⟩) n cap) n (zs.flatMap Stp.enc) := I.at n0 hn
  have := hp.cells (g := gg) rfl (i * 4 + j) v (flat_get stp_len zs i j y v hy hj)
  rwa [addr_add, Nat.zero_add] at this
theorem flat_over (zs : List Stp) (k : Nat) (y : Stp) (hk : k < zs.length) : over (zs.flatMap Stp.enc) (k * 4) y.enc = (zs.set k y).flatMap Stp.enc := by
  unfold over
  rw [flat_take stp_len, stp_len, show k * 4 + 4 = (k + 1) * 4 by omega, flat_drop stp_len, List.set_eq_take_append_cons_drop, if_pos hk, List.flatMap_append, List.flatMap_cons, List.append_assoc]
theorem eqarr (a b : Vrs) (w : World) : (Op.equalIn 10000 167 (.agg #[.int .i64 a.x0, .int .i64 a.x1, .int .i64 a.x2]) (.agg #[.int .i64 b.x0, .int .i64 b.x1, .int .i64 b.x2])).run Tryz.prog w = .ok (decide (a = b)) w := by
  obtain ⟨i, hi⟩ : ∃ i, Tryz.prog.info? 3 = some i := by
    have := (ty_3).size 
    cases hh : Tryz.prog.info? 3 with
    | some i => exact ⟨i, rfl⟩
    | none => have := this w; simp [sizeOf, typeInfo, hh] at this
  have hc : Tryz.prog.cellsOf 3 = 1 := by kernel_rfl
  have p : ∀ (cs : Array Value) (o : Nat) v, cs[o]? = some v → (Go.part 3 cs o).run Tryz.prog w = .ok v w := fun cs o v hv => part_leaf (ty_3).agg hv w
  rw [show 10000 = 9998 + 1 + 1 from rfl, run_equalIn_array w (9998 + 1) _ _ Tryz.underlying167 hi, hc]
  have r3 : List.range 3 = [0, 1, 2] := rfl
  simp only [r3, Op.eqItems]
  obtain ⟨a0, a1, a2⟩ := a; obtain ⟨b0, b1, b2⟩ := b
  have hd : decide ((⟨a0, a1, a2⟩ : Vrs) = ⟨b0, b1, b2⟩) = ((a0 == b0) && ((a1 == b1) && (a2 == b2))) := by
    rw [Bool.eq_iff_iff]; simp
  rw [hd]
  cases h0 : (a0 == b0) <;> cases h1 : (a1 == b1) <;> cases h2 : (a2 == b2) <;> simp [p, run_equalIn_int w _ 3 .i64 .i64 _ _ Tryz.underlying3, h0, h1, h2]
theorem Steps3_ok (B : Base) (hB : B.ok) (x y : Stp) : Fn Tryz.prog 219 [x.val, y.val] B (fun v _ => v = .bool (decide (x = y))) := by
  by_cases hr : cmpI x.rule y.rule = 0
  · refine Fn.of Tryz.func219 rfl Tryz.ntmps219 (by kernel_rfl) (by simp) ?_
    intro e
    have I := Inv.start hB
    refine WP.seq ?_
    refine WP.region ?_
    refine Ops.go (O.box (v := .agg #[_, _, _, _]) I rfl rfl ?_)
    intro b2 w I
    refine Ops.go (O.box (v := .agg #[_, _, _, _]) I rfl rfl ?_)
    intro b3 w I
    refine Ops.y (v := .bool _) (Y.assign rfl) ?_
    refine Ops.nil ?_
    refine WP.seq ?_
    refine WP.region ?_
    refine Ops.y (v := .pointer (some ⟨_, _, none⟩)) (Y.fa0 fa_169_0 rfl) ?_
    refine Ops.y (v := .int .i64 _) (Y.loadv ty_3 rfl (I.rdbox 1 rfl 0 1) rfl rfl) ?_
    refine Ops.y (v := .pointer (some ⟨_, _, none⟩)) (Y.fa0 fa_169_0 rfl) ?_
    refine Ops.y (v := .int .i64 _) (Y.loadv ty_3 rfl (I.rdbox 0 rfl 0 1) rfl rfl) ?_
    refine Ops.go (O.callv I Tryz.call158 (Compare_ok _ I.base_ok _ _) rfl ?_)
    intro w I
    refine Ops.y (v := .bool true) (Y.dec_t (Y.eqi rfl rfl) (hr)) ?_
    refine Ops.y (v := .bool _) (Y.move rfl) ?_
    refine Ops.ygt rfl (v := .pointer (some ⟨_, _, none⟩)) (Y.fa fa_169_1 rfl) ?_
    refine Ops.ygt rfl (v := .agg #[_, _, _]) (Y.loadv ty_167 rfl (I.rdbox 1 rfl 1 3) rfl rfl) ?_
    refine Ops.ygt rfl (v := .pointer (some ⟨_, _, none⟩)) (Y.fa fa_169_1 rfl) ?_
    refine Ops.ygt rfl (v := .agg #[_, _, _]) (Y.loadv ty_167 rfl (I.rdbox 0 rfl 1 3) rfl rfl) ?_
    refine Ops.ygt rfl (v := .bool _) (Y.eqst (by kernel_rfl) (eqarr x.vars y.vars) rfl rfl) ?_
    refine Ops.y (v := .bool _) (Y.pick_t rfl rfl) ?_
    refine Ops.y (v := .bool _) (Y.assign rfl) ?_
    refine Ops.nil ?_
    refine WP.ret ?_
    repeat (first | refine thenE_ret ?_ | refine blockE_ret ?_)
    exact retQ.mk (vs := [.bool _]) rfl ⟨rfl, trivial⟩ I.ext_of (by simp only [tup]; congr 1; rw [decide_eq_decide]; have := cmpI_zero.1 hr; cases x; cases y; simp_all)
  · refine Fn.of Tryz.func219 rfl Tryz.ntmps219 (by kernel_rfl) (by simp) ?_
    intro e
    have I := Inv.start hB
    refine WP.seq ?_
    refine WP.region ?_
    refine Ops.go (O.box (v := .agg #[_, _, _, _]) I rfl rfl ?_)
    intro b2 w I
    refine Ops.go (O.box (v := .agg #[_, _, _, _]) I rfl rfl ?_)
    intro b3 w I
    refine Ops.y (v := .bool _) (Y.assign rfl) ?_
    refine Ops.nil ?_
    refine WP.seq ?_
    refine WP.region ?_
    refine Ops.y (v := .pointer (some ⟨_, _, none⟩)) (Y.fa0 fa_169_0 rfl) ?_
    refine Ops.y (v := .int .i64 _) (Y.loadv ty_3 rfl (I.rdbox 1 rfl 0 1) rfl rfl) ?_
    refine Ops.y (v := .pointer (some ⟨_, _, none⟩)) (Y.fa0 fa_169_0 rfl) ?_
    refine Ops.y (v := .int .i64 _) (Y.loadv ty_3 rfl (I.rdbox 0 rfl 0 1) rfl rfl) ?_
    refine Ops.go (O.callv I Tryz.call158 (Compare_ok _ I.base_ok _ _) rfl ?_)
    intro w I
    refine Ops.y (v := .bool false) (Y.dec_f (Y.eqi rfl rfl) (hr)) ?_
    refine Ops.y (v := .bool _) (Y.move rfl) ?_
    refine Ops.gf rfl ?_
    refine Ops.gf rfl ?_
    refine Ops.gf rfl ?_
    refine Ops.gf rfl ?_
    refine Ops.gf rfl ?_
    refine Ops.y (v := .bool _) (Y.pick_f rfl rfl) ?_
    refine Ops.y (v := .bool _) (Y.assign rfl) ?_
    refine Ops.nil ?_
    refine WP.ret ?_
    repeat (first | refine thenE_ret ?_ | refine blockE_ret ?_)
    exact retQ.mk (vs := [.bool _]) rfl ⟨rfl, trivial⟩ I.ext_of (by simp only [tup]; rw [decide_eq_false]; intro e; exact hr (cmpI_zero.2 (by rw [e])))
/-! ### Each once -/
def cpt : Stp → List Stp → List Stp
  | _, [] => []
  | p, y :: r => if y = p then cpt y r else y :: cpt y r
def compactS : List Stp → List Stp
  | [] => []
  | x :: r => x :: cpt x r
theorem cpt_snoc : ∀ (r : List Stp) (p y : Stp), cpt p (r ++ [y]) = cpt p r ++ if y = (p :: r).getLast (by simp) then [] else [y]
  | [], p, y => by by_cases h : y = p <;> simp [cpt, h]
  | z :: r, p, y => by
    rw [List.cons_append, cpt, cpt, cpt_snoc r z y]
    have : (p :: z :: r).getLast (by simp) = (z :: r).getLast (by simp) := by simp
    rw [this]
    split <;> simp
theorem compact_snoc {xs : List Stp} (y : Stp) (h : xs ≠ []) : compactS (xs ++ [y]) = compactS xs ++ if y = xs.getLast h then [] else [y] := by
  cases xs with
  | nil => exact absurd rfl h
  | cons x r => rw [List.cons_append, compactS, compactS, cpt_snoc]; rfl
theorem compact_take {xs : List Stp} {k : Nat} (h0 : 0 < k) (hk : k < xs.length) : compactS (xs.take (k + 1)) = compactS (xs.take k) ++ if xs[k] = xs[k - 1] then [] else [xs[k]] := by
  have hne : xs.take k ≠ [] := by intro e; have := congrArg List.length e; rw [List.length_take, List.length_nil] at this; omega
  have hl : (xs.take k).getLast hne = xs[k - 1] := by
    rw [List.getLast_eq_getElem]
    simp only [List.length_take, List.getElem_take]
    congr 1; omega
  rw [List.take_succ_eq_append_getElem hk, compact_snoc _ hne, hl]
theorem compact_same {xs : List Stp} (k : Nat) (hk : k ≤ xs.length) (h : ∀ j, 0 < j → j < k → ∀ hj : j < xs.length, xs[j] ≠ xs[j - 1]) : compactS (xs.take k) = xs.take k := by
  induction k with
  | zero => simp [compactS]
  | succ k ih =>
    by_cases h0 : k = 0
    · subst h0
      cases xs with
      | nil => simp at hk
      | cons x r => simp [compactS, cpt]
    · rw [compact_take (k := k) (by omega) (by omega), ih (by omega) (fun j a b c => h j a (by omega) c), if_neg (h k (by omega) (by omega) (by omega))]
      exact (List.take_succ_eq_append_getElem _).symm
theorem take_set_self (zs : List Stp) (q : Nat) (y : Stp) : (zs.set q y).take q = zs.take q := by
  apply List.ext_getElem?
  intro j
  rw [List.getElem?_take, List.getElem?_take]
  split
  · rw [List.getElem?_set_ne (by omega)]
  · rfl
theorem cpt_len : ∀ (r : List Stp) (p : Stp), (cpt p r).length ≤ r.length
  | [], p => by simp [cpt]
  | y :: r, p => by rw [cpt]; split <;> simp only [List.length_cons] <;> have := cpt_len r y <;> omega
theorem compact_len (xs : List Stp) : (compactS xs).length ≤ xs.length := by
  cases xs with
  | nil => simp [compactS]
  | cons x r => simp only [compactS, List.length_cons]; have := cpt_len r x; omega
set_option maxHeartbeats 8000000 in
theorem Compact_ok {B : Base} {h : Heap} {M : List SA} {w : World} {a : Option Addr} {c m : Nat} {xs : List Stp} (I : Inv B h (ownSl 169 4 (.slice a m c) m (xs.flatMap Stp.enc) :: M) w) (hm : m = xs.length) (hsz : m ≤ 1000000000) :
    Calls Tryz.prog 218 [.slice a m c, .func (.func 219) #[] #[]].toArray w
      (fun ed w' => ∃ a' c' m', ed = .returned (.slice a' m' c') ∧ m' = (compactS xs).length ∧ Inv B h (ownSl 169 4 (.slice a' m' c') m' ((compactS xs).flatMap Stp.enc) :: M) w') := by
  by_cases hlt : m < 2
  · have hcx : compactS xs = xs := by
      have := compact_same (xs := xs) xs.length (Nat.le_refl _) (fun j h0 hj hj' => by omega)
      rwa [List.take_length] at this
    refine Calls.ofWP (args := [.slice a m c, .func (.func 219) #[] #[]]) Tryz.func218 rfl Tryz.ntmps218 (by kernel_rfl) (by simp) ?_
    intro e
    refine WP.seq ?_
    refine WP.region ?_
    refine Ops.y (v := .slice _ _ _) (Y.assign rfl) ?_
    refine Ops.nil ?_
    refine WP.seq ?_
    refine WP.seq ?_
    refine WP.region ?_
    refine Ops.y (v := .slice _ _ _) (Y.move rfl) ?_
    refine Ops.y (v := .int .i64 _) (Y.lens Tryz.underlying129 rfl) ?_
    refine Ops.y (v := .bool (decide _)) (Y.lti rfl rfl) ?_
    refine Ops.nil ?_
    refine WP.cond_decT rfl ((by omega)) ?_
    refine WP.seq ?_
    refine WP.region ?_
    refine Ops.y (v := .slice _ _ _) (Y.move rfl) ?_
    refine Ops.y (v := .slice _ _ _) (Y.assign rfl) ?_
    refine Ops.nil ?_
    refine WP.ret ?_
    repeat (first | refine thenE_ret ?_ | refine blockE_ret ?_)
    exact ⟨.inl rfl, [.slice a m c], ⟨rfl, trivial⟩, a, c, m, rfl, by rw [hcx]; exact hm, by rw [hcx]; exact I⟩
  rcases (I.at 0 rfl).2 with ⟨h0, hn⟩ | ⟨gg, cap, cur, he, _, hg, hnc, hcm, _⟩
  · injection h0 with e1 e2 e3; omega
  injection he with e1 e2 e3
  subst e1; subst e3
  simp only [maxLen] at hcm
  refine Calls.ofWP (args := [.slice (some ⟨gg, 0, none⟩) m c, .func (.func 219) #[] #[]]) Tryz.func218 rfl Tryz.ntmps218 (by kernel_rfl) (by simp) ?_
  intro e
  refine WP.seq ?_
  refine WP.region ?_
  refine Ops.y (v := .slice _ _ _) (Y.assign rfl) ?_
  refine Ops.nil ?_
  refine WP.seq ?_
  refine WP.seq ?_
  refine WP.region ?_
  refine Ops.y (v := .slice _ _ _) (Y.move rfl) ?_
  refine Ops.y (v := .int .i64 _) (Y.lens Tryz.underlying129 rfl) ?_
  refine Ops.y (v := .bool (decide _)) (Y.lti rfl rfl) ?_
  refine Ops.nil ?_
  refine WP.cond_decF rfl ((by omega)) ?_
  refine WP.skip ?_
  refine WP.seq ?_
  refine WP.seq ?_
  refine WP.region ?_
  refine Ops.y (v := .int .i64 _) (Y.assign rfl) ?_
  refine Ops.nil ?_
  refine WP.block ?_
  refine WP.loopE (σ := Nat) (fun k => [(0, .slice (some ⟨gg, 0, none⟩) m c), (1, .func (.func 219) #[] #[]), (5, .int .i64 k)]) (fun k w => Inv B h (ownSl 169 4 (.slice (some ⟨gg, 0, none⟩) m c) m (xs.flatMap Stp.enc) :: M) w ∧ 1 ≤ k ∧ k ≤ m ∧ ∀ j, 0 < j → j < k → ∀ hj : j < xs.length, xs[j] ≠ xs[j - 1]) (fun k => m - k)
    ⟨1, ⟨rfl, rfl, rfl, trivial⟩, I, Nat.le_refl _, by omega, fun j h0 hj => by omega⟩ ?_
  rintro k e w ⟨I, hk1, hk, hn⟩
  refine WP.seq ?_
  refine WP.seq ?_
  refine WP.region ?_
  refine Ops.y (v := .int .i64 _) (Y.move rfl) ?_
  refine Ops.y (v := .slice _ _ _) (Y.move rfl) ?_
  refine Ops.y (v := .int .i64 _) (Y.lens Tryz.underlying129 rfl) ?_
  refine Ops.y (v := .bool (decide _)) (Y.lti rfl rfl) ?_
  refine Ops.nil ?_
  refine WP.cond_dec rfl (fun h4 => ?_) (fun h4 => ?_)
  · have hk' : k < xs.length := by omega
    have g1 : xs[k]? = some xs[k] := List.getElem?_eq_getElem hk'
    have g0 : xs[k - 1]? = some xs[k - 1] := List.getElem?_eq_getElem (by omega)
    refine WP.skip ?_
    refine WP.seq ?_
    refine WP.block ?_
    refine WP.seq ?_
    refine WP.regionQ mixed I (by kernel_rfl) ?_
    refine OpsQ.y (v := .func _ _ _) (fun w I => Y.move rfl) ?_
    refine OpsQ.y (v := .slice _ _ _) (fun w I => Y.move rfl) ?_
    refine OpsQ.y (v := .int .i64 _) (fun w I => Y.move rfl) ?_
    refine OpsQ.y (v := .pointer (some ⟨_, _, none⟩)) (fun w I => Y.idx Tryz.underlying129 Tryz.sizeOf169 rfl rfl (by omega) (by omega)) ?_
    refine OpsQ.y (v := .agg #[_, _, _, _]) (fun w I => Y.loadv ty_169 rfl (I.rdE 0 rfl g1 (by omega)) rfl rfl) ?_
    refine OpsQ.y (v := .slice _ _ _) (fun w I => Y.move rfl) ?_
    refine OpsQ.y (v := .int .i64 _) (fun w I => Y.move rfl) ?_
    refine OpsQ.y (v := .int .i64 _) (fun w I => Y.subi rfl rfl ⟨by omega, by omega⟩) ?_
    refine OpsQ.y (v := .pointer (some ⟨_, _, none⟩)) (fun w I => Y.idx Tryz.underlying129 Tryz.sizeOf169 rfl rfl (by omega) (by omega)) ?_
    refine OpsQ.y (v := .agg #[_, _, _, _]) (fun w I => Y.loadv ty_169 rfl (I.rdE 0 rfl g0 (by omega)) rfl rfl) ?_
    refine OpsQ.c (fun w I => QC.callcv I Tryz.call219 (fs := []) (cs := []) rfl (Steps3_ok _ I.base_ok xs[k] xs[k - 1]) rfl) ?_
    refine OpsQ.nil ?_
    intro w I
    refine WP.cond_dec rfl (fun h6 => ?_) (fun h6 => ?_)
    · have hc1 : compactS (xs.take (k + 1)) = xs.take k := by
        rw [compact_take (by omega) hk', if_pos h6, compact_same k (by omega) hn, List.append_nil]
      refine WP.seq ?_
      refine WP.region ?_
      refine Ops.y (v := .slice _ _ _) (Y.move rfl) ?_
      refine Ops.y (v := .int .i64 _) (Y.move rfl) ?_
      refine Ops.y (v := .slice _ _ _) (Y.cutO (l := k) (h' := m) Tryz.underlying129 Tryz.sizeOf169 rfl (.inr ⟨_, _, rfl, rfl⟩) (.inl ⟨rfl, rfl⟩) (by omega) (by omega) (by omega)) ?_
      refine Ops.y (v := .slice _ _ _) (Y.assign rfl) ?_
      refine Ops.nil ?_
      refine WP.seq ?_
      refine WP.seq ?_
      refine WP.region ?_
      refine Ops.y (v := .int .i64 _) (Y.assign rfl) ?_
      refine Ops.nil ?_
      refine WP.cutK (σ := Nat) (fun q => [(0, .slice (some ⟨gg, 0, none⟩) m c), (5, .int .i64 q)]) (fun q w => ∃ zs : List Stp, Inv B h (ownSl 169 4 (.slice (some ⟨gg, 0, none⟩) m c) m (zs.flatMap Stp.enc) :: M) w ∧ zs.take q = compactS xs ∧ q = (compactS xs).length ∧ q < m) ?_ ?_
      · refine WP.block ?_
        refine WP.loopE (σ := Nat × Nat × List Stp) (fun s => [(0, .slice (some ⟨gg, 0, none⟩) m c), (1, .func (.func 219) #[] #[]), (5, .int .i64 s.2.1), (6, .slice (some ⟨gg, k * 4, none⟩) (m - k) (c - k)), (7, .int .i64 s.1)])
          (fun s w => Inv B h (ownSl 169 4 (.slice (some ⟨gg, 0, none⟩) m c) m (s.2.2.flatMap Stp.enc) :: M) w ∧ 1 ≤ s.1 ∧ k + s.1 ≤ m ∧ s.2.2.length = m ∧ s.2.1 + 1 ≤ k + s.1 ∧ s.2.2.take s.2.1 = compactS (xs.take (k + s.1)) ∧ s.2.1 = (compactS (xs.take (k + s.1))).length ∧ (∀ j, k + s.1 ≤ j + 1 → s.2.2[j]? = xs[j]?)) (fun s => m - s.1)
          ⟨(1, k, xs), ⟨rfl, rfl, rfl, rfl, rfl, trivial⟩, I, Nat.le_refl _, by dsimp only; omega, hm.symm, by dsimp only; omega, hc1.symm, by dsimp only; rw [hc1, List.length_take]; omega, fun _ _ => rfl⟩ ?_
        rintro ⟨k2, q, zs⟩ e w ⟨I, h1, h2, hzl, hq1, hq2, hq3, hz⟩
        dsimp only at I h1 h2 hzl hq1 hq2 hq3 hz ⊢
        refine WP.seq ?_
        refine WP.seq ?_
        refine WP.region ?_
        refine Ops.y (v := .int .i64 _) (Y.move rfl) ?_
        refine Ops.y (v := .slice _ _ _) (Y.move rfl) ?_
        refine Ops.y (v := .int .i64 _) (Y.lens Tryz.underlying129 rfl) ?_
        refine Ops.y (v := .bool (decide _)) (Y.lti rfl rfl) ?_
        refine Ops.nil ?_
        refine WP.cond_dec rfl (fun h9 => ?_) (fun h9 => ?_)
        · have hkk : k + k2 < xs.length := by omega
          have f1 : zs[k + k2]? = some xs[k + k2] := by rw [hz _ (by omega)]; exact List.getElem?_eq_getElem hkk
          have f0 : zs[k + k2 - 1]? = some xs[k + k2 - 1] := by rw [hz _ (by omega)]; exact List.getElem?_eq_getElem (by omega)
          have hct := compact_take (xs := xs) (k := k + k2) (by omega) hkk
          refine WP.skip ?_
          refine WP.seq ?_
          refine WP.block ?_
          refine WP.seq ?_
          refine WP.regionQ mixed I (by kernel_rfl) ?_
          refine OpsQ.y (v := .func _ _ _) (fun w I => Y.move rfl) ?_
          refine OpsQ.y (v := .slice _ _ _) (fun w I => Y.move rfl) ?_
          refine OpsQ.y (v := .int .i64 _) (fun w I => Y.move rfl) ?_
          refine OpsQ.y (v := .pointer (some ⟨_, _, none⟩)) (fun w I => Y.idx Tryz.underlying129 Tryz.sizeOf169 rfl rfl (by omega) (by omega)) ?_
          refine OpsQ.y (v := .agg #[_, _, _, _]) (fun w I => Y.loadv ty_169 rfl (I.rdE 0 rfl f1 (by omega)) rfl rfl) ?_
          refine OpsQ.y (v := .slice _ _ _) (fun w I => Y.move rfl) ?_
          refine OpsQ.y (v := .int .i64 _) (fun w I => Y.move rfl) ?_
          refine OpsQ.y (v := .int .i64 _) (fun w I => Y.subi rfl rfl ⟨by omega, by omega⟩) ?_
          refine OpsQ.y (v := .pointer (some ⟨_, _, none⟩)) (fun w I => Y.idx Tryz.underlying129 Tryz.sizeOf169 rfl rfl (by omega) (by omega)) ?_
          refine OpsQ.y (v := .agg #[_, _, _, _]) (fun w I => Y.loadv ty_169 rfl (I.rdE 0 rfl f0 (by omega)) rfl rfl) ?_
          refine OpsQ.c (fun w I => QC.callcv I Tryz.call219 (fs := []) (cs := []) rfl (Steps3_ok _ I.base_ok xs[k + k2] xs[k + k2 - 1]) rfl) ?_
          refine OpsQ.y (v := .bool (decide _)) (fun w I => Y.notd rfl) ?_
          refine OpsQ.nil ?_
          intro w I
          refine WP.cond_dec rfl (fun h11 => ?_) (fun h11 => ?_)
          · have hne : xs[k + k2] ≠ xs[k + k2 - 1] := h11
            rw [if_neg hne] at hct
            refine WP.seq ?_
            refine WP.region ?_
            refine Ops.y (v := .slice _ _ _) (Y.move rfl) ?_
            refine Ops.y (v := .int .i64 _) (Y.move rfl) ?_
            refine Ops.y (v := .slice _ _ _) (Y.move rfl) ?_
            refine Ops.y (v := .int .i64 _) (Y.move rfl) ?_
            refine Ops.y (v := .pointer (some ⟨_, _, none⟩)) (Y.idx Tryz.underlying129 Tryz.sizeOf169 rfl rfl (by omega) (by omega)) ?_
            refine Ops.y (v := .agg #[_, _, _, _]) (Y.loadv ty_169 rfl (I.rdE 0 rfl f1 (by omega)) rfl rfl) ?_
            refine Ops.y (v := .pointer (some ⟨_, _, none⟩)) (Y.idx Tryz.underlying129 Tryz.sizeOf169 rfl rfl (by omega) (by omega)) ?_
            refine Ops.go (O.storeE (vs := xs[k+k2].enc) I ty_169 et_169 0 rfl rfl rfl rfl rfl rfl (by rw [flat_len stp_len, stp_len]; omega) ?_)
            intro w I
            refine Ops.nil ?_
            refine WP.region ?_
            refine Ops.y (v := .int .i64 _) (Y.move rfl) ?_
            refine Ops.y (v := .int .i64 _) (Y.addi rfl rfl ⟨by omega, by omega⟩) ?_
            refine Ops.y (v := .int .i64 _) (Y.assign rfl) ?_
            refine Ops.nil ?_
            refine WP.region ?_
            refine Ops.y (v := .int .i64 _) (Y.move rfl) ?_
            refine Ops.y (v := .int .i64 _) (Y.addi rfl rfl ⟨by omega, by omega⟩) ?_
            refine Ops.y (v := .int .i64 _) (Y.assign rfl) ?_
            refine Ops.nil ?_
            have I : Inv B h (ownSl 169 4 (.slice (some ⟨gg, 0, none⟩) m c) m ((zs.set q xs[k + k2]).flatMap Stp.enc) :: M) w := by
              rw [← flat_over _ _ _ (by omega)]
              have J := I
              simp only [Int.toNat_natCast, Nat.zero_add] at J
              exact J
            refine ⟨(k2 + 1, q + 1, zs.set q xs[k + k2]), ⟨⟨rfl, rfl, rfl, rfl, rfl, trivial⟩, I, by dsimp only; omega, by dsimp only; omega, by simpa using hzl, by dsimp only; omega, ?_, ?_, fun j hj => ?_⟩, by dsimp only; omega⟩
            · dsimp only
              rw [show k + (k2 + 1) = k + k2 + 1 by omega, hct, ← hq2, List.take_succ_eq_append_getElem (by simp; omega), take_set_self]
              simp
            · dsimp only
              rw [show k + (k2 + 1) = k + k2 + 1 by omega, hct, List.length_append, ← hq3]; rfl
            · dsimp only at hj ⊢
              rw [List.getElem?_set_ne (by omega)]
              exact hz j (by omega)
          · have heq : xs[k + k2] = xs[k + k2 - 1] := Decidable.not_not.1 h11
            rw [if_pos heq, List.append_nil] at hct
            refine WP.skip ?_
            refine WP.region ?_
            refine Ops.y (v := .int .i64 _) (Y.move rfl) ?_
            refine Ops.y (v := .int .i64 _) (Y.addi rfl rfl ⟨by omega, by omega⟩) ?_
            refine Ops.y (v := .int .i64 _) (Y.assign rfl) ?_
            refine Ops.nil ?_
            exact ⟨(k2 + 1, q, zs), ⟨⟨rfl, rfl, rfl, rfl, rfl, trivial⟩, I, by dsimp only; omega, by dsimp only; omega, hzl, by dsimp only; omega, by dsimp only; rw [show k + (k2 + 1) = k + k2 + 1 by omega, hct]; exact hq2, by dsimp only; rw [show k + (k2 + 1) = k + k2 + 1 by omega, hct]; exact hq3, fun j hj => hz j (by dsimp only at hj; omega)⟩, by dsimp only; omega⟩
        · have hkm : k + k2 = xs.length := by omega
          rw [hkm, List.take_length] at hq2 hq3
          refine WP.exit ?_
          exact ⟨q, ⟨rfl, rfl, trivial⟩, zs, I, hq2, hq3, by omega⟩
      rintro q e w ⟨zs, I, hq2, hq3, hq4⟩
      have I := I.cutSl (m := q) (by omega)
      rw [flat_take stp_len, hq2] at I
      refine WP.seq ?_
      refine WP.region ?_
      refine Ops.y (v := .slice _ _ _) (Y.move rfl) ?_
      refine Ops.y (v := .int .i64 _) (Y.move rfl) ?_
      refine Ops.y (v := .slice _ _ _) (Y.cutO (l := q) (h' := m) Tryz.underlying129 Tryz.sizeOf169 rfl (.inr ⟨_, _, rfl, rfl⟩) (.inl ⟨rfl, rfl⟩) (by omega) (by omega) (by omega)) ?_
      refine Ops.go (O.clearS I Tryz.underlying129 et_169 (by simp [Value.cells, Value.oneCell']) rfl (by omega) rfl (by omega) ?_)
      intro w I
      refine Ops.nil ?_
      refine WP.seq ?_
      refine WP.region ?_
      refine Ops.y (v := .slice _ _ _) (Y.move rfl) ?_
      refine Ops.y (v := .int .i64 _) (Y.move rfl) ?_
      refine Ops.y (v := .slice _ _ _) (Y.cutO (l := 0) (h' := q) Tryz.underlying129 Tryz.sizeOf169 rfl (.inl ⟨rfl, rfl⟩) (.inr ⟨_, _, rfl, rfl⟩) (by omega) (by omega) (by omega)) ?_
      refine Ops.y (v := .slice _ _ _) (Y.assign rfl) ?_
      refine Ops.nil ?_
      refine WP.ret ?_
      repeat (first | refine thenE_ret ?_ | refine blockE_ret ?_)
      exact ⟨.inl rfl, [.slice (some ⟨gg, 0, none⟩) q c], ⟨rfl, trivial⟩, some ⟨gg, 0, none⟩, c, q, rfl, hq3, I⟩
    · refine WP.skip ?_
      refine WP.region ?_
      refine Ops.y (v := .int .i64 _) (Y.move rfl) ?_
      refine Ops.y (v := .int .i64 _) (Y.addi rfl rfl ⟨by omega, by omega⟩) ?_
      refine Ops.y (v := .int .i64 _) (Y.assign rfl) ?_
      refine Ops.nil ?_
      exact ⟨k + 1, ⟨⟨rfl, rfl, rfl, trivial⟩, I, by omega, by omega, fun j h0 hj hj' => by
        rcases Nat.lt_succ_iff_lt_or_eq.1 hj with h' | rfl
        · exact hn j h0 h' hj'
        · exact h6⟩, by omega⟩
  have hcx : compactS xs = xs := by
    have := compact_same (xs := xs) xs.length (Nat.le_refl _) (fun j h0 hj hj' => hn j h0 (by omega) hj')
    rwa [List.take_length] at this
  refine WP.exit ?_
  refine WP.seq ?_
  refine WP.region ?_
  refine Ops.y (v := .slice _ _ _) (Y.move rfl) ?_
  refine Ops.y (v := .slice _ _ _) (Y.assign rfl) ?_
  refine Ops.nil ?_
  refine WP.ret ?_
  repeat (first | refine thenE_ret ?_ | refine blockE_ret ?_)
  exact ⟨.inl rfl, [.slice (some ⟨gg, 0, none⟩) m c], ⟨rfl, trivial⟩, some ⟨gg, 0, none⟩, c, m, rfl, by rw [hcx]; exact hm, by rw [hcx]; exact I⟩
end Go.TF
end
section
/- Steps: all of a rule's steps, each once. -/
namespace Go.TF
open Go Go.RowKit Go.Proofs
set_option maxRecDepth 20000

theorem fplace {f : List Fct} (hp : ∀ y ∈ f, PF y) (hs : SrtF f) : ∀ i, (hi : i < f.length) → (i : Int) ≤ placeF f[i]
  | 0, hi => (hp _ (List.getElem_mem hi)).place.1
  | i + 1, hi => by
    have h1 := fplace hp hs i (by omega)
    have h2 := hs.get (i := i) (j := i + 1) (by omega) hi
    omega
theorem FOk.le125 {l : List Prd} {f : List Fct} (ok : FOk l f) : f.length ≤ 125 := by
  rcases Nat.lt_or_ge 125 f.length with h | h
  · have h1 := fplace ok.pf ok.srt 125 h
    have h2 := (ok.pf _ (List.getElem_mem h)).place.2
    omega
  · exact h
theorem lay_small {l : List Prd} {f : List Fct} {r : Rul} (ok : ROk l r) (okf : FOk l f) (b : Vrs) : (layF f (poss r.body.xs) b).length ≤ 1000000 * 2 := by
  have h1 := layF_len f (poss r.body.xs) b
  have h2 := poss_le r.body.xs
  have h3 : f.length ^ (poss r.body.xs).length ≤ 125 ^ (poss r.body.xs).length := Nat.pow_le_pow_left okf.le125 _
  have h4 : 125 ^ (poss r.body.xs).length ≤ 125 ^ 3 := Nat.pow_le_pow_right (by decide) (by have := ok.len; omega)
  have h5 : (125 : Nat) ^ 3 = 1953125 := by decide
  omega
theorem cpt_srt {n : Int} : ∀ (r : List Stp) (p : Stp), SrtS (p :: r) → (∀ x ∈ p :: r, x.rule = n) → (p :: cpt p r).Pairwise ltS ∧ ∀ x, x ∈ p :: cpt p r ↔ x ∈ p :: r
  | [], p, _, _ => ⟨by simp [cpt], fun x => by simp [cpt]⟩
  | y :: r, p, hs, hr => by
    obtain ⟨h1, h2⟩ := List.pairwise_cons.1 hs
    rw [cpt]
    split
    · rename_i e
      subst e
      obtain ⟨k1, k2⟩ := cpt_srt r y h2 (fun x hx => hr x (List.mem_cons_of_mem _ hx))
      refine ⟨k1, fun x => (k2 x).trans ?_⟩
      simp
    · rename_i e
      obtain ⟨k1, k2⟩ := cpt_srt r y h2 (fun x hx => hr x (List.mem_cons_of_mem _ hx))
      have hlt : ltS p y := by
        rcases ltV_tri p.vars y.vars with h | h | h
        · exact h
        · exfalso
          apply e
          have e1 := hr p List.mem_cons_self
          have e2 := hr y (List.mem_cons_of_mem _ List.mem_cons_self)
          cases p; cases y
          dsimp only at h e1 e2
          rw [h, e1, e2]
        · exact absurd h (h1 y List.mem_cons_self)
      refine ⟨List.pairwise_cons.2 ⟨fun z hz => ?_, k1⟩, fun x => ?_⟩
      · rcases List.mem_cons.1 hz with rfl | hz
        · exact hlt
        · exact ltV_trans hlt ((List.pairwise_cons.1 k1).1 z hz)
      · rw [List.mem_cons, k2, List.mem_cons (a := x) (b := p)]
theorem compact_srt {n : Int} {ys : List Stp} (hs : SrtS ys) (hr : ∀ x ∈ ys, x.rule = n) : (compactS ys).Pairwise ltS ∧ ∀ x, x ∈ compactS ys ↔ x ∈ ys := by
  cases ys with
  | nil => exact ⟨List.Pairwise.nil, fun _ => Iff.rfl⟩
  | cons p r => exact cpt_srt r p hs hr
theorem compact_steps {l : List Prd} {f : List Fct} {n : Int} {r : Rul} (ok : ROk l r) (okf : FOk l f) {ys : List Stp} (hp : ys.Perm (outL f n r (layF f (poss r.body.xs) b0))) (hs : SrtS ys) : compactS ys = stepsF f n r := by
  have hr : ∀ x ∈ ys, x.rule = n := fun x hx => by
    have := hp.mem_iff.1 hx
    unfold outL at this
    obtain ⟨b, _, rfl⟩ := List.mem_map.1 this
    rfl
  obtain ⟨h1, h2⟩ := compact_srt hs hr
  exact steps_eq ok okf h1 fun x => (h2 x).trans hp.mem_iff
theorem b0_bok (l : List Atm) : BOk l b0 := fun _ hv => .inl (b0_at hv)
def StpsR (xs : List Stp) : Sp := fun v h => ∃ s : Sl Stp, v = s.val ∧ s.xs = xs ∧ Stps s h
set_option maxHeartbeats 4000000 in
theorem Steps_ok (B : Base) (hB : B.ok) (p : Prg) (hp : p.In B.h) (f : Sl Fct) (hf : Fcts f B.h) (n : Int) (r : Rul) (h0 : 0 ≤ n) (hr : p.rules.xs[n.toNat]? = some r) (ok : ROk p.preds.xs r) (okf : FOk p.preds.xs f.xs) :
    Fn Tryz.prog 174 [p.val, f.val, .int .i64 n] B (StpsR (stepsF f.xs n r)) := by
  have Er := hp.rules.is.el.el hr
  have ir := hp.rules.each _ (List.mem_of_getElem? hr)
  have hlb := lay_small ok okf b0
  refine Fn.of Tryz.func174 rfl Tryz.ntmps174 (by kernel_rfl) (by simp) ?_
  intro e
  have I := Inv.start hB
  refine WP.seq ?_
  refine WP.region ?_
  refine Ops.go (O.box (v := .agg #[_, _]) I rfl rfl ?_)
  intro b3 w I
  refine Ops.go (O.box (v := .slice _ _ _) I rfl rfl ?_)
  intro b4 w I
  refine Ops.go (O.box (v := .int .i64 _) I rfl rfl ?_)
  intro b5 w I
  refine Ops.y (v := .slice _ _ _) (Y.assign rfl) ?_
  refine Ops.nil ?_
  refine WP.seq ?_
  refine WP.region ?_
  refine Ops.y (v := .pointer (some ⟨_, _, none⟩)) (Y.fa fa_25_1 rfl) ?_
  refine Ops.y (v := .slice _ _ _) (Y.loadv ty_23 rfl (I.rdbox 2 rfl 1 1) rfl rfl) ?_
  refine Ops.y (v := .int .i64 _) (Y.loadv ty_3 rfl (I.rdbox 0 rfl 0 1) rfl rfl) ?_
  refine Ops.y (v := .pointer (some ⟨_, _, none⟩)) (Y.idxEl Er Tryz.underlying23 Tryz.sizeOf64 rfl rfl h0 rfl) ?_
  refine Ops.y (v := .agg #[_, _, _, _, _]) (Y.loadv ty_64 rfl (I.rd (Er.rd.part 0 5)) rfl rfl) ?_
  refine Ops.go (O.callM I Tryz.call118 (Atoms_ok _ I.base_ok r ir.body ok.len) rfl ?_)
  rintro _ h1 _ w I le1 ⟨u1, u2, rfl, rfl⟩
  try simp only [List.cons_append, List.nil_append] at I
  refine Ops.y (v := .tuple #[_, _]) (Y.move rfl) ?_
  refine Ops.y (v := u1) (Y.extract rfl rfl) ?_
  refine Ops.y (v := u2) (Y.extract rfl rfl) ?_
  refine Ops.y (v := u1) (Y.assign rfl) ?_
  refine Ops.y (v := u2) (Y.assign rfl) ?_
  refine Ops.nil ?_
  have I := I.drop
  obtain ⟨h2, s, le2, rfl, hsx, os, I⟩ := I.settleO rfl
  have hA : AtS s h2 := by
    refine ⟨⟨os.in (fun _ => rfl), ?_⟩, ?_, fun a ha => ?_⟩
    · rw [hsx]; have := poss_le r.body.xs; have := ok.len; omega
    · rcases os with rfl | ⟨_, _, _, _, _, q, _⟩
      · exact Nat.le_refl _
      · exact q
    · rw [hsx] at ha
      obtain ⟨y, hy, _, rfl⟩ := mem_poss.1 ha
      exact Atm.In.le (ir.body.each y hy) (le1.trans le2)
  obtain ⟨h5, le5, k5, I⟩ := I.settleBox
  obtain ⟨h4, le4, k4, I⟩ := I.settleBox
  obtain ⟨h3, le3, k3, I⟩ := I.settleBox
  refine WP.seq ?_
  refine WP.region ?_
  refine Ops.go (O.alloc I Tryz.zeroValue129 rfl ?_)
  intro b9 w I
  refine Ops.nil ?_
  refine WP.seq ?_
  refine WP.region ?_
  refine Ops.go (O.alloc I Tryz.zeroValue238 rfl ?_)
  intro b10 w I
  refine Ops.nil ?_
  refine WP.seq ?_
  refine WP.region ?_
  refine Ops.y (v := .func _ _ _) (Y.mkfunc rfl rfl) ?_
  refine Ops.go (O.store (v := .func _ _ _) I ty_238 0 rfl rfl rfl rfl rfl rfl (Nat.le_of_ble_eq_true rfl) rfl ?_)
  intro w I
  refine Ops.nil ?_
  obtain ⟨h10, le10, k10, I⟩ := I.settleBox
  have gl : B.h.le h10 := ((((le1.trans le2).trans le5).trans le4).trans le3).trans le10
  have E : LayE h10 p f n r b5 b3 b4 b9 b10 := ⟨k5.le ((le4.trans le3).trans le10), k3.le le10, k4.le (le3.trans le10), k10, hp.le gl, hf.le gl⟩
  have hA := hA.le (((le5.trans le4).trans le3).trans le10)
  have I : Inv B h10 (LayM b9 none 0 0 []) w := (I.nilSl 169 4).front 1 rfl
  refine WP.seq ?_
  refine WP.region ?_
  refine Ops.y (v := .func _ _ _) (Y.loadv ty_238 rfl (I.rd (E.kl.rd.part 0 1)) rfl rfl) ?_
  refine Ops.y (v := .agg #[.int .i64 _, .int .i64 _, .int .i64 _]) (Y.builda Tryz.underlying239 Tryz.zeroValue239 Tryz.sizeOf3 rfl rfl) ?_
  refine Ops.y (v := .slice _ _ _) (Y.move rfl) ?_
  refine Ops.go (O.callcs Tryz.call213 (fs := []) (cs := [.pointer (some ⟨b5, 0, none⟩), .pointer (some ⟨b3, 0, none⟩), .pointer (some ⟨b4, 0, none⟩), .pointer (some ⟨b9, 0, none⟩), .pointer (some ⟨b10, 0, none⟩)]) rfl (lay_ok p f n r b5 b3 b4 b9 b10 h0 hr ok okf (poss r.body.xs) s b0 none 0 0 [] hsx I rfl E hA (fun x hx => hx) (b0_bok _) (by omega)) rfl ?_)
  rintro ed w ⟨rfl, h6, a6, c6, m6, le6, I, hm6⟩
  refine ⟨_, rfl, ?_⟩
  refine Ops.nil ?_
  have hol := outL_le f.xs n r (layF f.xs (poss r.body.xs) b0)
  rw [List.nil_append] at I hm6
  refine WP.seq ?_
  refine WP.region ?_
  refine Ops.y (v := .slice _ _ _) (Y.loadv ty_129 rfl (I.rdbox 0 rfl 0 1) rfl rfl) ?_
  refine Ops.go (O.calls Tryz.call215 (sort_ok (I.front 1 rfl) hm6 (by omega)) rfl ?_)
  rintro ed w ⟨rfl, ys, hperm, hsrt, I⟩
  refine ⟨_, rfl, ?_⟩
  refine Ops.nil ?_
  have hml : m6 = ys.length := by rw [hm6, hperm.length_eq]
  have I := (I.front 1 rfl)
  refine WP.seq ?_
  refine WP.region ?_
  refine Ops.y (v := .slice _ _ _) (Y.loadv ty_129 rfl (I.rdbox 0 rfl 0 1) rfl rfl) ?_
  refine Ops.go (O.calls Tryz.call218 (Compact_ok (I.front 1 rfl) hml (by omega)) rfl ?_)
  rintro ed w ⟨a7, c7, m7, rfl, hm7, I⟩
  refine ⟨_, rfl, ?_⟩
  refine Ops.y (v := .slice _ _ _) (Y.assign rfl) ?_
  refine Ops.nil ?_
  rw [compact_steps ok okf hperm hsrt] at I hm7
  obtain ⟨h8, s8, le8, e8, hx8, in8, I⟩ := I.settleSl (fun _ => rfl) hm7
  have hsm : s8.xs.length ≤ 140737488355328 := by rw [hx8, ← hm7]; have := compact_len ys; rw [compact_steps ok okf hperm hsrt, ← hm7, ← hml] at this; omega
  refine WP.ret ?_
  repeat (first | refine thenE_ret ?_ | refine blockE_ret ?_)
  exact retQ.mk (vs := [.slice _ _ _]) rfl ⟨rfl, trivial⟩ I.ext_of (⟨s8, by simp only [tup]; exact e8.symm, hx8, in8, hsm⟩)
end Go.TF
end
section
/- What is asked; one step, and all steps of a rule. -/
namespace Go.TF
open Go Go.RowKit Go.Proofs
set_option maxRecDepth 20000

structure Askd (p : Prg) (f : List Fct) (n : Int) : Prop where
  prog : checkProg p = 0
  fok : FOk p.preds.xs f
  n : 0 ≤ n ∧ n < p.rules.xs.length
theorem Askd.rule {p : Prg} {f : List Fct} {n : Int} (h : Askd p f n) : ∃ r, p.rules.xs[n.toNat]? = some r ∧ ROk p.preds.xs r := by
  have hn : n.toNat < p.rules.xs.length := by have := h.n; omega
  refine ⟨_, List.getElem?_eq_getElem hn, rok_of h.fok.len h.fok.preds ?_⟩
  exact rulesErr_zero.1 (checkProg_ok h.prog).2.2.1 _ (List.getElem_mem hn)
def AllR (r : List Stp × Int) : Sp := fun v h => ∃ s : Sl Stp, v = .tuple #[s.val, .int .i64 r.2] ∧ s.xs = r.1 ∧ Stps s h
theorem AllR.mono {r : List Stp × Int} : MonoS (AllR r) := fun _ _ _ hl ⟨s, a, b, c⟩ => ⟨s, a, b, c.le hl⟩
end Go.TF
end
section
/- What must be in any case; no literal is not; what holds of less holds of more. -/
namespace Go.TF
open Go Go.RowKit Go.Proofs
set_option maxRecDepth 20000

/-! ### Wherever they lie -/
theorem litOf_er2 (r : Rul) (k : Int) : (litOf r.er k).atom.args.xs = (litOf r k).atom.args.xs ∧ (litOf r.er k).atom.pred = (litOf r k).atom.pred := by
  have h : r.er.body.xs = r.body.xs.map Ltl.er := rfl
  unfold litOf
  rw [h, List.getD_eq_getElem?_getD, List.getD_eq_getElem?_getD, List.getElem?_map]
  cases r.body.xs[k.toNat]? <;> exact ⟨rfl, rfl⟩
theorem groundF_of {a b : Atm} (h : a.args.xs = b.args.xs ∧ a.pred = b.pred) (x : Vrs) : groundF a x = groundF b x := by
  obtain ⟨p, s⟩ := a; obtain ⟨q, t⟩ := b
  obtain ⟨h1, h2⟩ := h
  dsimp only at h1 h2
  subst h2
  unfold groundF
  simp only [argv, h1]
theorem holdsB_er (f : List Fct) (r : Rul) (x : Vrs) : holdsB f r.er x = holdsB f r x := by
  have h : r.er.body.xs = r.body.xs.map Ltl.er := rfl
  unfold holdsB
  rw [h, List.all_map]
  rfl
theorem headF_er (l : List Prd) (f : List Fct) (r : Rul) (x : Vrs) : headF l f r.er x = headF l f r x := by
  unfold headF headV
  rw [groundF_of (litOf_er2 r r.er.src)]
  rfl
theorem stepsF_er (f : List Fct) (n : Int) (r : Rul) : stepsF f n r.er = stepsF f n r := by
  have h : r.er.body.xs = r.body.xs.map Ltl.er := rfl
  have hs : standsR r.er = standsR r := by
    funext v
    unfold standsR
    rw [h, List.any_map]
    rfl
  unfold stepsF stdOk
  rw [hs]
  simp only [holdsB_er]
/-! ### The roads -/
section
variable {p : Prg} {h : Heap} (hp : RoadsAt p h)
include hp
end
section
variable (B : Base) (hB : B.ok) (p : Prg) (hp : p.In B.h) (hnm : p.Nm) (f : Sl Fct) (hf : Fcts f B.h) (n : Int)
include hB hp hnm hf
end
/-! ### No literal is not -/
/-! ### What holds of less holds of more -/
theorem isF_up {l : List Prd} {f g : List Fct} (hu : underF l f g = true) {y : Fct} (h : isF f y = true) : isF g y = true := by
  unfold isF at *
  cases hl : lkF f (placeF y) with
  | none => rw [hl] at h; cases h
  | some v =>
    obtain ⟨z, hz, e, _⟩ := lkF_mem hl
    obtain ⟨u, h1, _⟩ := underF_iff.1 hu z hz
    rw [← e, h1]; rfl
end Go.TF
end
section
/- What the document says of a step and of all steps of a rule. -/
namespace Go.TF
open Go Go.RowKit Go.Proofs
set_option maxRecDepth 20000

end Go.TF
end
section
/- What stands in a rule; all steps of a rule, as the document tells them. -/
namespace Go.TF
open Go Go.RowKit Go.Proofs
set_option maxRecDepth 20000

end Go.TF
end
section
/- A round: asked, which rules, what they tell; put one behind the other. -/
namespace Go.TF
open Go Go.RowKit Go.Proofs
set_option maxRecDepth 20000

theorem rules_rok {p : Prg} (h : checkProg p = 0) {f : List Fct} (okf : FOk p.preds.xs f) : ∀ r ∈ p.rules.xs, ROk p.preds.xs r := fun r hr =>
  rok_of okf.len okf.preds (rulesErr_zero.1 (checkProg_ok h).2.2.1 r hr)
/-- A test of a rule's number, as a function that keeps cs. -/
def OfC (P : Program) (g : FuncId) (cs : List Value) (h : Heap) (len : Nat) (q : Nat → Bool) : Prop :=
  Enters P g ∧ ∀ B : Base, B.ok → h.le B.h → ∀ n : Nat, n < len → Fn P g ([.int .i64 n] ++ cs) B (fun v _ => v = .bool (q n))
theorem OfC.le {P : Program} {g : FuncId} {cs : List Value} {h h' : Heap} {len : Nat} {q : Nat → Bool} (o : OfC P g cs h len q) (hl : h.le h') : OfC P g cs h' len q := ⟨o.1, fun B hB hle => o.2 B hB (hl.trans hle)⟩
theorem ROf_ok (B : Base) (hB : B.ok) (p : Prg) (s : Sl Int) (st : Int) : Fn Tryz.prog 78 [p.val, s.val, .int .i64 st] B (fun v h => ∃ b4 b3 b5, v = .func (.func 133) #[] #[.pointer (some ⟨b4, 0, none⟩), .pointer (some ⟨b3, 0, none⟩), .pointer (some ⟨b5, 0, none⟩)] ∧ Known h b4 [s.val] ∧ Known h b3 p.enc ∧ Known h b5 [.int .i64 st]) := by
  refine Fn.of Tryz.func78 rfl Tryz.ntmps78 (by kernel_rfl) (by simp) ?_
  intro e
  have I := Inv.start hB
  refine WP.seq ?_
  refine WP.region ?_
  refine Ops.go (O.box (v := .agg #[_, _]) I rfl rfl ?_)
  intro b3 w I
  refine Ops.go (O.box (v := .slice _ _ _) I rfl rfl ?_)
  intro b4 w I
  refine Ops.go (O.box (v := .int .i64 _) I rfl rfl ?_)
  intro b5 w I
  refine Ops.y (v := .nilFunc) (Y.assign rfl) ?_
  refine Ops.nil ?_
  refine WP.seq ?_
  refine WP.region ?_
  refine Ops.y (v := .func _ _ _) (Y.mkfunc rfl rfl) ?_
  refine Ops.y (v := .func _ _ _) (Y.assign rfl) ?_
  refine Ops.nil ?_
  obtain ⟨h5, le5, k5, I⟩ := I.settleBox
  obtain ⟨h4, le4, k4, I⟩ := I.settleBox
  obtain ⟨h3, le3, k3, I⟩ := I.settleBox
  refine WP.ret ?_
  repeat (first | refine thenE_ret ?_ | refine blockE_ret ?_)
  exact retQ.mk (vs := [.func _ _ _]) rfl ⟨rfl, trivial⟩ I.ext_of (⟨b4, b3, b5, rfl, k4.le le3, k3, k5.le (le4.trans le3)⟩)
theorem ROf1_ok (p : Prg) (s : Sl Int) (st : Int) (b4 b3 b5 : Nat) {h : Heap} (k4 : Known h b4 [s.val]) (k3 : Known h b3 p.enc) (k5 : Known h b5 [.int .i64 st]) (hp : p.In h) (hs : s.Is 1 iEnc h) (hl : s.xs.length = p.preds.xs.length) (hin : ∀ r ∈ p.rules.xs, 0 ≤ r.head.pred ∧ r.head.pred < p.preds.xs.length) :
    OfC Tryz.prog 133 [.pointer (some ⟨b4, 0, none⟩), .pointer (some ⟨b3, 0, none⟩), .pointer (some ⟨b5, 0, none⟩)] h p.rules.xs.length (ofQ p s.xs st) := by
  refine ⟨Tryz.call133, fun B hB hle n hn => ?_⟩
  have k4 := k4.le hle
  have k3 := k3.le hle
  have k5 := k5.le hle
  have hp := hp.le hle
  have Er := hp.rules.is.at hn
  obtain ⟨i0, i1⟩ := hin _ (List.getElem_mem hn)
  have El1 := (hs.le hle).el.el (lv_some hl i0 i1)
  have hq : ofQ p s.xs st n = decide (lv s.xs p.rules.xs[n].head.pred = st) := by unfold ofQ; rw [List.getD_eq_getElem?_getD, List.getElem?_eq_getElem hn]; rfl
  show Fn Tryz.prog 133 [.int .i64 n, .pointer (some ⟨b4, 0, none⟩), .pointer (some ⟨b3, 0, none⟩), .pointer (some ⟨b5, 0, none⟩)] B _
  refine Fn.of Tryz.func133 rfl Tryz.ntmps133 (by kernel_rfl) (by simp) ?_
  intro e
  have I := Inv.start hB
  refine WP.seq ?_
  refine WP.region ?_
  refine Ops.y (v := .bool _) (Y.assign rfl) ?_
  refine Ops.nil ?_
  refine WP.seq ?_
  refine WP.regionQ mixed I (by kernel_rfl) ?_
  refine OpsQ.y (v := .slice _ _ _) (fun w I => Y.loadv ty_78 rfl (I.rd (k4.rd.part 0 1)) rfl rfl) ?_
  refine OpsQ.y (v := .pointer (some ⟨_, _, none⟩)) (fun w I => Y.fa fa_25_1 rfl) ?_
  refine OpsQ.y (v := .slice _ _ _) (fun w I => Y.loadv ty_23 rfl (I.rd (k3.rd.part 1 1)) rfl rfl) ?_
  refine OpsQ.y (v := .int .i64 _) (fun w I => Y.move rfl) ?_
  refine OpsQ.y (v := .pointer (some ⟨_, _, none⟩)) (fun w I => Y.idxEl Er Tryz.underlying23 Tryz.sizeOf64 rfl rfl (Int.natCast_nonneg _) rfl) ?_
  refine OpsQ.y (v := .pointer (some ⟨_, _, none⟩)) (fun w I => Y.fa0 fa_64_0 rfl) ?_
  refine OpsQ.y (v := .pointer (some ⟨_, _, none⟩)) (fun w I => Y.fa0 fa_61_0 rfl) ?_
  refine OpsQ.y (v := .int .i64 _) (fun w I => Y.loadv ty_3 rfl (I.rd (Er.rd.part 0 1)) rfl rfl) ?_
  refine OpsQ.y (v := .pointer (some ⟨_, _, none⟩)) (fun w I => Y.idxEl El1 Tryz.underlying78 Tryz.sizeOf3 rfl rfl i0 rfl) ?_
  refine OpsQ.y (v := .int .i64 _) (fun w I => Y.loadv ty_3 rfl (I.rd (El1.rd.part 0 1)) rfl rfl) ?_
  refine OpsQ.y (v := .int .i64 _) (fun w I => Y.loadv ty_3 rfl (I.rd (k5.rd.part 0 1)) rfl rfl) ?_
  refine OpsQ.y (v := .bool (decide _)) (fun w I => Y.eqi rfl rfl) ?_
  refine OpsQ.y (v := .bool _) (fun w I => Y.assign rfl) ?_
  refine OpsQ.nil ?_
  intro w I
  refine WP.ret ?_
  repeat (first | refine thenE_ret ?_ | refine blockE_ret ?_)
  exact retQ.mk (vs := [.bool _]) rfl ⟨rfl, trivial⟩ I.ext_of (by simp only [tup]; rw [hq])
theorem Told_ok (B : Base) (hB : B.ok) (p : Prg) (f : Sl Fct) (g : FuncId) (cs : List Value) : Fn Tryz.prog 131 [p.val, f.val, .func (.func g) #[] cs.toArray] B (fun v h => ∃ b3 b5 b4, v = .func (.func 173) #[] #[.pointer (some ⟨b3, 0, none⟩), .pointer (some ⟨b5, 0, none⟩), .pointer (some ⟨b4, 0, none⟩)] ∧ Known h b3 p.enc ∧ Known h b5 [.func (.func g) #[] cs.toArray] ∧ Known h b4 [f.val]) := by
  refine Fn.of Tryz.func131 rfl Tryz.ntmps131 (by kernel_rfl) (by simp) ?_
  intro e
  have I := Inv.start hB
  refine WP.seq ?_
  refine WP.region ?_
  refine Ops.go (O.box (v := .agg #[_, _]) I rfl rfl ?_)
  intro b3 w I
  refine Ops.go (O.box (v := .slice _ _ _) I rfl rfl ?_)
  intro b4 w I
  refine Ops.go (O.box (v := .func _ _ _) I rfl rfl ?_)
  intro b5 w I
  refine Ops.y (v := .nilFunc) (Y.assign rfl) ?_
  refine Ops.nil ?_
  refine WP.seq ?_
  refine WP.region ?_
  refine Ops.y (v := .func _ _ _) (Y.mkfunc rfl rfl) ?_
  refine Ops.y (v := .func _ _ _) (Y.assign rfl) ?_
  refine Ops.nil ?_
  obtain ⟨h5, le5, k5, I⟩ := I.settleBox
  obtain ⟨h4, le4, k4, I⟩ := I.settleBox
  obtain ⟨h3, le3, k3, I⟩ := I.settleBox
  refine WP.ret ?_
  repeat (first | refine thenE_ret ?_ | refine blockE_ret ?_)
  exact retQ.mk (vs := [.func _ _ _]) rfl ⟨rfl, trivial⟩ I.ext_of (⟨b3, b5, b4, rfl, k3, k5.le (le4.trans le3), k4.le le3⟩)
def tEnc (t : Stp × Fct) : List Value := [t.1.val, t.2.val]
set_option maxHeartbeats 4000000 in
theorem Told1_iter (p : Prg) (f : Sl Fct) (g : FuncId) (cs : List Value) (q : Nat → Bool) (bp bo bf : Nat) (h : Heap) (kp : Known h bp p.enc) (ko : Known h bo [.func (.func g) #[] cs.toArray]) (kf : Known h bf [f.val]) (hp : p.In h) (hf : Fcts f h)
    (hpr : checkProg p = 0) (okf : FOk p.preds.xs f.xs) (ho : OfC Tryz.prog g cs h p.rules.xs.length q) :
    Iter Tryz.prog 173 [.pointer (some ⟨bp, 0, none⟩), .pointer (some ⟨bo, 0, none⟩), .pointer (some ⟨bf, 0, none⟩)] tEnc (toldL p.preds.xs f.xs p.rules.xs q) h := by
  intro l J Jx hg W hle j0 hok hext hround
  have hsm := hp.rules.is.small
  refine Calls.ofWP (args := [.func (.yield l) #[] #[], .pointer (some ⟨bp, 0, none⟩), .pointer (some ⟨bo, 0, none⟩), .pointer (some ⟨bf, 0, none⟩)]) Tryz.func173 rfl Tryz.ntmps173 (by kernel_rfl) (by simp) ?_
  intro e
  have I := Inv.start (hok _ _ _ j0)
  have kp0 := kp.le hle
  refine WP.seq ?_
  refine WP.region ?_
  refine Ops.y (v := .pointer (some ⟨_, _, none⟩)) (Y.fa fa_25_1 rfl) ?_
  refine Ops.y (v := .slice _ _ _) (Y.loadv ty_23 rfl (I.rd (kp0.rd.part 1 1)) rfl rfl) ?_
  refine Ops.y (v := .int .i64 _) (Y.lens Tryz.underlying23 rfl) ?_
  refine Ops.y (v := .int .i64 _) (Y.move rfl) ?_
  refine Ops.nil ?_
  refine WP.block ?_
  refine WP.loopE (σ := Nat) (fun n => [(0, .func (.yield l) #[] #[]), (1, .pointer (some ⟨bp, 0, none⟩)), (2, .pointer (some ⟨bo, 0, none⟩)), (3, .pointer (some ⟨bf, 0, none⟩)), (12, .int .i64 p.rules.xs.length), (13, .int .i64 n)])
    (fun n w => n ≤ p.rules.xs.length ∧ ∃ h1, hg.le h1 ∧ J h1 (toldK p.preds.xs f.xs p.rules.xs q n).length w) (fun n => p.rules.xs.length - n)
    ⟨0, ⟨rfl, rfl, rfl, rfl, rfl, rfl, trivial⟩, Nat.zero_le _, hg, Heap.le.refl _, j0⟩ ?_
  rintro n e w ⟨hn, h1, gl1, j1⟩
  have I := Inv.start (hok _ _ _ j1)
  have l1 := hle.trans gl1
  have kp := kp.le l1
  have ko := ko.le l1
  have kf := kf.le l1
  have hp := hp.le l1
  have hf := hf.le l1
  refine WP.seq ?_
  refine WP.region ?_
  refine Ops.y (v := .bool (decide _)) (Y.lti rfl rfl) ?_
  refine Ops.nil ?_
  refine WP.seq ?_
  refine WP.cond_dec rfl (fun hc => ?_) (fun hc => ?_)
  · have hn' : n < p.rules.xs.length := by omega
    have hr : p.rules.xs[n]? = some p.rules.xs[n] := List.getElem?_eq_getElem hn'
    have hr' : p.rules.xs[(n : Int).toNat]? = some p.rules.xs[n] := by rw [Int.toNat_natCast]; exact hr
    have ok := rules_rok hpr okf _ (List.getElem_mem hn')
    have hgd : p.rules.xs.getD n default = p.rules.xs[n] := by rw [List.getD_eq_getElem?_getD, hr]; rfl
    refine WP.skip ?_
    refine WP.seq ?_
    refine WP.block ?_
    refine WP.seq ?_
    refine WP.region ?_
    refine Ops.y (v := .int .i64 _) (Y.move rfl) ?_
    refine Ops.y (v := .int .i64 _) (Y.assign rfl) ?_
    refine Ops.nil ?_
    refine WP.seq ?_
    refine WP.seq ?_
    refine WP.region ?_
    refine Ops.y (v := .func _ _ _) (Y.loadv ty_123 rfl (I.rd (ko.rd.part 0 1)) rfl rfl) ?_
    refine Ops.y (v := .int .i64 _) (Y.move rfl) ?_
    refine Ops.go (O.callcv I ho.1 (fs := []) (cs := cs) rfl (ho.2 _ I.base_ok l1 n hn') rfl ?_)
    intro w I
    refine Ops.y (v := .bool _) (Y.not rfl) ?_
    refine Ops.nil ?_
    refine WP.cond rfl (fun h3 => ?_) (fun h3 => ?_)
    · have hq : q n = false := by simpa using h3
      have hN : toldN p.preds.xs f.xs p.rules.xs q n = [] := by unfold toldN; rw [hq]; rfl
      refine WP.exit ?_
      refine WP.region ?_
      refine Ops.y (v := .int .i64 _) (Y.addi rfl rfl ⟨by omega, by omega⟩) ?_
      refine Ops.y (v := .int .i64 _) (Y.move rfl) ?_
      refine Ops.nil ?_
      exact ⟨n + 1, ⟨⟨rfl, rfl, rfl, rfl, rfl, rfl, trivial⟩, by omega, h1, gl1, by rw [toldK_succ, hN, List.append_nil]; exact hext _ _ _ _ _ j1 I.ext_of⟩, by omega⟩
    have hq : q n = true := by simpa using h3
    have hN : toldN p.preds.xs f.xs p.rules.xs q n = (stepsF f.xs n p.rules.xs[n]).map fun s => (s, headF p.preds.xs f.xs p.rules.xs[n] s.vars) := by unfold toldN; rw [hq, if_pos rfl, hgd]
    refine WP.skip ?_
    refine WP.seq ?_
    refine WP.region ?_
    refine Ops.y (v := .agg #[_, _]) (Y.loadv ty_25 rfl (I.rd (kp.rd.part 0 2)) rfl rfl) ?_
    refine Ops.y (v := .slice _ _ _) (Y.loadv ty_31 rfl (I.rd (kf.rd.part 0 1)) rfl rfl) ?_
    refine Ops.y (v := .int .i64 _) (Y.move rfl) ?_
    refine Ops.go (O.call I Tryz.call174 (Steps_ok _ I.base_ok p hp f hf n p.rules.xs[n] (by omega) hr' ok okf) rfl ?_)
    rintro _ h2 w I le2 ⟨s, rfl, hs, is⟩
    refine Ops.y (v := .int .i64 _) (Y.lens Tryz.underlying129 rfl) ?_
    refine Ops.y (v := .int .i64 _) (Y.move rfl) ?_
    refine Ops.nil ?_
    have kp := kp.le le2
    have ko := ko.le le2
    have kf := kf.le le2
    have hp := hp.le le2
    have hf := hf.le le2
    have hss := is.small
    refine WP.block ?_
    refine WP.loopE (σ := Nat) (fun k => [(0, .func (.yield l) #[] #[]), (1, .pointer (some ⟨bp, 0, none⟩)), (2, .pointer (some ⟨bo, 0, none⟩)), (3, .pointer (some ⟨bf, 0, none⟩)), (12, .int .i64 p.rules.xs.length), (13, .int .i64 n), (5, .int .i64 n), (23, s.val), (24, .int .i64 s.xs.length), (25, .int .i64 k)])
      (fun k w => k ≤ s.xs.length ∧ ∃ h3, h2.le h3 ∧ J h3 ((toldK p.preds.xs f.xs p.rules.xs q n).length + k) w) (fun k => s.xs.length - k)
      ⟨0, ⟨rfl, rfl, rfl, rfl, rfl, rfl, rfl, rfl, rfl, rfl, trivial⟩, Nat.zero_le _, h2, Heap.le.refl _, hext _ _ _ _ _ j1 I.ext_of⟩ ?_
    rintro k e w ⟨hk, h3, gl3, j3⟩
    have I := Inv.start (hok _ _ _ j3)
    have kp := kp.le gl3
    have ko := ko.le gl3
    have kf := kf.le gl3
    have hp := hp.le gl3
    have hf := hf.le gl3
    refine WP.seq ?_
    refine WP.region ?_
    refine Ops.y (v := .bool (decide _)) (Y.lti rfl rfl) ?_
    refine Ops.nil ?_
    refine WP.seq ?_
    refine WP.cond_dec rfl (fun h5 => ?_) (fun h5 => ?_)
    · have hk' : k < s.xs.length := by omega
      have E := (is.le gl3).at hk'
      have hmem : s.xs[k] ∈ stepsF f.xs n p.rules.xs[n] := hs ▸ List.getElem_mem hk'
      obtain ⟨_, hvs, hhf⟩ := steps_holds hmem
      obtain ⟨y, hy⟩ : ∃ y, headF p.preds.xs f.xs p.rules.xs[n] s.xs[k].vars = y := ⟨_, rfl⟩
      have hyF : holdsF p.preds.xs f.xs p.rules.xs[n] s.xs[k].vars = (true, y) := by unfold holdsF; rw [if_pos hhf, hy]
      have hget : (toldN p.preds.xs f.xs p.rules.xs q n)[k]? = some (s.xs[k], y) := by rw [hN, List.getElem?_map, ← hs, List.getElem?_eq_getElem hk', ← hy]; rfl
      refine WP.skip ?_
      refine WP.seq ?_
      refine WP.block ?_
      refine WP.seq ?_
      refine WP.region ?_
      refine Ops.y (v := .pointer (some ⟨_, _, none⟩)) (Y.idxEl E Tryz.underlying129 Tryz.sizeOf169 rfl rfl (Int.natCast_nonneg _) rfl) ?_
      refine Ops.y (v := .agg #[_, _, _, _]) (Y.loadv ty_169 rfl (I.rd (E.rd.part 0 4)) rfl rfl) ?_
      refine Ops.go (O.alloc I Tryz.zeroValue169 rfl ?_)
      intro b7 w I
      refine Ops.go (O.store (v := .agg #[_, _, _, _]) I ty_169 0 rfl rfl rfl rfl rfl rfl (Nat.le_of_ble_eq_true rfl) rfl ?_)
      intro w I
      refine Ops.nil ?_
      refine WP.seq ?_
      refine WP.region ?_
      refine Ops.y (v := .agg #[_, _]) (Y.loadv ty_25 rfl (I.rd (kp.rd.part 0 2)) rfl rfl) ?_
      refine Ops.y (v := .slice _ _ _) (Y.loadv ty_31 rfl (I.rd (kf.rd.part 0 1)) rfl rfl) ?_
      refine Ops.y (v := .int .i64 _) (Y.move rfl) ?_
      refine Ops.y (v := .pointer (some ⟨_, _, none⟩)) (Y.fa fa_169_1 rfl) ?_
      refine Ops.y (v := .agg #[_, _, _]) (Y.loadv ty_167 rfl (I.rdbox 0 rfl 1 3) rfl rfl) ?_
      refine Ops.go (O.callv I Tryz.call175 (FOf_at _ I.base_ok p hp f hf n p.rules.xs[n] (by omega) hr' ok okf s.xs[k].vars hvs (true, y) hyF) rfl ?_)
      intro w I
      refine Ops.y (v := .tuple #[_, _]) (Y.move rfl) ?_
      refine Ops.y (v := .bool _) (Y.extract rfl rfl) ?_
      refine Ops.y (v := .agg #[_, _, _, _]) (Y.extract rfl rfl) ?_
      refine Ops.go (O.alloc I Tryz.zeroValue83 rfl ?_)
      intro b9 w I
      refine Ops.y (v := .bool _) (Y.assign rfl) ?_
      refine Ops.go (O.store (v := .agg #[_, _, _, _]) I ty_83 0 rfl rfl rfl rfl rfl rfl (Nat.le_of_ble_eq_true rfl) rfl ?_)
      intro w I
      refine Ops.nil ?_
      refine WP.seq ?_
      refine WP.regionX (by kernel_rfl) ?_
      refine OpsX.y (v := .func _ _ _) (Y.move rfl) ?_
      refine OpsX.y (v := .agg #[_, _, _, _]) (Y.loadv ty_169 rfl (I.rdbox 1 rfl 0 4) rfl rfl) ?_
      refine OpsX.y (v := .agg #[_, _, _, _]) (Y.loadv ty_83 rfl (I.rdbox 0 rfl 0 4) rfl rfl) ?_
      refine OpsX.yield rfl rfl (hround h3 _ _ _ (gl1.trans (le2.trans gl3)) (toldK_get hn' hget) (hext _ _ _ _ _ j3 I.ext_of)) ?_
      rintro ed w (⟨rfl, h4, gl4, j4⟩ | ⟨rfl, jx⟩)
      · refine ⟨_, rfl, ?_⟩
        refine OpsX.y (v := .bool _) (Y.not rfl) ?_
        refine OpsX.nil ?_
        refine WP.cond_f rfl ?_
        refine WP.skip ?_
        refine WP.region ?_
        refine Ops.y (v := .int .i64 _) (Y.addi rfl rfl ⟨by omega, by omega⟩) ?_
        refine Ops.y (v := .int .i64 _) (Y.move rfl) ?_
        refine Ops.nil ?_
        exact ⟨k + 1, ⟨⟨rfl, rfl, rfl, rfl, rfl, rfl, rfl, rfl, rfl, rfl, trivial⟩, by omega, h4, gl3.trans gl4, j4⟩, by omega⟩
      · refine ⟨_, rfl, ?_⟩
        refine OpsX.y (v := .bool _) (Y.not rfl) ?_
        refine OpsX.nil ?_
        refine WP.cond_t rfl ?_
        refine WP.ret ?_
        repeat (first | refine thenE_ret ?_ | refine blockE_ret ?_)
        exact ⟨.inl rfl, [], trivial, ⟨_, rfl⟩, .inr jx⟩
    obtain rfl : k = s.xs.length := by omega
    refine WP.exit ?_
    refine WP.region ?_
    refine Ops.y (v := .int .i64 _) (Y.addi rfl rfl ⟨by omega, by omega⟩) ?_
    refine Ops.y (v := .int .i64 _) (Y.move rfl) ?_
    refine Ops.nil ?_
    exact ⟨n + 1, ⟨⟨rfl, rfl, rfl, rfl, rfl, rfl, trivial⟩, by omega, h3, gl1.trans (le2.trans gl3), by rw [toldK_succ, hN, List.length_append, List.length_map, ← hs]; exact j3⟩, by omega⟩
  obtain rfl : n = p.rules.xs.length := by omega
  refine WP.exit ?_
  exact ⟨.inr rfl, [], trivial, ⟨_, rfl⟩, .inl ⟨h1, gl1, j1⟩⟩
end Go.TF
end
section
/- Turn, Once, Closed. -/
namespace Go.TF
open Go Go.RowKit Go.Proofs
set_option maxRecDepth 20000

set_option maxHeartbeats 4000000 in
theorem Turn_own (B : Base) (hB : B.ok) (p : Prg) (hp : p.In B.h) (hpr : checkProg p = 0) (f : Sl Fct) (hf : Fcts f B.h) (okf : FOk p.preds.xs f.xs) (g : FuncId) (cs : List Value) (q : Nat → Bool) (ho : OfC Tryz.prog g cs B.h p.rules.xs.length q) :
    Fn Tryz.prog 77 [p.val, f.val, .func (.func g) #[] cs.toArray] B (PutO B.h (turnL p.preds.xs f.xs (toldL p.preds.xs f.xs p.rules.xs q))) := by
  have h125 := okf.le125
  refine Fn.ofD Tryz.func77 rfl Tryz.ntmps77 (by kernel_rfl) (by simp) ?_
  intro e
  have I := Inv.start hB
  refine WPD.seq ?_
  refine WPD.region ?_
  refine Ops.go (O.box (v := .agg #[_, _]) I rfl rfl ?_)
  intro b3 w I
  refine Ops.y (v := .slice _ _ _) (Y.assign rfl) ?_
  refine Ops.y (v := .bool _) (Y.assign rfl) ?_
  refine Ops.nil ?_
  refine WPD.seq ?_
  refine WPD.region ?_
  refine Ops.go (O.mkE (α := Fct) Fct.enc I Tryz.underlying31 Tryz.sizeOf83 ?_)
  intro s13 h13 w I le13 e13 c13 a13 o13
  refine Ops.y (v := .slice _ _ _) (Y.move rfl) ?_
  refine Ops.go (O.appendE (α := Fct) I Tryz.underlying31 et_83 (fun _ => rfl) o13 le13 e13 c13 a13 (hf.el.le le13) rfl rfl (by omega) (by omega) ?_)
  intro rr h2 w I le2 hrx o2 r0
  refine Ops.go (O.alloc I Tryz.zeroValue31 rfl ?_)
  intro b8 w I
  refine Ops.go (O.alloc I Tryz.zeroValue4 rfl ?_)
  intro b9 w I
  refine Ops.go (O.store (v := rr.val) I ty_31 1 rfl rfl rfl rfl rfl rfl (Nat.le_of_ble_eq_true rfl) rfl ?_)
  intro w I
  refine Ops.go (O.store (v := .bool _) I ty_4 0 rfl rfl rfl rfl rfl rfl (Nat.le_of_ble_eq_true rfl) rfl ?_)
  intro w I
  refine Ops.nil ?_
  have gl2 := le13.trans le2
  have irr : Fcts rr h2 := ⟨o2.in (fun _ => rfl), by rw [hrx]; omega⟩
  refine WPD.seq ?_
  refine WPD.seq ?_
  refine WPD.region ?_
  refine Ops.y (v := .agg #[_, _]) (Y.loadv ty_25 rfl (I.rdbox 2 rfl 0 2) rfl rfl) ?_
  refine Ops.y (v := .slice _ _ _) (Y.move rfl) ?_
  refine Ops.y (v := .func _ _ _) (Y.move rfl) ?_
  refine Ops.go (O.call I Tryz.call131 (Told_ok _ I.base_ok p f g cs) rfl ?_)
  rintro _ h3 w I le3 ⟨bp, bo, bf, rfl, kp, ko, kf⟩
  refine Ops.nil ?_
  have gl3 := gl2.trans le3
  refine WPD.block ?_
  refine WPD.rangeFuncH (ms := []) (σ := Sl Fct × Bool) (fun s => [box b9 [.bool s.2] 4, box b8 [s.1.val] 31, box b3 p.enc 25]) (fun k s h => (s.1.xs, s.2) = turnL p.preds.xs f.xs ((toldL p.preds.xs f.xs p.rules.xs q).take k) ∧ Fcts s.1 h ∧ OwnH 83 4 s.1 Fct.enc B.h h) (fun _ _ _ => False) (fun _ _ _ _ hl hj => ⟨hj.1, hj.2.1.le hl, hj.2.2.le hl⟩) (rr, false) I ⟨by rw [List.take_zero, hrx]; rfl, irr.le le3, o2.le le3⟩ rfl Tryz.call173
    (Told1_iter p f g cs q bp bo bf h3 kp ko kf (hp.le gl3) (hf.le gl3) hpr okf (ho.le gl3)) (fun _ => rfl) (by kernel_rfl) (by kernel_rfl) (by kernel_rfl) ?_ ?_ ?_
  · rintro l r ms' hg k t ⟨u, ch⟩ W hx gl I ⟨hj, iu, ou⟩
    dsimp only at hj iu ou
    have hk := (List.getElem?_eq_some_iff.1 hx).1
    have hxk := (List.getElem?_eq_some_iff.1 hx).2
    have hfine := told_fine (q := q) (rules_rok hpr okf) okf t (List.mem_of_getElem? hx)
    have oku : FOk p.preds.xs u.xs := by
      have := turn_fok okf (ts := (toldL p.preds.xs f.xs p.rules.xs q).take k) fun x hx => told_fine (rules_rok hpr okf) okf x (List.mem_of_mem_take hx)
      rw [← hj] at this; exact this
    have hnx : putS p.preds.xs (u.xs, ch) t.2 = turnL p.preds.xs f.xs ((toldL p.preds.xs f.xs p.rules.xs q).take (k + 1)) := by rw [turnL_take hk, ← hj, hxk]
    refine WPI.region (by kernel_rfl) ?_
    refine Ops.go (O.alloc I Tryz.zeroValue83 rfl ?_)
    intro b11 w I
    refine Ops.go (O.store (v := .agg #[_, _, _, _]) I ty_83 0 rfl rfl rfl rfl rfl rfl (Nat.le_of_ble_eq_true rfl) rfl ?_)
    intro w I
    refine Ops.nil ?_
    refine ⟨hg, [box b11 t.2.enc 83], Heap.le.refl _, I, fun r' W2 I => ?_⟩
    refine WPI.block ?_
    refine WPI.seq ?_
    refine WPI.region (by kernel_rfl) ?_
    refine Ops.y (v := .bool _) (Y.assign rfl) ?_
    refine Ops.nil ?_
    refine WPI.seq ?_
    refine WPI.region (by kernel_rfl) ?_
    refine Ops.y (v := .pointer (some ⟨_, _, none⟩)) (Y.fa0 fa_25_0 rfl) ?_
    refine Ops.y (v := .slice _ _ _) (Y.loadv ty_22 rfl (I.rdbox 3 rfl 0 1) rfl rfl) ?_
    refine Ops.y (v := .slice _ _ _) (Y.loadv ty_31 rfl (I.rdbox 2 rfl 0 1) rfl rfl) ?_
    refine Ops.y (v := .agg #[_, _, _, _]) (Y.loadv ty_83 rfl (I.rdbox 0 rfl 0 4) rfl rfl) ?_
    refine Ops.go (O.call I Tryz.call132 (Put_own _ I.base_ok p.preds (hp.preds.le (gl3.trans gl)) u iu oku t.2 hfine) rfl ?_)
    rintro _ h5 w I le5 ⟨u2, rfl, hu2, iu2, ou2⟩
    refine Ops.y (v := .tuple #[_, _]) (Y.move rfl) ?_
    refine Ops.y (v := .slice _ _ _) (Y.extract rfl rfl) ?_
    refine Ops.y (v := .bool _) (Y.extract rfl rfl) ?_
    refine Ops.go (O.store (v := .slice _ _ _) I ty_31 2 rfl rfl rfl rfl rfl rfl (Nat.le_of_ble_eq_true rfl) rfl ?_)
    intro w I
    refine Ops.y (v := .bool _) (Y.assign rfl) ?_
    refine Ops.nil ?_
    cases ch
    · refine WPI.region (by kernel_rfl) ?_
      refine Ops.y (v := .bool false) (Y.b (Y.loadv ty_4 rfl (I.rdbox 1 rfl 0 1) rfl rfl) (rfl)) ?_
      refine Ops.y (v := .bool _) (Y.move rfl) ?_
      refine Ops.ygt rfl (v := .bool _) (Y.move rfl) ?_
      refine Ops.y (v := .bool _) (Y.pick_f rfl rfl) ?_
      refine Ops.go (O.store (v := .bool _) I ty_4 1 rfl rfl rfl rfl rfl rfl (Nat.le_of_ble_eq_true rfl) rfl ?_)
      intro w I
      refine Ops.nil ?_
      exact ⟨h5, (u2, _), [box b11 t.2.enc 83], le5, I, by rw [← hnx, hu2]; rfl, iu2, ou2.older (gl3.trans gl)⟩
    · refine WPI.region (by kernel_rfl) ?_
      refine Ops.y (v := .bool true) (Y.b (Y.loadv ty_4 rfl (I.rdbox 1 rfl 0 1) rfl rfl) (rfl)) ?_
      refine Ops.y (v := .bool _) (Y.move rfl) ?_
      refine Ops.gf rfl ?_
      refine Ops.y (v := .bool _) (Y.pick_t rfl rfl) ?_
      refine Ops.go (O.store (v := .bool _) I ty_4 1 rfl rfl rfl rfl rfl rfl (Nat.le_of_ble_eq_true rfl) rfl ?_)
      intro w I
      refine Ops.nil ?_
      exact ⟨h5, (u2, _), [box b11 t.2.enc 83], le5, I, by rw [← hnx, hu2]; rfl, iu2, ou2.older (gl3.trans gl)⟩
  · rintro D h4 ⟨u, ch⟩ W gl I ⟨hj, iu, ou⟩
    dsimp only at hj iu ou
    rw [List.take_length] at hj
    refine WPD.seq ?_
    refine WPD.regionQ mixed I (by kernel_rfl) ?_
    refine OpsQ.y (v := .slice _ _ _) (fun w I => Y.loadv ty_31 rfl (I.rdbox 1 rfl 0 1) rfl rfl) ?_
    refine OpsQ.y (v := .bool _) (fun w I => Y.loadv ty_4 rfl (I.rdbox 0 rfl 0 1) rfl rfl) ?_
    refine OpsQ.y (v := .slice _ _ _) (fun w I => Y.assign rfl) ?_
    refine OpsQ.y (v := .bool _) (fun w I => Y.assign rfl) ?_
    refine OpsQ.nil ?_
    intro w I
    refine WPD.ret ?_
    repeat (first | refine thenD_ret ?_ | refine blockD_ret ?_)
    show doneQ _ _ _ _ _ _ _ _
    exact ⟨.inl rfl, [D], _, h4, [u.val, .bool ch], rfl, I, fun w2 I2 => ⟨rfl, rfl, trivial⟩, ⟨u, by rw [← hj]; rfl, by rw [← hj], iu, ou⟩⟩
  · rintro D c h4 s W gl I hx
    exact hx.elim
theorem lv_eq_of_least {cs : List (Int × Ltl)} {n : Nat} {L M : List Int} (h1 : Least cs n L) (h2 : Least cs n M) : L = M :=
  lv_ext (h1.sol.len.trans h2.sol.len.symm) fun i => Int.le_antisymm (h1.least M h2.sol i) (h2.least L h1.sol i)
open Classical in
noncomputable def strataM (p : Prg) : List Int := if h : ∃ M, Least (usesL p.rules.xs) p.preds.xs.length M then Classical.choose h else []
theorem strataM_eq {p : Prg} {M : List Int} (h : Least (usesL p.rules.xs) p.preds.xs.length M) : strataM p = M := by
  have he : ∃ M, Least (usesL p.rules.xs) p.preds.xs.length M := ⟨M, h⟩
  unfold strataM
  rw [dif_pos he]
  exact lv_eq_of_least (Classical.choose_spec he) h
theorem PutP.mono {r : List Fct × Bool} : MonoS (PutP r) := fun _ _ _ hl ⟨s, a, b, c⟩ => ⟨s, a, b, c.le hl⟩
def ROfS (p : Prg) (M : List Int) (st : Int) : Sp := fun v h => ∃ cs, v = .func (.func 133) #[] (List.toArray cs) ∧ OfC Tryz.prog 133 cs h p.rules.xs.length (ofQ p M st)
theorem ROfS.mono {p : Prg} {M : List Int} {st : Int} : MonoS (ROfS p M st) := fun _ _ _ hl ⟨cs, a, b⟩ => ⟨cs, a, b.le hl⟩
theorem fnil {h : Heap} : Fcts ⟨none, 0, []⟩ h := ⟨fun i x hx => by simp at hx, by simp⟩
/-! ### Closed -/
end Go.TF
end
section
/- What the document says of a round, and of what is closed. -/
namespace Go.TF
open Go Go.RowKit Go.Proofs
set_option maxRecDepth 20000

end Go.TF
end
section
/- What the document says of what is closed; what must be in any case; laws of a round: plain. -/
namespace Go.TF
open Go Go.RowKit Go.Proofs
set_option maxRecDepth 20000

/-! ### The roads' rounds -/
theorem toldK_er (l : List Prd) (f : List Fct) (rs : List Rul) (q : Nat → Bool) (k : Nat) (hk : k ≤ rs.length) : toldK l f (rs.map Rul.er) q k = toldK l f rs q k := by
  unfold toldK
  have : ∀ n ∈ List.range k, toldN l f (rs.map Rul.er) q n = toldN l f rs q n := fun n hn => by
    have hn' : n < rs.length := by have := List.mem_range.1 hn; omega
    have hg : (rs.map Rul.er).getD n default = (rs.getD n default).er := by
      rw [List.getD_eq_getElem?_getD, List.getD_eq_getElem?_getD, List.getElem?_map, List.getElem?_eq_getElem hn']; rfl
    unfold toldN
    rw [hg, stepsF_er]
    simp only [headF_er]
  rw [List.flatMap_def, List.flatMap_def, List.map_congr_left this]
theorem toldL_er (l : List Prd) (f : List Fct) (rs : List Rul) (q : Nat → Bool) : toldL l f (rs.map Rul.er) q = toldL l f rs q := by
  unfold toldL; rw [List.length_map]; exact toldK_er l f rs q _ (Nat.le_refl _)
theorem toldK_congr {l : List Prd} {f : List Fct} {rs : List Rul} {q q' : Nat → Bool} {k : Nat} (hq : ∀ n, n < k → q n = q' n) : toldK l f rs q k = toldK l f rs q' k := by
  unfold toldK
  have : ∀ n ∈ List.range k, toldN l f rs q n = toldN l f rs q' n := fun n hn => by unfold toldN; rw [hq n (List.mem_range.1 hn)]
  rw [List.flatMap_def, List.flatMap_def, List.map_congr_left this]
section
variable {p : Prg} {h : Heap} (hp : RoadsAt p h)
include hp
end
end Go.TF
end
section
/- Arguments as they come in: what is read as data lies in memory as located data. -/
namespace Go.TF
open Go Go.RowKit Go.Proofs Go.Deep

def memH (W : World) : Heap := fun b => W.heap[b]?
theorem memH_cell {W : World} {b o : Nat} {v : Value} (h : W.cell? ⟨b, o, none⟩ = some v) : (memH W).cell b o = some v := by
  unfold World.cell? at h
  unfold Heap.cell memH
  split at h
  · rename_i c t f hb; rw [hb]; simpa using h
  · cases h
def Opens (P : Program) (T : TypeId) {α : Type} (enc : α → List Value) (In : α → Heap → Prop) : Prop :=
  ∀ (H : Type) (en : TypeId × Value → H) (W : World) (fuel : Nat) (cs : List Value) (x : DataW H × List MemPlace), DataW.trod en P W 0 (fun _ => true) true fuel T cs = some x → (∀ n ∈ x.1.weights P T, n ≤ reachBytes) → ∃ y : α, cs = enc y ∧ In y (memH W)
/-- A slice, its elements, and that there are not too many. -/
structure Sl.Ok {α : Type} (s : Sl α) (k b : Nat) (enc : α → List Value) (In : α → Heap → Prop) (h : Heap) : Prop where
  is : s.Is k enc h
  each : ∀ x ∈ s.xs, In x h
  cap : s.xs.length ≤ s.cap
  size : s.cap * b ≤ reachBytes
section
variable {P : Program} {T : TypeId}
theorem op_int (hT : P.underlying T = some (.int .i64)) : Opens P T (fun n : Int => [.int .i64 n]) (fun n _ => I64 n) := fun H en W fuel cs x h _ => by
  obtain ⟨n, rfl, _, hw⟩ := DataW.trod_int hT h
  refine ⟨n, rfl, ?_⟩
  simp only [Lit.wf, Bool.and_eq_true, decide_eq_true_eq] at hw
  have h1 : IntKind.i64.min = -9223372036854775808 := rfl
  have h2 : IntKind.i64.max = 9223372036854775807 := rfl
  exact ⟨by omega, by omega⟩
theorem op_bool (hT : P.underlying T = some .bool) : Opens P T (fun n : Bool => [.bool n]) (fun _ _ => True) := fun H en W fuel cs x h _ => by
  obtain ⟨n, rfl, _⟩ := DataW.trod_bool hT h
  exact ⟨n, rfl, trivial⟩
theorem op_string (hT : P.underlying T = some .string) : Opens P T (fun n : ByteArray => [.string n]) (fun s _ => s.size ≤ reachBytes) := fun H en W fuel cs x h hw => by
  obtain ⟨n, rfl, rfl, _⟩ := DataW.trod_string hT h
  refine ⟨n, rfl, ?_⟩
  have := hw n.data.toList.length (by simp [DataW.weights])
  simpa using this
theorem weightsAll_mem {H : Type} {e : TypeId} : ∀ {l : List (DataW H)} {d : DataW H}, d ∈ l → ∀ n ∈ d.weights P e, n ∈ DataW.weightsAll P e l
  | x :: l, d, hd, n, hn => by
    simp only [DataW.weightsAll]
    rcases List.mem_cons.1 hd with rfl | hd
    · exact List.mem_append_left _ hn
    · exact List.mem_append_right _ (weightsAll_mem hd n hn)
theorem op_slice {e k b : Nat} {α : Type} {enc : α → List Value} {In : α → Heap → Prop} (hT : P.underlying T = some (.slice e)) (hk : P.cellsOf e = k) (hb : P.bytesOf e = b) (hb0 : 0 < b) (hk0 : 0 < k) (he : Opens P e enc In) :
    Opens P T (fun s : Sl α => [s.val]) (fun s h => s.Ok k b enc In h) := fun H en W fuel cs x h hw => by
  rcases open_slice hT h with ⟨rfl, rfl⟩ | ⟨a, len, cap, m, n, D, Pl, rfl, _, hl, _, hmm, rfl, hall⟩
  · exact ⟨⟨none, 0, []⟩, rfl, ⟨⟨fun i x hx => by simp at hx, by simp⟩, fun x hx => by simp at hx, by simp, by simp [reachBytes]⟩⟩
  · simp only [if_true] at hmm
    subst hmm
    have hel : ∀ i, i < len → ∃ (y : α), W.cells? 0 (a.add (i * k)) k = some (enc y) ∧ In y (memH W) := fun i hi => by
      obtain ⟨cs', h1, h2⟩ := hall i (by omega)
      obtain ⟨y, rfl, hy⟩ := he H en W n cs' _ h2 fun q hq => hw q (by
        simp only [DataW.weights, hT]
        refine List.mem_cons_of_mem _ (List.mem_append_left _ (weightsAll_mem (d := D i) (List.mem_map.2 ⟨i, List.mem_range.2 hi, rfl⟩) q hq)))
      rw [hk] at h1
      exact ⟨y, h1, hy⟩
    have hsz : m * b ≤ reachBytes := by
      have := hw ((len + (m - len)) * b) (by simp [DataW.weights, hT, hb])
      rwa [show len + (m - len) = m by omega] at this
    have hm47 : m ≤ 140737488355328 := by
      have h1 : m ≤ m * b := Nat.le_mul_of_pos_right m hb0
      have h2 : reachBytes ≤ 140737488355328 := by decide
      omega
    have key : ∃ xs : List α, xs.length = len ∧ ∀ i y, xs[i]? = some y → W.cells? 0 (a.add (i * k)) k = some (enc y) ∧ In y (memH W) := by
      have : ∀ l, l ≤ len → ∃ xs : List α, xs.length = l ∧ ∀ i y, xs[i]? = some y → W.cells? 0 (a.add (i * k)) k = some (enc y) ∧ In y (memH W) := by
        intro l
        induction l with
        | zero => intro _; exact ⟨[], rfl, fun i y hy => by simp at hy⟩
        | succ l ih =>
          intro hl'
          obtain ⟨xs, h1, h2⟩ := ih (by omega)
          obtain ⟨y, h3⟩ := hel l (by omega)
          refine ⟨xs ++ [y], by simp [h1], fun i z hz => ?_⟩
          rw [List.getElem?_append] at hz
          split at hz
          · exact h2 i z hz
          · have : i = l := by
              have := (List.getElem?_eq_some_iff.1 hz).1
              simp at this; omega
            subst this
            simp [h1] at hz
            subst hz; exact h3
      exact this len (Nat.le_refl _)
    obtain ⟨xs, hxs, hx⟩ := key
    obtain ⟨ab, ao, spot⟩ := a
    have hspot : 0 < len → spot = none := fun h0 => by
      obtain ⟨y, h1, _⟩ := hel 0 h0
      obtain ⟨_, hlen, hc⟩ := World.cells?_some h1
      have hc0 := hc 0 hk0
      have : ∃ v, (enc y)[0]? = some v := ⟨(enc y)[0]'(by omega), by simp⟩
      obtain ⟨v, hv⟩ := this
      rw [hv] at hc0
      have := World.cell?_spot hc0
      simpa [Addr.add] using this
    refine ⟨⟨some ⟨ab, ao, spot⟩, m, xs⟩, by simp [Sl.val, hxs], ⟨⟨fun i y hy => ?_, by simp only [hxs]; omega⟩, fun y hy => ?_, by simp only [hxs]; omega, hsz⟩⟩
    · have hi : i < xs.length := (List.getElem?_eq_some_iff.1 hy).1
      have hs := hspot (by omega)
      subst hs
      refine ⟨rfl, fun j v hj => ?_⟩
      obtain ⟨_, hlen, hc⟩ := World.cells?_some (hx i y hy).1
      have hjk : j < k := by have := (List.getElem?_eq_some_iff.1 hj).1; omega
      have := hc j hjk
      rw [hj, addr_add, addr_add] at this
      exact memH_cell this
    · obtain ⟨i, hi, rfl⟩ := List.getElem_of_mem hy
      exact (hx i xs[i] (List.getElem?_eq_getElem hi)).2
theorem op_field {fs : Array Field} {H : Type} {en : TypeId × Value → H} {W : World} {fuel : Nat} {cs : List Value} {x : DataW H × List MemPlace} (hT : P.underlying T = some (.struct fs)) (h : DataW.trod en P W 0 (fun _ => true) true fuel T cs = some x) (hw : ∀ n ∈ x.1.weights P T, n ≤ reachBytes)
    {α : Type} {enc : α → List Value} {In : α → Heap → Prop} (i : Nat) {f : Field} (hf : fs[i]? = some f) {k : Nat} (hk : P.cellsOf f.type = k) (he : Opens P f.type enc In) : ∃ y : α, (cs.drop f.offset).take k = enc y ∧ In y (memH W) := by
  subst hk
  obtain ⟨xs, n, _, rfl, _, hlen, hfs⟩ := DataW.trod_struct hT h
  have hi : i < xs.length := by rw [hlen]; exact (Array.getElem?_eq_some_iff.1 hf).1
  have h1 := hfs i f hf
  rw [List.getElem?_eq_getElem hi] at h1
  refine he H en W n _ xs[i] h1 fun q hq => hw q ?_
  simp only [DataW.weights, hT]
  exact DataW.weights_mem_each (j := i) (t := f.type) (d := xs[i].1) (by simp [hf]) (by simp [hi]) q hq
theorem op_len {fs : Array Field} {H : Type} {en : TypeId × Value → H} {W : World} {fuel : Nat} {cs : List Value} {x : DataW H × List MemPlace} (hT : P.underlying T = some (.struct fs)) (h : DataW.trod en P W 0 (fun _ => true) true fuel T cs = some x) : cs.length = P.cellsOf T := by
  obtain ⟨xs, n, _, rfl, hl, _, _⟩ := DataW.trod_struct hT h
  exact hl
theorem val_struct {W : World} {r : Go.Reach} {b0 : Nat} {fs : Array Field} {v : Value} {cs : List Value} (hT : P.underlying T = some (.struct fs)) (hval : Value.okWide P W r b0 T v) (hc : v.cells.toList = cs) : v = .agg cs.toArray := by
  unfold Value.okWide at hval
  rw [hT] at hval
  obtain ⟨cs', rfl, _⟩ := hval
  subst hc; simp [Value.cells]
theorem weights_of {H : Type} {ts : List TypeId} {ds : List (DataW H)} (hz : (DataW.weightsEach P ts ds).all (· ≤ reachBytes) = true) (j : Nat) {t : TypeId} {d : DataW H} (ht : ts[j]? = some t) (hd : ds[j]? = some d) : ∀ n ∈ d.weights P t, n ≤ reachBytes := fun n hn => by
  have := List.all_eq_true.1 hz n (DataW.weights_mem_each ht hd n hn)
  simpa using this
end
theorem len47 {s : ByteArray} (h : s.data.toList.length ≤ reachBytes) : s.size ≤ 140737488355328 := by
  have h2 : reachBytes ≤ 140737488355328 := by decide
  have h3 : s.data.toList.length = s.size := by simp
  omega
theorem open_of {P : Program} {T : TypeId} {α : Type} {enc : α → List Value} {In : α → Heap → Prop} {H : Type} {en : TypeId × Value → H} {W : World} {v : Value} {d : DataW H} {ps : List MemPlace} (he : Opens P T enc In) (hd : DataW.Trod en P W 0 (fun _ => true) true T v d ps) (hw : ∀ n ∈ d.weights P T, n ≤ reachBytes) :
    ∃ y : α, v.cells.toList = enc y ∧ In y (memH W) := by
  obtain ⟨fuel, h⟩ := hd
  exact he H en W fuel _ _ h hw

/-! ### This program's types -/
theorem len2 {cs : List Value} (h : cs.length = 2) : ∃ c0 c1, cs = [c0, c1] := by
  match cs, h with
  | [c0, c1], _ => exact ⟨c0, c1, rfl⟩
theorem len3 {cs : List Value} (h : cs.length = 3) : ∃ c0 c1 c2, cs = [c0, c1, c2] := by
  match cs, h with
  | [c0, c1, c2], _ => exact ⟨c0, c1, c2, rfl⟩
theorem len5 {cs : List Value} (h : cs.length = 5) : ∃ c0 c1 c2 c3 c4, cs = [c0, c1, c2, c3, c4] := by
  match cs, h with
  | [c0, c1, c2, c3, c4], _ => exact ⟨c0, c1, c2, c3, c4, rfl⟩
def TrmOk (t : Trm) (_ : Heap) : Prop := I64 t.n
structure PrdOk (p : Prd) (_ : Heap) : Prop where
  name : p.name.size ≤ reachBytes
  arity : I64 p.arity
  kind : I64 p.kind
structure AtmOk (a : Atm) (h : Heap) : Prop where
  pred : I64 a.pred
  args : a.args.Ok 2 16 Trm.enc TrmOk h
def LtlOk (x : Ltl) (h : Heap) : Prop := AtmOk x.atom h
structure RulOk (r : Rul) (h : Heap) : Prop where
  head : AtmOk r.head h
  src : I64 r.src
  n : I64 r.n
  body : r.body.Ok 3 40 Ltl.enc LtlOk h
structure PrgOk (p : Prg) (h : Heap) : Prop where
  preds : p.preds.Ok 3 32 Prd.enc PrdOk h
  rules : p.rules.Ok 5 72 Rul.enc RulOk h
structure FctOk (x : Fct) (_ : Heap) : Prop where
  pred : I64 x.pred
  a : I64 x.a
  b : I64 x.b
  v : I64 x.v
structure VrsOk (x : Vrs) (_ : Heap) : Prop where
  x0 : I64 x.x0
  x1 : I64 x.x1
  x2 : I64 x.x2
structure StpOk (x : Stp) (h : Heap) : Prop where
  rule : I64 x.rule
  vars : VrsOk x.vars h
theorem AtmOk.in_ {a : Atm} {h : Heap} (x : AtmOk a h) : a.In h := x.args.is
theorem RulOk.in_ {r : Rul} {h : Heap} (x : RulOk r h) : r.In h := ⟨x.head.in_, x.body.is, fun y hy => AtmOk.in_ (x.body.each y hy)⟩
theorem PrgOk.in_ {p : Prg} {h : Heap} (x : PrgOk p h) : p.In h := ⟨x.preds.is, x.rules.is, fun y hy => (x.rules.each y hy).in_⟩
theorem op_Trm : Opens Tryz.prog 109 Trm.enc TrmOk := fun H en W fuel cs x h hw => by
  have hl := op_len Tryz.underlying109 h
  rw [show Tryz.prog.cellsOf 109 = 2 by kernel_rfl] at hl
  obtain ⟨y0, e0, g0⟩ := op_field Tryz.underlying109 h hw 0 rfl (k := 1) (by kernel_rfl) (op_bool Tryz.underlying4)
  obtain ⟨y1, e1, g1⟩ := op_field Tryz.underlying109 h hw 1 rfl (k := 1) (by kernel_rfl) (op_int Tryz.underlying3)
  obtain ⟨c0, c1, rfl⟩ := len2 hl
  replace e0 : [c0] = _ := e0
  replace e1 : [c1] = _ := e1
  simp only [List.cons.injEq, and_true] at e0 e1
  exact ⟨⟨y0, y1⟩, by simp [*], g1⟩
theorem op_SlTrm : Opens Tryz.prog 59 (fun s : Sl Trm => [s.val]) (fun s h => s.Ok 2 16 Trm.enc TrmOk h) := op_slice Tryz.underlying59 (by kernel_rfl) (by kernel_rfl) (by decide) (by decide) op_Trm
theorem op_Prd : Opens Tryz.prog 53 Prd.enc PrdOk := fun H en W fuel cs x h hw => by
  have hl := op_len Tryz.underlying53 h
  rw [show Tryz.prog.cellsOf 53 = 3 by kernel_rfl] at hl
  obtain ⟨y0, e0, g0⟩ := op_field Tryz.underlying53 h hw 0 rfl (k := 1) (by kernel_rfl) (op_string Tryz.underlying9)
  obtain ⟨y1, e1, g1⟩ := op_field Tryz.underlying53 h hw 1 rfl (k := 1) (by kernel_rfl) (op_int Tryz.underlying3)
  obtain ⟨y2, e2, g2⟩ := op_field Tryz.underlying53 h hw 2 rfl (k := 1) (by kernel_rfl) (op_int Tryz.underlying3)
  obtain ⟨c0, c1, c2, rfl⟩ := len3 hl
  replace e0 : [c0] = _ := e0
  replace e1 : [c1] = _ := e1
  replace e2 : [c2] = _ := e2
  simp only [List.cons.injEq, and_true] at e0 e1 e2
  exact ⟨⟨y0, y1, y2⟩, by simp [*], ⟨g0, g1, g2⟩⟩
theorem op_SlPrd : Opens Tryz.prog 22 (fun s : Sl Prd => [s.val]) (fun s h => s.Ok 3 32 Prd.enc PrdOk h) := op_slice Tryz.underlying22 (by kernel_rfl) (by kernel_rfl) (by decide) (by decide) op_Prd
theorem op_Atm : Opens Tryz.prog 61 Atm.enc AtmOk := fun H en W fuel cs x h hw => by
  have hl := op_len Tryz.underlying61 h
  rw [show Tryz.prog.cellsOf 61 = 2 by kernel_rfl] at hl
  obtain ⟨y0, e0, g0⟩ := op_field Tryz.underlying61 h hw 0 rfl (k := 1) (by kernel_rfl) (op_int Tryz.underlying3)
  obtain ⟨y1, e1, g1⟩ := op_field Tryz.underlying61 h hw 1 rfl (k := 1) (by kernel_rfl) (op_SlTrm)
  obtain ⟨c0, c1, rfl⟩ := len2 hl
  replace e0 : [c0] = _ := e0
  replace e1 : [c1] = _ := e1
  simp only [List.cons.injEq, and_true] at e0 e1
  exact ⟨⟨y0, y1⟩, by simp [*], ⟨g0, g1⟩⟩
theorem op_Ltl : Opens Tryz.prog 68 Ltl.enc LtlOk := fun H en W fuel cs x h hw => by
  have hl := op_len Tryz.underlying68 h
  rw [show Tryz.prog.cellsOf 68 = 3 by kernel_rfl] at hl
  obtain ⟨y0, e0, g0⟩ := op_field Tryz.underlying68 h hw 0 rfl (k := 1) (by kernel_rfl) (op_bool Tryz.underlying4)
  obtain ⟨y1, e1, g1⟩ := op_field Tryz.underlying68 h hw 1 rfl (k := 2) (by kernel_rfl) (op_Atm)
  obtain ⟨c0, c1, c2, rfl⟩ := len3 hl
  replace e0 : [c0] = _ := e0
  replace e1 : [c1, c2] = _ := e1
  simp only [List.cons.injEq, and_true] at e0 e1
  exact ⟨⟨y0, y1⟩, by simp [*], g1⟩
theorem op_SlLtl : Opens Tryz.prog 62 (fun s : Sl Ltl => [s.val]) (fun s h => s.Ok 3 40 Ltl.enc LtlOk h) := op_slice Tryz.underlying62 (by kernel_rfl) (by kernel_rfl) (by decide) (by decide) op_Ltl
theorem op_Rul : Opens Tryz.prog 64 Rul.enc RulOk := fun H en W fuel cs x h hw => by
  have hl := op_len Tryz.underlying64 h
  rw [show Tryz.prog.cellsOf 64 = 5 by kernel_rfl] at hl
  obtain ⟨y0, e0, g0⟩ := op_field Tryz.underlying64 h hw 0 rfl (k := 2) (by kernel_rfl) (op_Atm)
  obtain ⟨y1, e1, g1⟩ := op_field Tryz.underlying64 h hw 1 rfl (k := 1) (by kernel_rfl) (op_int Tryz.underlying3)
  obtain ⟨y2, e2, g2⟩ := op_field Tryz.underlying64 h hw 2 rfl (k := 1) (by kernel_rfl) (op_int Tryz.underlying3)
  obtain ⟨y3, e3, g3⟩ := op_field Tryz.underlying64 h hw 3 rfl (k := 1) (by kernel_rfl) (op_SlLtl)
  obtain ⟨c0, c1, c2, c3, c4, rfl⟩ := len5 hl
  replace e0 : [c0, c1] = _ := e0
  replace e1 : [c2] = _ := e1
  replace e2 : [c3] = _ := e2
  replace e3 : [c4] = _ := e3
  simp only [List.cons.injEq, and_true] at e0 e1 e2 e3
  exact ⟨⟨y0, y1, y2, y3⟩, by simp [*], ⟨g0, g1, g2, g3⟩⟩
theorem op_SlRul : Opens Tryz.prog 23 (fun s : Sl Rul => [s.val]) (fun s h => s.Ok 5 72 Rul.enc RulOk h) := op_slice Tryz.underlying23 (by kernel_rfl) (by kernel_rfl) (by decide) (by decide) op_Rul
theorem op_Prg : Opens Tryz.prog 25 Prg.enc PrgOk := fun H en W fuel cs x h hw => by
  have hl := op_len Tryz.underlying25 h
  rw [show Tryz.prog.cellsOf 25 = 2 by kernel_rfl] at hl
  obtain ⟨y0, e0, g0⟩ := op_field Tryz.underlying25 h hw 0 rfl (k := 1) (by kernel_rfl) (op_SlPrd)
  obtain ⟨y1, e1, g1⟩ := op_field Tryz.underlying25 h hw 1 rfl (k := 1) (by kernel_rfl) (op_SlRul)
  obtain ⟨c0, c1, rfl⟩ := len2 hl
  replace e0 : [c0] = _ := e0
  replace e1 : [c1] = _ := e1
  simp only [List.cons.injEq, and_true] at e0 e1
  exact ⟨⟨y0, y1⟩, by simp [*], ⟨g0, g1⟩⟩
end Go.TF
end
section
/- The laws of a round: each returns true. -/
namespace Go.TF
open Go Go.RowKit Go.Proofs
set_option maxRecDepth 20000

/-! ### RoundMore -/
end Go.TF
end
section
/- The model is closed, each of its facts is told, it is the least, and the order of the rules is nothing to it: plain. -/
namespace Go.TF
open Go

theorem mem_uses {rs : List Rul} {r : Rul} {x : Ltl} (hr : r ∈ rs) (hx : x ∈ r.body.xs) : (r.head.pred, x) ∈ usesL rs := by
  unfold usesL
  exact List.mem_flatMap.2 ⟨r, hr, List.mem_map.2 ⟨x, hx, rfl⟩⟩
def SameLv (M : List Int) (P : Int → Prop) (f g : List Fct) : Prop := ∀ y : Fct, PF y → P (lv M y.pred) → lkF f (placeF y) = lkF g (placeF y)
theorem isF_lv {M : List Int} {P : Int → Prop} {f g : List Fct} (h : SameLv M P f g) {y : Fct} (hy : PF y) (hp : P (lv M y.pred)) : isF f y = isF g y := by unfold isF; rw [h y hy hp]
theorem ng_ge (x : Ltl) : 0 ≤ ng x := by unfold ng; split <;> omega
theorem same_symm {M : List Int} {P : Int → Prop} {f g : List Fct} (h : SameLv M P f g) : SameLv M P g f := fun y a b => (h y a b).symm
theorem lit_lv {p : Prg} {M : List Int} (hM : Sol (usesL p.rules.xs) p.preds.xs.length M) {r : Rul} (hr : r ∈ p.rules.xs) {x : Ltl} (hx : x ∈ r.body.xs) : lv M x.atom.pred + ng x ≤ lv M r.head.pred := hM.sat _ (mem_uses hr hx)
theorem run_off {l : List Prd} {M : List Int} {st : Int} {y : Fct} (hy : PF y) (hl : lv M y.pred ≠ st) : ∀ (ts : List (Stp × Fct)) (s : List Fct × Bool), FOk l s.1 → (∀ t ∈ ts, factFine l t.2 = true) → (∀ t ∈ ts, lv M t.2.pred = st) → lkF (runL l s ts).1 (placeF y) = lkF s.1 (placeF y)
  | [], s, _, _, _ => rfl
  | t :: ts, s, hs, hf, ht => by
    have hx := hf t List.mem_cons_self
    have := run_off hy hl ts (putS l s t.2) (addF_fok hs hx) (fun u hu => hf u (List.mem_cons_of_mem _ hu)) fun u hu => ht u (List.mem_cons_of_mem _ hu)
    refine this.trans ?_
    show lkF (addL l s.1 t.2) (placeF y) = _
    rw [lkF_addL hs, if_neg]
    intro e
    have := (hy.inj (fine_pf hs.len hx) e).1
    exact hl (by rw [this]; exact ht t List.mem_cons_self)
theorem run_mem {l : List Prd} {y : Fct} : ∀ (ts : List (Stp × Fct)) (s : List Fct × Bool), y ∈ (runL l s ts).1 → (∃ z ∈ s.1, placeF z = placeF y) ∨ ∃ t ∈ ts, placeF t.2 = placeF y
  | [], s, h => .inl ⟨y, h, rfl⟩
  | t :: ts, s, h => by
    rcases run_mem ts (putS l s t.2) h with ⟨z, hz, e⟩ | ⟨u, hu, e⟩
    · rcases mem_addF hz with hz | rfl | ⟨y', hy', e', rfl⟩
      · exact .inl ⟨z, hz, e⟩
      · exact .inr ⟨t, List.mem_cons_self, e⟩
      · exact .inl ⟨y', hy', e⟩
    · exact .inr ⟨u, List.mem_cons_of_mem _ hu, e⟩
theorem fok_nil {l : List Prd} (h5 : l.length ≤ 5) (hp : ∀ p ∈ l, predFine p = true) : FOk l [] := ⟨h5, hp, fun x hx => by simp at hx, List.Pairwise.nil⟩
section
variable {p : Prg} {M : List Int} (rk : ∀ r ∈ p.rules.xs, ROk p.preds.xs r) (hM : Sol (usesL p.rules.xs) p.preds.xs.length M)
theorem ofQ_iff {s : Int} {n : Nat} {r : Rul} (hr : p.rules.xs[n]? = some r) : ofQ p M s n = true ↔ lv M r.head.pred = s := by
  unfold ofQ
  rw [List.getD_eq_getElem?_getD, hr, decide_eq_true_eq]
  rfl
theorem told_lv {f : List Fct} {s : Int} : ∀ t ∈ toldL p.preds.xs f p.rules.xs (ofQ p M s), lv M t.2.pred = s := fun t ht => by
  obtain ⟨n, r, hr, hq, hs, he⟩ := mem_told.1 ht
  rw [he]; exact (ofQ_iff hr).1 hq
include rk hM
/-- What holds ahead of a round holds behind it. -/
theorem holds_next {f g : List Fct} {s : Int} (hu : underF p.preds.xs f g = true) (hs : SameLv M (· < s) f g) {r : Rul} (hr : r ∈ p.rules.xs) (hl : lv M r.head.pred ≤ s) {x : Vrs} (hx : VsOk x) (h : holdsB f r x = true) : holdsB g r x = true := by
  unfold holdsB at *
  rw [List.all_eq_true] at *
  intro t ht
  have h1 := h t ht
  unfold litOk at h1 ⊢
  rw [decide_eq_true_eq] at h1 ⊢
  have hlv := lit_lv hM hr ht
  cases hn : t.neg
  · rw [hn] at h1
    have := isF_up hu (y := groundF t.atom x) (by simpa using h1)
    rw [this]; decide
  · rw [hn] at h1
    have hng : ng t = 1 := by unfold ng; rw [hn]; rfl
    have ao := aok_of (rk r hr).preds ((rk r hr).body t ht)
    have pf := ao.pf (rk r hr).five hx 0
    have e := isF_lv hs (y := groundF t.atom x) pf (show lv M t.atom.pred < s by omega)
    rw [← e]
    exact h1
theorem holds_same {f g : List Fct} {s : Int} (hs : SameLv M (· ≤ s) f g) {r : Rul} (hr : r ∈ p.rules.xs) (hl : lv M r.head.pred ≤ s) {x : Vrs} (hx : VsOk x) : holdsB f r x = holdsB g r x ∧ headF p.preds.xs f r x = headF p.preds.xs g r x := by
  have hlit : ∀ t ∈ r.body.xs, lkF f (placeF (groundF t.atom x)) = lkF g (placeF (groundF t.atom x)) := fun t ht => by
    have hlv := lit_lv hM hr ht
    have := ng_ge t
    have ao := aok_of (rk r hr).preds ((rk r hr).body t ht)
    exact hs _ (ao.pf (rk r hr).five hx 0) (show lv M t.atom.pred ≤ s by omega)
  constructor
  · unfold holdsB
    rw [Bool.eq_iff_iff, List.all_eq_true, List.all_eq_true]
    have key : ∀ t ∈ r.body.xs, litOk f x t = litOk g x t := fun t ht => by unfold litOk isF; rw [hlit t ht]
    exact ⟨fun h t ht => (key t ht) ▸ h t ht, fun h t ht => (key t ht).symm ▸ h t ht⟩
  · unfold headF headV
    by_cases h0 : 0 ≤ r.src
    · rw [if_pos h0, if_pos h0, hlit _ (litOf_mem ⟨h0, (rk r hr).src.2⟩)]
    · rw [if_neg h0, if_neg h0]
theorem steps_same {f g : List Fct} {s : Int} (hs : SameLv M (· ≤ s) f g) {r : Rul} (hr : r ∈ p.rules.xs) (hl : lv M r.head.pred ≤ s) (n : Int) : ∀ x, x ∈ stepsF f n r → x ∈ stepsF g n r := fun x hx => by
  unfold stepsF at *
  obtain ⟨v, hv, e⟩ := List.mem_map.1 hx
  obtain ⟨h1, h2⟩ := List.mem_filter.1 hv
  refine List.mem_map.2 ⟨v, List.mem_filter.2 ⟨h1, ?_⟩, e⟩
  rw [← (holds_same rk hM hs hr hl (mem_vecs.1 h1)).1]
  exact h2
theorem told_same {f g : List Fct} {s : Int} (hs : SameLv M (· ≤ s) f g) : ∀ t, t ∈ toldL p.preds.xs f p.rules.xs (ofQ p M s) → t ∈ toldL p.preds.xs g p.rules.xs (ofQ p M s) := fun t ht => by
  obtain ⟨n, r, hr, hq, hst, he⟩ := mem_told.1 ht
  have hrm := List.mem_of_getElem? hr
  have hl := (ofQ_iff hr).1 hq
  refine mem_told.2 ⟨n, r, hr, hq, steps_same rk hM hs hrm (Int.le_of_eq hl) n _ hst, ?_⟩
  rw [he]
  exact (holds_same rk hM hs hrm (Int.le_of_eq hl) (steps_holds hst).2.1).2
theorem turn_still {f g : List Fct} {s : Int} (okf : FOk p.preds.xs f) (okg : FOk p.preds.xs g) (hs : SameLv M (· ≤ s) f g) (h : (turnT p M s f).2 = false) : (turnT p M s g).2 = false := by
  unfold turnT at *
  rw [turn_no okf (told_fine rk okf)] at h
  rw [turn_no okg (told_fine rk okg)]
  intro t ht
  have ht' := told_same rk hM (same_symm hs) t ht
  have h1 := h t ht'
  have hfine := told_fine rk okf t ht'
  rw [underF_iff] at h1 ⊢
  intro z hz
  obtain ⟨v, k1, k2⟩ := h1 z hz
  rw [List.mem_singleton.1 hz] at k1 k2 ⊢
  exact ⟨v, by rw [← hs _ (fine_pf okf.len hfine) (Int.le_of_eq (told_lv t ht'))]; exact k1, k2⟩
/-- A fact that is told. -/
def TldF (p : Prg) (f : List Fct) (y : Fct) : Prop := ∃ (n : Nat) (r : Rul) (x : Vrs), p.rules.xs[n]? = some r ∧ VsOk x ∧ stdOk r x = true ∧ holdsB f r x = true ∧ placeF (headF p.preds.xs f r x) = placeF y
structure MJ (p : Prg) (M : List Int) (k : Nat) (f : List Fct) : Prop where
  fok : FOk p.preds.xs f
  still : ∀ s : Nat, s < k → (turnT p M s f).2 = false
  lev : ∀ y ∈ f, lv M y.pred ≤ k
  told : ∀ y ∈ f, TldF p f y
theorem mj_next {k : Nat} {f : List Fct} (j : MJ p M k f) : MJ p M k (turnT p M k f).1 := by
  have tf := told_fine (q := ofQ p M k) rk j.fok
  have tl := told_lv (p := p) (M := M) (f := f) (s := k)
  have hu : underF p.preds.xs f (turnT p M k f).1 = true := turn_above j.fok tf
  have okg : FOk p.preds.xs (turnT p M k f).1 := turn_fok j.fok tf
  have hoff : SameLv M (· ≠ (k : Int)) f (turnT p M k f).1 := fun y hy hl => (run_off hy hl _ (f, false) j.fok tf tl).symm
  have hlt : SameLv M (· < (k : Int)) f (turnT p M k f).1 := fun y hy hl => hoff y hy (Int.ne_of_lt hl)
  have hold : ∀ y, TldF p f y → lv M y.pred ≤ k → PF y → TldF p (turnT p M k f).1 y := fun y ⟨n, r, x, h1, h2, h3, h4, h5⟩ hl hy => by
    have hrm := List.mem_of_getElem? h1
    have hp1 : (headF p.preds.xs f r x).pred = y.pred := ((fine_pf j.fok.len (headF_fine (rk r hrm) j.fok h2 h4)).inj hy h5).1
    exact ⟨n, r, x, h1, h2, h3, holds_next rk hM hu hlt hrm (by rw [show r.head.pred = y.pred from hp1]; exact hl) h2 h4, h5⟩
  have hmem : ∀ y ∈ (turnT p M k f).1, lv M y.pred ≤ k ∧ TldF p (turnT p M k f).1 y := fun y hy => by
    have hyf := fine_pf okg.len (okg.fine y hy)
    rcases run_mem _ (f, false) hy with ⟨z, hz, e⟩ | ⟨t, ht, e⟩
    · have hzp : z.pred = y.pred := ((fine_pf j.fok.len (j.fok.fine z hz)).inj hyf e).1
      have hl := j.lev z hz
      obtain ⟨n, r, x, h1, h2, h3, h4, h5⟩ := hold z (j.told z hz) hl (fine_pf j.fok.len (j.fok.fine z hz))
      exact ⟨hzp ▸ hl, n, r, x, h1, h2, h3, h4, h5.trans e⟩
    · have htp : t.2.pred = y.pred := ((fine_pf j.fok.len (tf t ht)).inj hyf e).1
      have hl := tl t ht
      obtain ⟨n, r, hr, hq, hs, he⟩ := mem_told.1 ht
      unfold stepsF at hs
      obtain ⟨v, hv, ev⟩ := List.mem_map.1 hs
      obtain ⟨v1, v2⟩ := List.mem_filter.1 hv
      rw [Bool.and_eq_true] at v2
      have hvv : t.1.vars = v := by rw [← ev]
      rw [hvv] at he
      obtain ⟨n', r', x', h1, h2, h3, h4, h5⟩ := hold t.2 ⟨n, r, v, hr, mem_vecs.1 v1, v2.1, v2.2, by rw [he]⟩ (Int.le_of_eq hl) (fine_pf j.fok.len (tf t ht))
      exact ⟨by rw [← htp]; exact Int.le_of_eq hl, n', r', x', h1, h2, h3, h4, h5.trans e⟩
  refine ⟨okg, fun s hs => ?_, fun y hy => (hmem y hy).1, fun y hy => (hmem y hy).2⟩
  exact turn_still rk hM j.fok okg (fun y hy hl => hoff y hy (by omega)) (j.still s hs)
theorem modK_mj (h0 : FOk p.preds.xs []) : ∀ {k : Nat} {f : List Fct} {rs : List Int}, ModK p M k f rs → MJ p M k f
  | 0, f, _, ⟨h, _⟩ => by subst h; exact ⟨h0, fun s hs => by omega, fun y hy => by simp at hy, fun y hy => by simp at hy⟩
  | k + 1, f, _, ⟨f0, r0, n, a, b, _⟩ => by
    have j := modK_mj h0 a
    have j2 : MJ p M k f := b.inv (J := MJ p M k) j fun g hg _ => mj_next rk hM hg
    refine ⟨j2.fok, fun s hs => ?_, fun y hy => by have := j2.lev y hy; omega, j2.told⟩
    rcases Nat.lt_succ_iff_lt_or_eq.1 hs with h | rfl
    · exact j2.still s h
    · exact b.end_
end
/-! ### In whatever order -/
end Go.TF
end
section
/- The laws of a round, the other two: each returns true. -/
namespace Go.TF
open Go Go.RowKit Go.Proofs
set_option maxRecDepth 20000

def sumN (L : List Int) : Nat := (L.map Int.toNat).sum
theorem sum_min : ∀ (L M : List Int), L.length = M.length → (∀ x ∈ L, 0 ≤ x) → (∀ x ∈ M, 0 ≤ x) → sumN (List.zipWith min L M) ≤ sumN L ∧ (sumN (List.zipWith min L M) = sumN L → ∀ (j : Nat) (h1 : j < L.length) (h2 : j < M.length), L[j] ≤ M[j])
  | [], _, _, _, _ => ⟨by simp [sumN], fun _ j h1 => by simp at h1⟩
  | _ :: _, [], h, _, _ => by simp at h
  | a :: L, b :: M, h, hp, hp2 => by
    obtain ⟨i1, i2⟩ := sum_min L M (by simpa using h) (fun x hx => hp x (List.mem_cons_of_mem _ hx)) fun x hx => hp2 x (List.mem_cons_of_mem _ hx)
    have hb := hp2 b List.mem_cons_self
    have ha := hp a List.mem_cons_self
    have e1 : sumN (List.zipWith min (a :: L) (b :: M)) = (min a b).toNat + sumN (List.zipWith min L M) := by simp [sumN]
    have e2 : sumN (a :: L) = a.toNat + sumN L := by simp [sumN]
    rw [e1, e2]
    refine ⟨by omega, fun e j h1 h2 => ?_⟩
    cases j with
    | zero => show a ≤ b; omega
    | succ j => exact i2 (by omega) j (by simpa using h1) (by simpa using h2)
theorem least_ex {cs : List (Int × Ltl)} {n : Nat} {M0 : List Int} (h0 : Sol cs n M0) : ∃ L, Least cs n L := by
  have hmin : ∀ k : Nat, ∀ L, Sol cs n L → sumN L = k → ∃ L, Sol cs n L ∧ ∀ M, Sol cs n M → sumN L ≤ sumN M := by
    intro k
    induction k using Nat.strongRecOn with
    | ind k ih =>
      intro L hL hk
      by_cases hx : ∃ M, Sol cs n M ∧ sumN M < k
      · obtain ⟨M, hM, hlt⟩ := hx
        exact ih _ hlt M hM rfl
      · refine ⟨L, hL, fun M hM => ?_⟩
        rcases Nat.lt_or_ge (sumN M) k with h | h
        · exact absurd ⟨M, hM, h⟩ hx
        · omega
  obtain ⟨L, hL, hm⟩ := hmin _ M0 h0 rfl
  refine ⟨L, hL, fun M hM i => ?_⟩
  have hlv : ∀ i, lv (List.zipWith min L M) i = min (lv L i) (lv M i) := fun i => by
    simp only [lv, List.getD_eq_getElem?_getD, List.getElem?_zipWith]
    by_cases hi : i.toNat < n
    · rw [List.getElem?_eq_getElem (by rw [hL.len]; exact hi), List.getElem?_eq_getElem (by rw [hM.len]; exact hi)]; rfl
    · rw [List.getElem?_eq_none (by rw [hL.len]; omega), List.getElem?_eq_none (by rw [hM.len]; omega)]; rfl
  have hS : Sol cs n (List.zipWith min L M) := by
    refine ⟨by rw [List.length_zipWith, hL.len, hM.len, Nat.min_self], fun i => ?_, fun c hc => ?_⟩
    · rw [hlv]; have := hL.pos i; have := hM.pos i; omega
    · have h1 := hL.sat c hc
      have h2 := hM.sat c hc
      unfold SatC lst at *
      rw [hlv, hlv]; omega
  have hnn : ∀ K, Sol cs n K → ∀ x ∈ K, 0 ≤ x := fun K hK x hx => by
    obtain ⟨j, hj, rfl⟩ := List.getElem_of_mem hx
    have := hK.pos j
    rw [lv_get hj] at this; exact this
  obtain ⟨s1, s2⟩ := sum_min L M (hL.len.trans hM.len.symm) (hnn L hL) (hnn M hM)
  have := s2 (Nat.le_antisymm s1 (hm _ hS))
  by_cases hi : i.toNat < n
  · simp only [lv, List.getD_eq_getElem?_getD]
    rw [List.getElem?_eq_getElem (by rw [hL.len]; exact hi), List.getElem?_eq_getElem (by rw [hM.len]; exact hi)]
    exact this _ _ _
  · simp only [lv, List.getD_eq_getElem?_getD]
    rw [List.getElem?_eq_none (by rw [hL.len]; omega), List.getElem?_eq_none (by rw [hM.len]; omega)]; exact Int.le_refl _
theorem strataM_least {p : Prg} (h : checkProg p = 0) : Least (usesL p.rules.xs) p.preds.xs.length (strataM p) := by
  obtain ⟨_, _, _, M, hM⟩ := checkProg_ok h
  obtain ⟨L, hL⟩ := least_ex hM
  rw [strataM_eq hL]; exact hL
theorem least_lt {cs : List (Int × Ltl)} {n : Nat} {L : List Int} (hr : InR cs n) (h : Least cs n L) {i : Int} (h0 : 0 ≤ i) (h1 : i < n) : lv L i < n := by
  obtain ⟨M', hM', hlt⟩ := h.sol.small hr
  exact Int.lt_of_le_of_lt (h.least M' hM' i) (hlt i h0 h1)
end Go.TF
end
section
/- A program of some of another's rules: right too, no stratum greater; what is needed follows alike: plain. -/
namespace Go.TF
open Go

theorem chk_nil {p : Prg} (h : checkProg p = 0) : FOk p.preds.xs [] := fok_nil (checkProg_ok h).1 (chk_preds h)
theorem sol_sub {rs rs' : List Rul} {n : Nat} {K : List Int} (hR : ∀ r, r ∈ rs' → r ∈ rs) (h : Sol (usesL rs) n K) : Sol (usesL rs') n K := ⟨h.len, h.pos, fun c hc => by
  unfold usesL at hc
  obtain ⟨r, hr, hc⟩ := List.mem_flatMap.1 hc
  obtain ⟨x, hx, rfl⟩ := List.mem_map.1 hc
  exact h.sat _ (mem_uses (hR r hr) hx)⟩
/-- No stratum is greater. -/
theorem strata_sub {p q : Prg} (hp : q.preds.xs = p.preds.xs) (hR : ∀ r, r ∈ q.rules.xs → r ∈ p.rules.xs) (h : checkProg p = 0) (h2 : checkProg q = 0) (i : Int) : lv (strataM q) i ≤ lv (strataM p) i :=
  (strataM_least h2).least _ (by rw [hp]; exact sol_sub hR (strataM_least h).sol) i
theorem most_sub {K M : List Int} (hl : K.length = M.length) (h : ∀ i, lv K i ≤ lv M i) : mostL K ≤ mostL M := by
  rcases mostL_of K with e | e
  · rw [e]; exact mostL_ge M
  · obtain ⟨j, hj, e⟩ := List.getElem_of_mem e
    have h1 := h j
    rw [lv_get hj, lv_get (hl ▸ hj), e] at h1
    exact Int.le_trans h1 (mostL_mem (List.getElem_mem _))
/-! ### Only what is needed -/
section
variable {l : List Prd} {N : List Bool}
def nd (N : List Bool) (x : Fct) : Bool := bv N x.pred
theorem addF_front {k : Int} {x : Fct} : ∀ {g : List Fct}, (∀ z ∈ g, placeF x < placeF z) → (addF k g x).1 = x :: g
  | [], _ => rfl
  | z :: g, h => by
    have := h z List.mem_cons_self
    rw [addF, if_neg (by omega), if_pos this]
theorem nd_add {k : Int} {x : Fct} : ∀ {f : List Fct}, SrtF f → (∀ y ∈ f, placeF y = placeF x → y.pred = x.pred) → (addF k f x).1.filter (nd N) = if nd N x = true then (addF k (f.filter (nd N)) x).1 else f.filter (nd N)
  | [], _, _ => by
    rw [addF]
    cases h : nd N x <;> simp [h, addF]
  | y :: r, hs, hx => by
    obtain ⟨s1, s2⟩ := List.pairwise_cons.1 hs
    have ih := nd_add (k := k) (x := x) s2 fun z hz => hx z (List.mem_cons_of_mem _ hz)
    rw [addF]
    split
    · rename_i e
      have hp := hx y List.mem_cons_self e
      have hy : nd N y = nd N x := by unfold nd; rw [hp]
      have hy2 : nd N (⟨y.pred, y.a, y.b, joinV k y.v x.v⟩ : Fct) = nd N x := hy
      cases h : nd N x
      · simp [hy, hy2, h]
      · rw [List.filter_cons, if_pos (by rw [hy2, h]), if_pos rfl, List.filter_cons, if_pos (by rw [hy, h]), addF, if_pos e]
    · rename_i e
      split
      · rename_i e2
        cases h : nd N x
        · simp [h]
        · rw [List.filter_cons, if_pos h, if_pos rfl, addF_front]
          intro z hz
          obtain ⟨hz, _⟩ := List.mem_filter.1 hz
          rcases List.mem_cons.1 hz with rfl | hz
          · exact e2
          · exact Int.lt_trans e2 (s1 z hz)
      · rename_i e2
        show (y :: (addF k r x).1).filter _ = _
        rw [List.filter_cons, ih]
        cases h : nd N x
        · simp only [Bool.false_eq_true, if_false]
          rw [List.filter_cons]
        · simp only [if_true]
          cases hy : nd N y
          · simp [hy]
          · rw [if_pos rfl, List.filter_cons, if_pos hy, addF, if_neg e, if_neg e2]
theorem nd_fok {f : List Fct} (h : FOk l f) : FOk l (f.filter (nd N)) := ⟨h.len, h.preds, fun x hx => h.fine x (List.mem_filter.1 hx).1, h.srt.sublist List.filter_sublist⟩
theorem nd_look {f : List Fct} (h : FOk l f) {y : Fct} (hy : PF y) (hn : nd N y = true) : lkF (f.filter (nd N)) (placeF y) = lkF f (placeF y) := by
  have ho := nd_fok (N := N) h
  cases hl : lkF f (placeF y) with
  | none =>
    refine lkF_none.2 fun z hz => lkF_none.1 hl z (List.mem_filter.1 hz).1
  | some v =>
    obtain ⟨z, hz, e, ev⟩ := lkF_mem hl
    refine (lkF_some ho.srt).2 ⟨z, List.mem_filter.2 ⟨hz, ?_⟩, e, ev⟩
    have := ((fine_pf h.len (h.fine z hz)).inj hy e).1
    unfold nd at hn ⊢
    rw [this]; exact hn
theorem nd_run : ∀ (ts : List (Stp × Fct)) (s : List Fct × Bool), FOk l s.1 → (∀ t ∈ ts, factFine l t.2 = true) → ∀ b, (runL l s ts).1.filter (nd N) = (runL l (s.1.filter (nd N), b) (ts.filter fun t => nd N t.2)).1
  | [], s, _, _, b => rfl
  | t :: ts, s, hs, hf, b => by
    have hx := hf t List.mem_cons_self
    have ih := nd_run ts (putS l s t.2) (addF_fok hs hx) fun u hu => hf u (List.mem_cons_of_mem _ hu)
    have hadd := nd_add (N := N) (k := (predOf l t.2.pred).kind) (x := t.2) hs.srt fun y hy e => same_pred hs.len (hs.fine y hy) hx e
    show (runL l (putS l s t.2) ts).1.filter _ = _
    cases h : nd N t.2
    · rw [List.filter_cons, if_neg (by rw [h]; decide), ih b]
      rw [h] at hadd
      rw [show (putS l s t.2).1.filter (nd N) = s.1.filter (nd N) from hadd]
    · rw [List.filter_cons, if_pos h]
      rw [h] at hadd
      show _ = (runL l (putS l (s.1.filter (nd N), b) t.2) _).1
      rw [ih (putS l (s.1.filter (nd N), b) t.2).2]
      rw [show (putS l s t.2).1.filter (nd N) = (putS l (s.1.filter (nd N), b) t.2).1 from hadd]
end
structure Only (p q : Prg) (N : List Bool) : Prop where
  preds : q.preds.xs = p.preds.xs
  rules : ∀ r, r ∈ q.rules.xs ↔ r ∈ p.rules.xs ∧ bv N r.head.pred = true
  cp : checkProg p = 0
  cq : checkProg q = 0
  closed : ClosedN (usesL p.rules.xs) N
section
variable {p q : Prg} {N : List Bool} (o : Only p q N)
include o
theorem Only.sub : ∀ r, r ∈ q.rules.xs → r ∈ p.rules.xs := fun r hr => ((o.rules r).1 hr).1
theorem Only.body {r : Rul} (hr : r ∈ p.rules.xs) (hn : bv N r.head.pred = true) {x : Ltl} (hx : x ∈ r.body.xs) : bv N x.atom.pred = true := o.closed _ (mem_uses hr hx) hn
theorem Only.lv {i : Int} (hn : bv N i = true) : lv (strataM q) i = lv (strataM p) i := by
  have hle := strata_sub o.preds o.sub o.cp o.cq
  refine Int.le_antisymm (hle i) ?_
  have hLp := strataM_least o.cp
  have hLq := strataM_least o.cq
  rw [o.preds] at hLq
  have hcomb : ∃ L : List Int, L.length = p.preds.xs.length ∧ ∀ i, Go.TF.lv L i = if bv N i = true then Go.TF.lv (strataM q) i else Go.TF.lv (strataM p) i := by
    refine ⟨(List.range p.preds.xs.length).map fun (j : Nat) => if bv N j = true then Go.TF.lv (strataM q) j else Go.TF.lv (strataM p) j, by simp, fun i => ?_⟩
    have hbv : bv N i = bv N (i.toNat : Int) := rfl
    have hlq : Go.TF.lv (strataM q) i = Go.TF.lv (strataM q) (i.toNat : Int) := rfl
    have hlp : Go.TF.lv (strataM p) i = Go.TF.lv (strataM p) (i.toNat : Int) := rfl
    rw [hbv, hlq, hlp]
    show (List.map _ _).getD i.toNat 0 = _
    generalize i.toNat = j
    by_cases hi : j < p.preds.xs.length
    · rw [List.getD_eq_getElem?_getD, List.getElem?_map, List.getElem?_range hi]; rfl
    · have e1 : Go.TF.lv (strataM q) (j : Int) = 0 := by unfold Go.TF.lv; rw [List.getD_eq_getElem?_getD, List.getElem?_eq_none (by rw [hLq.sol.len, Int.toNat_natCast]; omega)]; rfl
      have e2 : Go.TF.lv (strataM p) (j : Int) = 0 := by unfold Go.TF.lv; rw [List.getD_eq_getElem?_getD, List.getElem?_eq_none (by rw [hLp.sol.len, Int.toNat_natCast]; omega)]; rfl
      rw [e1, e2, List.getD_eq_getElem?_getD, List.getElem?_eq_none (by rw [List.length_map, List.length_range]; omega)]
      split <;> rfl
  obtain ⟨L, h1, h2⟩ := hcomb
  have hS : Sol (usesL p.rules.xs) p.preds.xs.length L := by
    refine ⟨h1, fun i => ?_, fun c hc => ?_⟩
    · rw [h2]; split
      · exact hLq.sol.pos i
      · exact hLp.sol.pos i
    · unfold usesL at hc
      obtain ⟨r, hr, hc⟩ := List.mem_flatMap.1 hc
      obtain ⟨x, hx, rfl⟩ := List.mem_map.1 hc
      unfold SatC lst
      dsimp only
      rw [h2, h2]
      by_cases hn : bv N r.head.pred = true
      · rw [if_pos hn, if_pos (o.body hr hn hx)]
        exact hLq.sol.sat _ (mem_uses ((o.rules r).2 ⟨hr, hn⟩) hx)
      · rw [if_neg hn]
        have h3 := hLp.sol.sat _ (mem_uses hr hx)
        unfold SatC lst at h3
        dsimp only at h3
        split
        · have := hle x.atom.pred; omega
        · exact h3
  have := hLp.least L hS i
  rw [h2, if_pos hn] at this
  exact this
theorem Only.hold {f : List Fct} (okf : FOk p.preds.xs f) {r : Rul} (hr : r ∈ p.rules.xs) (hn : bv N r.head.pred = true) {x : Vrs} (hx : VsOk x) : holdsB (f.filter (nd N)) r x = holdsB f r x ∧ headF p.preds.xs (f.filter (nd N)) r x = headF p.preds.xs f r x := by
  have rk := chk_rok o.cp
  have hlit : ∀ t ∈ r.body.xs, lkF (f.filter (nd N)) (placeF (groundF t.atom x)) = lkF f (placeF (groundF t.atom x)) := fun t ht => by
    have ao := aok_of (rk r hr).preds ((rk r hr).body t ht)
    exact nd_look okf (ao.pf (rk r hr).five hx 0) (o.body hr hn ht)
  constructor
  · unfold holdsB
    rw [Bool.eq_iff_iff, List.all_eq_true, List.all_eq_true]
    have key : ∀ t ∈ r.body.xs, litOk (f.filter (nd N)) x t = litOk f x t := fun t ht => by unfold litOk isF; rw [hlit t ht]
    exact ⟨fun h t ht => (key t ht) ▸ h t ht, fun h t ht => (key t ht).symm ▸ h t ht⟩
  · unfold headF headV
    by_cases h0 : 0 ≤ r.src
    · rw [if_pos h0, if_pos h0, hlit _ (litOf_mem ⟨h0, (rk r hr).src.2⟩)]
    · rw [if_neg h0, if_neg h0]
theorem Only.told {f : List Fct} (okf : FOk p.preds.xs f) (s : Int) (y : Fct) : (∃ t ∈ toldL q.preds.xs (f.filter (nd N)) q.rules.xs (ofQ q (strataM q) s), t.2 = y) ↔ ∃ t ∈ toldL p.preds.xs f p.rules.xs (ofQ p (strataM p) s), t.2 = y ∧ nd N y = true := by
  constructor
  · rintro ⟨t, ht, rfl⟩
    obtain ⟨n, r, hr, hq, hs, he⟩ := mem_told.1 ht
    obtain ⟨hrp, hn⟩ := (o.rules r).1 (List.mem_of_getElem? hr)
    obtain ⟨m, hm, em⟩ := List.getElem_of_mem hrp
    have hm' : p.rules.xs[m]? = some r := by rw [List.getElem?_eq_getElem hm, em]
    have hlv := (ofQ_iff hr).1 hq
    rw [o.lv hn] at hlv
    unfold stepsF at hs
    obtain ⟨v, hv, ev⟩ := List.mem_map.1 hs
    obtain ⟨v1, v2⟩ := List.mem_filter.1 hv
    have hh := o.hold okf hrp hn (mem_vecs.1 v1)
    have hvv : t.1.vars = v := by rw [← ev]
    refine ⟨(⟨(m : Int), v⟩, t.2), mem_told.2 ⟨m, r, hm', (ofQ_iff hm').2 hlv, ?_, ?_⟩, rfl, ?_⟩
    · unfold stepsF; exact List.mem_map.2 ⟨v, List.mem_filter.2 ⟨v1, by rw [← hh.1]; exact v2⟩, rfl⟩
    · rw [he, hvv, o.preds]; exact hh.2
    · rw [he]; exact hn
  · rintro ⟨t, ht, rfl, hn⟩
    obtain ⟨n, r, hr, hq, hs, he⟩ := mem_told.1 ht
    have hrp := List.mem_of_getElem? hr
    have hn : bv N r.head.pred = true := by rw [he] at hn; exact hn
    obtain ⟨m, hm, em⟩ := List.getElem_of_mem ((o.rules r).2 ⟨hrp, hn⟩)
    have hm' : q.rules.xs[m]? = some r := by rw [List.getElem?_eq_getElem hm, em]
    have hlv := (ofQ_iff hr).1 hq
    rw [← o.lv hn] at hlv
    unfold stepsF at hs
    obtain ⟨v, hv, ev⟩ := List.mem_map.1 hs
    obtain ⟨v1, v2⟩ := List.mem_filter.1 hv
    have hh := o.hold okf hrp hn (mem_vecs.1 v1)
    have hvv : t.1.vars = v := by rw [← ev]
    refine ⟨(⟨(m : Int), v⟩, t.2), mem_told.2 ⟨m, r, hm', (ofQ_iff hm').2 hlv, ?_, ?_⟩, rfl⟩
    · unfold stepsF; exact List.mem_map.2 ⟨v, List.mem_filter.2 ⟨v1, by rw [hh.1]; exact v2⟩, rfl⟩
    · rw [he, hvv, o.preds]; exact hh.2.symm
theorem Only.turn {f : List Fct} (okf : FOk p.preds.xs f) (s : Int) : (turnT q (strataM q) s (f.filter (nd N))).1 = (turnT p (strataM p) s f).1.filter (nd N) := by
  have rk := chk_rok o.cp
  have rkq := chk_rok o.cq
  rw [o.preds] at rkq
  have okF := nd_fok (N := N) okf
  have tp := told_fine (q := ofQ p (strataM p) s) rk okf
  have tq : ∀ t ∈ toldL q.preds.xs (f.filter (nd N)) q.rules.xs (ofQ q (strataM q) s), factFine p.preds.xs t.2 = true := by rw [o.preds]; exact told_fine rkq okF
  have e := nd_run (N := N) _ (f, false) okf tp false
  show (runL q.preds.xs (f.filter (nd N), false) _).1 = (runL p.preds.xs (f, false) _).1.filter (nd N)
  rw [e]
  have t2 : ∀ t ∈ (toldL p.preds.xs f p.rules.xs (ofQ p (strataM p) s)).filter (fun t => nd N t.2), factFine p.preds.xs t.2 = true := fun t ht => tp t (List.mem_filter.1 ht).1
  have r1 := run_up _ (f.filter (nd N), false) okF tq
  have r2 := run_up _ (f.filter (nd N), false) okF t2
  have hpq : runL q.preds.xs = runL p.preds.xs := by rw [o.preds]
  rw [hpq]
  refine under_anti r1.fok r2.fok (run_least r2.fok _ (f.filter (nd N), false) okF tq r2.up fun t ht => ?_) (run_least r1.fok _ (f.filter (nd N), false) okF t2 r1.up fun t ht => ?_)
  · obtain ⟨u, hu, e1, e2⟩ := (o.told okf s t.2).1 ⟨t, ht, rfl⟩
    rw [← e1]
    exact r2.each u (List.mem_filter.2 ⟨hu, by rw [e1]; exact e2⟩)
  · obtain ⟨h1, h2⟩ := List.mem_filter.1 ht
    obtain ⟨u, hu, e1⟩ := (o.told okf s t.2).2 ⟨t, h1, rfl, h2⟩
    rw [← e1]
    exact r1.each u hu
theorem Only.clo {s : Int} {f r : List Fct} {n : Nat} (h : Clo (turnT p (strataM p) s) f r n) : FOk p.preds.xs f → ∃ m, Clo (turnT q (strataM q) s) (f.filter (nd N)) (r.filter (nd N)) m := by
  have rk := chk_rok o.cp
  have rkq := chk_rok o.cq
  have chg : ∀ g, FOk p.preds.xs g → (turnT q (strataM q) s (g.filter (nd N))).2 = decide ((turnT q (strataM q) s (g.filter (nd N))).1 ≠ g.filter (nd N)) := fun g okg => turn_chg (by rw [o.preds]; exact nd_fok okg) (told_fine rkq (by rw [o.preds]; exact nd_fok okg))
  induction h with
  | @stop f h =>
    intro okf
    refine ⟨0, .stop ?_⟩
    rw [chg f okf, o.turn okf]
    have h1 : (turnT p (strataM p) s f).2 = decide ((turnT p (strataM p) s f).1 ≠ f) := turn_chg okf (told_fine rk okf)
    rw [h] at h1
    have h2 := of_decide_eq_false h1.symm
    rw [Decidable.not_not.1 h2]
    exact decide_eq_false fun hh => hh rfl
  | @step f r n h c ih =>
    intro okf
    obtain ⟨m, cm⟩ := ih (turn_fok okf (told_fine rk okf))
    rw [← o.turn okf] at cm
    cases hc : (turnT q (strataM q) s (f.filter (nd N))).2
    · have h1 := chg f okf
      rw [hc] at h1
      have h2 := Decidable.not_not.1 (of_decide_eq_false h1.symm)
      rw [h2] at cm
      exact ⟨m, cm⟩
    · exact ⟨m + 1, .step hc cm⟩
theorem Only.mod : ∀ {k : Nat} {f : List Fct} {rs : List Int}, ModK p (strataM p) k f rs → ∃ rs', ModK q (strataM q) k (f.filter (nd N)) rs'
  | 0, f, rs, ⟨h, _⟩ => ⟨[], by rw [h]; rfl, rfl⟩
  | k + 1, f, rs, ⟨f0, r0, n, a, b, _⟩ => by
    have j := modK_mj (chk_rok o.cp) (strataM_least o.cp).sol (chk_nil o.cp) a
    obtain ⟨rs', m⟩ := Only.mod a
    obtain ⟨n', c⟩ := o.clo b j.fok
    exact ⟨_, _, _, _, m, c, rfl⟩
theorem Only.most : numS (strataM q) ≤ numS (strataM p) := by
  have := most_sub (K := strataM q) (M := strataM p) (by rw [(strataM_least o.cq).sol.len, (strataM_least o.cp).sol.len, o.preds]) (strata_sub o.preds o.sub o.cp o.cq)
  unfold numS; omega
theorem Only.model {f g : List Fct} {rs rs' : List Int} (m : ModK p (strataM p) (numS (strataM p)) f rs) (m2 : ModK q (strataM q) (numS (strataM q)) g rs') : g = f.filter (nd N) := by
  obtain ⟨rs2, h⟩ := o.mod m
  have hLq := strataM_least o.cq
  have key : ∀ (d k : Nat), k = numS (strataM q) + d → ∀ {f rs}, ModK q (strataM q) k f rs → ∃ rs', ModK q (strataM q) (numS (strataM q)) f rs' := by
    intro d
    induction d with
    | zero => intro k hk f rs h; rw [hk] at h; exact ⟨rs, h⟩
    | succ d ih =>
      intro k hk f rs h
      rw [show k = (numS (strataM q) + d) + 1 by omega] at h
      obtain ⟨f0, r0, n, a, b, _⟩ := h
      have hno : ∀ g, (turnT q (strataM q) ((numS (strataM q) + d : Nat) : Int) g).2 = false := fun g => by
        have : toldL q.preds.xs g q.rules.xs (ofQ q (strataM q) ((numS (strataM q) + d : Nat) : Int)) = [] := by
          refine List.eq_nil_iff_forall_not_mem.2 fun t ht => ?_
          obtain ⟨n, r, hr, hq, _, _⟩ := mem_told.1 ht
          have e := (ofQ_iff hr).1 hq
          obtain ⟨_, _, k3, _, _⟩ := checkProg_ok o.cq
          obtain ⟨i0, i1⟩ := heads_in k3 r (List.mem_of_getElem? hr)
          have hlt : r.head.pred.toNat < (strataM q).length := by rw [hLq.sol.len]; omega
          have e2 := lv_get hlt
          rw [Int.toNat_of_nonneg i0] at e2
          have := mostL_mem (List.getElem_mem hlt)
          have := mostL_ge (strataM q)
          rw [e2] at e
          unfold numS at e
          omega
        unfold turnT
        rw [this]; rfl
      cases b with
      | stop _ => exact ih _ rfl a
      | step h2 _ => rw [hno] at h2; cases h2
  have hm := o.most
  obtain ⟨rs3, h3⟩ := key (numS (strataM p) - numS (strataM q)) _ (by omega) h
  exact ((h3.uniq m2).1)
end
end Go.TF
end
section
/- Naive: how many strata; rounds of each until none changes anything; and the document's. -/
namespace Go.TF
open Go Go.RowKit Go.Proofs
set_option maxRecDepth 20000

theorem mostL_take {L : List Int} {k : Nat} (hk : k < L.length) : mostL (L.take (k + 1)) = max (mostL (L.take k)) L[k] := by
  unfold mostL; rw [List.take_succ_eq_append_getElem hk, List.foldl_append]; rfl
theorem mostL_small {L : List Int} (h : ∀ x ∈ L, 0 ≤ x ∧ x ≤ 5) : mostL L ≤ 5 := by
  rcases mostL_of L with e | e
  · omega
  · exact (h _ e).2
theorem numS_eq (L : List Int) : ((numS L : Nat) : Int) = mostL L + 1 := by have := mostL_ge L; unfold numS; omega
theorem least_small {p : Prg} {L : List Int} (h : checkProg p = 0) (hL : Least (usesL p.rules.xs) p.preds.xs.length L) : ∀ x ∈ L, 0 ≤ x ∧ x ≤ 5 := fun x hx => by
  obtain ⟨k1, _, k3, _, _⟩ := checkProg_ok h
  obtain ⟨j, hj, rfl⟩ := List.getElem_of_mem hx
  have hl := hL.sol.len
  have h1 := hL.sol.pos j
  have h2 := least_lt (inR_of k3) hL (i := (j : Int)) (by omega) (by omega)
  rw [lv_get hj] at h1 h2
  omega
theorem NStrata_ok (B : Base) (hB : B.ok) (s : Sl Int) (hs : s.Is 1 iEnc B.h) (hb : ∀ x ∈ s.xs, 0 ≤ x ∧ x ≤ 5) : Fn Tryz.prog 76 [s.val] B (fun v _ => v = .int .i64 (numS s.xs : Nat)) := by
  have hsm := hs.small
  refine Fn.of Tryz.func76 rfl Tryz.ntmps76 (by kernel_rfl) (by simp) ?_
  intro e
  have I := Inv.start hB
  refine WP.seq ?_
  refine WP.region ?_
  refine Ops.y (v := .int .i64 _) (Y.assign rfl) ?_
  refine Ops.nil ?_
  refine WP.seq ?_
  refine WP.region ?_
  refine Ops.y (v := .int .i64 _) (Y.assign rfl) ?_
  refine Ops.nil ?_
  refine WP.seq ?_
  refine WP.seq ?_
  refine WP.region ?_
  refine Ops.y (v := .slice _ _ _) (Y.move rfl) ?_
  refine Ops.y (v := .int .i64 _) (Y.lens Tryz.underlying78 rfl) ?_
  refine Ops.y (v := .int .i64 _) (Y.move rfl) ?_
  refine Ops.nil ?_
  refine WP.block ?_
  refine WP.loopE (σ := Nat) (fun k => [(3, .int .i64 (mostL (s.xs.take k) + 1)), (6, s.val), (7, .int .i64 s.xs.length), (8, .int .i64 k)]) (fun k w => Inv B B.h [] w ∧ k ≤ s.xs.length) (fun k => s.xs.length - k)
    ⟨0, ⟨rfl, rfl, rfl, rfl, trivial⟩, I, Nat.zero_le _⟩ ?_
  rintro k e w ⟨I, hk⟩
  refine WP.seq ?_
  refine WP.region ?_
  refine Ops.y (v := .bool (decide _)) (Y.lti rfl rfl) ?_
  refine Ops.nil ?_
  refine WP.seq ?_
  refine WP.cond_dec rfl (fun h3 => ?_) (fun h3 => ?_)
  · have hk' : k < s.xs.length := by omega
    have E := hs.at hk'
    have hx := hb _ (List.getElem_mem hk')
    refine WP.skip ?_
    refine WP.seq ?_
    refine WP.block ?_
    refine WP.seq ?_
    refine WP.region ?_
    refine Ops.y (v := .pointer (some ⟨_, _, none⟩)) (Y.idxEl E Tryz.underlying78 Tryz.sizeOf3 rfl rfl (Int.natCast_nonneg _) rfl) ?_
    refine Ops.y (v := .int .i64 _) (Y.loadv ty_3 rfl (I.rd (E.rd.part 0 1)) rfl rfl) ?_
    refine Ops.y (v := .int .i64 _) (Y.assign rfl) ?_
    refine Ops.nil ?_
    refine WP.region ?_
    refine Ops.y (v := .int .i64 _) (Y.move rfl) ?_
    refine Ops.y (v := .int .i64 _) (Y.move rfl) ?_
    refine Ops.y (v := .int .i64 _) (Y.addi rfl rfl ⟨by omega, by omega⟩) ?_
    refine Ops.y (v := .int .i64 _) (Y.max2 rfl rfl) ?_
    refine Ops.y (v := .int .i64 _) (Y.assign rfl) ?_
    refine Ops.nil ?_
    refine WP.region ?_
    refine Ops.y (v := .int .i64 _) (Y.addi rfl rfl ⟨by omega, by omega⟩) ?_
    refine Ops.y (v := .int .i64 _) (Y.move rfl) ?_
    refine Ops.nil ?_
    exact ⟨k + 1, ⟨⟨congrArg (Value.int .i64) (by rw [mostL_take hk']; omega), rfl, rfl, rfl, trivial⟩, I, by omega⟩, by omega⟩
  obtain rfl : k = s.xs.length := by omega
  refine WP.exit ?_
  refine WP.seq ?_
  refine WP.region ?_
  refine Ops.y (v := .int .i64 _) (Y.move rfl) ?_
  refine Ops.y (v := .int .i64 _) (Y.assign rfl) ?_
  refine Ops.nil ?_
  refine WP.ret ?_
  repeat (first | refine thenE_ret ?_ | refine blockE_ret ?_)
  exact retQ.mk (vs := [.int .i64 _]) rfl ⟨rfl, trivial⟩ I.ext_of (by simp only [tup]; rw [List.take_length, numS_eq])
def RecP (p : Prg) (v : Value) (h : Heap) : Prop := ∃ (s : Sl Fct) (r : Sl Int), v = .tuple #[s.val, r.val] ∧ Fcts s h ∧ r.Is 1 iEnc h ∧ ModK p (strataM p) (numS (strataM p)) s.xs r.xs
def RecO (h0 : Heap) (p : Prg) (v : Value) (h : Heap) : Prop := ∃ (s : Sl Fct) (r : Sl Int), v = .tuple #[s.val, r.val] ∧ Fcts s h ∧ r.Is 1 iEnc h ∧ ModK p (strataM p) (numS (strataM p)) s.xs r.xs ∧ OwnH 83 4 s Fct.enc h0 h
theorem RecO.rec {h0 h : Heap} {p : Prg} {v : Value} (x : RecO h0 p v h) : RecP p v h := by obtain ⟨s, r, a, b, c, d, _⟩ := x; exact ⟨s, r, a, b, c, d⟩
theorem PutO.mono {h0 : Heap} {r : List Fct × Bool} : MonoS (PutO h0 r) := fun _ _ _ hl ⟨s, a, b, c, d⟩ => ⟨s, a, b, c.le hl, d.le hl⟩
def SlO (h0 : Heap) (xs : List Fct) : Sp := fun v h => ∃ s : Sl Fct, v = s.val ∧ s.xs = xs ∧ Fcts s h ∧ OwnH 83 4 s Fct.enc h0 h
theorem SlO.mono {h0 : Heap} {xs : List Fct} : MonoS (SlO h0 xs) := fun _ _ _ hl ⟨s, a, b, c, d⟩ => ⟨s, a, b, c.le hl, d.le hl⟩
theorem put_mid {a : List Int} {t : List Int} {x y : Int} {k : Nat} (h : a.length = k) : (a ++ x :: t).set k y = a ++ y :: t := by subst h; simp
theorem get_mid {a : List Int} {t : List Int} {x : Int} {k : Nat} (h : a.length = k) : (a ++ x :: t)[k]? = some x := by subst h; simp
set_option maxHeartbeats 4000000 in
theorem Reckon_own (B : Base) (hB : B.ok) (p : Prg) (hp : p.In B.h) (hpr : checkProg p = 0) : Fn Tryz.prog 33 [p.val] B (RecO B.h p) := by
  obtain ⟨k1, k2, k3, _, _⟩ := checkProg_ok hpr
  have rk := chk_rok hpr
  have ok0 := chk_nil hpr
  refine Fn.of Tryz.func33 rfl Tryz.ntmps33 (by kernel_rfl) (by simp) ?_
  intro e
  have I := Inv.start hB
  refine WP.seq ?_
  refine WP.region ?_
  refine Ops.go (O.box (v := .agg #[_, _]) I rfl rfl ?_)
  intro b1 w I
  refine Ops.y (v := .slice _ _ _) (Y.assign rfl) ?_
  refine Ops.y (v := .slice _ _ _) (Y.assign rfl) ?_
  refine Ops.nil ?_
  refine WP.seq ?_
  refine WP.region ?_
  refine Ops.y (v := .agg #[_, _]) (Y.loadv ty_25 rfl (I.rdbox 0 rfl 0 2) rfl rfl) ?_
  refine Ops.go (O.call I Tryz.call62 (Levels_ok _ I.base_ok p hp (inR_of k3) k1) rfl ?_)
  rintro v13 h1 w I le1 hL
  rcases hL with ⟨s, hS, hI, rfl⟩ | ⟨hno, rfl⟩
  rotate_left
  exact absurd (strataM_least hpr).sol (hno _)
  refine Ops.y (v := .tuple #[_, _]) (Y.move rfl) ?_
  refine Ops.y (v := .slice _ _ _) (Y.extract rfl rfl) ?_
  refine Ops.y (v := .bool _) (Y.extract rfl rfl) ?_
  refine Ops.y (v := .slice _ _ _) (Y.assign rfl) ?_
  refine Ops.y (v := .bool _) (Y.assign rfl) ?_
  refine Ops.nil ?_
  have hS : Least (usesL p.rules.xs) p.preds.xs.length s.xs := hS
  have eM := strataM_eq hS
  have hb5 := least_small hpr hS
  have hN5 := mostL_small hb5
  have hNe := numS_eq s.xs
  obtain ⟨N, hN⟩ : ∃ N, numS s.xs = N := ⟨_, rfl⟩
  refine WP.seq ?_
  refine WP.region ?_
  refine Ops.y (v := .slice _ _ _) (Y.assign rfl) ?_
  refine Ops.nil ?_
  refine WP.seq ?_
  refine WP.region ?_
  refine Ops.y (v := .slice _ _ _) (Y.move rfl) ?_
  refine Ops.go (O.callv I Tryz.call76 (hN ▸ NStrata_ok _ I.base_ok s hI hb5) rfl ?_)
  intro w I
  refine Ops.go (O.make1 (n := N) (zc := (vI 0)) I Tryz.underlying78 et_3 rfl rfl rfl (by omega) (by omega) ?_)
  intro b18 w I
  refine Ops.y (v := .slice _ _ _) (Y.assign rfl) ?_
  refine Ops.nil ?_
  rw [← List.map_replicate (f := vI)] at I
  refine WP.seq ?_
  refine WP.seq ?_
  refine WP.region ?_
  refine Ops.y (v := .slice _ _ _) (Y.move rfl) ?_
  refine Ops.y (v := .int .i64 _) (Y.lens Tryz.underlying78 rfl) ?_
  refine Ops.y (v := .int .i64 _) (Y.move rfl) ?_
  refine Ops.nil ?_
  refine WP.block ?_
  refine WP.loopE (σ := Nat × Sl Fct × List Int × Heap) (fun s' => [(1, .pointer (some ⟨b1, 0, none⟩)), (4, s.val), (6, s'.2.1.val), (7, .slice (some ⟨b18, 0, none⟩) N N), (20, .int .i64 N), (21, .int .i64 s'.1)])
    (fun s' w => Inv B s'.2.2.2 [box b18 ((s'.2.2.1 ++ List.replicate (N - s'.1) 0).map vI) 3, box b1 p.enc 25] w ∧ s'.1 ≤ N ∧ h1.le s'.2.2.2 ∧ ModK p s.xs s'.1 s'.2.1.xs s'.2.2.1 ∧ Fcts s'.2.1 s'.2.2.2 ∧ OwnH 83 4 s'.2.1 Fct.enc B.h s'.2.2.2) (fun s' => N - s'.1)
    ⟨(0, ⟨none, 0, []⟩, [], h1), ⟨rfl, rfl, rfl, rfl, rfl, rfl, trivial⟩, I, Nat.zero_le _, Heap.le.refl _, ⟨rfl, rfl⟩, fnil, .inl rfl⟩ ?_
  rintro ⟨k, f, r0, hh⟩ e w ⟨I, hk, gl, hm, hf, ho⟩
  dsimp only at I hk gl hm hf ho ⊢
  have hrl := hm.len
  refine WP.seq ?_
  refine WP.region ?_
  refine Ops.y (v := .bool (decide _)) (Y.lti rfl rfl) ?_
  refine Ops.nil ?_
  refine WP.seq ?_
  refine WP.cond_dec rfl (fun h5 => ?_) (fun h5 => ?_)
  · have hk' : k < N := by omega
    have j0 := modK_mj rk hS.sol ok0 hm
    refine WP.skip ?_
    refine WP.seq ?_
    refine WP.block ?_
    refine WP.seq ?_
    refine WP.region ?_
    refine Ops.y (v := .int .i64 _) (Y.move rfl) ?_
    refine Ops.y (v := .int .i64 _) (Y.assign rfl) ?_
    refine Ops.nil ?_
    rw [show N - k = (N - k - 1) + 1 by omega, List.replicate_succ] at I
    refine WP.block ?_
    refine WP.loopE (σ := Nat × Sl Fct × Heap) (fun s' => [(1, .pointer (some ⟨b1, 0, none⟩)), (4, s.val), (6, s'.2.1.val), (7, .slice (some ⟨b18, 0, none⟩) N N), (8, .int .i64 k), (20, .int .i64 N), (21, .int .i64 k)])
      (fun s' w => Inv B s'.2.2 [box b18 ((r0 ++ (s'.1 : Int) :: List.replicate (N - k - 1) 0).map vI) 3, box b1 p.enc 25] w ∧ h1.le s'.2.2 ∧ FOk p.preds.xs s'.2.1.xs ∧ CloB (turnT p s.xs k) f.xs s'.1 s'.2.1.xs ∧ Fcts s'.2.1 s'.2.2 ∧ s'.1 ≤ potF p.preds.xs s'.2.1.xs ∧ OwnH 83 4 s'.2.1 Fct.enc B.h s'.2.2) (fun s' => 2001 - potF p.preds.xs s'.2.1.xs)
      ⟨(0, f, hh), ⟨rfl, rfl, rfl, rfl, rfl, rfl, rfl, trivial⟩, I, gl, j0.fok, CloB.zero, hf, Nat.zero_le _, ho⟩ ?_
    rintro ⟨m, u, h2⟩ e w ⟨I, gl2, okf, cb, hu, hmp, hou⟩
    dsimp only at I gl2 okf cb hu hmp hou ⊢
    have hp2 := hp.le (le1.trans gl2)
    have hI2 := hI.le gl2
    have hpl := potF_le p.preds.xs u.xs
    have tf := told_fine (q := ofQ p s.xs k) rk okf
    obtain ⟨tr, htr⟩ : ∃ t, turnL p.preds.xs u.xs (toldL p.preds.xs u.xs p.rules.xs (ofQ p s.xs k)) = t := ⟨_, rfl⟩
    have htT : turnT p s.xs k u.xs = tr := htr
    refine WP.block ?_
    refine WP.seq ?_
    refine WP.regionF mixed I 12 (by kernel_rfl) ?_
    refine OpsF.y_ (v := .agg #[_, _]) (fun _ => runs_none _) (fun _ w us hl I => Y.loadv ty_25 rfl (I.rdbox 1 rfl 0 2) rfl rfl) ?_
    refine OpsF.y_ (v := .slice _ _ _) (fun _ => runs_none _) (fun _ w us hl I => Y.move rfl) ?_
    refine OpsF.y_ (v := .agg #[_, _]) (fun _ => runs_none _) (fun _ w us hl I => Y.loadv ty_25 rfl (I.rdbox 1 rfl 0 2) rfl rfl) ?_
    refine OpsF.y_ (v := .slice _ _ _) (fun _ => runs_none _) (fun _ w us hl I => Y.move rfl) ?_
    refine OpsF.y_ (v := .int .i64 _) (fun _ => runs_none _) (fun _ w us hl I => Y.move rfl) ?_
    refine OpsF.x_ (Φ := ROfS p s.xs k) ROfS.mono (fun _ => runs_none _) ?_ ?_
    · intro _ w hl I
      try unfold AllL
      refine O.call I Tryz.call78 (ROf_ok _ I.base_ok p s k) rfl ?_
      rintro _ h5 w I hl' ⟨b4, b3, b5, rfl, k4, k3', k5⟩
      exact ⟨_, hl', I, ⟨_, rfl, ROf1_ok p s k b4 b3 b5 k4 k3' k5 ((hp2.le hl).le hl') ((hI2.le hl).le hl') hS.sol.len (heads_in k3)⟩⟩
    refine OpsF.x_ (Φ := PutO B.h tr) PutO.mono (fun _ => runs_none _) ?_ ?_
    · intro _ w hl I u30 q30
      obtain ⟨cs, rfl, hoc⟩ := q30 rfl
      try unfold AllL
      refine O.call I Tryz.call77 (htr ▸ Turn_own _ I.base_ok p (hp2.le hl) hpr u (hu.le hl) okf 133 cs _ hoc) rfl ?_
      rintro _ h6 w I hl' ⟨s9, a9, b9, c9, d9⟩
      exact ⟨_, hl', I, ⟨s9, a9, b9, c9, d9.older (((le1.trans gl2).trans hl))⟩⟩
    refine OpsF.x_ (Φ := PutO B.h tr) PutO.mono (fun _ => runs_none _) ?_ ?_
    · intro _ w hl I u30 q30 u31 q31
      exact O.yx I (Y.move rfl) (q31 rfl)
    refine OpsF.x_ (Φ := SlO B.h tr.1) SlO.mono (fun _ => runs_none _) ?_ ?_
    · intro _ w hl I u30 q30 u31 q31 u24 q24
      obtain ⟨s6, rfl, e6, i6, o6⟩ := q24 rfl
      exact O.yx I (Y.extract rfl rfl) (⟨s6, rfl, e6, i6, o6⟩)
    refine OpsF.d_ (v := .bool tr.2) (fun _ => runs_none _) ?_ ?_
    · intro _ w hl I u30 q30 u31 q31 u24 q24 u32 q32
      obtain ⟨s6, rfl, e6, i6, o6⟩ := q24 rfl
      exact O.yd I (Y.extract rfl rfl) (rfl)
    refine OpsF.x_ (Φ := SlO B.h tr.1) SlO.mono (fun _ => runs_none _) ?_ ?_
    · intro _ w hl I u30 q30 u31 q31 u24 q24 u32 q32
      exact O.yx I (Y.assign rfl) (q32 rfl)
    refine OpsF.y_ (v := .bool _) (fun _ => runs_none _) (fun _ w us hl I => Y.assign rfl) ?_
    refine OpsF.nil ?_
    intro _ w hl I u30 q30 u31 q31 u24 q24 u32 q32 u9 q9
    refine Ops.nil ?_
    obtain ⟨s6, rfl, hs6, is6, os6⟩ := q9 rfl
    have hf6 : Fcts s6 _ := is6
    have okg : FOk p.preds.xs s6.xs := by rw [hs6, ← htr]; exact turn_fok okf tf
    refine WP.seq ?_
    refine WP.seq ?_
    refine WP.region ?_
    refine Ops.y (v := .bool _) (Y.move rfl) ?_
    refine Ops.y (v := .bool _) (Y.not rfl) ?_
    refine Ops.nil ?_
    refine WP.cond rfl (fun h8 => ?_) (fun h8 => ?_)
    · have h8 : tr.2 = false := by simpa using h8
      refine WP.exit ?_
      refine WP.region ?_
      refine Ops.y (v := .int .i64 _) (Y.addi rfl rfl ⟨by omega, by omega⟩) ?_
      refine Ops.y (v := .int .i64 _) (Y.move rfl) ?_
      refine Ops.nil ?_
      exact ⟨(k + 1, u, r0 ++ [(m : Int)], _), ⟨⟨rfl, rfl, rfl, rfl, rfl, rfl, trivial⟩, by rw [List.append_assoc, List.singleton_append, show N - (k + 1) = N - k - 1 by omega]; exact I, by dsimp only; omega, gl2.trans hl, ⟨f.xs, r0, m, hm, cb.done (by rw [htT]; exact h8), rfl⟩, hu.le hl, hou.le hl⟩, by dsimp only; omega⟩
    have h8 : tr.2 = true := by simpa using h8
    have hne : s6.xs ≠ u.xs := by
      have := turn_chg okf tf
      rw [htr, h8] at this
      rw [hs6]; exact of_decide_eq_true this.symm
    have hlt := potF_lt okf okg (by rw [hs6, ← htr]; exact turn_above okf tf) hne
    have hpl2 := potF_le p.preds.xs s6.xs
    refine WP.skip ?_
    refine WP.seq ?_
    refine WP.region ?_
    refine Ops.y (v := .slice _ _ _) (Y.move rfl) ?_
    refine Ops.y (v := .slice _ _ _) (Y.assign rfl) ?_
    refine Ops.nil ?_
    refine WP.region ?_
    refine Ops.y (v := .slice _ _ _) (Y.move rfl) ?_
    refine Ops.y (v := .int .i64 _) (Y.move rfl) ?_
    refine Ops.y (v := .pointer (some ⟨_, _, none⟩)) (Y.idx Tryz.underlying78 Tryz.sizeOf3 rfl rfl (by omega) (by omega)) ?_
    refine Ops.y (v := .int .i64 _) (Y.loadv ty_3 rfl (I.rdL 0 rfl (by omega) (get_mid hrl)) rfl rfl) ?_
    refine Ops.y (v := .int .i64 _) (Y.addi rfl rfl ⟨by omega, by omega⟩) ?_
    refine Ops.y (v := .pointer (some ⟨_, _, none⟩)) (Y.idx Tryz.underlying78 Tryz.sizeOf3 rfl rfl (by omega) (by omega)) ?_
    refine Ops.go (O.store1 I ty_3 0 rfl rfl (i := k) (v := (m : Int) + 1) (by omega) (by simp; omega) rfl rfl rfl ?_)
    intro w I
    refine Ops.nil ?_
    rw [put_mid hrl] at I
    exact ⟨(m + 1, s6, _), ⟨⟨rfl, rfl, rfl, rfl, rfl, rfl, rfl, trivial⟩, I, gl2.trans hl, okg, by have := cb.next (by rw [htT]; exact h8); rw [htT, ← hs6] at this; exact this, is6, by dsimp only; omega, os6⟩, by dsimp only; omega⟩
  obtain rfl : k = N := by omega
  rw [Nat.sub_self, List.replicate_zero, List.append_nil] at I
  have hbo := I.at 0 rfl
  obtain ⟨h4, le4, hb4, I⟩ := (I.front 0 rfl).settle
  refine WP.exit ?_
  refine WP.seq ?_
  refine WP.region ?_
  refine Ops.y (v := .slice _ _ _) (Y.move rfl) ?_
  refine Ops.y (v := .slice _ _ _) (Y.move rfl) ?_
  refine Ops.y (v := .slice _ _ _) (Y.assign rfl) ?_
  refine Ops.y (v := .slice _ _ _) (Y.assign rfl) ?_
  refine Ops.nil ?_
  refine WP.ret ?_
  repeat (first | refine thenE_ret ?_ | refine blockE_ret ?_)
  exact retQ.mk (vs := [.slice _ _ _, .slice _ _ _]) rfl ⟨rfl, rfl, trivial⟩ I.ext_of (⟨f, ⟨some ⟨b18, 0, none⟩, k, r0⟩, by simp only [tup, Sl.val, hrl], hf.le le4, boxIs ((hb4 b18 (by simp [box])).trans hbo) (by rw [hrl]; omega), by rw [eM, hN]; exact hm, ho.le le4⟩)
theorem Reckon_ok (B : Base) (hB : B.ok) (p : Prg) (hp : p.In B.h) (hpr : checkProg p = 0) : Fn Tryz.prog 33 [p.val] B (RecP p) := (Reckon_own B hB p hp hpr).mono fun _ _ _ h => h.rec
def ModP (p : Prg) (v : Value) (h : Heap) : Prop := (checkProg p ≠ 0 ∧ v = .tuple #[.slice none 0 0, .int .i64 (checkProg p)]) ∨ (checkProg p = 0 ∧ ∃ (s : Sl Fct) (rs : List Int), v = .tuple #[s.val, .int .i64 0] ∧ Fcts s h ∧ ModK p (strataM p) (numS (strataM p)) s.xs rs)
theorem Model_ok (B : Base) (hB : B.ok) (p : Prg) (hp : p.In B.h) (hnm : p.Nm) : Fn Tryz.prog 9 [p.val] B (ModP p) := by
  refine Fn.of Tryz.func9 rfl Tryz.ntmps9 (by kernel_rfl) (by simp) ?_
  intro e
  have I := Inv.start hB
  refine WP.seq ?_
  refine WP.region ?_
  refine Ops.go (O.box (v := .agg #[_, _]) I rfl rfl ?_)
  intro b1 w I
  refine Ops.y (v := .slice _ _ _) (Y.assign rfl) ?_
  refine Ops.y (v := .int .i64 _) (Y.assign rfl) ?_
  refine Ops.nil ?_
  refine WP.seq ?_
  refine WP.seq ?_
  refine WP.region ?_
  refine Ops.y (v := .agg #[_, _]) (Y.loadv ty_25 rfl (I.rdbox 0 rfl 0 2) rfl rfl) ?_
  refine Ops.go (O.callv I Tryz.call22 (PCheck_ok _ I.base_ok p hp hnm) rfl ?_)
  intro w I
  refine Ops.y (v := .int .i64 _) (Y.assign rfl) ?_
  refine Ops.nil ?_
  refine WP.seq ?_
  refine WP.region ?_
  refine Ops.y (v := .int .i64 _) (Y.move rfl) ?_
  refine Ops.y (v := .bool (decide _)) (Y.nei rfl rfl) ?_
  refine Ops.nil ?_
  refine WP.cond_dec rfl (fun h => ?_) (fun h => ?_)
  · refine WP.seq ?_
    refine WP.region ?_
    refine Ops.y (v := .int .i64 _) (Y.move rfl) ?_
    refine Ops.y (v := .slice _ _ _) (Y.assign rfl) ?_
    refine Ops.y (v := .int .i64 _) (Y.assign rfl) ?_
    refine Ops.nil ?_
    refine WP.ret ?_
    repeat (first | refine thenE_ret ?_ | refine blockE_ret ?_)
    exact retQ.mk (vs := [.slice _ _ _, .int .i64 _]) rfl ⟨rfl, rfl, trivial⟩ I.ext_of (.inl ⟨h, rfl⟩)
  have hpr := Decidable.not_not.1 h
  refine WP.skip ?_
  refine WP.seq ?_
  refine WP.region ?_
  refine Ops.y (v := .agg #[_, _]) (Y.loadv ty_25 rfl (I.rdbox 0 rfl 0 2) rfl rfl) ?_
  refine Ops.go (O.call I Tryz.call33 (Reckon_ok _ I.base_ok p hp hpr) rfl ?_)
  rintro _ h3 w I le3 ⟨s, r, rfl, hs, hr, hm⟩
  refine Ops.y (v := .tuple #[_, _]) (Y.move rfl) ?_
  refine Ops.y (v := .slice _ _ _) (Y.extract rfl rfl) ?_
  refine Ops.y (v := .slice _ _ _) (Y.extract rfl rfl) ?_
  refine Ops.y (v := .slice _ _ _) (Y.assign rfl) ?_
  refine Ops.y (v := .slice _ _ _) (Y.assign rfl) ?_
  refine Ops.nil ?_
  refine WP.seq ?_
  refine WP.region ?_
  refine Ops.y (v := .slice _ _ _) (Y.move rfl) ?_
  refine Ops.y (v := .slice _ _ _) (Y.assign rfl) ?_
  refine Ops.y (v := .int .i64 _) (Y.assign rfl) ?_
  refine Ops.nil ?_
  refine WP.ret ?_
  repeat (first | refine thenE_ret ?_ | refine blockE_ret ?_)
  exact retQ.mk (vs := [.slice _ _ _, .int .i64 _]) rfl ⟨rfl, rfl, trivial⟩ I.ext_of (.inr ⟨hpr, s, r.xs, rfl, hs, hm⟩)
def MofP (p : Prg) (v : Value) (h : Heap) : Prop := ∃ (s : Sl Fct) (rs : List Int), v = s.val ∧ Fcts s h ∧ ModK p (strataM p) (numS (strataM p)) s.xs rs
def RofP (p : Prg) (v : Value) (h : Heap) : Prop := ∃ (r : Sl Int) (f : List Fct), v = r.val ∧ r.Is 1 iEnc h ∧ ModK p (strataM p) (numS (strataM p)) f r.xs
theorem MofP.mono {p : Prg} : MonoS (MofP p) := fun _ _ _ hl ⟨s, r, a, b, c⟩ => ⟨s, r, a, b.le hl, c⟩
theorem RofP.mono {p : Prg} : MonoS (RofP p) := fun _ _ _ hl ⟨s, r, a, b, c⟩ => ⟨s, r, a, b.le hl, c⟩
end Go.TF
end
