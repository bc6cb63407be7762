/- Texts Fir3 Fir4 Fir5 SpRound Base19 SlFuncs2 SlDel SpRound2 SpNaive Fir6 Prog1 Prog2 Prog3. -/
import Derived.Test.YtgblgeddpegplaaGreatU5
import Derived.Shelf.SlSortCmp.NoneTotal
import Derived.ChangeKeysEq
import Derived.Test.YtgblgeddpegplaaGreatU2
import Derived.Test.YtgblgeddpegplaaGreatU4
section
/- Steps compared, sorted. -/
namespace Go.TF
open Go Go.RowKit Go.Proofs
set_option maxRecDepth 20000

/-! ### In exactly this world -/
theorem isNaN_x (a : Int) (w : World) : Calls Tryz.prog 180 [.int .i64 a].toArray w (fun ed w' => ed = .returned (.bool false) ∧ w' = w) := by
  refine Calls.ofWP (args := [.int .i64 a]) Tryz.func180 rfl Tryz.ntmps180 (by kernel_rfl) (by simp) ?_
  intro e
  refine WP.seq ?_
  refine WP.region ?_
  refine Ops.y (v := .bool _) (Y.assign rfl) ?_
  refine Ops.nil ?_
  refine WP.seq ?_
  refine WP.region ?_
  refine Ops.y (v := .int .i64 _) (Y.move rfl) ?_
  refine Ops.y (v := .int .i64 _) (Y.move rfl) ?_
  refine Ops.y (v := .bool (decide _)) (Y.nei rfl rfl) ?_
  refine Ops.y (v := .bool _) (Y.assign rfl) ?_
  refine Ops.nil ?_
  refine WP.ret ?_
  repeat (first | refine thenE_ret ?_ | refine blockE_ret ?_)
  exact ⟨.inl rfl, [.bool _], ⟨rfl, trivial⟩, by simp [tup], rfl⟩
theorem Compare_x (a b : Int) (w : World) : Calls Tryz.prog 159 [.int .i64 a, .int .i64 b].toArray w (fun ed w' => ed = .returned (.int .i64 (cmpI a b)) ∧ w' = w) := by
  refine Calls.ofWP (args := [.int .i64 a, .int .i64 b]) Tryz.func159 rfl Tryz.ntmps159 (by kernel_rfl) (by simp) ?_
  intro e
  refine WP.seq ?_
  refine WP.region ?_
  refine Ops.y (v := .int .i64 _) (Y.assign rfl) ?_
  refine Ops.nil ?_
  refine WP.seq ?_
  refine WP.region ?_
  refine Ops.y (v := .int .i64 _) (Y.move rfl) ?_
  refine Ops.go (O.calls Tryz.call180 (isNaN_x a w) rfl ?_)
  rintro ed w' ⟨rfl, rfl⟩
  refine ⟨_, rfl, ?_⟩
  refine Ops.y (v := .bool _) (Y.assign rfl) ?_
  refine Ops.nil ?_
  refine WP.seq ?_
  refine WP.region ?_
  refine Ops.y (v := .int .i64 _) (Y.move rfl) ?_
  refine Ops.go (O.calls Tryz.call180 (isNaN_x b _) rfl ?_)
  rintro ed w' ⟨rfl, rfl⟩
  refine ⟨_, rfl, ?_⟩
  refine Ops.y (v := .bool _) (Y.assign rfl) ?_
  refine Ops.nil ?_
  refine WP.seq ?_
  refine WP.seq ?_
  refine WP.region ?_
  refine Ops.y (v := .bool _) (Y.move rfl) ?_
  refine Ops.nil ?_
  refine WP.cond_f rfl ?_
  refine WP.skip ?_
  refine WP.seq ?_
  refine WP.seq ?_
  refine WP.region ?_
  refine Ops.y (v := .bool _) (Y.move rfl) ?_
  refine Ops.nil ?_
  refine WP.cond_f rfl ?_
  refine WP.skip ?_
  refine WP.seq ?_
  refine WP.seq ?_
  refine WP.region ?_
  refine Ops.y (v := .int .i64 _) (Y.move rfl) ?_
  refine Ops.y (v := .int .i64 _) (Y.move rfl) ?_
  refine Ops.y (v := .bool (decide _)) (Y.lti rfl rfl) ?_
  refine Ops.nil ?_
  refine WP.cond_dec rfl (fun h1 => ?_) (fun h1 => ?_)
  · refine WP.seq ?_
    refine WP.region ?_
    refine Ops.y (v := .int .i64 _) (Y.assign rfl) ?_
    refine Ops.nil ?_
    refine WP.ret ?_
    repeat (first | refine thenE_ret ?_ | refine blockE_ret ?_)
    exact ⟨.inl rfl, [.int .i64 (-1)], ⟨rfl, trivial⟩, by simp only [tup, cmpI]; rw [if_pos h1], rfl⟩
  refine WP.skip ?_
  refine WP.seq ?_
  refine WP.seq ?_
  refine WP.region ?_
  refine Ops.y (v := .int .i64 _) (Y.move rfl) ?_
  refine Ops.y (v := .int .i64 _) (Y.move rfl) ?_
  refine Ops.y (v := .bool (decide _)) (Y.gti rfl rfl) ?_
  refine Ops.nil ?_
  refine WP.cond_dec rfl (fun h2 => ?_) (fun h2 => ?_)
  · refine WP.seq ?_
    refine WP.region ?_
    refine Ops.y (v := .int .i64 _) (Y.assign rfl) ?_
    refine Ops.nil ?_
    refine WP.ret ?_
    repeat (first | refine thenE_ret ?_ | refine blockE_ret ?_)
    exact ⟨.inl rfl, [.int .i64 1], ⟨rfl, trivial⟩, by simp only [tup, cmpI]; rw [if_neg h1, if_pos h2], rfl⟩
  refine WP.skip ?_
  refine WP.seq ?_
  refine WP.region ?_
  refine Ops.y (v := .int .i64 _) (Y.assign rfl) ?_
  refine Ops.nil ?_
  refine WP.ret ?_
  repeat (first | refine thenE_ret ?_ | refine blockE_ret ?_)
  exact ⟨.inl rfl, [.int .i64 0], ⟨rfl, trivial⟩, by simp only [tup, cmpI]; rw [if_neg h1, if_neg h2], rfl⟩
def cmpV (x y : Vrs) : Int := if cmpI x.x0 y.x0 ≠ 0 then cmpI x.x0 y.x0 else if cmpI x.x1 y.x1 ≠ 0 then cmpI x.x1 y.x1 else cmpI x.x2 y.x2
theorem cmpI_zero {a b : Int} : cmpI a b = 0 ↔ a = b := by unfold cmpI; (repeat' split) <;> omega
theorem cmpI_neg {a b : Int} : cmpI a b < 0 ↔ a < b := by unfold cmpI; (repeat' split) <;> omega
theorem cmpV_neg {x y : Vrs} : cmpV x y < 0 ↔ ltV x y := by
  unfold cmpV ltV
  have h0 := cmpI_neg (a := x.x0) (b := y.x0); have h1 := cmpI_neg (a := x.x1) (b := y.x1); have h2 := cmpI_neg (a := x.x2) (b := y.x2)
  have z0 := cmpI_zero (a := x.x0) (b := y.x0); have z1 := cmpI_zero (a := x.x1) (b := y.x1)
  split
  · omega
  · split <;> omega
theorem SCompare_x (x y : Vrs) (b1 b2 o1 o2 : Nat) (w : World) (h1 : Rd w b1 o1 x.enc) (h2 : Rd w b2 o2 y.enc) :
    Calls Tryz.prog 172 [.slice (some ⟨b1, o1, none⟩) (3 : Nat) (3 : Nat), .slice (some ⟨b2, o2, none⟩) (3 : Nat) (3 : Nat)].toArray w (fun ed w' => ed = .returned (.int .i64 (cmpV x y)) ∧ w' = w) := by
  refine Calls.ofWP (args := [.slice (some ⟨b1, o1, none⟩) (3 : Nat) (3 : Nat), .slice (some ⟨b2, o2, none⟩) (3 : Nat) (3 : Nat)]) Tryz.func172 rfl Tryz.ntmps172 (by kernel_rfl) (by simp) ?_
  intro e
  refine WP.seq ?_
  refine WP.region ?_
  refine Ops.y (v := .int .i64 _) (Y.assign rfl) ?_
  refine Ops.nil ?_
  refine WP.seq ?_
  refine WP.seq ?_
  refine WP.region ?_
  refine Ops.y (v := .slice _ _ _) (Y.move rfl) ?_
  refine Ops.y (v := .int .i64 _) (Y.lens Tryz.underlying45 rfl) ?_
  refine Ops.y (v := .int .i64 _) (Y.move rfl) ?_
  refine Ops.nil ?_
  refine WP.block ?_
  refine WP.loopE (σ := Nat) (fun k => [(0, .slice (some ⟨b1, o1, none⟩) (3 : Nat) (3 : Nat)), (1, .slice (some ⟨b2, o2, none⟩) (3 : Nat) (3 : Nat)), (9, .slice (some ⟨b1, o1, none⟩) (3 : Nat) (3 : Nat)), (10, .int .i64 (3 : Nat)), (11, .int .i64 k)]) (fun k w' => w' = w ∧ k ≤ 3 ∧ (0 < k → cmpI x.x0 y.x0 = 0) ∧ (1 < k → cmpI x.x1 y.x1 = 0) ∧ (2 < k → cmpI x.x2 y.x2 = 0)) (fun k => 3 - k)
    ⟨0, ⟨rfl, rfl, rfl, rfl, rfl, trivial⟩, rfl, Nat.zero_le _, fun h => by omega, fun h => by omega, fun h => by omega⟩ ?_
  rintro k e w' ⟨rfl, hk, g0, g1, g2⟩
  refine WP.seq ?_
  refine WP.region ?_
  refine Ops.y (v := .bool (decide _)) (Y.lti rfl rfl) ?_
  refine Ops.nil ?_
  refine WP.seq ?_
  refine WP.cond_dec rfl (fun h => ?_) (fun h => ?_)
  · have hk3 : k = 0 ∨ k = 1 ∨ k = 2 := by omega
    rcases hk3 with rfl | rfl | rfl
    · refine WP.skip ?_
      refine WP.seq ?_
      refine WP.block ?_
      refine WP.seq ?_
      refine WP.region ?_
      refine Ops.y (v := .int .i64 _) (Y.move rfl) ?_
      refine Ops.y (v := .pointer (some ⟨_, _, none⟩)) (Y.idx Tryz.underlying45 Tryz.sizeOf3 rfl rfl (by omega) (by omega)) ?_
      refine Ops.y (v := .int .i64 _) (Y.loadv ty_3 rfl (h1.one (i := 0) (x := .int .i64 x.x0) rfl) rfl rfl) ?_
      refine Ops.y (v := .int .i64 _) (Y.assign rfl) ?_
      refine Ops.y (v := .int .i64 _) (Y.assign rfl) ?_
      refine Ops.nil ?_
      refine WP.seq ?_
      refine WP.seq ?_
      refine WP.region ?_
      refine Ops.y (v := .int .i64 _) (Y.move rfl) ?_
      refine Ops.y (v := .slice _ _ _) (Y.move rfl) ?_
      refine Ops.y (v := .int .i64 _) (Y.lens Tryz.underlying45 rfl) ?_
      refine Ops.y (v := .bool (decide _)) (Y.gei rfl rfl) ?_
      refine Ops.nil ?_
      refine WP.cond_decF rfl ((by omega)) ?_
      refine WP.skip ?_
      refine WP.seq ?_
      refine WP.region ?_
      refine Ops.y (v := .slice _ _ _) (Y.move rfl) ?_
      refine Ops.y (v := .int .i64 _) (Y.move rfl) ?_
      refine Ops.y (v := .pointer (some ⟨_, _, none⟩)) (Y.idx Tryz.underlying45 Tryz.sizeOf3 rfl rfl (by omega) (by omega)) ?_
      refine Ops.y (v := .int .i64 _) (Y.loadv ty_3 rfl (h2.one (i := 0) (x := .int .i64 y.x0) rfl) rfl rfl) ?_
      refine Ops.y (v := .int .i64 _) (Y.assign rfl) ?_
      refine Ops.nil ?_
      refine WP.seq ?_
      refine WP.region ?_
      refine Ops.y (v := .int .i64 _) (Y.move rfl) ?_
      refine Ops.y (v := .int .i64 _) (Y.move rfl) ?_
      refine Ops.go (O.calls Tryz.call159 (Compare_x x.x0 y.x0 _) rfl ?_)
      rintro ed w' ⟨rfl, rfl⟩
      refine ⟨_, rfl, ?_⟩
      refine Ops.y (v := .int .i64 _) (Y.assign rfl) ?_
      refine Ops.nil ?_
      refine WP.seq ?_
      refine WP.region ?_
      refine Ops.y (v := .int .i64 _) (Y.move rfl) ?_
      refine Ops.y (v := .bool (decide _)) (Y.nei rfl rfl) ?_
      refine Ops.nil ?_
      refine WP.cond_dec rfl (fun h8 => ?_) (fun h8 => ?_)
      · refine WP.seq ?_
        refine WP.region ?_
        refine Ops.y (v := .int .i64 _) (Y.move rfl) ?_
        refine Ops.y (v := .int .i64 _) (Y.assign rfl) ?_
        refine Ops.nil ?_
        refine WP.ret ?_
        repeat (first | refine thenE_ret ?_ | refine blockE_ret ?_)
        refine ⟨.inl rfl, [.int .i64 (cmpI x.x0 y.x0)], ⟨rfl, trivial⟩, ?_, rfl⟩
        simp only [tup, cmpV]
        simp_all
      · refine WP.skip ?_
        refine WP.region ?_
        refine Ops.y (v := .int .i64 _) (Y.addi rfl rfl ⟨by omega, by omega⟩) ?_
        refine Ops.y (v := .int .i64 _) (Y.move rfl) ?_
        refine Ops.nil ?_
        exact ⟨1, ⟨⟨rfl, rfl, rfl, rfl, rfl, trivial⟩, rfl, by omega, fun h => by first | omega | exact Decidable.not_not.1 h8 | exact g0 (by omega), fun h => by first | omega | exact Decidable.not_not.1 h8 | exact g1 (by omega), fun h => by first | omega | exact Decidable.not_not.1 h8⟩, by omega⟩
    · refine WP.skip ?_
      refine WP.seq ?_
      refine WP.block ?_
      refine WP.seq ?_
      refine WP.region ?_
      refine Ops.y (v := .int .i64 _) (Y.move rfl) ?_
      refine Ops.y (v := .pointer (some ⟨_, _, none⟩)) (Y.idx Tryz.underlying45 Tryz.sizeOf3 rfl rfl (by omega) (by omega)) ?_
      refine Ops.y (v := .int .i64 _) (Y.loadv ty_3 rfl (h1.one (i := 1) (x := .int .i64 x.x1) rfl) rfl rfl) ?_
      refine Ops.y (v := .int .i64 _) (Y.assign rfl) ?_
      refine Ops.y (v := .int .i64 _) (Y.assign rfl) ?_
      refine Ops.nil ?_
      refine WP.seq ?_
      refine WP.seq ?_
      refine WP.region ?_
      refine Ops.y (v := .int .i64 _) (Y.move rfl) ?_
      refine Ops.y (v := .slice _ _ _) (Y.move rfl) ?_
      refine Ops.y (v := .int .i64 _) (Y.lens Tryz.underlying45 rfl) ?_
      refine Ops.y (v := .bool (decide _)) (Y.gei rfl rfl) ?_
      refine Ops.nil ?_
      refine WP.cond_decF rfl ((by omega)) ?_
      refine WP.skip ?_
      refine WP.seq ?_
      refine WP.region ?_
      refine Ops.y (v := .slice _ _ _) (Y.move rfl) ?_
      refine Ops.y (v := .int .i64 _) (Y.move rfl) ?_
      refine Ops.y (v := .pointer (some ⟨_, _, none⟩)) (Y.idx Tryz.underlying45 Tryz.sizeOf3 rfl rfl (by omega) (by omega)) ?_
      refine Ops.y (v := .int .i64 _) (Y.loadv ty_3 rfl (h2.one (i := 1) (x := .int .i64 y.x1) rfl) rfl rfl) ?_
      refine Ops.y (v := .int .i64 _) (Y.assign rfl) ?_
      refine Ops.nil ?_
      refine WP.seq ?_
      refine WP.region ?_
      refine Ops.y (v := .int .i64 _) (Y.move rfl) ?_
      refine Ops.y (v := .int .i64 _) (Y.move rfl) ?_
      refine Ops.go (O.calls Tryz.call159 (Compare_x x.x1 y.x1 _) rfl ?_)
      rintro ed w' ⟨rfl, rfl⟩
      refine ⟨_, rfl, ?_⟩
      refine Ops.y (v := .int .i64 _) (Y.assign rfl) ?_
      refine Ops.nil ?_
      refine WP.seq ?_
      refine WP.region ?_
      refine Ops.y (v := .int .i64 _) (Y.move rfl) ?_
      refine Ops.y (v := .bool (decide _)) (Y.nei rfl rfl) ?_
      refine Ops.nil ?_
      refine WP.cond_dec rfl (fun h8 => ?_) (fun h8 => ?_)
      · refine WP.seq ?_
        refine WP.region ?_
        refine Ops.y (v := .int .i64 _) (Y.move rfl) ?_
        refine Ops.y (v := .int .i64 _) (Y.assign rfl) ?_
        refine Ops.nil ?_
        refine WP.ret ?_
        repeat (first | refine thenE_ret ?_ | refine blockE_ret ?_)
        refine ⟨.inl rfl, [.int .i64 (cmpI x.x1 y.x1)], ⟨rfl, trivial⟩, ?_, rfl⟩
        simp only [tup, cmpV]
        simp_all
      · refine WP.skip ?_
        refine WP.region ?_
        refine Ops.y (v := .int .i64 _) (Y.addi rfl rfl ⟨by omega, by omega⟩) ?_
        refine Ops.y (v := .int .i64 _) (Y.move rfl) ?_
        refine Ops.nil ?_
        exact ⟨2, ⟨⟨rfl, rfl, rfl, rfl, rfl, trivial⟩, rfl, by omega, fun h => by first | omega | exact Decidable.not_not.1 h8 | exact g0 (by omega), fun h => by first | omega | exact Decidable.not_not.1 h8 | exact g1 (by omega), fun h => by first | omega | exact Decidable.not_not.1 h8⟩, by omega⟩
    · refine WP.skip ?_
      refine WP.seq ?_
      refine WP.block ?_
      refine WP.seq ?_
      refine WP.region ?_
      refine Ops.y (v := .int .i64 _) (Y.move rfl) ?_
      refine Ops.y (v := .pointer (some ⟨_, _, none⟩)) (Y.idx Tryz.underlying45 Tryz.sizeOf3 rfl rfl (by omega) (by omega)) ?_
      refine Ops.y (v := .int .i64 _) (Y.loadv ty_3 rfl (h1.one (i := 2) (x := .int .i64 x.x2) rfl) rfl rfl) ?_
      refine Ops.y (v := .int .i64 _) (Y.assign rfl) ?_
      refine Ops.y (v := .int .i64 _) (Y.assign rfl) ?_
      refine Ops.nil ?_
      refine WP.seq ?_
      refine WP.seq ?_
      refine WP.region ?_
      refine Ops.y (v := .int .i64 _) (Y.move rfl) ?_
      refine Ops.y (v := .slice _ _ _) (Y.move rfl) ?_
      refine Ops.y (v := .int .i64 _) (Y.lens Tryz.underlying45 rfl) ?_
      refine Ops.y (v := .bool (decide _)) (Y.gei rfl rfl) ?_
      refine Ops.nil ?_
      refine WP.cond_decF rfl ((by omega)) ?_
      refine WP.skip ?_
      refine WP.seq ?_
      refine WP.region ?_
      refine Ops.y (v := .slice _ _ _) (Y.move rfl) ?_
      refine Ops.y (v := .int .i64 _) (Y.move rfl) ?_
      refine Ops.y (v := .pointer (some ⟨_, _, none⟩)) (Y.idx Tryz.underlying45 Tryz.sizeOf3 rfl rfl (by omega) (by omega)) ?_
      refine Ops.y (v := .int .i64 _) (Y.loadv ty_3 rfl (h2.one (i := 2) (x := .int .i64 y.x2) rfl) rfl rfl) ?_
      refine Ops.y (v := .int .i64 _) (Y.assign rfl) ?_
      refine Ops.nil ?_
      refine WP.seq ?_
      refine WP.region ?_
      refine Ops.y (v := .int .i64 _) (Y.move rfl) ?_
      refine Ops.y (v := .int .i64 _) (Y.move rfl) ?_
      refine Ops.go (O.calls Tryz.call159 (Compare_x x.x2 y.x2 _) rfl ?_)
      rintro ed w' ⟨rfl, rfl⟩
      refine ⟨_, rfl, ?_⟩
      refine Ops.y (v := .int .i64 _) (Y.assign rfl) ?_
      refine Ops.nil ?_
      refine WP.seq ?_
      refine WP.region ?_
      refine Ops.y (v := .int .i64 _) (Y.move rfl) ?_
      refine Ops.y (v := .bool (decide _)) (Y.nei rfl rfl) ?_
      refine Ops.nil ?_
      refine WP.cond_dec rfl (fun h8 => ?_) (fun h8 => ?_)
      · refine WP.seq ?_
        refine WP.region ?_
        refine Ops.y (v := .int .i64 _) (Y.move rfl) ?_
        refine Ops.y (v := .int .i64 _) (Y.assign rfl) ?_
        refine Ops.nil ?_
        refine WP.ret ?_
        repeat (first | refine thenE_ret ?_ | refine blockE_ret ?_)
        refine ⟨.inl rfl, [.int .i64 (cmpI x.x2 y.x2)], ⟨rfl, trivial⟩, ?_, rfl⟩
        simp only [tup, cmpV]
        simp_all
      · refine WP.skip ?_
        refine WP.region ?_
        refine Ops.y (v := .int .i64 _) (Y.addi rfl rfl ⟨by omega, by omega⟩) ?_
        refine Ops.y (v := .int .i64 _) (Y.move rfl) ?_
        refine Ops.nil ?_
        exact ⟨3, ⟨⟨rfl, rfl, rfl, rfl, rfl, trivial⟩, rfl, by omega, fun h => by first | omega | exact Decidable.not_not.1 h8 | exact g0 (by omega), fun h => by first | omega | exact Decidable.not_not.1 h8 | exact g1 (by omega), fun h => by first | omega | exact Decidable.not_not.1 h8⟩, by omega⟩
  obtain rfl : k = 3 := by omega
  refine WP.exit ?_
  refine WP.seq ?_
  refine WP.seq ?_
  refine WP.region ?_
  refine Ops.y (v := .slice _ _ _) (Y.move rfl) ?_
  refine Ops.y (v := .int .i64 _) (Y.lens Tryz.underlying45 rfl) ?_
  refine Ops.y (v := .slice _ _ _) (Y.move rfl) ?_
  refine Ops.y (v := .int .i64 _) (Y.lens Tryz.underlying45 rfl) ?_
  refine Ops.y (v := .bool (decide _)) (Y.lti rfl rfl) ?_
  refine Ops.nil ?_
  refine WP.cond_decF rfl ((by omega)) ?_
  refine WP.skip ?_
  refine WP.seq ?_
  refine WP.region ?_
  refine Ops.y (v := .int .i64 _) (Y.assign rfl) ?_
  refine Ops.nil ?_
  refine WP.ret ?_
  repeat (first | refine thenE_ret ?_ | refine blockE_ret ?_)
  refine ⟨.inl rfl, [.int .i64 0], ⟨rfl, trivial⟩, ?_, rfl⟩
  simp only [tup, cmpV]
  rw [if_neg (by simp [g0]), if_neg (by simp [g1]), g2 (by omega)]
section
variable {P : Program} {e : Env} {w : World} {t : TypeId} {pos : String} {af : Array Edge} {g : Option (Nat × Bool)} {d : Option Nat} {K : Value → World → Prop}
theorem X.box {T : TypeId} {x : Operand} {v : Value} {cs : List Value} (hx : ev e x = v) (hc : v.cells = cs.toArray) (k : K (.pointer (some ⟨w.heap.size, 0, none⟩)) (w.alloc (.cells cs.toArray T))) : Op1 P ⟨d, .box T x, t, pos, af, g⟩ e w K := by
  have : (execOp (ev e) ⟨d, .box T x, t, pos, af, g⟩).run P w = .ok (.value (.pointer (some ⟨w.heap.size, 0, none⟩))) (w.alloc (.cells cs.toArray T)) := by
    simp [execOp, Instr.box, hx, newVar, newRow, hc]
  unfold Op1
  rw [this]
  exact k
theorem Y.slicearr {T el n k b o : Nat} {x : Operand} (hT : Und P T (.array n el)) (hk : ∀ w, (sizeOf el).run P w = .ok k w) (hx : ev e x = .pointer (some ⟨b, o, none⟩)) : Y P ⟨d, .slice T x none none none, t, pos, af, g⟩ e w (.slice (some ⟨b, o, none⟩) n n) := by
  simp [Y, execOp, hx, Instr.sliceAt, Instr.sureAddr, Instr.sliceBounds, run_underlying hT, hk, addr_add]
theorem WP.regionC {N : Nat} {D : List Deferred} {Q : Exit → Env → World → Prop} {id : Nat} {ops : Array Oper} {C : World → Prop} (hm : Mixed P) (hC : C w.drew) (hB : Region.lexB .any ops = true)
    (k : OpsQ P ops C ops.toList e (fun e' => ∀ w', C w' → Q .normal e' w')) : WP P N D (.region id ops true) e w Q := by
  intro hs a h1 h2 h3
  subst h3
  refine wp_region_quiet (C := C) hm hB hC ?_
  exact OpsQ.sound _ a _ _ hs h1 h2 (fun a' g1 g2 g3 w' hw' => ⟨g1, g2, g3 w' hw'⟩) k
theorem QC.calls {C : World → Prop} {f : FuncId} {args : Array Operand} {ts : Array TypeId} {vs : List Value} {r : Value} (hf : Enters P f) (hc : Calls P f vs.toArray w (fun ed w' => ed = .returned r ∧ w' = w)) (hC : C w) (ha : args.toList.map (ev e) = vs) :
    QC P C ⟨d, .call { callee := .value (.func f), args := args, argTypes := ts }, t, pos, af, g⟩ e w r := by
  have ha' : args.map (ev e) = vs.toArray := by rw [← ha]; apply Array.ext'; simp
  have : (execOp (ev e) ⟨d, .call { callee := .value (.func f), args := args, argTypes := ts }, t, pos, af, g⟩).run P w = .ok (.enter f vs.toArray) w := by
    simp [execOp, resolve, ev, Deferred.ofValue, invoke, ha', hf]
  unfold QC
  rw [this]
  exact ⟨rfl, Calls.mono hc fun _ _ ⟨h1, h2⟩ => ⟨h1, h2 ▸ hC⟩⟩
end
theorem Steps2_x (x y : Stp) (W : World) : Calls Tryz.prog 171 [x.val, y.val].toArray W (fun ed w' => ed = .returned (.int .i64 (cmpV x.vars y.vars)) ∧ ∃ q os', w' = Sort.grow (W.drewN q) os') := by
  refine Calls.ofWP (args := [x.val, y.val]) Tryz.func171 rfl Tryz.ntmps171 (by kernel_rfl) (by simp) ?_
  intro e
  refine WP.seq ?_
  refine WP.region ?_
  refine Ops.go (X.box (v := .agg #[_, _, _, _]) rfl rfl ?_)
  refine Ops.go (X.box (v := .agg #[_, _, _, _]) rfl rfl ?_)
  refine Ops.y (v := .int .i64 _) (Y.assign rfl) ?_
  refine Ops.nil ?_
  generalize hW1 : W.alloc (.cells x.enc.toArray 82) = W1
  have hs1 : W1.heap.size = W.heap.size + 1 := by rw [← hW1, Sort.alloc_eq_grow, Sort.size_grow]; rfl
  generalize hW2 : W1.alloc (.cells y.enc.toArray 82) = W2
  have hb1 : W2.heap[W.heap.size]? = some (.cells x.enc.toArray 82 (0, 0)) := by rw [← hW2, (Grow.alloc W1 _).block _ (by omega), ← hW1]; exact heap_alloc_new W _
  have hb2 : W2.heap[W1.heap.size]? = some (.cells y.enc.toArray 82 (0, 0)) := by rw [← hW2]; exact heap_alloc_new W1 _
  have hC0 : (fun w' => ∃ q, w' = W2.drewN q) W2.drew := ⟨1, rfl⟩
  refine WP.seq ?_
  refine WP.regionC (C := fun w' => ∃ q, w' = W2.drewN q) mixed hC0 (by kernel_rfl) ?_
  refine OpsQ.y (v := .pointer (some ⟨_, _, none⟩)) (fun w I => Y.fa fa_82_1 rfl) ?_
  refine OpsQ.y (v := .slice _ _ _) (fun w I => Y.slicearr Tryz.underlying80 Tryz.sizeOf3 rfl) ?_
  refine OpsQ.y (v := .pointer (some ⟨_, _, none⟩)) (fun w I => Y.fa fa_82_1 rfl) ?_
  refine OpsQ.y (v := .slice _ _ _) (fun w I => Y.slicearr Tryz.underlying80 Tryz.sizeOf3 rfl) ?_
  refine OpsQ.c (fun w hw => QC.calls Tryz.call172 ((by obtain ⟨q, rfl⟩ := hw; exact SCompare_x x.vars y.vars W.heap.size W1.heap.size 1 1 _ (rd_box (w := W2.drewN q) hb1 1 3) (rd_box (w := W2.drewN q) hb2 1 3))) hw rfl) ?_
  refine OpsQ.y (v := .int .i64 _) (fun w I => Y.assign rfl) ?_
  refine OpsQ.nil ?_
  intro w I
  obtain ⟨q, rfl⟩ := I
  refine WP.ret ?_
  repeat (first | refine thenE_ret ?_ | refine blockE_ret ?_)
  refine ⟨.inl rfl, [.int .i64 (cmpV x.vars y.vars)], ⟨rfl, trivial⟩, rfl, q, #[.cells x.enc.toArray 82 (0, 0), .cells y.enc.toArray 82 (0, 0)], ?_⟩
  rw [← hW2, ← hW1, Sort.alloc_eq_grow, Sort.alloc_eq_grow, Sort.grow_grow]
  rfl
end Go.TF
end
section
/- slices.SortFunc and CompactFunc of steps. -/
namespace Go.TF
open Go Go.RowKit Go.Proofs
set_option maxRecDepth 20000

def stpCmp (x y : Stp) : Int := cmpV x.vars y.vars
theorem stp_swo : Sort.SWO (ltOf stpCmp) where
  irrefl x := by simp only [ltOf, stpCmp, cmpV_neg]; exact decide_eq_false (ltV_irrefl _)
  trans x y z h1 h2 := by
    simp only [ltOf, stpCmp, cmpV_neg, decide_eq_true_eq] at *
    exact ltV_trans h1 h2
  ntrans x y z h1 h2 := by
    simp only [ltOf, stpCmp, cmpV_neg, decide_eq_false_iff_not] at *
    unfold ltV at *; omega
theorem stp_len (x : Stp) : x.enc.length = 4 := rfl
theorem flatK_eq (xs : List Stp) : Sort.flatK Stp.enc 4 xs.toArray = (xs.flatMap Stp.enc).toArray := by
  have hl := flat_len stp_len xs
  refine Sort.ext_get! (by simp [hl]) fun t ht => ?_
  have ht' : t < xs.length * 4 := by simpa using ht
  rw [Sort.get_flatK _ _ _ t (by simpa using ht')]
  have hv : (xs.flatMap Stp.enc)[t]? = some ((xs.flatMap Stp.enc)[t]'(by rw [hl]; exact ht')) := List.getElem?_eq_getElem _
  obtain ⟨x, h1, h2⟩ := flat_at stp_len (by decide) xs t _ hv
  have e1 : xs.toArray[t / 4]! = x := by simp [getElem!_def, h1]
  rw [e1]
  simp [getElem!_def, h2, hv]
theorem take_put (F : Array Value) (cur : Array Value) (h : F.size ≤ cur.size) : (Sort.putCells id 0 F cur).toList.take F.size = F.toList := by
  apply List.ext_getElem?
  intro j
  rw [List.getElem?_take]
  split
  · rename_i hj
    simp only [Sort.putCells, Array.getElem?_toList, Array.getElem?_mapIdx]
    have : j < cur.size := by omega
    simp [this, hj]
  · rename_i hj
    simp; omega
/-- Sorted by their variables. -/
abbrev SrtS (xs : List Stp) : Prop := xs.Pairwise fun x y => ¬ ltV y.vars x.vars
theorem sort_ok {B : Base} {h : Heap} {M : List SA} {w : World} {a : Option Addr} {c m : Nat} {xs : List Stp} (I : Inv B h (ownSl 82 4 (.slice a m c) m (xs.flatMap Stp.enc) :: M) w) (hm : m = xs.length) (hsz : m ≤ 1000000000) :
    Calls Tryz.prog 170 [.slice a m c, .func (.func 171) #[] #[]].toArray w
      (fun ed w' => ed = .returned (.tuple #[]) ∧ ∃ ys, ys.Perm xs ∧ SrtS ys ∧ Inv B h (ownSl 82 4 (.slice a m c) m (ys.flatMap Stp.enc) :: M) w') := by
  rcases (I.at 0 rfl).2 with ⟨h0, hn⟩ | ⟨g, cap, cur, he, _, hg, hnc, hcm, hcs, ht⟩
  · injection h0 with e1 e2 e3
    subst e1; subst e2; subst e3
    have hx : xs = [] := List.eq_nil_of_length_eq_zero hm.symm
    subst hx
    refine Calls.mono (AnyF.slices_SortFunc_none Tryz.sortStp none 0 (.func (.func 171) #[] #[]) w) ?_
    rintro ed w' ⟨rfl, rfl⟩
    exact ⟨rfl, [], List.Perm.refl _, List.Pairwise.nil, I⟩
  · injection he with e1 e2 e3
    subst e1; subst e3
    have hfl := flat_len stp_len xs
    have hcell : ∀ j, j < (xs.flatMap Stp.enc).length → w.cell? ⟨g, 0 + j, none⟩ = (xs.flatMap Stp.enc)[j]? := fun j hj => by
      have hc : w.cell? ⟨g, 0 + j, none⟩ = cur[j]? := by simp [World.cell?, hg]
      have h2 : (cur.toList.take (m * 4))[j]? = cur[j]? := by
        rw [List.getElem?_take, if_pos (by rw [hfl] at hj; rw [hm]; exact hj)]; simp
      rw [hc, ← h2, ht]
    have hH : Sort.HoldsK Stp.enc 4 w g 0 xs.toArray := by
      unfold Sort.HoldsK
      rw [flatK_eq]
      intro j hj
      have hj' : j < (xs.flatMap Stp.enc).length := by simpa using hj
      refine ⟨?_, by simp [World.frozen?, hg]⟩
      rw [hcell j hj']
      simp [getElem!_def, List.getElem?_eq_getElem hj']
    have hcon := AnyQ.slices_SortFunc Tryz.sortStp 4 (ty_82).agg Tryz.sizeOf82 Stp.enc stp_len (fun x v hv => by simp only [Stp.enc, List.mem_cons, List.not_mem_nil, or_false] at hv; rcases hv with rfl | rfl | rfl | rfl <;> rfl) stpCmp stp_swo 171 #[] g 0 c xs.toArray w Tryz.call171 (fun mm os dk _ x y => Steps2_x x y _) hH (by have := (Array.getElem?_eq_some_iff.1 hg).1; exact this) (by simp only [List.size_toArray]; omega)
    rw [show xs.toArray.size = m from by simp [hm]] at hcon
    refine Calls.mono hcon ?_
    rintro ed w' ⟨rfl, d', n, os, hp, hs, rfl⟩
    have hpl : d'.size = m := by have := hp.1; simpa [hm] using this
    have hperm : d'.toList.Perm xs := by
      have := hp.2.2
      have e1 : d'.extract 0 m = d' := by rw [← hpl]; simp
      have e2 : xs.toArray.extract 0 m = xs.toArray := by rw [hm]; simp
      rw [e1, e2] at this
      simpa using this
    refine ⟨rfl, d'.toList, hperm, ?_, ?_⟩
    · show List.Pairwise _ _
      rw [List.pairwise_iff_getElem]
      intro i j hi hj hij
      have hi' : i < d'.size := by simpa using hi
      have hj' : j < d'.size := by simpa using hj
      have := hs i j (Nat.zero_le _) hij (by rw [← hpl]; exact hj')
      simp only [ltOf, stpCmp, cmpV_neg, decide_eq_false_iff_not] at this
      rw [getElem!_pos d' i hi', getElem!_pos d' j hj'] at this
      simpa using this
    · have hF : Sort.flatK Stp.enc 4 d' = (d'.toList.flatMap Stp.enc).toArray := by have := flatK_eq d'.toList; simpa using this
      have hFs : (Sort.flatK Stp.enc 4 d').size = m * 4 := by rw [Sort.size_flatK, hpl]
      have hmk : m * 4 ≤ cur.size := by rw [hcs]; exact Nat.mul_le_mul_right _ hnc
      refine I.stepAt 0 rfl rfl rfl rfl ?_ (fun b hb hnb => ?_) ?_ (fun b hb => ?_)
      · simp [sortWorldK, Sort.putRowK, Sort.putRow, Sort.mapBlock, Sort.grow, Sort.ahead]
      · have hne : b ≠ g := fun e => hnb (by simp [ownSl, Value.ownBlock, e])
        simp only [sortWorldK, Sort.putRowK, Sort.putRow, Sort.mapBlock, Sort.grow, Sort.ahead]
        rw [Array.getElem?_append_left (by simpa using hb), Array.getElem?_modify, if_neg (Ne.symm hne)]
      · refine ⟨by rw [flat_len stp_len]; simp [hpl], .inr ⟨g, c, Sort.putCells id 0 (Sort.flatK Stp.enc 4 d') cur, rfl, Nat.zero_le _, ?_, hnc, hcm, ?_, ?_⟩⟩
        · simp only [sortWorldK, Sort.putRowK, Sort.putRow, Sort.mapBlock, Sort.grow, Sort.ahead]
          have hlt := (Array.getElem?_eq_some_iff.1 hg).1
          rw [Array.getElem?_append_left (by simpa using hlt), Array.getElem?_modify, if_pos rfl, hg]
          rfl
        · simp [Sort.putCells, hcs]
        · have := take_put (Sort.flatK Stp.enc 4 d') cur (by rw [hFs]; exact hmk)
          rw [hFs, hF] at this
          rw [hF]; simpa using this
      · have : b = g := by simpa [ownSl, Value.ownBlock] using hb
        subst this
        refine ⟨.inl (by simp [ownSl, Value.ownBlock]), ?_⟩
        have hlt := (Array.getElem?_eq_some_iff.1 hg).1
        simp only [sortWorldK, Sort.putRowK, Sort.putRow, Sort.mapBlock, Sort.grow, Sort.ahead, Array.size_append, Array.size_modify]
        omega
end Go.TF
end
section
/- slices.CompactFunc of steps. -/
namespace Go.TF
open Go Go.RowKit Go.Proofs
set_option maxRecDepth 20000

section
variable {P : Program} {e : Env} {w : World} {B : Base} {h : Heap} {M : List SA} {t : TypeId} {pos : String} {af : Array Edge} {g : Option (Nat × Bool)} {d : Option Nat} {K : Value → World → Prop}
/-- Cells of what is owned are stored. -/
theorem O.storeE {T el k bytes gg n cap o m : Nat} {ag : Bool} {z v : Value} {a x : Operand} {xs vs : List Value} (I : Inv B h M w) (hT : Ty P T m ag) (he : ElT P el k bytes z) (n0 : Nat) (hn : M[n0]? = some (ownSl el k (.slice (some ⟨gg, 0, none⟩) n cap) n xs))
    (ha : ev e a = .pointer (some ⟨gg, o, none⟩)) (hx : ev e x = v) (hv : v.cells = vs.toArray) (hl : vs.length = m) (h1 : oneCells vs = true) (ho : o + vs.length ≤ xs.length) (kk : ∀ w', Inv B h (M.set n0 (ownSl el k (.slice (some ⟨gg, 0, none⟩) n cap) n (over xs o vs))) w' → K undef w') :
    Op1 P ⟨d, .store T a x, t, pos, af, g⟩ e w K := by
  obtain ⟨ii, hi, hz, hsz, hby⟩ := he.info'
  subst hsz
  have hp : w.ownsRow 0 el ii.size (.slice (some ⟨gg, 0, none⟩) n cap) n xs := I.at n0 hn
  have hfp := (I.own _ (List.mem_of_getElem? hn)).2 gg (by simp [ownSl, Value.ownBlock])
  rcases hp.2 with ⟨h0, _⟩ | ⟨g', cap', cur, he', hb, hg, hnc, hcm, hcs, ht⟩
  · cases h0
  injection he' with e1 e2 e3; injection e1 with e1; injection e1 with e1; subst e1; subst e3
  have hnk : n * ii.size ≤ cap * ii.size := Nat.mul_le_mul_right _ hnc
  have hxl := hp.1
  have hone : ∀ u ∈ vs, u.oneCell' = true := fun u hu => by
    simp only [oneCells, List.all_eq_true] at h1
    exact h1 u hu
  have hst := run_storeCells_at P gg o el vs 0 cur w hg (by rw [hcs]; omega) hone
  simp only [Nat.add_zero] at hst
  have hA : (execOp (ev e) ⟨d, .store T a x, t, pos, af, g⟩).run P w = .ok .skip (w.setRow gg (cur.toList.take o ++ vs ++ cur.toList.drop (o + vs.length)).toArray) := by
    simp [execOp, Instr.storeAt, Instr.sureAddr, ha, hx, storeVar, hv, hT.size, hl, hst]
  unfold Op1
  rw [hA]
  have hcl : cur.toList.length = cap * ii.size := by rw [Array.length_toList, hcs]
  refine kk _ (I.stepAt n0 hn rfl rfl rfl (by simp) (fun b hb hnb => setRow_other w gg b _ (fun e => hnb (by simp [ownSl, Value.ownBlock, e]))) ?_ (fun b hb => ?_))
  · refine ⟨?_, .inr ⟨gg, cap, _, rfl, hb, setRow_heap w gg cur _ el _ hg, hnc, hcm, ?_, ?_⟩⟩
    · rw [over_len ho, hp.1]
    · simp only [List.size_toArray, List.length_append, List.length_take, List.length_drop, hcl]
      omega
    · rw [over_take _ _ _ _ (by omega) (by rw [hcl]; exact hnk), ht]
  · have : b = gg := by simpa [ownSl, Value.ownBlock] using hb
    subst this
    exact ⟨.inl (by simp [ownSl, Value.ownBlock]), by simpa using hfp.2.1⟩
end
theorem Inv.rdE {B : Base} {h : Heap} {M : List SA} {w : World} {T gg n cap : Nat} {zs : List Stp} (I : Inv B h M w) (n0 : Nat) (hn : M[n0]? = some (ownSl T 4 (.slice (some ⟨gg, 0, none⟩) n cap) n (zs.flatMap Stp.enc))) {i o : Nat} {y : Stp} (hy : zs[i]? = some y) (ho : o = i * 4) : Rd w gg o y.enc := by
  subst ho
  intro j v hj
  have hp : w.ownsRow 0 T 4 (.slice (some ⟨gg, 0, none⟩) n cap) n (zs.flatMap Stp.enc) := I.at n0 hn
  have := hp.cells (g := gg) rfl (i * 4 + j) v (flat_get stp_len zs i j y v hy hj)
  rwa [addr_add, Nat.zero_add] at this
theorem flat_over (zs : List Stp) (k : Nat) (y : Stp) (hk : k < zs.length) : over (zs.flatMap Stp.enc) (k * 4) y.enc = (zs.set k y).flatMap Stp.enc := by
  unfold over
  rw [flat_take stp_len, stp_len, show k * 4 + 4 = (k + 1) * 4 by omega, flat_drop stp_len, List.set_eq_take_append_cons_drop, if_pos hk, List.flatMap_append, List.flatMap_cons, List.append_assoc]
theorem eqarr (a b : Vrs) (w : World) : (Op.equalIn 10000 80 (.agg #[.int .i64 a.x0, .int .i64 a.x1, .int .i64 a.x2]) (.agg #[.int .i64 b.x0, .int .i64 b.x1, .int .i64 b.x2])).run Tryz.prog w = .ok (decide (a = b)) w := by
  obtain ⟨i, hi⟩ : ∃ i, Tryz.prog.info? 3 = some i := by
    have := (ty_3).size 
    cases hh : Tryz.prog.info? 3 with
    | some i => exact ⟨i, rfl⟩
    | none => have := this w; simp [sizeOf, typeInfo, hh] at this
  have hc : Tryz.prog.cellsOf 3 = 1 := by kernel_rfl
  have p : ∀ (cs : Array Value) (o : Nat) v, cs[o]? = some v → (Go.part 3 cs o).run Tryz.prog w = .ok v w := fun cs o v hv => part_leaf (ty_3).agg hv w
  rw [show 10000 = 9998 + 1 + 1 from rfl, run_equalIn_array w (9998 + 1) _ _ Tryz.underlying80 hi, hc]
  have r3 : List.range 3 = [0, 1, 2] := rfl
  simp only [r3, Op.eqItems]
  obtain ⟨a0, a1, a2⟩ := a; obtain ⟨b0, b1, b2⟩ := b
  have hd : decide ((⟨a0, a1, a2⟩ : Vrs) = ⟨b0, b1, b2⟩) = ((a0 == b0) && ((a1 == b1) && (a2 == b2))) := by
    rw [Bool.eq_iff_iff]; simp
  rw [hd]
  cases h0 : (a0 == b0) <;> cases h1 : (a1 == b1) <;> cases h2 : (a2 == b2) <;> simp [p, run_equalIn_int w _ 3 .i64 .i64 _ _ Tryz.underlying3, h0, h1, h2]
theorem Steps3_ok (B : Base) (hB : B.ok) (x y : Stp) : Fn Tryz.prog 174 [x.val, y.val] B (fun v _ => v = .bool (decide (x = y))) := by
  by_cases hr : cmpI x.rule y.rule = 0
  · refine Fn.of Tryz.func174 rfl Tryz.ntmps174 (by kernel_rfl) (by simp) ?_
    intro e
    have I := Inv.start hB
    refine WP.seq ?_
    refine WP.region ?_
    refine Ops.go (O.box (v := .agg #[_, _, _, _]) I rfl rfl ?_)
    intro b2 w I
    refine Ops.go (O.box (v := .agg #[_, _, _, _]) I rfl rfl ?_)
    intro b3 w I
    refine Ops.y (v := .bool _) (Y.assign rfl) ?_
    refine Ops.nil ?_
    refine WP.seq ?_
    refine WP.region ?_
    refine Ops.y (v := .pointer (some ⟨_, _, none⟩)) (Y.fa0 fa_82_0 rfl) ?_
    refine Ops.y (v := .int .i64 _) (Y.loadv ty_3 rfl (I.rdbox 1 rfl 0 1) rfl rfl) ?_
    refine Ops.y (v := .pointer (some ⟨_, _, none⟩)) (Y.fa0 fa_82_0 rfl) ?_
    refine Ops.y (v := .int .i64 _) (Y.loadv ty_3 rfl (I.rdbox 0 rfl 0 1) rfl rfl) ?_
    refine Ops.go (O.callv I Tryz.call159 (Compare_ok _ I.base_ok _ _) rfl ?_)
    intro w I
    refine Ops.y (v := .bool true) (Y.dec_t (Y.eqi rfl rfl) (hr)) ?_
    refine Ops.y (v := .bool _) (Y.move rfl) ?_
    refine Ops.ygt rfl (v := .pointer (some ⟨_, _, none⟩)) (Y.fa fa_82_1 rfl) ?_
    refine Ops.ygt rfl (v := .agg #[_, _, _]) (Y.loadv ty_80 rfl (I.rdbox 1 rfl 1 3) rfl rfl) ?_
    refine Ops.ygt rfl (v := .pointer (some ⟨_, _, none⟩)) (Y.fa fa_82_1 rfl) ?_
    refine Ops.ygt rfl (v := .agg #[_, _, _]) (Y.loadv ty_80 rfl (I.rdbox 0 rfl 1 3) rfl rfl) ?_
    refine Ops.ygt rfl (v := .bool _) (Y.eqst (by kernel_rfl) (eqarr x.vars y.vars) rfl rfl) ?_
    refine Ops.y (v := .bool _) (Y.pick_t rfl rfl) ?_
    refine Ops.y (v := .bool _) (Y.assign rfl) ?_
    refine Ops.nil ?_
    refine WP.ret ?_
    repeat (first | refine thenE_ret ?_ | refine blockE_ret ?_)
    exact retQ.mk (vs := [.bool _]) rfl ⟨rfl, trivial⟩ I.ext_of (by simp only [tup]; congr 1; rw [decide_eq_decide]; have := cmpI_zero.1 hr; cases x; cases y; simp_all)
  · refine Fn.of Tryz.func174 rfl Tryz.ntmps174 (by kernel_rfl) (by simp) ?_
    intro e
    have I := Inv.start hB
    refine WP.seq ?_
    refine WP.region ?_
    refine Ops.go (O.box (v := .agg #[_, _, _, _]) I rfl rfl ?_)
    intro b2 w I
    refine Ops.go (O.box (v := .agg #[_, _, _, _]) I rfl rfl ?_)
    intro b3 w I
    refine Ops.y (v := .bool _) (Y.assign rfl) ?_
    refine Ops.nil ?_
    refine WP.seq ?_
    refine WP.region ?_
    refine Ops.y (v := .pointer (some ⟨_, _, none⟩)) (Y.fa0 fa_82_0 rfl) ?_
    refine Ops.y (v := .int .i64 _) (Y.loadv ty_3 rfl (I.rdbox 1 rfl 0 1) rfl rfl) ?_
    refine Ops.y (v := .pointer (some ⟨_, _, none⟩)) (Y.fa0 fa_82_0 rfl) ?_
    refine Ops.y (v := .int .i64 _) (Y.loadv ty_3 rfl (I.rdbox 0 rfl 0 1) rfl rfl) ?_
    refine Ops.go (O.callv I Tryz.call159 (Compare_ok _ I.base_ok _ _) rfl ?_)
    intro w I
    refine Ops.y (v := .bool false) (Y.dec_f (Y.eqi rfl rfl) (hr)) ?_
    refine Ops.y (v := .bool _) (Y.move rfl) ?_
    refine Ops.gf rfl ?_
    refine Ops.gf rfl ?_
    refine Ops.gf rfl ?_
    refine Ops.gf rfl ?_
    refine Ops.gf rfl ?_
    refine Ops.y (v := .bool _) (Y.pick_f rfl rfl) ?_
    refine Ops.y (v := .bool _) (Y.assign rfl) ?_
    refine Ops.nil ?_
    refine WP.ret ?_
    repeat (first | refine thenE_ret ?_ | refine blockE_ret ?_)
    exact retQ.mk (vs := [.bool _]) rfl ⟨rfl, trivial⟩ I.ext_of (by simp only [tup]; rw [decide_eq_false]; intro e; exact hr (cmpI_zero.2 (by rw [e])))
/-! ### Each once -/
def cpt : Stp → List Stp → List Stp
  | _, [] => []
  | p, y :: r => if y = p then cpt y r else y :: cpt y r
def compactS : List Stp → List Stp
  | [] => []
  | x :: r => x :: cpt x r
theorem cpt_snoc : ∀ (r : List Stp) (p y : Stp), cpt p (r ++ [y]) = cpt p r ++ if y = (p :: r).getLast (by simp) then [] else [y]
  | [], p, y => by by_cases h : y = p <;> simp [cpt, h]
  | z :: r, p, y => by
    rw [List.cons_append, cpt, cpt, cpt_snoc r z y]
    have : (p :: z :: r).getLast (by simp) = (z :: r).getLast (by simp) := by simp
    rw [this]
    split <;> simp
theorem compact_snoc {xs : List Stp} (y : Stp) (h : xs ≠ []) : compactS (xs ++ [y]) = compactS xs ++ if y = xs.getLast h then [] else [y] := by
  cases xs with
  | nil => exact absurd rfl h
  | cons x r => rw [List.cons_append, compactS, compactS, cpt_snoc]; rfl
theorem compact_take {xs : List Stp} {k : Nat} (h0 : 0 < k) (hk : k < xs.length) : compactS (xs.take (k + 1)) = compactS (xs.take k) ++ if xs[k] = xs[k - 1] then [] else [xs[k]] := by
  have hne : xs.take k ≠ [] := by intro e; have := congrArg List.length e; rw [List.length_take, List.length_nil] at this; omega
  have hl : (xs.take k).getLast hne = xs[k - 1] := by
    rw [List.getLast_eq_getElem]
    simp only [List.length_take, List.getElem_take]
    congr 1; omega
  rw [List.take_succ_eq_append_getElem hk, compact_snoc _ hne, hl]
theorem compact_same {xs : List Stp} (k : Nat) (hk : k ≤ xs.length) (h : ∀ j, 0 < j → j < k → ∀ hj : j < xs.length, xs[j] ≠ xs[j - 1]) : compactS (xs.take k) = xs.take k := by
  induction k with
  | zero => simp [compactS]
  | succ k ih =>
    by_cases h0 : k = 0
    · subst h0
      cases xs with
      | nil => simp at hk
      | cons x r => simp [compactS, cpt]
    · rw [compact_take (k := k) (by omega) (by omega), ih (by omega) (fun j a b c => h j a (by omega) c), if_neg (h k (by omega) (by omega) (by omega))]
      exact (List.take_succ_eq_append_getElem _).symm
theorem take_set_self (zs : List Stp) (q : Nat) (y : Stp) : (zs.set q y).take q = zs.take q := by
  apply List.ext_getElem?
  intro j
  rw [List.getElem?_take, List.getElem?_take]
  split
  · rw [List.getElem?_set_ne (by omega)]
  · rfl
theorem cpt_len : ∀ (r : List Stp) (p : Stp), (cpt p r).length ≤ r.length
  | [], p => by simp [cpt]
  | y :: r, p => by rw [cpt]; split <;> simp only [List.length_cons] <;> have := cpt_len r y <;> omega
theorem compact_len (xs : List Stp) : (compactS xs).length ≤ xs.length := by
  cases xs with
  | nil => simp [compactS]
  | cons x r => simp only [compactS, List.length_cons]; have := cpt_len r x; omega
set_option maxHeartbeats 8000000 in
theorem Compact_ok {B : Base} {h : Heap} {M : List SA} {w : World} {a : Option Addr} {c m : Nat} {xs : List Stp} (I : Inv B h (ownSl 82 4 (.slice a m c) m (xs.flatMap Stp.enc) :: M) w) (hm : m = xs.length) (hsz : m ≤ 1000000000) :
    Calls Tryz.prog 173 [.slice a m c, .func (.func 174) #[] #[]].toArray w
      (fun ed w' => ∃ a' c' m', ed = .returned (.slice a' m' c') ∧ m' = (compactS xs).length ∧ Inv B h (ownSl 82 4 (.slice a' m' c') m' ((compactS xs).flatMap Stp.enc) :: M) w') := by
  by_cases hlt : m < 2
  · have hcx : compactS xs = xs := by
      have := compact_same (xs := xs) xs.length (Nat.le_refl _) (fun j h0 hj hj' => by omega)
      rwa [List.take_length] at this
    refine Calls.ofWP (args := [.slice a m c, .func (.func 174) #[] #[]]) Tryz.func173 rfl Tryz.ntmps173 (by kernel_rfl) (by simp) ?_
    intro e
    refine WP.seq ?_
    refine WP.region ?_
    refine Ops.y (v := .slice _ _ _) (Y.assign rfl) ?_
    refine Ops.nil ?_
    refine WP.seq ?_
    refine WP.seq ?_
    refine WP.region ?_
    refine Ops.y (v := .slice _ _ _) (Y.move rfl) ?_
    refine Ops.y (v := .int .i64 _) (Y.lens Tryz.underlying36 rfl) ?_
    refine Ops.y (v := .bool (decide _)) (Y.lti rfl rfl) ?_
    refine Ops.nil ?_
    refine WP.cond_decT rfl ((by omega)) ?_
    refine WP.seq ?_
    refine WP.region ?_
    refine Ops.y (v := .slice _ _ _) (Y.move rfl) ?_
    refine Ops.y (v := .slice _ _ _) (Y.assign rfl) ?_
    refine Ops.nil ?_
    refine WP.ret ?_
    repeat (first | refine thenE_ret ?_ | refine blockE_ret ?_)
    exact ⟨.inl rfl, [.slice a m c], ⟨rfl, trivial⟩, a, c, m, rfl, by rw [hcx]; exact hm, by rw [hcx]; exact I⟩
  rcases (I.at 0 rfl).2 with ⟨h0, hn⟩ | ⟨gg, cap, cur, he, _, hg, hnc, hcm, _⟩
  · injection h0 with e1 e2 e3; omega
  injection he with e1 e2 e3
  subst e1; subst e3
  simp only [maxLen] at hcm
  refine Calls.ofWP (args := [.slice (some ⟨gg, 0, none⟩) m c, .func (.func 174) #[] #[]]) Tryz.func173 rfl Tryz.ntmps173 (by kernel_rfl) (by simp) ?_
  intro e
  refine WP.seq ?_
  refine WP.region ?_
  refine Ops.y (v := .slice _ _ _) (Y.assign rfl) ?_
  refine Ops.nil ?_
  refine WP.seq ?_
  refine WP.seq ?_
  refine WP.region ?_
  refine Ops.y (v := .slice _ _ _) (Y.move rfl) ?_
  refine Ops.y (v := .int .i64 _) (Y.lens Tryz.underlying36 rfl) ?_
  refine Ops.y (v := .bool (decide _)) (Y.lti rfl rfl) ?_
  refine Ops.nil ?_
  refine WP.cond_decF rfl ((by omega)) ?_
  refine WP.skip ?_
  refine WP.seq ?_
  refine WP.seq ?_
  refine WP.region ?_
  refine Ops.y (v := .int .i64 _) (Y.assign rfl) ?_
  refine Ops.nil ?_
  refine WP.block ?_
  refine WP.loopE (σ := Nat) (fun k => [(0, .slice (some ⟨gg, 0, none⟩) m c), (1, .func (.func 174) #[] #[]), (5, .int .i64 k)]) (fun k w => Inv B h (ownSl 82 4 (.slice (some ⟨gg, 0, none⟩) m c) m (xs.flatMap Stp.enc) :: M) w ∧ 1 ≤ k ∧ k ≤ m ∧ ∀ j, 0 < j → j < k → ∀ hj : j < xs.length, xs[j] ≠ xs[j - 1]) (fun k => m - k)
    ⟨1, ⟨rfl, rfl, rfl, trivial⟩, I, Nat.le_refl _, by omega, fun j h0 hj => by omega⟩ ?_
  rintro k e w ⟨I, hk1, hk, hn⟩
  refine WP.seq ?_
  refine WP.seq ?_
  refine WP.region ?_
  refine Ops.y (v := .int .i64 _) (Y.move rfl) ?_
  refine Ops.y (v := .slice _ _ _) (Y.move rfl) ?_
  refine Ops.y (v := .int .i64 _) (Y.lens Tryz.underlying36 rfl) ?_
  refine Ops.y (v := .bool (decide _)) (Y.lti rfl rfl) ?_
  refine Ops.nil ?_
  refine WP.cond_dec rfl (fun h4 => ?_) (fun h4 => ?_)
  · have hk' : k < xs.length := by omega
    have g1 : xs[k]? = some xs[k] := List.getElem?_eq_getElem hk'
    have g0 : xs[k - 1]? = some xs[k - 1] := List.getElem?_eq_getElem (by omega)
    refine WP.skip ?_
    refine WP.seq ?_
    refine WP.block ?_
    refine WP.seq ?_
    refine WP.regionQ mixed I (by kernel_rfl) ?_
    refine OpsQ.y (v := .func _ _ _) (fun w I => Y.move rfl) ?_
    refine OpsQ.y (v := .slice _ _ _) (fun w I => Y.move rfl) ?_
    refine OpsQ.y (v := .int .i64 _) (fun w I => Y.move rfl) ?_
    refine OpsQ.y (v := .pointer (some ⟨_, _, none⟩)) (fun w I => Y.idx Tryz.underlying36 Tryz.sizeOf82 rfl rfl (by omega) (by omega)) ?_
    refine OpsQ.y (v := .agg #[_, _, _, _]) (fun w I => Y.loadv ty_82 rfl (I.rdE 0 rfl g1 (by omega)) rfl rfl) ?_
    refine OpsQ.y (v := .slice _ _ _) (fun w I => Y.move rfl) ?_
    refine OpsQ.y (v := .int .i64 _) (fun w I => Y.move rfl) ?_
    refine OpsQ.y (v := .int .i64 _) (fun w I => Y.subi rfl rfl ⟨by omega, by omega⟩) ?_
    refine OpsQ.y (v := .pointer (some ⟨_, _, none⟩)) (fun w I => Y.idx Tryz.underlying36 Tryz.sizeOf82 rfl rfl (by omega) (by omega)) ?_
    refine OpsQ.y (v := .agg #[_, _, _, _]) (fun w I => Y.loadv ty_82 rfl (I.rdE 0 rfl g0 (by omega)) rfl rfl) ?_
    refine OpsQ.c (fun w I => QC.callcv I Tryz.call174 (fs := []) (cs := []) rfl (Steps3_ok _ I.base_ok xs[k] xs[k - 1]) rfl) ?_
    refine OpsQ.nil ?_
    intro w I
    refine WP.cond_dec rfl (fun h6 => ?_) (fun h6 => ?_)
    · have hc1 : compactS (xs.take (k + 1)) = xs.take k := by
        rw [compact_take (by omega) hk', if_pos h6, compact_same k (by omega) hn, List.append_nil]
      refine WP.seq ?_
      refine WP.region ?_
      refine Ops.y (v := .slice _ _ _) (Y.move rfl) ?_
      refine Ops.y (v := .int .i64 _) (Y.move rfl) ?_
      refine Ops.y (v := .slice _ _ _) (Y.cutO (l := k) (h' := m) Tryz.underlying36 Tryz.sizeOf82 rfl (.inr ⟨_, _, rfl, rfl⟩) (.inl ⟨rfl, rfl⟩) (by omega) (by omega) (by omega)) ?_
      refine Ops.y (v := .slice _ _ _) (Y.assign rfl) ?_
      refine Ops.nil ?_
      refine WP.seq ?_
      refine WP.seq ?_
      refine WP.region ?_
      refine Ops.y (v := .int .i64 _) (Y.assign rfl) ?_
      refine Ops.nil ?_
      refine WP.cutK (σ := Nat) (fun q => [(0, .slice (some ⟨gg, 0, none⟩) m c), (5, .int .i64 q)]) (fun q w => ∃ zs : List Stp, Inv B h (ownSl 82 4 (.slice (some ⟨gg, 0, none⟩) m c) m (zs.flatMap Stp.enc) :: M) w ∧ zs.take q = compactS xs ∧ q = (compactS xs).length ∧ q < m) ?_ ?_
      · refine WP.block ?_
        refine WP.loopE (σ := Nat × Nat × List Stp) (fun s => [(0, .slice (some ⟨gg, 0, none⟩) m c), (1, .func (.func 174) #[] #[]), (5, .int .i64 s.2.1), (6, .slice (some ⟨gg, k * 4, none⟩) (m - k) (c - k)), (7, .int .i64 s.1)])
          (fun s w => Inv B h (ownSl 82 4 (.slice (some ⟨gg, 0, none⟩) m c) m (s.2.2.flatMap Stp.enc) :: M) w ∧ 1 ≤ s.1 ∧ k + s.1 ≤ m ∧ s.2.2.length = m ∧ s.2.1 + 1 ≤ k + s.1 ∧ s.2.2.take s.2.1 = compactS (xs.take (k + s.1)) ∧ s.2.1 = (compactS (xs.take (k + s.1))).length ∧ (∀ j, k + s.1 ≤ j + 1 → s.2.2[j]? = xs[j]?)) (fun s => m - s.1)
          ⟨(1, k, xs), ⟨rfl, rfl, rfl, rfl, rfl, trivial⟩, I, Nat.le_refl _, by dsimp only; omega, hm.symm, by dsimp only; omega, hc1.symm, by dsimp only; rw [hc1, List.length_take]; omega, fun _ _ => rfl⟩ ?_
        rintro ⟨k2, q, zs⟩ e w ⟨I, h1, h2, hzl, hq1, hq2, hq3, hz⟩
        dsimp only at I h1 h2 hzl hq1 hq2 hq3 hz ⊢
        refine WP.seq ?_
        refine WP.seq ?_
        refine WP.region ?_
        refine Ops.y (v := .int .i64 _) (Y.move rfl) ?_
        refine Ops.y (v := .slice _ _ _) (Y.move rfl) ?_
        refine Ops.y (v := .int .i64 _) (Y.lens Tryz.underlying36 rfl) ?_
        refine Ops.y (v := .bool (decide _)) (Y.lti rfl rfl) ?_
        refine Ops.nil ?_
        refine WP.cond_dec rfl (fun h9 => ?_) (fun h9 => ?_)
        · have hkk : k + k2 < xs.length := by omega
          have f1 : zs[k + k2]? = some xs[k + k2] := by rw [hz _ (by omega)]; exact List.getElem?_eq_getElem hkk
          have f0 : zs[k + k2 - 1]? = some xs[k + k2 - 1] := by rw [hz _ (by omega)]; exact List.getElem?_eq_getElem (by omega)
          have hct := compact_take (xs := xs) (k := k + k2) (by omega) hkk
          refine WP.skip ?_
          refine WP.seq ?_
          refine WP.block ?_
          refine WP.seq ?_
          refine WP.regionQ mixed I (by kernel_rfl) ?_
          refine OpsQ.y (v := .func _ _ _) (fun w I => Y.move rfl) ?_
          refine OpsQ.y (v := .slice _ _ _) (fun w I => Y.move rfl) ?_
          refine OpsQ.y (v := .int .i64 _) (fun w I => Y.move rfl) ?_
          refine OpsQ.y (v := .pointer (some ⟨_, _, none⟩)) (fun w I => Y.idx Tryz.underlying36 Tryz.sizeOf82 rfl rfl (by omega) (by omega)) ?_
          refine OpsQ.y (v := .agg #[_, _, _, _]) (fun w I => Y.loadv ty_82 rfl (I.rdE 0 rfl f1 (by omega)) rfl rfl) ?_
          refine OpsQ.y (v := .slice _ _ _) (fun w I => Y.move rfl) ?_
          refine OpsQ.y (v := .int .i64 _) (fun w I => Y.move rfl) ?_
          refine OpsQ.y (v := .int .i64 _) (fun w I => Y.subi rfl rfl ⟨by omega, by omega⟩) ?_
          refine OpsQ.y (v := .pointer (some ⟨_, _, none⟩)) (fun w I => Y.idx Tryz.underlying36 Tryz.sizeOf82 rfl rfl (by omega) (by omega)) ?_
          refine OpsQ.y (v := .agg #[_, _, _, _]) (fun w I => Y.loadv ty_82 rfl (I.rdE 0 rfl f0 (by omega)) rfl rfl) ?_
          refine OpsQ.c (fun w I => QC.callcv I Tryz.call174 (fs := []) (cs := []) rfl (Steps3_ok _ I.base_ok xs[k + k2] xs[k + k2 - 1]) rfl) ?_
          refine OpsQ.y (v := .bool (decide _)) (fun w I => Y.notd rfl) ?_
          refine OpsQ.nil ?_
          intro w I
          refine WP.cond_dec rfl (fun h11 => ?_) (fun h11 => ?_)
          · have hne : xs[k + k2] ≠ xs[k + k2 - 1] := h11
            rw [if_neg hne] at hct
            refine WP.seq ?_
            refine WP.region ?_
            refine Ops.y (v := .slice _ _ _) (Y.move rfl) ?_
            refine Ops.y (v := .int .i64 _) (Y.move rfl) ?_
            refine Ops.y (v := .slice _ _ _) (Y.move rfl) ?_
            refine Ops.y (v := .int .i64 _) (Y.move rfl) ?_
            refine Ops.y (v := .pointer (some ⟨_, _, none⟩)) (Y.idx Tryz.underlying36 Tryz.sizeOf82 rfl rfl (by omega) (by omega)) ?_
            refine Ops.y (v := .agg #[_, _, _, _]) (Y.loadv ty_82 rfl (I.rdE 0 rfl f1 (by omega)) rfl rfl) ?_
            refine Ops.y (v := .pointer (some ⟨_, _, none⟩)) (Y.idx Tryz.underlying36 Tryz.sizeOf82 rfl rfl (by omega) (by omega)) ?_
            refine Ops.go (O.storeE (vs := xs[k+k2].enc) I ty_82 et_82 0 rfl rfl rfl rfl rfl rfl (by rw [flat_len stp_len, stp_len]; omega) ?_)
            intro w I
            refine Ops.nil ?_
            refine WP.region ?_
            refine Ops.y (v := .int .i64 _) (Y.move rfl) ?_
            refine Ops.y (v := .int .i64 _) (Y.addi rfl rfl ⟨by omega, by omega⟩) ?_
            refine Ops.y (v := .int .i64 _) (Y.assign rfl) ?_
            refine Ops.nil ?_
            refine WP.region ?_
            refine Ops.y (v := .int .i64 _) (Y.move rfl) ?_
            refine Ops.y (v := .int .i64 _) (Y.addi rfl rfl ⟨by omega, by omega⟩) ?_
            refine Ops.y (v := .int .i64 _) (Y.assign rfl) ?_
            refine Ops.nil ?_
            have I : Inv B h (ownSl 82 4 (.slice (some ⟨gg, 0, none⟩) m c) m ((zs.set q xs[k + k2]).flatMap Stp.enc) :: M) w := by
              rw [← flat_over _ _ _ (by omega)]
              have J := I
              simp only [Int.toNat_natCast, Nat.zero_add] at J
              exact J
            refine ⟨(k2 + 1, q + 1, zs.set q xs[k + k2]), ⟨⟨rfl, rfl, rfl, rfl, rfl, trivial⟩, I, by dsimp only; omega, by dsimp only; omega, by simpa using hzl, by dsimp only; omega, ?_, ?_, fun j hj => ?_⟩, by dsimp only; omega⟩
            · dsimp only
              rw [show k + (k2 + 1) = k + k2 + 1 by omega, hct, ← hq2, List.take_succ_eq_append_getElem (by simp; omega), take_set_self]
              simp
            · dsimp only
              rw [show k + (k2 + 1) = k + k2 + 1 by omega, hct, List.length_append, ← hq3]; rfl
            · dsimp only at hj ⊢
              rw [List.getElem?_set_ne (by omega)]
              exact hz j (by omega)
          · have heq : xs[k + k2] = xs[k + k2 - 1] := Decidable.not_not.1 h11
            rw [if_pos heq, List.append_nil] at hct
            refine WP.skip ?_
            refine WP.region ?_
            refine Ops.y (v := .int .i64 _) (Y.move rfl) ?_
            refine Ops.y (v := .int .i64 _) (Y.addi rfl rfl ⟨by omega, by omega⟩) ?_
            refine Ops.y (v := .int .i64 _) (Y.assign rfl) ?_
            refine Ops.nil ?_
            exact ⟨(k2 + 1, q, zs), ⟨⟨rfl, rfl, rfl, rfl, rfl, trivial⟩, I, by dsimp only; omega, by dsimp only; omega, hzl, by dsimp only; omega, by dsimp only; rw [show k + (k2 + 1) = k + k2 + 1 by omega, hct]; exact hq2, by dsimp only; rw [show k + (k2 + 1) = k + k2 + 1 by omega, hct]; exact hq3, fun j hj => hz j (by dsimp only at hj; omega)⟩, by dsimp only; omega⟩
        · have hkm : k + k2 = xs.length := by omega
          rw [hkm, List.take_length] at hq2 hq3
          refine WP.exit ?_
          exact ⟨q, ⟨rfl, rfl, trivial⟩, zs, I, hq2, hq3, by omega⟩
      rintro q e w ⟨zs, I, hq2, hq3, hq4⟩
      have I := I.cutSl (m := q) (by omega)
      rw [flat_take stp_len, hq2] at I
      refine WP.seq ?_
      refine WP.region ?_
      refine Ops.y (v := .slice _ _ _) (Y.move rfl) ?_
      refine Ops.y (v := .int .i64 _) (Y.move rfl) ?_
      refine Ops.y (v := .slice _ _ _) (Y.cutO (l := q) (h' := m) Tryz.underlying36 Tryz.sizeOf82 rfl (.inr ⟨_, _, rfl, rfl⟩) (.inl ⟨rfl, rfl⟩) (by omega) (by omega) (by omega)) ?_
      refine Ops.go (O.clearS I Tryz.underlying36 et_82 (by simp [Value.cells, Value.oneCell']) rfl (by omega) rfl (by omega) ?_)
      intro w I
      refine Ops.nil ?_
      refine WP.seq ?_
      refine WP.region ?_
      refine Ops.y (v := .slice _ _ _) (Y.move rfl) ?_
      refine Ops.y (v := .int .i64 _) (Y.move rfl) ?_
      refine Ops.y (v := .slice _ _ _) (Y.cutO (l := 0) (h' := q) Tryz.underlying36 Tryz.sizeOf82 rfl (.inl ⟨rfl, rfl⟩) (.inr ⟨_, _, rfl, rfl⟩) (by omega) (by omega) (by omega)) ?_
      refine Ops.y (v := .slice _ _ _) (Y.assign rfl) ?_
      refine Ops.nil ?_
      refine WP.ret ?_
      repeat (first | refine thenE_ret ?_ | refine blockE_ret ?_)
      exact ⟨.inl rfl, [.slice (some ⟨gg, 0, none⟩) q c], ⟨rfl, trivial⟩, some ⟨gg, 0, none⟩, c, q, rfl, hq3, I⟩
    · refine WP.skip ?_
      refine WP.region ?_
      refine Ops.y (v := .int .i64 _) (Y.move rfl) ?_
      refine Ops.y (v := .int .i64 _) (Y.addi rfl rfl ⟨by omega, by omega⟩) ?_
      refine Ops.y (v := .int .i64 _) (Y.assign rfl) ?_
      refine Ops.nil ?_
      exact ⟨k + 1, ⟨⟨rfl, rfl, rfl, trivial⟩, I, by omega, by omega, fun j h0 hj hj' => by
        rcases Nat.lt_succ_iff_lt_or_eq.1 hj with h' | rfl
        · exact hn j h0 h' hj'
        · exact h6⟩, by omega⟩
  have hcx : compactS xs = xs := by
    have := compact_same (xs := xs) xs.length (Nat.le_refl _) (fun j h0 hj hj' => hn j h0 (by omega) hj')
    rwa [List.take_length] at this
  refine WP.exit ?_
  refine WP.seq ?_
  refine WP.region ?_
  refine Ops.y (v := .slice _ _ _) (Y.move rfl) ?_
  refine Ops.y (v := .slice _ _ _) (Y.assign rfl) ?_
  refine Ops.nil ?_
  refine WP.ret ?_
  repeat (first | refine thenE_ret ?_ | refine blockE_ret ?_)
  exact ⟨.inl rfl, [.slice (some ⟨gg, 0, none⟩) m c], ⟨rfl, trivial⟩, some ⟨gg, 0, none⟩, c, m, rfl, by rw [hcx]; exact hm, by rw [hcx]; exact I⟩
end Go.TF
end
section
/- A round: what is told, and put one behind the other: plain. -/
namespace Go.TF
open Go

/-- The rules of a stratum. -/
def ofQ (p : Prg) (M : List Int) (st : Int) (n : Nat) : Bool := decide (lv M (p.rules.xs.getD n default).head.pred = st)
/-- What the rules that are asked for tell, each step with its fact. -/
def toldN (l : List Prd) (f : List Fct) (rs : List Rul) (q : Nat → Bool) (n : Nat) : List (Stp × Fct) :=
  if q n then (stepsF f n (rs.getD n default)).map fun s => (s, headF l f (rs.getD n default) s.vars) else []
def toldK (l : List Prd) (f : List Fct) (rs : List Rul) (q : Nat → Bool) (k : Nat) : List (Stp × Fct) := (List.range k).flatMap (toldN l f rs q)
abbrev toldL (l : List Prd) (f : List Fct) (rs : List Rul) (q : Nat → Bool) : List (Stp × Fct) := toldK l f rs q rs.length
section
variable {l : List Prd} {f : List Fct} {rs : List Rul} {q : Nat → Bool} {n : Nat}
theorem toldK_succ : toldK l f rs q (n + 1) = toldK l f rs q n ++ toldN l f rs q n := by unfold toldK; rw [List.range_succ, List.flatMap_append]; simp
theorem toldK_get {m k : Nat} (hn : n < m) {x : Stp × Fct} (hk : (toldN l f rs q n)[k]? = some x) : (toldK l f rs q m)[(toldK l f rs q n).length + k]? = some x := by
  obtain ⟨t, ht⟩ : ∃ t, toldK l f rs q m = toldK l f rs q n ++ toldN l f rs q n ++ t := by
    induction m with
    | zero => omega
    | succ m ih =>
      by_cases e : n = m
      · subst e; exact ⟨[], by rw [toldK_succ, List.append_nil]⟩
      · obtain ⟨t, ht⟩ := ih (by omega)
        exact ⟨t ++ toldN l f rs q m, by rw [toldK_succ, ht, List.append_assoc]⟩
  have hl := (List.getElem?_eq_some_iff.1 hk).1
  rw [ht, List.append_assoc, List.getElem?_append_right (by omega), List.getElem?_append_left (by omega)]
  rw [← hk]; congr 1; omega
theorem mem_told {x : Stp × Fct} : x ∈ toldL l f rs q ↔ ∃ n r, rs[n]? = some r ∧ q n = true ∧ x.1 ∈ stepsF f n r ∧ x.2 = headF l f r x.1.vars := by
  unfold toldL toldK
  rw [List.mem_flatMap]
  constructor
  · rintro ⟨n, hn, hx⟩
    have hn' : n < rs.length := List.mem_range.1 hn
    have hr : rs[n]? = some rs[n] := List.getElem?_eq_getElem hn'
    unfold toldN at hx
    rw [List.getD_eq_getElem?_getD, hr] at hx
    simp only [Option.getD_some] at hx
    split at hx
    · rename_i hq
      obtain ⟨s, hs, rfl⟩ := List.mem_map.1 hx
      exact ⟨n, rs[n], hr, hq, hs, rfl⟩
    · cases hx
  · rintro ⟨n, r, hr, hq, hs, he⟩
    refine ⟨n, List.mem_range.2 (List.getElem?_eq_some_iff.1 hr).1, ?_⟩
    unfold toldN
    rw [List.getD_eq_getElem?_getD, hr, if_pos hq]
    simp only [Option.getD_some]
    exact List.mem_map.2 ⟨x.1, hs, by obtain ⟨a, b⟩ := x; dsimp only at he ⊢; rw [he]⟩
end
def putS (l : List Prd) (s : List Fct × Bool) (x : Fct) : List Fct × Bool := ((addF (predOf l x.pred).kind s.1 x).1, s.2 || (addF (predOf l x.pred).kind s.1 x).2)
def turnL (l : List Prd) (f : List Fct) (ts : List (Stp × Fct)) : List Fct × Bool := ts.foldl (fun s t => putS l s t.2) (f, false)
theorem turnL_snoc {l : List Prd} {f : List Fct} {ts : List (Stp × Fct)} {t : Stp × Fct} : turnL l f (ts ++ [t]) = putS l (turnL l f ts) t.2 := by unfold turnL; rw [List.foldl_append]; rfl
theorem turnL_take {l : List Prd} {f : List Fct} {ts : List (Stp × Fct)} {k : Nat} (hk : k < ts.length) : turnL l f (ts.take (k + 1)) = putS l (turnL l f (ts.take k)) ts[k].2 := by
  rw [List.take_succ_eq_append_getElem hk, turnL_snoc]
theorem turn_fok {l : List Prd} {f : List Fct} (okf : FOk l f) {ts : List (Stp × Fct)} (h : ∀ t ∈ ts, factFine l t.2 = true) : FOk l (turnL l f ts).1 := by
  have : ∀ k, k ≤ ts.length → FOk l (turnL l f (ts.take k)).1 := fun k => by
    induction k with
    | zero => intro _; exact okf
    | succ k ih =>
      intro hk
      rw [turnL_take (by omega)]
      exact addF_fok (ih (by omega)) (h _ (List.getElem_mem _))
  have := this ts.length (Nat.le_refl _)
  rwa [List.take_length] at this
theorem steps_holds {f : List Fct} {n : Int} {r : Rul} {s : Stp} (h : s ∈ stepsF f n r) : s.rule = n ∧ VsOk s.vars ∧ holdsB f r s.vars = true := by
  unfold stepsF at h
  obtain ⟨x, hx, rfl⟩ := List.mem_map.1 h
  obtain ⟨h1, h2⟩ := List.mem_filter.1 hx
  rw [Bool.and_eq_true] at h2
  exact ⟨rfl, mem_vecs.1 h1, h2.2⟩
theorem told_fine {l : List Prd} {f : List Fct} {rs : List Rul} {q : Nat → Bool} (ok : ∀ r ∈ rs, ROk l r) (okf : FOk l f) : ∀ t ∈ toldL l f rs q, factFine l t.2 = true := fun t ht => by
  obtain ⟨n, r, hr, _, hs, he⟩ := mem_told.1 ht
  obtain ⟨_, hv, hh⟩ := steps_holds hs
  rw [he]
  exact headF_fine (ok r (List.mem_of_getElem? hr)) okf hv hh
end Go.TF
end
section
/- What is owned read by a call as if known for good; boxes taken back; elements of an owned slice. -/
namespace Go.TF
open Go Go.RowKit Go.Proofs

section
variable {P : Program} {e : Env} {w : World} {B : Base} {h : Heap} {M : List SA} {t : TypeId} {pos : String} {af : Array Edge} {g : Option (Nat × Bool)} {d : Option Nat} {K : Value → World → Prop}
/-- A call that hands back a value and nothing else may be looked at from any knowledge. -/
theorem O.callvH {hb : Heap} {f : FuncId} {args : Array Operand} {ts : Array TypeId} {vs : List Value} {r : Value} (I : Inv B h M w) (hf : Enters P f) (hfn : Fn P f vs ⟨w, hb⟩ (fun v _ => v = r))
    (ha : args.toList.map (ev e) = vs) (k : ∀ w', Inv B h M w' → K r w') : Op1 P ⟨d, .call { callee := .value (.func f), args := args, argTypes := ts }, t, pos, af, g⟩ e w K := by
  have ha' : args.map (ev e) = vs.toArray := by rw [← ha]; apply Array.ext'; simp
  have : (execOp (ev e) ⟨d, .call { callee := .value (.func f), args := args, argTypes := ts }, t, pos, af, g⟩).run P w = .ok (.enter f vs.toArray) w := by
    simp [execOp, resolve, ev, Deferred.ofValue, invoke, ha', hf]
  unfold Op1
  rw [this]
  refine Calls.mono hfn ?_
  rintro x w' ⟨v, h', rfl, X, rfl⟩
  exact k w' (I.grow X.below)
/-- A box that is known for good is the call's own again. -/
theorem Inv.unbox {b : Nat} {cs : List Value} {T : TypeId} (I : Inv B h M w) (hb : h b = some (.cells cs.toArray T (0, 0))) (hB : B.h b = none) :
    ∃ h', Inv B h' (box b cs T :: M) w ∧ (∀ h1 : Heap, h1.le h → h1 b = none → h1.le h') ∧ h' b = none := by
  have hnew : B.w.heap.size ≤ b := by
    rcases I.new b _ hb with h1 | h1
    · rw [hB] at h1; cases h1
    · exact h1
  refine ⟨fun x => if x = b then none else h x, ⟨I.below, fun x o hx => ?_, fun x o hx => ?_, fun x o hx => ?_, fun A hA => ?_, List.pairwise_cons.2 ⟨fun C hC x hx hxC => ?_, I.apart⟩⟩, fun h1 hl hn => Heap.le_minus b hl hn, by simp⟩
  · exact Heap.le_minus b I.ext hB x o hx
  · have : x ≠ b := fun e => by simp [e] at hx
    simp only [this, if_false] at hx; exact I.new x o hx
  · have : x ≠ b := fun e => by simp [e] at hx
    simp only [this, if_false] at hx; exact I.imm x o hx
  · rcases List.mem_cons.1 hA with rfl | hA
    · exact ⟨I.imm b _ hb, fun x hx => by
        simp [box] at hx; subst hx
        exact ⟨hnew, I.lt hb, by simp⟩⟩
    · obtain ⟨h1, h2⟩ := I.own A hA
      refine ⟨h1, fun x hx => ?_⟩
      obtain ⟨k1, k2, k3⟩ := h2 x hx
      exact ⟨k1, k2, by by_cases e : x = b <;> simp [e, k3]⟩
  · simp [box] at hx; subst hx
    have := ((I.own C hC).2 x hxC).2.2
    rw [hb] at this; cases this
/-- A box goes to what is known for good, and may be taken back. -/
theorem Inv.lend {b : Nat} {cs : List Value} {T : TypeId} (I : Inv B h (box b cs T :: M) w) : ∃ h', h.le h' ∧ h' b = some (.cells cs.toArray T (0, 0)) ∧ Known h' b cs ∧ Inv B h' M w ∧ h b = none ∧ B.h b = none := by
  have hb := I.at 0 rfl
  have hn := ((I.own _ List.mem_cons_self).2 b (by simp [box])).2.2
  obtain ⟨h', hle, hfp, J⟩ := I.settle
  have : h' b = some (.cells cs.toArray T (0, 0)) := (hfp b (by simp [box])).trans hb
  refine ⟨h', hle, this, ⟨fun j v hv => ?_⟩, J, hn, ?_⟩
  · simp [Heap.cell, this, hv]
  · cases hh : B.h b with
    | none => rfl
    | some o => rw [I.ext b o hh] at hn; cases hn
theorem Inv.rdG {α : Type} {enc : α → List Value} {k T gg n cap : Nat} {zs : List α} (hk : ∀ x, (enc x).length = k) (I : Inv B h M w) (n0 : Nat) (hn : M[n0]? = some (ownSl T k (.slice (some ⟨gg, 0, none⟩) n cap) n (zs.flatMap enc))) {i o : Nat} {y : α} (hy : zs[i]? = some y) (ho : o = i * k) : Rd w gg o (enc y) := by
  subst ho
  intro j v hj
  have hp : w.ownsRow 0 T k (.slice (some ⟨gg, 0, none⟩) n cap) n (zs.flatMap enc) := I.at n0 hn
  have := hp.cells (g := gg) rfl (i * k + j) v (flat_get hk zs i j y v hy hj)
  rwa [addr_add, Nat.zero_add] at this
theorem flat_overG {α : Type} {enc : α → List Value} {k : Nat} (hk : ∀ x, (enc x).length = k) (zs : List α) (i : Nat) (y : α) (hi : i < zs.length) : over (zs.flatMap enc) (i * k) (enc y) = (zs.set i y).flatMap enc := by
  unfold over
  rw [flat_take hk, hk, show i * k + k = (i + 1) * k by rw [Nat.add_mul, Nat.one_mul], flat_drop hk, List.set_eq_take_append_cons_drop, if_pos hi, List.flatMap_append, List.flatMap_cons, List.append_assoc]
end
section
variable {P : Program} {N : Nat} {D : List Deferred} {e : Env} {w : World} {Q : Exit → Env → World → List Deferred → Prop}
theorem WPD.cond_decT {c : Operand} {x y : Code} {p : Prop} [Decidable p] (hc : ev e c = .bool (decide p)) (hp : p) (ht : WPD P N D x e w Q) : WPD P N D (.cond c x y) e w Q :=
  WPD.cond_dec hc (fun _ => ht) (fun h => (h hp).elim)
theorem WPD.cond_decF {c : Operand} {x y : Code} {p : Prop} [Decidable p] (hc : ev e c = .bool (decide p)) (hp : ¬p) (hf : WPD P N D y e w Q) : WPD P N D (.cond c x y) e w Q :=
  WPD.cond_dec hc (fun h => (hp h).elim) (fun _ => hf)
theorem WPD.regionF {id : Nat} {ops : Array Oper} {B : Base} {h : Heap} {M : List SA} (hm : Mixed P) (I : Inv B h M w) (m : Nat) (hB : flowB ops m = true)
    (k : OpsF P ops B M h [] (ops.toList.take m) e (fun L e' => ∀ h1 w1, h.le h1 → Inv B h1 M w1 → AllL (fun _ => true) h1 L e' fun e'' => Ops P ops (ops.toList.drop m) e'' w1 (fun e3 w3 => Q .normal e3 w3 D))) : WPD P N D (.region id ops true) e w Q := WPD.of (WP.regionF hm I m hB k)
theorem WPD.cutK {x : Code} {K : Env → World → List Deferred → Prop} {σ : Type} (kv : σ → List (Nat × Value)) (J : σ → World → Prop) (Df : σ → List Deferred)
    (hx : WPD P N D x e w (thenD (fun e' w' D' => ∃ s, Has e' (kv s) ∧ D' = Df s ∧ J s w') Q)) (hy : ∀ s e' w', J s w' → K (E e' (kv s)) w' (Df s)) : WPD P N D x e w (thenD K Q) := by
  refine hx.mono ?_
  intro x e' w' D' h
  cases x <;> first | exact h | skip
  obtain ⟨s, h1, rfl, h2⟩ := h
  have := hy s e' w' h2
  rwa [E_self h1] at this
end
theorem perm_last6 {a b c d e f g : SA} {L : List SA} : ([a, b, c, d, e, f, g] ++ L).Perm (g :: ([a, b, c, d, e, f] ++ L)) := List.perm_middle (l₁ := [a, b, c, d, e, f]) (l₂ := L)
theorem take_setG {α : Type} (zs : List α) (q : Nat) (y : α) : (zs.set q y).take q = zs.take q := by
  apply List.ext_getElem?
  intro j
  rw [List.getElem?_take, List.getElem?_take]
  split
  · rw [List.getElem?_set_ne (by omega)]
  · rfl
/-- What is not taken away. -/
def keepL {α : Type} (p : α → Bool) (xs : List α) : List α := xs.filter fun x => !p x
section
variable {α : Type} {p : α → Bool} {xs : List α}
theorem keepL_take {k : Nat} (hk : k < xs.length) : keepL p (xs.take (k + 1)) = keepL p (xs.take k) ++ if p xs[k] = true then [] else [xs[k]] := by
  unfold keepL
  rw [List.take_succ_eq_append_getElem hk, List.filter_append]
  cases h : p xs[k] <;> simp [h]
theorem keepL_all (h : ∀ x ∈ xs, p x = false) : keepL p xs = xs := List.filter_eq_self.2 fun x hx => by simp [h x hx]
theorem idxOf_cases (p : α → Bool) (xs : List α) : (idxOf p xs = -1 ∧ ∀ x ∈ xs, p x = false) ∨ ∃ k, ∃ hk : k < xs.length, idxOf p xs = (k : Int) ∧ p xs[k] = true ∧ keepL p (xs.take k) = xs.take k := by
  unfold idxOf
  cases h : xs.findIdx? p with
  | none =>
    rw [List.findIdx?_eq_none_iff] at h
    exact .inl ⟨rfl, h⟩
  | some i =>
    rw [List.findIdx?_eq_some_iff_getElem] at h
    obtain ⟨hi, hp, hj⟩ := h
    refine .inr ⟨i, hi, rfl, hp, keepL_all fun x hx => ?_⟩
    obtain ⟨j, hjl, rfl⟩ := List.getElem_of_mem hx
    rw [List.length_take] at hjl
    rw [List.getElem_take]
    have := hj j (by omega)
    simpa using this
end
end Go.TF
end
section
/- slices.IndexFunc, ContainsFunc at rules and literals. -/
namespace Go.TF
open Go Go.RowKit Go.Proofs
set_option maxRecDepth 10000
theorem IndexFuncLtl_ok (B : Base) (hB : B.ok) (l : Sl Ltl) (hl : l.Is 3 Ltl.enc B.h) (f : FuncId) (ent : Enters Tryz.prog f) (fs cs : List Value) (p : Ltl → Bool) (hp : PredFn Tryz.prog f fs cs B.h Ltl.val l.xs p) :
    Fn Tryz.prog 175 [l.val, .func (.func f) fs.toArray cs.toArray] B (fun v _ => v = .int .i64 (idxOf p l.xs)) := by
  refine Fn.of Tryz.func175 rfl Tryz.ntmps175 (by kernel_rfl) (by simp) ?_
  intro e
  have I := Inv.start hB
  refine WP.seq ?_
  refine WP.region ?_
  refine Ops.y (v := .int .i64 _) (Y.assign rfl) ?_
  refine Ops.nil ?_
  refine WP.seq ?_
  refine WP.seq ?_
  refine WP.region ?_
  refine Ops.y (v := .slice _ _ _) (Y.move rfl) ?_
  refine Ops.y (v := .int .i64 _) (Y.lens Tryz.underlying66 rfl) ?_
  refine Ops.y (v := .int .i64 _) (Y.move rfl) ?_
  refine Ops.nil ?_
  refine WP.block ?_
  refine WP.loopE (σ := Nat) (fun k => [(0, l.val), (1, .func (.func f) fs.toArray cs.toArray), (7, .int .i64 l.xs.length), (8, .int .i64 k)]) (fun k w => Inv B B.h [] w ∧ k ≤ l.xs.length ∧ ∀ j (hj : j < k) (hj' : j < l.xs.length), p l.xs[j] = false) (fun k => l.xs.length - k)
    ⟨0, ⟨rfl, rfl, rfl, rfl, trivial⟩, I, Nat.zero_le _, fun j hj => (by omega)⟩ ?_
  rintro k e w ⟨I, hk, hn⟩
  have hsm := hl.small
  refine WP.seq ?_
  refine WP.region ?_
  refine Ops.y (v := .bool (decide _)) (Y.lti rfl rfl) ?_
  refine Ops.nil ?_
  refine WP.seq ?_
  refine WP.cond_dec rfl (fun h => ?_) (fun h => ?_)
  · have hk' : k < l.xs.length := by omega
    have E1 := hl.at hk'
    refine WP.skip ?_
    refine WP.seq ?_
    refine WP.block ?_
    refine WP.seq ?_
    refine WP.region ?_
    refine Ops.y (v := .int .i64 _) (Y.move rfl) ?_
    refine Ops.y (v := .int .i64 _) (Y.assign rfl) ?_
    refine Ops.nil ?_
    refine WP.seq ?_
    refine WP.region ?_
    refine Ops.y (v := .func _ _ _) (Y.move rfl) ?_
    refine Ops.y (v := .slice _ _ _) (Y.move rfl) ?_
    refine Ops.y (v := .int .i64 _) (Y.move rfl) ?_
    refine Ops.y (v := .pointer (some ⟨_, _, none⟩)) (Y.idxEl E1 Tryz.underlying66 Tryz.sizeOf131 rfl rfl (Int.natCast_nonneg _) rfl) ?_
    refine Ops.y (v := .agg #[_, _, _]) (Y.loadv ty_131 rfl (I.rd (E1.rd.part 0 3)) rfl rfl) ?_
    refine Ops.go (O.callcv I ent rfl (hp ⟨w, B.h⟩ I.base_ok (Heap.le.refl _) l.xs[k] (List.getElem_mem hk')) rfl ?_)
    intro w I
    refine Ops.nil ?_
    refine WP.cond rfl (fun hb => ?_) (fun hb => ?_)
    · refine WP.seq ?_
      refine WP.region ?_
      refine Ops.y (v := .int .i64 _) (Y.move rfl) ?_
      refine Ops.y (v := .int .i64 _) (Y.assign rfl) ?_
      refine Ops.nil ?_
      refine WP.ret ?_
      repeat (first | refine thenE_ret ?_ | refine blockE_ret ?_)
      exact retQ.mk (vs := [.int .i64 _]) rfl ⟨rfl, trivial⟩ I.ext_of (by simp only [tup]; rw [idxOf_some hk' (fun j hj => hn j hj (by omega)) hb])
    refine WP.skip ?_
    refine WP.region ?_
    refine Ops.y (v := .int .i64 _) (Y.addi rfl rfl ⟨by omega, by omega⟩) ?_
    refine Ops.y (v := .int .i64 _) (Y.move rfl) ?_
    refine Ops.nil ?_
    exact ⟨k + 1, ⟨⟨rfl, rfl, rfl, rfl, trivial⟩, I, by omega, fun j hj hj' => by
      rcases Nat.lt_succ_iff_lt_or_eq.1 hj with h' | h'
      · exact hn j h' hj'
      · subst h'; exact hb⟩, by omega⟩
  refine WP.exit ?_
  refine WP.seq ?_
  refine WP.region ?_
  refine Ops.y (v := .int .i64 _) (Y.assign rfl) ?_
  refine Ops.nil ?_
  refine WP.ret ?_
  repeat (first | refine thenE_ret ?_ | refine blockE_ret ?_)
  exact retQ.mk (vs := [.int .i64 _]) rfl ⟨rfl, trivial⟩ I.ext_of (by simp only [tup]; rw [idxOf_none]; intro x hx; obtain ⟨j, hj, rfl⟩ := List.getElem_of_mem hx; exact hn j (by omega) hj)
theorem ContainsFuncLtl_ok (B : Base) (hB : B.ok) (l : Sl Ltl) (hl : l.Is 3 Ltl.enc B.h) (f : FuncId) (ent : Enters Tryz.prog f) (fs cs : List Value) (p : Ltl → Bool) (hp : PredFn Tryz.prog f fs cs B.h Ltl.val l.xs p) :
    Fn Tryz.prog 133 [l.val, .func (.func f) fs.toArray cs.toArray] B (fun v _ => v = .bool (l.xs.any p)) := by
  refine Fn.of Tryz.func133 rfl Tryz.ntmps133 (by kernel_rfl) (by simp) ?_
  intro e
  have I := Inv.start hB
  refine WP.seq ?_
  refine WP.region ?_
  refine Ops.y (v := .bool _) (Y.assign rfl) ?_
  refine Ops.nil ?_
  refine WP.seq ?_
  refine WP.region ?_
  refine Ops.y (v := .slice _ _ _) (Y.move rfl) ?_
  refine Ops.y (v := .func _ _ _) (Y.move rfl) ?_
  refine Ops.go (O.callv I Tryz.call175 (IndexFuncLtl_ok _ I.base_ok l hl f ent fs cs p hp) rfl ?_)
  intro w I
  refine Ops.y (v := .bool (decide _)) (Y.gei rfl rfl) ?_
  refine Ops.y (v := .bool _) (Y.assign rfl) ?_
  refine Ops.nil ?_
  refine WP.ret ?_
  repeat (first | refine thenE_ret ?_ | refine blockE_ret ?_)
  exact retQ.mk (vs := [.bool _]) rfl ⟨rfl, trivial⟩ I.ext_of (by simp only [tup]; rw [idxOf_any])
end Go.TF
end
section
/- slices.DeleteFunc at this program's types, of a slice of the call's own. -/
namespace Go.TF
open Go Go.RowKit Go.Proofs
set_option maxRecDepth 20000

theorem Fct_len (x : Fct) : x.enc.length = 4 := rfl
set_option maxHeartbeats 8000000 in
theorem DeleteFct_ok {B : Base} {h : Heap} {M : List SA} {w : World} {a : Option Addr} {c m : Nat} {xs : List Fct} (I : Inv B h (ownSl 52 4 (.slice a m c) m (xs.flatMap Fct.enc) :: M) w) (hm : m = xs.length) (hsz : m ≤ 1000000000)
    (f : FuncId) (ent : Enters Tryz.prog f) (fs cs : List Value) (p : Fct → Bool) (hp : PredFn Tryz.prog f fs cs h Fct.val xs p) :
    Calls Tryz.prog 68 [.slice a m c, .func (.func f) fs.toArray cs.toArray].toArray w
      (fun ed w' => ∃ v m', ed = .returned v ∧ m' = (keepL p xs).length ∧ Inv B h (ownSl 52 4 v m' ((keepL p xs).flatMap Fct.enc) :: M) w') := by
  obtain ⟨hv, s, hle, hsv, hsx, hin, Iv⟩ := I.settleSl Fct_len hm
  have hi := IndexFuncFct_ok ⟨w, hv⟩ Iv.base_ok s ⟨hin, by rw [hsx]; omega⟩ f ent fs cs p (by rw [hsx]; exact fun B' ok hl x hx => hp B' ok (hle.trans hl) x hx)
  rw [hsv, hsx] at hi
  rcases idxOf_cases p xs with ⟨hx, hno⟩ | ⟨k0, hk0, hx, hpk, hkt⟩
  · rw [hx] at hi
    refine Calls.ofWP (args := [.slice a m c, .func (.func f) fs.toArray cs.toArray]) Tryz.func68 rfl Tryz.ntmps68 (by kernel_rfl) (by simp) ?_
    intro e
    refine WP.seq ?_
    refine WP.region ?_
    refine Ops.y (v := .slice _ _ _) (Y.assign rfl) ?_
    refine Ops.nil ?_
    refine WP.seq ?_
    refine WP.region ?_
    refine Ops.y (v := .slice _ _ _) (Y.move rfl) ?_
    refine Ops.y (v := .func _ _ _) (Y.move rfl) ?_
    refine Ops.go (O.callvH I Tryz.call138 (hi) rfl ?_)
    intro w I
    refine Ops.y (v := .int .i64 _) (Y.assign rfl) ?_
    refine Ops.nil ?_
    refine WP.seq ?_
    refine WP.seq ?_
    refine WP.region ?_
    refine Ops.y (v := .int .i64 _) (Y.move rfl) ?_
    refine Ops.y (v := .bool (decide _)) (Y.eqi rfl rfl) ?_
    refine Ops.nil ?_
    refine WP.cond_decT rfl (rfl) ?_
    refine WP.seq ?_
    refine WP.region ?_
    refine Ops.y (v := .slice _ _ _) (Y.move rfl) ?_
    refine Ops.y (v := .slice _ _ _) (Y.assign rfl) ?_
    refine Ops.nil ?_
    refine WP.ret ?_
    repeat (first | refine thenE_ret ?_ | refine blockE_ret ?_)
    exact ⟨.inl rfl, [.slice a m c], ⟨rfl, trivial⟩, _, m, rfl, by rw [keepL_all hno]; exact hm, by rw [keepL_all hno]; exact I⟩
  rw [hx] at hi
  rcases (I.at 0 rfl).2 with ⟨h0, hn⟩ | ⟨gg, cap, cur, he, _, hg, hnc, hcm, _⟩
  · injection h0 with e1 e2 e3; omega
  injection he with e1 e2 e3
  subst e1; subst e3
  simp only [maxLen] at hcm
  refine Calls.ofWP (args := [.slice (some ⟨gg, 0, none⟩) m c, .func (.func f) fs.toArray cs.toArray]) Tryz.func68 rfl Tryz.ntmps68 (by kernel_rfl) (by simp) ?_
  intro e
  refine WP.seq ?_
  refine WP.region ?_
  refine Ops.y (v := .slice _ _ _) (Y.assign rfl) ?_
  refine Ops.nil ?_
  refine WP.seq ?_
  refine WP.region ?_
  refine Ops.y (v := .slice _ _ _) (Y.move rfl) ?_
  refine Ops.y (v := .func _ _ _) (Y.move rfl) ?_
  refine Ops.go (O.callvH I Tryz.call138 (hi) rfl ?_)
  intro w I
  refine Ops.y (v := .int .i64 _) (Y.assign rfl) ?_
  refine Ops.nil ?_
  refine WP.seq ?_
  refine WP.seq ?_
  refine WP.region ?_
  refine Ops.y (v := .int .i64 _) (Y.move rfl) ?_
  refine Ops.y (v := .bool (decide _)) (Y.eqi rfl rfl) ?_
  refine Ops.nil ?_
  refine WP.cond_decF rfl ((by omega)) ?_
  refine WP.skip ?_
  refine WP.seq ?_
  refine WP.seq ?_
  refine WP.region ?_
  refine Ops.y (v := .int .i64 _) (Y.move rfl) ?_
  refine Ops.y (v := .int .i64 _) (Y.addi rfl rfl ⟨by omega, by omega⟩) ?_
  refine Ops.y (v := .int .i64 _) (Y.assign rfl) ?_
  refine Ops.nil ?_
  refine WP.cutK (σ := Nat) (fun q => [(0, .slice (some ⟨gg, 0, none⟩) m c), (5, .int .i64 q)]) (fun q w => ∃ zs : List Fct, Inv B h (ownSl 52 4 (.slice (some ⟨gg, 0, none⟩) m c) m (zs.flatMap Fct.enc) :: M) w ∧ zs.take q = keepL p xs ∧ q = (keepL p xs).length ∧ q < m) ?_ ?_
  · refine WP.block ?_
    refine WP.loopE (σ := Nat × Nat × List Fct) (fun s => [(0, .slice (some ⟨gg, 0, none⟩) m c), (1, .func (.func f) fs.toArray cs.toArray), (5, .int .i64 s.2.1), (6, .int .i64 s.1)])
      (fun s w => Inv B h (ownSl 52 4 (.slice (some ⟨gg, 0, none⟩) m c) m (s.2.2.flatMap Fct.enc) :: M) w ∧ s.1 ≤ m ∧ s.2.2.length = m ∧ s.2.1 < s.1 ∧ s.2.2.take s.2.1 = keepL p (xs.take s.1) ∧ s.2.1 = (keepL p (xs.take s.1)).length ∧ (∀ j, s.1 ≤ j → s.2.2[j]? = xs[j]?)) (fun s => m - s.1)
      ⟨(k0 + 1, k0, xs), ⟨rfl, rfl, rfl, rfl, trivial⟩, I, by dsimp only; omega, hm.symm, Nat.lt_succ_self _, by dsimp only; rw [keepL_take hk0, if_pos hpk, List.append_nil, hkt], by dsimp only; rw [keepL_take hk0, if_pos hpk, List.append_nil, hkt, List.length_take]; omega, fun _ _ => rfl⟩ ?_
    rintro ⟨j, q, zs⟩ e w ⟨I, h2, hzl, hq1, hq2, hq3, hz⟩
    dsimp only at I h2 hzl hq1 hq2 hq3 hz ⊢
    refine WP.seq ?_
    refine WP.seq ?_
    refine WP.region ?_
    refine Ops.y (v := .int .i64 _) (Y.move rfl) ?_
    refine Ops.y (v := .slice _ _ _) (Y.move rfl) ?_
    refine Ops.y (v := .int .i64 _) (Y.lens Tryz.underlying26 rfl) ?_
    refine Ops.y (v := .bool (decide _)) (Y.lti rfl rfl) ?_
    refine Ops.nil ?_
    refine WP.cond_dec rfl (fun h5 => ?_) (fun h5 => ?_)
    · have hj : j < xs.length := by omega
      have f1 : zs[j]? = some xs[j] := by rw [hz _ (Nat.le_refl _)]; exact List.getElem?_eq_getElem hj
      have hkt := keepL_take (p := p) hj
      refine WP.skip ?_
      refine WP.seq ?_
      refine WP.block ?_
      refine WP.seq ?_
      refine WP.region ?_
      refine Ops.y (v := .slice _ _ _) (Y.move rfl) ?_
      refine Ops.y (v := .int .i64 _) (Y.move rfl) ?_
      refine Ops.y (v := .pointer (some ⟨_, _, none⟩)) (Y.idx Tryz.underlying26 Tryz.sizeOf52 rfl rfl (by omega) (by omega)) ?_
      refine Ops.y (v := .agg #[_, _, _, _]) (Y.loadv ty_52 rfl (I.rdG Fct_len 0 rfl f1 (by omega)) rfl rfl) ?_
      refine Ops.go (O.alloc I Tryz.zeroValue52 rfl ?_)
      intro b7 w I
      refine Ops.go (O.store (v := xs[j].val) I ty_52 0 rfl rfl rfl rfl rfl rfl (Nat.le_of_ble_eq_true rfl) rfl ?_)
      intro w I
      refine Ops.nil ?_
      refine WP.seq ?_
      refine WP.region ?_
      refine Ops.y (v := .func _ _ _) (Y.move rfl) ?_
      refine Ops.y (v := .agg #[_, _, _, _]) (Y.loadv ty_52 rfl (I.rdbox 0 rfl 0 4) rfl rfl) ?_
      refine Ops.go (O.callcv I ent rfl (hp ⟨w, h⟩ I.base_ok (Heap.le.refl _) xs[j] (List.getElem_mem hj)) rfl ?_)
      intro w I
      refine Ops.y (v := .bool _) (Y.not rfl) ?_
      refine Ops.nil ?_
      refine WP.cond rfl (fun h8 => ?_) (fun h8 => ?_)
      · have h8 : p xs[j] = false := by simpa using h8
        rw [h8] at hkt
        refine WP.seq ?_
        refine WP.region ?_
        refine Ops.y (v := .slice _ _ _) (Y.move rfl) ?_
        refine Ops.y (v := .int .i64 _) (Y.move rfl) ?_
        refine Ops.y (v := .agg #[_, _, _, _]) (Y.loadv ty_52 rfl (I.rdbox 0 rfl 0 4) rfl rfl) ?_
        refine Ops.y (v := .pointer (some ⟨_, _, none⟩)) (Y.idx Tryz.underlying26 Tryz.sizeOf52 rfl rfl (by omega) (by omega)) ?_
        refine Ops.go (O.storeE (vs := xs[j].enc) I ty_52 et_52 1 rfl rfl rfl rfl rfl rfl (by rw [flat_len Fct_len, Fct_len]; omega) ?_)
        intro w I
        refine Ops.nil ?_
        have I : Inv B h (ownSl 52 4 (.slice (some ⟨gg, 0, none⟩) m c) m ((zs.set q xs[j]).flatMap Fct.enc) :: M) w := by
          rw [← flat_overG Fct_len _ _ _ (by omega)]
          have J := I.drop
          simp only [Int.toNat_natCast, Nat.zero_add] at J
          exact J
        refine WP.region ?_
        refine Ops.y (v := .int .i64 _) (Y.move rfl) ?_
        refine Ops.y (v := .int .i64 _) (Y.addi rfl rfl ⟨by omega, by omega⟩) ?_
        refine Ops.y (v := .int .i64 _) (Y.assign rfl) ?_
        refine Ops.nil ?_
        refine WP.region ?_
        refine Ops.y (v := .int .i64 _) (Y.move rfl) ?_
        refine Ops.y (v := .int .i64 _) (Y.addi rfl rfl ⟨by omega, by omega⟩) ?_
        refine Ops.y (v := .int .i64 _) (Y.assign rfl) ?_
        refine Ops.nil ?_
        refine ⟨(j + 1, q + 1, zs.set q xs[j]), ⟨⟨rfl, rfl, rfl, rfl, trivial⟩, I, by dsimp only; omega, by simpa using hzl, by dsimp only; omega, ?_, ?_, fun i hi => ?_⟩, by dsimp only; omega⟩
        · dsimp only
          rw [hkt, ← hq2, List.take_succ_eq_append_getElem (by simp; omega), take_setG]
          simp
        · dsimp only
          rw [hkt, List.length_append, ← hq3]; rfl
        · dsimp only at hi ⊢
          rw [List.getElem?_set_ne (by omega)]
          exact hz i (by omega)
      · have h8 : p xs[j] = true := by simpa using h8
        rw [h8, if_pos rfl, List.append_nil] at hkt
        refine WP.skip ?_
        refine WP.region ?_
        refine Ops.y (v := .int .i64 _) (Y.move rfl) ?_
        refine Ops.y (v := .int .i64 _) (Y.addi rfl rfl ⟨by omega, by omega⟩) ?_
        refine Ops.y (v := .int .i64 _) (Y.assign rfl) ?_
        refine Ops.nil ?_
        exact ⟨(j + 1, q, zs), ⟨⟨rfl, rfl, rfl, rfl, trivial⟩, I.drop, by dsimp only; omega, hzl, by dsimp only; omega, by dsimp only; rw [hkt]; exact hq2, by dsimp only; rw [hkt]; exact hq3, fun i hi => hz i (by dsimp only at hi; omega)⟩, by dsimp only; omega⟩
    · have hjm : j = xs.length := by omega
      rw [hjm, List.take_length] at hq2 hq3
      refine WP.exit ?_
      exact ⟨q, ⟨rfl, rfl, trivial⟩, zs, I, hq2, hq3, by omega⟩
  rintro q e w ⟨zs, I, hq2, hq3, hq4⟩
  have I := I.cutSl (m := q) (by omega)
  rw [flat_take Fct_len, hq2] at I
  refine WP.seq ?_
  refine WP.region ?_
  refine Ops.y (v := .slice _ _ _) (Y.move rfl) ?_
  refine Ops.y (v := .int .i64 _) (Y.move rfl) ?_
  refine Ops.y (v := .slice _ _ _) (Y.cutO (l := q) (h' := m) Tryz.underlying26 Tryz.sizeOf52 rfl (.inr ⟨_, _, rfl, rfl⟩) (.inl ⟨rfl, rfl⟩) (by omega) (by omega) (by omega)) ?_
  refine Ops.go (O.clearS I Tryz.underlying26 et_52 (by simp [Value.cells, Value.oneCell']) rfl (by omega) rfl (by omega) ?_)
  intro w I
  refine Ops.nil ?_
  refine WP.seq ?_
  refine WP.region ?_
  refine Ops.y (v := .slice _ _ _) (Y.move rfl) ?_
  refine Ops.y (v := .int .i64 _) (Y.move rfl) ?_
  refine Ops.y (v := .slice _ _ _) (Y.cutO (l := 0) (h' := q) Tryz.underlying26 Tryz.sizeOf52 rfl (.inl ⟨rfl, rfl⟩) (.inr ⟨_, _, rfl, rfl⟩) (by omega) (by omega) (by omega)) ?_
  refine Ops.y (v := .slice _ _ _) (Y.assign rfl) ?_
  refine Ops.nil ?_
  refine WP.ret ?_
  repeat (first | refine thenE_ret ?_ | refine blockE_ret ?_)
  exact ⟨.inl rfl, [.slice (some ⟨gg, 0, none⟩) q c], ⟨rfl, trivial⟩, _, q, rfl, hq3, I⟩
theorem DeleteFct_v {B : Base} {h : Heap} {M : List SA} {w : World} {v : Value} {m : Nat} {xs : List Fct} (I : Inv B h (ownSl 52 4 v m (xs.flatMap Fct.enc) :: M) w) (hm : m = xs.length) (hsz : m ≤ 1000000000)
    (f : FuncId) (ent : Enters Tryz.prog f) (fs cs : List Value) (p : Fct → Bool) (hp : PredFn Tryz.prog f fs cs h Fct.val xs p) :
    Calls Tryz.prog 68 [v, .func (.func f) fs.toArray cs.toArray].toArray w
      (fun ed w' => ∃ v m', ed = .returned v ∧ m' = (keepL p xs).length ∧ Inv B h (ownSl 52 4 v m' ((keepL p xs).flatMap Fct.enc) :: M) w') := by
  obtain ⟨_, s, _, rfl, hsx, _, _⟩ := I.settleSl Fct_len hm
  obtain rfl : m = s.xs.length := by rw [hsx]; exact hm
  exact DeleteFct_ok I hm hsz f ent fs cs p hp
end Go.TF
end
section
/- What is told and put is the least above both; levels; more facts: plain. -/
namespace Go.TF
open Go

section
variable {l : List Prd} {f b : List Fct} {x : Fct}
theorem add_least (hf : FOk l f) (hb : FOk l b) (hx : factFine l x = true) (h1 : underF l f b = true) (h2 : underF l [x] b = true) : underF l (addL l f x) b = true := underF_iff.2 fun z hz => by
  have okA : FOk l (addL l f x) := addF_fok hf hx
  have hzf := okA.fine z hz
  have hlz := lkF_of_mem okA.srt hz
  rw [lkF_addL hf] at hlz
  obtain ⟨v, hv1, hv2⟩ := underF_iff.1 h2 x (List.mem_singleton_self _)
  split at hlz
  · rename_i e
    have hpz := same_pred hf.len hzf hx e
    rw [e] at hlz
    rw [e, hpz]
    refine ⟨v, hv1, ?_⟩
    injection hlz with hlz
    rw [← hlz]
    cases hu : lkF f (placeF x) with
    | none => exact hv2
    | some u =>
      obtain ⟨y, hy, ey, rfl⟩ := lkF_mem hu
      obtain ⟨v', k1, k2⟩ := underF_iff.1 h1 y hy
      rw [ey, hv1] at k1
      injection k1 with k1; subst k1
      have hyp := same_pred hf.len (hf.fine y hy) hx ey
      rw [hyp] at k2
      have hvo := hb.look hx hv1
      have hyo := fine_v (hf.fine y hy); rw [hyp] at hyo
      exact (leV_join_iff hyo (fine_v hx) hvo).2 ⟨k2, hv2⟩
  · obtain ⟨y, hy, ey, e2⟩ := lkF_mem hlz
    obtain ⟨v', k1, k2⟩ := underF_iff.1 h1 y hy
    have hyp := same_pred hf.len (hf.fine y hy) hzf ey
    rw [ey] at k1
    rw [hyp, e2] at k2
    exact ⟨v', k1, k2⟩
theorem under_put (hf : FOk l f) (hx : factFine l x = true) (h : underF l [x] f = true) : addF (predOf l x.pred).kind f x = (f, false) := by
  obtain ⟨v, h1, h2⟩ := underF_iff.1 h x (List.mem_singleton_self _)
  have hv := hf.look hx h1
  have hc : (addF (predOf l x.pred).kind f x).2 = false := by
    rw [addF_chg hf.srt, h1]
    apply decide_eq_false
    intro hh
    apply hh
    show some v = some (joinV _ v x.v)
    rw [joinV_comm hv (fine_v hx), show joinV _ x.v v = v from h2]
  exact Prod.ext (addF_same hc) hc
end
def runL (l : List Prd) (s : List Fct × Bool) (ts : List (Stp × Fct)) : List Fct × Bool := ts.foldl (fun s t => putS l s t.2) s
structure RunUp (l : List Prd) (s r : List Fct × Bool) (ts : List (Stp × Fct)) : Prop where
  fok : FOk l r.1
  up : underF l s.1 r.1 = true
  each : ∀ t ∈ ts, underF l [t.2] r.1 = true
  no : r.2 = false → s.2 = false ∧ r.1 = s.1
  yes : r.2 = true → s.2 = true ∨ r.1 ≠ s.1
theorem run_up {l : List Prd} : ∀ (ts : List (Stp × Fct)) (s : List Fct × Bool), FOk l s.1 → (∀ t ∈ ts, factFine l t.2 = true) → RunUp l s (runL l s ts) ts
  | [], s, hs, _ => ⟨hs, under_refl hs, fun t ht => by simp at ht, fun h => ⟨h, rfl⟩, fun h => .inl h⟩
  | t :: ts, s, hs, hf => by
    have hx := hf t List.mem_cons_self
    have hs' : FOk l (putS l s t.2).1 := addF_fok hs hx
    have ih := run_up ts (putS l s t.2) hs' fun u hu => hf u (List.mem_cons_of_mem _ hu)
    have hr : runL l s (t :: ts) = runL l (putS l s t.2) ts := rfl
    rw [hr]
    have u1 : underF l s.1 (putS l s t.2).1 = true := under_add hs hx
    have u2 : underF l [t.2] (putS l s t.2).1 = true := under_one hs hx
    have hch : (putS l s t.2).2 = (s.2 || decide ((putS l s t.2).1 ≠ s.1)) := by show (s.2 || (addF _ s.1 t.2).2) = _; rw [add_chg hs]; rfl
    refine ⟨ih.fok, under_trans hs hs' ih.fok u1 ih.up, fun u hu => ?_, fun h => ?_, fun h => ?_⟩
    · rcases List.mem_cons.1 hu with rfl | hu
      · exact under_trans (fok_one hs.len hs.preds hx) hs' ih.fok u2 ih.up
      · exact ih.each u hu
    · obtain ⟨h1, h2⟩ := ih.no h
      rw [hch, Bool.or_eq_false_iff, decide_eq_false_iff_not, Decidable.not_not] at h1
      exact ⟨h1.1, h2.trans h1.2⟩
    · have key : (runL l (putS l s t.2) ts).1 = s.1 → (putS l s t.2).1 = s.1 := fun e => by
        have := ih.up
        rw [e] at this
        exact under_anti hs' hs this u1
      rcases ih.yes h with h1 | h1
      · rw [hch, Bool.or_eq_true, decide_eq_true_eq] at h1
        rcases h1 with h1 | h1
        · exact .inl h1
        · exact .inr fun e => h1 (key e)
      · exact .inr fun e => h1 (e.trans (key e).symm)
theorem run_least {l : List Prd} {b : List Fct} (hb : FOk l b) : ∀ (ts : List (Stp × Fct)) (s : List Fct × Bool), FOk l s.1 → (∀ t ∈ ts, factFine l t.2 = true) → underF l s.1 b = true → (∀ t ∈ ts, underF l [t.2] b = true) → underF l (runL l s ts).1 b = true
  | [], s, _, _, h, _ => h
  | t :: ts, s, hs, hf, h, ht => by
    have hx := hf t List.mem_cons_self
    exact run_least hb ts (putS l s t.2) (addF_fok hs hx) (fun u hu => hf u (List.mem_cons_of_mem _ hu)) (add_least hs hb hx h (ht t List.mem_cons_self)) fun u hu => ht u (List.mem_cons_of_mem _ hu)
theorem run_same {l : List Prd} {f : List Fct} (hf : FOk l f) : ∀ (ts : List (Stp × Fct)), (∀ t ∈ ts, factFine l t.2 = true) → (∀ t ∈ ts, underF l [t.2] f = true) → runL l (f, false) ts = (f, false)
  | [], _, _ => rfl
  | t :: ts, h1, h2 => by
    have : putS l (f, false) t.2 = (f, false) := by
      unfold putS
      rw [under_put hf (h1 t List.mem_cons_self) (h2 t List.mem_cons_self)]
      rfl
    show runL l (putS l (f, false) t.2) ts = _
    rw [this]
    exact run_same hf ts (fun u hu => h1 u (List.mem_cons_of_mem _ hu)) fun u hu => h2 u (List.mem_cons_of_mem _ hu)
theorem turn_run (l : List Prd) (f : List Fct) (ts : List (Stp × Fct)) : turnL l f ts = runL l (f, false) ts := rfl
section
variable {l : List Prd} {f : List Fct} {ts : List (Stp × Fct)} (hf : FOk l f) (ht : ∀ t ∈ ts, factFine l t.2 = true)
include hf ht
theorem turn_chg : (turnL l f ts).2 = decide ((turnL l f ts).1 ≠ f) := by
  have r := run_up ts (f, false) hf ht
  rw [turn_run]
  cases h : (runL l (f, false) ts).2
  · exact (decide_eq_false (fun e => e (r.no h).2)).symm
  · rcases r.yes h with h1 | h1
    · cases h1
    · exact (decide_eq_true h1).symm
theorem turn_above : underF l f (turnL l f ts).1 = true := (run_up ts (f, false) hf ht).up
theorem turn_no : (turnL l f ts).2 = false ↔ ∀ t ∈ ts, underF l [t.2] f = true := by
  have r := run_up ts (f, false) hf ht
  constructor
  · intro h t htm
    have := r.each t htm
    rwa [(r.no h).2] at this
  · intro h
    rw [turn_run, run_same hf ts ht h]
end
/-! ### Levels -/
end Go.TF
end
section
/- The model: rounds of each stratum until none changes anything: plain. -/
namespace Go.TF
open Go

/-! ### How often facts can be raised -/
def univ : List Fct := (List.range 5).flatMap fun (p : Nat) => (List.range 5).flatMap fun (a : Nat) => (List.range 5).flatMap fun (b : Nat) => (List.range 16).map fun (v : Nat) => (⟨(p : Int), (a : Int), (b : Int), (v : Int)⟩ : Fct)
theorem univ_len : univ.length = 2000 := by decide +kernel
def potF (l : List Prd) (f : List Fct) : Nat := univ.countP fun x => factFine l x && underF l [x] f
theorem potF_le (l : List Prd) (f : List Fct) : potF l f ≤ 2000 := by
  have : potF l f ≤ univ.length := List.countP_le_length
  rwa [univ_len] at this
theorem mem_univ {l : List Prd} (h5 : l.length ≤ 5) {x : Fct} (hx : factFine l x = true) : x ∈ univ := by
  obtain ⟨h1, h2, h3, _, _, hv⟩ := fine_iff.1 hx
  have h6 := vOk_iff.1 hv
  obtain ⟨p, a, b, v⟩ := x
  dsimp only at h1 h2 h3 h6
  simp only [univ, List.mem_flatMap, List.mem_map, List.mem_range]
  exact ⟨p.toNat, by omega, a.toNat, by omega, b.toNat, by omega, v.toNat, by omega, by simp only [Fct.mk.injEq]; omega⟩
theorem countP_lt2 {α : Type} {p q : α → Bool} : ∀ {l : List α}, (∀ x ∈ l, p x = true → q x = true) → (∃ x ∈ l, p x = false ∧ q x = true) → l.countP p < l.countP q
  | [], _, ⟨x, hx, _⟩ => by simp at hx
  | y :: l, h, ⟨x, hx, h1, h2⟩ => by
    have hl : l.countP p ≤ l.countP q := List.countP_mono_left fun z hz => h z (List.mem_cons_of_mem _ hz)
    rw [List.countP_cons, List.countP_cons]
    rcases List.mem_cons.1 hx with rfl | hx
    · simp only [h1, h2, Bool.false_eq_true, if_false, if_true]; omega
    · have := countP_lt2 (fun z hz => h z (List.mem_cons_of_mem _ hz)) ⟨x, hx, h1, h2⟩
      have hy := h y List.mem_cons_self
      cases hp : p y
      · simp only [Bool.false_eq_true, if_false]; split <;> omega
      · simp only [hy hp, if_true]; omega
theorem under_sing {l : List Prd} {f g : List Fct} : underF l f g = true ↔ ∀ y ∈ f, underF l [y] g = true := by
  rw [underF_iff]
  constructor
  · intro h y hy
    rw [underF_iff]
    intro z hz
    rw [List.mem_singleton.1 hz]
    exact h y hy
  · intro h y hy
    exact underF_iff.1 (h y hy) y (List.mem_singleton_self _)
theorem potF_lt {l : List Prd} {f g : List Fct} (okf : FOk l f) (okg : FOk l g) (hu : underF l f g = true) (hne : g ≠ f) : potF l f < potF l g := by
  refine countP_lt2 (fun x _ hx => ?_) ?_
  · rw [Bool.and_eq_true] at hx ⊢
    exact ⟨hx.1, under_trans (fok_one okf.len okf.preds hx.1) okf okg hx.2 hu⟩
  · by_cases h : ∀ y ∈ g, underF l [y] f = true
    · exact absurd (under_anti okg okf (under_sing.2 h) hu) hne
    · rw [Classical.not_forall] at h
      obtain ⟨y, h⟩ := h
      rw [Classical.not_imp] at h
      obtain ⟨hy, hn⟩ := h
      have hyf := okg.fine y hy
      exact ⟨y, mem_univ okg.len hyf, by rw [hyf, Bool.true_and]; simpa using hn, by rw [hyf, Bool.true_and]; exact under_sing.1 (under_refl okg) y hy⟩
/-! ### Until nothing is changed -/
inductive Clo (T : List Fct → List Fct × Bool) : List Fct → List Fct → Nat → Prop
  | stop {f : List Fct} (h : (T f).2 = false) : Clo T f f 0
  | step {f r : List Fct} {n : Nat} (h : (T f).2 = true) (c : Clo T (T f).1 r n) : Clo T f r (n + 1)
theorem Clo.uniq {T : List Fct → List Fct × Bool} {f r : List Fct} {n : Nat} (h : Clo T f r n) : ∀ {r' : List Fct} {n' : Nat}, Clo T f r' n' → r' = r ∧ n' = n := by
  induction h with
  | stop h =>
    intro r' n' h'
    cases h' with
    | stop _ => exact ⟨rfl, rfl⟩
    | step h2 _ => rw [h] at h2; cases h2
  | step h c ih =>
    intro r' n' h'
    cases h' with
    | stop h2 => rw [h] at h2; cases h2
    | step _ c' => obtain ⟨rfl, rfl⟩ := ih c'; exact ⟨rfl, rfl⟩
theorem Clo.end_ {T : List Fct → List Fct × Bool} {f r : List Fct} {n : Nat} (h : Clo T f r n) : (T r).2 = false := by
  induction h with
  | stop h => exact h
  | step _ _ ih => exact ih
/-- What holds ahead of a round holds behind all of them. -/
theorem Clo.inv {T : List Fct → List Fct × Bool} {J : List Fct → Prop} {f r : List Fct} {n : Nat} (h : Clo T f r n) (j0 : J f) (hs : ∀ g, J g → (T g).2 = true → J (T g).1) : J r := by
  induction h with
  | stop _ => exact j0
  | step h _ ih => exact ih (hs _ j0 h)
def CloB (T : List Fct → List Fct × Bool) (f0 : List Fct) (k : Nat) (f : List Fct) : Prop := ∀ r n, Clo T f r n → Clo T f0 r (k + n)
theorem CloB.zero {T : List Fct → List Fct × Bool} {f : List Fct} : CloB T f 0 f := fun r n h => by rw [Nat.zero_add]; exact h
theorem CloB.next {T : List Fct → List Fct × Bool} {f0 f : List Fct} {k : Nat} (h : CloB T f0 k f) (h2 : (T f).2 = true) : CloB T f0 (k + 1) (T f).1 := fun r n c => by
  have := h r (n + 1) (.step h2 c)
  rwa [show k + (n + 1) = k + 1 + n by omega] at this
theorem CloB.done {T : List Fct → List Fct × Bool} {f0 f : List Fct} {k : Nat} (h : CloB T f0 k f) (h2 : (T f).2 = false) : Clo T f0 f k := h f 0 (.stop h2)
def cloF (T : List Fct → List Fct × Bool) : Nat → List Fct → Option (List Fct × Nat)
  | 0, _ => none
  | k + 1, f => if (T f).2 then (cloF T k (T f).1).map fun r => (r.1, r.2 + 1) else some (f, 0)
/-! ### One stratum behind the other -/
def turnT (p : Prg) (M : List Int) (st : Int) (f : List Fct) : List Fct × Bool := turnL p.preds.xs f (toldL p.preds.xs f p.rules.xs (ofQ p M st))
def ModK (p : Prg) (M : List Int) : Nat → List Fct → List Int → Prop
  | 0, f, rs => f = [] ∧ rs = []
  | k + 1, f, rs => ∃ f0 rs0 n, ModK p M k f0 rs0 ∧ Clo (turnT p M k) f0 f n ∧ rs = rs0 ++ [(n : Int)]
theorem ModK.uniq {p : Prg} {M : List Int} : ∀ {k : Nat} {f f' : List Fct} {rs rs' : List Int}, ModK p M k f rs → ModK p M k f' rs' → f' = f ∧ rs' = rs
  | 0, _, _, _, _, ⟨h1, h2⟩, ⟨h3, h4⟩ => ⟨h3.trans h1.symm, h4.trans h2.symm⟩
  | k + 1, _, _, _, _, ⟨f0, r0, n, a, b, c⟩, ⟨f0', r0', n', a', b', c'⟩ => by
    obtain ⟨rfl, rfl⟩ := ModK.uniq a a'
    obtain ⟨rfl, rfl⟩ := b.uniq b'
    exact ⟨rfl, c'.trans c.symm⟩
theorem ModK.len {p : Prg} {M : List Int} : ∀ {k : Nat} {f : List Fct} {rs : List Int}, ModK p M k f rs → rs.length = k
  | 0, _, _, ⟨_, h⟩ => by rw [h]; rfl
  | k + 1, _, _, ⟨_, _, _, a, _, c⟩ => by rw [c, List.length_append, ModK.len a]; rfl
def mostL (l : List Int) : Int := l.foldl max (-1)
theorem foldl_max (l : List Int) : ∀ (a : Int), l.foldl max a = max a (l.foldl max a) ∧ (∀ x ∈ l, x ≤ l.foldl max a) ∧ (l.foldl max a = a ∨ l.foldl max a ∈ l) := by
  induction l with
  | nil => intro a; exact ⟨by simp, fun x hx => by simp at hx, .inl rfl⟩
  | cons y l ih =>
    intro a
    obtain ⟨h1, h2, h3⟩ := ih (max a y)
    rw [List.foldl_cons]
    refine ⟨by omega, fun x hx => ?_, ?_⟩
    · rcases List.mem_cons.1 hx with rfl | hx
      · omega
      · exact h2 x hx
    · rcases h3 with h3 | h3
      · rcases Int.le_total a y with h | h
        · right; rw [h3, Int.max_eq_right h]; exact List.mem_cons_self
        · left; rw [h3, Int.max_eq_left h]
      · exact .inr (List.mem_cons_of_mem _ h3)
theorem mostL_ge (l : List Int) : -1 ≤ mostL l := by have := (foldl_max l (-1)).1; unfold mostL; omega
theorem mostL_mem {l : List Int} {x : Int} (h : x ∈ l) : x ≤ mostL l := (foldl_max l (-1)).2.1 x h
theorem mostL_of (l : List Int) : mostL l = -1 ∨ mostL l ∈ l := (foldl_max l (-1)).2.2
abbrev numS (M : List Int) : Nat := (mostL M + 1).toNat
end Go.TF
end
section
/- Steps: all of a rule's steps, each once. -/
namespace Go.TF
open Go Go.RowKit Go.Proofs
set_option maxRecDepth 20000

theorem fplace {f : List Fct} (hp : ∀ y ∈ f, PF y) (hs : SrtF f) : ∀ i, (hi : i < f.length) → (i : Int) ≤ placeF f[i]
  | 0, hi => (hp _ (List.getElem_mem hi)).place.1
  | i + 1, hi => by
    have h1 := fplace hp hs i (by omega)
    have h2 := hs.get (i := i) (j := i + 1) (by omega) hi
    omega
theorem FOk.le125 {l : List Prd} {f : List Fct} (ok : FOk l f) : f.length ≤ 125 := by
  rcases Nat.lt_or_ge 125 f.length with h | h
  · have h1 := fplace ok.pf ok.srt 125 h
    have h2 := (ok.pf _ (List.getElem_mem h)).place.2
    omega
  · exact h
theorem lay_small {l : List Prd} {f : List Fct} {r : Rul} (ok : ROk l r) (okf : FOk l f) (b : Vrs) : (layF f (poss r.body.xs) b).length ≤ 1000000 * 2 := by
  have h1 := layF_len f (poss r.body.xs) b
  have h2 := poss_le r.body.xs
  have h3 : f.length ^ (poss r.body.xs).length ≤ 125 ^ (poss r.body.xs).length := Nat.pow_le_pow_left okf.le125 _
  have h4 : 125 ^ (poss r.body.xs).length ≤ 125 ^ 3 := Nat.pow_le_pow_right (by decide) (by have := ok.len; omega)
  have h5 : (125 : Nat) ^ 3 = 1953125 := by decide
  omega
theorem cpt_srt {n : Int} : ∀ (r : List Stp) (p : Stp), SrtS (p :: r) → (∀ x ∈ p :: r, x.rule = n) → (p :: cpt p r).Pairwise ltS ∧ ∀ x, x ∈ p :: cpt p r ↔ x ∈ p :: r
  | [], p, _, _ => ⟨by simp [cpt], fun x => by simp [cpt]⟩
  | y :: r, p, hs, hr => by
    obtain ⟨h1, h2⟩ := List.pairwise_cons.1 hs
    rw [cpt]
    split
    · rename_i e
      subst e
      obtain ⟨k1, k2⟩ := cpt_srt r y h2 (fun x hx => hr x (List.mem_cons_of_mem _ hx))
      refine ⟨k1, fun x => (k2 x).trans ?_⟩
      simp
    · rename_i e
      obtain ⟨k1, k2⟩ := cpt_srt r y h2 (fun x hx => hr x (List.mem_cons_of_mem _ hx))
      have hlt : ltS p y := by
        rcases ltV_tri p.vars y.vars with h | h | h
        · exact h
        · exfalso
          apply e
          have e1 := hr p List.mem_cons_self
          have e2 := hr y (List.mem_cons_of_mem _ List.mem_cons_self)
          cases p; cases y
          dsimp only at h e1 e2
          rw [h, e1, e2]
        · exact absurd h (h1 y List.mem_cons_self)
      refine ⟨List.pairwise_cons.2 ⟨fun z hz => ?_, k1⟩, fun x => ?_⟩
      · rcases List.mem_cons.1 hz with rfl | hz
        · exact hlt
        · exact ltV_trans hlt ((List.pairwise_cons.1 k1).1 z hz)
      · rw [List.mem_cons, k2, List.mem_cons (a := x) (b := p)]
theorem compact_srt {n : Int} {ys : List Stp} (hs : SrtS ys) (hr : ∀ x ∈ ys, x.rule = n) : (compactS ys).Pairwise ltS ∧ ∀ x, x ∈ compactS ys ↔ x ∈ ys := by
  cases ys with
  | nil => exact ⟨List.Pairwise.nil, fun _ => Iff.rfl⟩
  | cons p r => exact cpt_srt r p hs hr
theorem compact_steps {l : List Prd} {f : List Fct} {n : Int} {r : Rul} (ok : ROk l r) (okf : FOk l f) {ys : List Stp} (hp : ys.Perm (outL f n r (layF f (poss r.body.xs) b0))) (hs : SrtS ys) : compactS ys = stepsF f n r := by
  have hr : ∀ x ∈ ys, x.rule = n := fun x hx => by
    have := hp.mem_iff.1 hx
    unfold outL at this
    obtain ⟨b, _, rfl⟩ := List.mem_map.1 this
    rfl
  obtain ⟨h1, h2⟩ := compact_srt hs hr
  exact steps_eq ok okf h1 fun x => (h2 x).trans hp.mem_iff
theorem b0_bok (l : List Atm) : BOk l b0 := fun _ hv => .inl (b0_at hv)
def StpsR (xs : List Stp) : Sp := fun v h => ∃ s : Sl Stp, v = s.val ∧ s.xs = xs ∧ Stps s h
set_option maxHeartbeats 4000000 in
theorem Steps_ok (B : Base) (hB : B.ok) (p : Prg) (hp : p.In B.h) (f : Sl Fct) (hf : Fcts f B.h) (n : Int) (r : Rul) (h0 : 0 ≤ n) (hr : p.rules.xs[n.toNat]? = some r) (ok : ROk p.preds.xs r) (okf : FOk p.preds.xs f.xs) :
    Fn Tryz.prog 131 [p.val, f.val, .int .i64 n] B (StpsR (stepsF f.xs n r)) := by
  have Er := hp.rules.is.el.el hr
  have ir := hp.rules.each _ (List.mem_of_getElem? hr)
  have hlb := lay_small ok okf b0
  refine Fn.of Tryz.func131 rfl Tryz.ntmps131 (by kernel_rfl) (by simp) ?_
  intro e
  have I := Inv.start hB
  refine WP.seq ?_
  refine WP.region ?_
  refine Ops.go (O.box (v := .agg #[_, _]) I rfl rfl ?_)
  intro b3 w I
  refine Ops.go (O.box (v := .slice _ _ _) I rfl rfl ?_)
  intro b4 w I
  refine Ops.go (O.box (v := .int .i64 _) I rfl rfl ?_)
  intro b5 w I
  refine Ops.y (v := .slice _ _ _) (Y.assign rfl) ?_
  refine Ops.nil ?_
  refine WP.seq ?_
  refine WP.region ?_
  refine Ops.y (v := .pointer (some ⟨_, _, none⟩)) (Y.fa fa_25_1 rfl) ?_
  refine Ops.y (v := .slice _ _ _) (Y.loadv ty_23 rfl (I.rdbox 2 rfl 1 1) rfl rfl) ?_
  refine Ops.y (v := .int .i64 _) (Y.loadv ty_3 rfl (I.rdbox 0 rfl 0 1) rfl rfl) ?_
  refine Ops.y (v := .pointer (some ⟨_, _, none⟩)) (Y.idxEl Er Tryz.underlying23 Tryz.sizeOf68 rfl rfl h0 rfl) ?_
  refine Ops.y (v := .agg #[_, _, _, _, _]) (Y.loadv ty_68 rfl (I.rd (Er.rd.part 0 5)) rfl rfl) ?_
  refine Ops.go (O.callM I Tryz.call165 (Atoms_ok _ I.base_ok r ir.body ok.len) rfl ?_)
  rintro _ h1 _ w I le1 ⟨u1, u2, rfl, rfl⟩
  try simp only [List.cons_append, List.nil_append] at I
  refine Ops.y (v := .tuple #[_, _]) (Y.move rfl) ?_
  refine Ops.y (v := u1) (Y.extract rfl rfl) ?_
  refine Ops.y (v := u2) (Y.extract rfl rfl) ?_
  refine Ops.y (v := u1) (Y.assign rfl) ?_
  refine Ops.y (v := u2) (Y.assign rfl) ?_
  refine Ops.nil ?_
  have I := I.drop
  obtain ⟨h2, s, le2, rfl, hsx, os, I⟩ := I.settleO rfl
  have hA : AtS s h2 := by
    refine ⟨⟨os.in (fun _ => rfl), ?_⟩, ?_, fun a ha => ?_⟩
    · rw [hsx]; have := poss_le r.body.xs; have := ok.len; omega
    · rcases os with rfl | ⟨_, _, _, _, _, q, _⟩
      · exact Nat.le_refl _
      · exact q
    · rw [hsx] at ha
      obtain ⟨y, hy, _, rfl⟩ := mem_poss.1 ha
      exact Atm.In.le (ir.body.each y hy) (le1.trans le2)
  obtain ⟨h5, le5, k5, I⟩ := I.settleBox
  obtain ⟨h4, le4, k4, I⟩ := I.settleBox
  obtain ⟨h3, le3, k3, I⟩ := I.settleBox
  refine WP.seq ?_
  refine WP.region ?_
  refine Ops.go (O.alloc I Tryz.zeroValue36 rfl ?_)
  intro b9 w I
  refine Ops.nil ?_
  refine WP.seq ?_
  refine WP.region ?_
  refine Ops.go (O.alloc I Tryz.zeroValue192 rfl ?_)
  intro b10 w I
  refine Ops.nil ?_
  refine WP.seq ?_
  refine WP.region ?_
  refine Ops.y (v := .func _ _ _) (Y.mkfunc rfl rfl) ?_
  refine Ops.go (O.store (v := .func _ _ _) I ty_192 0 rfl rfl rfl rfl rfl rfl (Nat.le_of_ble_eq_true rfl) rfl ?_)
  intro w I
  refine Ops.nil ?_
  obtain ⟨h10, le10, k10, I⟩ := I.settleBox
  have gl : B.h.le h10 := ((((le1.trans le2).trans le5).trans le4).trans le3).trans le10
  have E : LayE h10 p f n r b5 b3 b4 b9 b10 := ⟨k5.le ((le4.trans le3).trans le10), k3.le le10, k4.le (le3.trans le10), k10, hp.le gl, hf.le gl⟩
  have hA := hA.le (((le5.trans le4).trans le3).trans le10)
  have I : Inv B h10 (LayM b9 none 0 0 []) w := (I.nilSl 82 4).front 1 rfl
  refine WP.seq ?_
  refine WP.region ?_
  refine Ops.y (v := .func _ _ _) (Y.loadv ty_192 rfl (I.rd (E.kl.rd.part 0 1)) rfl rfl) ?_
  refine Ops.y (v := .agg #[.int .i64 _, .int .i64 _, .int .i64 _]) (Y.builda Tryz.underlying193 Tryz.zeroValue193 Tryz.sizeOf3 rfl rfl) ?_
  refine Ops.y (v := .slice _ _ _) (Y.move rfl) ?_
  refine Ops.go (O.callcs Tryz.call168 (fs := []) (cs := [.pointer (some ⟨b5, 0, none⟩), .pointer (some ⟨b3, 0, none⟩), .pointer (some ⟨b4, 0, none⟩), .pointer (some ⟨b9, 0, none⟩), .pointer (some ⟨b10, 0, none⟩)]) rfl (lay_ok p f n r b5 b3 b4 b9 b10 h0 hr ok okf (poss r.body.xs) s b0 none 0 0 [] hsx I rfl E hA (fun x hx => hx) (b0_bok _) (by omega)) rfl ?_)
  rintro ed w ⟨rfl, h6, a6, c6, m6, le6, I, hm6⟩
  refine ⟨_, rfl, ?_⟩
  refine Ops.nil ?_
  have hol := outL_le f.xs n r (layF f.xs (poss r.body.xs) b0)
  rw [List.nil_append] at I hm6
  refine WP.seq ?_
  refine WP.region ?_
  refine Ops.y (v := .slice _ _ _) (Y.loadv ty_36 rfl (I.rdbox 0 rfl 0 1) rfl rfl) ?_
  refine Ops.go (O.calls Tryz.call170 (sort_ok (I.front 1 rfl) hm6 (by omega)) rfl ?_)
  rintro ed w ⟨rfl, ys, hperm, hsrt, I⟩
  refine ⟨_, rfl, ?_⟩
  refine Ops.nil ?_
  have hml : m6 = ys.length := by rw [hm6, hperm.length_eq]
  have I := (I.front 1 rfl)
  refine WP.seq ?_
  refine WP.region ?_
  refine Ops.y (v := .slice _ _ _) (Y.loadv ty_36 rfl (I.rdbox 0 rfl 0 1) rfl rfl) ?_
  refine Ops.go (O.calls Tryz.call173 (Compact_ok (I.front 1 rfl) hml (by omega)) rfl ?_)
  rintro ed w ⟨a7, c7, m7, rfl, hm7, I⟩
  refine ⟨_, rfl, ?_⟩
  refine Ops.y (v := .slice _ _ _) (Y.assign rfl) ?_
  refine Ops.nil ?_
  rw [compact_steps ok okf hperm hsrt] at I hm7
  obtain ⟨h8, s8, le8, e8, hx8, in8, I⟩ := I.settleSl (fun _ => rfl) hm7
  have hsm : s8.xs.length ≤ 140737488355328 := by rw [hx8, ← hm7]; have := compact_len ys; rw [compact_steps ok okf hperm hsrt, ← hm7, ← hml] at this; omega
  refine WP.ret ?_
  repeat (first | refine thenE_ret ?_ | refine blockE_ret ?_)
  exact retQ.mk (vs := [.slice _ _ _]) rfl ⟨rfl, trivial⟩ I.ext_of (⟨s8, by simp only [tup]; exact e8.symm, hx8, in8, hsm⟩)
end Go.TF
end
section
/- uses: the iterator; its contract. -/
namespace Go.TF
open Go Go.RowKit Go.Proofs
set_option maxRecDepth 20000

/-- A program as it lies in a box that is never written again. -/
def PBox (h : Heap) (b : Nat) (p : Prg) : Prop := h b = some (.cells [p.preds.val, p.rules.val].toArray 25 (0, 0))
theorem uses_ok (B : Base) (hB : B.ok) (p : Prg) : Fn Tryz.prog 151 [p.val] B (fun v h' => ∃ b, v = .func (.func 179) #[] #[.pointer (some ⟨b, 0, none⟩)] ∧ PBox h' b p) := by
  refine Fn.of Tryz.func151 rfl Tryz.ntmps151 (by kernel_rfl) (by simp) ?_
  intro e
  have I := Inv.start hB
  refine WP.seq ?_
  refine WP.region ?_
  refine Ops.go (O.box (v := .agg #[_, _]) I rfl rfl ?_)
  intro b1 w I
  refine Ops.y (v := .nilFunc) (Y.assign rfl) ?_
  refine Ops.nil ?_
  refine WP.seq ?_
  refine WP.region ?_
  refine Ops.y (v := .func _ _ _) (Y.mkfunc rfl rfl) ?_
  refine Ops.y (v := .func _ _ _) (Y.assign rfl) ?_
  refine Ops.nil ?_
  have hb0 := I.at 0 rfl
  obtain ⟨h1, le1, hb, I⟩ := I.settle
  refine WP.ret ?_
  repeat (first | refine thenE_ret ?_ | refine blockE_ret ?_)
  exact retQ.mk (vs := [.func _ _ _]) rfl ⟨rfl, trivial⟩ I.ext_of (⟨b1, rfl, (hb b1 (by simp [box])).trans hb0⟩)
theorem usesL_take {rs : List Rul} {n : Nat} (hn : n < rs.length) : usesL (rs.take (n + 1)) = usesL (rs.take n) ++ rs[n].body.xs.map fun x => (rs[n].head.pred, x) := by
  rw [List.take_succ_eq_append_getElem hn]
  unfold usesL
  rw [List.flatMap_append]
  simp only [List.flatMap_cons, List.flatMap_nil, List.append_nil]
theorem usesL_split (rs : List Rul) (n : Nat) : usesL rs = usesL (rs.take n) ++ usesL (rs.drop n) := by
  have := congrArg usesL (List.take_append_drop n rs)
  unfold usesL at this ⊢
  rw [List.flatMap_append] at this
  exact this.symm
theorem usesL_get {rs : List Rul} {n : Nat} (hn : n < rs.length) {k : Nat} (hk : k < rs[n].body.xs.length) : (usesL rs)[(usesL (rs.take n)).length + k]? = some (rs[n].head.pred, rs[n].body.xs[k]) := by
  rw [usesL_split rs (n + 1), usesL_take hn, List.append_assoc, List.getElem?_append_right (by omega), List.getElem?_append_left (by simp; omega)]
  simp [hk]
def cEnc (c : Int × Ltl) : List Value := [.int .i64 c.1, c.2.val]
set_option maxHeartbeats 2000000 in
theorem uses1_iter (p : Prg) (bp : Nat) (h : Heap) (hb : PBox h bp p) (hr : Ruls p.rules h) : Iter Tryz.prog 179 [.pointer (some ⟨bp, 0, none⟩)] cEnc (usesL p.rules.xs) h := by
  intro l J Jx hg W hle j0 hok hext hround
  have hsm := hr.is.small
  refine Calls.ofWP (args := [.func (.yield l) #[] #[], .pointer (some ⟨bp, 0, none⟩)]) Tryz.func179 rfl Tryz.ntmps179 (by kernel_rfl) (by simp) ?_
  intro e
  have I := Inv.start (hok _ _ _ j0)
  refine WP.seq ?_
  refine WP.region ?_
  refine Ops.y (v := .pointer (some ⟨_, _, none⟩)) (Y.fa fa_25_1 rfl) ?_
  refine Ops.y (v := .slice _ _ _) (Y.loadv ty_23 rfl (I.rd ((rdHb hb 1 1).le hle)) rfl rfl) ?_
  refine Ops.y (v := .int .i64 _) (Y.lens Tryz.underlying23 rfl) ?_
  refine Ops.y (v := .int .i64 _) (Y.move rfl) ?_
  refine Ops.nil ?_
  refine WP.block ?_
  refine WP.loopE (σ := Nat) (fun n => [(0, .func (.yield l) #[] #[]), (1, .pointer (some ⟨bp, 0, none⟩)), (8, p.rules.val), (9, .int .i64 p.rules.xs.length), (10, .int .i64 n)])
    (fun n w => n ≤ p.rules.xs.length ∧ ∃ h1, hg.le h1 ∧ J h1 (usesL (p.rules.xs.take n)).length w) (fun n => p.rules.xs.length - n)
    ⟨0, ⟨rfl, rfl, rfl, rfl, rfl, trivial⟩, Nat.zero_le _, hg, Heap.le.refl _, j0⟩ ?_
  rintro n e w ⟨hn, h1, gl1, j1⟩
  have I := Inv.start (hok _ _ _ j1)
  refine WP.seq ?_
  refine WP.region ?_
  refine Ops.y (v := .bool (decide _)) (Y.lti rfl rfl) ?_
  refine Ops.nil ?_
  refine WP.seq ?_
  refine WP.cond_dec rfl (fun hc => ?_) (fun hc => ?_)
  · have hn' : n < p.rules.xs.length := by omega
    have E1 := (hr.is.le (hle.trans gl1)).at hn'
    have hbd := (hr.each _ (List.getElem_mem hn')).body.le (hle.trans gl1)
    have hbs := hbd.is.small
    refine WP.skip ?_
    refine WP.seq ?_
    refine WP.block ?_
    refine WP.seq ?_
    refine WP.region ?_
    refine Ops.y (v := .pointer (some ⟨_, _, none⟩)) (Y.idxEl E1 Tryz.underlying23 Tryz.sizeOf68 rfl rfl (Int.natCast_nonneg _) rfl) ?_
    refine Ops.y (v := .agg #[_, _, _, _, _]) (Y.loadv ty_68 rfl (I.rd (E1.rd.part 0 5)) rfl rfl) ?_
    refine Ops.go (O.alloc I Tryz.zeroValue68 rfl ?_)
    intro b4 w I
    refine Ops.go (O.store (v := .agg #[_, _, _, _, _]) I ty_68 0 rfl rfl rfl rfl rfl rfl (Nat.le_of_ble_eq_true rfl) rfl ?_)
    intro w I
    refine Ops.nil ?_
    refine WP.seq ?_
    refine WP.region ?_
    refine Ops.y (v := .pointer (some ⟨_, _, none⟩)) (Y.fa fa_68_3 rfl) ?_
    refine Ops.y (v := .slice _ _ _) (Y.loadv ty_66 rfl (I.rdbox 0 rfl 4 1) rfl rfl) ?_
    refine Ops.y (v := .int .i64 _) (Y.lens Tryz.underlying66 rfl) ?_
    refine Ops.y (v := .int .i64 _) (Y.move rfl) ?_
    refine Ops.nil ?_
    have hb4 := I.at 0 rfl
    obtain ⟨h2, le2, hh4, I⟩ := I.settle
    have hb4 := (hh4 b4 (by simp [box])).trans hb4
    refine WP.block ?_
    refine WP.loopE (σ := Nat) (fun k => [(0, .func (.yield l) #[] #[]), (1, .pointer (some ⟨bp, 0, none⟩)), (8, p.rules.val), (9, .int .i64 p.rules.xs.length), (10, .int .i64 n), (4, .pointer (some ⟨b4, 0, none⟩)), (15, p.rules.xs[n].body.val), (16, .int .i64 p.rules.xs[n].body.xs.length), (17, .int .i64 k)])
      (fun k w => k ≤ p.rules.xs[n].body.xs.length ∧ ∃ h3, h2.le h3 ∧ J h3 ((usesL (p.rules.xs.take n)).length + k) w) (fun k => p.rules.xs[n].body.xs.length - k)
      ⟨0, ⟨rfl, rfl, rfl, rfl, rfl, rfl, rfl, rfl, rfl, trivial⟩, Nat.zero_le _, h2, Heap.le.refl _, hext _ _ _ _ _ j1 I⟩ ?_
    rintro k e w ⟨hk, h3, gl3, j3⟩
    have I := Inv.start (hok _ _ _ j3)
    refine WP.seq ?_
    refine WP.region ?_
    refine Ops.y (v := .bool (decide _)) (Y.lti rfl rfl) ?_
    refine Ops.nil ?_
    refine WP.seq ?_
    refine WP.cond_dec rfl (fun hd => ?_) (fun hd => ?_)
    · have hk' : k < p.rules.xs[n].body.xs.length := by omega
      have E2 := (hbd.is.le (le2.trans gl3)).at hk'
      refine WP.skip ?_
      refine WP.seq ?_
      refine WP.block ?_
      refine WP.seq ?_
      refine WP.region ?_
      refine Ops.y (v := .pointer (some ⟨_, _, none⟩)) (Y.idxEl E2 Tryz.underlying66 Tryz.sizeOf131 rfl rfl (Int.natCast_nonneg _) rfl) ?_
      refine Ops.y (v := .agg #[_, _, _]) (Y.loadv ty_131 rfl (I.rd (E2.rd.part 0 3)) rfl rfl) ?_
      refine Ops.go (O.alloc I Tryz.zeroValue131 rfl ?_)
      intro b6 w I
      refine Ops.go (O.store (v := .agg #[_, _, _]) I ty_131 0 rfl rfl rfl rfl rfl rfl (Nat.le_of_ble_eq_true rfl) rfl ?_)
      intro w I
      refine Ops.nil ?_
      refine WP.seq ?_
      refine WP.regionX (by kernel_rfl) ?_
      refine OpsX.y (v := .func _ _ _) (Y.move rfl) ?_
      refine OpsX.y (v := .pointer (some ⟨_, _, none⟩)) (Y.fa0 fa_68_0 rfl) ?_
      refine OpsX.y (v := .pointer (some ⟨_, _, none⟩)) (Y.fa0 fa_65_0 rfl) ?_
      refine OpsX.y (v := .int .i64 _) (Y.loadv ty_3 rfl (I.rd ((rdHb hb4 0 1).le gl3)) rfl rfl) ?_
      refine OpsX.y (v := .agg #[_, _, _]) (Y.loadv ty_131 rfl (I.rdbox 0 rfl 0 3) rfl rfl) ?_
      refine OpsX.yield rfl rfl (hround h3 _ _ _ (gl1.trans (le2.trans gl3)) (usesL_get hn' hk') (hext _ _ _ _ _ j3 I.ext_of)) ?_
      rintro ed w (⟨rfl, h4, gl4, j4⟩ | ⟨rfl, jx⟩)
      · refine ⟨_, rfl, ?_⟩
        refine OpsX.y (v := .bool _) (Y.not rfl) ?_
        refine OpsX.nil ?_
        refine WP.cond_f rfl ?_
        refine WP.skip ?_
        refine WP.region ?_
        refine Ops.y (v := .int .i64 _) (Y.addi rfl rfl ⟨by omega, by omega⟩) ?_
        refine Ops.y (v := .int .i64 _) (Y.move rfl) ?_
        refine Ops.nil ?_
        exact ⟨k + 1, ⟨⟨rfl, rfl, rfl, rfl, rfl, rfl, rfl, rfl, rfl, trivial⟩, by omega, h4, gl3.trans gl4, j4⟩, by omega⟩
      · refine ⟨_, rfl, ?_⟩
        refine OpsX.y (v := .bool _) (Y.not rfl) ?_
        refine OpsX.nil ?_
        refine WP.cond_t rfl ?_
        refine WP.ret ?_
        repeat (first | refine thenE_ret ?_ | refine blockE_ret ?_)
        exact ⟨.inl rfl, [], trivial, ⟨_, rfl⟩, .inr jx⟩
    refine WP.exit ?_
    refine WP.region ?_
    refine Ops.y (v := .int .i64 _) (Y.addi rfl rfl ⟨by omega, by omega⟩) ?_
    refine Ops.y (v := .int .i64 _) (Y.move rfl) ?_
    refine Ops.nil ?_
    have hk2 : k = p.rules.xs[n].body.xs.length := by omega
    exact ⟨n + 1, ⟨⟨rfl, rfl, rfl, rfl, rfl, trivial⟩, by omega, h3, gl1.trans (le2.trans gl3), by rw [usesL_take hn', List.length_append, List.length_map, ← hk2]; exact j3⟩, by omega⟩
  refine WP.exit ?_
  have hn2 : n = p.rules.xs.length := by omega
  rw [hn2, List.take_length] at j1
  exact ⟨.inr rfl, [], trivial, ⟨_, rfl⟩, .inl ⟨h1, gl1, j1⟩⟩
end Go.TF
end
section
/- Levels: the strata, raised from 0 until all hold. -/
namespace Go.TF
open Go Go.RowKit Go.Proofs
set_option maxRecDepth 20000

@[reducible] def iEnc (n : Int) : List Value := [.int .i64 n]
@[reducible] def vI (n : Int) : Value := .int .i64 n
@[reducible] def vB (n : Bool) : Value := .bool n
/-- What Levels and strata hand back. -/
def LevP (cs : List (Int × Ltl)) (n : Nat) (v : Value) (h : Heap) : Prop :=
  (∃ s : Sl Int, StrataR cs n (some s.xs) ∧ s.Is 1 iEnc h ∧ v = .tuple #[s.val, .bool true]) ∨ (StrataR cs n none ∧ v = .tuple #[.slice none 0 0, .bool false])
theorem boxIs {b : Nat} {L : List Int} {T : TypeId} {h : Heap} {c : Nat} (hb : h b = some (.cells (L.map vI).toArray T (0, 0))) (hs : L.length ≤ 140737488355328) : (⟨some ⟨b, 0, none⟩, c, L⟩ : Sl Int).Is 1 iEnc h :=
  ⟨fun i x hx => ⟨rfl, fun j v hv => by
    cases j with
    | zero => simp at hv; subst hv; simp only [Heap.cell, Sl.blk, Sl.off, Option.getD_some, hb]; simp [hx]
    | succ j => simp at hv⟩, hs⟩
theorem lv_some {L : List Int} {n : Nat} (hl : L.length = n) {i : Int} (h0 : 0 ≤ i) (h1 : i < n) : L[i.toNat]? = some (lv L i) := by
  have : i.toNat < L.length := by omega
  simp [lv, List.getD_eq_getElem?_getD, this]
structure LevS where
  bo : Nat
  b4 : Nat
  L : List Int
  ms : List Nat
def LevU (s : LevS) (b3 b2 b1 : Nat) (p : Prg) (L : List Int) : List SA := [box s.b4 [.slice (some ⟨s.bo, 0, none⟩) p.preds.xs.length p.preds.xs.length] 45, box s.bo (L.map vI) 3, box b3 [.bool false] 4, box b2 [.slice none 0 0] 45, box b1 p.enc 25]
structure LevJ (B : Base) (b3 b2 b1 : Nat) (p : Prg) (cs : List (Int × Ltl)) (s : LevS) (w : World) : Prop where
  inv : ∃ h1, B.h.le h1 ∧ Inv B h1 (LevU s b3 b2 b1 p s.L ++ s.ms.map markSA) w
  good : Good cs p.preds.xs.length s.L
  lt : ∀ i : Int, 0 ≤ i → i < p.preds.xs.length → lv s.L i < p.preds.xs.length
def LevJx (cs : List (Int × Ltl)) (n : Nat) (L : List Int) (j : Jmp) (L' : List Int) : Prop :=
  match j with
  | .ret => L' = L ∧ StrataR cs n none
  | .goto t => t = 0 ∧ ∃ c ∈ cs, L' = L.set c.1.toNat (lst L c) ∧ lv L c.1 < lst L c ∧ lst L c < n
  | .exit _ => False
set_option maxHeartbeats 4000000 in
theorem Levels_ok (B : Base) (hB : B.ok) (p : Prg) (hp : p.In B.h) (hr : InR (usesL p.rules.xs) p.preds.xs.length) (hn5 : p.preds.xs.length ≤ 5) : Fn Tryz.prog 94 [p.val] B (fun v h => LevP (usesL p.rules.xs) p.preds.xs.length v h) := by
  refine Fn.ofD Tryz.func94 rfl Tryz.ntmps94 (by kernel_rfl) (by simp) ?_
  intro e
  have I := Inv.start hB
  refine WPD.seq ?_
  refine WPD.region ?_
  refine Ops.go (O.box (v := .agg #[_, _]) I rfl rfl ?_)
  intro b1 w I
  refine Ops.go (O.alloc I Tryz.zeroValue45 rfl ?_)
  intro b2 w I
  refine Ops.go (O.alloc I Tryz.zeroValue4 rfl ?_)
  intro b3 w I
  refine Ops.nil ?_
  refine WPD.scopeL (σ := LevS) 0 (fun s => [(1, .pointer (some ⟨b1, 0, none⟩)), (2, .pointer (some ⟨b2, 0, none⟩)), (3, .pointer (some ⟨b3, 0, none⟩)), (4, .pointer (some ⟨s.b4, 0, none⟩))]) (fun s => s.ms.map mark)
    (LevJ B b3 b2 b1 p (usesL p.rules.xs)) (fun s => pot p.preds.xs.length s.L) rfl (by kernel_rfl) ?_ ?_
  · refine WPD.region ?_
    refine Ops.y (v := .pointer (some ⟨_, _, none⟩)) (Y.fa0 fa_25_0 rfl) ?_
    refine Ops.y (v := .slice _ _ _) (Y.loadv ty_22 rfl (I.rdbox 2 rfl 0 1) rfl rfl) ?_
    refine Ops.y (v := .int .i64 _) (Y.lens Tryz.underlying22 rfl) ?_
    refine Ops.go (O.make1 (n := p.preds.xs.length) (zc := (vI 0)) I Tryz.underlying45 et_3 rfl rfl rfl (by omega) (by omega) ?_)
    intro b11 w I
    refine Ops.go (O.alloc I Tryz.zeroValue45 rfl ?_)
    intro b4 w I
    refine Ops.go (O.store (v := .slice _ _ _) I ty_45 0 rfl rfl rfl rfl rfl rfl (Nat.le_of_ble_eq_true rfl) rfl ?_)
    intro w I
    refine Ops.nil ?_
    refine ⟨⟨b11, b4, List.replicate p.preds.xs.length 0, []⟩, ⟨rfl, rfl, rfl, rfl, trivial⟩, rfl, ⟨⟨B.h, Heap.le.refl _, ?_⟩, Good.zero _ _, fun i h0 h1 => by rw [lv_zero]; omega⟩⟩
    simp only [List.map_nil, List.append_nil, LevU, List.map_replicate]
    exact I
  · rintro ⟨bo, b4, L, ms⟩ e w ⟨⟨h1, gl1, I⟩, g, hlt⟩
    dsimp only at I g hlt ⊢
    refine WPD.seq ?_
    refine WPD.seq ?_
    refine WPD.region ?_
    refine Ops.y (v := .agg #[_, _]) (Y.loadv ty_25 rfl (I.rdbox 4 rfl 0 2) rfl rfl) ?_
    refine Ops.go (O.call I Tryz.call151 (uses_ok _ I.base_ok p) rfl ?_)
    rintro _ h2 w I le2 ⟨bp, rfl, hbp⟩
    refine Ops.nil ?_
    refine WPD.block ?_
    refine WPD.rangeFunc (σ := List Int) (LevU ⟨bo, b4, L, ms⟩ b3 b2 b1 p) (fun k L' => L' = L ∧ ∀ j, j < k → ∀ c, (usesL p.rules.xs)[j]? = some c → SatC L c) (LevJx (usesL p.rules.xs) p.preds.xs.length L) L I ⟨rfl, fun j hj => by omega⟩ rfl Tryz.call179
      (uses1_iter p bp h2 hbp (hp.rules.le (gl1.trans le2))) (fun _ => rfl) (by kernel_rfl) (by kernel_rfl) (by kernel_rfl) ?_ ?_ ?_
    · rintro l r ms' hg k c L' W hx gl I ⟨hL, hsat⟩
      obtain rfl : L = L' := hL.symm
      have hc := List.mem_of_getElem? hx
      have hh := hr.h c hc
      have hb := hr.b c hc
      have hlb := hlt _ hb.1 hb.2
      have hpb := g.pos c.2.atom.pred
      have hng := ng_le c.2
      have hlst : lst L c = lv L c.2.atom.pred + ng c.2 := rfl
      refine WPI.seq ?_
      refine WPI.region (by kernel_rfl) ?_
      refine Ops.y (v := .int .i64 _) (Y.assign rfl) ?_
      refine Ops.nil ?_
      refine WPI.region (by kernel_rfl) ?_
      refine Ops.go (O.alloc I Tryz.zeroValue131 rfl ?_)
      intro b6 w I
      refine Ops.go (O.store (v := .agg #[_, _, _]) I ty_131 0 rfl rfl rfl rfl rfl rfl (Nat.le_of_ble_eq_true rfl) rfl ?_)
      intro w I
      refine Ops.nil ?_
      refine ⟨hg, [box b6 c.2.enc 131], Heap.le.refl _, I, fun r' W2 I => ?_⟩
      refine WPI.block ?_
      refine WPI.seq ?_
      refine WPI.region (by kernel_rfl) ?_
      refine Ops.y (v := .slice _ _ _) (Y.loadv ty_45 rfl (I.rdbox 1 rfl 0 1) rfl rfl) ?_
      refine Ops.y (v := .pointer (some ⟨_, _, none⟩)) (Y.fa fa_131_1 rfl) ?_
      refine Ops.y (v := .pointer (some ⟨_, _, none⟩)) (Y.fa0 fa_65_0 rfl) ?_
      refine Ops.y (v := .int .i64 _) (Y.loadv ty_3 rfl (I.rdbox 0 rfl 1 1) rfl rfl) ?_
      refine Ops.y (v := .pointer (some ⟨_, _, none⟩)) (Y.idx Tryz.underlying45 Tryz.sizeOf3 rfl rfl hb.1 hb.2) ?_
      refine Ops.y (v := .int .i64 _) (Y.loadv ty_3 rfl (I.rdL 2 rfl (by omega) (lv_some g.len hb.1 hb.2)) rfl rfl) ?_
      refine Ops.y (v := .int .i64 _) (Y.assign rfl) ?_
      refine Ops.nil ?_
      refine WPI.seq ?_
      refine WPI.cutL (σ := Unit) (fun _ => [(1, .pointer (some ⟨b1, 0, none⟩)), (2, .pointer (some ⟨b2, 0, none⟩)), (3, .pointer (some ⟨b3, 0, none⟩)), (4, .pointer (some ⟨b4, 0, none⟩)), (5, .int .i64 c.1), (6, .pointer (some ⟨b6, 0, none⟩)), (7, .int .i64 (lst L c))])
        (fun _ w => Inv B hg ([box b6 c.2.enc 131] ++ (LevU ⟨bo, b4, L, ms⟩ b3 b2 b1 p L ++ (loopSA l r' :: ms'.map markSA))) w) ?_ ?_
      · refine WPI.seq ?_
        refine WPI.region (by kernel_rfl) ?_
        refine Ops.y (v := .pointer (some ⟨_, _, none⟩)) (Y.fa0 fa_131_0 rfl) ?_
        refine Ops.y (v := .bool _) (Y.loadv ty_4 rfl (I.rdbox 0 rfl 0 1) rfl rfl) ?_
        refine Ops.nil ?_
        refine WPI.cond rfl (fun hneg => ?_) (fun hneg => ?_)
        · refine WPI.region (by kernel_rfl) ?_
          refine Ops.y (v := .int .i64 _) (Y.move rfl) ?_
          refine Ops.y (v := .int .i64 _) (Y.addi rfl rfl ⟨by omega, by omega⟩) ?_
          refine Ops.y (v := .int .i64 _) (Y.assign rfl) ?_
          refine Ops.nil ?_
          exact ⟨(), ⟨rfl, rfl, rfl, rfl, rfl, rfl, by simp only [lst, ng, hneg]; rfl, trivial⟩, I⟩
        · refine WPI.skip ?_
          exact ⟨(), ⟨rfl, rfl, rfl, rfl, rfl, rfl, by simp only [lst, ng, hneg, Bool.false_eq_true, if_false, Int.add_zero]; rfl, trivial⟩, I⟩
      rintro _ e W2 I
      refine WPI.seq ?_
      refine WPI.seq ?_
      refine WPI.region (by kernel_rfl) ?_
      refine Ops.y (v := .int .i64 _) (Y.move rfl) ?_
      refine Ops.y (v := .slice _ _ _) (Y.loadv ty_45 rfl (I.rdbox 1 rfl 0 1) rfl rfl) ?_
      refine Ops.y (v := .int .i64 _) (Y.move rfl) ?_
      refine Ops.y (v := .pointer (some ⟨_, _, none⟩)) (Y.idx Tryz.underlying45 Tryz.sizeOf3 rfl rfl hh.1 hh.2) ?_
      refine Ops.y (v := .int .i64 _) (Y.loadv ty_3 rfl (I.rdL 2 rfl (by omega) (lv_some g.len hh.1 hh.2)) rfl rfl) ?_
      refine Ops.y (v := .bool (decide _)) (Y.lei rfl rfl) ?_
      refine Ops.nil ?_
      refine WPI.cond_dec rfl (fun h8 => ?_) (fun h8 => ?_)
      · refine WPI.exit ?_
        exact ⟨hg, L, [box b6 c.2.enc 131], Heap.le.refl _, I, rfl, fun j hj c' hc' => by
          rcases Nat.lt_succ_iff_lt_or_eq.1 hj with h' | rfl
          · exact hsat j h' c' hc'
          · rw [hx] at hc'; cases hc'; exact h8⟩
      refine WPI.skip ?_
      refine WPI.seq ?_
      refine WPI.seq ?_
      refine WPI.region (by kernel_rfl) ?_
      refine Ops.y (v := .int .i64 _) (Y.move rfl) ?_
      refine Ops.y (v := .pointer (some ⟨_, _, none⟩)) (Y.fa0 fa_25_0 rfl) ?_
      refine Ops.y (v := .slice _ _ _) (Y.loadv ty_22 rfl (I.rdbox 5 rfl 0 1) rfl rfl) ?_
      refine Ops.y (v := .int .i64 _) (Y.lens Tryz.underlying22 rfl) ?_
      refine Ops.y (v := .bool (decide _)) (Y.gei rfl rfl) ?_
      refine Ops.nil ?_
      refine WPI.cond_dec rfl (fun h9 => ?_) (fun h9 => ?_)
      · refine WPI.seq ?_
        refine WPI.region (by kernel_rfl) ?_
        refine Ops.go (O.store (v := .slice _ _ _) I ty_45 4 rfl rfl rfl rfl rfl rfl (Nat.le_of_ble_eq_true rfl) rfl ?_)
        intro w I
        refine Ops.go (O.store (v := .bool _) I ty_4 3 rfl rfl rfl rfl rfl rfl (Nat.le_of_ble_eq_true rfl) rfl ?_)
        intro w I
        refine Ops.nil ?_
        refine WPI.ret ?_
        repeat (first | refine thenE_ret ?_ | refine blockE_ret ?_)
        exact ⟨hg, L, [box b6 c.2.enc 131], Heap.le.refl _, I, rfl, g.fail hr hc h9⟩
      refine WPI.skip ?_
      refine WPI.seq ?_
      refine WPI.region (by kernel_rfl) ?_
      refine Ops.y (v := .slice _ _ _) (Y.loadv ty_45 rfl (I.rdbox 1 rfl 0 1) rfl rfl) ?_
      refine Ops.y (v := .int .i64 _) (Y.move rfl) ?_
      refine Ops.y (v := .int .i64 _) (Y.move rfl) ?_
      refine Ops.y (v := .pointer (some ⟨_, _, none⟩)) (Y.idx Tryz.underlying45 Tryz.sizeOf3 rfl rfl hh.1 hh.2) ?_
      refine Ops.go (O.store1 I ty_3 2 rfl rfl (i := c.1.toNat) (by omega) (by rw [g.len]; omega) rfl rfl rfl ?_)
      intro w I
      refine Ops.nil ?_
      refine WPI.goto ?_
      exact ⟨hg, L.set c.1.toNat (lst L c), [box b6 c.2.enc 131], Heap.le.refl _, I, rfl, c, hc, rfl, by omega, by omega⟩
    · rintro D h3 L' W gl I ⟨hL, hsat⟩
      obtain rfl : L = L' := hL.symm
      refine WPD.seq ?_
      refine WPD.region ?_
      refine Ops.y (v := .slice _ _ _) (Y.loadv ty_45 rfl (I.rdbox 0 rfl 0 1) rfl rfl) ?_
      refine Ops.go (O.store (v := .slice _ _ _) I ty_45 3 rfl rfl rfl rfl rfl rfl (Nat.le_of_ble_eq_true rfl) rfl ?_)
      intro w I
      refine Ops.go (O.store (v := .bool _) I ty_4 2 rfl rfl rfl rfl rfl rfl (Nat.le_of_ble_eq_true rfl) rfl ?_)
      intro w I
      refine Ops.nil ?_
      refine WPD.ret ?_
      repeat (first | refine thenD_ret ?_ | refine blockD_ret ?_)
      have hbo := I.at 1 rfl
      obtain ⟨h4, le4, hb4, I⟩ := (I.front 1 rfl).settle
      have hs : ∀ c ∈ usesL p.rules.xs, SatC L c := fun c hc => by
        obtain ⟨j, hj, rfl⟩ := List.getElem_of_mem hc
        exact hsat j hj _ (List.getElem?_eq_getElem hj)
      show doneQ _ _ _ _ _ _ _ _
      exact ⟨.inl rfl, D :: ms, [box b4 [.slice (some ⟨bo, 0, none⟩) p.preds.xs.length p.preds.xs.length] 45, box b3 [.bool true] 4, box b2 [.slice (some ⟨bo, 0, none⟩) p.preds.xs.length p.preds.xs.length] 45, box b1 p.enc 25], h4,
        [.slice (some ⟨bo, 0, none⟩) p.preds.xs.length p.preds.xs.length, .bool true], rfl, I, fun w2 I2 => ⟨⟨b2, 0, 1, false, _, rfl, ty_45, I2.rdbox 2 rfl 0 1, rfl, rfl⟩, ⟨b3, 0, 1, false, _, rfl, ty_4, I2.rdbox 1 rfl 0 1, rfl, rfl⟩, trivial⟩,
        .inl ⟨⟨some ⟨bo, 0, none⟩, p.preds.xs.length, L⟩, g.done hs, boxIs ((hb4 bo (by simp [box])).trans hbo) (by rw [g.len]; omega), by simp [tup, Sl.val, g.len]⟩⟩
    · rintro D c h3 L' W gl I hx
      cases c with
      | ret =>
        obtain ⟨hL, hno⟩ := hx
        obtain rfl : L = L' := hL.symm
        refine blockD_ret (thenD_ret ?_)
        show doneQ _ _ _ _ _ _ _ _
        exact ⟨.inl rfl, D :: ms, LevU ⟨bo, b4, L, ms⟩ b3 b2 b1 p L, h3, [.slice none 0 0, .bool false], rfl, I, fun w2 I2 => ⟨⟨b2, 0, 1, false, _, rfl, ty_45, I2.rdbox 3 rfl 0 1, rfl, rfl⟩, ⟨b3, 0, 1, false, _, rfl, ty_4, I2.rdbox 2 rfl 0 1, rfl, rfl⟩, trivial⟩, .inr ⟨hno, rfl⟩⟩
      | goto t =>
        obtain ⟨rfl, c, hc, rfl, k1, k2⟩ := hx
        have hh := hr.h c hc
        exact (show (0 = 0 ∧ _) from ⟨rfl, ⟨bo, b4, L.set c.1.toNat (lst L c), D :: ms⟩, ⟨⟨rfl, rfl, rfl, rfl, trivial⟩, rfl, ⟨⟨h3, (gl1.trans le2).trans gl, I⟩, g.raise hr hc, fun i h0 h1 => by
          rw [lv_set hh.1 (by rw [g.len]; exact hh.2) _ _ h0]; split
          · exact k2
          · exact hlt i h0 h1⟩⟩, pot_set_lt hh.1 (by rw [g.len]; exact hh.2) k1 (hlt _ hh.1 hh.2)⟩)
      | exit id => exact hx.elim
end Go.TF
end
section
/- strata, of the document: the same strata. -/
namespace Go.TF
open Go Go.RowKit Go.Proofs
set_option maxRecDepth 20000

theorem usesL_take' {rs : List Rul} {m : Nat} (hm : m < rs.length) : usesL (rs.take (m + 1)) = usesL (rs.take m) ++ (rs[m].body.xs.take rs[m].body.xs.length).map fun x => (rs[m].head.pred, x) := by
  rw [List.take_length]; exact usesL_take hm
theorem usesL_mem {rs : List Rul} {m : Nat} (hm : m < rs.length) {k : Nat} (hk : k < rs[m].body.xs.length) : (rs[m].head.pred, rs[m].body.xs[k]) ∈ usesL rs := List.mem_of_getElem? (usesL_get hm hk)
theorem map_take {α β : Type} (f : α → β) {l : List α} {k : Nat} (hk : k < l.length) : (l.take (k + 1)).map f = (l.take k).map f ++ [f l[k]] := by
  rw [List.take_succ_eq_append_getElem hk, List.map_append]; rfl
set_option maxHeartbeats 4000000 in
theorem strata_ok (B : Base) (hB : B.ok) (p : Prg) (hp : p.In B.h) (hr : InR (usesL p.rules.xs) p.preds.xs.length) (hn5 : p.preds.xs.length ≤ 5) (hr8 : p.rules.xs.length ≤ 8) (hb3 : ∀ r ∈ p.rules.xs, r.body.xs.length ≤ 3) :
    Fn Tryz.prog 74 [p.val] B (fun v h => LevP (usesL p.rules.xs) p.preds.xs.length v h) := by
  obtain ⟨sq, hsq⟩ : ∃ sq : Int, sq = (p.preds.xs.length : Int) * p.preds.xs.length := ⟨_, rfl⟩
  have hsq0 : 0 ≤ sq ∧ sq ≤ 25 := by
    rw [hsq]
    have h5 : (p.preds.xs.length : Int) ≤ 5 := by omega
    exact ⟨Int.mul_nonneg (by omega) (by omega), by have := Int.mul_le_mul h5 h5 (by omega) (by omega); omega⟩
  have hsqN : ((p.preds.xs.length * p.preds.xs.length : Nat) : Int) = sq := by rw [hsq]; exact Int.natCast_mul _ _
  refine Fn.of Tryz.func74 rfl Tryz.ntmps74 (by kernel_rfl) (by simp) ?_
  intro e
  have I := Inv.start hB
  refine WP.seq ?_
  refine WP.region ?_
  refine Ops.go (O.box (v := .agg #[_, _]) I rfl rfl ?_)
  intro b1 w I
  refine Ops.y (v := .slice _ _ _) (Y.assign rfl) ?_
  refine Ops.y (v := .bool _) (Y.assign rfl) ?_
  refine Ops.nil ?_
  refine WP.seq ?_
  refine WP.region ?_
  refine Ops.y (v := .pointer (some ⟨_, _, none⟩)) (Y.fa0 fa_25_0 rfl) ?_
  refine Ops.y (v := .slice _ _ _) (Y.loadv ty_22 rfl (I.rdbox 0 rfl 0 1) rfl rfl) ?_
  refine Ops.y (v := .int .i64 _) (Y.lens Tryz.underlying22 rfl) ?_
  refine Ops.go (O.make1 (n := p.preds.xs.length) (zc := (vI 0)) I Tryz.underlying45 et_3 rfl rfl rfl (by omega) (by omega) ?_)
  intro b14 w I
  refine Ops.y (v := .slice _ _ _) (Y.assign rfl) ?_
  refine Ops.nil ?_
  refine WP.seq ?_
  refine WP.seq ?_
  refine WP.region ?_
  refine Ops.y (v := .int .i64 _) (Y.assign rfl) ?_
  refine Ops.nil ?_
  rw [← List.map_replicate (f := vI)] at I
  refine WP.block ?_
  refine WP.loopE (σ := Nat × List Int) (fun s => [(1, .pointer (some ⟨b1, 0, none⟩)), (2, .slice none 0 0), (3, .bool false), (4, .slice (some ⟨b14, 0, none⟩) p.preds.xs.length p.preds.xs.length), (5, .int .i64 s.1)])
    (fun s w => Inv B B.h [box b14 (s.2.map vI) 3, box b1 p.enc 25] w ∧ Good (usesL p.rules.xs) p.preds.xs.length s.2 ∧ (∀ i, lv s.2 i ≤ 24 * s.1) ∧ ((∃ M, Sol (usesL p.rules.xs) p.preds.xs.length M) → pot p.preds.xs.length s.2 + s.1 ≤ p.preds.xs.length * p.preds.xs.length) ∧ s.1 ≤ sq + 2)
    (fun s => (sq + 3 - s.1).toNat) ⟨(0, List.replicate p.preds.xs.length 0), ⟨rfl, rfl, rfl, rfl, rfl, trivial⟩, I, Good.zero _ _, fun i => by rw [lv_zero]; omega, fun _ => by rw [pot_zero]; omega, by omega⟩ ?_
  rintro ⟨rd, L⟩ e w ⟨I, g, hbd, hpot, hrd⟩
  dsimp only at I g hbd hpot hrd ⊢
  refine WP.seq ?_
  refine WP.seq ?_
  refine WP.region ?_
  refine Ops.y (v := .int .i64 _) (Y.move rfl) ?_
  refine Ops.y (v := .pointer (some ⟨_, _, none⟩)) (Y.fa0 fa_25_0 rfl) ?_
  refine Ops.y (v := .slice _ _ _) (Y.loadv ty_22 rfl (I.rdbox 1 rfl 0 1) rfl rfl) ?_
  refine Ops.y (v := .int .i64 _) (Y.lens Tryz.underlying22 rfl) ?_
  refine Ops.y (v := .pointer (some ⟨_, _, none⟩)) (Y.fa0 fa_25_0 rfl) ?_
  refine Ops.y (v := .slice _ _ _) (Y.loadv ty_22 rfl (I.rdbox 1 rfl 0 1) rfl rfl) ?_
  refine Ops.y (v := .int .i64 _) (Y.lens Tryz.underlying22 rfl) ?_
  refine Ops.y (v := .int .i64 _) (Y.muli rfl rfl (by rw [← hsq]; exact ⟨by omega, by omega⟩)) ?_
  refine Ops.y (v := .int .i64 _) (Y.addi rfl rfl (by rw [← hsq]; exact ⟨by omega, by omega⟩)) ?_
  refine Ops.y (v := .bool (decide _)) (Y.lei rfl rfl) ?_
  refine Ops.nil ?_
  refine WP.cond_dec rfl (fun h3 => ?_) (fun h3 => ?_)
  · rw [← hsq] at h3
    refine WP.skip ?_
    refine WP.seq ?_
    refine WP.block ?_
    refine WP.seq ?_
    refine WP.region ?_
    refine Ops.y (v := .bool _) (Y.assign rfl) ?_
    refine Ops.nil ?_
    refine WP.seq ?_
    refine WP.seq ?_
    refine WP.region ?_
    refine Ops.y (v := .int .i64 _) (Y.assign rfl) ?_
    refine Ops.nil ?_
    refine WP.block ?_
    refine WP.loopE (σ := Nat × Bool × List Int) (fun s => [(1, .pointer (some ⟨b1, 0, none⟩)), (2, .slice none 0 0), (3, .bool false), (4, .slice (some ⟨b14, 0, none⟩) p.preds.xs.length p.preds.xs.length), (5, .int .i64 rd), (6, .bool s.2.1), (7, .int .i64 s.1)])
      (fun s w => Inv B B.h [box b14 (s.2.2.map vI) 3, box b1 p.enc 25] w ∧ s.1 ≤ p.rules.xs.length ∧ Pass (usesL p.rules.xs) p.preds.xs.length L s.2.1 s.2.2 (usesL (p.rules.xs.take s.1)) ∧ ∀ i, lv s.2.2 i ≤ 24 * rd + 3 * s.1)
      (fun s => p.rules.xs.length - s.1) ⟨(0, true, L), ⟨rfl, rfl, rfl, rfl, rfl, rfl, rfl, trivial⟩, I, Nat.zero_le _, Pass.start g, fun i => by have := hbd i; dsimp only; omega⟩ ?_
    rintro ⟨m, same, L1⟩ e w ⟨I, hm, pa, hb1⟩
    dsimp only at I hm pa hb1 ⊢
    refine WP.seq ?_
    refine WP.seq ?_
    refine WP.region ?_
    refine Ops.y (v := .int .i64 _) (Y.move rfl) ?_
    refine Ops.y (v := .pointer (some ⟨_, _, none⟩)) (Y.fa fa_25_1 rfl) ?_
    refine Ops.y (v := .slice _ _ _) (Y.loadv ty_23 rfl (I.rdbox 1 rfl 1 1) rfl rfl) ?_
    refine Ops.y (v := .int .i64 _) (Y.lens Tryz.underlying23 rfl) ?_
    refine Ops.y (v := .bool (decide _)) (Y.lti rfl rfl) ?_
    refine Ops.nil ?_
    refine WP.cond_dec rfl (fun h7 => ?_) (fun h7 => ?_)
    · have hm' : m < p.rules.xs.length := by omega
      have E1 := hp.rules.is.at hm'
      have hbd2 := (hp.rules.each _ (List.getElem_mem hm')).body
      have hb3' := hb3 _ (List.getElem_mem hm')
      refine WP.skip ?_
      refine WP.seq ?_
      refine WP.block ?_
      refine WP.seq ?_
      refine WP.region ?_
      refine Ops.y (v := .pointer (some ⟨_, _, none⟩)) (Y.fa fa_25_1 rfl) ?_
      refine Ops.y (v := .slice _ _ _) (Y.loadv ty_23 rfl (I.rdbox 1 rfl 1 1) rfl rfl) ?_
      refine Ops.y (v := .int .i64 _) (Y.move rfl) ?_
      refine Ops.y (v := .pointer (some ⟨_, _, none⟩)) (Y.idxEl E1 Tryz.underlying23 Tryz.sizeOf68 rfl rfl (Int.natCast_nonneg _) rfl) ?_
      refine Ops.y (v := .agg #[_, _, _, _, _]) (Y.loadv ty_68 rfl (I.rd (E1.rd.part 0 5)) rfl rfl) ?_
      refine Ops.go (O.alloc I Tryz.zeroValue68 rfl ?_)
      intro b8 w I
      refine Ops.go (O.store (v := .agg #[_, _, _, _, _]) I ty_68 0 rfl rfl rfl rfl rfl rfl (Nat.le_of_ble_eq_true rfl) rfl ?_)
      intro w I
      refine Ops.nil ?_
      refine WP.seq ?_
      refine WP.region ?_
      refine Ops.y (v := .int .i64 _) (Y.assign rfl) ?_
      refine Ops.nil ?_
      refine WP.block ?_
      refine WP.loopE (σ := Nat × Bool × List Int) (fun s => [(1, .pointer (some ⟨b1, 0, none⟩)), (2, .slice none 0 0), (3, .bool false), (4, .slice (some ⟨b14, 0, none⟩) p.preds.xs.length p.preds.xs.length), (5, .int .i64 rd), (6, .bool s.2.1), (7, .int .i64 m), (8, .pointer (some ⟨b8, 0, none⟩)), (9, .int .i64 s.1)])
        (fun s w => Inv B B.h [box b8 p.rules.xs[m].enc 68, box b14 (s.2.2.map vI) 3, box b1 p.enc 25] w ∧ s.1 ≤ p.rules.xs[m].body.xs.length ∧ Pass (usesL p.rules.xs) p.preds.xs.length L s.2.1 s.2.2 (usesL (p.rules.xs.take m) ++ (p.rules.xs[m].body.xs.take s.1).map fun x => (p.rules.xs[m].head.pred, x)) ∧ ∀ i, lv s.2.2 i ≤ 24 * rd + 3 * m + s.1)
        (fun s => p.rules.xs[m].body.xs.length - s.1) ⟨(0, same, L1), ⟨rfl, rfl, rfl, rfl, rfl, rfl, rfl, rfl, rfl, trivial⟩, I, Nat.zero_le _, by simpa using pa, fun i => by have := hb1 i; dsimp only; omega⟩ ?_
      rintro ⟨k, same2, L2⟩ e w ⟨I, hk, pa2, hb2⟩
      dsimp only at I hk pa2 hb2 ⊢
      refine WP.seq ?_
      refine WP.seq ?_
      refine WP.region ?_
      refine Ops.y (v := .int .i64 _) (Y.move rfl) ?_
      refine Ops.y (v := .pointer (some ⟨_, _, none⟩)) (Y.fa fa_68_3 rfl) ?_
      refine Ops.y (v := .slice _ _ _) (Y.loadv ty_66 rfl (I.rdbox 0 rfl 4 1) rfl rfl) ?_
      refine Ops.y (v := .int .i64 _) (Y.lens Tryz.underlying66 rfl) ?_
      refine Ops.y (v := .bool (decide _)) (Y.lti rfl rfl) ?_
      refine Ops.nil ?_
      refine WP.cond_dec rfl (fun h11 => ?_) (fun h11 => ?_)
      · have hk' : k < p.rules.xs[m].body.xs.length := by omega
        have E2 := hbd2.is.at hk'
        have hmem := usesL_mem hm' hk'
        have hh := hr.h _ hmem
        have hb := hr.b _ hmem
        dsimp only at hh hb
        have g2 := pa2.good
        have hlb := hb2 p.rules.xs[m].body.xs[k].atom.pred
        have hpb := g2.pos p.rules.xs[m].body.xs[k].atom.pred
        have hng := ng_le p.rules.xs[m].body.xs[k]
        have hlst : lst L2 (p.rules.xs[m].head.pred, p.rules.xs[m].body.xs[k]) = lv L2 p.rules.xs[m].body.xs[k].atom.pred + ng p.rules.xs[m].body.xs[k] := rfl
        refine WP.skip ?_
        refine WP.seq ?_
        refine WP.block ?_
        refine WP.seq ?_
        refine WP.region ?_
        refine Ops.y (v := .slice _ _ _) (Y.move rfl) ?_
        refine Ops.y (v := .pointer (some ⟨_, _, none⟩)) (Y.fa fa_68_3 rfl) ?_
        refine Ops.y (v := .slice _ _ _) (Y.loadv ty_66 rfl (I.rdbox 0 rfl 4 1) rfl rfl) ?_
        refine Ops.y (v := .int .i64 _) (Y.move rfl) ?_
        refine Ops.y (v := .pointer (some ⟨_, _, none⟩)) (Y.idxEl E2 Tryz.underlying66 Tryz.sizeOf131 rfl rfl (Int.natCast_nonneg _) rfl) ?_
        refine Ops.y (v := .pointer (some ⟨_, _, none⟩)) (Y.fa fa_131_1 rfl) ?_
        refine Ops.y (v := .pointer (some ⟨_, _, none⟩)) (Y.fa0 fa_65_0 rfl) ?_
        refine Ops.y (v := .int .i64 _) (Y.loadv ty_3 rfl (I.rd (E2.rd.part 1 1)) rfl rfl) ?_
        refine Ops.y (v := .pointer (some ⟨_, _, none⟩)) (Y.idx Tryz.underlying45 Tryz.sizeOf3 rfl rfl hb.1 hb.2) ?_
        refine Ops.y (v := .int .i64 _) (Y.loadv ty_3 rfl (I.rdL 1 rfl (by omega) (lv_some g2.len hb.1 hb.2)) rfl rfl) ?_
        refine Ops.y (v := .int .i64 _) (Y.assign rfl) ?_
        refine Ops.nil ?_
        refine WP.seq ?_
        refine WP.cutL (σ := Unit) (fun _ => [(1, .pointer (some ⟨b1, 0, none⟩)), (2, .slice none 0 0), (3, .bool false), (4, .slice (some ⟨b14, 0, none⟩) p.preds.xs.length p.preds.xs.length), (5, .int .i64 rd), (6, .bool same2), (7, .int .i64 m), (8, .pointer (some ⟨b8, 0, none⟩)), (9, .int .i64 k), (10, .int .i64 (lst L2 (p.rules.xs[m].head.pred, p.rules.xs[m].body.xs[k])))])
          (fun _ w => Inv B B.h [box b8 p.rules.xs[m].enc 68, box b14 (L2.map vI) 3, box b1 p.enc 25] w) ?_ ?_
        · refine WP.seq ?_
          refine WP.region ?_
          refine Ops.y (v := .pointer (some ⟨_, _, none⟩)) (Y.fa fa_68_3 rfl) ?_
          refine Ops.y (v := .slice _ _ _) (Y.loadv ty_66 rfl (I.rdbox 0 rfl 4 1) rfl rfl) ?_
          refine Ops.y (v := .int .i64 _) (Y.move rfl) ?_
          refine Ops.y (v := .pointer (some ⟨_, _, none⟩)) (Y.idxEl E2 Tryz.underlying66 Tryz.sizeOf131 rfl rfl (Int.natCast_nonneg _) rfl) ?_
          refine Ops.y (v := .pointer (some ⟨_, _, none⟩)) (Y.fa0 fa_131_0 rfl) ?_
          refine Ops.y (v := .bool _) (Y.loadv ty_4 rfl (I.rd (E2.rd.part 0 1)) rfl rfl) ?_
          refine Ops.nil ?_
          refine WP.cond rfl (fun hneg => ?_) (fun hneg => ?_)
          · refine WP.region ?_
            refine Ops.y (v := .int .i64 _) (Y.move rfl) ?_
            refine Ops.y (v := .int .i64 _) (Y.addi rfl rfl ⟨by omega, by omega⟩) ?_
            refine Ops.y (v := .int .i64 _) (Y.assign rfl) ?_
            refine Ops.nil ?_
            exact ⟨(), ⟨rfl, rfl, rfl, rfl, rfl, rfl, rfl, rfl, rfl, by simp only [lst, ng, hneg]; rfl, trivial⟩, I⟩
          · refine WP.skip ?_
            exact ⟨(), ⟨rfl, rfl, rfl, rfl, rfl, rfl, rfl, rfl, rfl, by simp only [lst, ng, hneg, Bool.false_eq_true, if_false, Int.add_zero]; rfl, trivial⟩, I⟩
        rintro _ e w I
        refine WP.seq ?_
        refine WP.region ?_
        refine Ops.y (v := .slice _ _ _) (Y.move rfl) ?_
        refine Ops.y (v := .pointer (some ⟨_, _, none⟩)) (Y.fa0 fa_68_0 rfl) ?_
        refine Ops.y (v := .pointer (some ⟨_, _, none⟩)) (Y.fa0 fa_65_0 rfl) ?_
        refine Ops.y (v := .int .i64 _) (Y.loadv ty_3 rfl (I.rdbox 0 rfl 0 1) rfl rfl) ?_
        refine Ops.y (v := .pointer (some ⟨_, _, none⟩)) (Y.idx Tryz.underlying45 Tryz.sizeOf3 rfl rfl hh.1 hh.2) ?_
        refine Ops.y (v := .int .i64 _) (Y.loadv ty_3 rfl (I.rdL 1 rfl (by omega) (lv_some g2.len hh.1 hh.2)) rfl rfl) ?_
        refine Ops.y (v := .int .i64 _) (Y.move rfl) ?_
        refine Ops.y (v := .bool (decide _)) (Y.lti rfl rfl) ?_
        refine Ops.nil ?_
        refine WP.cond_dec rfl (fun h16 => ?_) (fun h16 => ?_)
        · refine WP.seq ?_
          refine WP.region ?_
          refine Ops.y (v := .slice _ _ _) (Y.move rfl) ?_
          refine Ops.y (v := .pointer (some ⟨_, _, none⟩)) (Y.fa0 fa_68_0 rfl) ?_
          refine Ops.y (v := .pointer (some ⟨_, _, none⟩)) (Y.fa0 fa_65_0 rfl) ?_
          refine Ops.y (v := .int .i64 _) (Y.loadv ty_3 rfl (I.rdbox 0 rfl 0 1) rfl rfl) ?_
          refine Ops.y (v := .int .i64 _) (Y.move rfl) ?_
          refine Ops.y (v := .pointer (some ⟨_, _, none⟩)) (Y.idx Tryz.underlying45 Tryz.sizeOf3 rfl rfl hh.1 hh.2) ?_
          refine Ops.go (O.store1 I ty_3 1 rfl rfl (i := p.rules.xs[m].head.pred.toNat) (by omega) (by rw [g2.len]; omega) rfl rfl rfl ?_)
          intro w I
          refine Ops.nil ?_
          refine WP.region ?_
          refine Ops.y (v := .bool _) (Y.assign rfl) ?_
          refine Ops.nil ?_
          refine WP.region ?_
          refine Ops.y (v := .int .i64 _) (Y.move rfl) ?_
          refine Ops.y (v := .int .i64 _) (Y.addi rfl rfl ⟨by omega, by omega⟩) ?_
          refine Ops.y (v := .int .i64 _) (Y.assign rfl) ?_
          refine Ops.nil ?_
          exact ⟨(k + 1, false, L2.set p.rules.xs[m].head.pred.toNat (lst L2 (p.rules.xs[m].head.pred, p.rules.xs[m].body.xs[k]))), ⟨⟨rfl, rfl, rfl, rfl, rfl, rfl, rfl, rfl, rfl, trivial⟩, I, hk', by rw [map_take _ hk', ← List.append_assoc]; exact pa2.raise hr hmem h16, fun i => by have := bound_raise hr g2.len hb2 hmem i; dsimp only at this ⊢; omega⟩, by dsimp only; omega⟩
        · refine WP.skip ?_
          refine WP.region ?_
          refine Ops.y (v := .int .i64 _) (Y.move rfl) ?_
          refine Ops.y (v := .int .i64 _) (Y.addi rfl rfl ⟨by omega, by omega⟩) ?_
          refine Ops.y (v := .int .i64 _) (Y.assign rfl) ?_
          refine Ops.nil ?_
          exact ⟨(k + 1, same2, L2), ⟨⟨rfl, rfl, rfl, rfl, rfl, rfl, rfl, rfl, rfl, trivial⟩, I, hk', by rw [map_take _ hk', ← List.append_assoc]; exact pa2.keep h16, fun i => by have := hb2 i; dsimp only at this ⊢; omega⟩, by dsimp only; omega⟩
      · refine WP.exit ?_
        refine WP.region ?_
        refine Ops.y (v := .int .i64 _) (Y.move rfl) ?_
        refine Ops.y (v := .int .i64 _) (Y.addi rfl rfl ⟨by omega, by omega⟩) ?_
        refine Ops.y (v := .int .i64 _) (Y.assign rfl) ?_
        refine Ops.nil ?_
        have hke : k = p.rules.xs[m].body.xs.length := by omega
        exact ⟨(m + 1, same2, L2), ⟨⟨rfl, rfl, rfl, rfl, rfl, rfl, rfl, trivial⟩, I.drop, hm', by rw [usesL_take' hm', ← hke]; exact pa2, fun i => by have := hb2 i; dsimp only at this ⊢; omega⟩, by dsimp only; omega⟩
    · have hme : m = p.rules.xs.length := by omega
      rw [hme, List.take_length] at pa
      refine WP.exit ?_
      refine WP.seq ?_
      refine WP.region ?_
      refine Ops.y (v := .bool _) (Y.move rfl) ?_
      refine Ops.nil ?_
      refine WP.cond rfl (fun hs => ?_) (fun hs => ?_)
      · refine WP.seq ?_
        refine WP.region ?_
        refine Ops.y (v := .slice _ _ _) (Y.move rfl) ?_
        refine Ops.y (v := .slice _ _ _) (Y.assign rfl) ?_
        refine Ops.y (v := .bool _) (Y.assign rfl) ?_
        refine Ops.nil ?_
        obtain ⟨hL, hsat⟩ := pa.t hs
        have hbo := I.at 0 rfl
        obtain ⟨h4, le4, hb4, I⟩ := I.settle
        refine WP.ret ?_
        repeat (first | refine thenE_ret ?_ | refine blockE_ret ?_)
        exact retQ.mk (vs := [.slice _ _ _, .bool _]) rfl ⟨rfl, rfl, trivial⟩ I.ext_of (.inl ⟨⟨some ⟨b14, 0, none⟩, p.preds.xs.length, L1⟩, pa.good.done (by rw [hL]; exact hsat), boxIs ((hb4 b14 (by simp [box])).trans hbo) (by rw [pa.good.len]; omega), by simp [tup, Sl.val, pa.good.len]⟩)
      · refine WP.skip ?_
        refine WP.region ?_
        refine Ops.y (v := .int .i64 _) (Y.move rfl) ?_
        refine Ops.y (v := .int .i64 _) (Y.addi rfl rfl ⟨by omega, by omega⟩) ?_
        refine Ops.y (v := .int .i64 _) (Y.assign rfl) ?_
        refine Ops.nil ?_
        refine ⟨(rd + 1, L1), ⟨⟨rfl, rfl, rfl, rfl, rfl, trivial⟩, I, pa.good, fun i => by have := hb1 i; dsimp only at this ⊢; omega, fun hsol => by have h5 := pa.f hs hsol; have h6 := hpot hsol; dsimp only; omega, by dsimp only; omega⟩, by dsimp only; omega⟩
  · rw [← hsq] at h3
    refine WP.exit ?_
    refine WP.seq ?_
    refine WP.region ?_
    refine Ops.y (v := .slice _ _ _) (Y.assign rfl) ?_
    refine Ops.y (v := .bool _) (Y.assign rfl) ?_
    refine Ops.nil ?_
    refine WP.ret ?_
    repeat (first | refine thenE_ret ?_ | refine blockE_ret ?_)
    exact retQ.mk (vs := [.slice _ _ _, .bool _]) rfl ⟨rfl, rfl, trivial⟩ I.ext_of (.inr ⟨fun M hM => by have := hpot ⟨M, hM⟩; omega, rfl⟩)
end Go.TF
end
