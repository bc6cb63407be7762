/- Texts Prog4 Prog5 Prog6 Fir7 Bas3 Bas4 BaseLaw SpRoads Fir8 Prog7 Fir9. -/
import Derived.Test.YtgblgeddpegplaaGreatU6
import Derived.Test.YtgblgeddpegplaaGreatU4
import Derived.Test.YtgblgeddpegplaaGreatU2
import Derived.Test.YtgblgeddpegplaaGreatU3
import Derived.Test.YtgblgeddpegplaaGreatU5
import Derived.KernelRfl
section
/- Names; sameness of lists; predicates that programs are checked by. -/
namespace Go.TF
open Go Go.RowKit Go.Proofs
set_option maxRecDepth 20000

theorem bget {s : ByteArray} {k : Nat} (h : k < s.size) : s[((k : Int)).toNat]? = some (s[k]'h) := by simp [h]
theorem low_iff (b : UInt8) : lowB b = true ↔ 97 ≤ b.toNat ∧ b.toNat ≤ 122 := by simp [lowB]
theorem all_low {s : ByteArray} (h : ∀ j, ∀ hj : j < s.size, lowB (s[j]'hj) = true) : s.data.toList.all lowB = true := by
  rw [List.all_eq_true]
  intro b hb
  obtain ⟨j, hj, rfl⟩ := List.getElem_of_mem hb
  exact h j (by simpa using hj)
theorem not_low {s : ByteArray} {j : Nat} (hj : j < s.size) (h : lowB (s[j]'hj) ≠ true) : s.data.toList.all lowB = false := by
  rw [List.all_eq_false]
  exact ⟨s[j]'hj, List.mem_iff_getElem.2 ⟨j, by simpa using hj, rfl⟩, h⟩
theorem IsName_ok (B : Base) (hB : B.ok) (s : ByteArray) (hs : s.size ≤ 140737488355328) : Fn Tryz.prog 71 [.string s] B (fun v _ => v = .bool (isName s)) := by
  refine Fn.of Tryz.func71 rfl Tryz.ntmps71 (by kernel_rfl) (by simp) ?_
  intro e
  have I := Inv.start hB
  refine WP.seq ?_
  refine WP.region ?_
  refine Ops.y (v := .bool _) (Y.assign rfl) ?_
  refine Ops.nil ?_
  refine WP.seq ?_
  refine WP.seq ?_
  refine WP.region ?_
  refine Ops.y (v := .int .i64 _) (Y.assign rfl) ?_
  refine Ops.nil ?_
  refine WP.block ?_
  refine WP.loopE (σ := Nat) (fun k => [(0, .string s), (3, .int .i64 k)]) (fun k w => Inv B B.h [] w ∧ k ≤ s.size ∧ ∀ j, j < k → ∀ hj : j < s.size, lowB (s[j]'hj) = true) (fun k => s.size - k)
    ⟨0, ⟨rfl, rfl, trivial⟩, I, Nat.zero_le _, fun j hj => by omega⟩ ?_
  rintro k e w ⟨I, hk, hn⟩
  refine WP.seq ?_
  refine WP.seq ?_
  refine WP.region ?_
  refine Ops.y (v := .int .i64 _) (Y.move rfl) ?_
  refine Ops.y (v := .string _) (Y.move rfl) ?_
  refine Ops.y (v := .int .i64 _) (Y.lenstr Tryz.underlying9 rfl) ?_
  refine Ops.y (v := .bool (decide _)) (Y.lti rfl rfl) ?_
  refine Ops.nil ?_
  refine WP.cond_dec rfl (fun h => ?_) (fun h => ?_)
  · have hk' : k < s.size := by omega
    refine WP.skip ?_
    refine WP.seq ?_
    refine WP.block ?_
    refine WP.seq ?_
    by_cases o0 : ((s[k]'hk').toNat : Int) < 97
    · refine WP.region ?_
      refine Ops.y (v := .string _) (Y.move rfl) ?_
      refine Ops.y (v := .int .i64 _) (Y.move rfl) ?_
      refine Ops.y (v := .int .u8 _) (Y.idxs Tryz.underlying9 rfl rfl (Int.natCast_nonneg _) (bget hk')) ?_
      refine Ops.y (v := .bool true) (Y.dec_t (Y.lti rfl rfl) (o0)) ?_
      refine Ops.y (v := .bool _) (Y.move rfl) ?_
      refine Ops.gf rfl ?_
      refine Ops.gf rfl ?_
      refine Ops.gf rfl ?_
      refine Ops.gf rfl ?_
      refine Ops.y (v := .bool _) (Y.pick_t rfl rfl) ?_
      refine Ops.nil ?_
      refine WP.cond_t rfl ?_
      refine WP.seq ?_
      refine WP.region ?_
      refine Ops.y (v := .bool _) (Y.assign rfl) ?_
      refine Ops.nil ?_
      refine WP.ret ?_
      repeat (first | refine thenE_ret ?_ | refine blockE_ret ?_)
      exact retQ.mk (vs := [.bool _]) rfl ⟨rfl, trivial⟩ I.ext_of (by simp only [tup, isName]; rw [not_low hk' (fun hl => by have := (low_iff _).1 hl; omega), Bool.and_false])
    by_cases o1 : 122 < ((s[k]'hk').toNat : Int)
    · refine WP.region ?_
      refine Ops.y (v := .string _) (Y.move rfl) ?_
      refine Ops.y (v := .int .i64 _) (Y.move rfl) ?_
      refine Ops.y (v := .int .u8 _) (Y.idxs Tryz.underlying9 rfl rfl (Int.natCast_nonneg _) (bget hk')) ?_
      refine Ops.y (v := .bool false) (Y.dec_f (Y.lti rfl rfl) (o0)) ?_
      refine Ops.y (v := .bool _) (Y.move rfl) ?_
      refine Ops.ygt rfl (v := .string _) (Y.move rfl) ?_
      refine Ops.ygt rfl (v := .int .i64 _) (Y.move rfl) ?_
      refine Ops.ygt rfl (v := .int .u8 _) (Y.idxs Tryz.underlying9 rfl rfl (Int.natCast_nonneg _) (bget hk')) ?_
      refine Ops.ygt rfl (v := .bool true) (Y.dec_t (Y.gti rfl rfl) (o1)) ?_
      refine Ops.y (v := .bool _) (Y.pick_f rfl rfl) ?_
      refine Ops.nil ?_
      refine WP.cond_t rfl ?_
      refine WP.seq ?_
      refine WP.region ?_
      refine Ops.y (v := .bool _) (Y.assign rfl) ?_
      refine Ops.nil ?_
      refine WP.ret ?_
      repeat (first | refine thenE_ret ?_ | refine blockE_ret ?_)
      exact retQ.mk (vs := [.bool _]) rfl ⟨rfl, trivial⟩ I.ext_of (by simp only [tup, isName]; rw [not_low hk' (fun hl => by have := (low_iff _).1 hl; omega), Bool.and_false])
    refine WP.region ?_
    refine Ops.y (v := .string _) (Y.move rfl) ?_
    refine Ops.y (v := .int .i64 _) (Y.move rfl) ?_
    refine Ops.y (v := .int .u8 _) (Y.idxs Tryz.underlying9 rfl rfl (Int.natCast_nonneg _) (bget hk')) ?_
    refine Ops.y (v := .bool false) (Y.dec_f (Y.lti rfl rfl) (o0)) ?_
    refine Ops.y (v := .bool _) (Y.move rfl) ?_
    refine Ops.ygt rfl (v := .string _) (Y.move rfl) ?_
    refine Ops.ygt rfl (v := .int .i64 _) (Y.move rfl) ?_
    refine Ops.ygt rfl (v := .int .u8 _) (Y.idxs Tryz.underlying9 rfl rfl (Int.natCast_nonneg _) (bget hk')) ?_
    refine Ops.ygt rfl (v := .bool false) (Y.dec_f (Y.gti rfl rfl) (o1)) ?_
    refine Ops.y (v := .bool _) (Y.pick_f rfl rfl) ?_
    refine Ops.nil ?_
    refine WP.cond_f rfl ?_
    refine WP.skip ?_
    refine WP.region ?_
    refine Ops.y (v := .int .i64 _) (Y.move rfl) ?_
    refine Ops.y (v := .int .i64 _) (Y.addi rfl rfl ⟨by omega, by omega⟩) ?_
    refine Ops.y (v := .int .i64 _) (Y.assign rfl) ?_
    refine Ops.nil ?_
    exact ⟨k + 1, ⟨⟨rfl, rfl, trivial⟩, I, hk', fun j hj hj' => by
      rcases Nat.lt_succ_iff_lt_or_eq.1 hj with h' | rfl
      · exact hn j h' hj'
      · exact (low_iff _).2 (by omega)⟩, by omega⟩
  refine WP.exit ?_
  refine WP.seq ?_
  refine WP.region ?_
  refine Ops.y (v := .string _) (Y.move rfl) ?_
  refine Ops.y (v := .int .i64 _) (Y.lenstr Tryz.underlying9 rfl) ?_
  refine Ops.go (O.callv I Tryz.call72 (within_ok _ I.base_ok _ _ _) rfl ?_)
  intro w I
  refine Ops.y (v := .bool _) (Y.assign rfl) ?_
  refine Ops.nil ?_
  refine WP.ret ?_
  repeat (first | refine thenE_ret ?_ | refine blockE_ret ?_)
  exact retQ.mk (vs := [.bool _]) rfl ⟨rfl, trivial⟩ I.ext_of (by simp only [tup, isName, within]; rw [all_low (fun j hj => hn j (by omega) hj), Bool.and_true, ← Bool.decide_and]; congr 2; apply propext; omega)
theorem Name1_ok (B : Base) (hB : B.ok) (r : Int) : Fn Tryz.prog 164 [.int .i32 r] B (fun v _ => v = .bool (decide (r < 97 ∨ 122 < r))) := by
  by_cases h : r < 97
  · refine Fn.of Tryz.func164 rfl Tryz.ntmps164 (by kernel_rfl) (by simp) ?_
    intro e
    have I := Inv.start hB
    refine WP.seq ?_
    refine WP.region ?_
    refine Ops.y (v := .bool _) (Y.assign rfl) ?_
    refine Ops.nil ?_
    refine WP.seq ?_
    refine WP.region ?_
    refine Ops.y (v := .int .i32 _) (Y.move rfl) ?_
    refine Ops.y (v := .bool true) (Y.dec_t (Y.lti rfl rfl) (h)) ?_
    refine Ops.y (v := .bool _) (Y.move rfl) ?_
    refine Ops.gf rfl ?_
    refine Ops.gf rfl ?_
    refine Ops.y (v := .bool _) (Y.pick_t rfl rfl) ?_
    refine Ops.y (v := .bool _) (Y.assign rfl) ?_
    refine Ops.nil ?_
    refine WP.ret ?_
    repeat (first | refine thenE_ret ?_ | refine blockE_ret ?_)
    exact retQ.mk (vs := [.bool _]) rfl ⟨rfl, trivial⟩ I.ext_of (by simp only [tup]; rw [decide_eq_true (Or.inl h)])
  · refine Fn.of Tryz.func164 rfl Tryz.ntmps164 (by kernel_rfl) (by simp) ?_
    intro e
    have I := Inv.start hB
    refine WP.seq ?_
    refine WP.region ?_
    refine Ops.y (v := .bool _) (Y.assign rfl) ?_
    refine Ops.nil ?_
    refine WP.seq ?_
    refine WP.region ?_
    refine Ops.y (v := .int .i32 _) (Y.move rfl) ?_
    refine Ops.y (v := .bool false) (Y.dec_f (Y.lti rfl rfl) (h)) ?_
    refine Ops.y (v := .bool _) (Y.move rfl) ?_
    refine Ops.ygt rfl (v := .int .i32 _) (Y.move rfl) ?_
    refine Ops.ygt rfl (v := .bool (decide _)) (Y.gti rfl rfl) ?_
    refine Ops.y (v := .bool _) (Y.pick_f rfl rfl) ?_
    refine Ops.y (v := .bool _) (Y.assign rfl) ?_
    refine Ops.nil ?_
    refine WP.ret ?_
    repeat (first | refine thenE_ret ?_ | refine blockE_ret ?_)
    exact retQ.mk (vs := [.bool _]) rfl ⟨rfl, trivial⟩ I.ext_of (by simp only [tup]; congr 1; rw [decide_eq_decide]; omega)
/-- What indexFunc hands back: not negative, just if a byte is no low letter. -/
def IdxP (s : ByteArray) (v : Value) : Prop := ∃ r : Int, v = .int .i64 r ∧ decide (0 ≤ r) = !(s.data.toList.all lowB)
theorem indexFunc_ok (B : Base) (hB : B.ok) (s : ByteArray) : Fn Tryz.prog 194 [.string s, .func (.func 164) #[] #[], .bool true] B (fun v _ => IdxP s v) := by
  refine Fn.of Tryz.func194 rfl Tryz.ntmps194 (by kernel_rfl) (by simp) ?_
  intro e
  have I := Inv.start hB
  refine WP.seq ?_
  refine WP.region ?_
  refine Ops.y (v := .int .i64 _) (Y.assign rfl) ?_
  refine Ops.nil ?_
  refine WP.seq ?_
  refine WP.seq ?_
  refine WP.region ?_
  refine Ops.y (v := .string _) (Y.move rfl) ?_
  refine Ops.go (O.ranges I Tryz.underlying9 rfl ?_)
  intro b10 w I
  refine Ops.nil ?_
  refine WP.block ?_
  refine WP.loopE (σ := Nat) (fun _ => [(0, .string s), (1, .func (.func 164) #[] #[]), (2, .bool true), (10, .pointer (some ⟨b10, 0, none⟩))]) (fun k w => Inv B B.h [sit b10 s k] w ∧ k ≤ s.size ∧ ∀ j, j < k → ∀ hj : j < s.size, lowB (s[j]'hj) = true) (fun k => s.size - k)
    ⟨0, ⟨rfl, rfl, rfl, rfl, trivial⟩, I, Nat.zero_le _, fun j hj => by omega⟩ ?_
  rintro k e w ⟨I, hk, hn⟩
  refine WP.seq ?_
  refine WP.region ?_
  refine Ops.go (O.nexts I 0 rfl rfl ?_ ?_)
  · intro hend
    refine Ops.y (v := .bool _) (Y.extract rfl rfl) ?_
    refine Ops.nil ?_
    refine WP.seq ?_
    refine WP.cond_f rfl ?_
    refine WP.exit ?_
    refine WP.seq ?_
    refine WP.region ?_
    refine Ops.y (v := .int .i64 _) (Y.assign rfl) ?_
    refine Ops.nil ?_
    refine WP.ret ?_
    repeat (first | refine thenE_ret ?_ | refine blockE_ret ?_)
    exact retQ.mk (vs := [.int .i64 _]) rfl ⟨rfl, trivial⟩ I.ext_of (⟨-1, rfl, by rw [all_low (fun j hj => hn j (by omega) hj)]; rfl⟩)
  · intro hlt w I
    refine Ops.y (v := .bool _) (Y.extract rfl rfl) ?_
    refine Ops.nil ?_
    refine WP.seq ?_
    refine WP.cond_t rfl ?_
    refine WP.skip ?_
    refine WP.block ?_
    refine WP.seq ?_
    refine WP.region ?_
    refine Ops.y (v := .int .i64 _) (Y.extract rfl rfl) ?_
    refine Ops.y (v := .int .i32 _) (Y.extract rfl rfl) ?_
    refine Ops.y (v := .int .i64 _) (Y.assign rfl) ?_
    refine Ops.y (v := .int .i32 _) (Y.assign rfl) ?_
    refine Ops.nil ?_
    by_cases ha : (s[k]'hlt).toNat < 128
    · rw [decode_ascii s k hlt ha] at I ⊢
      by_cases hlow : lowB (s[k]'hlt) = true
      · have hl := (low_iff _).1 hlow
        refine WP.seq ?_
        refine WP.region ?_
        refine Ops.y (v := .func _ _ _) (Y.move rfl) ?_
        refine Ops.y (v := .int .i32 _) (Y.move rfl) ?_
        refine Ops.go (O.callcv I Tryz.call164 (fs := []) (cs := []) rfl (Name1_ok _ I.base_ok _) rfl ?_)
        intro w I
        refine Ops.y (v := .bool _) (Y.move rfl) ?_
        refine Ops.y (v := .bool false) (Y.dec_f (Y.eqb Tryz.underlying4 rfl rfl) ((by rw [decide_eq_false (by omega)]; decide))) ?_
        refine Ops.nil ?_
        refine WP.cond_f rfl ?_
        refine WP.skip ?_
        exact ⟨k + 1, ⟨⟨rfl, rfl, rfl, rfl, trivial⟩, I, hlt, fun j hj hj' => by
          rcases Nat.lt_succ_iff_lt_or_eq.1 hj with h' | rfl
          · exact hn j h' hj'
          · exact hlow⟩, by omega⟩
      · have hl : ¬ (97 ≤ (s[k]'hlt).toNat ∧ (s[k]'hlt).toNat ≤ 122) := fun h => hlow ((low_iff _).2 h)
        refine WP.seq ?_
        refine WP.region ?_
        refine Ops.y (v := .func _ _ _) (Y.move rfl) ?_
        refine Ops.y (v := .int .i32 _) (Y.move rfl) ?_
        refine Ops.go (O.callcv I Tryz.call164 (fs := []) (cs := []) rfl (Name1_ok _ I.base_ok _) rfl ?_)
        intro w I
        refine Ops.y (v := .bool _) (Y.move rfl) ?_
        refine Ops.y (v := .bool true) (Y.dec_t (Y.eqb Tryz.underlying4 rfl rfl) ((by rw [decide_eq_true (by omega)]))) ?_
        refine Ops.nil ?_
        refine WP.cond_t rfl ?_
        refine WP.seq ?_
        refine WP.region ?_
        refine Ops.y (v := .int .i64 _) (Y.move rfl) ?_
        refine Ops.y (v := .int .i64 _) (Y.assign rfl) ?_
        refine Ops.nil ?_
        refine WP.ret ?_
        repeat (first | refine thenE_ret ?_ | refine blockE_ret ?_)
        exact retQ.mk (vs := [.int .i64 _]) rfl ⟨rfl, trivial⟩ I.ext_of (⟨k, rfl, by rw [not_low hlt hlow]; simp⟩)
    · have hd := decode_high s k hlt (by omega)
      refine WP.seq ?_
      refine WP.region ?_
      refine Ops.y (v := .func _ _ _) (Y.move rfl) ?_
      refine Ops.y (v := .int .i32 _) (Y.move rfl) ?_
      refine Ops.go (O.callcv I Tryz.call164 (fs := []) (cs := []) rfl (Name1_ok _ I.base_ok _) rfl ?_)
      intro w I
      refine Ops.y (v := .bool _) (Y.move rfl) ?_
      refine Ops.y (v := .bool true) (Y.dec_t (Y.eqb Tryz.underlying4 rfl rfl) ((by rw [decide_eq_true (by omega)]))) ?_
      refine Ops.nil ?_
      refine WP.cond_t rfl ?_
      refine WP.seq ?_
      refine WP.region ?_
      refine Ops.y (v := .int .i64 _) (Y.move rfl) ?_
      refine Ops.y (v := .int .i64 _) (Y.assign rfl) ?_
      refine Ops.nil ?_
      refine WP.ret ?_
      repeat (first | refine thenE_ret ?_ | refine blockE_ret ?_)
      exact retQ.mk (vs := [.int .i64 _]) rfl ⟨rfl, trivial⟩ I.ext_of (⟨k, rfl, by rw [not_low hlt (fun h => by have := (low_iff _).1 h; omega)]; simp⟩)
theorem SIndexFunc_ok (B : Base) (hB : B.ok) (s : ByteArray) : Fn Tryz.prog 184 [.string s, .func (.func 164) #[] #[]] B (fun v _ => IdxP s v) := by
  refine Fn.of Tryz.func184 rfl Tryz.ntmps184 (by kernel_rfl) (by simp) ?_
  intro e
  have I := Inv.start hB
  refine WP.seq ?_
  refine WP.region ?_
  refine Ops.y (v := .int .i64 _) (Y.assign rfl) ?_
  refine Ops.nil ?_
  refine WP.seq ?_
  refine WP.region ?_
  refine Ops.y (v := .string _) (Y.move rfl) ?_
  refine Ops.y (v := .func _ _ _) (Y.move rfl) ?_
  refine Ops.go (O.call I Tryz.call194 (indexFunc_ok _ I.base_ok s) rfl ?_)
  rintro _ h2 w I le2 ⟨r, rfl, hr⟩
  refine Ops.y (v := .int .i64 _) (Y.assign rfl) ?_
  refine Ops.nil ?_
  refine WP.ret ?_
  repeat (first | refine thenE_ret ?_ | refine blockE_ret ?_)
  exact retQ.mk (vs := [.int .i64 _]) rfl ⟨rfl, trivial⟩ I.ext_of (⟨r, rfl, hr⟩)
theorem SContainsFunc_ok (B : Base) (hB : B.ok) (s : ByteArray) : Fn Tryz.prog 163 [.string s, .func (.func 164) #[] #[]] B (fun v _ => v = .bool !(s.data.toList.all lowB)) := by
  refine Fn.of Tryz.func163 rfl Tryz.ntmps163 (by kernel_rfl) (by simp) ?_
  intro e
  have I := Inv.start hB
  refine WP.seq ?_
  refine WP.region ?_
  refine Ops.y (v := .bool _) (Y.assign rfl) ?_
  refine Ops.nil ?_
  refine WP.seq ?_
  refine WP.region ?_
  refine Ops.y (v := .string _) (Y.move rfl) ?_
  refine Ops.y (v := .func _ _ _) (Y.move rfl) ?_
  refine Ops.go (O.call I Tryz.call184 (SIndexFunc_ok _ I.base_ok s) rfl ?_)
  rintro _ h2 w I le2 ⟨r, rfl, hr⟩
  refine Ops.y (v := .bool (decide _)) (Y.gei rfl rfl) ?_
  refine Ops.y (v := .bool _) (Y.assign rfl) ?_
  refine Ops.nil ?_
  refine WP.ret ?_
  repeat (first | refine thenE_ret ?_ | refine blockE_ret ?_)
  exact retQ.mk (vs := [.bool _]) rfl ⟨rfl, trivial⟩ I.ext_of (by simp only [tup]; rw [hr])
theorem Name_ok (B : Base) (hB : B.ok) (s : ByteArray) (hs : s.size ≤ 140737488355328) : Fn Tryz.prog 123 [.string s] B (fun v _ => v = .bool (isName s)) := by
  by_cases h1 : (0 : Int) < s.size
  · by_cases h2 : (s.size : Int) ≤ 8
    · refine Fn.of Tryz.func123 rfl Tryz.ntmps123 (by kernel_rfl) (by simp) ?_
      intro e
      have I := Inv.start hB
      refine WP.seq ?_
      refine WP.region ?_
      refine Ops.y (v := .bool _) (Y.assign rfl) ?_
      refine Ops.nil ?_
      refine WP.seq ?_
      refine WP.region ?_
      refine Ops.y (v := .string _) (Y.move rfl) ?_
      refine Ops.y (v := .int .i64 _) (Y.lenstr Tryz.underlying9 rfl) ?_
      refine Ops.y (v := .bool true) (Y.dec_t (Y.gti rfl rfl) (h1)) ?_
      refine Ops.y (v := .bool _) (Y.move rfl) ?_
      refine Ops.ygt rfl (v := .string _) (Y.move rfl) ?_
      refine Ops.ygt rfl (v := .int .i64 _) (Y.lenstr Tryz.underlying9 rfl) ?_
      refine Ops.ygt rfl (v := .bool true) (Y.dec_t (Y.lei rfl rfl) (h2)) ?_
      refine Ops.y (v := .bool _) (Y.pick_t rfl rfl) ?_
      refine Ops.y (v := .bool _) (Y.move rfl) ?_
      refine Ops.ygt rfl (v := .string _) (Y.move rfl) ?_
      refine Ops.gt rfl (O.callv I Tryz.call163 (SContainsFunc_ok _ I.base_ok s) rfl ?_)
      intro w I
      refine Ops.ygt rfl (v := .bool _) (Y.not rfl) ?_
      refine Ops.y (v := .bool _) (Y.pick_t rfl rfl) ?_
      refine Ops.y (v := .bool _) (Y.assign rfl) ?_
      refine Ops.nil ?_
      refine WP.ret ?_
      repeat (first | refine thenE_ret ?_ | refine blockE_ret ?_)
      exact retQ.mk (vs := [.bool _]) rfl ⟨rfl, trivial⟩ I.ext_of (by simp only [tup, isName]; rw [decide_eq_true (show 1 ≤ s.size by omega), decide_eq_true (show s.size ≤ 8 by omega)]; simp)
    · refine Fn.of Tryz.func123 rfl Tryz.ntmps123 (by kernel_rfl) (by simp) ?_
      intro e
      have I := Inv.start hB
      refine WP.seq ?_
      refine WP.region ?_
      refine Ops.y (v := .bool _) (Y.assign rfl) ?_
      refine Ops.nil ?_
      refine WP.seq ?_
      refine WP.region ?_
      refine Ops.y (v := .string _) (Y.move rfl) ?_
      refine Ops.y (v := .int .i64 _) (Y.lenstr Tryz.underlying9 rfl) ?_
      refine Ops.y (v := .bool true) (Y.dec_t (Y.gti rfl rfl) (h1)) ?_
      refine Ops.y (v := .bool _) (Y.move rfl) ?_
      refine Ops.ygt rfl (v := .string _) (Y.move rfl) ?_
      refine Ops.ygt rfl (v := .int .i64 _) (Y.lenstr Tryz.underlying9 rfl) ?_
      refine Ops.ygt rfl (v := .bool false) (Y.dec_f (Y.lei rfl rfl) (h2)) ?_
      refine Ops.y (v := .bool _) (Y.pick_t rfl rfl) ?_
      refine Ops.y (v := .bool _) (Y.move rfl) ?_
      refine Ops.gf rfl ?_
      refine Ops.gf rfl ?_
      refine Ops.gf rfl ?_
      refine Ops.y (v := .bool _) (Y.pick_f rfl rfl) ?_
      refine Ops.y (v := .bool _) (Y.assign rfl) ?_
      refine Ops.nil ?_
      refine WP.ret ?_
      repeat (first | refine thenE_ret ?_ | refine blockE_ret ?_)
      exact retQ.mk (vs := [.bool _]) rfl ⟨rfl, trivial⟩ I.ext_of (by simp only [tup, isName]; rw [decide_eq_false (show ¬ s.size ≤ 8 by omega)]; simp)
  · refine Fn.of Tryz.func123 rfl Tryz.ntmps123 (by kernel_rfl) (by simp) ?_
    intro e
    have I := Inv.start hB
    refine WP.seq ?_
    refine WP.region ?_
    refine Ops.y (v := .bool _) (Y.assign rfl) ?_
    refine Ops.nil ?_
    refine WP.seq ?_
    refine WP.region ?_
    refine Ops.y (v := .string _) (Y.move rfl) ?_
    refine Ops.y (v := .int .i64 _) (Y.lenstr Tryz.underlying9 rfl) ?_
    refine Ops.y (v := .bool false) (Y.dec_f (Y.gti rfl rfl) (h1)) ?_
    refine Ops.y (v := .bool _) (Y.move rfl) ?_
    refine Ops.gf rfl ?_
    refine Ops.gf rfl ?_
    refine Ops.gf rfl ?_
    refine Ops.y (v := .bool _) (Y.pick_f rfl rfl) ?_
    refine Ops.y (v := .bool _) (Y.move rfl) ?_
    refine Ops.gf rfl ?_
    refine Ops.gf rfl ?_
    refine Ops.gf rfl ?_
    refine Ops.y (v := .bool _) (Y.pick_f rfl rfl) ?_
    refine Ops.y (v := .bool _) (Y.assign rfl) ?_
    refine Ops.nil ?_
    refine WP.ret ?_
    repeat (first | refine thenE_ret ?_ | refine blockE_ret ?_)
    exact retQ.mk (vs := [.bool _]) rfl ⟨rfl, trivial⟩ I.ext_of (by simp only [tup, isName]; rw [decide_eq_false (show ¬ 1 ≤ s.size by omega)]; simp)
end Go.TF
end
section
/- prog.Check. -/
namespace Go.TF
open Go Go.RowKit Go.Proofs
set_option maxRecDepth 20000

theorem Check2_ok (B : Base) (hB : B.ok) (x : Prd) (hx : x.name.size ≤ 140737488355328) : Fn Tryz.prog 122 [x.val] B (fun v _ => v = .bool !(isName x.name)) := by
  refine Fn.of Tryz.func122 rfl Tryz.ntmps122 (by kernel_rfl) (by simp) ?_
  intro e
  have I := Inv.start hB
  refine WP.seq ?_
  refine WP.region ?_
  refine Ops.go (O.box (v := .agg #[_, _, _]) I rfl rfl ?_)
  intro b1 w I
  refine Ops.y (v := .bool _) (Y.assign rfl) ?_
  refine Ops.nil ?_
  refine WP.seq ?_
  refine WP.region ?_
  refine Ops.y (v := .pointer (some ⟨_, _, none⟩)) (Y.fa0 fa_62_0 rfl) ?_
  refine Ops.y (v := .string _) (Y.loadv ty_9 rfl (I.rdbox 0 rfl 0 1) rfl rfl) ?_
  refine Ops.go (O.callv I Tryz.call123 (Name_ok _ I.base_ok x.name hx) rfl ?_)
  intro w I
  refine Ops.y (v := .bool _) (Y.not rfl) ?_
  refine Ops.y (v := .bool _) (Y.assign rfl) ?_
  refine Ops.nil ?_
  refine WP.ret ?_
  repeat (first | refine thenE_ret ?_ | refine blockE_ret ?_)
  exact retQ.mk (vs := [.bool _]) rfl ⟨rfl, trivial⟩ I.ext_of (rfl)
theorem Check4_ok (B : Base) (hB : B.ok) (x : Prd) : Fn Tryz.prog 125 [x.val] B (fun v _ => v = .bool (badArity x)) := by
  by_cases h : x.arity < 0
  · refine Fn.of Tryz.func125 rfl Tryz.ntmps125 (by kernel_rfl) (by simp) ?_
    intro e
    have I := Inv.start hB
    refine WP.seq ?_
    refine WP.region ?_
    refine Ops.go (O.box (v := .agg #[_, _, _]) I rfl rfl ?_)
    intro b1 w I
    refine Ops.y (v := .bool _) (Y.assign rfl) ?_
    refine Ops.nil ?_
    refine WP.seq ?_
    refine WP.region ?_
    refine Ops.y (v := .pointer (some ⟨_, _, none⟩)) (Y.fa fa_62_1 rfl) ?_
    refine Ops.y (v := .int .i64 _) (Y.loadv ty_3 rfl (I.rdbox 0 rfl 1 1) rfl rfl) ?_
    refine Ops.y (v := .bool true) (Y.dec_t (Y.lti rfl rfl) (h)) ?_
    refine Ops.y (v := .bool _) (Y.move rfl) ?_
    refine Ops.gf rfl ?_
    refine Ops.gf rfl ?_
    refine Ops.gf rfl ?_
    refine Ops.y (v := .bool _) (Y.pick_t rfl rfl) ?_
    refine Ops.y (v := .bool _) (Y.assign rfl) ?_
    refine Ops.nil ?_
    refine WP.ret ?_
    repeat (first | refine thenE_ret ?_ | refine blockE_ret ?_)
    exact retQ.mk (vs := [.bool _]) rfl ⟨rfl, trivial⟩ I.ext_of (by simp only [tup, badArity]; rw [decide_eq_true (Or.inl h)])
  · refine Fn.of Tryz.func125 rfl Tryz.ntmps125 (by kernel_rfl) (by simp) ?_
    intro e
    have I := Inv.start hB
    refine WP.seq ?_
    refine WP.region ?_
    refine Ops.go (O.box (v := .agg #[_, _, _]) I rfl rfl ?_)
    intro b1 w I
    refine Ops.y (v := .bool _) (Y.assign rfl) ?_
    refine Ops.nil ?_
    refine WP.seq ?_
    refine WP.region ?_
    refine Ops.y (v := .pointer (some ⟨_, _, none⟩)) (Y.fa fa_62_1 rfl) ?_
    refine Ops.y (v := .int .i64 _) (Y.loadv ty_3 rfl (I.rdbox 0 rfl 1 1) rfl rfl) ?_
    refine Ops.y (v := .bool false) (Y.dec_f (Y.lti rfl rfl) (h)) ?_
    refine Ops.y (v := .bool _) (Y.move rfl) ?_
    refine Ops.ygt rfl (v := .pointer (some ⟨_, _, none⟩)) (Y.fa fa_62_1 rfl) ?_
    refine Ops.ygt rfl (v := .int .i64 _) (Y.loadv ty_3 rfl (I.rdbox 0 rfl 1 1) rfl rfl) ?_
    refine Ops.ygt rfl (v := .bool (decide _)) (Y.gti rfl rfl) ?_
    refine Ops.y (v := .bool _) (Y.pick_f rfl rfl) ?_
    refine Ops.y (v := .bool _) (Y.assign rfl) ?_
    refine Ops.nil ?_
    refine WP.ret ?_
    repeat (first | refine thenE_ret ?_ | refine blockE_ret ?_)
    exact retQ.mk (vs := [.bool _]) rfl ⟨rfl, trivial⟩ I.ext_of (by simp only [tup, badArity]; congr 1; rw [decide_eq_decide]; omega)
theorem Check5_ok (B : Base) (hB : B.ok) (x : Prd) : Fn Tryz.prog 126 [x.val] B (fun v _ => v = .bool (badKind x)) := by
  by_cases h : x.kind < 0
  · refine Fn.of Tryz.func126 rfl Tryz.ntmps126 (by kernel_rfl) (by simp) ?_
    intro e
    have I := Inv.start hB
    refine WP.seq ?_
    refine WP.region ?_
    refine Ops.go (O.box (v := .agg #[_, _, _]) I rfl rfl ?_)
    intro b1 w I
    refine Ops.y (v := .bool _) (Y.assign rfl) ?_
    refine Ops.nil ?_
    refine WP.seq ?_
    refine WP.region ?_
    refine Ops.y (v := .pointer (some ⟨_, _, none⟩)) (Y.fa fa_62_2 rfl) ?_
    refine Ops.y (v := .int .i64 _) (Y.loadv ty_3 rfl (I.rdbox 0 rfl 2 1) rfl rfl) ?_
    refine Ops.y (v := .bool true) (Y.dec_t (Y.lti rfl rfl) (h)) ?_
    refine Ops.y (v := .bool _) (Y.move rfl) ?_
    refine Ops.gf rfl ?_
    refine Ops.gf rfl ?_
    refine Ops.gf rfl ?_
    refine Ops.y (v := .bool _) (Y.pick_t rfl rfl) ?_
    refine Ops.y (v := .bool _) (Y.assign rfl) ?_
    refine Ops.nil ?_
    refine WP.ret ?_
    repeat (first | refine thenE_ret ?_ | refine blockE_ret ?_)
    exact retQ.mk (vs := [.bool _]) rfl ⟨rfl, trivial⟩ I.ext_of (by simp only [tup, badKind]; rw [decide_eq_true (Or.inl h)])
  · refine Fn.of Tryz.func126 rfl Tryz.ntmps126 (by kernel_rfl) (by simp) ?_
    intro e
    have I := Inv.start hB
    refine WP.seq ?_
    refine WP.region ?_
    refine Ops.go (O.box (v := .agg #[_, _, _]) I rfl rfl ?_)
    intro b1 w I
    refine Ops.y (v := .bool _) (Y.assign rfl) ?_
    refine Ops.nil ?_
    refine WP.seq ?_
    refine WP.region ?_
    refine Ops.y (v := .pointer (some ⟨_, _, none⟩)) (Y.fa fa_62_2 rfl) ?_
    refine Ops.y (v := .int .i64 _) (Y.loadv ty_3 rfl (I.rdbox 0 rfl 2 1) rfl rfl) ?_
    refine Ops.y (v := .bool false) (Y.dec_f (Y.lti rfl rfl) (h)) ?_
    refine Ops.y (v := .bool _) (Y.move rfl) ?_
    refine Ops.ygt rfl (v := .pointer (some ⟨_, _, none⟩)) (Y.fa fa_62_2 rfl) ?_
    refine Ops.ygt rfl (v := .int .i64 _) (Y.loadv ty_3 rfl (I.rdbox 0 rfl 2 1) rfl rfl) ?_
    refine Ops.ygt rfl (v := .bool (decide _)) (Y.gti rfl rfl) ?_
    refine Ops.y (v := .bool _) (Y.pick_f rfl rfl) ?_
    refine Ops.y (v := .bool _) (Y.assign rfl) ?_
    refine Ops.nil ?_
    refine WP.ret ?_
    repeat (first | refine thenE_ret ?_ | refine blockE_ret ?_)
    exact retQ.mk (vs := [.bool _]) rfl ⟨rfl, trivial⟩ I.ext_of (by simp only [tup, badKind]; congr 1; rw [decide_eq_decide]; omega)
theorem PChk1_ok (B : Base) (hB : B.ok) (p : Prg) (b : Nat) (hb : PBox B.h b p) (hl : Prds p.preds B.h) (f : FuncId) (ent : Enters Tryz.prog f) (fs cs : List Value) (q : Prd → Bool) (hq : PredFn Tryz.prog f fs cs B.h Prd.val p.preds.xs q) :
    Fn Tryz.prog 121 [.func (.func f) fs.toArray cs.toArray, .pointer (some ⟨b, 0, none⟩)] B (fun v _ => v = .bool (p.preds.xs.any q)) := by
  refine Fn.of Tryz.func121 rfl Tryz.ntmps121 (by kernel_rfl) (by simp) ?_
  intro e
  have I := Inv.start hB
  refine WP.seq ?_
  refine WP.region ?_
  refine Ops.y (v := .bool _) (Y.assign rfl) ?_
  refine Ops.nil ?_
  refine WP.seq ?_
  refine WP.region ?_
  refine Ops.y (v := .pointer (some ⟨_, _, none⟩)) (Y.fa0 fa_25_0 rfl) ?_
  refine Ops.y (v := .slice _ _ _) (Y.loadv ty_22 rfl (I.rd (rdHb hb 0 1)) rfl rfl) ?_
  refine Ops.y (v := .func _ _ _) (Y.move rfl) ?_
  refine Ops.go (O.callv I Tryz.call104 (ContainsFuncPrd_ok _ I.base_ok p.preds hl f ent fs cs q hq) rfl ?_)
  intro w I
  refine Ops.y (v := .bool _) (Y.assign rfl) ?_
  refine Ops.nil ?_
  refine WP.ret ?_
  repeat (first | refine thenE_ret ?_ | refine blockE_ret ?_)
  exact retQ.mk (vs := [.bool _]) rfl ⟨rfl, trivial⟩ I.ext_of (rfl)

/-! ### A predicate that keeps something -/
theorem IndexFuncPrd_S (l : Sl Prd) (h0 : Heap) (hl : l.Is 3 Prd.enc h0) (f : FuncId) (ent : Enters Tryz.prog f) (fs cs : List Value) (J : Heap → Nat → World → Prop) (q : Nat → Bool)
    (hok : ∀ hg k W, J hg k W → Base.ok ⟨W, hg⟩)
    (hp : ∀ hg k x W, h0.le hg → l.xs[k]? = some x → J hg k W → Calls Tryz.prog f (fs ++ [x.val] ++ cs).toArray W fun ed W' => ed = .returned (.bool (q k)) ∧ ∃ hg', hg.le hg' ∧ J hg' (k + 1) W') (hg : Heap) (W : World) (hle : h0.le hg) (j0 : J hg 0 W) :
    Calls Tryz.prog 155 [l.val, .func (.func f) fs.toArray cs.toArray].toArray W (fun ed W' => ∃ r : Int, ed = .returned (.int .i64 r) ∧ decide (0 ≤ r) = (List.range l.xs.length).any q ∧ ∃ hg' k, hg.le hg' ∧ J hg' k W') := by
  have hsm := hl.small
  refine Calls.ofWP (args := [l.val, .func (.func f) fs.toArray cs.toArray]) Tryz.func155 rfl Tryz.ntmps155 (by kernel_rfl) (by simp) ?_
  intro e
  refine WP.seq ?_
  refine WP.region ?_
  refine Ops.y (v := .int .i64 _) (Y.assign rfl) ?_
  refine Ops.nil ?_
  refine WP.seq ?_
  refine WP.seq ?_
  refine WP.region ?_
  refine Ops.y (v := .slice _ _ _) (Y.move rfl) ?_
  refine Ops.y (v := .int .i64 _) (Y.lens Tryz.underlying22 rfl) ?_
  refine Ops.y (v := .int .i64 _) (Y.move rfl) ?_
  refine Ops.nil ?_
  refine WP.block ?_
  refine WP.loopE (σ := Nat) (fun k => [(0, l.val), (1, .func (.func f) fs.toArray cs.toArray), (7, .int .i64 l.xs.length), (8, .int .i64 k)]) (fun k w => k ≤ l.xs.length ∧ (∀ j, j < k → q j = false) ∧ ∃ h1, hg.le h1 ∧ J h1 k w) (fun k => l.xs.length - k)
    ⟨0, ⟨rfl, rfl, rfl, rfl, trivial⟩, Nat.zero_le _, fun j hj => by omega, hg, Heap.le.refl _, j0⟩ ?_
  rintro k e w ⟨hk, hn, h1, gl1, j1⟩
  have I := Inv.start (hok _ _ _ j1)
  refine WP.seq ?_
  refine WP.region ?_
  refine Ops.y (v := .bool (decide _)) (Y.lti rfl rfl) ?_
  refine Ops.nil ?_
  refine WP.seq ?_
  refine WP.cond_dec rfl (fun h => ?_) (fun h => ?_)
  · have hk' : k < l.xs.length := by omega
    have E1 := (hl.le (hle.trans gl1)).at hk'
    refine WP.skip ?_
    refine WP.seq ?_
    refine WP.block ?_
    refine WP.seq ?_
    refine WP.region ?_
    refine Ops.y (v := .int .i64 _) (Y.move rfl) ?_
    refine Ops.y (v := .int .i64 _) (Y.assign rfl) ?_
    refine Ops.nil ?_
    refine WP.seq ?_
    refine WP.region ?_
    refine Ops.y (v := .func _ _ _) (Y.move rfl) ?_
    refine Ops.y (v := .slice _ _ _) (Y.move rfl) ?_
    refine Ops.y (v := .int .i64 _) (Y.move rfl) ?_
    refine Ops.y (v := .pointer (some ⟨_, _, none⟩)) (Y.idxEl E1 Tryz.underlying22 Tryz.sizeOf62 rfl rfl (Int.natCast_nonneg _) rfl) ?_
    refine Ops.y (v := .agg #[_, _, _]) (Y.loadv ty_62 rfl (I.rd (E1.rd.part 0 3)) rfl rfl) ?_
    refine Ops.go (O.callcs ent rfl (hp h1 k _ _ (hle.trans gl1) (List.getElem?_eq_getElem hk') j1) rfl ?_)
    rintro ed w ⟨rfl, h2, gl2, j2⟩
    refine ⟨_, rfl, ?_⟩
    refine Ops.nil ?_
    refine WP.cond rfl (fun hb => ?_) (fun hb => ?_)
    · refine WP.seq ?_
      refine WP.region ?_
      refine Ops.y (v := .int .i64 _) (Y.move rfl) ?_
      refine Ops.y (v := .int .i64 _) (Y.assign rfl) ?_
      refine Ops.nil ?_
      refine WP.ret ?_
      repeat (first | refine thenE_ret ?_ | refine blockE_ret ?_)
      exact ⟨.inl rfl, [.int .i64 k], ⟨rfl, trivial⟩, k, rfl, by rw [decide_eq_true (Int.natCast_nonneg _)]; exact (List.any_eq_true.2 ⟨k, List.mem_range.2 hk', hb⟩).symm, h2, k + 1, gl1.trans gl2, j2⟩
    refine WP.skip ?_
    refine WP.region ?_
    refine Ops.y (v := .int .i64 _) (Y.addi rfl rfl ⟨by omega, by omega⟩) ?_
    refine Ops.y (v := .int .i64 _) (Y.move rfl) ?_
    refine Ops.nil ?_
    exact ⟨k + 1, ⟨⟨rfl, rfl, rfl, rfl, trivial⟩, hk', fun j hj => by
      rcases Nat.lt_succ_iff_lt_or_eq.1 hj with h' | rfl
      · exact hn j h'
      · exact hb, h2, gl1.trans gl2, j2⟩, by omega⟩
  refine WP.exit ?_
  refine WP.seq ?_
  refine WP.region ?_
  refine Ops.y (v := .int .i64 _) (Y.assign rfl) ?_
  refine Ops.nil ?_
  refine WP.ret ?_
  repeat (first | refine thenE_ret ?_ | refine blockE_ret ?_)
  exact ⟨.inl rfl, [.int .i64 (-1)], ⟨rfl, trivial⟩, -1, rfl, by
    rw [decide_eq_false (by omega)]
    symm
    rw [List.any_eq_false]
    intro j hj
    rw [hn j (by have := List.mem_range.1 hj; omega)]; decide, h1, k, gl1, j1⟩
theorem ContainsFuncPrd_S (l : Sl Prd) (h0 : Heap) (hl : l.Is 3 Prd.enc h0) (f : FuncId) (ent : Enters Tryz.prog f) (fs cs : List Value) (J : Heap → Nat → World → Prop) (q : Nat → Bool)
    (hok : ∀ hg k W, J hg k W → Base.ok ⟨W, hg⟩)
    (hp : ∀ hg k x W, h0.le hg → l.xs[k]? = some x → J hg k W → Calls Tryz.prog f (fs ++ [x.val] ++ cs).toArray W fun ed W' => ed = .returned (.bool (q k)) ∧ ∃ hg', hg.le hg' ∧ J hg' (k + 1) W') (hg : Heap) (W : World) (hle : h0.le hg) (j0 : J hg 0 W) :
    Calls Tryz.prog 104 [l.val, .func (.func f) fs.toArray cs.toArray].toArray W (fun ed W' => ed = .returned (.bool ((List.range l.xs.length).any q)) ∧ ∃ hg' k, hg.le hg' ∧ J hg' k W') := by
  refine Calls.ofWP (args := [l.val, .func (.func f) fs.toArray cs.toArray]) Tryz.func104 rfl Tryz.ntmps104 (by kernel_rfl) (by simp) ?_
  intro e
  have I := Inv.start (hok _ _ _ j0)
  refine WP.seq ?_
  refine WP.region ?_
  refine Ops.y (v := .bool _) (Y.assign rfl) ?_
  refine Ops.nil ?_
  refine WP.seq ?_
  refine WP.region ?_
  refine Ops.y (v := .slice _ _ _) (Y.move rfl) ?_
  refine Ops.y (v := .func _ _ _) (Y.move rfl) ?_
  refine Ops.go (O.calls Tryz.call155 (IndexFuncPrd_S l h0 hl f ent fs cs J q hok hp hg _ hle j0) rfl ?_)
  rintro ed w ⟨r, rfl, hr, h2, k, gl2, j2⟩
  refine ⟨_, rfl, ?_⟩
  refine Ops.y (v := .bool (decide _)) (Y.gei rfl rfl) ?_
  refine Ops.y (v := .bool _) (Y.assign rfl) ?_
  refine Ops.nil ?_
  refine WP.ret ?_
  repeat (first | refine thenE_ret ?_ | refine blockE_ret ?_)
  exact ⟨.inl rfl, [.bool _], ⟨rfl, trivial⟩, by rw [← hr]; rfl, h2, k, gl2, j2⟩
theorem Check1_S (p : Prg) (b : Nat) (h0 : Heap) (hb : PBox h0 b p) (hl : Prds p.preds h0) (f : FuncId) (ent : Enters Tryz.prog f) (fs cs : List Value) (J : Heap → Nat → World → Prop) (q : Nat → Bool)
    (hok : ∀ hg k W, J hg k W → Base.ok ⟨W, hg⟩)
    (hp : ∀ hg k x W, h0.le hg → p.preds.xs[k]? = some x → J hg k W → Calls Tryz.prog f (fs ++ [x.val] ++ cs).toArray W fun ed W' => ed = .returned (.bool (q k)) ∧ ∃ hg', hg.le hg' ∧ J hg' (k + 1) W') (hg : Heap) (W : World) (hle : h0.le hg) (j0 : J hg 0 W) :
    Calls Tryz.prog 121 [.func (.func f) fs.toArray cs.toArray, .pointer (some ⟨b, 0, none⟩)].toArray W (fun ed W' => ed = .returned (.bool ((List.range p.preds.xs.length).any q)) ∧ ∃ hg' k, hg.le hg' ∧ J hg' k W') := by
  refine Calls.ofWP (args := [.func (.func f) fs.toArray cs.toArray, .pointer (some ⟨b, 0, none⟩)]) Tryz.func121 rfl Tryz.ntmps121 (by kernel_rfl) (by simp) ?_
  intro e
  have I := Inv.start (hok _ _ _ j0)
  refine WP.seq ?_
  refine WP.region ?_
  refine Ops.y (v := .bool _) (Y.assign rfl) ?_
  refine Ops.nil ?_
  refine WP.seq ?_
  refine WP.region ?_
  refine Ops.y (v := .pointer (some ⟨_, _, none⟩)) (Y.fa0 fa_25_0 rfl) ?_
  refine Ops.y (v := .slice _ _ _) (Y.loadv ty_22 rfl (I.rd ((rdHb hb 0 1).le hle)) rfl rfl) ?_
  refine Ops.y (v := .func _ _ _) (Y.move rfl) ?_
  refine Ops.go (O.calls Tryz.call104 (ContainsFuncPrd_S p.preds h0 hl f ent fs cs J q hok hp hg _ hle j0) rfl ?_)
  rintro ed w ⟨rfl, h2, k, gl2, j2⟩
  refine ⟨_, rfl, ?_⟩
  refine Ops.y (v := .bool _) (Y.assign rfl) ?_
  refine Ops.nil ?_
  refine WP.ret ?_
  repeat (first | refine thenE_ret ?_ | refine blockE_ret ?_)
  exact ⟨.inl rfl, [.bool _], ⟨rfl, trivial⟩, rfl, h2, k, gl2, j2⟩
theorem Check3_S (B : Base) (h : Heap) (b4 bm : Nat) (es : List (ByteArray × Int)) (W : World) (I : Inv B h [box b4 [.map (some bm)] 156, smap bm es] W) (x : Prd) (hr : I64 ((slook es x.name).getD 0 + 1)) :
    Calls Tryz.prog 124 [x.val, .pointer (some ⟨b4, 0, none⟩)].toArray W (fun ed W' => ed = .returned (.bool (decide (1 < (slook es x.name).getD 0 + 1))) ∧ Inv B h [box b4 [.map (some bm)] 156, smap bm (sset es x.name ((slook es x.name).getD 0 + 1))] W') := by
  refine Calls.ofWP (args := [x.val, .pointer (some ⟨b4, 0, none⟩)]) Tryz.func124 rfl Tryz.ntmps124 (by kernel_rfl) (by simp) ?_
  intro e
  refine WP.seq ?_
  refine WP.region ?_
  refine Ops.go (O.box (v := .agg #[_, _, _]) I rfl rfl ?_)
  intro b2 w I
  refine Ops.y (v := .bool _) (Y.assign rfl) ?_
  refine Ops.nil ?_
  refine WP.seq ?_
  refine WP.region ?_
  refine Ops.y (v := .map _) (Y.loadv ty_156 rfl (I.rdbox 1 rfl 0 1) rfl rfl) ?_
  refine Ops.y (v := .pointer (some ⟨_, _, none⟩)) (Y.fa0 fa_62_0 rfl) ?_
  refine Ops.y (v := .string _) (Y.loadv ty_9 rfl (I.rdbox 0 rfl 0 1) rfl rfl) ?_
  refine Ops.y (v := .int .i64 _) (Y.lookups I Tryz.underlying156 Tryz.underlying9 Tryz.zeroValue3 2 rfl rfl rfl) ?_
  refine Ops.y (v := .int .i64 _) (Y.addi rfl rfl hr) ?_
  refine Ops.go (O.mapsets I Tryz.underlying156 Tryz.underlying9 2 rfl rfl rfl rfl ?_)
  intro w I
  refine Ops.nil ?_
  refine WP.seq ?_
  refine WP.region ?_
  refine Ops.y (v := .map _) (Y.loadv ty_156 rfl (I.rdbox 1 rfl 0 1) rfl rfl) ?_
  refine Ops.y (v := .pointer (some ⟨_, _, none⟩)) (Y.fa0 fa_62_0 rfl) ?_
  refine Ops.y (v := .string _) (Y.loadv ty_9 rfl (I.rdbox 0 rfl 0 1) rfl rfl) ?_
  refine Ops.y (v := .int .i64 _) (Y.lookups I Tryz.underlying156 Tryz.underlying9 Tryz.zeroValue3 2 rfl rfl rfl) ?_
  refine Ops.y (v := .bool (decide _)) (Y.gti rfl rfl) ?_
  refine Ops.y (v := .bool _) (Y.assign rfl) ?_
  refine Ops.nil ?_
  refine WP.ret ?_
  repeat (first | refine thenE_ret ?_ | refine blockE_ret ?_)
  have hs : slook (sset es x.name ((slook es x.name).getD 0 + 1)) x.name = some ((slook es x.name).getD 0 + 1) := by rw [slook_sset, if_pos rfl]
  exact ⟨.inl rfl, [.bool (decide (1 < (slook es x.name).getD 0 + 1))], ⟨by rw [hs]; rfl, trivial⟩, rfl, I.drop⟩
end Go.TF
end
section
/- prog.Check, whole. -/
namespace Go.TF
open Go Go.RowKit Go.Proofs
set_option maxRecDepth 20000

def SeenJ (B : Base) (h0 : Heap) (l : List Prd) (b4 bm : Nat) (hg : Heap) (k : Nat) (W : World) : Prop :=
  h0.le hg ∧ ∃ es, Inv B hg [box b4 [.map (some bm)] 156, smap bm es] W ∧ ∀ s, (slook es s).getD 0 = (((l.take k).countP fun y => decide (y.name = s) : Nat) : Int)
theorem early_iff {l : List Prd} {k : Nat} {x : Prd} (hx : l[k]? = some x) : early l k = decide ((1 : Int) < (((l.take k).countP fun y => decide (y.name = x.name) : Nat) : Int) + 1) := by
  have hd : (l.getD k default).name = x.name := by simp [List.getD_eq_getElem?_getD, hx]
  unfold early
  rw [hd]
  by_cases h : (l.take k).any (fun y => decide (y.name = x.name)) = true
  · rw [h]
    rw [List.any_eq_true] at h
    have := List.countP_pos_iff.2 h
    exact (decide_eq_true (by omega)).symm
  · have h' : (l.take k).any (fun y => decide (y.name = x.name)) = false := by simpa using h
    rw [h']
    have h0 : ¬ 0 < (l.take k).countP fun y => decide (y.name = x.name) := fun hp => h (List.any_eq_true.2 (List.countP_pos_iff.1 hp))
    exact (decide_eq_false (by omega)).symm
theorem seen_round (B : Base) (h0 : Heap) (l : List Prd) (b4 bm : Nat) (h5 : l.length ≤ 5) (hg : Heap) (k : Nat) (x : Prd) (W : World) (hx : l[k]? = some x) (j : SeenJ B h0 l b4 bm hg k W) :
    Calls Tryz.prog 124 (([] : List Value) ++ [x.val] ++ [Value.pointer (some ⟨b4, 0, none⟩)]).toArray W fun ed W' => ed = .returned (.bool (early l k)) ∧ ∃ hg', hg.le hg' ∧ SeenJ B h0 l b4 bm hg' (k + 1) W' := by
  obtain ⟨gl, es, I, hes⟩ := j
  have hk := (List.getElem?_eq_some_iff.1 hx).1
  have hle : (l.take k).countP (fun y => decide (y.name = x.name)) ≤ 5 := Nat.le_trans List.countP_le_length (by simp; omega)
  refine (Check3_S B hg b4 bm es W I x (by rw [hes]; exact ⟨by omega, by omega⟩)).mono ?_
  rintro ed W' ⟨rfl, I'⟩
  refine ⟨by rw [early_iff hx, hes], hg, Heap.le.refl _, gl, _, I', fun s => ?_⟩
  have hx' : l[k] = x := (List.getElem?_eq_some_iff.1 hx).2
  rw [slook_sset, List.take_succ_eq_append_getElem hk, List.countP_append, hx']
  by_cases e : s = x.name
  · subst e; simp [hes]
  · rw [if_neg e, hes]
    simp [Ne.symm e]
set_option maxHeartbeats 4000000 in
theorem PCheck_ok (B : Base) (hB : B.ok) (p : Prg) (hp : p.In B.h) (hnm : p.Nm) : Fn Tryz.prog 56 [p.val] B (fun v _ => v = .int .i64 (checkProg p)) := by
  refine Fn.of Tryz.func56 rfl Tryz.ntmps56 (by kernel_rfl) (by simp) ?_
  intro e
  have I := Inv.start hB
  refine WP.seq ?_
  refine WP.region ?_
  refine Ops.go (O.box (v := .agg #[_, _]) I rfl rfl ?_)
  intro b1 w I
  refine Ops.y (v := .int .i64 _) (Y.assign rfl) ?_
  refine Ops.nil ?_
  have hb1 := I.at 0 rfl
  obtain ⟨h1, le1, hh1, I⟩ := I.settle
  have hb1 : PBox h1 b1 p := (hh1 b1 (by simp [box])).trans hb1
  have hp := hp.le le1
  have hsp := hp.preds.small
  have hsr := hp.rules.is.small
  refine WP.seq ?_
  refine WP.seq ?_
  by_cases o0 : 5 < (p.preds.xs.length : Int)
  · refine WP.region ?_
    refine Ops.y (v := .pointer (some ⟨_, _, none⟩)) (Y.fa0 fa_25_0 rfl) ?_
    refine Ops.y (v := .slice _ _ _) (Y.loadv ty_22 rfl (I.rd (rdHb hb1 0 1)) rfl rfl) ?_
    refine Ops.y (v := .int .i64 _) (Y.lens Tryz.underlying22 rfl) ?_
    refine Ops.y (v := .bool true) (Y.dec_t (Y.gti rfl rfl) (o0)) ?_
    refine Ops.y (v := .bool _) (Y.move rfl) ?_
    refine Ops.gf rfl ?_
    refine Ops.gf rfl ?_
    refine Ops.gf rfl ?_
    refine Ops.gf rfl ?_
    refine Ops.y (v := .bool _) (Y.pick_t rfl rfl) ?_
    refine Ops.nil ?_
    refine WP.cond_t rfl ?_
    refine WP.seq ?_
    refine WP.region ?_
    refine Ops.y (v := .int .i64 _) (Y.assign rfl) ?_
    refine Ops.nil ?_
    refine WP.ret ?_
    repeat (first | refine thenE_ret ?_ | refine blockE_ret ?_)
    exact retQ.mk (vs := [.int .i64 _]) rfl ⟨rfl, trivial⟩ I.ext_of (by simp only [tup, checkProg]; rw [if_pos (by omega)])
  by_cases o1 : 8 < (p.rules.xs.length : Int)
  · refine WP.region ?_
    refine Ops.y (v := .pointer (some ⟨_, _, none⟩)) (Y.fa0 fa_25_0 rfl) ?_
    refine Ops.y (v := .slice _ _ _) (Y.loadv ty_22 rfl (I.rd (rdHb hb1 0 1)) rfl rfl) ?_
    refine Ops.y (v := .int .i64 _) (Y.lens Tryz.underlying22 rfl) ?_
    refine Ops.y (v := .bool false) (Y.dec_f (Y.gti rfl rfl) (o0)) ?_
    refine Ops.y (v := .bool _) (Y.move rfl) ?_
    refine Ops.ygt rfl (v := .pointer (some ⟨_, _, none⟩)) (Y.fa fa_25_1 rfl) ?_
    refine Ops.ygt rfl (v := .slice _ _ _) (Y.loadv ty_23 rfl (I.rd (rdHb hb1 1 1)) rfl rfl) ?_
    refine Ops.ygt rfl (v := .int .i64 _) (Y.lens Tryz.underlying23 rfl) ?_
    refine Ops.ygt rfl (v := .bool true) (Y.dec_t (Y.gti rfl rfl) (o1)) ?_
    refine Ops.y (v := .bool _) (Y.pick_f rfl rfl) ?_
    refine Ops.nil ?_
    refine WP.cond_t rfl ?_
    refine WP.seq ?_
    refine WP.region ?_
    refine Ops.y (v := .int .i64 _) (Y.assign rfl) ?_
    refine Ops.nil ?_
    refine WP.ret ?_
    repeat (first | refine thenE_ret ?_ | refine blockE_ret ?_)
    exact retQ.mk (vs := [.int .i64 _]) rfl ⟨rfl, trivial⟩ I.ext_of (by simp only [tup, checkProg]; rw [if_pos (by omega)])
  refine WP.region ?_
  refine Ops.y (v := .pointer (some ⟨_, _, none⟩)) (Y.fa0 fa_25_0 rfl) ?_
  refine Ops.y (v := .slice _ _ _) (Y.loadv ty_22 rfl (I.rd (rdHb hb1 0 1)) rfl rfl) ?_
  refine Ops.y (v := .int .i64 _) (Y.lens Tryz.underlying22 rfl) ?_
  refine Ops.y (v := .bool false) (Y.dec_f (Y.gti rfl rfl) (o0)) ?_
  refine Ops.y (v := .bool _) (Y.move rfl) ?_
  refine Ops.ygt rfl (v := .pointer (some ⟨_, _, none⟩)) (Y.fa fa_25_1 rfl) ?_
  refine Ops.ygt rfl (v := .slice _ _ _) (Y.loadv ty_23 rfl (I.rd (rdHb hb1 1 1)) rfl rfl) ?_
  refine Ops.ygt rfl (v := .int .i64 _) (Y.lens Tryz.underlying23 rfl) ?_
  refine Ops.ygt rfl (v := .bool false) (Y.dec_f (Y.gti rfl rfl) (o1)) ?_
  refine Ops.y (v := .bool _) (Y.pick_f rfl rfl) ?_
  refine Ops.nil ?_
  refine WP.cond_f rfl ?_
  have c0 : ¬ (5 < p.preds.xs.length ∨ 8 < p.rules.xs.length) := by omega
  refine WP.skip ?_
  refine WP.seq ?_
  refine WP.region ?_
  refine Ops.y (v := .func _ _ _) (Y.mkfunc rfl rfl) ?_
  refine Ops.y (v := .func _ _ _) (Y.assign rfl) ?_
  refine Ops.nil ?_
  refine WP.seq ?_
  refine WP.region ?_
  refine Ops.go (O.mkmaps I ?_)
  intro bm w I
  refine Ops.go (O.alloc I Tryz.zeroValue156 rfl ?_)
  intro b4 w I
  refine Ops.go (O.store (v := .map _) I ty_156 0 rfl rfl rfl rfl rfl rfl (Nat.le_of_ble_eq_true rfl) rfl ?_)
  intro w I
  refine Ops.nil ?_
  refine WP.seq ?_
  refine WP.block ?_
  refine WP.seq ?_
  refine WP.region ?_
  refine Ops.y (v := .func _ _ _) (Y.move rfl) ?_
  refine Ops.go (O.callcv I Tryz.call121 (fs := []) (cs := [.pointer (some ⟨b1, 0, none⟩)]) rfl (PChk1_ok _ I.base_ok p b1 hb1 hp.preds 122 Tryz.call122 [] [] (fun x => !isName x.name) (fun B' hB' _ x hx => Check2_ok B' hB' x (hnm x hx))) rfl ?_)
  intro w I
  refine Ops.y (v := .bool _) (Y.assign rfl) ?_
  refine Ops.nil ?_
  refine WP.cond rfl (fun c1 => ?_) (fun c1 => ?_)
  · refine WP.seq ?_
    refine WP.region ?_
    refine Ops.y (v := .int .i64 _) (Y.assign rfl) ?_
    refine Ops.nil ?_
    refine WP.ret ?_
    repeat (first | refine thenE_ret ?_ | refine blockE_ret ?_)
    exact retQ.mk (vs := [.int .i64 _]) rfl ⟨rfl, trivial⟩ I.ext_of (by simp only [tup, checkProg]; rw [if_neg c0, if_pos c1])
  refine WP.seq ?_
  refine WP.region ?_
  refine Ops.y (v := .func _ _ _) (Y.move rfl) ?_
  refine Ops.y (v := .func _ _ _) (Y.mkfunc rfl rfl) ?_
  refine Ops.go (O.callcs Tryz.call121 (fs := []) (cs := [.pointer (some ⟨b1, 0, none⟩)]) rfl (Check1_S p b1 h1 hb1 hp.preds 124 Tryz.call124 [] [.pointer (some ⟨b4, 0, none⟩)] (SeenJ B h1 p.preds.xs b4 bm) (early p.preds.xs)
    (fun hg k W ⟨_, es, I, _⟩ => I.base_ok) (fun hg k x W _ hx j => seen_round B h1 p.preds.xs b4 bm (by omega) hg k x W hx j) h1 _ (Heap.le.refl _) ⟨Heap.le.refl _, [], I, fun s => by simp [slook]⟩) rfl ?_)
  rintro ed w ⟨rfl, h2, k2, gl2, gl3, es, I, _⟩
  refine ⟨_, rfl, ?_⟩
  have hb1 : PBox h2 b1 p := gl2 _ _ hb1
  have hp := hp.le gl2
  refine Ops.y (v := .bool _) (Y.assign rfl) ?_
  refine Ops.nil ?_
  refine WP.cond rfl (fun c2 => ?_) (fun c2 => ?_)
  · refine WP.seq ?_
    refine WP.region ?_
    refine Ops.y (v := .int .i64 _) (Y.assign rfl) ?_
    refine Ops.nil ?_
    refine WP.ret ?_
    repeat (first | refine thenE_ret ?_ | refine blockE_ret ?_)
    exact retQ.mk (vs := [.int .i64 _]) rfl ⟨rfl, trivial⟩ I.ext_of (by simp only [tup, checkProg]; rw [if_neg c0, if_neg (by rw [c1]; decide), if_pos (show twice p.preds.xs = true from c2)])
  refine WP.seq ?_
  refine WP.region ?_
  refine Ops.y (v := .func _ _ _) (Y.move rfl) ?_
  refine Ops.go (O.callcv I Tryz.call121 (fs := []) (cs := [.pointer (some ⟨b1, 0, none⟩)]) rfl (PChk1_ok _ I.base_ok p b1 hb1 hp.preds 125 Tryz.call125 [] [] badArity (fun B' hB' _ x _ => Check4_ok B' hB' x)) rfl ?_)
  intro w I
  refine Ops.y (v := .bool _) (Y.assign rfl) ?_
  refine Ops.nil ?_
  refine WP.cond rfl (fun c3 => ?_) (fun c3 => ?_)
  · refine WP.seq ?_
    refine WP.region ?_
    refine Ops.y (v := .int .i64 _) (Y.assign rfl) ?_
    refine Ops.nil ?_
    refine WP.ret ?_
    repeat (first | refine thenE_ret ?_ | refine blockE_ret ?_)
    exact retQ.mk (vs := [.int .i64 _]) rfl ⟨rfl, trivial⟩ I.ext_of (by simp only [tup, checkProg]; rw [if_neg c0, if_neg (by rw [c1]; decide), if_neg (by unfold twice; rw [c2]; decide), if_pos c3])
  refine WP.seq ?_
  refine WP.region ?_
  refine Ops.y (v := .func _ _ _) (Y.move rfl) ?_
  refine Ops.go (O.callcv I Tryz.call121 (fs := []) (cs := [.pointer (some ⟨b1, 0, none⟩)]) rfl (PChk1_ok _ I.base_ok p b1 hb1 hp.preds 126 Tryz.call126 [] [] badKind (fun B' hB' _ x _ => Check5_ok B' hB' x)) rfl ?_)
  intro w I
  refine Ops.y (v := .bool _) (Y.assign rfl) ?_
  refine Ops.nil ?_
  refine WP.cond rfl (fun c4 => ?_) (fun c4 => ?_)
  · refine WP.seq ?_
    refine WP.region ?_
    refine Ops.y (v := .int .i64 _) (Y.assign rfl) ?_
    refine Ops.nil ?_
    refine WP.ret ?_
    repeat (first | refine thenE_ret ?_ | refine blockE_ret ?_)
    exact retQ.mk (vs := [.int .i64 _]) rfl ⟨rfl, trivial⟩ I.ext_of (by simp only [tup, checkProg]; rw [if_neg c0, if_neg (by rw [c1]; decide), if_neg (by unfold twice; rw [c2]; decide), if_neg (by rw [c3]; decide), if_pos c4])
  have e4 : checkProg p = if rulesErr p.preds.xs p.rules.xs ≠ 0 then rulesErr p.preds.xs p.rules.xs else @ite Int (∃ M, Sol (usesL p.rules.xs) p.preds.xs.length M) (Classical.propDecidable _) 0 8 := by
    unfold checkProg; rw [if_neg c0, if_neg (by rw [c1]; decide), if_neg (by unfold twice; rw [c2]; decide), if_neg (by rw [c3]; decide), if_neg (by rw [c4]; decide)]
  refine WP.skip ?_
  refine WP.seq ?_
  refine WP.seq ?_
  refine WP.region ?_
  refine Ops.y (v := .pointer (some ⟨_, _, none⟩)) (Y.fa fa_25_1 rfl) ?_
  refine Ops.y (v := .slice _ _ _) (Y.loadv ty_23 rfl (I.rd (rdHb hb1 1 1)) rfl rfl) ?_
  refine Ops.y (v := .int .i64 _) (Y.lens Tryz.underlying23 rfl) ?_
  refine Ops.y (v := .int .i64 _) (Y.move rfl) ?_
  refine Ops.nil ?_
  refine WP.block ?_
  refine WP.loopE (σ := Nat) (fun k => [(1, .pointer (some ⟨b1, 0, none⟩)), (36, p.rules.val), (37, .int .i64 p.rules.xs.length), (38, .int .i64 k)]) (fun k w => Inv B h2 [] w ∧ k ≤ p.rules.xs.length ∧ ∀ j, j < k → ∀ hj : j < p.rules.xs.length, checkRule p.preds.xs p.rules.xs[j] = 0) (fun k => p.rules.xs.length - k)
    ⟨0, ⟨rfl, rfl, rfl, rfl, trivial⟩, I.clear, Nat.zero_le _, fun j hj => by omega⟩ ?_
  rintro k e w ⟨I, hk, hn⟩
  refine WP.seq ?_
  refine WP.region ?_
  refine Ops.y (v := .bool (decide _)) (Y.lti rfl rfl) ?_
  refine Ops.nil ?_
  refine WP.seq ?_
  refine WP.cond_dec rfl (fun h14 => ?_) (fun h14 => ?_)
  · have hk' : k < p.rules.xs.length := by omega
    have E1 := hp.rules.is.at hk'
    refine WP.skip ?_
    refine WP.seq ?_
    refine WP.block ?_
    refine WP.seq ?_
    refine WP.region ?_
    refine Ops.y (v := .pointer (some ⟨_, _, none⟩)) (Y.idxEl E1 Tryz.underlying23 Tryz.sizeOf68 rfl rfl (Int.natCast_nonneg _) rfl) ?_
    refine Ops.y (v := .agg #[_, _, _, _, _]) (Y.loadv ty_68 rfl (I.rd (E1.rd.part 0 5)) rfl rfl) ?_
    refine Ops.go (O.alloc I Tryz.zeroValue68 rfl ?_)
    intro b6 w I
    refine Ops.go (O.store (v := .agg #[_, _, _, _, _]) I ty_68 0 rfl rfl rfl rfl rfl rfl (Nat.le_of_ble_eq_true rfl) rfl ?_)
    intro w I
    refine Ops.nil ?_
    refine WP.seq ?_
    refine WP.region ?_
    refine Ops.y (v := .pointer (some ⟨_, _, none⟩)) (Y.fa0 fa_25_0 rfl) ?_
    refine Ops.y (v := .slice _ _ _) (Y.loadv ty_22 rfl (I.rd (rdHb hb1 0 1)) rfl rfl) ?_
    refine Ops.y (v := .agg #[_, _, _, _, _]) (Y.loadv ty_68 rfl (I.rdbox 0 rfl 0 5) rfl rfl) ?_
    refine Ops.go (O.callv I Tryz.call127 (RCheck_ok _ I.base_ok p.preds hp.preds p.rules.xs[k] (hp.rules.each _ (List.getElem_mem hk'))) rfl ?_)
    intro w I
    refine Ops.y (v := .int .i64 _) (Y.assign rfl) ?_
    refine Ops.nil ?_
    refine WP.seq ?_
    refine WP.region ?_
    refine Ops.y (v := .int .i64 _) (Y.move rfl) ?_
    refine Ops.y (v := .bool (decide _)) (Y.nei rfl rfl) ?_
    refine Ops.nil ?_
    refine WP.cond_dec rfl (fun h17 => ?_) (fun h17 => ?_)
    · refine WP.seq ?_
      refine WP.region ?_
      refine Ops.y (v := .int .i64 _) (Y.move rfl) ?_
      refine Ops.y (v := .int .i64 _) (Y.assign rfl) ?_
      refine Ops.nil ?_
      refine WP.ret ?_
      repeat (first | refine thenE_ret ?_ | refine blockE_ret ?_)
      exact retQ.mk (vs := [.int .i64 _]) rfl ⟨rfl, trivial⟩ I.ext_of (by simp only [tup, e4]; rw [rulesErr_at hk' hn h17, if_pos h17])
    refine WP.skip ?_
    refine WP.region ?_
    refine Ops.y (v := .int .i64 _) (Y.addi rfl rfl ⟨by omega, by omega⟩) ?_
    refine Ops.y (v := .int .i64 _) (Y.move rfl) ?_
    refine Ops.nil ?_
    exact ⟨k + 1, ⟨⟨rfl, rfl, rfl, rfl, trivial⟩, I.drop, hk', fun j hj hj' => by
      rcases Nat.lt_succ_iff_lt_or_eq.1 hj with h' | rfl
      · exact hn j h' hj'
      · exact Decidable.not_not.1 h17⟩, by omega⟩
  have hr0 : rulesErr p.preds.xs p.rules.xs = 0 := rulesErr_zero.2 fun r hr => by
    obtain ⟨j, hj, rfl⟩ := List.getElem_of_mem hr
    exact hn j (by omega) hj
  have e5 : checkProg p = @ite Int (∃ M, Sol (usesL p.rules.xs) p.preds.xs.length M) (Classical.propDecidable _) 0 8 := by rw [e4, if_neg (by rw [hr0]; decide)]
  refine WP.exit ?_
  refine WP.seq ?_
  refine WP.seq ?_
  refine WP.region ?_
  refine Ops.y (v := .agg #[_, _]) (Y.loadv ty_25 rfl (I.rd (rdHb hb1 0 2)) rfl rfl) ?_
  refine Ops.go (O.call I Tryz.call94 (Levels_ok _ I.base_ok p hp (inR_of hr0) (by omega)) rfl ?_)
  rintro v52 h3 w I le3 hL
  rcases hL with ⟨s, hS, hI, rfl⟩ | ⟨hno, rfl⟩
  · refine Ops.y (v := .tuple #[_, _]) (Y.move rfl) ?_
    refine Ops.y (v := .slice _ _ _) (Y.extract rfl rfl) ?_
    refine Ops.y (v := .bool _) (Y.extract rfl rfl) ?_
    refine Ops.y (v := .slice _ _ _) (Y.assign rfl) ?_
    refine Ops.y (v := .bool _) (Y.assign rfl) ?_
    refine Ops.nil ?_
    refine WP.seq ?_
    refine WP.region ?_
    refine Ops.y (v := .bool _) (Y.move rfl) ?_
    refine Ops.y (v := .bool _) (Y.not rfl) ?_
    refine Ops.nil ?_
    refine WP.cond_f rfl ?_
    refine WP.skip ?_
    refine WP.seq ?_
    refine WP.region ?_
    refine Ops.y (v := .int .i64 _) (Y.assign rfl) ?_
    refine Ops.nil ?_
    refine WP.ret ?_
    repeat (first | refine thenE_ret ?_ | refine blockE_ret ?_)
    exact retQ.mk (vs := [.int .i64 _]) rfl ⟨rfl, trivial⟩ I.ext_of (by simp only [tup, e5]; rw [if_pos ⟨_, hS.sol⟩])
  · refine Ops.y (v := .tuple #[_, _]) (Y.move rfl) ?_
    refine Ops.y (v := .slice _ _ _) (Y.extract rfl rfl) ?_
    refine Ops.y (v := .bool _) (Y.extract rfl rfl) ?_
    refine Ops.y (v := .slice _ _ _) (Y.assign rfl) ?_
    refine Ops.y (v := .bool _) (Y.assign rfl) ?_
    refine Ops.nil ?_
    refine WP.seq ?_
    refine WP.region ?_
    refine Ops.y (v := .bool _) (Y.move rfl) ?_
    refine Ops.y (v := .bool _) (Y.not rfl) ?_
    refine Ops.nil ?_
    refine WP.cond_t rfl ?_
    refine WP.seq ?_
    refine WP.region ?_
    refine Ops.y (v := .int .i64 _) (Y.assign rfl) ?_
    refine Ops.nil ?_
    refine WP.ret ?_
    repeat (first | refine thenE_ret ?_ | refine blockE_ret ?_)
    exact retQ.mk (vs := [.int .i64 _]) rfl ⟨rfl, trivial⟩ I.ext_of (by simp only [tup, e5]; rw [if_neg (fun ⟨M, hM⟩ => hno M hM)])
end Go.TF
end
section
/- What is asked; one step, and all steps of a rule. -/
namespace Go.TF
open Go Go.RowKit Go.Proofs
set_option maxRecDepth 20000

structure Askd (p : Prg) (f : List Fct) (n : Int) : Prop where
  prog : checkProg p = 0
  fok : FOk p.preds.xs f
  n : 0 ≤ n ∧ n < p.rules.xs.length
theorem Askd.rule {p : Prg} {f : List Fct} {n : Int} (h : Askd p f n) : ∃ r, p.rules.xs[n.toNat]? = some r ∧ ROk p.preds.xs r := by
  have hn : n.toNat < p.rules.xs.length := by have := h.n; omega
  refine ⟨_, List.getElem?_eq_getElem hn, rok_of h.fok.len h.fok.preds ?_⟩
  exact rulesErr_zero.1 (checkProg_ok h.prog).2.2.1 _ (List.getElem_mem hn)
def AllR (r : List Stp × Int) : Sp := fun v h => ∃ s : Sl Stp, v = .tuple #[s.val, .int .i64 r.2] ∧ s.xs = r.1 ∧ Stps s h
theorem AllR.mono {r : List Stp × Int} : MonoS (AllR r) := fun _ _ _ hl ⟨s, a, b, c⟩ => ⟨s, a, b, c.le hl⟩
end Go.TF
end
section
/- slices.Insert of one fact; adding a fact. -/
namespace Go.TF
open Go Go.RowKit Go.Proofs
set_option maxRecDepth 20000

theorem over_app (A Z X : List Value) : over (A ++ Z) A.length X = A ++ X ++ Z.drop X.length := by
  unfold over
  rw [List.take_left, List.drop_append, List.drop_of_length_le (by omega), List.nil_append, Nat.add_sub_cancel_left]
theorem over_end {L D : List Value} {o : Nat} (h : o + D.length = L.length) : over L o D = L.take o ++ D := by
  unfold over
  rw [List.drop_of_length_le (by omega), List.append_nil]
theorem ins_grow (A Z X D : List Value) (h : X.length + D.length = Z.length) : over (over (A ++ Z) A.length X) (A.length + X.length) D = A ++ X ++ D := by
  rw [over_app, over_end (by simp only [List.length_append, List.length_drop]; omega)]
  rw [← List.length_append, List.take_left]
theorem ins_shift (A D Y X : List Value) (h : X.length = Y.length) : over (over (A ++ (D ++ Y)) (A.length + X.length) D) A.length X = A ++ X ++ D := by
  rw [over_end (L := A ++ (D ++ Y)) (o := A.length + X.length) (by simp only [List.length_append]; omega), List.take_append, List.take_of_length_le (by omega), Nat.add_sub_cancel_left, List.append_assoc, over_app]
  congr 1
  have hl : ((D ++ Y).take X.length).length = X.length := by simp only [List.length_take, List.length_append]; omega
  rw [List.drop_append, List.drop_of_length_le (by omega), hl, Nat.sub_self]; rfl
theorem flat_ins (xs : List Fct) (x : Fct) (i : Nat) : (xs.take i ++ x :: xs.drop i).flatMap Fct.enc = (xs.take i).flatMap Fct.enc ++ x.enc ++ (xs.drop i).flatMap Fct.enc := by
  rw [List.flatMap_append, List.flatMap_cons, List.append_assoc]
theorem fct_one (xs : List Fct) : oneCells (xs.flatMap Fct.enc) = true := by
  simp only [oneCells, List.all_flatMap]
  rw [List.all_eq_true]
  intro x _; rfl
theorem ovl_run (vs : Array Value) (w : World) : (callFunc 176 vs).run Tryz.prog w = ((Extern.SlicesOverlaps.overlaps #[26, 26] #[4] vs).run Tryz.prog w).andThen fun v w' => .ok (.value v) w' :=
  run_callFunc_extern Tryz.func176 (by kernel_rfl) (by kernel_rfl) (by kernel_rfl) (e := Extern.SlicesOverlaps.overlaps #[26, 26] #[4]) (by kernel_rfl) vs w
set_option maxHeartbeats 2000000 in
/-- One fact put in. -/
theorem Insert_ok {B : Base} {h : Heap} {M : List SA} {w : World} {v : Value} {n : Nat} {xs : List Fct} (I : Inv B h (ownSl 52 4 v n (xs.flatMap Fct.enc) :: M) w) (hn : n = xs.length) (i : Nat) (hi : i ≤ n) (x : Fct) (u : Nat) (hu : h u = some (.cells x.enc.toArray 52 (0, 0))) (hb : n ≤ 1000000000) :
    Calls Tryz.prog 136 [v, .int .i64 i, .slice (some ⟨u, 0, none⟩) (1 : Nat) (1 : Nat)].toArray w
      (fun ed w' => ∃ v' h', ed = .returned v' ∧ h.le h' ∧ Inv B h' (ownSl 52 4 v' (n + 1) ((xs.take i ++ x :: xs.drop i).flatMap Fct.enc) :: M) w') := by
  have hux : RdH h u 0 x.enc := fun j y hj => by simp only [Heap.cell, hu, Nat.zero_add]; simpa using hj
  have hfl : ∀ y : Fct, y.enc.length = 4 := fun _ => rfl
  by_cases hend : i = n
  · have hfin : (xs.take i ++ x :: xs.drop i).flatMap Fct.enc = xs.flatMap Fct.enc ++ x.enc := by
      rw [flat_ins, hend, hn, List.take_length, List.drop_length]; simp
    rw [hfin]
    rcases (I.at 0 rfl).2 with ⟨rfl, h0⟩ | ⟨gg, cap, cur, rfl, _, hg, hnc, hcm, _⟩
    · obtain rfl : n = 0 := by simpa using h0
      obtain rfl : i = 0 := hend
      refine Calls.ofWP (args := [.slice none 0 0, .int .i64 (0 : Nat), .slice (some ⟨u, 0, none⟩) (1 : Nat) (1 : Nat)]) Tryz.func136 rfl Tryz.ntmps136 (by kernel_rfl) (by simp) ?_
      intro e
      refine WP.seq ?_
      refine WP.region ?_
      refine Ops.y (v := .slice _ _ _) (Y.assign rfl) ?_
      refine Ops.nil ?_
      refine WP.seq ?_
      refine WP.region ?_
      refine Ops.y (v := .slice _ _ _) (Y.move rfl) ?_
      refine Ops.y (v := .int .i64 _) (Y.move rfl) ?_
      refine Ops.y (v := .slice _ _ _) (Y.slicenil Tryz.underlying26 Tryz.sizeOf52 rfl (.inr ⟨_, _, rfl, rfl⟩) (.inl rfl)) ?_
      refine Ops.nil ?_
      refine WP.seq ?_
      refine WP.region ?_
      refine Ops.y (v := .slice _ _ _) (Y.move rfl) ?_
      refine Ops.y (v := .int .i64 _) (Y.lens Tryz.underlying26 rfl) ?_
      refine Ops.y (v := .int .i64 _) (Y.assign rfl) ?_
      refine Ops.nil ?_
      refine WP.seq ?_
      refine WP.seq ?_
      refine WP.region ?_
      refine Ops.y (v := .int .i64 _) (Y.move rfl) ?_
      refine Ops.y (v := .bool false) (Y.dec_f (Y.eqi rfl rfl) ((by decide))) ?_
      refine Ops.nil ?_
      refine WP.cond_f rfl ?_
      refine WP.skip ?_
      refine WP.seq ?_
      refine WP.region ?_
      refine Ops.y (v := .slice _ _ _) (Y.move rfl) ?_
      refine Ops.y (v := .int .i64 _) (Y.lens Tryz.underlying26 rfl) ?_
      refine Ops.y (v := .int .i64 _) (Y.assign rfl) ?_
      refine Ops.nil ?_
      refine WP.seq ?_
      refine WP.seq ?_
      refine WP.region ?_
      refine Ops.y (v := .int .i64 _) (Y.move rfl) ?_
      refine Ops.y (v := .int .i64 _) (Y.move rfl) ?_
      refine Ops.y (v := .bool true) (Y.dec_t (Y.eqi rfl rfl) ((by decide))) ?_
      refine Ops.nil ?_
      refine WP.cond_t rfl ?_
      refine WP.seq ?_
      refine WP.region ?_
      refine Ops.y (v := .slice _ _ _) (Y.move rfl) ?_
      refine Ops.y (v := .slice _ _ _) (Y.move rfl) ?_
      refine Ops.go (O.append I Tryz.underlying26 et_52 0 rfl rfl rfl (I.rd hux) rfl rfl (by decide) (by omega) (by omega) ?_)
      intro g2 c2 w I
      refine Ops.y (v := .slice _ _ _) (Y.assign rfl) ?_
      refine Ops.nil ?_
      refine WP.ret ?_
      repeat (first | refine thenE_ret ?_ | refine blockE_ret ?_)
      exact ⟨.inl rfl, [.slice (some ⟨g2, 0, none⟩) (0 + 1) c2], ⟨rfl, trivial⟩, _, _, rfl, Heap.le.refl _, I⟩
    · simp only [maxLen] at hcm
      refine Calls.ofWP (args := [.slice (some ⟨gg, 0, none⟩) n cap, .int .i64 i, .slice (some ⟨u, 0, none⟩) (1 : Nat) (1 : Nat)]) Tryz.func136 rfl Tryz.ntmps136 (by kernel_rfl) (by simp) ?_
      intro e
      refine WP.seq ?_
      refine WP.region ?_
      refine Ops.y (v := .slice _ _ _) (Y.assign rfl) ?_
      refine Ops.nil ?_
      refine WP.seq ?_
      refine WP.region ?_
      refine Ops.y (v := .slice _ _ _) (Y.move rfl) ?_
      refine Ops.y (v := .int .i64 _) (Y.move rfl) ?_
      refine Ops.y (v := .slice _ _ _) (Y.slicesl (l := i) (h := n) Tryz.underlying26 Tryz.sizeOf52 rfl (.inr ⟨_, _, rfl, rfl⟩) (.inl ⟨rfl, rfl⟩) (by omega) (by omega)) ?_
      refine Ops.nil ?_
      refine WP.seq ?_
      refine WP.region ?_
      refine Ops.y (v := .slice _ _ _) (Y.move rfl) ?_
      refine Ops.y (v := .int .i64 _) (Y.lens Tryz.underlying26 rfl) ?_
      refine Ops.y (v := .int .i64 _) (Y.assign rfl) ?_
      refine Ops.nil ?_
      refine WP.seq ?_
      refine WP.seq ?_
      refine WP.region ?_
      refine Ops.y (v := .int .i64 _) (Y.move rfl) ?_
      refine Ops.y (v := .bool false) (Y.dec_f (Y.eqi rfl rfl) ((by decide))) ?_
      refine Ops.nil ?_
      refine WP.cond_f rfl ?_
      refine WP.skip ?_
      refine WP.seq ?_
      refine WP.region ?_
      refine Ops.y (v := .slice _ _ _) (Y.move rfl) ?_
      refine Ops.y (v := .int .i64 _) (Y.lens Tryz.underlying26 rfl) ?_
      refine Ops.y (v := .int .i64 _) (Y.assign rfl) ?_
      refine Ops.nil ?_
      refine WP.seq ?_
      refine WP.seq ?_
      refine WP.region ?_
      refine Ops.y (v := .int .i64 _) (Y.move rfl) ?_
      refine Ops.y (v := .int .i64 _) (Y.move rfl) ?_
      refine Ops.y (v := .bool true) (Y.dec_t (Y.eqi rfl rfl) ((by omega))) ?_
      refine Ops.nil ?_
      refine WP.cond_t rfl ?_
      refine WP.seq ?_
      refine WP.region ?_
      refine Ops.y (v := .slice _ _ _) (Y.move rfl) ?_
      refine Ops.y (v := .slice _ _ _) (Y.move rfl) ?_
      refine Ops.go (O.append I Tryz.underlying26 et_52 0 rfl rfl rfl (I.rd hux) rfl rfl (by decide) (by omega) (by omega) ?_)
      intro g2 c2 w I
      refine Ops.y (v := .slice _ _ _) (Y.assign rfl) ?_
      refine Ops.nil ?_
      refine WP.ret ?_
      repeat (first | refine thenE_ret ?_ | refine blockE_ret ?_)
      exact ⟨.inl rfl, [.slice (some ⟨g2, 0, none⟩) (n + 1) c2], ⟨rfl, trivial⟩, _, _, rfl, Heap.le.refl _, I⟩
  rcases (I.at 0 rfl).2 with ⟨rfl, h0⟩ | ⟨gg, cap, cur, rfl, _, hg, hnc, hcm, _⟩
  · exfalso; have : n = 0 := by simpa using h0
    omega
  simp only [maxLen] at hcm
  have hAl : ((xs.take i).flatMap Fct.enc).length = i * 4 := by rw [flat_len hfl, List.length_take]; congr 1; omega
  have hDl : ((xs.drop i).flatMap Fct.enc).length = (n - i) * 4 := by rw [flat_len hfl, List.length_drop, hn]
  rw [flat_ins]
  refine Calls.ofWP (args := [.slice (some ⟨gg, 0, none⟩) n cap, .int .i64 i, .slice (some ⟨u, 0, none⟩) (1 : Nat) (1 : Nat)]) Tryz.func136 rfl Tryz.ntmps136 (by kernel_rfl) (by simp) ?_
  intro e
  refine WP.seq ?_
  refine WP.region ?_
  refine Ops.y (v := .slice _ _ _) (Y.assign rfl) ?_
  refine Ops.nil ?_
  refine WP.seq ?_
  refine WP.region ?_
  refine Ops.y (v := .slice _ _ _) (Y.move rfl) ?_
  refine Ops.y (v := .int .i64 _) (Y.move rfl) ?_
  refine Ops.y (v := .slice _ _ _) (Y.slicesl (l := i) (h := n) Tryz.underlying26 Tryz.sizeOf52 rfl (.inr ⟨_, _, rfl, rfl⟩) (.inl ⟨rfl, rfl⟩) (by omega) (by omega)) ?_
  refine Ops.nil ?_
  refine WP.seq ?_
  refine WP.region ?_
  refine Ops.y (v := .slice _ _ _) (Y.move rfl) ?_
  refine Ops.y (v := .int .i64 _) (Y.lens Tryz.underlying26 rfl) ?_
  refine Ops.y (v := .int .i64 _) (Y.assign rfl) ?_
  refine Ops.nil ?_
  refine WP.seq ?_
  refine WP.seq ?_
  refine WP.region ?_
  refine Ops.y (v := .int .i64 _) (Y.move rfl) ?_
  refine Ops.y (v := .bool false) (Y.dec_f (Y.eqi rfl rfl) ((by decide))) ?_
  refine Ops.nil ?_
  refine WP.cond_f rfl ?_
  refine WP.skip ?_
  refine WP.seq ?_
  refine WP.region ?_
  refine Ops.y (v := .slice _ _ _) (Y.move rfl) ?_
  refine Ops.y (v := .int .i64 _) (Y.lens Tryz.underlying26 rfl) ?_
  refine Ops.y (v := .int .i64 _) (Y.assign rfl) ?_
  refine Ops.nil ?_
  refine WP.seq ?_
  refine WP.seq ?_
  refine WP.region ?_
  refine Ops.y (v := .int .i64 _) (Y.move rfl) ?_
  refine Ops.y (v := .int .i64 _) (Y.move rfl) ?_
  refine Ops.y (v := .bool false) (Y.dec_f (Y.eqi rfl rfl) ((by omega))) ?_
  refine Ops.nil ?_
  refine WP.cond_f rfl ?_
  refine WP.skip ?_
  refine WP.seq ?_
  refine WP.seq ?_
  refine WP.region ?_
  refine Ops.y (v := .int .i64 _) (Y.move rfl) ?_
  refine Ops.y (v := .int .i64 _) (Y.move rfl) ?_
  refine Ops.y (v := .int .i64 _) (Y.addi rfl rfl ⟨by omega, by omega⟩) ?_
  refine Ops.y (v := .slice _ _ _) (Y.move rfl) ?_
  refine Ops.y (v := .int .i64 _) (Y.caps Tryz.underlying26 rfl) ?_
  refine Ops.y (v := .bool (decide _)) (Y.gti rfl rfl) ?_
  refine Ops.nil ?_
  refine WP.cond_dec rfl (fun h8 => ?_) (fun h8 => ?_)
  · have hRd : Rd w gg 0 ((xs.take i).flatMap Fct.enc) := by
      have := I.rdOwn 0 rfl 0 (i * 4)
      rwa [List.drop_zero, flat_take hfl] at this
    have hgw : gg < w.heap.size := ((I.own _ (List.mem_cons_self ..)).2 gg (by simp [ownSl, Value.ownBlock])).2.1
    refine WP.seq ?_
    refine WP.region ?_
    refine Ops.y (v := .slice _ _ _) (Y.move rfl) ?_
    refine Ops.y (v := .int .i64 _) (Y.move rfl) ?_
    refine Ops.y (v := .slice _ _ _) (Y.cutO (l := 0) (h' := i) Tryz.underlying26 Tryz.sizeOf52 rfl (.inl ⟨rfl, rfl⟩) (.inr ⟨_, _, rfl, rfl⟩) (by omega) (by omega) (by omega)) ?_
    refine Ops.y (v := .int .i64 _) (Y.move rfl) ?_
    refine Ops.y (v := .int .i64 _) (Y.move rfl) ?_
    refine Ops.y (v := .int .i64 _) (Y.addi rfl rfl ⟨by omega, by omega⟩) ?_
    refine Ops.y (v := .int .i64 _) (Y.move rfl) ?_
    refine Ops.y (v := .int .i64 _) (Y.subi rfl rfl ⟨by omega, by omega⟩) ?_
    refine Ops.go (O.appendZ (n := i) (m := n + 1 - i) I Tryz.underlying26 Tryz.underlying3 et_52 rfl hRd hAl (congrArg (Value.int .i64) (by omega)) (by omega) (by omega) (by omega) (by omega) ?_ hgw)
    intro g2 c2 w I hne
    refine Ops.y (v := .slice _ _ _) (Y.assign rfl) ?_
    refine Ops.nil ?_
    have hs2 := (I.shapeOwn 0 rfl).2
    have hZl : ((Builtin.zeroCells (Value.agg #[.int .i64 0, .int .i64 0, .int .i64 0, .int .i64 0]).cells (n + 1 - i)).toList).length = (n + 1 - i) * 4 := by rw [Array.length_toList, size_zeroCells]; rfl
    generalize (Builtin.zeroCells (Value.agg #[.int .i64 0, .int .i64 0, .int .i64 0, .int .i64 0]).cells (n + 1 - i)).toList = Z at I hZl
    rw [show i + (n + 1 - i) = n + 1 by omega] at I hs2 ⊢
    refine WP.seq ?_
    refine WP.region ?_
    refine Ops.y (v := .slice _ _ _) (Y.move rfl) ?_
    refine Ops.y (v := .int .i64 _) (Y.move rfl) ?_
    refine Ops.y (v := .slice _ _ _) (Y.cutO (l := i) (h' := n + 1) Tryz.underlying26 Tryz.sizeOf52 rfl (.inr ⟨_, _, rfl, rfl⟩) (.inl ⟨rfl, rfl⟩) (by omega) (by omega) (by omega)) ?_
    refine Ops.y (v := .slice _ _ _) (Y.move rfl) ?_
    refine Ops.go (O.copy I Tryz.underlying26 et_52 0 rfl rfl rfl (q := 1) (by simp only [Nat.min_def]; split <;> omega) (by omega) (I.rd hux) rfl rfl ?_)
    intro w I
    refine Ops.nil ?_
    refine WP.seq ?_
    refine WP.regionF mixed I 8 (by kernel_rfl) ?_
    refine OpsF.y_ (v := .slice _ _ _) (fun _ => runs_none _) (fun _ w us hl I => Y.move rfl) ?_
    refine OpsF.y_ (v := .int .i64 _) (fun _ => runs_none _) (fun _ w us hl I => Y.move rfl) ?_
    refine OpsF.y_ (v := .int .i64 _) (fun _ => runs_none _) (fun _ w us hl I => Y.move rfl) ?_
    refine OpsF.y_ (v := .int .i64 _) (fun _ => runs_none _) (fun _ w us hl I => Y.addi rfl rfl ⟨by omega, by omega⟩) ?_
    refine OpsF.y_ (v := .slice _ _ _) (fun _ => runs_none _) (fun _ w us hl I => Y.cutO (l := i + 1) (h' := n + 1) Tryz.underlying26 Tryz.sizeOf52 rfl (.inr ⟨_, _, rfl, rfl⟩) (.inl ⟨rfl, rfl⟩) (by omega) (by omega) (by omega)) ?_
    refine OpsF.y_ (v := .slice _ _ _) (fun _ => runs_none _) (fun _ w us hl I => Y.move rfl) ?_
    refine OpsF.y_ (v := .int .i64 _) (fun _ => runs_none _) (fun _ w us hl I => Y.move rfl) ?_
    refine OpsF.y_ (v := .slice _ _ _) (fun _ => runs_none _) (fun _ w us hl I => Y.cutO (l := i) (h' := n) Tryz.underlying26 Tryz.sizeOf52 rfl (.inr ⟨_, _, rfl, rfl⟩) (.inl ⟨rfl, rfl⟩) (by omega) (by omega) (by omega)) ?_
    refine OpsF.nil ?_
    intro _ w hl I
    have hRd2 : Rd w gg (i * 4) ((xs.drop i).flatMap Fct.enc) := by have := I.rdOwn 1 rfl (i * 4) ((n - i) * 4); rwa [flat_drop hfl, List.take_of_length_le (by omega)] at this
    refine Ops.go (O.copy I Tryz.underlying26 et_52 0 rfl rfl rfl (q := n - i) (by simp only [Nat.min_def]; split <;> omega) (by omega) hRd2 hDl (fct_one _) ?_)
    intro w I
    refine Ops.nil ?_
    refine WP.seq ?_
    refine WP.region ?_
    refine Ops.y (v := .slice _ _ _) (Y.move rfl) ?_
    refine Ops.y (v := .slice _ _ _) (Y.assign rfl) ?_
    refine Ops.nil ?_
    refine WP.ret ?_
    repeat (first | refine thenE_ret ?_ | refine blockE_ret ?_)
    have hI : over (over ((xs.take i).flatMap Fct.enc ++ Z) (i * 4) x.enc) ((i + 1) * 4) ((xs.drop i).flatMap Fct.enc) = (xs.take i).flatMap Fct.enc ++ x.enc ++ (xs.drop i).flatMap Fct.enc := by
      have := ins_grow ((xs.take i).flatMap Fct.enc) Z x.enc ((xs.drop i).flatMap Fct.enc) (by rw [hZl, hDl, hfl]; omega)
      rwa [hAl, hfl, show i * 4 + 4 = (i + 1) * 4 by omega] at this
    have I := I.weak (M' := _ :: M) (List.Sublist.cons_cons _ (List.sublist_cons_self _ _))
    try simp only [List.set_cons_zero] at I
    rw [hI] at I
    exact ⟨.inl rfl, [.slice (some ⟨g2, 0, none⟩) (n + 1) c2], ⟨rfl, trivial⟩, _, _, rfl, hl, I⟩
  · have hcn : n + 1 ≤ cap := by omega
    obtain ⟨Yz, hYl, I⟩ := I.widen (m := 1) hcn
    have hou := ((I.own _ (List.mem_cons_self ..)).2 gg (by simp [ownSl, Value.ownBlock])).2.2
    have hne : u ≠ gg := fun e => by rw [← e, hu] at hou; cases hou
    refine WP.skip ?_
    refine WP.seq ?_
    refine WP.region ?_
    refine Ops.y (v := .slice _ _ _) (Y.move rfl) ?_
    refine Ops.y (v := .int .i64 _) (Y.move rfl) ?_
    refine Ops.y (v := .int .i64 _) (Y.move rfl) ?_
    refine Ops.y (v := .int .i64 _) (Y.addi rfl rfl ⟨by omega, by omega⟩) ?_
    refine Ops.y (v := .slice _ _ _) (Y.cutO (l := 0) (h' := n + 1) Tryz.underlying26 Tryz.sizeOf52 rfl (.inl ⟨rfl, rfl⟩) (.inr ⟨_, _, rfl, rfl⟩) (by omega) (by omega) (by omega)) ?_
    refine Ops.y (v := .slice _ _ _) (Y.assign rfl) ?_
    refine Ops.nil ?_
    have hsB := (I.shapeOwn 0 rfl).1
    have hsA : w.shape? u = some (52, 4) := by simp [World.shape?, I.imm _ _ hu]
    have hfr : ∀ o, w.frozen? ⟨u, o, none⟩ = false := fun o => by simp [World.frozen?, I.imm _ _ hu]
    refine WP.seq ?_
    refine WP.seq ?_
    refine WP.region ?_
    refine Ops.y (v := .slice _ _ _) (Y.move rfl) ?_
    refine Ops.y (v := .slice _ _ _) (Y.move rfl) ?_
    refine Ops.y (v := .int .i64 _) (Y.move rfl) ?_
    refine Ops.y (v := .int .i64 _) (Y.move rfl) ?_
    refine Ops.y (v := .int .i64 _) (Y.addi rfl rfl ⟨by omega, by omega⟩) ?_
    refine Ops.y (v := .slice _ _ _) (Y.cutO (l := i + 1) (h' := n + 1) Tryz.underlying26 Tryz.sizeOf52 rfl (.inr ⟨_, _, rfl, rfl⟩) (.inl ⟨rfl, rfl⟩) (by omega) (by omega) (by omega)) ?_
    refine Ops.y (v := _) (O.overlaps ovl_run Tryz.underlying26 Tryz.sizeOf52 rfl rfl hne hsA hsB (by omega) hfr) ?_
    refine Ops.y (v := .bool _) (Y.not rfl) ?_
    refine Ops.nil ?_
    refine WP.cond_t rfl ?_
    refine WP.seq ?_
    refine WP.regionF mixed I 8 (by kernel_rfl) ?_
    refine OpsF.y_ (v := .slice _ _ _) (fun _ => runs_none _) (fun _ w us hl I => Y.move rfl) ?_
    refine OpsF.y_ (v := .int .i64 _) (fun _ => runs_none _) (fun _ w us hl I => Y.move rfl) ?_
    refine OpsF.y_ (v := .int .i64 _) (fun _ => runs_none _) (fun _ w us hl I => Y.move rfl) ?_
    refine OpsF.y_ (v := .int .i64 _) (fun _ => runs_none _) (fun _ w us hl I => Y.addi rfl rfl ⟨by omega, by omega⟩) ?_
    refine OpsF.y_ (v := .slice _ _ _) (fun _ => runs_none _) (fun _ w us hl I => Y.cutO (l := i + 1) (h' := n + 1) Tryz.underlying26 Tryz.sizeOf52 rfl (.inr ⟨_, _, rfl, rfl⟩) (.inl ⟨rfl, rfl⟩) (by omega) (by omega) (by omega)) ?_
    refine OpsF.y_ (v := .slice _ _ _) (fun _ => runs_none _) (fun _ w us hl I => Y.move rfl) ?_
    refine OpsF.y_ (v := .int .i64 _) (fun _ => runs_none _) (fun _ w us hl I => Y.move rfl) ?_
    refine OpsF.y_ (v := .slice _ _ _) (fun _ => runs_none _) (fun _ w us hl I => Y.cutO (l := i) (h' := n + 1) Tryz.underlying26 Tryz.sizeOf52 rfl (.inr ⟨_, _, rfl, rfl⟩) (.inl ⟨rfl, rfl⟩) (by omega) (by omega) (by omega)) ?_
    refine OpsF.nil ?_
    intro _ w hl I
    have hRd2 : Rd w gg (i * 4) ((xs.drop i).flatMap Fct.enc) := by have := I.rdOwn 0 rfl (i * 4) ((n - i) * 4); rwa [List.drop_append_of_le_length (by rw [flat_len hfl]; omega), flat_drop hfl, List.take_left' hDl] at this
    refine Ops.go (O.copy I Tryz.underlying26 et_52 0 rfl rfl rfl (q := n - i) (by simp only [Nat.min_def]; split <;> omega) (by omega) hRd2 hDl (fct_one _) ?_)
    intro w I
    refine Ops.nil ?_
    refine WP.seq ?_
    refine WP.region ?_
    refine Ops.y (v := .slice _ _ _) (Y.move rfl) ?_
    refine Ops.y (v := .int .i64 _) (Y.move rfl) ?_
    refine Ops.y (v := .slice _ _ _) (Y.cutO (l := i) (h' := n + 1) Tryz.underlying26 Tryz.sizeOf52 rfl (.inr ⟨_, _, rfl, rfl⟩) (.inl ⟨rfl, rfl⟩) (by omega) (by omega) (by omega)) ?_
    refine Ops.y (v := .slice _ _ _) (Y.move rfl) ?_
    refine Ops.go (O.copy I Tryz.underlying26 et_52 0 rfl rfl rfl (q := 1) (by simp only [Nat.min_def]; split <;> omega) (by omega) (I.rd (hux.le hl)) rfl rfl ?_)
    intro w I
    refine Ops.nil ?_
    refine WP.seq ?_
    refine WP.region ?_
    refine Ops.y (v := .slice _ _ _) (Y.move rfl) ?_
    refine Ops.y (v := .slice _ _ _) (Y.assign rfl) ?_
    refine Ops.nil ?_
    refine WP.ret ?_
    repeat (first | refine thenE_ret ?_ | refine blockE_ret ?_)
    have hI : over (over (xs.flatMap Fct.enc ++ Yz) ((i + 1) * 4) ((xs.drop i).flatMap Fct.enc)) (i * 4) x.enc = (xs.take i).flatMap Fct.enc ++ x.enc ++ (xs.drop i).flatMap Fct.enc := by
      have := ins_shift ((xs.take i).flatMap Fct.enc) ((xs.drop i).flatMap Fct.enc) Yz x.enc (by rw [hYl, hfl])
      rw [hAl, hfl, show i * 4 + 4 = (i + 1) * 4 by omega, ← List.append_assoc, ← List.flatMap_append, List.take_append_drop] at this
      exact this
    try simp only [List.set_cons_zero] at I
    rw [hI] at I
    exact ⟨.inl rfl, [.slice (some ⟨gg, 0, none⟩) (n + 1) cap], ⟨rfl, trivial⟩, _, _, rfl, hl, I⟩
end Go.TF
end
section
/- Adding a fact, as base and the document do. -/
namespace Go.TF
open Go Go.RowKit Go.Proofs
set_option maxRecDepth 20000

theorem srt_place {f : List Fct} (hp : ∀ y ∈ f, PF y) (hs : SrtF f) : ∀ i, (hi : i < f.length) → (i : Int) ≤ placeF f[i]
  | 0, hi => (hp _ (List.getElem_mem hi)).place.1
  | i + 1, hi => by
    have h1 := srt_place hp hs i (by omega)
    have h2 := hs.get (i := i) (j := i + 1) (by omega) hi
    omega
theorem srt_len {f : List Fct} (hp : ∀ y ∈ f, PF y) (hs : SrtF f) : f.length ≤ 125 := by
  rcases Nat.lt_or_ge 125 f.length with h | h
  · have h1 := srt_place hp hs 125 h
    have h2 := (hp _ (List.getElem_mem h)).place.2
    omega
  · exact h
theorem FOk.len125 {l : List Prd} {f : List Fct} (ok : FOk l f) : f.length ≤ 125 := srt_len ok.pf ok.srt
def CloneP (xs : List Fct) (h0 : Heap) : Value → Heap → Prop := fun v h => ∃ s : Sl Fct, v = s.val ∧ s.xs = xs ∧ OwnH 52 4 s Fct.enc h0 h ∧ (s.xs = [] → s.cap = 0)
theorem CloneP.mono {xs : List Fct} {h0 : Heap} : MonoS (CloneP xs h0) := fun _ _ _ hl hx => by
  obtain ⟨s, h1, h2, h3, h4⟩ := hx
  exact ⟨s, h1, h2, h3.le hl, h4⟩
theorem fct_inj {x y : Fct} (h : x.enc = y.enc) : x = y := by
  cases x; cases y; simp only [Fct.enc, List.cons.injEq, Value.int.injEq, true_and, and_true] at h; simp only [Fct.mk.injEq]; exact h
theorem lit_apart {s : Sl Fct} {u : Nat} {h0 h : Heap} {x : Fct} (o : OwnH 52 4 s Fct.enc h0 h) (s0 : s.xs = [] → s.cap = 0) (hu : h u = some (.cells x.enc.toArray 52 (0, 0))) (hx : x ∉ s.xs) : s.at_ ≠ some ⟨u, 0, none⟩ := by
  intro e
  rcases o with rfl | ⟨g, cur, e1, e2, e3, e4, e5, e6, e7⟩
  · cases e
  · rw [e1] at e
    have : g = u := by simpa using e
    subst this
    rw [e3] at hu
    have hc : cur = x.enc.toArray := by simpa using hu
    subst hc
    have hcap : s.cap = 1 := by simp only [List.size_toArray, Fct.enc, List.length_cons, List.length_nil] at e6; omega
    match hs : s.xs with
    | [] => have := s0 hs; omega
    | [y] =>
      rw [hs] at e7
      have : x.enc = y.enc := by simpa [Fct.enc] using e7
      exact hx (by rw [hs, fct_inj this]; simp)
    | _ :: _ :: _ => rw [hs] at e4; simp only [List.length_cons] at e4; omega
theorem flat_set (v : Int) : ∀ (xs : List Fct) (i : Nat) (hi : i < xs.length), (xs.flatMap Fct.enc).set (i * 4 + 3) (.int .i64 v) = (xs.set i ⟨xs[i].pred, xs[i].a, xs[i].b, v⟩).flatMap Fct.enc
  | [], i, hi => absurd hi (Nat.not_lt_zero _)
  | x :: xs, 0, _ => by simp [Fct.enc]
  | x :: xs, i + 1, hi => by
    have := flat_set v xs i (by simpa using hi)
    simp only [List.flatMap_cons, List.set_cons_succ, List.getElem_cons_succ]
    rw [← this, List.set_append, if_neg (by simp only [Fct.enc, List.length_cons, List.length_nil]; omega)]
    congr 2
    show (i + 1) * 4 + 3 - 4 = _
    omega
theorem isF_mem {f : List Fct} {x : Fct} (h : isF f x = false) : x ∉ f := fun hx => by
  have : lkF f (placeF x) = none := by unfold isF at h; cases hk : lkF f (placeF x) <;> simp_all
  exact lkF_none.1 this x hx rfl
/-- What adding hands back. -/
def PutP (r : List Fct × Bool) (v : Value) (h : Heap) : Prop := ∃ s : Sl Fct, v = .tuple #[s.val, .bool r.2] ∧ s.xs = r.1 ∧ Fcts s h
/-- What adding hands back is the call's own. -/
def PutO (h0 : Heap) (r : List Fct × Bool) (v : Value) (h : Heap) : Prop := ∃ s : Sl Fct, v = .tuple #[s.val, .bool r.2] ∧ s.xs = r.1 ∧ Fcts s h ∧ OwnH 52 4 s Fct.enc h0 h
theorem PutO.put {h0 h : Heap} {r : List Fct × Bool} {v : Value} (x : PutO h0 r v h) : PutP r v h := by obtain ⟨s, a, b, c, _⟩ := x; exact ⟨s, a, b, c⟩
set_option maxHeartbeats 1000000 in
theorem Put_own (B : Base) (hB : B.ok) (l : Sl Prd) (hls : Prds l B.h) (f : Sl Fct) (hf : Fcts f B.h) (ok : FOk l.xs f.xs) (x : Fct) (hx : factFine l.xs x = true) : Fn Tryz.prog 67 [l.val, f.val, x.val] B (PutO B.h (addF (predOf l.xs x.pred).kind f.xs x)) := by
  have px := fine_pf ok.len hx
  have hiff := isF_iff (x := x) ok.srt
  have h01 := (fine_iff.1 hx).1
  have hk : x.pred.toNat < l.xs.length := by omega
  have E2 := hls.at hk
  have hpo : l.xs[x.pred.toNat] = predOf l.xs x.pred := (predOf_getE h01.1 h01.2).symm
  have hkd := fine_kind hx
  rw [← hpo] at hkd
  have h125 := ok.len125
  refine Fn.of Tryz.func67 rfl Tryz.ntmps67 (by kernel_rfl) (by simp) ?_
  intro e
  have I := Inv.start hB
  refine WP.seq ?_
  refine WP.region ?_
  refine Ops.go (O.box (v := .agg #[_, _, _, _]) I rfl rfl ?_)
  intro b5 w I
  refine Ops.y (v := .slice _ _ _) (Y.assign rfl) ?_
  refine Ops.y (v := .bool _) (Y.assign rfl) ?_
  refine Ops.nil ?_
  refine WP.seq ?_
  refine WP.region ?_
  refine Ops.y (v := .slice _ _ _) (Y.move rfl) ?_
  refine Ops.y (v := .agg #[_, _, _, _]) (Y.loadv ty_52 rfl (I.rdbox 0 rfl 0 4) rfl rfl) ?_
  refine Ops.go (O.callv I Tryz.call70 (Seek_ok _ I.base_ok f hf ok.pf ok.srt x px) rfl ?_)
  intro w I
  refine Ops.y (v := .tuple #[_, _]) (Y.move rfl) ?_
  refine Ops.y (v := .int .i64 _) (Y.extract rfl rfl) ?_
  refine Ops.y (v := .bool _) (Y.extract rfl rfl) ?_
  refine Ops.y (v := .int .i64 _) (Y.assign rfl) ?_
  refine Ops.y (v := .bool _) (Y.assign rfl) ?_
  refine Ops.nil ?_
  cases hi : isF f.xs x
  · refine WP.seq ?_
    refine WP.seq ?_
    refine WP.region ?_
    refine Ops.y (v := .bool _) (Y.move rfl) ?_
    refine Ops.y (v := .bool true) (Y.b (Y.not rfl) ((by first | rfl | (rw [hi]; rfl)))) ?_
    refine Ops.nil ?_
    refine WP.cond_t rfl ?_
    refine WP.seq ?_
    refine WP.regionF mixed I 5 (by kernel_rfl) ?_
    refine OpsF.y_ (v := .slice _ _ _) (fun _ => runs_none _) (fun _ w us hl I => Y.move rfl) ?_
    refine OpsF.x_ (Φ := CloneP f.xs B.h) CloneP.mono (fun _ => runs_none _) ?_ ?_
    · intro _ w hl I
      try unfold AllL
      refine O.call I Tryz.call63 (CloneFct_ok _ I.base_ok f (hf.le hl) (by omega)) rfl ?_
      rintro _ h2 w I hl' ⟨s, rfl, es, o, s0⟩
      exact ⟨_, hl', I, ⟨s, rfl, es, o.older hl, s0⟩⟩
    refine OpsF.y_ (v := .int .i64 _) (fun _ => runs_none _) (fun _ w us hl I => Y.move rfl) ?_
    refine OpsF.y_ (v := .agg #[_, _, _, _]) (fun _ => runs_none _) (fun _ w us hl I => Y.loadv ty_52 rfl (I.rdbox 0 rfl 0 4) rfl rfl) ?_
    refine OpsF.x_ (Φ := LitW 52 x.enc 1) LitW.mono (fun _ => runs_none _) ?_ ?_
    · intro _ w hl I u21 q21
      exact O.mklit (cs := x.enc) I Tryz.underlying26 Tryz.sizeOf52 Tryz.zeroValue52 (by decide) (by decide) rfl rfl (fun v h w I le sl => ⟨h, le, I, sl⟩)
    refine OpsF.nil ?_
    intro _ w hl I u21 q21 u24 q24
    obtain ⟨s, rfl, es, o, s0⟩ := q21 rfl
    obtain ⟨u, rfl, hu⟩ := q24 rfl
    have hne := lit_apart o s0 hu (by rw [es]; exact isF_mem hi)
    obtain ⟨h6, I, mono6, keep6⟩ := I.unsettle o (Heap.le.refl _)
    refine Ops.go (O.calls Tryz.call136 (Insert_ok I rfl (posF f.xs x) (by rw [es]; exact posF_le) x u ((keep6 u _ hu).resolve_right hne) (by rw [es]; omega)) rfl ?_)
    rintro ed w ⟨v7, h7, rfl, le7, I⟩
    refine ⟨_, rfl, ?_⟩
    have hB6 := I.ext
    obtain ⟨h8, s8, le8, rfl, hx8, o8, I⟩ := I.settleO (by have := posF_le (f := f.xs) (x := x); simp only [List.length_append, List.length_cons, List.length_take, List.length_drop, es]; omega)
    refine Ops.y (v := .slice _ _ _) (Y.assign rfl) ?_
    refine Ops.y (v := .bool _) (Y.assign rfl) ?_
    refine Ops.nil ?_
    refine WP.ret ?_
    repeat (first | refine thenE_ret ?_ | refine blockE_ret ?_)
    exact retQ.mk (vs := [.slice _ _ _, .bool _]) rfl ⟨rfl, rfl, trivial⟩ I.ext_of (by rw [addF_new ok.srt hi]; exact ⟨s8, rfl, by rw [hx8, es], ⟨o8.in (fun _ => rfl), by rw [hx8, es]; simp only [List.length_append, List.length_cons, List.length_take, List.length_drop]; omega⟩, o8.older hB6⟩)
  · obtain ⟨hlt, he⟩ := hiff.1 hi
    have E1 := hf.at hlt
    have ha := addF_old (k := (predOf l.xs x.pred).kind) ok.srt hlt he
    refine WP.seq ?_
    refine WP.seq ?_
    refine WP.region ?_
    refine Ops.y (v := .bool _) (Y.move rfl) ?_
    refine Ops.y (v := .bool false) (Y.b (Y.not rfl) ((by first | rfl | (rw [hi]; rfl)))) ?_
    refine Ops.nil ?_
    refine WP.cond_f rfl ?_
    refine WP.skip ?_
    refine WP.seq ?_
    refine WP.regionQ mixed I (by kernel_rfl) ?_
    refine OpsQ.y (v := .slice _ _ _) (fun w I => Y.move rfl) ?_
    refine OpsQ.y (v := .pointer (some ⟨_, _, none⟩)) (fun w I => Y.fa0 fa_52_0 rfl) ?_
    refine OpsQ.y (v := .int .i64 _) (fun w I => Y.loadv ty_3 rfl (I.rdbox 0 rfl 0 1) rfl rfl) ?_
    refine OpsQ.y (v := .pointer (some ⟨_, _, none⟩)) (fun w I => Y.idxEl E2 Tryz.underlying22 Tryz.sizeOf62 rfl rfl h01.1 rfl) ?_
    refine OpsQ.y (v := .pointer (some ⟨_, _, none⟩)) (fun w I => Y.fa fa_62_2 rfl) ?_
    refine OpsQ.y (v := .int .i64 _) (fun w I => Y.loadv ty_3 rfl (I.rd (E2.rd.part 2 1)) rfl rfl) ?_
    refine OpsQ.y (v := .slice _ _ _) (fun w I => Y.move rfl) ?_
    refine OpsQ.y (v := .int .i64 _) (fun w I => Y.move rfl) ?_
    refine OpsQ.y (v := .pointer (some ⟨_, _, none⟩)) (fun w I => Y.idxEl E1 Tryz.underlying26 Tryz.sizeOf52 rfl rfl (Int.natCast_nonneg _) rfl) ?_
    refine OpsQ.y (v := .pointer (some ⟨_, _, none⟩)) (fun w I => Y.fa fa_52_3 rfl) ?_
    refine OpsQ.y (v := .int .i64 _) (fun w I => Y.loadv ty_3 rfl (I.rd (E1.rd.part 3 1)) rfl rfl) ?_
    refine OpsQ.y (v := .pointer (some ⟨_, _, none⟩)) (fun w I => Y.fa fa_52_3 rfl) ?_
    refine OpsQ.y (v := .int .i64 _) (fun w I => Y.loadv ty_3 rfl (I.rdbox 0 rfl 3 1) rfl rfl) ?_
    refine OpsQ.c (fun w I => QC.callv I Tryz.call137 (Joined_ok _ I.base_ok _ _ _ hkd) rfl) ?_
    refine OpsQ.y (v := .int .i64 _) (fun w I => Y.assign rfl) ?_
    refine OpsQ.nil ?_
    intro w I
    refine WP.seq ?_
    refine WP.seq ?_
    refine WP.region ?_
    refine Ops.y (v := .int .i64 _) (Y.move rfl) ?_
    refine Ops.y (v := .slice _ _ _) (Y.move rfl) ?_
    refine Ops.y (v := .int .i64 _) (Y.move rfl) ?_
    refine Ops.y (v := .pointer (some ⟨_, _, none⟩)) (Y.idxEl E1 Tryz.underlying26 Tryz.sizeOf52 rfl rfl (Int.natCast_nonneg _) rfl) ?_
    refine Ops.y (v := .pointer (some ⟨_, _, none⟩)) (Y.fa fa_52_3 rfl) ?_
    refine Ops.y (v := .int .i64 _) (Y.loadv ty_3 rfl (I.rd (E1.rd.part 3 1)) rfl rfl) ?_
    refine Ops.y (v := .bool (decide _)) (Y.eqi rfl rfl) ?_
    refine Ops.nil ?_
    refine WP.cond_dec rfl (fun h5 => ?_) (fun h5 => ?_)
    · rw [hpo] at h5
      refine WP.seq ?_
      refine WP.region ?_
      refine Ops.y (v := .slice _ _ _) (Y.move rfl) ?_
      refine Ops.go (O.call I Tryz.call63 (CloneFct_ok _ I.base_ok f hf (by omega)) rfl ?_)
      rintro _ h2 w I le2 ⟨s, rfl, es, o, s0⟩
      refine Ops.y (v := .slice _ _ _) (Y.assign rfl) ?_
      refine Ops.y (v := .bool _) (Y.assign rfl) ?_
      refine Ops.nil ?_
      have hset : f.xs.set (posF f.xs x) ⟨f.xs[posF f.xs x].pred, f.xs[posF f.xs x].a, f.xs[posF f.xs x].b, joinV (predOf l.xs x.pred).kind f.xs[posF f.xs x].v x.v⟩ = f.xs := by rw [h5]; exact List.set_getElem_self _
      refine WP.ret ?_
      repeat (first | refine thenE_ret ?_ | refine blockE_ret ?_)
      exact retQ.mk (vs := [.slice _ _ _, .bool _]) rfl ⟨rfl, rfl, trivial⟩ I.ext_of (by rw [ha, hset]; exact ⟨s, by rw [decide_eq_false (fun h => h h5)]; rfl, es, ⟨o.in (fun _ => rfl), by rw [es]; omega⟩, o⟩)
    rw [hpo] at h5
    refine WP.skip ?_
    refine WP.seq ?_
    refine WP.region ?_
    refine Ops.y (v := .slice _ _ _) (Y.move rfl) ?_
    refine Ops.go (O.call I Tryz.call63 (CloneFct_ok _ I.base_ok f hf (by omega)) rfl ?_)
    rintro _ h2 w I le2 ⟨s, rfl, es, o, s0⟩
    refine Ops.y (v := .slice _ _ _) (Y.assign rfl) ?_
    refine Ops.nil ?_
    obtain ⟨a, c, ys⟩ := s
    dsimp only at es
    subst es
    have E3 := (o.in (fun _ => rfl)).el (List.getElem?_eq_getElem hlt)
    obtain ⟨g, rfl⟩ : ∃ g, a = some ⟨g, 0, none⟩ := by
      rcases o with o | ⟨g, cur, e1, _⟩
      · have := congrArg Sl.xs o; dsimp only at this; rw [this] at hlt; simp at hlt
      · exact ⟨g, e1⟩
    obtain ⟨h6, I, mono6, keep6⟩ := I.unsettle o (Heap.le.refl _)
    refine WP.seq ?_
    refine WP.region ?_
    refine Ops.y (v := .slice _ _ _) (Y.move rfl) ?_
    refine Ops.y (v := .int .i64 _) (Y.move rfl) ?_
    refine Ops.y (v := .int .i64 _) (Y.move rfl) ?_
    refine Ops.y (v := .pointer (some ⟨_, _, none⟩)) (Y.idxEl E3 Tryz.underlying26 Tryz.sizeOf52 rfl rfl (Int.natCast_nonneg _) rfl) ?_
    refine Ops.y (v := .pointer (some ⟨_, _, none⟩)) (Y.fa fa_52_3 rfl) ?_
    refine Ops.go (O.storeS (v := .int .i64 _) I ty_3 et_52 0 rfl rfl rfl rfl rfl (by rw [flat_len (enc := Fct.enc) (k := 4) (fun _ => rfl)]; simp only [Sl.off, Option.getD_some]; omega) ?_)
    intro w I
    refine Ops.nil ?_
    have I : Inv B h6 [ownSl 52 4 (.slice (some ⟨g, 0, none⟩) f.xs.length c) f.xs.length ((f.xs.set (posF f.xs x) ⟨f.xs[posF f.xs x].pred, f.xs[posF f.xs x].a, f.xs[posF f.xs x].b, joinV (predOf l.xs x.pred).kind f.xs[posF f.xs x].v x.v⟩).flatMap Fct.enc), box b5 x.enc 52] w := by
      rw [← flat_set, ← hpo]
      have J := I
      simp only [Sl.off, Option.getD_some, Nat.zero_add] at J
      exact J
    have hB6 := I.ext
    obtain ⟨h8, s8, le8, hv8, hx8, o8, I⟩ := I.settleO (by rw [List.length_set])
    refine WP.seq ?_
    refine WP.region ?_
    refine Ops.y (v := .slice _ _ _) (Y.move rfl) ?_
    refine Ops.y (v := .slice _ _ _) (Y.assign rfl) ?_
    refine Ops.y (v := .bool _) (Y.assign rfl) ?_
    refine Ops.nil ?_
    refine WP.ret ?_
    repeat (first | refine thenE_ret ?_ | refine blockE_ret ?_)
    exact retQ.mk (vs := [.slice _ _ _, .bool _]) rfl ⟨rfl, rfl, trivial⟩ I.ext_of (by rw [ha]; exact ⟨s8, by rw [hv8, decide_eq_true h5]; rfl, hx8, ⟨o8.in (fun _ => rfl), by rw [hx8, List.length_set]; omega⟩, o8.older hB6⟩)
theorem Put_ok (B : Base) (hB : B.ok) (l : Sl Prd) (hls : Prds l B.h) (f : Sl Fct) (hf : Fcts f B.h) (ok : FOk l.xs f.xs) (x : Fct) (hx : factFine l.xs x = true) : Fn Tryz.prog 67 [l.val, f.val, x.val] B (PutP (addF (predOf l.xs x.pred).kind f.xs x)) := (Put_own B hB l hls f hf ok x hx).mono fun _ _ _ h => h.put
structure AddS where
  k : Nat
  n : Nat
  a : Option Addr
  c : Nat
  acc : List Fct
  th : Bool
  ch : Bool
structure AddJ (B : Base) (b5 : Nat) (x : Fct) (kd : Int) (f : List Fct) (s : AddS) (w : World) : Prop where
  inv : ∃ h1, B.h.le h1 ∧ Inv B h1 [ownSl 52 4 (.slice s.a s.n s.c) s.n (s.acc.flatMap Fct.enc), box b5 x.enc 52] w
  n : s.n = s.acc.length
  k : s.k ≤ f.length
  le : s.n ≤ s.k + 1
  lo : s.th = false → s.acc = f.take s.k ∧ s.ch = false ∧ ∀ j, j < s.k → ∀ hj : j < f.length, placeF f[j] < placeF x
  hi : s.th = true → addF kd f x = (s.acc ++ f.drop s.k, s.ch) ∧ ∀ j, s.k ≤ j → ∀ hj : j < f.length, placeF x < placeF f[j]
theorem flat_snoc (acc : List Fct) (y : Fct) : (acc ++ [y]).flatMap Fct.enc = acc.flatMap Fct.enc ++ y.enc := by simp
set_option maxHeartbeats 2000000 in
theorem radd_ok (B : Base) (hB : B.ok) (l : Sl Prd) (hls : Prds l B.h) (f : Sl Fct) (hf : Fcts f B.h) (ok : FOk l.xs f.xs) (x : Fct) (hx : factFine l.xs x = true) : Fn Tryz.prog 79 [l.val, f.val, x.val] B (PutP (addF (predOf l.xs x.pred).kind f.xs x)) := by
  have px := fine_pf ok.len hx
  have h01 := (fine_iff.1 hx).1
  have hkp : x.pred.toNat < l.xs.length := by omega
  have hpo : l.xs[x.pred.toNat] = predOf l.xs x.pred := (predOf_getE h01.1 h01.2).symm
  have h125 := ok.len125
  refine Fn.of Tryz.func79 rfl Tryz.ntmps79 (by kernel_rfl) (by simp) ?_
  intro e
  have I := Inv.start hB
  refine WP.seq ?_
  refine WP.region ?_
  refine Ops.go (O.box (v := .agg #[_, _, _, _]) I rfl rfl ?_)
  intro b5 w I
  refine Ops.y (v := .slice _ _ _) (Y.assign rfl) ?_
  refine Ops.y (v := .bool _) (Y.assign rfl) ?_
  refine Ops.nil ?_
  have I := I.nilSl 52 4
  refine WP.seq ?_
  refine WP.region ?_
  refine Ops.y (v := .slice _ _ _) (Y.assign rfl) ?_
  refine Ops.nil ?_
  refine WP.seq ?_
  refine WP.region ?_
  refine Ops.y (v := .bool _) (Y.assign rfl) ?_
  refine Ops.y (v := .bool _) (Y.assign rfl) ?_
  refine Ops.nil ?_
  refine WP.seq ?_
  refine WP.seq ?_
  refine WP.region ?_
  refine Ops.y (v := .int .i64 _) (Y.assign rfl) ?_
  refine Ops.nil ?_
  refine WP.block ?_
  refine WP.loopE (σ := AddS) (fun s => [(0, l.val), (1, f.val), (5, .pointer (some ⟨b5, 0, none⟩)), (8, .slice s.a s.n s.c), (9, .bool s.th), (10, .bool s.ch), (11, .int .i64 s.k)]) (AddJ B b5 x (predOf l.xs x.pred).kind f.xs) (fun s => f.xs.length - s.k)
    ⟨⟨0, 0, none, 0, [], false, false⟩, ⟨rfl, rfl, rfl, rfl, rfl, rfl, rfl, trivial⟩, ⟨_, Heap.le.refl _, I⟩, rfl, Nat.zero_le _, Nat.zero_le _, fun _ => ⟨rfl, rfl, fun j hj => absurd hj (Nat.not_lt_zero _)⟩, fun h => by cases h⟩ ?_
  rintro ⟨k, n, a, c, acc, th, ch⟩ e w ⟨⟨h1, gl, I⟩, hn, hk, hle, hF, hT⟩
  dsimp only at I hn hk hle hF hT ⊢
  refine WP.seq ?_
  refine WP.seq ?_
  refine WP.region ?_
  refine Ops.y (v := .int .i64 _) (Y.move rfl) ?_
  refine Ops.y (v := .slice _ _ _) (Y.move rfl) ?_
  refine Ops.y (v := .int .i64 _) (Y.lens Tryz.underlying26 rfl) ?_
  refine Ops.y (v := .bool (decide _)) (Y.lti rfl rfl) ?_
  refine Ops.nil ?_
  refine WP.cond_dec rfl (fun h => ?_) (fun h => ?_)
  · have hk' : k < f.xs.length := by omega
    have E1 := (hf.le gl).at hk'
    have E2 := (hls.le gl).at hkp
    have py := ok.pf _ (List.getElem_mem hk')
    have hdr : f.xs.drop k = f.xs[k] :: f.xs.drop (k + 1) := List.drop_eq_getElem_cons hk'
    have htk : f.xs.take (k + 1) = f.xs.take k ++ [f.xs[k]] := by rw [List.take_succ_eq_append_getElem hk']
    refine WP.skip ?_
    refine WP.seq ?_
    refine WP.block ?_
    refine WP.seq ?_
    refine WP.region ?_
    refine Ops.y (v := .slice _ _ _) (Y.move rfl) ?_
    refine Ops.y (v := .int .i64 _) (Y.move rfl) ?_
    refine Ops.y (v := .pointer (some ⟨_, _, none⟩)) (Y.idxEl E1 Tryz.underlying26 Tryz.sizeOf52 rfl rfl (Int.natCast_nonneg _) rfl) ?_
    refine Ops.y (v := .agg #[_, _, _, _]) (Y.loadv ty_52 rfl (I.rd (E1.rd.part 0 4)) rfl rfl) ?_
    refine Ops.go (O.alloc I Tryz.zeroValue52 rfl ?_)
    intro b12 w I
    refine Ops.go (O.store (v := .agg #[_, _, _, _]) I ty_52 0 rfl rfl rfl rfl rfl rfl (Nat.le_of_ble_eq_true rfl) rfl ?_)
    intro w I
    refine Ops.nil ?_
    cases th
    · obtain ⟨rfl, rfl, hlo⟩ := hF rfl
      rcases Int.lt_trichotomy (placeF f.xs[k]) (placeF x) with hlt | heq | hgt
      · refine WP.seq ?_
        refine WP.seq ?_
        refine WP.regionQ mixed I (by kernel_rfl) ?_
        refine OpsQ.y (v := .agg #[_, _, _, _]) (fun w I => Y.loadv ty_52 rfl (I.rdbox 0 rfl 0 4) rfl rfl) ?_
        refine OpsQ.c (fun w I => QC.callv I Tryz.call144 (place_ok _ I.base_ok _ py) rfl) ?_
        refine OpsQ.y (v := .agg #[_, _, _, _]) (fun w I => Y.loadv ty_52 rfl (I.rdbox 2 rfl 0 4) rfl rfl) ?_
        refine OpsQ.c (fun w I => QC.callv I Tryz.call144 (place_ok _ I.base_ok _ px) rfl) ?_
        refine OpsQ.y (v := .bool false) (fun w I => Y.dec_f (Y.eqi rfl rfl) ((by omega))) ?_
        refine OpsQ.nil ?_
        intro w I
        refine WP.cond_f rfl ?_
        refine WP.skip ?_
        refine WP.seq ?_
        refine WP.seq ?_
        refine WP.regionQ mixed I (by kernel_rfl) ?_
        refine OpsQ.y (v := .bool _) (fun w I => Y.move rfl) ?_
        refine OpsQ.y (v := .bool true) (fun w I => Y.b (Y.not rfl) (rfl)) ?_
        refine OpsQ.y (v := .bool _) (fun w I => Y.move rfl) ?_
        refine OpsQ.ygt rfl (v := .agg #[_, _, _, _]) (fun w I => Y.loadv ty_52 rfl (I.rdbox 0 rfl 0 4) rfl rfl) ?_
        refine OpsQ.cgt rfl (fun w I => QC.callv I Tryz.call144 (place_ok _ I.base_ok _ py) rfl) ?_
        refine OpsQ.ygt rfl (v := .agg #[_, _, _, _]) (fun w I => Y.loadv ty_52 rfl (I.rdbox 2 rfl 0 4) rfl rfl) ?_
        refine OpsQ.cgt rfl (fun w I => QC.callv I Tryz.call144 (place_ok _ I.base_ok _ px) rfl) ?_
        refine OpsQ.ygt rfl (v := .bool false) (fun w I => Y.dec_f (Y.gti rfl rfl) ((by omega))) ?_
        refine OpsQ.y (v := .bool _) (fun w I => Y.pick_t rfl rfl) ?_
        refine OpsQ.nil ?_
        intro w I
        refine WP.cond_f rfl ?_
        refine WP.skip ?_
        refine WP.region ?_
        refine Ops.y (v := .slice _ _ _) (Y.move rfl) ?_
        refine Ops.y (v := .agg #[_, _, _, _]) (Y.loadv ty_52 rfl (I.rdbox 0 rfl 0 4) rfl rfl) ?_
        refine Ops.go (O.mksl (xs := [f.xs[k]]) (enc := Fct.enc) I Tryz.underlying26 Tryz.sizeOf52 Tryz.zeroValue52 rfl (Nat.le_of_ble_eq_true rfl) rfl rfl (by decide) (fun _ => rfl) ?_)
        intro b61 h61 w I le61 sl61
        refine Ops.go (O.append I Tryz.underlying26 et_52 1 rfl rfl rfl (I.rd (sl61 0 _ rfl).2) rfl rfl (by decide) ((by omega)) (by omega) ?_)
        intro b62 c62 w I
        refine Ops.y (v := .slice _ _ _) (Y.assign rfl) ?_
        refine Ops.nil ?_
        refine WP.region ?_
        refine Ops.y (v := .int .i64 _) (Y.move rfl) ?_
        refine Ops.y (v := .int .i64 _) (Y.addi rfl rfl ⟨by omega, by omega⟩) ?_
        refine Ops.y (v := .int .i64 _) (Y.assign rfl) ?_
        refine Ops.nil ?_
        exact ⟨⟨k + 1, n + 1, some ⟨b62, 0, none⟩, c62, f.xs.take (k + 1), false, false⟩, ⟨⟨rfl, rfl, rfl, rfl, rfl, rfl, rfl, trivial⟩, ⟨h61, gl.trans le61, by rw [htk, flat_snoc]; exact I.drop⟩, by rw [htk, List.length_append, ← hn]; rfl, (by dsimp only; omega), (by dsimp only; omega), fun _ => ⟨rfl, rfl, fun j hj hj' => by
          rcases Nat.lt_succ_iff_lt_or_eq.1 hj with h' | rfl
          · exact hlo j h' hj'
          · exact hlt⟩, fun h => by cases h⟩, (by dsimp only; omega)⟩
      · have hpos : posF f.xs x = k := posF_of (by omega) (fun m h hm => hlo m hm h) (fun h => by omega)
        have ha := addF_old (k := (predOf l.xs x.pred).kind) ok.srt (x := x) (by omega) (by simp only [hpos]; exact heq)
        simp only [hpos] at ha
        refine WP.seq ?_
        refine WP.seq ?_
        refine WP.regionQ mixed I (by kernel_rfl) ?_
        refine OpsQ.y (v := .agg #[_, _, _, _]) (fun w I => Y.loadv ty_52 rfl (I.rdbox 0 rfl 0 4) rfl rfl) ?_
        refine OpsQ.c (fun w I => QC.callv I Tryz.call144 (place_ok _ I.base_ok _ py) rfl) ?_
        refine OpsQ.y (v := .agg #[_, _, _, _]) (fun w I => Y.loadv ty_52 rfl (I.rdbox 2 rfl 0 4) rfl rfl) ?_
        refine OpsQ.c (fun w I => QC.callv I Tryz.call144 (place_ok _ I.base_ok _ px) rfl) ?_
        refine OpsQ.y (v := .bool true) (fun w I => Y.dec_t (Y.eqi rfl rfl) (heq)) ?_
        refine OpsQ.nil ?_
        intro w I
        refine WP.cond_t rfl ?_
        refine WP.seq ?_
        refine WP.region ?_
        refine Ops.y (v := .bool _) (Y.assign rfl) ?_
        refine Ops.nil ?_
        refine WP.seq ?_
        refine WP.regionQ mixed I (by kernel_rfl) ?_
        refine OpsQ.y (v := .slice _ _ _) (fun w I => Y.move rfl) ?_
        refine OpsQ.y (v := .pointer (some ⟨_, _, none⟩)) (fun w I => Y.fa0 fa_52_0 rfl) ?_
        refine OpsQ.y (v := .int .i64 _) (fun w I => Y.loadv ty_3 rfl (I.rdbox 2 rfl 0 1) rfl rfl) ?_
        refine OpsQ.y (v := .pointer (some ⟨_, _, none⟩)) (fun w I => Y.idxEl E2 Tryz.underlying22 Tryz.sizeOf62 rfl rfl h01.1 rfl) ?_
        refine OpsQ.y (v := .pointer (some ⟨_, _, none⟩)) (fun w I => Y.fa fa_62_2 rfl) ?_
        refine OpsQ.y (v := .int .i64 _) (fun w I => Y.loadv ty_3 rfl (I.rd (E2.rd.part 2 1)) rfl rfl) ?_
        refine OpsQ.y (v := .pointer (some ⟨_, _, none⟩)) (fun w I => Y.fa fa_52_3 rfl) ?_
        refine OpsQ.y (v := .int .i64 _) (fun w I => Y.loadv ty_3 rfl (I.rdbox 0 rfl 3 1) rfl rfl) ?_
        refine OpsQ.y (v := .pointer (some ⟨_, _, none⟩)) (fun w I => Y.fa fa_52_3 rfl) ?_
        refine OpsQ.y (v := .int .i64 _) (fun w I => Y.loadv ty_3 rfl (I.rdbox 2 rfl 3 1) rfl rfl) ?_
        refine OpsQ.c (fun w I => QC.callv I Tryz.call145 (joinR_ok _ I.base_ok _ _ _) rfl) ?_
        refine OpsQ.y (v := .int .i64 _) (fun w I => Y.assign rfl) ?_
        refine OpsQ.nil ?_
        intro w I
        refine WP.seq ?_
        refine WP.region ?_
        refine Ops.y (v := .int .i64 _) (Y.move rfl) ?_
        refine Ops.y (v := .pointer (some ⟨_, _, none⟩)) (Y.fa fa_52_3 rfl) ?_
        refine Ops.y (v := .int .i64 _) (Y.loadv ty_3 rfl (I.rdbox 0 rfl 3 1) rfl rfl) ?_
        refine Ops.y (v := .bool (decide _)) (Y.nei rfl rfl) ?_
        refine Ops.y (v := .bool _) (Y.assign rfl) ?_
        refine Ops.nil ?_
        refine WP.region ?_
        refine Ops.y (v := .int .i64 _) (Y.move rfl) ?_
        refine Ops.y (v := .pointer (some ⟨_, _, none⟩)) (Y.fa fa_52_3 rfl) ?_
        refine Ops.go (O.store (v := .int .i64 _) I ty_3 0 rfl rfl rfl rfl rfl rfl (Nat.le_of_ble_eq_true rfl) rfl ?_)
        intro w I
        refine Ops.nil ?_
        refine WP.seq ?_
        refine WP.seq ?_
        refine WP.regionQ mixed I (by kernel_rfl) ?_
        refine OpsQ.y (v := .bool _) (fun w I => Y.move rfl) ?_
        refine OpsQ.y (v := .bool false) (fun w I => Y.b (Y.not rfl) (rfl)) ?_
        refine OpsQ.y (v := .bool _) (fun w I => Y.move rfl) ?_
        refine OpsQ.gf rfl ?_
        refine OpsQ.gf rfl ?_
        refine OpsQ.gf rfl ?_
        refine OpsQ.gf rfl ?_
        refine OpsQ.gf rfl ?_
        refine OpsQ.y (v := .bool _) (fun w I => Y.pick_f rfl rfl) ?_
        refine OpsQ.nil ?_
        intro w I
        refine WP.cond_f rfl ?_
        refine WP.skip ?_
        refine WP.region ?_
        refine Ops.y (v := .slice _ _ _) (Y.move rfl) ?_
        refine Ops.y (v := .agg #[_, _, _, _]) (Y.loadv ty_52 rfl (I.rdbox 0 rfl 0 4) rfl rfl) ?_
        refine Ops.go (O.mksl (xs := [⟨f.xs[k].pred, f.xs[k].a, f.xs[k].b, joinV l.xs[x.pred.toNat].kind f.xs[k].v x.v⟩]) (enc := Fct.enc) I Tryz.underlying26 Tryz.sizeOf52 Tryz.zeroValue52 rfl (Nat.le_of_ble_eq_true rfl) rfl rfl (by decide) (fun _ => rfl) ?_)
        intro b61 h61 w I le61 sl61
        refine Ops.go (O.append I Tryz.underlying26 et_52 1 rfl rfl rfl (I.rd (sl61 0 _ rfl).2) rfl rfl (by decide) ((by omega)) (by omega) ?_)
        intro b62 c62 w I
        refine Ops.y (v := .slice _ _ _) (Y.assign rfl) ?_
        refine Ops.nil ?_
        refine WP.region ?_
        refine Ops.y (v := .int .i64 _) (Y.move rfl) ?_
        refine Ops.y (v := .int .i64 _) (Y.addi rfl rfl ⟨by omega, by omega⟩) ?_
        refine Ops.y (v := .int .i64 _) (Y.assign rfl) ?_
        refine Ops.nil ?_
        exact ⟨⟨k + 1, n + 1, some ⟨b62, 0, none⟩, c62, f.xs.take k ++ [⟨f.xs[k].pred, f.xs[k].a, f.xs[k].b, joinV l.xs[x.pred.toNat].kind f.xs[k].v x.v⟩], true, _⟩, ⟨⟨rfl, rfl, rfl, rfl, rfl, rfl, rfl, trivial⟩, ⟨h61, gl.trans le61, by rw [flat_snoc]; exact I.drop⟩, by rw [List.length_append, ← hn]; rfl, (by dsimp only; omega), (by dsimp only; omega), (fun h => by cases h), fun _ => ⟨by
          rw [ha, hpo, List.set_eq_take_append_cons_drop, if_pos hk', List.append_assoc]; rfl, fun j hj hj' => by
          dsimp only at hj
          have := ok.srt.get (show k < j by omega) hj'; omega⟩⟩, (by dsimp only; omega)⟩
      · have hpos : posF f.xs x = k := posF_of (by omega) (fun m h hm => hlo m hm h) (fun h => by omega)
        have hnk : n = k := by rw [hn, List.length_take]; omega
        have hno : isF f.xs x = false := by
          rw [Bool.eq_false_iff]; intro hh
          obtain ⟨q1, q2⟩ := (isF_iff (x := x) ok.srt).1 hh
          simp only [hpos] at q2; omega
        have ha := addF_new (k := (predOf l.xs x.pred).kind) ok.srt hno
        rw [hpos] at ha
        refine WP.seq ?_
        refine WP.seq ?_
        refine WP.regionQ mixed I (by kernel_rfl) ?_
        refine OpsQ.y (v := .agg #[_, _, _, _]) (fun w I => Y.loadv ty_52 rfl (I.rdbox 0 rfl 0 4) rfl rfl) ?_
        refine OpsQ.c (fun w I => QC.callv I Tryz.call144 (place_ok _ I.base_ok _ py) rfl) ?_
        refine OpsQ.y (v := .agg #[_, _, _, _]) (fun w I => Y.loadv ty_52 rfl (I.rdbox 2 rfl 0 4) rfl rfl) ?_
        refine OpsQ.c (fun w I => QC.callv I Tryz.call144 (place_ok _ I.base_ok _ px) rfl) ?_
        refine OpsQ.y (v := .bool false) (fun w I => Y.dec_f (Y.eqi rfl rfl) ((by omega))) ?_
        refine OpsQ.nil ?_
        intro w I
        refine WP.cond_f rfl ?_
        refine WP.skip ?_
        refine WP.seq ?_
        refine WP.seq ?_
        refine WP.regionQ mixed I (by kernel_rfl) ?_
        refine OpsQ.y (v := .bool _) (fun w I => Y.move rfl) ?_
        refine OpsQ.y (v := .bool true) (fun w I => Y.b (Y.not rfl) (rfl)) ?_
        refine OpsQ.y (v := .bool _) (fun w I => Y.move rfl) ?_
        refine OpsQ.ygt rfl (v := .agg #[_, _, _, _]) (fun w I => Y.loadv ty_52 rfl (I.rdbox 0 rfl 0 4) rfl rfl) ?_
        refine OpsQ.cgt rfl (fun w I => QC.callv I Tryz.call144 (place_ok _ I.base_ok _ py) rfl) ?_
        refine OpsQ.ygt rfl (v := .agg #[_, _, _, _]) (fun w I => Y.loadv ty_52 rfl (I.rdbox 2 rfl 0 4) rfl rfl) ?_
        refine OpsQ.cgt rfl (fun w I => QC.callv I Tryz.call144 (place_ok _ I.base_ok _ px) rfl) ?_
        refine OpsQ.ygt rfl (v := .bool true) (fun w I => Y.dec_t (Y.gti rfl rfl) ((by omega))) ?_
        refine OpsQ.y (v := .bool _) (fun w I => Y.pick_t rfl rfl) ?_
        refine OpsQ.nil ?_
        intro w I
        refine WP.cond_t rfl ?_
        refine WP.seq ?_
        refine WP.region ?_
        refine Ops.y (v := .slice _ _ _) (Y.move rfl) ?_
        refine Ops.y (v := .agg #[_, _, _, _]) (Y.loadv ty_52 rfl (I.rdbox 2 rfl 0 4) rfl rfl) ?_
        refine Ops.go (O.mksl (xs := [x]) (enc := Fct.enc) I Tryz.underlying26 Tryz.sizeOf52 Tryz.zeroValue52 rfl (Nat.le_of_ble_eq_true rfl) rfl rfl (by decide) (fun _ => rfl) ?_)
        intro b57 h57 w I le57 sl57
        refine Ops.go (O.append I Tryz.underlying26 et_52 1 rfl rfl rfl (I.rd (sl57 0 _ rfl).2) rfl rfl (by decide) ((by omega)) (by omega) ?_)
        intro b58 c58 w I
        refine Ops.y (v := .slice _ _ _) (Y.assign rfl) ?_
        refine Ops.nil ?_
        refine WP.region ?_
        refine Ops.y (v := .bool _) (Y.assign rfl) ?_
        refine Ops.y (v := .bool _) (Y.assign rfl) ?_
        refine Ops.nil ?_
        refine WP.region ?_
        refine Ops.y (v := .slice _ _ _) (Y.move rfl) ?_
        refine Ops.y (v := .agg #[_, _, _, _]) (Y.loadv ty_52 rfl (I.rdbox 0 rfl 0 4) rfl rfl) ?_
        refine Ops.go (O.mksl (xs := [f.xs[k]]) (enc := Fct.enc) I Tryz.underlying26 Tryz.sizeOf52 Tryz.zeroValue52 rfl (Nat.le_of_ble_eq_true rfl) rfl rfl (by decide) (fun _ => rfl) ?_)
        intro b61 h61 w I le61 sl61
        refine Ops.go (O.append I Tryz.underlying26 et_52 1 rfl rfl rfl (I.rd (sl61 0 _ rfl).2) rfl rfl (by decide) ((by omega)) (by omega) ?_)
        intro b62 c62 w I
        refine Ops.y (v := .slice _ _ _) (Y.assign rfl) ?_
        refine Ops.nil ?_
        refine WP.region ?_
        refine Ops.y (v := .int .i64 _) (Y.move rfl) ?_
        refine Ops.y (v := .int .i64 _) (Y.addi rfl rfl ⟨by omega, by omega⟩) ?_
        refine Ops.y (v := .int .i64 _) (Y.assign rfl) ?_
        refine Ops.nil ?_
        exact ⟨⟨k + 1, n + 1 + 1, some ⟨b62, 0, none⟩, c62, f.xs.take k ++ [x] ++ [f.xs[k]], true, true⟩, ⟨⟨rfl, rfl, rfl, rfl, rfl, rfl, rfl, trivial⟩, ⟨h61, (gl.trans le57).trans le61, by rw [flat_snoc, flat_snoc]; exact I.drop⟩, by rw [List.length_append, List.length_append, ← hn]; rfl, (by dsimp only; omega), (by dsimp only; omega), (fun h => by cases h), fun _ => ⟨by
          rw [ha, hdr]; simp, fun j hj hj' => by
          dsimp only at hj
          have := ok.srt.get (show k < j by omega) hj'; omega⟩⟩, (by dsimp only; omega)⟩
    · obtain ⟨ha, hhi⟩ := hT rfl
      have hgt := hhi k (Nat.le_refl _) hk'
      refine WP.seq ?_
      refine WP.seq ?_
      refine WP.regionQ mixed I (by kernel_rfl) ?_
      refine OpsQ.y (v := .agg #[_, _, _, _]) (fun w I => Y.loadv ty_52 rfl (I.rdbox 0 rfl 0 4) rfl rfl) ?_
      refine OpsQ.c (fun w I => QC.callv I Tryz.call144 (place_ok _ I.base_ok _ py) rfl) ?_
      refine OpsQ.y (v := .agg #[_, _, _, _]) (fun w I => Y.loadv ty_52 rfl (I.rdbox 2 rfl 0 4) rfl rfl) ?_
      refine OpsQ.c (fun w I => QC.callv I Tryz.call144 (place_ok _ I.base_ok _ px) rfl) ?_
      refine OpsQ.y (v := .bool false) (fun w I => Y.dec_f (Y.eqi rfl rfl) ((by omega))) ?_
      refine OpsQ.nil ?_
      intro w I
      refine WP.cond_f rfl ?_
      refine WP.skip ?_
      refine WP.seq ?_
      refine WP.seq ?_
      refine WP.regionQ mixed I (by kernel_rfl) ?_
      refine OpsQ.y (v := .bool _) (fun w I => Y.move rfl) ?_
      refine OpsQ.y (v := .bool false) (fun w I => Y.b (Y.not rfl) (rfl)) ?_
      refine OpsQ.y (v := .bool _) (fun w I => Y.move rfl) ?_
      refine OpsQ.gf rfl ?_
      refine OpsQ.gf rfl ?_
      refine OpsQ.gf rfl ?_
      refine OpsQ.gf rfl ?_
      refine OpsQ.gf rfl ?_
      refine OpsQ.y (v := .bool _) (fun w I => Y.pick_f rfl rfl) ?_
      refine OpsQ.nil ?_
      intro w I
      refine WP.cond_f rfl ?_
      refine WP.skip ?_
      refine WP.region ?_
      refine Ops.y (v := .slice _ _ _) (Y.move rfl) ?_
      refine Ops.y (v := .agg #[_, _, _, _]) (Y.loadv ty_52 rfl (I.rdbox 0 rfl 0 4) rfl rfl) ?_
      refine Ops.go (O.mksl (xs := [f.xs[k]]) (enc := Fct.enc) I Tryz.underlying26 Tryz.sizeOf52 Tryz.zeroValue52 rfl (Nat.le_of_ble_eq_true rfl) rfl rfl (by decide) (fun _ => rfl) ?_)
      intro b61 h61 w I le61 sl61
      refine Ops.go (O.append I Tryz.underlying26 et_52 1 rfl rfl rfl (I.rd (sl61 0 _ rfl).2) rfl rfl (by decide) ((by omega)) (by omega) ?_)
      intro b62 c62 w I
      refine Ops.y (v := .slice _ _ _) (Y.assign rfl) ?_
      refine Ops.nil ?_
      refine WP.region ?_
      refine Ops.y (v := .int .i64 _) (Y.move rfl) ?_
      refine Ops.y (v := .int .i64 _) (Y.addi rfl rfl ⟨by omega, by omega⟩) ?_
      refine Ops.y (v := .int .i64 _) (Y.assign rfl) ?_
      refine Ops.nil ?_
      exact ⟨⟨k + 1, n + 1, some ⟨b62, 0, none⟩, c62, acc ++ [f.xs[k]], true, ch⟩, ⟨⟨rfl, rfl, rfl, rfl, rfl, rfl, rfl, trivial⟩, ⟨h61, gl.trans le61, by rw [flat_snoc]; exact I.drop⟩, by rw [List.length_append, ← hn]; rfl, (by dsimp only; omega), (by dsimp only; omega), (fun h => by cases h), fun _ => ⟨by
          rw [ha, hdr, List.append_assoc]; rfl, fun j hj hj' => hhi j (by dsimp only at hj; omega) hj'⟩⟩, (by dsimp only; omega)⟩
  obtain rfl : k = f.xs.length := by omega
  cases th
  · obtain ⟨rfl, rfl, hlo⟩ := hF rfl
    have hpos : posF f.xs x = f.xs.length := posF_of (by omega) (fun m h hm => hlo m hm h) (fun h => by omega)
    have hno : isF f.xs x = false := by
      rw [Bool.eq_false_iff]; intro hh
      obtain ⟨q1, q2⟩ := (isF_iff (x := x) ok.srt).1 hh
      omega
    have ha := addF_new (k := (predOf l.xs x.pred).kind) ok.srt hno
    rw [hpos, List.take_length, List.drop_length] at ha
    rw [List.take_length] at I hn
    refine WP.exit ?_
    refine WP.seq ?_
    refine WP.seq ?_
    refine WP.region ?_
    refine Ops.y (v := .bool _) (Y.move rfl) ?_
    refine Ops.y (v := .bool true) (Y.b (Y.not rfl) (rfl)) ?_
    refine Ops.nil ?_
    refine WP.cond_t rfl ?_
    refine WP.seq ?_
    refine WP.region ?_
    refine Ops.y (v := .slice _ _ _) (Y.move rfl) ?_
    refine Ops.y (v := .agg #[_, _, _, _]) (Y.loadv ty_52 rfl (I.rdbox 1 rfl 0 4) rfl rfl) ?_
    refine Ops.go (O.mksl (xs := [x]) (enc := Fct.enc) I Tryz.underlying26 Tryz.sizeOf52 Tryz.zeroValue52 rfl (Nat.le_of_ble_eq_true rfl) rfl rfl (by decide) (fun _ => rfl) ?_)
    intro b67 h67 w I le67 sl67
    refine Ops.go (O.append I Tryz.underlying26 et_52 0 rfl rfl rfl (I.rd (sl67 0 _ rfl).2) rfl rfl (by decide) ((by omega)) (by omega) ?_)
    intro b68 c68 w I
    refine Ops.y (v := .slice _ _ _) (Y.assign rfl) ?_
    refine Ops.nil ?_
    refine WP.region ?_
    refine Ops.y (v := .bool _) (Y.assign rfl) ?_
    refine Ops.nil ?_
    have I : Inv B h67 [ownSl 52 4 (.slice (some ⟨b68, 0, none⟩) (n + 1) c68) (n + 1) ((f.xs ++ [x]).flatMap Fct.enc), box b5 x.enc 52] w := by rw [flat_snoc]; exact I
    obtain ⟨h8, s8, le8, hv8, hx8, in8, I⟩ := I.settleSl (fun _ => rfl) (by rw [List.length_append, ← hn]; rfl)
    refine WP.seq ?_
    refine WP.region ?_
    refine Ops.y (v := .slice _ _ _) (Y.move rfl) ?_
    refine Ops.y (v := .bool _) (Y.move rfl) ?_
    refine Ops.y (v := .slice _ _ _) (Y.assign rfl) ?_
    refine Ops.y (v := .bool _) (Y.assign rfl) ?_
    refine Ops.nil ?_
    refine WP.ret ?_
    repeat (first | refine thenE_ret ?_ | refine blockE_ret ?_)
    exact retQ.mk (vs := [.slice _ _ _, .bool _]) rfl ⟨rfl, rfl, trivial⟩ I.ext_of (by rw [ha]; exact ⟨s8, by rw [hv8]; rfl, hx8, in8, by rw [hx8, List.length_append, ← hn]; simp only [List.length_singleton]; omega⟩)
  · obtain ⟨ha, _⟩ := hT rfl
    rw [List.drop_length, List.append_nil] at ha
    refine WP.exit ?_
    refine WP.seq ?_
    refine WP.seq ?_
    refine WP.region ?_
    refine Ops.y (v := .bool _) (Y.move rfl) ?_
    refine Ops.y (v := .bool false) (Y.b (Y.not rfl) (rfl)) ?_
    refine Ops.nil ?_
    refine WP.cond_f rfl ?_
    obtain ⟨h8, s8, le8, hv8, hx8, in8, I⟩ := I.settleSl (fun _ => rfl) hn
    refine WP.skip ?_
    refine WP.seq ?_
    refine WP.region ?_
    refine Ops.y (v := .slice _ _ _) (Y.move rfl) ?_
    refine Ops.y (v := .bool _) (Y.move rfl) ?_
    refine Ops.y (v := .slice _ _ _) (Y.assign rfl) ?_
    refine Ops.y (v := .bool _) (Y.assign rfl) ?_
    refine Ops.nil ?_
    refine WP.ret ?_
    repeat (first | refine thenE_ret ?_ | refine blockE_ret ?_)
    exact retQ.mk (vs := [.slice _ _ _, .bool _]) rfl ⟨rfl, rfl, trivial⟩ I.ext_of (by rw [ha]; exact ⟨s8, by rw [hv8]; rfl, hx8, in8, by rw [hx8, ← hn]; omega⟩)
end Go.TF
end
section
/- The laws of facts: each returns true. -/
namespace Go.TF
open Go Go.RowKit Go.Proofs
set_option maxRecDepth 20000

theorem SameFacts_at (B : Base) (hB : B.ok) (f g : Sl Fct) (hf : Fcts f B.h) (hg : Fcts g B.h) (h : f.xs = g.xs) : Fn Tryz.prog 21 [f.val, g.val] B (fun v _ => v = .bool true) := by
  have := SameFacts_ok B hB f g hf hg
  rwa [decide_eq_true h] at this
end Go.TF
end
section
/- What is checked of programs, wherever they lie; what the roads' strata and needs are: plain. -/
namespace Go.TF
open Go

theorem ne_true {b : Bool} (h : b = false) : ¬ b = true := by rw [h]; decide
def cEr (c : Int × Ltl) : Int × Ltl := (c.1, c.2.er)
theorem usesL_er (rs : List Rul) : usesL (rs.map Rul.er) = (usesL rs).map cEr := by
  induction rs with
  | nil => rfl
  | cons r rs ih =>
    unfold usesL at ih ⊢
    simp only [List.map_cons, List.flatMap_cons, List.map_append, ih]
    congr 1
    simp [Rul.er, cEr, Function.comp_def, Atm.er]
theorem sol_er {cs : List (Int × Ltl)} {n : Nat} {L : List Int} : Sol (cs.map cEr) n L ↔ Sol cs n L :=
  ⟨fun h => ⟨h.len, h.pos, fun c hc => h.sat (cEr c) (List.mem_map_of_mem hc)⟩, fun h => ⟨h.len, h.pos, fun c hc => by obtain ⟨d, hd, rfl⟩ := List.mem_map.1 hc; exact h.sat d hd⟩⟩
theorem least_er {cs : List (Int × Ltl)} {n : Nat} {L : List Int} (h : Least (cs.map cEr) n L) : Least cs n L := ⟨sol_er.1 h.sol, fun M hM => h.least M (sol_er.2 hM)⟩
theorem rulesErr_er (l : List Prd) (rs : List Rul) : rulesErr l (rs.map Rul.er) = rulesErr l rs := by
  induction rs with
  | nil => rfl
  | cons r rs ih => simp only [List.map_cons, rulesErr, checkRule_er, ih]
theorem checkProg_er (p : Prg) : checkProg p.er = checkProg p := by
  have h1 : p.er.preds.xs = p.preds.xs := rfl
  have h2 : p.er.rules.xs = p.rules.xs.map Rul.er := rfl
  unfold checkProg
  rw [h1, h2, List.length_map, rulesErr_er, usesL_er]
  rw [show (∃ M, Sol ((usesL p.rules.xs).map cEr) p.preds.xs.length M) = (∃ M, Sol (usesL p.rules.xs) p.preds.xs.length M) from propext ⟨fun ⟨M, h⟩ => ⟨M, sol_er.1 h⟩, fun ⟨M, h⟩ => ⟨M, sol_er.2 h⟩⟩]

/-! ### The roads -/
theorem lv3 {a b c : Int} (ha : 0 ≤ a) (hb : 0 ≤ b) (hc : 0 ≤ c) (i : Int) : 0 ≤ lv [a, b, c] i := by
  unfold lv
  rw [List.getD_eq_getElem?_getD]
  match i.toNat with
  | 0 => exact ha
  | 1 => exact hb
  | 2 => exact hc
  | _ + 3 => exact Int.le_refl 0
theorem roads_least : Least (usesL roadsC.rules.xs) 3 [0, 0, 1] := by
  refine ⟨⟨rfl, lv3 (by decide) (by decide) (by decide), ?_⟩, fun M hM i => ?_⟩
  · have : ∀ c ∈ usesL roadsC.rules.xs, lst [0, 0, 1] c ≤ lv [0, 0, 1] c.1 := by decide
    exact this
  · have h2 := hM.sat (2, ⟨true, aT 1 [tV 0, tV 0]⟩) (List.mem_of_getElem? (i := 4) rfl)
    have h1 := hM.pos 1
    have e : lst M (2, ⟨true, aT 1 [tV 0, tV 0]⟩) = lv M 1 + 1 := rfl
    unfold SatC at h2
    rw [e] at h2
    dsimp only at h2
    have hi := hM.pos i
    have key : lv [0, 0, 1] i = if i = 2 then 1 else 0 := by
      unfold lv
      rw [List.getD_eq_getElem?_getD]
      by_cases e : i = 2
      · subst e; rfl
      · rw [if_neg e]
        have : i.toNat ≠ 2 := by omega
        match h : i.toNat with
        | 0 => rfl
        | 1 => rfl
        | 2 => exact absurd h this
        | _ + 3 => rfl
    rw [key]
    split
    · rename_i e; subst e; omega
    · exact hi
theorem roads_check : checkProg roadsC = 0 := by
  unfold checkProg
  rw [if_neg (by decide), if_neg (ne_true (show (roadsC.preds.xs.any fun x => !isName x.name) = false by kernel_rfl)), if_neg (ne_true (show twice roadsC.preds.xs = false by kernel_rfl)), if_neg (ne_true (show roadsC.preds.xs.any badArity = false by kernel_rfl)), if_neg (ne_true (show roadsC.preds.xs.any badKind = false by kernel_rfl)), if_neg (by rw [show rulesErr roadsC.preds.xs roadsC.rules.xs = 0 by kernel_rfl]; decide)]
  exact if_pos ⟨_, roads_least.sol⟩
end Go.TF
end
section
/- What must be in any case; no literal is not; what holds of less holds of more. -/
namespace Go.TF
open Go Go.RowKit Go.Proofs
set_option maxRecDepth 20000

/-! ### Wherever they lie -/
theorem litOf_er2 (r : Rul) (k : Int) : (litOf r.er k).atom.args.xs = (litOf r k).atom.args.xs ∧ (litOf r.er k).atom.pred = (litOf r k).atom.pred := by
  have h : r.er.body.xs = r.body.xs.map Ltl.er := rfl
  unfold litOf
  rw [h, List.getD_eq_getElem?_getD, List.getD_eq_getElem?_getD, List.getElem?_map]
  cases r.body.xs[k.toNat]? <;> exact ⟨rfl, rfl⟩
theorem groundF_of {a b : Atm} (h : a.args.xs = b.args.xs ∧ a.pred = b.pred) (x : Vrs) : groundF a x = groundF b x := by
  obtain ⟨p, s⟩ := a; obtain ⟨q, t⟩ := b
  obtain ⟨h1, h2⟩ := h
  dsimp only at h1 h2
  subst h2
  unfold groundF
  simp only [argv, h1]
theorem holdsB_er (f : List Fct) (r : Rul) (x : Vrs) : holdsB f r.er x = holdsB f r x := by
  have h : r.er.body.xs = r.body.xs.map Ltl.er := rfl
  unfold holdsB
  rw [h, List.all_map]
  rfl
theorem headF_er (l : List Prd) (f : List Fct) (r : Rul) (x : Vrs) : headF l f r.er x = headF l f r x := by
  unfold headF headV
  rw [groundF_of (litOf_er2 r r.er.src)]
  rfl
theorem stepsF_er (f : List Fct) (n : Int) (r : Rul) : stepsF f n r.er = stepsF f n r := by
  have h : r.er.body.xs = r.body.xs.map Ltl.er := rfl
  have hs : standsR r.er = standsR r := by
    funext v
    unfold standsR
    rw [h, List.any_map]
    rfl
  unfold stepsF stdOk
  rw [hs]
  simp only [holdsB_er]
/-! ### The roads -/
section
variable {p : Prg} {h : Heap} (hp : RoadsAt p h)
include hp
theorem rd_preds : p.preds.xs = roadsC.preds.xs := by have := congrArg (fun q : Prg => q.preds.xs) hp.er; exact this
theorem rd_len : p.rules.xs.length = 7 := by have := congrArg (fun q : Prg => q.rules.xs.length) hp.er; simpa [Prg.er, roadsC] using this
end
section
variable (B : Base) (hB : B.ok) (p : Prg) (hp : p.In B.h) (hnm : p.Nm) (f : Sl Fct) (hf : Fcts f B.h) (n : Int)
include hB hp hnm hf
end
/-! ### No literal is not -/
/-! ### What holds of less holds of more -/
theorem isF_up {l : List Prd} {f g : List Fct} (hu : underF l f g = true) {y : Fct} (h : isF f y = true) : isF g y = true := by
  unfold isF at *
  cases hl : lkF f (placeF y) with
  | none => rw [hl] at h; cases h
  | some v =>
    obtain ⟨z, hz, e, _⟩ := lkF_mem hl
    obtain ⟨u, h1, _⟩ := underF_iff.1 hu z hz
    rw [← e, h1]; rfl
end Go.TF
end
section
/- CheckProg, of the document; Strata; StrataOf. -/
namespace Go.TF
open Go Go.RowKit Go.Proofs
set_option maxRecDepth 20000

theorem toList_beq (a b : ByteArray) : (a.toList == b.toList) = decide (a = b) := by rw [← beq_toListBytes, beq_bytes]
theorem twice_true {l : List Prd} {i k : Nat} (hk : k < l.length) (hi : i < k) (e : l[i].name = l[k].name) : twice l = true := by
  unfold twice
  rw [List.any_eq_true]
  refine ⟨k, List.mem_range.2 hk, ?_⟩
  unfold early
  rw [List.any_eq_true]
  refine ⟨l[i], List.mem_iff_getElem.2 ⟨i, by simp; omega, by simp⟩, ?_⟩
  simp [List.getD_eq_getElem?_getD, hk, e]
theorem twice_false {l : List Prd} (h : ∀ k, ∀ hk : k < l.length, ∀ i, ∀ hi : i < k, l[i].name ≠ l[k].name) : twice l = false := by
  unfold twice
  rw [List.any_eq_false]
  intro k hk
  have hk := List.mem_range.1 hk
  unfold early
  rw [Bool.not_eq_true, List.any_eq_false]
  intro y hy
  obtain ⟨i, hi, rfl⟩ := List.getElem_of_mem hy
  have hi' : i < k := by simp at hi; omega
  have := h k hk i hi'
  simp only [List.getElem_take, List.getD_eq_getElem?_getD, List.getElem?_eq_getElem hk, Option.getD_some, decide_eq_true_eq]
  exact this
theorem any_false {α : Type} {l : List α} {q : α → Bool} (h : ∀ j, j < l.length → ∀ hj : j < l.length, q l[j] = false) : l.any q = false := by
  rw [List.any_eq_false]
  intro x hx
  obtain ⟨j, hj, rfl⟩ := List.getElem_of_mem hx
  rw [h j hj hj]; decide
theorem any_at {α : Type} {l : List α} {q : α → Bool} {k : Nat} (hk : k < l.length) (h : q l[k] = true) : l.any q = true := List.any_eq_true.2 ⟨_, List.getElem_mem hk, h⟩
theorem not_within' {a lo hi : Int} : (!decide (within a lo hi)) = true ↔ a < lo ∨ hi < a := by
  simp only [Bool.not_eq_true', decide_eq_false_iff_not]; unfold within; omega
set_option maxHeartbeats 4000000 in
theorem CheckProg_ok (B : Base) (hB : B.ok) (p : Prg) (hp : p.In B.h) (hnm : p.Nm) : Fn Tryz.prog 18 [p.val] B (fun v _ => v = .int .i64 (checkProg p)) := by
  have hsp := hp.preds.small
  have hsr := hp.rules.is.small
  refine Fn.of Tryz.func18 rfl Tryz.ntmps18 (by kernel_rfl) (by simp) ?_
  intro e
  have I := Inv.start hB
  refine WP.seq ?_
  refine WP.region ?_
  refine Ops.go (O.box (v := .agg #[_, _]) I rfl rfl ?_)
  intro b1 w I
  refine Ops.y (v := .int .i64 _) (Y.assign rfl) ?_
  refine Ops.nil ?_
  refine WP.seq ?_
  refine WP.seq ?_
  by_cases o0 : 5 < (p.preds.xs.length : Int)
  · refine WP.region ?_
    refine Ops.y (v := .pointer (some ⟨_, _, none⟩)) (Y.fa0 fa_25_0 rfl) ?_
    refine Ops.y (v := .slice _ _ _) (Y.loadv ty_22 rfl (I.rdbox 0 rfl 0 1) rfl rfl) ?_
    refine Ops.y (v := .int .i64 _) (Y.lens Tryz.underlying22 rfl) ?_
    refine Ops.y (v := .bool true) (Y.dec_t (Y.gti rfl rfl) (o0)) ?_
    refine Ops.y (v := .bool _) (Y.move rfl) ?_
    refine Ops.gf rfl ?_
    refine Ops.gf rfl ?_
    refine Ops.gf rfl ?_
    refine Ops.gf rfl ?_
    refine Ops.y (v := .bool _) (Y.pick_t rfl rfl) ?_
    refine Ops.nil ?_
    refine WP.cond_t rfl ?_
    refine WP.seq ?_
    refine WP.region ?_
    refine Ops.y (v := .int .i64 _) (Y.assign rfl) ?_
    refine Ops.nil ?_
    refine WP.ret ?_
    repeat (first | refine thenE_ret ?_ | refine blockE_ret ?_)
    exact retQ.mk (vs := [.int .i64 _]) rfl ⟨rfl, trivial⟩ I.ext_of (by simp only [tup, checkProg]; rw [if_pos (by omega)])
  by_cases o1 : 8 < (p.rules.xs.length : Int)
  · refine WP.region ?_
    refine Ops.y (v := .pointer (some ⟨_, _, none⟩)) (Y.fa0 fa_25_0 rfl) ?_
    refine Ops.y (v := .slice _ _ _) (Y.loadv ty_22 rfl (I.rdbox 0 rfl 0 1) rfl rfl) ?_
    refine Ops.y (v := .int .i64 _) (Y.lens Tryz.underlying22 rfl) ?_
    refine Ops.y (v := .bool false) (Y.dec_f (Y.gti rfl rfl) (o0)) ?_
    refine Ops.y (v := .bool _) (Y.move rfl) ?_
    refine Ops.ygt rfl (v := .pointer (some ⟨_, _, none⟩)) (Y.fa fa_25_1 rfl) ?_
    refine Ops.ygt rfl (v := .slice _ _ _) (Y.loadv ty_23 rfl (I.rdbox 0 rfl 1 1) rfl rfl) ?_
    refine Ops.ygt rfl (v := .int .i64 _) (Y.lens Tryz.underlying23 rfl) ?_
    refine Ops.ygt rfl (v := .bool true) (Y.dec_t (Y.gti rfl rfl) (o1)) ?_
    refine Ops.y (v := .bool _) (Y.pick_f rfl rfl) ?_
    refine Ops.nil ?_
    refine WP.cond_t rfl ?_
    refine WP.seq ?_
    refine WP.region ?_
    refine Ops.y (v := .int .i64 _) (Y.assign rfl) ?_
    refine Ops.nil ?_
    refine WP.ret ?_
    repeat (first | refine thenE_ret ?_ | refine blockE_ret ?_)
    exact retQ.mk (vs := [.int .i64 _]) rfl ⟨rfl, trivial⟩ I.ext_of (by simp only [tup, checkProg]; rw [if_pos (by omega)])
  refine WP.region ?_
  refine Ops.y (v := .pointer (some ⟨_, _, none⟩)) (Y.fa0 fa_25_0 rfl) ?_
  refine Ops.y (v := .slice _ _ _) (Y.loadv ty_22 rfl (I.rdbox 0 rfl 0 1) rfl rfl) ?_
  refine Ops.y (v := .int .i64 _) (Y.lens Tryz.underlying22 rfl) ?_
  refine Ops.y (v := .bool false) (Y.dec_f (Y.gti rfl rfl) (o0)) ?_
  refine Ops.y (v := .bool _) (Y.move rfl) ?_
  refine Ops.ygt rfl (v := .pointer (some ⟨_, _, none⟩)) (Y.fa fa_25_1 rfl) ?_
  refine Ops.ygt rfl (v := .slice _ _ _) (Y.loadv ty_23 rfl (I.rdbox 0 rfl 1 1) rfl rfl) ?_
  refine Ops.ygt rfl (v := .int .i64 _) (Y.lens Tryz.underlying23 rfl) ?_
  refine Ops.ygt rfl (v := .bool false) (Y.dec_f (Y.gti rfl rfl) (o1)) ?_
  refine Ops.y (v := .bool _) (Y.pick_f rfl rfl) ?_
  refine Ops.nil ?_
  refine WP.cond_f rfl ?_
  have c0 : ¬ (5 < p.preds.xs.length ∨ 8 < p.rules.xs.length) := by omega
  refine WP.skip ?_
  refine WP.seq ?_
  refine WP.seq ?_
  refine WP.region ?_
  refine Ops.y (v := .int .i64 _) (Y.assign rfl) ?_
  refine Ops.nil ?_
  refine WP.cutL (σ := Unit) (fun _ => [(1, .pointer (some ⟨b1, 0, none⟩))]) (fun _ w => Inv B B.h [box b1 p.enc 25] w ∧ (p.preds.xs.any fun x => !isName x.name) = false) ?_ ?_
  · refine WP.block ?_
    refine WP.loopE (σ := Nat) (fun k => [(1, .pointer (some ⟨b1, 0, none⟩)), (3, .int .i64 k)]) (fun k w => Inv B B.h [box b1 p.enc 25] w ∧ k ≤ p.preds.xs.length ∧ ∀ j, j < k → ∀ hj : j < p.preds.xs.length, (!isName p.preds.xs[j].name) = false) (fun k => p.preds.xs.length - k)
      ⟨0, ⟨rfl, rfl, trivial⟩, I, Nat.zero_le _, fun j hj => by omega⟩ ?_
    rintro k e w ⟨I, hk, hn⟩
    refine WP.seq ?_
    refine WP.seq ?_
    refine WP.region ?_
    refine Ops.y (v := .int .i64 _) (Y.move rfl) ?_
    refine Ops.y (v := .pointer (some ⟨_, _, none⟩)) (Y.fa0 fa_25_0 rfl) ?_
    refine Ops.y (v := .slice _ _ _) (Y.loadv ty_22 rfl (I.rdbox 0 rfl 0 1) rfl rfl) ?_
    refine Ops.y (v := .int .i64 _) (Y.lens Tryz.underlying22 rfl) ?_
    refine Ops.y (v := .bool (decide _)) (Y.lti rfl rfl) ?_
    refine Ops.nil ?_
    refine WP.cond_dec rfl (fun h => ?_) (fun h => ?_)
    · have hk' : k < p.preds.xs.length := by omega
      have E1 := hp.preds.at hk'
      refine WP.skip ?_
      refine WP.seq ?_
      refine WP.block ?_
      refine WP.seq ?_
      refine WP.region ?_
      refine Ops.y (v := .pointer (some ⟨_, _, none⟩)) (Y.fa0 fa_25_0 rfl) ?_
      refine Ops.y (v := .slice _ _ _) (Y.loadv ty_22 rfl (I.rdbox 0 rfl 0 1) rfl rfl) ?_
      refine Ops.y (v := .int .i64 _) (Y.move rfl) ?_
      refine Ops.y (v := .pointer (some ⟨_, _, none⟩)) (Y.idxEl E1 Tryz.underlying22 Tryz.sizeOf62 rfl rfl (Int.natCast_nonneg _) rfl) ?_
      refine Ops.y (v := .pointer (some ⟨_, _, none⟩)) (Y.fa0 fa_62_0 rfl) ?_
      refine Ops.y (v := .string _) (Y.loadv ty_9 rfl (I.rd (E1.rd.part 0 1)) rfl rfl) ?_
      refine Ops.go (O.callv I Tryz.call71 (IsName_ok _ I.base_ok p.preds.xs[k].name (hnm _ (List.getElem_mem hk'))) rfl ?_)
      intro w I
      refine Ops.y (v := .bool _) (Y.not rfl) ?_
      refine Ops.nil ?_
      refine WP.cond rfl (fun hb => ?_) (fun hb => ?_)
      · refine WP.seq ?_
        refine WP.region ?_
        refine Ops.y (v := .int .i64 _) (Y.assign rfl) ?_
        refine Ops.nil ?_
        refine WP.ret ?_
        repeat (first | refine thenE_ret ?_ | refine blockE_ret ?_)
        exact retQ.mk (vs := [.int .i64 _]) rfl ⟨rfl, trivial⟩ I.ext_of (by simp only [tup, checkProg]; rw [if_neg c0, if_pos (any_at hk' hb)])
      refine WP.skip ?_
      refine WP.region ?_
      refine Ops.y (v := .int .i64 _) (Y.move rfl) ?_
      refine Ops.y (v := .int .i64 _) (Y.addi rfl rfl ⟨by omega, by omega⟩) ?_
      refine Ops.y (v := .int .i64 _) (Y.assign rfl) ?_
      refine Ops.nil ?_
      exact ⟨k + 1, ⟨⟨rfl, rfl, trivial⟩, I, hk', fun j hj hj' => by
        rcases Nat.lt_succ_iff_lt_or_eq.1 hj with h' | rfl
        · exact hn j h' hj'
        · exact hb⟩, by omega⟩
    refine WP.exit ?_
    exact ⟨(), ⟨rfl, trivial⟩, I, any_false (fun j hj hj' => hn j (by omega) hj')⟩
  rintro _ e w ⟨I, c1⟩
  refine WP.seq ?_
  refine WP.seq ?_
  refine WP.region ?_
  refine Ops.y (v := .int .i64 _) (Y.assign rfl) ?_
  refine Ops.nil ?_
  refine WP.cutL (σ := Unit) (fun _ => [(1, .pointer (some ⟨b1, 0, none⟩))]) (fun _ w => Inv B B.h [box b1 p.enc 25] w ∧ twice p.preds.xs = false) ?_ ?_
  · refine WP.block ?_
    refine WP.loopE (σ := Nat) (fun k => [(1, .pointer (some ⟨b1, 0, none⟩)), (4, .int .i64 k)]) (fun k w => Inv B B.h [box b1 p.enc 25] w ∧ k ≤ p.preds.xs.length ∧ ∀ j, j < k → ∀ hj : j < p.preds.xs.length, ∀ i, ∀ hi : i < j, p.preds.xs[i].name ≠ p.preds.xs[j].name) (fun k => p.preds.xs.length - k)
      ⟨0, ⟨rfl, rfl, trivial⟩, I, Nat.zero_le _, fun j hj => by omega⟩ ?_
    rintro k e w ⟨I, hk, hn⟩
    refine WP.seq ?_
    refine WP.seq ?_
    refine WP.region ?_
    refine Ops.y (v := .int .i64 _) (Y.move rfl) ?_
    refine Ops.y (v := .pointer (some ⟨_, _, none⟩)) (Y.fa0 fa_25_0 rfl) ?_
    refine Ops.y (v := .slice _ _ _) (Y.loadv ty_22 rfl (I.rdbox 0 rfl 0 1) rfl rfl) ?_
    refine Ops.y (v := .int .i64 _) (Y.lens Tryz.underlying22 rfl) ?_
    refine Ops.y (v := .bool (decide _)) (Y.lti rfl rfl) ?_
    refine Ops.nil ?_
    refine WP.cond_dec rfl (fun h => ?_) (fun h => ?_)
    · have hk' : k < p.preds.xs.length := by omega
      have E1 := hp.preds.at hk'
      refine WP.skip ?_
      refine WP.seq ?_
      refine WP.block ?_
      refine WP.seq ?_
      refine WP.region ?_
      refine Ops.y (v := .int .i64 _) (Y.assign rfl) ?_
      refine Ops.nil ?_
      refine WP.block ?_
      refine WP.loopE (σ := Nat) (fun i => [(1, .pointer (some ⟨b1, 0, none⟩)), (4, .int .i64 k), (5, .int .i64 i)]) (fun i w => Inv B B.h [box b1 p.enc 25] w ∧ i ≤ k ∧ ∀ j, ∀ hj : j < i, ∀ hj' : j < p.preds.xs.length, p.preds.xs[j].name ≠ p.preds.xs[k].name) (fun i => k - i)
        ⟨0, ⟨rfl, rfl, rfl, trivial⟩, I, Nat.zero_le _, fun j hj => by omega⟩ ?_
      rintro i e w ⟨I, hi, hni⟩
      refine WP.seq ?_
      refine WP.seq ?_
      refine WP.region ?_
      refine Ops.y (v := .int .i64 _) (Y.move rfl) ?_
      refine Ops.y (v := .int .i64 _) (Y.move rfl) ?_
      refine Ops.y (v := .bool (decide _)) (Y.lti rfl rfl) ?_
      refine Ops.nil ?_
      refine WP.cond_dec rfl (fun h12 => ?_) (fun h12 => ?_)
      · have hi' : i < p.preds.xs.length := by omega
        have E2 := hp.preds.at hi'
        refine WP.skip ?_
        refine WP.seq ?_
        refine WP.block ?_
        refine WP.seq ?_
        refine WP.regionQ mixed I (by kernel_rfl) ?_
        refine OpsQ.y (v := .pointer (some ⟨_, _, none⟩)) (fun w I => Y.fa0 fa_25_0 rfl) ?_
        refine OpsQ.y (v := .slice _ _ _) (fun w I => Y.loadv ty_22 rfl (I.rdbox 0 rfl 0 1) rfl rfl) ?_
        refine OpsQ.y (v := .int .i64 _) (fun w I => Y.move rfl) ?_
        refine OpsQ.y (v := .pointer (some ⟨_, _, none⟩)) (fun w I => Y.idxEl E2 Tryz.underlying22 Tryz.sizeOf62 rfl rfl (Int.natCast_nonneg _) rfl) ?_
        refine OpsQ.y (v := .pointer (some ⟨_, _, none⟩)) (fun w I => Y.fa0 fa_62_0 rfl) ?_
        refine OpsQ.y (v := .string _) (fun w I => Y.loadv ty_9 rfl (I.rd (E2.rd.part 0 1)) rfl rfl) ?_
        refine OpsQ.y (v := .pointer (some ⟨_, _, none⟩)) (fun w I => Y.fa0 fa_25_0 rfl) ?_
        refine OpsQ.y (v := .slice _ _ _) (fun w I => Y.loadv ty_22 rfl (I.rdbox 0 rfl 0 1) rfl rfl) ?_
        refine OpsQ.y (v := .int .i64 _) (fun w I => Y.move rfl) ?_
        refine OpsQ.y (v := .pointer (some ⟨_, _, none⟩)) (fun w I => Y.idxEl E1 Tryz.underlying22 Tryz.sizeOf62 rfl rfl (Int.natCast_nonneg _) rfl) ?_
        refine OpsQ.y (v := .pointer (some ⟨_, _, none⟩)) (fun w I => Y.fa0 fa_62_0 rfl) ?_
        refine OpsQ.y (v := .string _) (fun w I => Y.loadv ty_9 rfl (I.rd (E1.rd.part 0 1)) rfl rfl) ?_
        refine OpsQ.y (v := .bool _) (fun w I => Y.eqs rfl rfl) ?_
        refine OpsQ.nil ?_
        intro w I
        refine WP.cond rfl (fun hb => ?_) (fun hb => ?_)
        · refine WP.seq ?_
          refine WP.region ?_
          refine Ops.y (v := .int .i64 _) (Y.assign rfl) ?_
          refine Ops.nil ?_
          refine WP.ret ?_
          repeat (first | refine thenE_ret ?_ | refine blockE_ret ?_)
          exact retQ.mk (vs := [.int .i64 _]) rfl ⟨rfl, trivial⟩ I.ext_of (by simp only [tup, checkProg]; rw [if_neg c0, if_neg (by rw [c1]; decide), if_pos (twice_true hk' (show i < k by omega) (by rw [toList_beq] at hb; exact of_decide_eq_true hb))])
        refine WP.skip ?_
        refine WP.region ?_
        refine Ops.y (v := .int .i64 _) (Y.move rfl) ?_
        refine Ops.y (v := .int .i64 _) (Y.addi rfl rfl ⟨by omega, by omega⟩) ?_
        refine Ops.y (v := .int .i64 _) (Y.assign rfl) ?_
        refine Ops.nil ?_
        exact ⟨i + 1, ⟨⟨rfl, rfl, rfl, trivial⟩, I, by omega, fun j hj hj' => by
          rcases Nat.lt_succ_iff_lt_or_eq.1 hj with h' | rfl
          · exact hni j h' hj'
          · rw [toList_beq] at hb; exact of_decide_eq_false hb⟩, by omega⟩
      refine WP.exit ?_
      refine WP.region ?_
      refine Ops.y (v := .int .i64 _) (Y.move rfl) ?_
      refine Ops.y (v := .int .i64 _) (Y.addi rfl rfl ⟨by omega, by omega⟩) ?_
      refine Ops.y (v := .int .i64 _) (Y.assign rfl) ?_
      refine Ops.nil ?_
      exact ⟨k + 1, ⟨⟨rfl, rfl, trivial⟩, I, hk', fun j hj hj' => by
        rcases Nat.lt_succ_iff_lt_or_eq.1 hj with h' | rfl
        · exact hn j h' hj'
        · exact fun q hq => hni q (by omega) (by omega)⟩, by omega⟩
    refine WP.exit ?_
    exact ⟨(), ⟨rfl, trivial⟩, I, twice_false (fun j hj => hn j (by omega) hj)⟩
  rintro _ e w ⟨I, c2⟩
  refine WP.seq ?_
  refine WP.seq ?_
  refine WP.region ?_
  refine Ops.y (v := .int .i64 _) (Y.assign rfl) ?_
  refine Ops.nil ?_
  refine WP.cutL (σ := Unit) (fun _ => [(1, .pointer (some ⟨b1, 0, none⟩))]) (fun _ w => Inv B B.h [box b1 p.enc 25] w ∧ p.preds.xs.any badArity = false) ?_ ?_
  · refine WP.block ?_
    refine WP.loopE (σ := Nat) (fun k => [(1, .pointer (some ⟨b1, 0, none⟩)), (6, .int .i64 k)]) (fun k w => Inv B B.h [box b1 p.enc 25] w ∧ k ≤ p.preds.xs.length ∧ ∀ j, j < k → ∀ hj : j < p.preds.xs.length, badArity p.preds.xs[j] = false) (fun k => p.preds.xs.length - k)
      ⟨0, ⟨rfl, rfl, trivial⟩, I, Nat.zero_le _, fun j hj => by omega⟩ ?_
    rintro k e w ⟨I, hk, hn⟩
    refine WP.seq ?_
    refine WP.seq ?_
    refine WP.region ?_
    refine Ops.y (v := .int .i64 _) (Y.move rfl) ?_
    refine Ops.y (v := .pointer (some ⟨_, _, none⟩)) (Y.fa0 fa_25_0 rfl) ?_
    refine Ops.y (v := .slice _ _ _) (Y.loadv ty_22 rfl (I.rdbox 0 rfl 0 1) rfl rfl) ?_
    refine Ops.y (v := .int .i64 _) (Y.lens Tryz.underlying22 rfl) ?_
    refine Ops.y (v := .bool (decide _)) (Y.lti rfl rfl) ?_
    refine Ops.nil ?_
    refine WP.cond_dec rfl (fun h => ?_) (fun h => ?_)
    · have hk' : k < p.preds.xs.length := by omega
      have E1 := hp.preds.at hk'
      refine WP.skip ?_
      refine WP.seq ?_
      refine WP.block ?_
      refine WP.seq ?_
      refine WP.region ?_
      refine Ops.y (v := .pointer (some ⟨_, _, none⟩)) (Y.fa0 fa_25_0 rfl) ?_
      refine Ops.y (v := .slice _ _ _) (Y.loadv ty_22 rfl (I.rdbox 0 rfl 0 1) rfl rfl) ?_
      refine Ops.y (v := .int .i64 _) (Y.move rfl) ?_
      refine Ops.y (v := .pointer (some ⟨_, _, none⟩)) (Y.idxEl E1 Tryz.underlying22 Tryz.sizeOf62 rfl rfl (Int.natCast_nonneg _) rfl) ?_
      refine Ops.y (v := .pointer (some ⟨_, _, none⟩)) (Y.fa fa_62_1 rfl) ?_
      refine Ops.y (v := .int .i64 _) (Y.loadv ty_3 rfl (I.rd (E1.rd.part 1 1)) rfl rfl) ?_
      refine Ops.go (O.callv I Tryz.call72 (within_ok _ I.base_ok _ _ _) rfl ?_)
      intro w I
      refine Ops.y (v := .bool _) (Y.not rfl) ?_
      refine Ops.nil ?_
      refine WP.cond rfl (fun hb => ?_) (fun hb => ?_)
      · refine WP.seq ?_
        refine WP.region ?_
        refine Ops.y (v := .int .i64 _) (Y.assign rfl) ?_
        refine Ops.nil ?_
        refine WP.ret ?_
        repeat (first | refine thenE_ret ?_ | refine blockE_ret ?_)
        exact retQ.mk (vs := [.int .i64 _]) rfl ⟨rfl, trivial⟩ I.ext_of (by simp only [tup, checkProg]; rw [if_neg c0, if_neg (by rw [c1]; decide), if_neg (by rw [c2]; decide), if_pos (any_at hk' (by unfold badArity; exact decide_eq_true (not_within'.1 hb)))])
      refine WP.skip ?_
      refine WP.region ?_
      refine Ops.y (v := .int .i64 _) (Y.move rfl) ?_
      refine Ops.y (v := .int .i64 _) (Y.addi rfl rfl ⟨by omega, by omega⟩) ?_
      refine Ops.y (v := .int .i64 _) (Y.assign rfl) ?_
      refine Ops.nil ?_
      exact ⟨k + 1, ⟨⟨rfl, rfl, trivial⟩, I, hk', fun j hj hj' => by
        rcases Nat.lt_succ_iff_lt_or_eq.1 hj with h' | rfl
        · exact hn j h' hj'
        · unfold badArity; exact decide_eq_false (fun hx => by rw [not_within'.2 hx] at hb; cases hb)⟩, by omega⟩
    refine WP.exit ?_
    exact ⟨(), ⟨rfl, trivial⟩, I, any_false (fun j hj hj' => hn j (by omega) hj')⟩
  rintro _ e w ⟨I, c3⟩
  refine WP.seq ?_
  refine WP.seq ?_
  refine WP.region ?_
  refine Ops.y (v := .int .i64 _) (Y.assign rfl) ?_
  refine Ops.nil ?_
  refine WP.cutL (σ := Unit) (fun _ => [(1, .pointer (some ⟨b1, 0, none⟩))]) (fun _ w => Inv B B.h [box b1 p.enc 25] w ∧ p.preds.xs.any badKind = false) ?_ ?_
  · refine WP.block ?_
    refine WP.loopE (σ := Nat) (fun k => [(1, .pointer (some ⟨b1, 0, none⟩)), (7, .int .i64 k)]) (fun k w => Inv B B.h [box b1 p.enc 25] w ∧ k ≤ p.preds.xs.length ∧ ∀ j, j < k → ∀ hj : j < p.preds.xs.length, badKind p.preds.xs[j] = false) (fun k => p.preds.xs.length - k)
      ⟨0, ⟨rfl, rfl, trivial⟩, I, Nat.zero_le _, fun j hj => by omega⟩ ?_
    rintro k e w ⟨I, hk, hn⟩
    refine WP.seq ?_
    refine WP.seq ?_
    refine WP.region ?_
    refine Ops.y (v := .int .i64 _) (Y.move rfl) ?_
    refine Ops.y (v := .pointer (some ⟨_, _, none⟩)) (Y.fa0 fa_25_0 rfl) ?_
    refine Ops.y (v := .slice _ _ _) (Y.loadv ty_22 rfl (I.rdbox 0 rfl 0 1) rfl rfl) ?_
    refine Ops.y (v := .int .i64 _) (Y.lens Tryz.underlying22 rfl) ?_
    refine Ops.y (v := .bool (decide _)) (Y.lti rfl rfl) ?_
    refine Ops.nil ?_
    refine WP.cond_dec rfl (fun h => ?_) (fun h => ?_)
    · have hk' : k < p.preds.xs.length := by omega
      have E1 := hp.preds.at hk'
      refine WP.skip ?_
      refine WP.seq ?_
      refine WP.block ?_
      refine WP.seq ?_
      refine WP.region ?_
      refine Ops.y (v := .pointer (some ⟨_, _, none⟩)) (Y.fa0 fa_25_0 rfl) ?_
      refine Ops.y (v := .slice _ _ _) (Y.loadv ty_22 rfl (I.rdbox 0 rfl 0 1) rfl rfl) ?_
      refine Ops.y (v := .int .i64 _) (Y.move rfl) ?_
      refine Ops.y (v := .pointer (some ⟨_, _, none⟩)) (Y.idxEl E1 Tryz.underlying22 Tryz.sizeOf62 rfl rfl (Int.natCast_nonneg _) rfl) ?_
      refine Ops.y (v := .pointer (some ⟨_, _, none⟩)) (Y.fa fa_62_2 rfl) ?_
      refine Ops.y (v := .int .i64 _) (Y.loadv ty_3 rfl (I.rd (E1.rd.part 2 1)) rfl rfl) ?_
      refine Ops.go (O.callv I Tryz.call72 (within_ok _ I.base_ok _ _ _) rfl ?_)
      intro w I
      refine Ops.y (v := .bool _) (Y.not rfl) ?_
      refine Ops.nil ?_
      refine WP.cond rfl (fun hb => ?_) (fun hb => ?_)
      · refine WP.seq ?_
        refine WP.region ?_
        refine Ops.y (v := .int .i64 _) (Y.assign rfl) ?_
        refine Ops.nil ?_
        refine WP.ret ?_
        repeat (first | refine thenE_ret ?_ | refine blockE_ret ?_)
        exact retQ.mk (vs := [.int .i64 _]) rfl ⟨rfl, trivial⟩ I.ext_of (by simp only [tup, checkProg]; rw [if_neg c0, if_neg (by rw [c1]; decide), if_neg (by rw [c2]; decide), if_neg (by rw [c3]; decide), if_pos (any_at hk' (by unfold badKind; exact decide_eq_true (not_within'.1 hb)))])
      refine WP.skip ?_
      refine WP.region ?_
      refine Ops.y (v := .int .i64 _) (Y.move rfl) ?_
      refine Ops.y (v := .int .i64 _) (Y.addi rfl rfl ⟨by omega, by omega⟩) ?_
      refine Ops.y (v := .int .i64 _) (Y.assign rfl) ?_
      refine Ops.nil ?_
      exact ⟨k + 1, ⟨⟨rfl, rfl, trivial⟩, I, hk', fun j hj hj' => by
        rcases Nat.lt_succ_iff_lt_or_eq.1 hj with h' | rfl
        · exact hn j h' hj'
        · unfold badKind; exact decide_eq_false (fun hx => by rw [not_within'.2 hx] at hb; cases hb)⟩, by omega⟩
    refine WP.exit ?_
    exact ⟨(), ⟨rfl, trivial⟩, I, any_false (fun j hj hj' => hn j (by omega) hj')⟩
  rintro _ e w ⟨I, c4⟩
  have e4 : checkProg p = if rulesErr p.preds.xs p.rules.xs ≠ 0 then rulesErr p.preds.xs p.rules.xs else @ite Int (∃ M, Sol (usesL p.rules.xs) p.preds.xs.length M) (Classical.propDecidable _) 0 8 := by
    unfold checkProg; rw [if_neg c0, if_neg (by rw [c1]; decide), if_neg (by rw [c2]; decide), if_neg (by rw [c3]; decide), if_neg (by rw [c4]; decide)]
  refine WP.seq ?_
  refine WP.seq ?_
  refine WP.region ?_
  refine Ops.y (v := .int .i64 _) (Y.assign rfl) ?_
  refine Ops.nil ?_
  refine WP.block ?_
  refine WP.loopE (σ := Nat) (fun k => [(1, .pointer (some ⟨b1, 0, none⟩)), (8, .int .i64 k)]) (fun k w => Inv B B.h [box b1 p.enc 25] w ∧ k ≤ p.rules.xs.length ∧ ∀ j, j < k → ∀ hj : j < p.rules.xs.length, checkRule p.preds.xs p.rules.xs[j] = 0) (fun k => p.rules.xs.length - k)
    ⟨0, ⟨rfl, rfl, trivial⟩, I, Nat.zero_le _, fun j hj => by omega⟩ ?_
  rintro k e w ⟨I, hk, hn⟩
  refine WP.seq ?_
  refine WP.seq ?_
  refine WP.region ?_
  refine Ops.y (v := .int .i64 _) (Y.move rfl) ?_
  refine Ops.y (v := .pointer (some ⟨_, _, none⟩)) (Y.fa fa_25_1 rfl) ?_
  refine Ops.y (v := .slice _ _ _) (Y.loadv ty_23 rfl (I.rdbox 0 rfl 1 1) rfl rfl) ?_
  refine Ops.y (v := .int .i64 _) (Y.lens Tryz.underlying23 rfl) ?_
  refine Ops.y (v := .bool (decide _)) (Y.lti rfl rfl) ?_
  refine Ops.nil ?_
  refine WP.cond_dec rfl (fun h => ?_) (fun h => ?_)
  · have hk' : k < p.rules.xs.length := by omega
    have E1 := hp.rules.is.at hk'
    refine WP.skip ?_
    refine WP.seq ?_
    refine WP.block ?_
    refine WP.seq ?_
    refine WP.regionQ mixed I (by kernel_rfl) ?_
    refine OpsQ.y (v := .pointer (some ⟨_, _, none⟩)) (fun w I => Y.fa0 fa_25_0 rfl) ?_
    refine OpsQ.y (v := .slice _ _ _) (fun w I => Y.loadv ty_22 rfl (I.rdbox 0 rfl 0 1) rfl rfl) ?_
    refine OpsQ.y (v := .pointer (some ⟨_, _, none⟩)) (fun w I => Y.fa fa_25_1 rfl) ?_
    refine OpsQ.y (v := .slice _ _ _) (fun w I => Y.loadv ty_23 rfl (I.rdbox 0 rfl 1 1) rfl rfl) ?_
    refine OpsQ.y (v := .int .i64 _) (fun w I => Y.move rfl) ?_
    refine OpsQ.y (v := .pointer (some ⟨_, _, none⟩)) (fun w I => Y.idxEl E1 Tryz.underlying23 Tryz.sizeOf68 rfl rfl (Int.natCast_nonneg _) rfl) ?_
    refine OpsQ.y (v := .agg #[_, _, _, _, _]) (fun w I => Y.loadv ty_68 rfl (I.rd (E1.rd.part 0 5)) rfl rfl) ?_
    refine OpsQ.c (fun w I => QC.callv I Tryz.call73 (CheckRule_ok _ I.base_ok p.preds hp.preds p.rules.xs[k] (hp.rules.each _ (List.getElem_mem hk'))) rfl) ?_
    refine OpsQ.y (v := .int .i64 _) (fun w I => Y.assign rfl) ?_
    refine OpsQ.nil ?_
    intro w I
    refine WP.seq ?_
    refine WP.region ?_
    refine Ops.y (v := .int .i64 _) (Y.move rfl) ?_
    refine Ops.y (v := .bool (decide _)) (Y.nei rfl rfl) ?_
    refine Ops.nil ?_
    refine WP.cond_dec rfl (fun h17 => ?_) (fun h17 => ?_)
    · refine WP.seq ?_
      refine WP.region ?_
      refine Ops.y (v := .int .i64 _) (Y.move rfl) ?_
      refine Ops.y (v := .int .i64 _) (Y.assign rfl) ?_
      refine Ops.nil ?_
      refine WP.ret ?_
      repeat (first | refine thenE_ret ?_ | refine blockE_ret ?_)
      exact retQ.mk (vs := [.int .i64 _]) rfl ⟨rfl, trivial⟩ I.ext_of (by simp only [tup, e4]; rw [rulesErr_at hk' hn h17, if_pos h17])
    refine WP.skip ?_
    refine WP.region ?_
    refine Ops.y (v := .int .i64 _) (Y.move rfl) ?_
    refine Ops.y (v := .int .i64 _) (Y.addi rfl rfl ⟨by omega, by omega⟩) ?_
    refine Ops.y (v := .int .i64 _) (Y.assign rfl) ?_
    refine Ops.nil ?_
    exact ⟨k + 1, ⟨⟨rfl, rfl, trivial⟩, I, hk', fun j hj hj' => by
      rcases Nat.lt_succ_iff_lt_or_eq.1 hj with h' | rfl
      · exact hn j h' hj'
      · exact Decidable.not_not.1 h17⟩, by omega⟩
  have hr0 : rulesErr p.preds.xs p.rules.xs = 0 := rulesErr_zero.2 fun r hr => by
    obtain ⟨j, hj, rfl⟩ := List.getElem_of_mem hr
    exact hn j (by omega) hj
  have e5 : checkProg p = @ite Int (∃ M, Sol (usesL p.rules.xs) p.preds.xs.length M) (Classical.propDecidable _) 0 8 := by rw [e4, if_neg (by rw [hr0]; decide)]
  refine WP.exit ?_
  refine WP.seq ?_
  refine WP.seq ?_
  refine WP.region ?_
  refine Ops.y (v := .agg #[_, _]) (Y.loadv ty_25 rfl (I.rdbox 0 rfl 0 2) rfl rfl) ?_
  refine Ops.go (O.call I Tryz.call74 (strata_ok _ I.base_ok p hp (inR_of hr0) (by omega) (by omega) (fun r hr => (checkRule_ok (rulesErr_zero.1 hr0 r hr)).2.1)) rfl ?_)
  rintro v112 h3 w I le3 hL
  rcases hL with ⟨s, hS, hI, rfl⟩ | ⟨hno, rfl⟩
  · refine Ops.y (v := .tuple #[_, _]) (Y.move rfl) ?_
    refine Ops.y (v := .slice _ _ _) (Y.extract rfl rfl) ?_
    refine Ops.y (v := .bool _) (Y.extract rfl rfl) ?_
    refine Ops.y (v := .slice _ _ _) (Y.assign rfl) ?_
    refine Ops.y (v := .bool _) (Y.assign rfl) ?_
    refine Ops.nil ?_
    refine WP.seq ?_
    refine WP.region ?_
    refine Ops.y (v := .bool _) (Y.move rfl) ?_
    refine Ops.y (v := .bool _) (Y.not rfl) ?_
    refine Ops.nil ?_
    refine WP.cond_f rfl ?_
    refine WP.skip ?_
    refine WP.seq ?_
    refine WP.region ?_
    refine Ops.y (v := .int .i64 _) (Y.assign rfl) ?_
    refine Ops.nil ?_
    refine WP.ret ?_
    repeat (first | refine thenE_ret ?_ | refine blockE_ret ?_)
    exact retQ.mk (vs := [.int .i64 _]) rfl ⟨rfl, trivial⟩ I.ext_of (by simp only [tup, e5]; rw [if_pos ⟨_, hS.sol⟩])
  · refine Ops.y (v := .tuple #[_, _]) (Y.move rfl) ?_
    refine Ops.y (v := .slice _ _ _) (Y.extract rfl rfl) ?_
    refine Ops.y (v := .bool _) (Y.extract rfl rfl) ?_
    refine Ops.y (v := .slice _ _ _) (Y.assign rfl) ?_
    refine Ops.y (v := .bool _) (Y.assign rfl) ?_
    refine Ops.nil ?_
    refine WP.seq ?_
    refine WP.region ?_
    refine Ops.y (v := .bool _) (Y.move rfl) ?_
    refine Ops.y (v := .bool _) (Y.not rfl) ?_
    refine Ops.nil ?_
    refine WP.cond_t rfl ?_
    refine WP.seq ?_
    refine WP.region ?_
    refine Ops.y (v := .int .i64 _) (Y.assign rfl) ?_
    refine Ops.nil ?_
    refine WP.ret ?_
    repeat (first | refine thenE_ret ?_ | refine blockE_ret ?_)
    exact retQ.mk (vs := [.int .i64 _]) rfl ⟨rfl, trivial⟩ I.ext_of (by simp only [tup, e5]; rw [if_neg (fun ⟨M, hM⟩ => hno M hM)])
end Go.TF
end
section
/- What the document says of a step and of all steps of a rule. -/
namespace Go.TF
open Go Go.RowKit Go.Proofs
set_option maxRecDepth 20000

theorem findF_get {f : List Fct} {y : Fct} : (findF f y).1 = (lkF f (placeF y)).getD 0 := rfl
set_option maxHeartbeats 4000000 in
theorem rholds_ok (B : Base) (hB : B.ok) (p : Prg) (hp : p.In B.h) (f : Sl Fct) (hf : Fcts f B.h) (n : Int) (r : Rul) (h0 : 0 ≤ n) (hr : p.rules.xs[n.toNat]? = some r) (ok : ROk p.preds.xs r) (okf : FOk p.preds.xs f.xs) (x : Vrs) (hx : VsOk x) :
    Fn Tryz.prog 78 [p.val, f.val, .int .i64 n, x.val] B (fun v _ => v = tHold (holdsF p.preds.xs f.xs r x)) := by
  have Er := hp.rules.is.el.el hr
  have ir := hp.rules.each _ (List.mem_of_getElem? hr)
  have ah := aok_of ok.preds ok.head
  have hlen := ok.len
  have hkp : r.head.pred.toNat < p.preds.xs.length := by have := ah.pred; omega
  have Eh := hp.preds.at hkp
  have hpo : p.preds.xs[r.head.pred.toNat] = predOf p.preds.xs r.head.pred := (predOf_getE ah.pred.1 ah.pred.2).symm
  refine Fn.of Tryz.func78 rfl Tryz.ntmps78 (by kernel_rfl) (by simp) ?_
  intro e
  have I := Inv.start hB
  refine WP.seq ?_
  refine WP.region ?_
  refine Ops.go (O.box (v := .agg #[_, _]) I rfl rfl ?_)
  intro b4 w I
  refine Ops.go (O.box (v := .agg #[_, _, _]) I rfl rfl ?_)
  intro b7 w I
  refine Ops.y (v := .bool _) (Y.assign rfl) ?_
  refine Ops.go (O.alloc I Tryz.zeroValue52 rfl ?_)
  intro b9 w I
  refine Ops.nil ?_
  refine WP.seq ?_
  refine WP.region ?_
  refine Ops.y (v := .pointer (some ⟨_, _, none⟩)) (Y.fa fa_25_1 rfl) ?_
  refine Ops.y (v := .slice _ _ _) (Y.loadv ty_23 rfl (I.rdbox 2 rfl 1 1) rfl rfl) ?_
  refine Ops.y (v := .int .i64 _) (Y.move rfl) ?_
  refine Ops.y (v := .pointer (some ⟨_, _, none⟩)) (Y.idxEl Er Tryz.underlying23 Tryz.sizeOf68 rfl rfl h0 rfl) ?_
  refine Ops.y (v := .agg #[_, _, _, _, _]) (Y.loadv ty_68 rfl (I.rd (Er.rd.part 0 5)) rfl rfl) ?_
  refine Ops.go (O.alloc I Tryz.zeroValue68 rfl ?_)
  intro b10 w I
  refine Ops.go (O.store (v := .agg #[_, _, _, _, _]) I ty_68 0 rfl rfl rfl rfl rfl rfl (Nat.le_of_ble_eq_true rfl) rfl ?_)
  intro w I
  refine Ops.nil ?_
  refine WP.seq ?_
  refine WP.region ?_
  refine Ops.y (v := .pointer (some ⟨_, _, none⟩)) (Y.fa0 fa_68_0 rfl) ?_
  refine Ops.y (v := .agg #[_, _]) (Y.loadv ty_65 rfl (I.rdbox 0 rfl 0 2) rfl rfl) ?_
  refine Ops.y (v := .agg #[_, _, _]) (Y.loadv ty_80 rfl (I.rdbox 2 rfl 0 3) rfl rfl) ?_
  refine Ops.go (O.callv I Tryz.call142 (ground_ok _ I.base_ok r.head ir.head x ah.len ah.err) rfl ?_)
  intro w I
  refine Ops.go (O.alloc I Tryz.zeroValue52 rfl ?_)
  intro b11 w I
  refine Ops.go (O.store (v := .agg #[_, _, _, _]) I ty_52 0 rfl rfl rfl rfl rfl rfl (Nat.le_of_ble_eq_true rfl) rfl ?_)
  intro w I
  refine Ops.nil ?_
  refine WP.seq ?_
  refine WP.region ?_
  refine Ops.y (v := .pointer (some ⟨_, _, none⟩)) (Y.fa fa_68_2 rfl) ?_
  refine Ops.y (v := .int .i64 _) (Y.loadv ty_3 rfl (I.rdbox 1 rfl 3 1) rfl rfl) ?_
  refine Ops.y (v := .pointer (some ⟨_, _, none⟩)) (Y.fa fa_52_3 rfl) ?_
  refine Ops.go (O.store (v := .int .i64 _) I ty_3 0 rfl rfl rfl rfl rfl rfl (Nat.le_of_ble_eq_true rfl) rfl ?_)
  intro w I
  refine Ops.nil ?_
  refine WP.seq ?_
  refine WP.seq ?_
  refine WP.region ?_
  refine Ops.y (v := .int .i64 _) (Y.assign rfl) ?_
  refine Ops.nil ?_
  refine WP.block ?_
  refine WP.loopE (σ := Nat) (fun k => [(1, f.val), (4, .pointer (some ⟨b4, 0, none⟩)), (7, .pointer (some ⟨b7, 0, none⟩)), (9, .pointer (some ⟨b9, 0, none⟩)), (10, .pointer (some ⟨b10, 0, none⟩)), (11, .pointer (some ⟨b11, 0, none⟩)), (12, .int .i64 k)])
    (fun k w => (∃ h1, B.h.le h1 ∧ Inv B h1 [box b11 [.int .i64 r.head.pred, .int .i64 (argv r.head x 0), .int .i64 (argv r.head x 1), .int .i64 (hvAt p.preds.xs f.xs r x k)] 52, box b10 r.enc 68, box b9 [.int .i64 0, .int .i64 0, .int .i64 0, .int .i64 0] 52, box b7 x.enc 80, box b4 p.enc 25] w) ∧ k ≤ r.body.xs.length ∧ ∀ j, j < k → ∀ hj : j < r.body.xs.length, litOk f.xs x r.body.xs[j] = true) (fun k => r.body.xs.length - k)
    ⟨0, ⟨rfl, rfl, rfl, rfl, rfl, rfl, rfl, trivial⟩, ?_, Nat.zero_le _, fun j hj => by omega⟩ ?_
  · have : hvAt p.preds.xs f.xs r x 0 = r.n := by unfold hvAt; rw [if_neg (by omega)]
    rw [this]; exact ⟨_, Heap.le.refl _, I⟩
  rintro k e w ⟨⟨h1, gl, I⟩, hk, hn⟩
  have ir := ir.le gl
  have hf := hf.le gl
  have Eh := Eh.le gl
  refine WP.seq ?_
  refine WP.seq ?_
  refine WP.region ?_
  refine Ops.y (v := .int .i64 _) (Y.move rfl) ?_
  refine Ops.y (v := .pointer (some ⟨_, _, none⟩)) (Y.fa fa_68_3 rfl) ?_
  refine Ops.y (v := .slice _ _ _) (Y.loadv ty_66 rfl (I.rdbox 1 rfl 4 1) rfl rfl) ?_
  refine Ops.y (v := .int .i64 _) (Y.lens Tryz.underlying66 rfl) ?_
  refine Ops.y (v := .bool (decide _)) (Y.lti rfl rfl) ?_
  refine Ops.nil ?_
  refine WP.cond_dec rfl (fun h => ?_) (fun h => ?_)
  · have hk' : k < r.body.xs.length := by omega
    have E1 := ir.body.is.at hk'
    have ab := aok_of ok.preds (ok.body _ (List.getElem_mem hk'))
    have pb := ab.pf ok.five hx 0
    refine WP.skip ?_
    refine WP.seq ?_
    refine WP.block ?_
    refine WP.seq ?_
    refine WP.regionQ mixed I (by kernel_rfl) ?_
    refine OpsQ.y (v := .slice _ _ _) (fun w I => Y.move rfl) ?_
    refine OpsQ.y (v := .pointer (some ⟨_, _, none⟩)) (fun w I => Y.fa fa_68_3 rfl) ?_
    refine OpsQ.y (v := .slice _ _ _) (fun w I => Y.loadv ty_66 rfl (I.rdbox 1 rfl 4 1) rfl rfl) ?_
    refine OpsQ.y (v := .int .i64 _) (fun w I => Y.move rfl) ?_
    refine OpsQ.y (v := .pointer (some ⟨_, _, none⟩)) (fun w I => Y.idxEl E1 Tryz.underlying66 Tryz.sizeOf131 rfl rfl (Int.natCast_nonneg _) rfl) ?_
    refine OpsQ.y (v := .pointer (some ⟨_, _, none⟩)) (fun w I => Y.fa fa_131_1 rfl) ?_
    refine OpsQ.y (v := .agg #[_, _]) (fun w I => Y.loadv ty_65 rfl (I.rd (E1.rd.part 1 2)) rfl rfl) ?_
    refine OpsQ.y (v := .agg #[_, _, _]) (fun w I => Y.loadv ty_80 rfl (I.rdbox 3 rfl 0 3) rfl rfl) ?_
    refine OpsQ.c (fun w I => QC.callv I Tryz.call142 (ground_ok _ I.base_ok r.body.xs[k].atom (ir.body.each _ (List.getElem_mem hk')) x ab.len ab.err) rfl) ?_
    refine OpsQ.c (fun w I => QC.callv I Tryz.call80 (rfind_ok _ I.base_ok f hf okf.pf _ pb) rfl) ?_
    refine OpsQ.y (v := .tuple #[_, _]) (fun w I => Y.move rfl) ?_
    refine OpsQ.y (v := .int .i64 _) (fun w I => Y.extract rfl rfl) ?_
    refine OpsQ.y (v := .bool _) (fun w I => Y.extract rfl rfl) ?_
    refine OpsQ.y (v := .int .i64 _) (fun w I => Y.assign rfl) ?_
    refine OpsQ.y (v := .bool _) (fun w I => Y.assign rfl) ?_
    refine OpsQ.nil ?_
    intro w I
    refine WP.seq ?_
    refine WP.seq ?_
    refine WP.region ?_
    refine Ops.y (v := .bool _) (Y.move rfl) ?_
    refine Ops.y (v := .pointer (some ⟨_, _, none⟩)) (Y.fa fa_68_3 rfl) ?_
    refine Ops.y (v := .slice _ _ _) (Y.loadv ty_66 rfl (I.rdbox 1 rfl 4 1) rfl rfl) ?_
    refine Ops.y (v := .int .i64 _) (Y.move rfl) ?_
    refine Ops.y (v := .pointer (some ⟨_, _, none⟩)) (Y.idxEl E1 Tryz.underlying66 Tryz.sizeOf131 rfl rfl (Int.natCast_nonneg _) rfl) ?_
    refine Ops.y (v := .pointer (some ⟨_, _, none⟩)) (Y.fa0 fa_131_0 rfl) ?_
    refine Ops.y (v := .bool _) (Y.loadv ty_4 rfl (I.rd (E1.rd.part 0 1)) rfl rfl) ?_
    refine Ops.y (v := .bool (decide _)) (Y.eqb Tryz.underlying4 rfl rfl) ?_
    refine Ops.nil ?_
    refine WP.cond_dec rfl (fun h8 => ?_) (fun h8 => ?_)
    · have h8 : isF f.xs (groundF r.body.xs[k].atom x) = r.body.xs[k].neg := h8
      have hno : holdsB f.xs r x = false := by
        unfold holdsB; rw [List.all_eq_false]; exact ⟨_, List.getElem_mem hk', by rw [litOk_iff]; exact fun hh => hh h8⟩
      refine WP.seq ?_
      refine WP.region ?_
      refine Ops.y (v := .agg #[.int .i64 _, .int .i64 _, .int .i64 _, .int .i64 _]) (Y.build pl_52 Tryz.zeroValue52 rfl rfl) ?_
      refine Ops.y (v := .bool _) (Y.assign rfl) ?_
      refine Ops.go (O.store (v := .agg #[_, _, _, _]) I ty_52 2 rfl rfl rfl rfl rfl rfl (Nat.le_of_ble_eq_true rfl) rfl ?_)
      intro w I
      refine Ops.nil ?_
      refine WP.ret ?_
      repeat (first | refine thenE_ret ?_ | refine blockE_ret ?_)
      exact retQ.mk (vs := [.bool _, .agg #[_, _, _, _]]) rfl ⟨rfl, ⟨_, _, _, _, _, rfl, ty_52, I.rdbox 2 rfl 0 4, rfl, rfl⟩, trivial⟩ I.ext_of (by simp only [tup, tHold, holdsF, hno]; rfl)
    have h8 : ¬ isF f.xs (groundF r.body.xs[k].atom x) = r.body.xs[k].neg := h8
    refine WP.skip ?_
    refine WP.seq ?_
    refine WP.region ?_
    refine Ops.y (v := .int .i64 _) (Y.move rfl) ?_
    refine Ops.y (v := .pointer (some ⟨_, _, none⟩)) (Y.fa fa_68_1 rfl) ?_
    refine Ops.y (v := .int .i64 _) (Y.loadv ty_3 rfl (I.rdbox 1 rfl 2 1) rfl rfl) ?_
    refine Ops.y (v := .bool (decide _)) (Y.eqi rfl rfl) ?_
    refine Ops.nil ?_
    refine WP.cond_dec rfl (fun h10 => ?_) (fun h10 => ?_)
    · have hs0 : 0 ≤ r.src := by omega
      obtain ⟨hng, hkq⟩ := ok.pos hs0
      have hlo : litOf r r.src = r.body.xs[k] := by rw [← h10]; exact litOf_at hk'
      have hval : hvAt p.preds.xs f.xs r x (k + 1) = liftV p.preds.xs[r.head.pred.toNat].kind (findF f.xs (groundF r.body.xs[k].atom x)).1 r.n := by
        unfold hvAt headV
        rw [if_pos ⟨hs0, by omega⟩, if_pos hs0, hlo, hpo]; rfl
      have hI : I64 ((findF f.xs (groundF r.body.xs[k].atom x)).1 + r.n) := by
        have h2 := ok.n
        have h1 : 0 ≤ (findF f.xs (groundF r.body.xs[k].atom x)).1 ∧ (findF f.xs (groundF r.body.xs[k].atom x)).1 ≤ 15 := by
          rw [findF_get]
          cases hlk : lkF f.xs (placeF (groundF r.body.xs[k].atom x)) with
          | none => exact ⟨by decide, by decide⟩
          | some v =>
            obtain ⟨y, hy, _, rfl⟩ := lkF_mem hlk
            have := vOk_iff.1 (fine_v (okf.fine _ hy))
            exact ⟨this.2.2.1, this.2.2.2.1⟩
        unfold I64; omega
      refine WP.regionF mixed I 11 (by kernel_rfl) ?_
      refine OpsF.y_ (v := .pointer (some ⟨_, _, none⟩)) (fun _ => runs_none _) (fun _ w us hl I => Y.fa0 fa_25_0 rfl) ?_
      refine OpsF.y_ (v := .slice _ _ _) (fun _ => runs_none _) (fun _ w us hl I => Y.loadv ty_22 rfl (I.rdbox 4 rfl 0 1) rfl rfl) ?_
      refine OpsF.y_ (v := .pointer (some ⟨_, _, none⟩)) (fun _ => runs_none _) (fun _ w us hl I => Y.fa0 fa_52_0 rfl) ?_
      refine OpsF.y_ (v := .int .i64 _) (fun _ => runs_none _) (fun _ w us hl I => Y.loadv ty_3 rfl (I.rdbox 0 rfl 0 1) rfl rfl) ?_
      refine OpsF.y_ (v := .pointer (some ⟨_, _, none⟩)) (fun _ => runs_none _) (fun _ w us hl I => Y.idxEl Eh Tryz.underlying22 Tryz.sizeOf62 rfl rfl ah.pred.1 rfl) ?_
      refine OpsF.y_ (v := .pointer (some ⟨_, _, none⟩)) (fun _ => runs_none _) (fun _ w us hl I => Y.fa fa_62_2 rfl) ?_
      refine OpsF.y_ (v := .int .i64 _) (fun _ => runs_none _) (fun _ w us hl I => Y.loadv ty_3 rfl (I.rd ((Eh.rd.part 2 1).le hl)) rfl rfl) ?_
      refine OpsF.y_ (v := .int .i64 _) (fun _ => runs_none _) (fun _ w us hl I => Y.move rfl) ?_
      refine OpsF.y_ (v := .pointer (some ⟨_, _, none⟩)) (fun _ => runs_none _) (fun _ w us hl I => Y.fa fa_68_2 rfl) ?_
      refine OpsF.y_ (v := .int .i64 _) (fun _ => runs_none _) (fun _ w us hl I => Y.loadv ty_3 rfl (I.rdbox 1 rfl 3 1) rfl rfl) ?_
      refine OpsF.c_ (fun _ => runs_none _) (fun _ w us hl I => O.callv I Tryz.call143 (liftR_ok _ I.base_ok _ _ _ hI) rfl (fun w' I' => ⟨rfl, I'⟩)) ?_
      refine OpsF.nil ?_
      intro _ w hl I
      refine Ops.y (v := .pointer (some ⟨_, _, none⟩)) (Y.fa fa_52_3 rfl) ?_
      refine Ops.go (O.store (v := .int .i64 _) I ty_3 0 rfl rfl rfl rfl rfl rfl (Nat.le_of_ble_eq_true rfl) rfl ?_)
      intro w I
      refine Ops.nil ?_
      refine WP.region ?_
      refine Ops.y (v := .int .i64 _) (Y.move rfl) ?_
      refine Ops.y (v := .int .i64 _) (Y.addi rfl rfl ⟨by omega, by omega⟩) ?_
      refine Ops.y (v := .int .i64 _) (Y.assign rfl) ?_
      refine Ops.nil ?_
      exact ⟨k + 1, ⟨⟨rfl, rfl, rfl, rfl, rfl, rfl, rfl, trivial⟩, ⟨_, gl.trans hl, by rw [hval]; exact I⟩, by omega, fun j hj hj' => by
        rcases Nat.lt_succ_iff_lt_or_eq.1 hj with h' | rfl
        · exact hn j h' hj'
        · exact litOk_iff.2 h8⟩, by omega⟩
    · have hval : hvAt p.preds.xs f.xs r x (k + 1) = hvAt p.preds.xs f.xs r x k := by
        unfold hvAt
        have : (0 ≤ r.src ∧ r.src < ((k + 1 : Nat) : Int)) ↔ (0 ≤ r.src ∧ r.src < (k : Int)) := by omega
        simp only [this]
      refine WP.skip ?_
      refine WP.region ?_
      refine Ops.y (v := .int .i64 _) (Y.move rfl) ?_
      refine Ops.y (v := .int .i64 _) (Y.addi rfl rfl ⟨by omega, by omega⟩) ?_
      refine Ops.y (v := .int .i64 _) (Y.assign rfl) ?_
      refine Ops.nil ?_
      exact ⟨k + 1, ⟨⟨rfl, rfl, rfl, rfl, rfl, rfl, rfl, trivial⟩, ⟨h1, gl, by rw [hval]; exact I⟩, by omega, fun j hj hj' => by
        rcases Nat.lt_succ_iff_lt_or_eq.1 hj with h' | rfl
        · exact hn j h' hj'
        · exact litOk_iff.2 h8⟩, by omega⟩
  obtain rfl : k = r.body.xs.length := by omega
  have hyes : holdsB f.xs r x = true := by
    unfold holdsB; rw [List.all_eq_true]; intro t ht; obtain ⟨j, hj, rfl⟩ := List.getElem_of_mem ht; exact hn j hj hj
  rw [hvAt_end ok] at I
  refine WP.exit ?_
  refine WP.seq ?_
  refine WP.regionF mixed I 2 (by kernel_rfl) ?_
  refine OpsF.y_ (v := .agg #[_, _, _, _]) (fun _ => runs_none _) (fun _ w us hl I => Y.loadv ty_52 rfl (I.rdbox 0 rfl 0 4) rfl rfl) ?_
  refine OpsF.y_ (v := .bool _) (fun _ => runs_none _) (fun _ w us hl I => Y.assign rfl) ?_
  refine OpsF.nil ?_
  intro _ w hl I
  refine Ops.go (O.store (v := .agg #[_, _, _, _]) I ty_52 2 rfl rfl rfl rfl rfl rfl (Nat.le_of_ble_eq_true rfl) rfl ?_)
  intro w I
  refine Ops.nil ?_
  refine WP.ret ?_
  repeat (first | refine thenE_ret ?_ | refine blockE_ret ?_)
  exact retQ.mk (vs := [.bool _, .agg #[_, _, _, _]]) rfl ⟨rfl, ⟨_, _, _, _, _, rfl, ty_52, I.rdbox 2 rfl 0 4, rfl, rfl⟩, trivial⟩ I.ext_of (by simp only [tup, tHold, holdsF, hyes]; rfl)
end Go.TF
end
