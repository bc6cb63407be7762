/- Texts Sum2 Sum3 Base23 Prog9 RoadsM Prog10 Sum4 Nai1 ProgLaw ProgLaw2 Nai2 Sum5. -/
import Derived.Test.YtgblgeddpegplaaGreatU7
import Derived.Test.YtgblgeddpegplaaGreatU4
import Derived.Test.YtgblgeddpegplaaGreatU6
import Derived.Test.YtgblgeddpegplaaGreatU3
section
/- Slices of rules: room, one behind the other, one taken out. -/
namespace Go.TF
open Go Go.RowKit Go.Proofs
set_option maxRecDepth 20000

/-- A slice that the call made, with what it holds. -/
def OwS {α : Type} (T k : Nat) (enc : α → List Value) (h0 : Heap) (xs : List α) : Sp := fun v h => ∃ s : Sl α, v = s.val ∧ s.xs = xs ∧ OwnH T k s enc h0 h
theorem OwS.mono {α : Type} {T k : Nat} {enc : α → List Value} {h0 : Heap} {xs : List α} : MonoS (OwS T k enc h0 xs) := fun _ _ _ hl ⟨s, a, b, c⟩ => ⟨s, a, b, c.le hl⟩
section
variable {P : Program} {e : Env} {w : World} {t : TypeId} {pos : String} {af : Array Edge} {g : Option (Nat × Bool)} {d : Option Nat}
theorem Y.slice3 {T el k b n c i j m : Nat} {x lo hi mx : Operand} {k1 k2 k3 : IntKind} (hT : Und P T (.slice el)) (hk : ∀ w, (sizeOf el).run P w = .ok k w) (hx : ev e x = .slice (some ⟨b, 0, none⟩) n c)
    (hl : ev e lo = .int k1 (i : Int)) (hh : ev e hi = .int k2 (j : Int)) (hm : ev e mx = .int k3 (m : Int)) (h1 : i ≤ j) (h2 : j ≤ m) (h3 : m ≤ c) :
    Y P ⟨d, .slice T x (some lo) (some hi) (some mx), t, pos, af, g⟩ e w (.slice (some (if m = i then ⟨b, 0, none⟩ else ⟨b, i * k, none⟩)) (j - i) (m - i)) := by
  simp_all [Y, execOp, Instr.sliceAt, Instr.slice, Instr.sliceBounds, Instr.sliceBound, run_underlying hT, asIntOf, addr_add]
  split <;> rfl
/-- From an index on. -/
theorem Y.cutJ {T el k b n c l : Nat} {x q : Operand} {ik : IntKind} (hT : Und P T (.slice el)) (hk : ∀ w, (sizeOf el).run P w = .ok k w) (hx : ev e x = .slice (some ⟨b, 0, none⟩) n c) (hq : ev e q = .int ik (l : Int)) (h1 : l ≤ n) (h2 : n ≤ c) :
    Y P ⟨d, .slice T x (some q) none none, t, pos, af, g⟩ e w (.slice (some ⟨b, if c = l then 0 else l * k, none⟩) (n - l) (c - l)) := by
  refine (Y.slicesl hT hk hx (.inr ⟨q, ik, rfl, hq⟩) (.inl ⟨rfl, rfl⟩) h1 h2).is ?_
  split <;> simp
end
set_option maxHeartbeats 1000000 in
theorem GrowRul_ok {B : Base} {h : Heap} {M : List SA} {w : World} (I : Inv B h M w) (n : Nat) (hn : n ≤ 1000) :
    Calls Tryz.prog 167 [.slice none 0 0, .int .i64 n].toArray w
      (fun ed w' => ∃ v, ed = .returned v ∧ Inv B h (ownSl 68 5 v 0 [] :: M) w') := by
  refine Calls.ofWP (args := [.slice none 0 0, .int .i64 n]) Tryz.func167 rfl Tryz.ntmps167 (by kernel_rfl) (by simp) ?_
  intro e
  refine WP.seq ?_
  refine WP.region ?_
  refine Ops.y (v := .slice _ _ _) (Y.assign rfl) ?_
  refine Ops.nil ?_
  refine WP.seq ?_
  refine WP.seq ?_
  refine WP.region ?_
  refine Ops.y (v := .int .i64 _) (Y.move rfl) ?_
  refine Ops.y (v := .bool false) (Y.dec_f (Y.lti rfl rfl) ((by omega))) ?_
  refine Ops.nil ?_
  refine WP.cond_f rfl ?_
  refine WP.skip ?_
  refine WP.seq ?_
  refine WP.seq ?_
  refine WP.region ?_
  refine Ops.y (v := .int .i64 _) (Y.move rfl) ?_
  refine Ops.y (v := .slice _ _ _) (Y.move rfl) ?_
  refine Ops.y (v := .int .i64 _) (Y.caps Tryz.underlying23 rfl) ?_
  refine Ops.y (v := .slice _ _ _) (Y.move rfl) ?_
  refine Ops.y (v := .int .i64 _) (Y.lens Tryz.underlying23 rfl) ?_
  refine Ops.y (v := .int .i64 _) (Y.subi rfl rfl ⟨by omega, by omega⟩) ?_
  refine Ops.y (v := .int .i64 _) (Y.subi rfl rfl ⟨by omega, by omega⟩) ?_
  refine Ops.y (v := .int .i64 _) (Y.assign rfl) ?_
  refine Ops.nil ?_
  refine WP.seq ?_
  refine WP.region ?_
  refine Ops.y (v := .int .i64 _) (Y.move rfl) ?_
  refine Ops.y (v := .bool (decide _)) (Y.gti rfl rfl) ?_
  refine Ops.nil ?_
  refine WP.cond_dec rfl (fun h4 => ?_) (fun h4 => ?_)
  · refine WP.region ?_
    refine Ops.y (v := .slice _ _ _) (Y.move rfl) ?_
    refine Ops.y (v := .slice _ _ _) (Y.move rfl) ?_
    refine Ops.y (v := .int .i64 _) (Y.caps Tryz.underlying23 rfl) ?_
    refine Ops.y (v := .slice _ _ _) (Y.slicenil Tryz.underlying23 Tryz.sizeOf68 rfl (.inl rfl) (.inr ⟨_, _, rfl, rfl⟩)) ?_
    refine Ops.y (v := .int .i64 _) (Y.move rfl) ?_
    refine Ops.go (O.growZ (n := n) I Tryz.underlying23 Tryz.underlying3 et_68 rfl rfl (by omega) (by omega) (by omega) ?_)
    intro gg cap xs w I
    obtain ⟨_, hcap⟩ := I.shapeOwn 0 rfl
    refine Ops.y (v := .slice _ _ _) (Y.move rfl) ?_
    refine Ops.y (v := .int .i64 _) (Y.lens Tryz.underlying23 rfl) ?_
    refine Ops.y (v := .slice _ _ _) (Y.cutO (l := 0) (h' := 0) Tryz.underlying23 Tryz.sizeOf68 rfl (.inl ⟨rfl, rfl⟩) (.inr ⟨_, _, rfl, rfl⟩) (by omega) (by omega) (by omega)) ?_
    refine Ops.y (v := .slice _ _ _) (Y.assign rfl) ?_
    refine Ops.nil ?_
    refine WP.seq ?_
    refine WP.region ?_
    refine Ops.y (v := .slice _ _ _) (Y.move rfl) ?_
    refine Ops.y (v := .slice _ _ _) (Y.assign rfl) ?_
    refine Ops.nil ?_
    refine WP.ret ?_
    repeat (first | refine thenE_ret ?_ | refine blockE_ret ?_)
    exact ⟨.inl rfl, [.slice (some ⟨gg, 0, none⟩) 0 cap], ⟨rfl, trivial⟩, _, rfl, I.cutSl (m := 0) (by omega)⟩
  · obtain rfl : n = 0 := by omega
    refine WP.skip ?_
    refine WP.seq ?_
    refine WP.region ?_
    refine Ops.y (v := .slice _ _ _) (Y.move rfl) ?_
    refine Ops.y (v := .slice _ _ _) (Y.assign rfl) ?_
    refine Ops.nil ?_
    refine WP.ret ?_
    repeat (first | refine thenE_ret ?_ | refine blockE_ret ?_)
    exact ⟨.inl rfl, [.slice none 0 0], ⟨rfl, trivial⟩, _, rfl, I.nilSl _ _⟩
theorem rul_len (x : Rul) : x.enc.length = 5 := rfl
theorem rul_one1 (x : Rul) : oneCells x.enc = true := rfl
theorem rul_one (xs : List Rul) : oneCells (xs.flatMap Rul.enc) = true := by
  simp only [oneCells, List.all_flatMap]
  rw [List.all_eq_true]
  intro x _
  exact rul_one1 x
@[reducible] def slE (s : Sl Rul) : List Value := [s.val]
def catL (l : List (Sl Rul)) : List Rul := l.flatMap (·.xs)
theorem catL_take {l : List (Sl Rul)} {k : Nat} (hk : k < l.length) : catL (l.take (k + 1)) = catL (l.take k) ++ l[k].xs := by unfold catL; exact flat_take_succ _ hk
theorem catL_le (l : List (Sl Rul)) (k : Nat) : (catL (l.take k)).length ≤ (catL l).length := flat_take_le _ _ _
set_option maxHeartbeats 4000000 in
theorem ConcatRul_ok (B : Base) (hB : B.ok) (l : Sl (Sl Rul)) (hl : l.Is 1 slE B.h) (hin : ∀ s ∈ l.xs, s.Is 5 Rul.enc B.h) (hsz : (catL l.xs).length ≤ 1000) :
    Fn Tryz.prog 129 [l.val] B (OwS 68 5 Rul.enc B.h (catL l.xs)) := by
  have hsm := hl.small
  refine Fn.of Tryz.func129 rfl Tryz.ntmps129 (by kernel_rfl) (by simp) ?_
  intro e
  have I := Inv.start hB
  refine WP.seq ?_
  refine WP.region ?_
  refine Ops.y (v := .slice _ _ _) (Y.assign rfl) ?_
  refine Ops.nil ?_
  refine WP.seq ?_
  refine WP.region ?_
  refine Ops.y (v := .int .i64 _) (Y.assign rfl) ?_
  refine Ops.nil ?_
  refine WP.seq ?_
  refine WP.seq ?_
  refine WP.region ?_
  refine Ops.y (v := .slice _ _ _) (Y.move rfl) ?_
  refine Ops.y (v := .int .i64 _) (Y.lens Tryz.underlying190 rfl) ?_
  refine Ops.y (v := .int .i64 _) (Y.move rfl) ?_
  refine Ops.nil ?_
  refine WP.block ?_
  refine WP.loopE (σ := Nat) (fun k => [(0, l.val), (3, .int .i64 (catL (l.xs.take k)).length), (9, l.val), (10, .int .i64 l.xs.length), (11, .int .i64 k)])
    (fun k w => Inv B B.h [] w ∧ k ≤ l.xs.length) (fun k => l.xs.length - k) ⟨0, ⟨rfl, rfl, rfl, rfl, rfl, trivial⟩, I, Nat.zero_le _⟩ ?_
  rintro k e w ⟨I, hk⟩
  refine WP.seq ?_
  refine WP.region ?_
  refine Ops.y (v := .bool (decide _)) (Y.lti rfl rfl) ?_
  refine Ops.nil ?_
  refine WP.seq ?_
  refine WP.cond_dec rfl (fun h3 => ?_) (fun h3 => ?_)
  · have hk' : k < l.xs.length := by omega
    have E := hl.at hk'
    have hc := catL_take hk'
    have hle := catL_le l.xs (k + 1)
    rw [hc, List.length_append] at hle
    refine WP.skip ?_
    refine WP.seq ?_
    refine WP.block ?_
    refine WP.seq ?_
    refine WP.region ?_
    refine Ops.y (v := .pointer (some ⟨_, _, none⟩)) (Y.idxEl E Tryz.underlying190 Tryz.sizeOf23 rfl rfl (Int.natCast_nonneg _) rfl) ?_
    refine Ops.y (v := .slice _ _ _) (Y.loadv ty_23 rfl (I.rd (E.rd.part 0 1)) rfl rfl) ?_
    refine Ops.y (v := .slice _ _ _) (Y.assign rfl) ?_
    refine Ops.nil ?_
    refine WP.seq ?_
    refine WP.region ?_
    refine Ops.y (v := .int .i64 _) (Y.move rfl) ?_
    refine Ops.y (v := .slice _ _ _) (Y.move rfl) ?_
    refine Ops.y (v := .int .i64 _) (Y.lens Tryz.underlying23 rfl) ?_
    refine Ops.y (v := .int .i64 _) (Y.addi rfl rfl ⟨by omega, by omega⟩) ?_
    refine Ops.y (v := .int .i64 _) (Y.assign rfl) ?_
    refine Ops.nil ?_
    refine WP.seq ?_
    refine WP.region ?_
    refine Ops.y (v := .int .i64 _) (Y.move rfl) ?_
    refine Ops.y (v := .bool false) (Y.dec_f (Y.lti rfl rfl) ((by omega))) ?_
    refine Ops.nil ?_
    refine WP.cond_f rfl ?_
    refine WP.skip ?_
    refine WP.region ?_
    refine Ops.y (v := .int .i64 _) (Y.addi rfl rfl ⟨by omega, by omega⟩) ?_
    refine Ops.y (v := .int .i64 _) (Y.move rfl) ?_
    refine Ops.nil ?_
    exact ⟨k + 1, ⟨⟨rfl, by rw [hc, List.length_append]; exact congrArg (Value.int IntKind.i64) (by omega), rfl, rfl, rfl, trivial⟩, I, by omega⟩, by omega⟩
  obtain rfl : k = l.xs.length := by omega
  refine WP.exit ?_
  refine WP.seq ?_
  refine WP.region ?_
  refine Ops.y (v := .int .i64 _) (Y.move rfl) ?_
  refine Ops.go (O.calls Tryz.call167 (GrowRul_ok I _ (Nat.le_trans (catL_le l.xs _) hsz)) rfl ?_)
  rintro ed w ⟨v, rfl, I⟩
  refine ⟨_, rfl, ?_⟩
  refine Ops.y (v := v) (Y.assign rfl) ?_
  refine Ops.nil ?_
  refine WP.seq ?_
  refine WP.seq ?_
  refine WP.region ?_
  refine Ops.y (v := .slice _ _ _) (Y.move rfl) ?_
  refine Ops.y (v := .int .i64 _) (Y.lens Tryz.underlying190 rfl) ?_
  refine Ops.y (v := .int .i64 _) (Y.move rfl) ?_
  refine Ops.nil ?_
  refine WP.block ?_
  refine WP.loopE (σ := Nat × Value) (fun s => [(6, s.2), (25, l.val), (26, .int .i64 l.xs.length), (27, .int .i64 s.1)])
    (fun s w => Inv B B.h [ownSl 68 5 s.2 (catL (l.xs.take s.1)).length ((catL (l.xs.take s.1)).flatMap Rul.enc)] w ∧ s.1 ≤ l.xs.length) (fun s => l.xs.length - s.1) ⟨(0, v), ⟨rfl, rfl, rfl, rfl, trivial⟩, I, Nat.zero_le _⟩ ?_
  rintro ⟨k, v⟩ e w ⟨I, hk⟩
  dsimp only at I hk ⊢
  refine WP.seq ?_
  refine WP.region ?_
  refine Ops.y (v := .bool (decide _)) (Y.lti rfl rfl) ?_
  refine Ops.nil ?_
  refine WP.seq ?_
  refine WP.cond_dec rfl (fun h11 => ?_) (fun h11 => ?_)
  · have hk' : k < l.xs.length := by omega
    have E := hl.at hk'
    have hc := catL_take hk'
    have hle := catL_le l.xs (k + 1)
    rw [hc, List.length_append] at hle
    have hs := hin _ (List.getElem_mem hk')
    refine WP.skip ?_
    refine WP.seq ?_
    refine WP.block ?_
    refine WP.seq ?_
    refine WP.region ?_
    refine Ops.y (v := .pointer (some ⟨_, _, none⟩)) (Y.idxEl E Tryz.underlying190 Tryz.sizeOf23 rfl rfl (Int.natCast_nonneg _) rfl) ?_
    refine Ops.y (v := .slice _ _ _) (Y.loadv ty_23 rfl (I.rd (E.rd.part 0 1)) rfl rfl) ?_
    refine Ops.y (v := .slice _ _ _) (Y.assign rfl) ?_
    refine Ops.nil ?_
    refine WP.region ?_
    refine Ops.y (v := v) (Y.move rfl) ?_
    refine Ops.y (v := .slice _ _ _) (Y.move rfl) ?_
    refine Ops.go (O.appendL I Tryz.underlying23 et_68 0 rfl rul_len rul_one1 hs.el rfl rfl (by omega) (by omega) ?_)
    intro v' w I
    refine Ops.y (v := v') (Y.assign rfl) ?_
    refine Ops.nil ?_
    refine WP.region ?_
    refine Ops.y (v := .int .i64 _) (Y.addi rfl rfl ⟨by omega, by omega⟩) ?_
    refine Ops.y (v := .int .i64 _) (Y.move rfl) ?_
    refine Ops.nil ?_
    exact ⟨(k + 1, v'), ⟨⟨rfl, rfl, rfl, rfl, trivial⟩, by dsimp only; rw [hc, List.length_append, List.flatMap_append]; exact I, by dsimp only; omega⟩, by dsimp only; omega⟩
  obtain rfl : k = l.xs.length := by omega
  rw [List.take_length] at I
  obtain ⟨h8, s, le8, rfl, hx, ow, I⟩ := I.settleO rfl
  refine WP.exit ?_
  refine WP.seq ?_
  refine WP.region ?_
  refine Ops.y (v := .slice _ _ _) (Y.move rfl) ?_
  refine Ops.y (v := .slice _ _ _) (Y.assign rfl) ?_
  refine Ops.nil ?_
  refine WP.ret ?_
  repeat (first | refine thenE_ret ?_ | refine blockE_ret ?_)
  exact retQ.mk (vs := [.slice _ _ _]) rfl ⟨rfl, trivial⟩ I.ext_of (⟨s, rfl, hx, ow⟩)
set_option maxHeartbeats 4000000 in
theorem DelRul_ok {B : Base} {h : Heap} {M : List SA} {w : World} {gg c m i : Nat} {xs : List Rul} (I : Inv B h (ownSl 68 5 (.slice (some ⟨gg, 0, none⟩) m c) m (xs.flatMap Rul.enc) :: M) w) (hm : m = xs.length) (hi : i < m) (hsz : m ≤ 1000) :
    Calls Tryz.prog 98 [.slice (some ⟨gg, 0, none⟩) m c, .int .i64 i, .int .i64 (i + 1)].toArray w
      (fun ed w' => ∃ v h', ed = .returned v ∧ h.le h' ∧ Inv B h' (ownSl 68 5 v (m - 1) ((xs.eraseIdx i).flatMap Rul.enc) :: M) w') := by
  obtain ⟨_, hcap⟩ := I.shapeOwn 0 rfl
  refine Calls.ofWP (args := [.slice (some ⟨gg, 0, none⟩) m c, .int .i64 i, .int .i64 (i + 1)]) Tryz.func98 rfl Tryz.ntmps98 (by kernel_rfl) (by simp) ?_
  intro e
  refine WP.seq ?_
  refine WP.region ?_
  refine Ops.y (v := .slice _ _ _) (Y.assign rfl) ?_
  refine Ops.nil ?_
  refine WP.seq ?_
  refine WP.region ?_
  refine Ops.y (v := .slice _ _ _) (Y.move rfl) ?_
  refine Ops.y (v := .int .i64 _) (Y.move rfl) ?_
  refine Ops.y (v := .int .i64 _) (Y.move rfl) ?_
  refine Ops.y (v := .slice _ _ _) (Y.move rfl) ?_
  refine Ops.y (v := .int .i64 _) (Y.lens Tryz.underlying23 rfl) ?_
  refine Ops.y (v := .slice _ _ _) (Y.slice3 (i := i) (j := i + 1) (m := m) Tryz.underlying23 Tryz.sizeOf68 rfl rfl rfl rfl (by omega) (by omega) (by omega)) ?_
  refine Ops.nil ?_
  refine WP.seq ?_
  refine WP.seq ?_
  refine WP.region ?_
  refine Ops.y (v := .int .i64 _) (Y.move rfl) ?_
  refine Ops.y (v := .int .i64 _) (Y.move rfl) ?_
  refine Ops.y (v := .bool false) (Y.dec_f (Y.eqi rfl rfl) ((by omega))) ?_
  refine Ops.nil ?_
  refine WP.cond_f rfl ?_
  refine WP.skip ?_
  refine WP.seq ?_
  refine WP.region ?_
  refine Ops.y (v := .slice _ _ _) (Y.move rfl) ?_
  refine Ops.y (v := .int .i64 _) (Y.lens Tryz.underlying23 rfl) ?_
  refine Ops.y (v := .int .i64 _) (Y.assign rfl) ?_
  refine Ops.nil ?_
  have hfl : (xs.flatMap Rul.enc).take (i * 5) ++ (xs.flatMap Rul.enc).drop ((i + 1) * 5) = (xs.eraseIdx i).flatMap Rul.enc := by rw [flat_take rul_len, flat_drop rul_len, ← List.flatMap_append, List.eraseIdx_eq_take_drop_succ]
  refine WP.seq ?_
  refine WP.regionF mixed I 6 (by kernel_rfl) ?_
  refine OpsF.y_ (v := .slice _ _ _) (fun _ => runs_none _) (fun _ w us hl I => Y.move rfl) ?_
  refine OpsF.y_ (v := .int .i64 _) (fun _ => runs_none _) (fun _ w us hl I => Y.move rfl) ?_
  refine OpsF.y_ (v := .slice _ _ _) (fun _ => runs_none _) (fun _ w us hl I => Y.cutO (l := 0) (h' := i) Tryz.underlying23 Tryz.sizeOf68 rfl (.inl ⟨rfl, rfl⟩) (.inr ⟨_, _, rfl, rfl⟩) (by omega) (by omega) (by omega)) ?_
  refine OpsF.y_ (v := .slice _ _ _) (fun _ => runs_none _) (fun _ w us hl I => Y.move rfl) ?_
  refine OpsF.y_ (v := .int .i64 _) (fun _ => runs_none _) (fun _ w us hl I => Y.move rfl) ?_
  refine OpsF.y_ (v := .slice _ _ _) (fun _ => runs_none _) (fun _ w us hl I => Y.cutJ (l := i + 1) Tryz.underlying23 Tryz.sizeOf68 rfl rfl (by omega) (by omega)) ?_
  refine OpsF.nil ?_
  intro _ w hl I
  refine Ops.go (O.closeUp (i := i) (j := i + 1) I Tryz.underlying23 et_68 (rul_one xs) (by omega) (by omega) rfl rfl (by split <;> omega) ?_)
  intro w I
  refine Ops.y (v := .slice _ _ _) (Y.assign rfl) ?_
  refine Ops.nil ?_
  rw [hfl] at I
  refine WP.seq ?_
  refine WP.region ?_
  refine Ops.y (v := .slice _ _ _) (Y.move rfl) ?_
  refine Ops.y (v := .slice _ _ _) (Y.move rfl) ?_
  refine Ops.y (v := .int .i64 _) (Y.lens Tryz.underlying23 rfl) ?_
  refine Ops.y (v := .int .i64 _) (Y.move rfl) ?_
  refine Ops.y (v := .slice _ _ _) (Y.cutO (l := i + (m - (i + 1))) (h' := m) Tryz.underlying23 Tryz.sizeOf68 rfl (.inr ⟨_, _, rfl, rfl⟩) (.inr ⟨_, _, rfl, rfl⟩) (by omega) (by omega) (by omega)) ?_
  refine Ops.go (O.clearS I Tryz.underlying23 et_68 (by simp [Value.cells, Value.oneCell']) rfl (by omega) rfl (by omega) ?_)
  intro w I
  refine Ops.nil ?_
  refine WP.seq ?_
  refine WP.region ?_
  refine Ops.y (v := .slice _ _ _) (Y.move rfl) ?_
  refine Ops.y (v := .slice _ _ _) (Y.assign rfl) ?_
  refine Ops.nil ?_
  refine WP.ret ?_
  repeat (first | refine thenE_ret ?_ | refine blockE_ret ?_)
  rw [show i + (m - (i + 1)) = m - 1 by omega] at I
  exact ⟨.inl rfl, [.slice (some ⟨gg, 0, none⟩) (i + (m - (i + 1))) c], ⟨rfl, trivial⟩, _, _, rfl, hl, by rw [show i + (m - (i + 1)) = m - 1 by omega]; exact I⟩
theorem DelRul_v {B : Base} {h : Heap} {M : List SA} {w : World} {v : Value} {m i : Nat} {xs : List Rul} (I : Inv B h (ownSl 68 5 v m (xs.flatMap Rul.enc) :: M) w) (hm : m = xs.length) (hi : i < m) (hsz : m ≤ 1000) :
    Calls Tryz.prog 98 [v, .int .i64 i, .int .i64 (i + 1)].toArray w
      (fun ed w' => ∃ v h', ed = .returned v ∧ h.le h' ∧ Inv B h' (ownSl 68 5 v (m - 1) ((xs.eraseIdx i).flatMap Rul.enc) :: M) w') := by
  rcases (I.at 0 rfl).2 with ⟨_, h0⟩ | ⟨gg, cap, cur, rfl, _⟩
  · omega
  · exact DelRul_ok I hm hi hsz
/-! ### Cuts of what is known -/
section
variable {P : Program} {e : Env} {w : World} {t : TypeId} {pos : String} {af : Array Edge} {g : Option (Nat × Bool)} {d : Option Nat} {α : Type}
@[reducible] def Sl.dropS (s : Sl α) (k l : Nat) : Sl α := ⟨some (if s.cap = l then ⟨s.blk, s.off, none⟩ else ⟨s.blk, s.off + l * k, none⟩), s.cap - l, s.xs.drop l⟩
theorem Y.dropS {T el k l : Nat} {ik : IntKind} {x q : Operand} {s : Sl α} (ha : s.at_ = some ⟨s.blk, s.off, none⟩) (hT : Und P T (.slice el)) (hk : ∀ w, (sizeOf el).run P w = .ok k w) (hx : ev e x = s.val) (hq : ev e q = .int ik (l : Int)) (hl : l ≤ s.xs.length) (hc : s.xs.length ≤ s.cap) :
    Y P ⟨d, .slice T x (some q) none none, t, pos, af, g⟩ e w (s.dropS k l).val := by
  have hx' : ev e x = .slice (some ⟨s.blk, s.off, none⟩) s.xs.length s.cap := by rw [hx]; unfold Sl.val; rw [← ha]
  refine (Y.slicesl (l := l) (h := s.xs.length) hT hk hx' (.inr ⟨q, ik, rfl, hq⟩) (.inl ⟨rfl, rfl⟩) hl hc).is ?_
  simp [Sl.val]
theorem dropS_is {s : Sl α} {k l : Nat} {enc : α → List Value} {h : Heap} (hs : s.Is k enc h) (hl : l ≤ s.xs.length) (hc : s.xs.length ≤ s.cap) : (s.dropS k l).Is k enc h := by
  refine ⟨fun i x hx => ?_, ?_⟩
  · rw [List.getElem?_drop] at hx
    have hlt := (List.getElem?_eq_some_iff.1 hx).1
    have hne : s.cap ≠ l := by omega
    have e : s.dropS k l = ⟨some ⟨s.blk, s.off + l * k, none⟩, s.cap - l, s.xs.drop l⟩ := by unfold Sl.dropS; rw [if_neg hne]
    obtain ⟨_, h2⟩ := hs.el (l + i) x hx
    rw [e]
    refine ⟨rfl, ?_⟩
    show RdH h s.blk (s.off + l * k + i * k) (enc x)
    rw [Nat.add_assoc, ← Nat.add_mul]
    exact h2
  · have := hs.small
    show (s.xs.drop l).length ≤ _
    rw [List.length_drop]; omega
end
end Go.TF
end
section
/- Two programs in one, one without a rule: the program's answer and the document's. -/
namespace Go.TF
open Go Go.RowKit Go.Proofs
set_option maxRecDepth 20000

/-- Two slices in one struct. -/
def Pr2 (Φ Ψ : Sp) : Sp := fun u h => ∃ x y, u = .agg #[x, y] ∧ Φ x h ∧ Ψ y h
theorem Pr2.mono' {Φ Ψ : Sp} (h1 : MonoS Φ) (h2 : MonoS Ψ) : MonoS (Pr2 Φ Ψ) := fun _ _ _ hl ⟨x, y, a, b, c⟩ => ⟨x, y, a, h1 _ _ _ hl b, h2 _ _ _ hl c⟩
@[reducible] def PdS (h0 : Heap) (xs : List Prd) : Sp := OwS 62 3 Prd.enc h0 xs
@[reducible] def RlS (h0 : Heap) (xs : List Rul) : Sp := OwS 68 5 Rul.enc h0 xs
def PgS (h0 : Heap) (ps : List Prd) (rs : List Rul) : Sp := Pr2 (PdS h0 ps) (RlS h0 rs)
theorem PgS.mono {h0 : Heap} {ps : List Prd} {rs : List Rul} : MonoS (PgS h0 ps rs) := Pr2.mono' OwS.mono OwS.mono
theorem PdS.mono {h0 : Heap} {xs : List Prd} : MonoS (PdS h0 xs) := OwS.mono
theorem RlS.mono {h0 : Heap} {xs : List Rul} : MonoS (RlS h0 xs) := OwS.mono
/-- What comes: a program, its slices made by the call. -/
def SumO (h0 : Heap) (r : (List Prd × List Rul) × Int) (v : Value) (h : Heap) : Prop := ∃ a : Prg, v = .tuple #[a.val, .int .i64 r.2] ∧ a.preds.xs = r.1.1 ∧ a.rules.xs = r.1.2 ∧ OwnH 62 3 a.preds Prd.enc h0 h ∧ OwnH 68 5 a.rules Rul.enc h0 h
theorem own_prg {a : Prg} {h0 h : Heap} (hl : h0.le h) (o1 : OwnH 62 3 a.preds Prd.enc h0 h) (o2 : OwnH 68 5 a.rules Rul.enc h0 h) (h1 : a.preds.xs.length ≤ 5) (h2 : a.rules.xs.length ≤ 16) (he : ∀ r ∈ a.rules.xs, r.In h0) : a.In h :=
  ⟨⟨o1.in (fun _ => rfl), by omega⟩, ⟨⟨o2.in rul_len, by omega⟩, fun x hx => (he x hx).le hl⟩⟩
theorem cat_in {p q : Prg} {h : Heap} (hp : p.In h) (hq : q.In h) {l : Sl (Sl Rul)} (e : l.xs = [p.rules, q.rules]) : ∀ s ∈ l.xs, s.Is 5 Rul.enc h := by
  rw [e]
  intro s hs
  rcases List.mem_cons.1 hs with rfl | hs
  · exact hp.rules.is
  · rw [List.mem_singleton.1 hs]; exact hq.rules.is
theorem cat_each {p q : Prg} {h : Heap} (hp : p.In h) (hq : q.In h) : ∀ r ∈ p.rules.xs ++ q.rules.xs, r.In h := fun r hr => by
  rcases List.mem_append.1 hr with hr | hr
  · exact hp.rules.each r hr
  · exact hq.rules.each r hr
set_option maxHeartbeats 8000000 in
theorem Union_own (B : Base) (hB : B.ok) (p q : Prg) (hp : p.In B.h) (hq : q.In B.h) (hnm : p.Nm) (hnq : q.Nm) : Fn Tryz.prog 59 [p.val, q.val] B (SumO B.h (unionOf p q)) := by
  refine Fn.of Tryz.func59 rfl Tryz.ntmps59 (by kernel_rfl) (by simp) ?_
  intro e
  have I := Inv.start hB
  refine WP.seq ?_
  refine WP.region ?_
  refine Ops.go (O.box (v := .agg #[_, _]) I rfl rfl ?_)
  intro b2 w I
  refine Ops.go (O.box (v := .agg #[_, _]) I rfl rfl ?_)
  intro b3 w I
  refine Ops.go (O.alloc I Tryz.zeroValue25 rfl ?_)
  intro b4 w I
  refine Ops.y (v := .int .i64 _) (Y.assign rfl) ?_
  refine Ops.nil ?_
  refine WP.seq ?_
  refine WP.seq ?_
  refine WP.region ?_
  refine Ops.y (v := .agg #[_, _]) (Y.loadv ty_25 rfl (I.rdbox 2 rfl 0 2) rfl rfl) ?_
  refine Ops.y (v := .agg #[_, _]) (Y.loadv ty_25 rfl (I.rdbox 1 rfl 0 2) rfl rfl) ?_
  refine Ops.go (O.mksl (xs := [p, q]) (enc := Prg.enc) I Tryz.underlying157 Tryz.sizeOf25 Tryz.zeroValue25 rfl (Nat.le_of_ble_eq_true rfl) rfl rfl (by decide) (fun _ => rfl) ?_)
  intro b13 h13 w I le13 sl13
  refine Ops.y (v := .int .i64 _) (Y.lens Tryz.underlying157 rfl) ?_
  refine Ops.y (v := .int .i64 _) (Y.move rfl) ?_
  refine Ops.nil ?_
  refine WP.block ?_
  refine WP.loopE (σ := Nat) (fun k => [(2, .pointer (some ⟨b2, 0, none⟩)), (3, .pointer (some ⟨b3, 0, none⟩)), (4, .pointer (some ⟨b4, 0, none⟩)), (13, .slice (some ⟨b13, 0, none⟩) 2 2), (14, .int .i64 2), (15, .int .i64 k)])
    (fun k w => Inv B h13 [box b4 [.slice none 0 0, .slice none 0 0] 25, box b3 q.enc 25, box b2 p.enc 25] w ∧ k ≤ 2 ∧ ∀ j (hj : j < k) (hj2 : j < 2), checkProg ([p, q][j]'hj2) = 0) (fun k => 2 - k)
    ⟨0, ⟨rfl, rfl, rfl, rfl, rfl, rfl, trivial⟩, I, Nat.zero_le _, fun j hj => by omega⟩ ?_
  rintro k e w ⟨I, hk, hc⟩
  refine WP.seq ?_
  refine WP.region ?_
  refine Ops.y (v := .bool (decide _)) (Y.lti rfl rfl) ?_
  refine Ops.nil ?_
  refine WP.seq ?_
  refine WP.cond_dec rfl (fun h2 => ?_) (fun h2 => ?_)
  · have hk' : k < 2 := by omega
    obtain ⟨x, hx⟩ : ∃ x, [p, q][k]'hk' = x := ⟨_, rfl⟩
    have hxin : x.In h13 ∧ x.Nm := by
      have : k = 0 ∨ k = 1 := by omega
      rcases this with rfl | rfl
      · subst hx; exact ⟨hp.le le13, hnm⟩
      · subst hx; exact ⟨hq.le le13, hnq⟩
    have E : El (⟨some ⟨b13, 0, none⟩, 2, [p, q]⟩ : Sl Prg) 2 Prg.enc h13 k x := sl13.el (by rw [List.getElem?_eq_getElem hk', hx])
    refine WP.skip ?_
    refine WP.seq ?_
    refine WP.block ?_
    refine WP.seq ?_
    refine WP.region ?_
    refine Ops.y (v := .pointer (some ⟨_, _, none⟩)) (Y.idxEl E Tryz.underlying157 Tryz.sizeOf25 rfl rfl (Int.natCast_nonneg _) rfl) ?_
    refine Ops.y (v := .agg #[_, _]) (Y.loadv ty_25 rfl (I.rd (E.rd.part 0 2)) rfl rfl) ?_
    refine Ops.go (O.alloc I Tryz.zeroValue25 rfl ?_)
    intro b7 w I
    refine Ops.go (O.store (v := .agg #[_, _]) I ty_25 0 rfl rfl rfl rfl rfl rfl (Nat.le_of_ble_eq_true rfl) rfl ?_)
    intro w I
    refine Ops.nil ?_
    refine WP.seq ?_
    refine WP.region ?_
    refine Ops.y (v := .agg #[_, _]) (Y.loadv ty_25 rfl (I.rdbox 0 rfl 0 2) rfl rfl) ?_
    refine Ops.go (O.callv I Tryz.call56 (PCheck_ok _ I.base_ok x hxin.1 hxin.2) rfl ?_)
    intro w I
    refine Ops.y (v := .int .i64 _) (Y.assign rfl) ?_
    refine Ops.nil ?_
    refine WP.seq ?_
    refine WP.region ?_
    refine Ops.y (v := .int .i64 _) (Y.move rfl) ?_
    refine Ops.y (v := .bool (decide _)) (Y.nei rfl rfl) ?_
    refine Ops.nil ?_
    refine WP.cond_dec rfl (fun h5 => ?_) (fun h5 => ?_)
    · have hr : unionOf p q = (([], []), checkProg x) := by
        have : k = 0 ∨ k = 1 := by omega
        rcases this with rfl | rfl
        · obtain rfl : p = x := hx
          unfold unionOf; rw [if_pos h5]
        · obtain rfl : q = x := hx
          have h0 : checkProg p = 0 := hc 0 (by omega) (by omega)
          unfold unionOf; rw [if_neg (by rw [h0]; decide), if_pos h5]
      refine WP.seq ?_
      refine WP.region ?_
      refine Ops.y (v := .agg #[.slice _ _ _, .slice _ _ _]) (Y.build pl_25 Tryz.zeroValue25 rfl rfl) ?_
      refine Ops.y (v := .int .i64 _) (Y.move rfl) ?_
      refine Ops.go (O.store (v := .agg #[_, _]) I ty_25 1 rfl rfl rfl rfl rfl rfl (Nat.le_of_ble_eq_true rfl) rfl ?_)
      intro w I
      refine Ops.y (v := .int .i64 _) (Y.assign rfl) ?_
      refine Ops.nil ?_
      refine WP.ret ?_
      repeat (first | refine thenE_ret ?_ | refine blockE_ret ?_)
      exact retQ.mk (vs := [.agg #[_, _], .int .i64 _]) rfl ⟨⟨_, _, _, _, _, rfl, ty_25, I.rdbox 1 rfl 0 2, rfl, rfl⟩, rfl, trivial⟩ I.ext_of (by rw [hr]; exact ⟨⟨⟨none, 0, []⟩, ⟨none, 0, []⟩⟩, rfl, rfl, rfl, .inl rfl, .inl rfl⟩)
    have h5 : checkProg x = 0 := Decidable.not_not.1 h5
    refine WP.skip ?_
    refine WP.region ?_
    refine Ops.y (v := .int .i64 _) (Y.addi rfl rfl ⟨by omega, by omega⟩) ?_
    refine Ops.y (v := .int .i64 _) (Y.move rfl) ?_
    refine Ops.nil ?_
    exact ⟨k + 1, ⟨⟨rfl, rfl, rfl, rfl, rfl, rfl, trivial⟩, I.drop, by omega, fun j hj hj2 => by
      rcases Nat.lt_succ_iff_lt_or_eq.1 hj with h | rfl
      · exact hc j h hj2
      · rw [hx]; exact h5⟩, by omega⟩
  obtain rfl : k = 2 := by omega
  have hcp : checkProg p = 0 := hc 0 (by omega) (by omega)
  have hcq : checkProg q = 0 := hc 1 (by omega) (by omega)
  obtain ⟨n5, n8, _⟩ := checkProg_ok hcp
  obtain ⟨m5, m8, _⟩ := checkProg_ok hcq
  refine WP.exit ?_
  refine WP.seq ?_
  refine WP.seq ?_
  refine WP.region ?_
  refine Ops.y (v := .pointer (some ⟨_, _, none⟩)) (Y.fa0 fa_25_0 rfl) ?_
  refine Ops.y (v := .slice _ _ _) (Y.loadv ty_22 rfl (I.rdbox 2 rfl 0 1) rfl rfl) ?_
  refine Ops.y (v := .pointer (some ⟨_, _, none⟩)) (Y.fa0 fa_25_0 rfl) ?_
  refine Ops.y (v := .slice _ _ _) (Y.loadv ty_22 rfl (I.rdbox 1 rfl 0 1) rfl rfl) ?_
  refine Ops.go (O.callv I Tryz.call128 (EqualPrd_ok _ I.base_ok p.preds q.preds (hp.le le13).preds (hq.le le13).preds) rfl ?_)
  intro w I
  refine Ops.y (v := .bool _) (Y.not rfl) ?_
  refine Ops.nil ?_
  refine WP.cond rfl (fun h8 => ?_) (fun h8 => ?_)
  · have h8 : p.preds.xs ≠ q.preds.xs := by simpa using h8
    refine WP.seq ?_
    refine WP.region ?_
    refine Ops.y (v := .agg #[.slice _ _ _, .slice _ _ _]) (Y.build pl_25 Tryz.zeroValue25 rfl rfl) ?_
    refine Ops.go (O.store (v := .agg #[_, _]) I ty_25 0 rfl rfl rfl rfl rfl rfl (Nat.le_of_ble_eq_true rfl) rfl ?_)
    intro w I
    refine Ops.y (v := .int .i64 _) (Y.assign rfl) ?_
    refine Ops.nil ?_
    refine WP.ret ?_
    repeat (first | refine thenE_ret ?_ | refine blockE_ret ?_)
    exact retQ.mk (vs := [.agg #[_, _], .int .i64 _]) rfl ⟨⟨_, _, _, _, _, rfl, ty_25, I.rdbox 0 rfl 0 2, rfl, rfl⟩, rfl, trivial⟩ I.ext_of (by unfold unionOf; rw [if_neg (by rw [hcp]; decide), if_neg (by rw [hcq]; decide), if_pos h8]; exact ⟨⟨⟨none, 0, []⟩, ⟨none, 0, []⟩⟩, rfl, rfl, rfl, .inl rfl, .inl rfl⟩)
  have h8 : p.preds.xs = q.preds.xs := by simpa using h8
  have hcl : (catL [p.rules, q.rules]).length ≤ 1000 := by simp [catL]; omega
  refine WP.skip ?_
  refine WP.seq ?_
  refine WP.regionG mixed RUn.pre ⟨h13, none, none, none⟩ (J := JUn B [box b4 [.slice none 0 0, .slice none 0 0] 25, box b3 q.enc 25, box b2 p.enc 25] 0 0 0 0 [] [] 25 [.slice none 0 0, .slice none 0 0] 98 97 10) ⟨rfl, rfl, rfl, fun h => (by cases h), I.drew⟩ 11 (by kernel_rfl) ?_
  refine OpsG.y_ (v := .pointer (some ⟨_, _, none⟩)) (fun _ => runsG_none _) RUn.pre (JUn.set (by decide)) (fun _ s w us hl hj => have I := hj.base; have hl := hl.h; Y.fa0 fa_25_0 rfl) ?_
  refine OpsG.y_ (v := .slice _ _ _) (fun _ => runsG_none _) RUn.pre (JUn.set (by decide)) (fun _ s w us hl hj => have I := hj.base; have hl := hl.h; Y.loadv ty_22 rfl (I.rdbox 2 rfl 0 1) rfl rfl) ?_
  refine OpsG.x_ (Φ := KnUn (PdS B.h p.preds.xs)) (KnUn.mono PdS.mono) (fun _ => runsG_none _) (fun D' z w hDk hl hj => ?_) ?_
  · refine AllG.all fun us => ?_
    refine hj.know (by decide) fun N I => ?_
    have hl := hl.h
    refine O.call I Tryz.call97 (ClonePrd_ok _ I.base_ok p.preds ((hp.le le13).preds.le hl) (by omega)) rfl ?_
    rintro _ h1 w I hl' ⟨s, rfl, es, os, _⟩
    exact ⟨_, hl', I, ⟨s, rfl, es, os.older (le13.trans hl)⟩⟩
  refine OpsG.y_ (v := .pointer (some ⟨_, _, none⟩)) (fun _ => runsG_none _) RUn.pre (JUn.set (by decide)) (fun _ s w us hl hj => have I := hj.base; have hl := hl.h; Y.fa fa_25_1 rfl) ?_
  refine OpsG.y_ (v := .slice _ _ _) (fun _ => runsG_none _) RUn.pre (JUn.set (by decide)) (fun _ s w us hl hj => have I := hj.base; have hl := hl.h; Y.loadv ty_23 rfl (I.rdbox 2 rfl 1 1) rfl rfl) ?_
  refine OpsG.y_ (v := .pointer (some ⟨_, _, none⟩)) (fun _ => runsG_none _) RUn.pre (JUn.set (by decide)) (fun _ s w us hl hj => have I := hj.base; have hl := hl.h; Y.fa fa_25_1 rfl) ?_
  refine OpsG.y_ (v := .slice _ _ _) (fun _ => runsG_none _) RUn.pre (JUn.set (by decide)) (fun _ s w us hl hj => have I := hj.base; have hl := hl.h; Y.loadv ty_23 rfl (I.rdbox 1 rfl 1 1) rfl rfl) ?_
  refine OpsG.x_ (Φ := KnUn (SlS 1 slE [p.rules, q.rules])) (KnUn.mono SlS.mono) (fun _ => runsG_none _) (fun D' z w hDk hl hj => ?_) ?_
  · intro u35 q35
    refine hj.know (by decide) fun N I => ?_
    have hl := hl.h
    exact O.mksl (xs := [p.rules, q.rules]) (enc := slE) I Tryz.underlying190 Tryz.sizeOf23 Tryz.zeroValue23 rfl (Nat.le_of_ble_eq_true rfl) rfl rfl (by decide) (fun _ => rfl) (fun b h w I le sl => ⟨h, le, I, ⟨⟨some ⟨b, 0, none⟩, _, [p.rules, q.rules]⟩, rfl, rfl, ⟨sl, by simp⟩⟩⟩)
  refine OpsG.x_ (Φ := KnUn (RlS B.h (p.rules.xs ++ q.rules.xs))) (KnUn.mono RlS.mono) (fun _ => runsG_none _) (fun D' z w hDk hl hj => ?_) ?_
  · intro u35 q35 u40 q40
    obtain ⟨l8, rfl, e8, i8⟩ := q40 rfl
    refine hj.know (by decide) fun N I => ?_
    have hl := hl.h
    refine O.call I Tryz.call129 (ConcatRul_ok _ I.base_ok l8 i8 (cat_in ((hp.le le13).le hl) ((hq.le le13).le hl) e8) (by rw [e8]; exact hcl)) rfl ?_
    rintro _ h1 w I hl' ⟨s, rfl, es, os⟩
    exact ⟨_, hl', I, ⟨s, rfl, by rw [es, e8]; simp [catL], os.older (le13.trans hl)⟩⟩
  refine OpsG.x_ (Φ := KnUn (PgS B.h p.preds.xs (p.rules.xs ++ q.rules.xs))) (KnUn.mono PgS.mono) (fun _ => runsG_none _) (fun D' z w hDk hl hj => ?_) ?_
  · intro u35 q35 u40 q40 u41 q41
    obtain ⟨s1, rfl, e1, o1⟩ := q35 rfl
    obtain ⟨s2, rfl, e2, o2⟩ := q41 rfl
    refine hj.know (by decide) fun N I => ?_
    have hl := hl.h
    exact O.yx I (Y.build pl_25 Tryz.zeroValue25 rfl rfl) (⟨_, _, rfl, ⟨s1, rfl, e1, o1⟩, s2, rfl, e2, o2⟩)
  refine OpsG.x_ (Φ := AtU7) (AtU7.mono) (fun _ => runsG_none _) (fun D' z w hDk hl hj => ?_) ?_
  · intro u35 q35 u40 q40 u41 q41 u42 q42
    exact hj.make Tryz.zeroValue25 rfl hDk (by decide) (by decide)
  refine OpsG.nil ?_
  intro D z w hD hl hj u35 q35 u40 q40 u41 q41 u42 q42 u9 q9
  obtain ⟨b9, rfl, h9⟩ := q9 rfl
  have I := hj.box h9
  obtain ⟨_, _, rfl, ⟨s1, rfl, e1, o1⟩, s2, rfl, e2, o2⟩ := q42 rfl
  refine Ops.go (O.store (v := .agg #[_, _]) I ty_25 0 rfl rfl rfl rfl rfl rfl (Nat.le_of_ble_eq_true rfl) rfl ?_)
  intro w I
  refine Ops.nil ?_
  obtain ⟨a, ha⟩ : ∃ a : Prg, a = ⟨s1, s2⟩ := ⟨_, rfl⟩
  have ha1 : a.preds = s1 := by rw [ha]
  have ha2 : a.rules = s2 := by rw [ha]
  have gl := le13.trans hl.h
  have hin : a.In z.h := own_prg gl (ha1 ▸ o1) (ha2 ▸ o2) (by rw [ha1, e1]; exact n5) (by rw [ha2, e2, List.length_append]; omega) (by rw [ha2, e2]; exact cat_each hp hq)
  have hanm : a.Nm := by unfold Prg.Nm; rw [ha1, e1]; exact hnm
  have hcg : checkProg a = checkProg (mkP p.preds.xs (p.rules.xs ++ q.rules.xs)) := checkProg_congr (by rw [ha1, e1]; rfl) (by rw [ha2, e2]; rfl)
  have hu : unionOf p q = if checkProg a ≠ 0 then (([], []), checkProg a) else ((p.preds.xs, p.rules.xs ++ q.rules.xs), 0) := by
    unfold unionOf
    rw [if_neg (by rw [hcp]; decide), if_neg (by rw [hcq]; decide), if_neg (fun h => h h8), hcg]
  refine WP.seq ?_
  refine WP.seq ?_
  refine WP.region ?_
  refine Ops.y (v := .agg #[_, _]) (Y.loadv ty_25 rfl (I.rdbox 0 rfl 0 2) rfl rfl) ?_
  refine Ops.go (O.callv I Tryz.call56 (ha ▸ PCheck_ok _ I.base_ok a hin hanm) rfl ?_)
  intro w I
  refine Ops.y (v := .int .i64 _) (Y.assign rfl) ?_
  refine Ops.nil ?_
  refine WP.seq ?_
  refine WP.region ?_
  refine Ops.y (v := .int .i64 _) (Y.move rfl) ?_
  refine Ops.y (v := .bool (decide _)) (Y.nei rfl rfl) ?_
  refine Ops.nil ?_
  refine WP.cond_dec rfl (fun h12 => ?_) (fun h12 => ?_)
  · refine WP.seq ?_
    refine WP.region ?_
    refine Ops.y (v := .agg #[.slice _ _ _, .slice _ _ _]) (Y.build pl_25 Tryz.zeroValue25 rfl rfl) ?_
    refine Ops.y (v := .int .i64 _) (Y.move rfl) ?_
    refine Ops.go (O.store (v := .agg #[_, _]) I ty_25 1 rfl rfl rfl rfl rfl rfl (Nat.le_of_ble_eq_true rfl) rfl ?_)
    intro w I
    refine Ops.y (v := .int .i64 _) (Y.assign rfl) ?_
    refine Ops.nil ?_
    refine WP.ret ?_
    repeat (first | refine thenE_ret ?_ | refine blockE_ret ?_)
    exact retQ.mk (vs := [.agg #[_, _], .int .i64 _]) rfl ⟨⟨_, _, _, _, _, rfl, ty_25, I.rdbox 1 rfl 0 2, rfl, rfl⟩, rfl, trivial⟩ I.ext_of (by rw [hu, if_pos (ha ▸ h12)]; exact ⟨⟨⟨none, 0, []⟩, ⟨none, 0, []⟩⟩, by rw [ha]; rfl, rfl, rfl, .inl rfl, .inl rfl⟩)
  · refine WP.skip ?_
    refine WP.seq ?_
    refine WP.region ?_
    refine Ops.y (v := .agg #[_, _]) (Y.loadv ty_25 rfl (I.rdbox 0 rfl 0 2) rfl rfl) ?_
    refine Ops.go (O.store (v := .agg #[_, _]) I ty_25 1 rfl rfl rfl rfl rfl rfl (Nat.le_of_ble_eq_true rfl) rfl ?_)
    intro w I
    refine Ops.y (v := .int .i64 _) (Y.assign rfl) ?_
    refine Ops.nil ?_
    refine WP.ret ?_
    repeat (first | refine thenE_ret ?_ | refine blockE_ret ?_)
    exact retQ.mk (vs := [.agg #[_, _], .int .i64 _]) rfl ⟨⟨_, _, _, _, _, rfl, ty_25, I.rdbox 1 rfl 0 2, rfl, rfl⟩, rfl, trivial⟩ I.ext_of (by rw [hu, if_neg (ha ▸ h12)]; exact ⟨⟨s1, s2⟩, rfl, e1, e2, o1, o2⟩)
theorem SumO.err {h0 h : Heap} {e : Int} : SumO h0 (([], []), e) (.tuple #[.agg #[.slice none 0 0, .slice none 0 0], .int .i64 e]) h := ⟨⟨⟨none, 0, []⟩, ⟨none, 0, []⟩⟩, rfl, rfl, rfl, .inl rfl, .inl rfl⟩
theorem erase_len {rs : List Rul} {i : Nat} (h : i < rs.length) : rs.length - 1 = (rs.eraseIdx i).length := by rw [List.length_eraseIdx, if_pos h]
set_option maxHeartbeats 8000000 in
theorem Without_own (B : Base) (hB : B.ok) (p : Prg) (hp : p.In B.h) (hnm : p.Nm) (n : Int) : Fn Tryz.prog 39 [p.val, .int .i64 n] B (SumO B.h (withoutOf p n)) := by
  refine Fn.of Tryz.func39 rfl Tryz.ntmps39 (by kernel_rfl) (by simp) ?_
  intro e
  have I := Inv.start hB
  refine WP.seq ?_
  refine WP.region ?_
  refine Ops.go (O.box (v := .agg #[_, _]) I rfl rfl ?_)
  intro b2 w I
  refine Ops.go (O.alloc I Tryz.zeroValue25 rfl ?_)
  intro b4 w I
  refine Ops.y (v := .int .i64 _) (Y.assign rfl) ?_
  refine Ops.nil ?_
  refine WP.seq ?_
  refine WP.seq ?_
  refine WP.region ?_
  refine Ops.y (v := .agg #[_, _]) (Y.loadv ty_25 rfl (I.rdbox 1 rfl 0 2) rfl rfl) ?_
  refine Ops.go (O.callv I Tryz.call56 (PCheck_ok _ I.base_ok p hp hnm) rfl ?_)
  intro w I
  refine Ops.y (v := .int .i64 _) (Y.assign rfl) ?_
  refine Ops.nil ?_
  refine WP.seq ?_
  refine WP.region ?_
  refine Ops.y (v := .int .i64 _) (Y.move rfl) ?_
  refine Ops.y (v := .bool (decide _)) (Y.nei rfl rfl) ?_
  refine Ops.nil ?_
  refine WP.cond_dec rfl (fun h2 => ?_) (fun h2 => ?_)
  · refine WP.seq ?_
    refine WP.region ?_
    refine Ops.y (v := .agg #[.slice _ _ _, .slice _ _ _]) (Y.build pl_25 Tryz.zeroValue25 rfl rfl) ?_
    refine Ops.y (v := .int .i64 _) (Y.move rfl) ?_
    refine Ops.go (O.store (v := .agg #[_, _]) I ty_25 0 rfl rfl rfl rfl rfl rfl (Nat.le_of_ble_eq_true rfl) rfl ?_)
    intro w I
    refine Ops.y (v := .int .i64 _) (Y.assign rfl) ?_
    refine Ops.nil ?_
    refine WP.ret ?_
    repeat (first | refine thenE_ret ?_ | refine blockE_ret ?_)
    exact retQ.mk (vs := [.agg #[_, _], .int .i64 _]) rfl ⟨⟨_, _, _, _, _, rfl, ty_25, I.rdbox 0 rfl 0 2, rfl, rfl⟩, rfl, trivial⟩ I.ext_of (by unfold withoutOf; rw [if_pos h2]; exact SumO.err)
  have hpr := Decidable.not_not.1 h2
  obtain ⟨n5, n8, _⟩ := checkProg_ok hpr
  refine WP.skip ?_
  refine WP.seq ?_
  refine WP.seq ?_
  by_cases o0 : n < 0
  · refine WP.region ?_
    refine Ops.y (v := .int .i64 _) (Y.move rfl) ?_
    refine Ops.y (v := .bool true) (Y.dec_t (Y.lti rfl rfl) (o0)) ?_
    refine Ops.y (v := .bool _) (Y.move rfl) ?_
    refine Ops.gf rfl ?_
    refine Ops.gf rfl ?_
    refine Ops.gf rfl ?_
    refine Ops.gf rfl ?_
    refine Ops.gf rfl ?_
    refine Ops.y (v := .bool _) (Y.pick_t rfl rfl) ?_
    refine Ops.nil ?_
    refine WP.cond_t rfl ?_
    refine WP.seq ?_
    refine WP.region ?_
    refine Ops.y (v := .agg #[.slice _ _ _, .slice _ _ _]) (Y.build pl_25 Tryz.zeroValue25 rfl rfl) ?_
    refine Ops.go (O.store (v := .agg #[_, _]) I ty_25 0 rfl rfl rfl rfl rfl rfl (Nat.le_of_ble_eq_true rfl) rfl ?_)
    intro w I
    refine Ops.y (v := .int .i64 _) (Y.assign rfl) ?_
    refine Ops.nil ?_
    refine WP.ret ?_
    repeat (first | refine thenE_ret ?_ | refine blockE_ret ?_)
    exact retQ.mk (vs := [.agg #[_, _], .int .i64 _]) rfl ⟨⟨_, _, _, _, _, rfl, ty_25, I.rdbox 0 rfl 0 2, rfl, rfl⟩, rfl, trivial⟩ I.ext_of (by unfold withoutOf; rw [if_neg (by rw [hpr]; decide), if_pos (by omega)]; exact SumO.err)
  by_cases o1 : (p.rules.xs.length : Int) ≤ n
  · refine WP.region ?_
    refine Ops.y (v := .int .i64 _) (Y.move rfl) ?_
    refine Ops.y (v := .bool false) (Y.dec_f (Y.lti rfl rfl) (o0)) ?_
    refine Ops.y (v := .bool _) (Y.move rfl) ?_
    refine Ops.ygt rfl (v := .int .i64 _) (Y.move rfl) ?_
    refine Ops.ygt rfl (v := .pointer (some ⟨_, _, none⟩)) (Y.fa fa_25_1 rfl) ?_
    refine Ops.ygt rfl (v := .slice _ _ _) (Y.loadv ty_23 rfl (I.rdbox 1 rfl 1 1) rfl rfl) ?_
    refine Ops.ygt rfl (v := .int .i64 _) (Y.lens Tryz.underlying23 rfl) ?_
    refine Ops.ygt rfl (v := .bool true) (Y.dec_t (Y.gei rfl rfl) (o1)) ?_
    refine Ops.y (v := .bool _) (Y.pick_f rfl rfl) ?_
    refine Ops.nil ?_
    refine WP.cond_t rfl ?_
    refine WP.seq ?_
    refine WP.region ?_
    refine Ops.y (v := .agg #[.slice _ _ _, .slice _ _ _]) (Y.build pl_25 Tryz.zeroValue25 rfl rfl) ?_
    refine Ops.go (O.store (v := .agg #[_, _]) I ty_25 0 rfl rfl rfl rfl rfl rfl (Nat.le_of_ble_eq_true rfl) rfl ?_)
    intro w I
    refine Ops.y (v := .int .i64 _) (Y.assign rfl) ?_
    refine Ops.nil ?_
    refine WP.ret ?_
    repeat (first | refine thenE_ret ?_ | refine blockE_ret ?_)
    exact retQ.mk (vs := [.agg #[_, _], .int .i64 _]) rfl ⟨⟨_, _, _, _, _, rfl, ty_25, I.rdbox 0 rfl 0 2, rfl, rfl⟩, rfl, trivial⟩ I.ext_of (by unfold withoutOf; rw [if_neg (by rw [hpr]; decide), if_pos (by omega)]; exact SumO.err)
  refine WP.region ?_
  refine Ops.y (v := .int .i64 _) (Y.move rfl) ?_
  refine Ops.y (v := .bool false) (Y.dec_f (Y.lti rfl rfl) (o0)) ?_
  refine Ops.y (v := .bool _) (Y.move rfl) ?_
  refine Ops.ygt rfl (v := .int .i64 _) (Y.move rfl) ?_
  refine Ops.ygt rfl (v := .pointer (some ⟨_, _, none⟩)) (Y.fa fa_25_1 rfl) ?_
  refine Ops.ygt rfl (v := .slice _ _ _) (Y.loadv ty_23 rfl (I.rdbox 1 rfl 1 1) rfl rfl) ?_
  refine Ops.ygt rfl (v := .int .i64 _) (Y.lens Tryz.underlying23 rfl) ?_
  refine Ops.ygt rfl (v := .bool false) (Y.dec_f (Y.gei rfl rfl) (o1)) ?_
  refine Ops.y (v := .bool _) (Y.pick_f rfl rfl) ?_
  refine Ops.nil ?_
  refine WP.cond_f rfl ?_
  obtain ⟨i, rfl⟩ : ∃ i : Nat, n = i := ⟨n.toNat, by omega⟩
  have hi : i < p.rules.xs.length := by omega
  refine WP.skip ?_
  refine WP.seq ?_
  refine WP.regionG mixed RUn.pre ⟨B.h, none, none, none⟩ (J := JUn B [box b4 [.slice none 0 0, .slice none 0 0] 25, box b2 p.enc 25] 68 5 p.rules.xs.length (p.rules.xs.length - 1) (p.rules.xs.flatMap Rul.enc) ((p.rules.xs.eraseIdx i).flatMap Rul.enc) 25 [.slice none 0 0, .slice none 0 0] 5 9 97) ⟨rfl, rfl, rfl, fun h => (by cases h), I.drew⟩ 11 (by kernel_rfl) ?_
  refine OpsG.y_ (v := .pointer (some ⟨_, _, none⟩)) (fun _ => runsG_none _) RUn.pre (JUn.set (by decide)) (fun _ s w us hl hj => have I := hj.base; have hl := hl.h; Y.fa0 fa_25_0 rfl) ?_
  refine OpsG.y_ (v := .slice _ _ _) (fun _ => runsG_none _) RUn.pre (JUn.set (by decide)) (fun _ s w us hl hj => have I := hj.base; have hl := hl.h; Y.loadv ty_22 rfl (I.rdbox 1 rfl 0 1) rfl rfl) ?_
  refine OpsG.x_ (Φ := KnUn (PdS B.h p.preds.xs)) (KnUn.mono PdS.mono) (fun _ => runsG_none _) (fun D' z w hDk hl hj => ?_) ?_
  · refine AllG.all fun us => ?_
    refine hj.know (by decide) fun N I => ?_
    have hl := hl.h
    refine O.call I Tryz.call97 (ClonePrd_ok _ I.base_ok p.preds (hp.preds.le hl) (by omega)) rfl ?_
    rintro _ h1 w I hl' ⟨s, rfl, es, os, _⟩
    exact ⟨_, hl', I, ⟨s, rfl, es, os.older hl⟩⟩
  refine OpsG.y_ (v := .pointer (some ⟨_, _, none⟩)) (fun _ => runsG_none _) RUn.pre (JUn.set (by decide)) (fun _ s w us hl hj => have I := hj.base; have hl := hl.h; Y.fa fa_25_1 rfl) ?_
  refine OpsG.y_ (v := .slice _ _ _) (fun _ => runsG_none _) RUn.pre (JUn.set (by decide)) (fun _ s w us hl hj => have I := hj.base; have hl := hl.h; Y.loadv ty_23 rfl (I.rdbox 1 rfl 1 1) rfl rfl) ?_
  refine OpsG.x_ (Φ := AtU2) (AtU2.mono) (fun _ => runsG_none _) (fun D' z w hDk hl hj => ?_) ?_
  · intro u25 q25
    refine hj.first hDk (by decide) (by decide) fun N I => ?_
    refine O.call I Tryz.call99 (CloneRul_ok _ I.base_ok p.rules (hp.rules.is.le hl.h) (by omega)) rfl ?_
    rintro _ h7 w I hl' ⟨gs, rfl, eg, og, _⟩
    obtain ⟨h8, I, mono8, _⟩ := I.unsettle og hl.h
    exact ⟨h8, mono8 _ hl' (Heap.le.refl _), by rw [eg] at I; exact I⟩
  refine OpsG.y_ (v := .int .i64 _) (fun _ => runsG_none _) RUn.pre (JUn.set (by decide)) (fun _ s w us hl hj => have I := hj.base; have hl := hl.h; Y.move rfl) ?_
  refine OpsG.y_ (v := .int .i64 _) (fun _ => runsG_none _) RUn.pre (JUn.set (by decide)) (fun _ s w us hl hj => have I := hj.base; have hl := hl.h; Y.move rfl) ?_
  refine OpsG.y_ (v := .int .i64 _) (fun _ => runsG_none _) RUn.pre (JUn.set (by decide)) (fun _ s w us hl hj => have I := hj.base; have hl := hl.h; Y.addi rfl rfl ⟨by omega, by omega⟩) ?_
  refine OpsG.x_ (Φ := AtU4) (AtU4.mono) (fun _ => runsG_none _) (fun D' z w hDk hl hj => ?_) ?_
  · intro u25 q25 u28 q28
    refine hj.second hDk (by decide) (by decide) (q28 rfl) fun N I => ?_
    refine O.calls Tryz.call98 (DelRul_v I rfl hi (by omega)) rfl ?_
    rintro ed w ⟨v, h8, rfl, hl8, I⟩
    exact ⟨_, rfl, h8, hl8, I⟩
  refine OpsG.x_ (Φ := PrU (PdS B.h p.preds.xs)) (PrU.mono PdS.mono) (fun _ => runsG_none _) (fun D' z w hDk hl hj => ?_) ?_
  · intro u25 q25 u28 q28 u32 q32
    obtain ⟨s1, rfl, e1, o1⟩ := q25 rfl
    rcases ((hj.turned (q32 rfl)).at 0 rfl).2 with ⟨rfl, _⟩ | ⟨gg, cap, cur, rfl, _⟩
    all_goals exact hj.look (by decide) (Y.build pl_25 Tryz.zeroValue25 rfl rfl) ⟨_, _, rfl, ⟨s1, rfl, e1, o1⟩, q32 rfl⟩
  refine OpsG.nil ?_
  intro D z w hD hl hj u25 q25 u28 q28 u32 q32 u33 q33
  obtain ⟨_, v4, rfl, ⟨s1, rfl, e1, o1⟩, h4⟩ := q33 rfl
  have I := hj.turned h4
  obtain ⟨h8, s2, le8, rfl, e2, o2, I⟩ := I.settleO (erase_len hi)
  refine Ops.go (O.store (v := .agg #[_, _]) I ty_25 0 rfl rfl rfl rfl rfl rfl (Nat.le_of_ble_eq_true rfl) rfl ?_)
  intro w I
  refine Ops.y (v := .int .i64 _) (Y.assign rfl) ?_
  refine Ops.nil ?_
  refine WP.ret ?_
  repeat (first | refine thenE_ret ?_ | refine blockE_ret ?_)
  exact retQ.mk (vs := [.agg #[_, _], .int .i64 _]) rfl ⟨⟨_, _, _, _, _, rfl, ty_25, I.rdbox 0 rfl 0 2, rfl, rfl⟩, rfl, trivial⟩ I.ext_of (by unfold withoutOf; rw [if_neg (by rw [hpr]; decide), if_neg (by omega)]; exact ⟨⟨s1, s2⟩, rfl, e1, e2, o1.le le8, o2.older hl.h⟩)
/-- An empty literal. -/
def EmS {α : Type} (T k : Nat) (enc : α → List Value) (h0 : Heap) : Sp := fun v h => ∃ s : Sl α, v = s.val ∧ OwnH T k s enc h0 h ∧ s.xs = [] ∧ s.cap = 0 ∧ ∃ b, s.at_ = some ⟨b, 0, none⟩
theorem EmS.mono {α : Type} {T k : Nat} {enc : α → List Value} {h0 : Heap} : MonoS (EmS T k enc h0) := fun _ _ _ hl ⟨s, a, b, c⟩ => ⟨s, a, b.le hl, c⟩
theorem nil_in {l : Sl Prd} {h : Heap} (hl : Prds l h) : Prg.In ⟨l, ⟨none, 0, []⟩⟩ h := ⟨hl, ⟨nilIs, fun x hx => by simp at hx⟩⟩
/-- What comes, known for good. -/
def SumR (r : (List Prd × List Rul) × Int) (v : Value) (h : Heap) : Prop := ∃ a : Prg, v = .tuple #[a.val, .int .i64 r.2] ∧ a.preds.xs = r.1.1 ∧ a.rules.xs = r.1.2 ∧ a.In h ∧ a.Nm
theorem union_short {p q : Prg} : (unionOf p q).1.1.length ≤ 5 ∧ (unionOf p q).1.2.length ≤ 16 ∧ (∀ x ∈ (unionOf p q).1.1, x ∈ p.preds.xs) ∧ ∀ r ∈ (unionOf p q).1.2, r ∈ p.rules.xs ++ q.rules.xs := by
  by_cases h : (unionOf p q).2 = 0
  · obtain ⟨h1, h2, _, _, e⟩ := unionOf_ok h
    obtain ⟨n5, n8, _⟩ := checkProg_ok h1
    obtain ⟨m5, m8, _⟩ := checkProg_ok h2
    rw [e]
    exact ⟨n5, by show (p.rules.xs ++ q.rules.xs).length ≤ 16; rw [List.length_append]; omega, fun x hx => hx, fun r hr => hr⟩
  · have e : (unionOf p q).1 = ([], []) := by
      unfold unionOf at h ⊢
      split
      · rfl
      rename_i h1; rw [if_neg h1] at h
      split
      · rfl
      rename_i h2; rw [if_neg h2] at h
      split
      · rfl
      rename_i h3; rw [if_neg h3] at h
      split
      · rfl
      rename_i h4; rw [if_neg h4] at h
      exact absurd rfl h
    rw [e]
    simp
theorem without_short {p : Prg} {n : Int} : (withoutOf p n).1.1.length ≤ 5 ∧ (withoutOf p n).1.2.length ≤ 16 ∧ (∀ x ∈ (withoutOf p n).1.1, x ∈ p.preds.xs) ∧ ∀ r ∈ (withoutOf p n).1.2, r ∈ p.rules.xs := by
  by_cases h : (withoutOf p n).2 = 0
  · obtain ⟨h1, h2, e⟩ := withoutOf_ok h
    obtain ⟨n5, n8, _⟩ := checkProg_ok h1
    rw [e]
    exact ⟨n5, by have := (erase_sub (rs := p.rules.xs) (n := n.toNat)).1; show (p.rules.xs.eraseIdx n.toNat).length ≤ 16; omega, fun x hx => hx, erase_sub.2⟩
  · have e : (withoutOf p n).1 = ([], []) := by
      unfold withoutOf at h ⊢
      split
      · rfl
      rename_i h1; rw [if_neg h1] at h
      split
      · rfl
      rename_i h2; rw [if_neg h2] at h
      exact absurd rfl h
    rw [e]
    simp
theorem SumO.sum {r : (List Prd × List Rul) × Int} {h0 h : Heap} {v : Value} (x : SumO h0 r v h) (hl : h0.le h) (h5 : r.1.1.length ≤ 5) (h16 : r.1.2.length ≤ 16) (hn : ∀ x ∈ r.1.1, x.name.size ≤ 140737488355328) (hr : ∀ y ∈ r.1.2, y.In h0) : SumR r v h := by
  obtain ⟨a, rfl, e1, e2, o1, o2⟩ := x
  exact ⟨a, rfl, e1, e2, own_prg hl o1 o2 (by rw [e1]; exact h5) (by rw [e2]; exact h16) (by rw [e2]; exact hr), by unfold Prg.Nm; rw [e1]; exact hn⟩
section
variable (B : Base) (hB : B.ok) (p q : Prg) (hp : p.In B.h) (hq : q.In B.h) (hnm : p.Nm) (hnq : q.Nm)
include hB hp hq hnm hnq
theorem Union_ok : Fn Tryz.prog 59 [p.val, q.val] B (SumR (unionOf p q)) :=
  (Union_own B hB p q hp hq hnm hnq).mono fun _ _ hl x => x.sum hl union_short.1 union_short.2.1 (fun y hy => hnm y (union_short.2.2.1 y hy)) fun y hy => cat_each hp hq y (union_short.2.2.2 y hy)
end
section
variable (B : Base) (hB : B.ok) (p : Prg) (hp : p.In B.h) (hnm : p.Nm) (n : Int)
include hB hp hnm
theorem Without_ok : Fn Tryz.prog 39 [p.val, .int .i64 n] B (SumR (withoutOf p n)) :=
  (Without_own B hB p hp hnm n).mono fun _ _ hl x => x.sum hl without_short.1 without_short.2.1 (fun y hy => hnm y (without_short.2.2.1 y hy)) fun y hy => hp.rules.each y (without_short.2.2.2 y hy)
end
theorem SumR.mono {r : (List Prd × List Rul) × Int} : MonoS (SumR r) := fun _ _ _ hl ⟨a, b, c, d, e, f⟩ => ⟨a, b, c, d, e.le hl, f⟩
end Go.TF
end
section
/- A region in which a variable is made and written with what the region itself yields. -/
namespace Go.TF
open Go Go.RowKit

structure StS where
  h : Heap
  o7 : Option Nat
  c : Option (List Value)
structure JSt (B : Base) (M : List SA) (Tb : TypeId) (z : List Value) (Ψ : List Value → Heap → Prop) (i7 i9 : Nat) (D : Nat → Bool) (s : StS) (w : World) : Prop where
  h7 : s.o7.isSome = D i7
  hc : s.c.isSome = D i9
  ord : D i9 = true → D i7 = true
  ok : ∀ cs, s.c = some cs → Ψ cs s.h
  inv : Inv B s.h (pcB s.o7 (s.c.getD z) Tb ++ M) w
structure RSt (s s' : StS) : Prop where
  h : s.h.le s'.h
  h7 : ∀ v, s.o7 = some v → s'.o7 = some v
theorem RSt.pre : Pre RSt := ⟨fun _ => ⟨Heap.le.refl _, fun _ h => h⟩, fun _ _ _ h k => ⟨h.h.trans k.h, fun b e => k.h7 b (h.h7 b e)⟩⟩
def AtS7 (u : Value) (s : StS) : Prop := ∃ b, u = .pointer (some ⟨b, 0, none⟩) ∧ s.o7 = some b
def KnSt (Φ : Sp) (u : Value) (s : StS) : Prop := Φ u s.h
theorem AtS7.mono : MonoG RSt AtS7 := fun _ _ _ r ⟨b, h1, h2⟩ => ⟨b, h1, r.h7 b h2⟩
theorem KnSt.mono {Φ : Sp} (hm : MonoS Φ) : MonoG RSt (KnSt Φ) := fun _ _ _ r h => hm _ _ _ r.h h
def MonoC (Ψ : List Value → Heap → Prop) : Prop := ∀ cs h h', h.le h' → Ψ cs h → Ψ cs h'
section
variable {P : Program} {o : Oper} {e : Env} {B : Base} {M : List SA} {Tb : TypeId} {z : List Value} {Ψ : List Value → Heap → Prop} {i7 i9 i : Nat} {D : Nat → Bool} {s : StS} {w : World}
theorem JSt.base (j : JSt B M Tb z Ψ i7 i9 D s w) : Inv B s.h M w := j.inv.weak (List.sublist_append_right _ _)
theorem JSt.set (h : i7 ≠ i ∧ i9 ≠ i) : ∀ D s w, JSt B M Tb z Ψ i7 i9 D s w → JSt B M Tb z Ψ i7 i9 (setD D i) s w := fun D s w j => by
  have e : ∀ x, x ≠ i → setD D i x = D x := fun x hx => by simp [setD, hx]
  exact ⟨by rw [e _ h.1]; exact j.h7, by rw [e _ h.2]; exact j.hc, by rw [e _ h.1, e _ h.2]; exact j.ord, j.ok, j.inv⟩
theorem JSt.know' {Φ : Sp} (hm : MonoC Ψ) (j : JSt B M Tb z Ψ i7 i9 D s w) (h : i7 ≠ i ∧ i9 ≠ i) (hop : ∀ N, Inv B s.h N w → Op1 P o e w fun u w' => ∃ h', s.h.le h' ∧ Inv B h' N w' ∧ Φ u h') :
    Op1 P o e w fun u w' => ∃ s', RSt s s' ∧ JSt B M Tb z Ψ i7 i9 (setD D i) s' w' ∧ KnSt Φ u s' :=
  (hop _ j.inv).mono fun u w' ⟨h', hl, I, hu⟩ => by
    have q := JSt.set (B := B) (M := M) (Tb := Tb) (z := z) (Ψ := Ψ) h D s w j
    exact ⟨⟨h', s.o7, s.c⟩, ⟨hl, fun _ e => e⟩, ⟨q.h7, q.hc, q.ord, fun cs hcs => hm cs _ _ hl (j.ok cs hcs), I⟩, hu⟩
theorem JSt.look {Φ : Sq StS} {v : Value} (j : JSt B M Tb z Ψ i7 i9 D s w) (h : i7 ≠ i ∧ i9 ≠ i) (hy : Y P o e w v) (hv : Φ v s) :
    Op1 P o e w fun u w' => ∃ s', RSt s s' ∧ JSt B M Tb z Ψ i7 i9 (setD D i) s' w' ∧ Φ u s' := by
  unfold Op1; rw [hy]; exact ⟨s, RSt.pre.refl s, JSt.set h _ _ _ j, hv⟩
theorem JSt.make {d : Option Nat} {t : TypeId} {pos : String} {af : Array Edge} {zv : Value} (j : JSt B M Tb z Ψ i7 i9 D s w) (hz : Zero P Tb zv) (hc : zv.cells = z.toArray) (hD : D i7 = false) (h : i9 ≠ i7) :
    Op1 P ⟨d, .alloc Tb, t, pos, af, none⟩ e w fun u w' => ∃ s', RSt s s' ∧ JSt B M Tb z Ψ i7 i9 (setD D i7) s' w' ∧ AtS7 u s' := by
  have e : ∀ x, x ≠ i7 → setD D i7 x = D x := fun x hx => by simp [setD, hx]
  have h7 : s.o7 = none := by have := j.h7; rw [hD] at this; cases h : s.o7 <;> simp_all
  have hD9 : D i9 = false := by
    cases h : D i9
    · rfl
    · rw [j.ord h] at hD; cases hD
  have hc9 : s.c = none := by have := j.hc; rw [hD9] at this; cases h : s.c <;> simp_all
  have I := j.inv
  rw [h7] at I
  refine O.alloc I hz hc fun b w' I' => ⟨⟨s.h, some b, none⟩, ⟨Heap.le.refl _, fun v hv => (by rw [h7] at hv; cases hv)⟩, ⟨?_, ?_, ?_, fun cs hcs => (by cases hcs), I'⟩, b, rfl, rfl⟩
  · simp [setD]
  · rw [e _ h, hD9]; rfl
  · rw [e _ h, hD9]; exact fun h => by cases h
theorem JSt.put {t : TypeId} {pos : String} {af : Array Edge} {a x : Operand} {n : Nat} {ag : Bool} {v : Value} {c : List Value} (j : JSt B M Tb z Ψ i7 i9 D s w) (hT : Ty P Tb n ag) (hz : z.length = n) (hcl : c.length = n) (hD : D i9 = false) (h : i7 ≠ i9) {u : Value} (hu : AtS7 u s) (ha : ev e a = u) (hx : ev e x = v) (hv : v.cells = c.toArray) (h1 : oneCells c = true) (hΨ : Ψ c s.h) :
    Op1 P ⟨none, .store Tb a x, t, pos, af, none⟩ e w fun u w' => ∃ s', RSt s s' ∧ JSt B M Tb z Ψ i7 i9 (setD D i9) s' w' ∧ u = undef := by
  have e' : ∀ x, x ≠ i9 → setD D i9 x = D x := fun x hx => by simp [setD, hx]
  obtain ⟨b, rfl, hb⟩ := hu
  have hc9 : s.c = none := by have := j.hc; rw [hD] at this; cases h : s.c <;> simp_all
  have hD7 : D i7 = true := by rw [← j.h7, hb]; rfl
  have I := j.inv
  rw [hb, hc9] at I
  refine O.store (cs' := c) I hT 0 rfl ha hx hv hcl h1 (by show 0 + c.length ≤ z.length; omega) ?_ fun w' I' => ⟨⟨s.h, some b, some c⟩, ⟨Heap.le.refl _, fun v hv => (by rw [hb] at hv; exact hv)⟩, ⟨?_, ?_, fun _ => ?_, fun cs hcs => ?_, I'⟩, rfl⟩
  · show putAt z 0 c = c
    rw [putAt_eq _ _ _ (Nat.zero_le _)]
    simp [hcl, hz]
  · rw [e' _ h, hD7]; rfl
  · simp [setD]
  · rw [e' _ h]; exact hD7
  · injection hcs with hcs; subst hcs; exact hΨ
theorem JSt.fin (j : JSt B M Tb z Ψ i7 i9 D s w) (hD : D i9 = true) {b : Nat} (h7 : s.o7 = some b) : ∃ cs, Ψ cs s.h ∧ Inv B s.h (box b cs Tb :: M) w := by
  have hc := j.hc
  rw [hD] at hc
  obtain ⟨cs, hcs⟩ := Option.isSome_iff_exists.1 hc
  have I := j.inv
  rw [h7, hcs] at I
  exact ⟨cs, j.ok cs hcs, I⟩
end
end Go.TF
end
section
/- Needs: who is needed, by a queue. -/
namespace Go.TF
open Go Go.RowKit Go.Proofs
set_option maxRecDepth 20000

structure NdS where
  g : Nat
  o : Nat
  c : Nat
  q : List Int
  N : List Bool
  ms : List Nat
@[reducible] def NdU (b8 bo b2 : Nat) (p : Prg) (g o c : Nat) (q : List Int) (N : List Bool) : List SA := [box b8 [.slice (some ⟨g, o, none⟩) (q.map vI).length c] 45, ownQ 3 g o c (q.map vI), box bo (N.map vB) 4, box b2 p.enc 25]
structure NdJ (B : Base) (b8 bo b2 : Nat) (p : Prg) (pr : Int) (s : NdS) (w : World) : Prop where
  inv : ∃ h1, B.h.le h1 ∧ Inv B h1 (NdU b8 bo b2 p s.g s.o s.c s.q s.N ++ s.ms.map markSA) w
  len : s.N.length = p.preds.xs.length
  snd : ∀ i : Int, 0 ≤ i → i < p.preds.xs.length → bv s.N i = true → Reach (usesL p.rules.xs) pr i
  qin : ∀ x ∈ s.q, (0 ≤ x ∧ x < p.preds.xs.length) ∧ Reach (usesL p.rules.xs) pr x
  clo : ∀ c ∈ usesL p.rules.xs, bv s.N c.1 = true → bv s.N c.2.atom.pred = true ∨ c.2.atom.pred ∈ s.q
  has : bv s.N pr = true ∨ pr ∈ s.q
  small : s.q.length ≤ 1 + 24 * trues s.N
end Go.TF
end
section
/- The roads, their arrays the caller's own. -/
namespace Go.TF
open Go Go.RowKit Go.Proofs
set_option maxRecDepth 20000

def prC : List Prd := [⟨bEdge, 2, 0⟩, ⟨bFar, 2, 2⟩, ⟨bLone, 1, 0⟩]
structure RoadsM (v : Value) (h : Heap) (M : List SA) (bp br : Nat) (r0 r1 r2 r3 r4 r5 r6 : Rul) : Prop where
  val : v = .agg #[.slice (some ⟨bp, 0, none⟩) 3 3, .slice (some ⟨br, 0, none⟩) 7 7]
  own : M = [box br ([r0, r1, r2, r3, r4, r5, r6].flatMap Rul.enc) 68, box bp (prC.flatMap Prd.enc) 62]
  is : ∀ x ∈ [r0, r1, r2, r3, r4, r5, r6], x.In h
  cap : ∀ x ∈ [r0, r1, r2, r3, r4, r5, r6], x.body.xs.length ≤ x.body.cap
  er : [r0, r1, r2, r3, r4, r5, r6].map Rul.er = roadsC.rules.xs
end Go.TF
end
section
/- What the laws of programs begin with. -/
namespace Go.TF
open Go Go.RowKit Go.Proofs
set_option maxRecDepth 20000

def LtlS (x : Ltl) : Sp := fun u h => ∃ y : Ltl, u = y.val ∧ y.er = x ∧ y.In h
theorem LtlS.mono {x : Ltl} : MonoS (LtlS x) := fun _ _ _ hl ⟨s, a, b, c⟩ => ⟨s, a, b, c.le hl⟩
def LtlsS (xs : List Ltl) : Sp := fun u h => ∃ s : Sl Ltl, u = s.val ∧ s.xs.map Ltl.er = xs ∧ Ltls s h ∧ s.at_ = some ⟨s.blk, s.off, none⟩
theorem LtlsS.mono {xs : List Ltl} : MonoS (LtlsS xs) := fun _ _ _ hl ⟨s, a, b, c, d⟩ => ⟨s, a, b, c.le hl, d⟩
def LtlsF (xs : List Ltl) : Sp := fun u h => ∃ s : Sl Ltl, u = s.val ∧ s.xs.map Ltl.er = xs ∧ Ltls s h ∧ s.at_ = some ⟨s.blk, s.off, none⟩ ∧ s.cap = s.xs.length
theorem LtlsF.mono {xs : List Ltl} : MonoS (LtlsF xs) := fun _ _ _ hl ⟨s, a, b, c, d⟩ => ⟨s, a, b, c.le hl, d⟩
theorem RoadsAt.nm {p : Prg} {h : Heap} (x : RoadsAt p h) : p.Nm := by
  unfold Prg.Nm
  rw [x.preds]
  decide
theorem RoadsAt.check {p : Prg} {h : Heap} (x : RoadsAt p h) : checkProg p = 0 := by rw [← checkProg_er, x.er, roads_check]
theorem RoadsAt.uses {p : Prg} {h : Heap} (x : RoadsAt p h) : (usesL p.rules.xs).map cEr = usesL roadsC.rules.xs := by
  rw [← usesL_er]
  have := congrArg (fun q : Prg => q.rules.xs) x.er
  exact congrArg usesL this
theorem RoadsAt.len {p : Prg} {h : Heap} (x : RoadsAt p h) : p.preds.xs.length = 3 := by rw [x.preds]; rfl
end Go.TF
end
section
/- What must be of sums in any case; the law of sums. -/
namespace Go.TF
open Go Go.RowKit Go.Proofs
set_option maxRecDepth 20000

theorem RoadsAt.rls {p : Prg} {h : Heap} (x : RoadsAt p h) : p.rules.xs.map Rul.er = roadsC.rules.xs := congrArg (fun q : Prg => q.rules.xs) x.er
theorem RoadsAt.prs {p : Prg} {h : Heap} (x : RoadsAt p h) : p.preds.xs = roadsC.preds.xs := by have := congrArg (fun q : Prg => q.preds.xs) x.er; exact this
theorem RoadsAt.rlen {p : Prg} {h : Heap} (x : RoadsAt p h) : p.rules.xs.length = 7 := by rw [← List.length_map (f := Rul.er), x.rls]; rfl
theorem er_mk {a : Prg} {l : List Prd} {rs : List Rul} (h1 : a.preds.xs = l) (h2 : a.rules.xs.map Rul.er = rs) : a.er = mkP l rs := by
  subst h1; subst h2; rfl
theorem rd_take : checkProg (mkP roadsC.preds.xs (roadsC.rules.xs.take 6)) = 0 := checkProg_sub (p := roadsC) rfl (by decide) (fun _ h => List.mem_of_mem_take h) roads_check
theorem rd_drop : checkProg (mkP roadsC.preds.xs (roadsC.rules.xs.drop 6)) = 0 := checkProg_sub (p := roadsC) rfl (by decide) (fun _ h => List.mem_of_mem_drop h) roads_check
theorem chk_empty : checkProg ⟨⟨none, 0, []⟩, ⟨none, 0, []⟩⟩ = 0 := by
  have hs : ∃ M, Sol (usesL []) 0 M := ⟨[], rfl, fun i => by simp [lv], fun c hc => by cases hc⟩
  unfold checkProg
  rw [if_neg (by simp), if_neg (by simp), if_neg (by decide), if_neg (by simp), if_neg (by simp), if_neg (by simp [rulesErr])]
  exact if_pos hs
def RdS : Sp := fun v h => ∃ p : Prg, v = p.val ∧ RoadsAt p h ∧ p.rules.xs.length ≤ p.rules.cap
theorem RdS.mono : MonoS RdS := fun _ _ _ hl ⟨p, a, b, c⟩ => ⟨p, a, ⟨b.is.le hl, b.er, b.cap⟩, c⟩
def RpS : Sp := fun v h => ∃ s : Sl Prd, v = s.val ∧ Prds s h ∧ s.xs = roadsC.preds.xs
theorem RpS.mono : MonoS RpS := fun _ _ _ hl ⟨p, a, b, c⟩ => ⟨p, a, b.le hl, c⟩
def RrS : Sp := fun v h => ∃ s : Sl Rul, v = s.val ∧ Ruls s h ∧ s.xs.map Rul.er = roadsC.rules.xs ∧ s.xs.length ≤ s.cap
theorem RrS.mono : MonoS RrS := fun _ _ _ hl ⟨p, a, b, c⟩ => ⟨p, a, b.le hl, c⟩
def R6S : Sp := fun v h => ∃ s : Sl Rul, v = s.val ∧ Ruls s h ∧ s.xs.map Rul.er = roadsC.rules.xs.drop 6
theorem R6S.mono : MonoS R6S := fun _ _ _ hl ⟨p, a, b, c⟩ => ⟨p, a, b.le hl, c⟩
def R2S : Sp := fun v h => ∃ a : Prg, v = a.val ∧ a.In h ∧ a.preds.xs = roadsC.preds.xs ∧ a.rules.xs.map Rul.er = roadsC.rules.xs.drop 6
theorem R2S.mono : MonoS R2S := fun _ _ _ hl ⟨p, a, b, c⟩ => ⟨p, a, b.le hl, c⟩
def EqS (v0 : Value) : Sp := fun v _ => v = v0
theorem EqS.mono {v0 : Value} : MonoS (EqS v0) := fun _ _ _ _ h => h
/-- The union, as it comes and its parts. -/
def UtS : Sp := fun v h => ∃ a : Prg, v = .tuple #[a.val, .int .i64 0] ∧ a.In h ∧ a.er = roadsC
theorem UtS.mono : MonoS UtS := fun _ _ _ hl ⟨p, a, b, c⟩ => ⟨p, a, b.le hl, c⟩
def UpS : Sp := fun v h => ∃ a : Prg, v = a.val ∧ a.In h ∧ a.er = roadsC
theorem UpS.mono : MonoS UpS := fun _ _ _ hl ⟨p, a, b, c⟩ => ⟨p, a, b.le hl, c⟩
def UcS (cs : List Value) (h : Heap) : Prop := ∃ a : Prg, cs = a.enc ∧ a.In h ∧ a.er = roadsC
theorem nm_rd {a : Prg} (h : a.preds.xs = roadsC.preds.xs) : a.Nm := by unfold Prg.Nm; rw [h]; decide
theorem rls_drop {s : Sl Rul} {h : Heap} (hs : Ruls s h) (he : s.xs.map Rul.er = roadsC.rules.xs) (hc : s.xs.length ≤ s.cap) : Ruls (s.dropS 5 6) h ∧ (s.dropS 5 6).xs.map Rul.er = roadsC.rules.xs.drop 6 := by
  have hl : s.xs.length = 7 := by rw [← List.length_map (f := Rul.er), he]; rfl
  refine ⟨⟨dropS_is hs.is (by omega) hc, fun x hx => hs.each x (List.mem_of_mem_drop hx)⟩, ?_⟩
  show (s.xs.drop 6).map Rul.er = _
  rw [List.map_drop, he]
theorem union_rd {a b : Prg} (h1 : a.preds.xs = roadsC.preds.xs) (h2 : a.rules.xs.map Rul.er = roadsC.rules.xs.take 6) (h3 : b.preds.xs = roadsC.preds.xs) (h4 : b.rules.xs.map Rul.er = roadsC.rules.xs.drop 6) :
    unionOf a b = ((a.preds.xs, a.rules.xs ++ b.rules.xs), 0) := by
  have c1 : checkProg a = 0 := by rw [← checkProg_er, er_mk h1 h2]; exact rd_take
  have c2 : checkProg b = 0 := by rw [← checkProg_er, er_mk h3 h4]; exact rd_drop
  have c3 : checkProg (mkP a.preds.xs (a.rules.xs ++ b.rules.xs)) = 0 := by
    rw [← checkProg_er, er_mk (a := mkP a.preds.xs (a.rules.xs ++ b.rules.xs)) (l := roadsC.preds.xs) (rs := roadsC.rules.xs) h1 (by show (a.rules.xs ++ b.rules.xs).map Rul.er = _; rw [List.map_append, h2, h4, List.take_append_drop])]
    exact roads_check
  unfold unionOf
  rw [if_neg (by rw [c1]; decide), if_neg (by rw [c2]; decide), if_neg (fun h => h (h1.trans h3.symm)), if_neg (by rw [c3]; decide)]
theorem union_rd0 {a : Prg} (h1 : a.preds.xs = roadsC.preds.xs) (h2 : a.rules.xs.map Rul.er = roadsC.rules.xs.take 6) : unionOf a ⟨⟨none, 0, []⟩, ⟨none, 0, []⟩⟩ = (([], []), 1) := by
  have c1 : checkProg a = 0 := by rw [← checkProg_er, er_mk h1 h2]; exact rd_take
  unfold unionOf
  rw [if_neg (by rw [c1]; decide), if_neg (by rw [chk_empty]; decide), if_pos (by rw [h1]; intro h; cases h)]
theorem without_rd {p : Prg} {h : Heap} (x : RoadsAt p h) : withoutOf p 6 = ((p.preds.xs, p.rules.xs.eraseIdx 6), 0) := by
  unfold withoutOf
  rw [if_neg (by rw [x.check]; decide), if_neg (by rw [x.rlen]; decide)]; rfl
theorem without_rd7 {p : Prg} {h : Heap} (x : RoadsAt p h) : withoutOf p 7 = (([], []), 7) := by
  unfold withoutOf
  rw [if_neg (by rw [x.check]; decide), if_pos (by rw [x.rlen]; decide)]
theorem union_rd2 {p q : Prg} {h k : Heap} (x : RoadsAt p h) (y : RoadsAt q k) : unionOf p q = (([], []), 2) := by
  have c3 : checkProg (mkP p.preds.xs (p.rules.xs ++ q.rules.xs)) = 2 := by
    unfold checkProg
    rw [if_pos (.inr (by show 8 < (p.rules.xs ++ q.rules.xs).length; rw [List.length_append, x.rlen, y.rlen]; decide))]
  unfold unionOf
  rw [if_neg (by rw [x.check]; decide), if_neg (by rw [y.check]; decide), if_neg (fun h => h (x.prs.trans y.prs.symm)), if_pos (by rw [c3]; decide), c3]
theorem erase6 {l : List Rul} (h : l.map Rul.er = roadsC.rules.xs) : (l.eraseIdx 6).map Rul.er = roadsC.rules.xs.take 6 := by
  have hl : l.length = 7 := by rw [← List.length_map (f := Rul.er), h]; rfl
  rw [List.eraseIdx_eq_take_drop_succ, List.drop_of_length_le (by omega), List.append_nil, List.map_take, h]
section
variable (B : Base) (hB : B.ok) (p q : Prg) (hp : p.In B.h) (hq : q.In B.h) (hnm : p.Nm) (hnq : q.Nm) (r : (List Prd × List Rul) × Int)
include hB hp hnm
theorem Without_at (n : Int) (h : withoutOf p n = r) : Fn Tryz.prog 39 [p.val, .int .i64 n] B (SumR r) := h ▸ Without_ok B hB p hp hnm n
include hq hnq
theorem Union_at (h : unionOf p q = r) : Fn Tryz.prog 59 [p.val, q.val] B (SumR r) := h ▸ Union_ok B hB p q hp hq hnm hnq
end
theorem Union_rd (B : Base) (hB : B.ok) (a b : Prg) (ha : a.In B.h) (hb : b.In B.h) (h1 : a.preds.xs = roadsC.preds.xs) (h2 : a.rules.xs.map Rul.er = roadsC.rules.xs.take 6) (h3 : b.preds.xs = roadsC.preds.xs) (h4 : b.rules.xs.map Rul.er = roadsC.rules.xs.drop 6) :
    Fn Tryz.prog 59 [a.val, b.val] B UtS := (Union_at B hB a b ha hb (nm_rd h1) (nm_rd h3) _ (union_rd h1 h2 h3 h4)).mono fun _ _ _ ⟨c, e, e1, e2, i, _⟩ =>
  ⟨c, e, i, er_mk (l := roadsC.preds.xs) (rs := roadsC.rules.xs) (e1.trans h1) (by rw [e2]; show (a.rules.xs ++ b.rules.xs).map Rul.er = _; rw [List.map_append, h2, h4, List.take_append_drop])⟩
theorem SameProgs_at (B : Base) (hB : B.ok) (p q : Prg) (hp : p.In B.h) (hq : q.In B.h) (he : p.er = q.er) : Fn Tryz.prog 43 [p.val, q.val] B (fun v _ => v = .bool true) := by
  have := SameProgs_ok B hB p q hp hq fun _ => he
  rwa [decide_eq_true (Prg.er_iff he).1] at this
set_option maxHeartbeats 8000000 in
theorem sumBegun_ok (B : Base) (hB : B.ok) : Fn Tryz.prog 60 [] B (fun v _ => v = .bool true) := by
  refine Fn.of Tryz.func60 rfl Tryz.ntmps60 (by kernel_rfl) (by simp) ?_
  intro e
  have I := Inv.start hB
  refine WP.seq ?_
  refine WP.region ?_
  refine Ops.y (v := .bool _) (Y.assign rfl) ?_
  refine Ops.nil ?_
  refine WP.seq ?_
  refine WP.region ?_
  refine Ops.go (O.call I Tryz.call81 (roads_ok _ I.base_ok) rfl ?_)
  rintro _ h1 w I le1 ⟨p1, rfl, hp1⟩
  refine Ops.go (O.call I Tryz.call39 (Without_at _ I.base_ok p1 hp1.is hp1.nm _ 6 (without_rd hp1)) rfl ?_)
  rintro _ h2 w I le2 ⟨a1, rfl, e1, e2, i1, n1⟩
  refine Ops.y (v := .tuple #[_, _]) (Y.move rfl) ?_
  refine Ops.y (v := .agg #[_, _]) (Y.extract rfl rfl) ?_
  refine Ops.y (v := .int .i64 _) (Y.extract rfl rfl) ?_
  refine Ops.go (O.alloc I Tryz.zeroValue25 rfl ?_)
  intro b1 w I
  refine Ops.go (O.store (v := .agg #[_, _]) I ty_25 0 rfl rfl rfl rfl rfl rfl (Nat.le_of_ble_eq_true rfl) rfl ?_)
  intro w I
  refine Ops.y (v := .int .i64 _) (Y.assign rfl) ?_
  refine Ops.nil ?_
  have e1 : a1.preds.xs = roadsC.preds.xs := e1.trans hp1.prs
  have e2 : a1.rules.xs.map Rul.er = roadsC.rules.xs.take 6 := by rw [e2]; exact erase6 hp1.rls
  have hmC : MonoC UcS := fun _ _ _ hl ⟨a, b, c, d⟩ => ⟨a, b, c.le hl, d⟩
  refine WP.seq ?_
  refine WP.regionG mixed RSt.pre ⟨h2, none, none⟩ (J := JSt B [box b1 a1.enc 25] 25 [.slice none 0 0, .slice none 0 0] UcS 11 12) ⟨rfl, rfl, fun h => (by cases h), fun _ h => (by cases h), I.drew⟩ 13 (by kernel_rfl) ?_
  refine OpsG.y_ (v := .agg #[_, _]) (fun _ => runsG_none _) RSt.pre (JSt.set (by decide)) (fun _ s w us hl hj => have I := hj.base; have hl := hl.h; Y.loadv ty_25 rfl (I.rdbox 0 rfl 0 2) rfl rfl) ?_
  refine OpsG.x_ (Φ := KnSt (RdS)) (KnSt.mono RdS.mono) (fun _ => runsG_none _) (fun D' z w hDk hl hj => ?_) ?_
  · refine AllG.all fun us => ?_
    refine hj.know' hmC (by decide) fun N I => ?_
    have hl := hl.h
    refine O.call I Tryz.call81 (roads_okC _ I.base_ok) rfl ?_
    rintro _ h3 w I hl' hx
    exact ⟨_, hl', I, hx⟩
  refine OpsG.x_ (Φ := KnSt (RpS)) (KnSt.mono RpS.mono) (fun _ => runsG_none _) (fun D' z w hDk hl hj => ?_) ?_
  · intro u18 q18
    obtain ⟨p2, rfl, hp2, c2⟩ := q18 rfl
    refine hj.know' hmC (by decide) fun N I => ?_
    have hl := hl.h
    exact O.yx I (Y.field fd_25_0 ty_22 rfl rfl rfl rfl) (⟨_, rfl, hp2.is.preds, hp2.prs⟩)
  refine OpsG.x_ (Φ := KnSt (RdS)) (KnSt.mono RdS.mono) (fun _ => runsG_none _) (fun D' z w hDk hl hj => ?_) ?_
  · intro u18 q18 u19 q19
    refine hj.know' hmC (by decide) fun N I => ?_
    have hl := hl.h
    refine O.call I Tryz.call81 (roads_okC _ I.base_ok) rfl ?_
    rintro _ h3 w I hl' hx
    exact ⟨_, hl', I, hx⟩
  refine OpsG.x_ (Φ := KnSt (RrS)) (KnSt.mono RrS.mono) (fun _ => runsG_none _) (fun D' z w hDk hl hj => ?_) ?_
  · intro u18 q18 u19 q19 u20 q20
    obtain ⟨p3, rfl, hp3, c3⟩ := q20 rfl
    refine hj.know' hmC (by decide) fun N I => ?_
    have hl := hl.h
    exact O.yx I (Y.field fd_25_1 ty_23 rfl rfl rfl rfl) (⟨_, rfl, hp3.is.rules, hp3.rls, c3⟩)
  refine OpsG.x_ (Φ := KnSt (R6S)) (KnSt.mono R6S.mono) (fun _ => runsG_none _) (fun D' z w hDk hl hj => ?_) ?_
  · intro u18 q18 u19 q19 u20 q20 u21 q21
    obtain ⟨s3, rfl, i3, e3, c3⟩ := q21 rfl
    refine hj.know' hmC (by decide) fun N I => ?_
    have hl := hl.h
    have hl7 : s3.xs.length = 7 := (by rw [← List.length_map (f := Rul.er), e3]; rfl)
    exact O.yx I (Y.dropS (l := 6) (i3.is.at (i := 0) (by omega)).at_ Tryz.underlying23 Tryz.sizeOf68 rfl rfl (by omega) c3) ⟨_, rfl, (rls_drop i3 e3 c3).1, (rls_drop i3 e3 c3).2⟩
  refine OpsG.x_ (Φ := KnSt (R2S)) (KnSt.mono R2S.mono) (fun _ => runsG_none _) (fun D' z w hDk hl hj => ?_) ?_
  · intro u18 q18 u19 q19 u20 q20 u21 q21 u22 q22
    obtain ⟨s2, rfl, i2, e4⟩ := q19 rfl
    obtain ⟨s3, rfl, i3, e3⟩ := q22 rfl
    refine hj.know' hmC (by decide) fun N I => ?_
    have hl := hl.h
    exact O.yx I (Y.build pl_25 Tryz.zeroValue25 rfl rfl) (⟨⟨s2, s3⟩, rfl, ⟨i2, i3⟩, e4, e3⟩)
  refine OpsG.x_ (Φ := KnSt (UtS)) (KnSt.mono UtS.mono) (fun _ => runsG_none _) (fun D' z w hDk hl hj => ?_) ?_
  · intro u18 q18 u19 q19 u20 q20 u21 q21 u22 q22 u23 q23
    obtain ⟨b, rfl, ib, e5, e6⟩ := q23 rfl
    refine hj.know' hmC (by decide) fun N I => ?_
    have hl := hl.h
    refine O.call I Tryz.call59 (Union_rd _ I.base_ok a1 b (i1.le hl) ib e1 e2 e5 e6) rfl ?_
    rintro _ h3 w I hl' hx
    exact ⟨_, hl', I, hx⟩
  refine OpsG.x_ (Φ := KnSt (UtS)) (KnSt.mono UtS.mono) (fun _ => runsG_none _) (fun D' z w hDk hl hj => ?_) ?_
  · intro u18 q18 u19 q19 u20 q20 u21 q21 u22 q22 u23 q23 u24 q24
    refine hj.know' hmC (by decide) fun N I => ?_
    have hl := hl.h
    exact O.yx I (Y.move rfl) (q24 rfl)
  refine OpsG.x_ (Φ := KnSt (UpS)) (KnSt.mono UpS.mono) (fun _ => runsG_none _) (fun D' z w hDk hl hj => ?_) ?_
  · intro u18 q18 u19 q19 u20 q20 u21 q21 u22 q22 u23 q23 u24 q24 u16 q16
    obtain ⟨c, rfl, ic, ec⟩ := q16 rfl
    refine hj.know' hmC (by decide) fun N I => ?_
    have hl := hl.h
    exact O.yx I (Y.extract rfl rfl) (⟨c, rfl, ic, ec⟩)
  refine OpsG.x_ (Φ := KnSt (EqS (.int .i64 0))) (KnSt.mono EqS.mono) (fun _ => runsG_none _) (fun D' z w hDk hl hj => ?_) ?_
  · intro u18 q18 u19 q19 u20 q20 u21 q21 u22 q22 u23 q23 u24 q24 u16 q16 u25 q25
    obtain ⟨c, rfl, ic, ec⟩ := q16 rfl
    refine hj.know' hmC (by decide) fun N I => ?_
    have hl := hl.h
    exact O.yx I (Y.extract rfl rfl) (rfl)
  refine OpsG.x_ (Φ := AtS7) (AtS7.mono) (fun _ => runsG_none _) (fun D' z w hDk hl hj => ?_) ?_
  · intro u18 q18 u19 q19 u20 q20 u21 q21 u22 q22 u23 q23 u24 q24 u16 q16 u25 q25 u26 q26
    exact hj.make Tryz.zeroValue25 rfl hDk (by decide)
  refine OpsG.s_ (fun _ => runsG_none _) (fun D' z w hDk hl hj => ?_) ?_
  · intro u18 q18 u19 q19 u20 q20 u21 q21 u22 q22 u23 q23 u24 q24 u16 q16 u25 q25 u26 q26 u3 q3
    obtain ⟨c, rfl, ic, ec⟩ := q25 rfl
    exact hj.put (c := c.enc) ty_25 rfl rfl hDk (by decide) (q3 rfl) rfl rfl rfl rfl ⟨c, rfl, ic, ec⟩
  refine OpsG.nil ?_
  intro D z w hD hl hj u18 q18 u19 q19 u20 q20 u21 q21 u22 q22 u23 q23 u24 q24 u16 q16 u25 q25 u26 q26 u3 q3
  obtain rfl : u26 = .int .i64 0 := q26 rfl
  obtain ⟨b3, rfl, h3⟩ := q3 rfl
  obtain ⟨cs, ⟨c, rfl, ic, ec⟩, I⟩ := hj.fin (hD 12 (by omega)) h3
  refine Ops.y (v := .int .i64 0) (Y.assign rfl) ?_
  refine Ops.nil ?_
  have i1 := i1.le hl.h
  refine WP.seq ?_
  refine WP.region ?_
  refine Ops.y (v := .agg #[_, _]) (Y.loadv ty_25 rfl (I.rdbox 1 rfl 0 2) rfl rfl) ?_
  refine Ops.y (v := .agg #[.slice none 0 0, .slice none 0 0]) (Y.build pl_25 Tryz.zeroValue25 rfl rfl) ?_
  refine Ops.go (O.call I Tryz.call59 (Union_at _ I.base_ok a1 ⟨⟨none, 0, []⟩, ⟨none, 0, []⟩⟩ i1 (nil_in nilIs) n1 (fun x hx => by cases hx) _ (union_rd0 e1 e2)) rfl ?_)
  rintro _ h4 w I le4 ⟨a4, rfl, _⟩
  refine Ops.y (v := .tuple #[_, _]) (Y.move rfl) ?_
  refine Ops.y (v := .agg #[_, _]) (Y.extract rfl rfl) ?_
  refine Ops.y (v := .int .i64 _) (Y.extract rfl rfl) ?_
  refine Ops.go (O.alloc I Tryz.zeroValue25 rfl ?_)
  intro b5 w I
  refine Ops.go (O.store (v := .agg #[_, _]) I ty_25 0 rfl rfl rfl rfl rfl rfl (Nat.le_of_ble_eq_true rfl) rfl ?_)
  intro w I
  refine Ops.y (v := .int .i64 _) (Y.assign rfl) ?_
  refine Ops.nil ?_
  refine WP.seq ?_
  refine WP.region ?_
  refine Ops.go (O.call I Tryz.call81 (roads_ok _ I.base_ok) rfl ?_)
  rintro _ h5 w I le5 ⟨p4, rfl, hp4⟩
  refine Ops.go (O.call I Tryz.call39 (Without_at _ I.base_ok p4 hp4.is hp4.nm _ 7 (without_rd7 hp4)) rfl ?_)
  rintro _ h6 w I le6 ⟨a5, rfl, _⟩
  refine Ops.y (v := .tuple #[_, _]) (Y.move rfl) ?_
  refine Ops.y (v := .agg #[_, _]) (Y.extract rfl rfl) ?_
  refine Ops.y (v := .int .i64 _) (Y.extract rfl rfl) ?_
  refine Ops.go (O.alloc I Tryz.zeroValue25 rfl ?_)
  intro b7 w I
  refine Ops.go (O.store (v := .agg #[_, _]) I ty_25 0 rfl rfl rfl rfl rfl rfl (Nat.le_of_ble_eq_true rfl) rfl ?_)
  intro w I
  refine Ops.y (v := .int .i64 _) (Y.assign rfl) ?_
  refine Ops.nil ?_
  refine WP.seq ?_
  refine WP.region ?_
  refine Ops.go (O.call I Tryz.call81 (roads_ok _ I.base_ok) rfl ?_)
  rintro _ h7 w I le7 ⟨p5, rfl, hp5⟩
  refine Ops.go (O.call I Tryz.call81 (roads_ok _ I.base_ok) rfl ?_)
  rintro _ h8 w I le8 ⟨p6, rfl, hp6⟩
  refine Ops.go (O.call I Tryz.call59 (Union_at _ I.base_ok p5 p6 (hp5.is.le le8) hp6.is hp5.nm hp6.nm _ (union_rd2 hp5 hp6)) rfl ?_)
  rintro _ h9 w I le9 ⟨a6, rfl, _⟩
  refine Ops.y (v := .tuple #[_, _]) (Y.move rfl) ?_
  refine Ops.y (v := .agg #[_, _]) (Y.extract rfl rfl) ?_
  refine Ops.y (v := .int .i64 _) (Y.extract rfl rfl) ?_
  refine Ops.go (O.alloc I Tryz.zeroValue25 rfl ?_)
  intro b9 w I
  refine Ops.go (O.store (v := .agg #[_, _]) I ty_25 0 rfl rfl rfl rfl rfl rfl (Nat.le_of_ble_eq_true rfl) rfl ?_)
  intro w I
  refine Ops.y (v := .int .i64 _) (Y.assign rfl) ?_
  refine Ops.nil ?_
  have ic := ic.le ((((le4.trans le5).trans le6).trans le7).trans (le8.trans le9))
  have hl6 : a1.rules.xs.length = 6 := by rw [← List.length_map (f := Rul.er), e2]; rfl
  refine WP.seq ?_
  refine WP.regionF mixed I 30 (by kernel_rfl) ?_
  refine OpsF.y_ (v := .int .i64 _) (fun _ => runs_none _) (fun _ w us hl I => Y.move rfl) ?_
  refine OpsF.y_ (v := .bool true) (fun _ => runs_none _) (fun _ w us hl I => Y.dec_t (Y.eqi rfl rfl) (rfl)) ?_
  refine OpsF.y_ (v := .bool _) (fun _ => runs_none _) (fun _ w us hl I => Y.move rfl) ?_
  refine OpsF.y_ (v := .int .i64 _) (fun _ => runs_g rfl) (fun _ w us hl I => Y.move rfl) ?_
  refine OpsF.y_ (v := .bool true) (fun _ => runs_g rfl) (fun _ w us hl I => Y.dec_t (Y.eqi rfl rfl) (rfl)) ?_
  refine OpsF.y_ (v := .bool _) (fun _ => runs_none _) (fun _ w us hl I => Y.pick_t rfl rfl) ?_
  refine OpsF.y_ (v := .bool _) (fun _ => runs_none _) (fun _ w us hl I => Y.move rfl) ?_
  refine OpsF.y_ (v := .int .i64 _) (fun _ => runs_g rfl) (fun _ w us hl I => Y.move rfl) ?_
  refine OpsF.y_ (v := .bool true) (fun _ => runs_g rfl) (fun _ w us hl I => Y.dec_t (Y.eqi rfl rfl) (rfl)) ?_
  refine OpsF.y_ (v := .bool _) (fun _ => runs_none _) (fun _ w us hl I => Y.pick_t rfl rfl) ?_
  refine OpsF.y_ (v := .bool _) (fun _ => runs_none _) (fun _ w us hl I => Y.move rfl) ?_
  refine OpsF.y_ (v := .int .i64 _) (fun _ => runs_g rfl) (fun _ w us hl I => Y.move rfl) ?_
  refine OpsF.y_ (v := .bool true) (fun _ => runs_g rfl) (fun _ w us hl I => Y.dec_t (Y.eqi rfl rfl) (rfl)) ?_
  refine OpsF.y_ (v := .bool _) (fun _ => runs_none _) (fun _ w us hl I => Y.pick_t rfl rfl) ?_
  refine OpsF.y_ (v := .bool _) (fun _ => runs_none _) (fun _ w us hl I => Y.move rfl) ?_
  refine OpsF.y_ (v := .int .i64 _) (fun _ => runs_g rfl) (fun _ w us hl I => Y.move rfl) ?_
  refine OpsF.y_ (v := .bool true) (fun _ => runs_g rfl) (fun _ w us hl I => Y.dec_t (Y.eqi rfl rfl) (rfl)) ?_
  refine OpsF.y_ (v := .bool _) (fun _ => runs_none _) (fun _ w us hl I => Y.pick_t rfl rfl) ?_
  refine OpsF.y_ (v := .bool _) (fun _ => runs_none _) (fun _ w us hl I => Y.move rfl) ?_
  refine OpsF.y_ (v := .pointer (some ⟨_, _, none⟩)) (fun _ => runs_g rfl) (fun _ w us hl I => Y.fa fa_25_1 rfl) ?_
  refine OpsF.y_ (v := .slice _ _ _) (fun _ => runs_g rfl) (fun _ w us hl I => Y.loadv ty_23 rfl (I.rdbox 4 rfl 1 1) rfl rfl) ?_
  refine OpsF.y_ (v := .int .i64 _) (fun _ => runs_g rfl) (fun _ w us hl I => Y.lens Tryz.underlying23 rfl) ?_
  refine OpsF.y_ (v := .bool true) (fun _ => runs_g rfl) (fun _ w us hl I => Y.dec_t (Y.eqi rfl rfl) ((by rw [hl6]; rfl))) ?_
  refine OpsF.y_ (v := .bool _) (fun _ => runs_none _) (fun _ w us hl I => Y.pick_t rfl rfl) ?_
  refine OpsF.y_ (v := .bool _) (fun _ => runs_none _) (fun _ w us hl I => Y.move rfl) ?_
  refine OpsF.y_ (v := .agg #[_, _]) (fun _ => runs_g rfl) (fun _ w us hl I => Y.loadv ty_25 rfl (I.rdbox 3 rfl 0 2) rfl rfl) ?_
  refine OpsF.x_ (Φ := RdS) RdS.mono (fun _ => runs_g rfl) ?_ ?_
  · intro _ w hl I
    try unfold AllL
    refine O.call I Tryz.call81 (roads_okC _ I.base_ok) rfl ?_
    rintro _ h10 w I hl' hx
    exact ⟨_, hl', I, hx⟩
  refine OpsF.d_ (v := .bool true) (fun _ => runs_g rfl) ?_ ?_
  · intro _ w hl I u70 q70
    obtain ⟨p7, rfl, hp7, _⟩ := q70 rfl
    exact O.callv I Tryz.call43 (SameProgs_at _ I.base_ok c p7 (ic.le hl) hp7.is (ec.trans hp7.er.symm)) rfl (fun w' I' => ⟨rfl, I'⟩)
  refine OpsF.y_ (v := .bool _) (fun _ => runs_none _) (fun _ w us hl I => Y.pick_t rfl rfl) ?_
  refine OpsF.y_ (v := .bool _) (fun _ => runs_none _) (fun _ w us hl I => Y.assign rfl) ?_
  refine OpsF.nil ?_
  intro _ w hl I u70 q70
  refine Ops.nil ?_
  refine WP.ret ?_
  repeat (first | refine thenE_ret ?_ | refine blockE_ret ?_)
  exact retQ.mk (vs := [.bool _]) rfl ⟨rfl, trivial⟩ I.ext_of (rfl)
end Go.TF
end
section
/- Naive: how many strata; rounds of each until none changes anything; and the document's. -/
namespace Go.TF
open Go Go.RowKit Go.Proofs
set_option maxRecDepth 20000

theorem mostL_take {L : List Int} {k : Nat} (hk : k < L.length) : mostL (L.take (k + 1)) = max (mostL (L.take k)) L[k] := by
  unfold mostL; rw [List.take_succ_eq_append_getElem hk, List.foldl_append]; rfl
theorem mostL_small {L : List Int} (h : ∀ x ∈ L, 0 ≤ x ∧ x ≤ 5) : mostL L ≤ 5 := by
  rcases mostL_of L with e | e
  · omega
  · exact (h _ e).2
theorem numS_eq (L : List Int) : ((numS L : Nat) : Int) = mostL L + 1 := by have := mostL_ge L; unfold numS; omega
theorem least_small {p : Prg} {L : List Int} (h : checkProg p = 0) (hL : Least (usesL p.rules.xs) p.preds.xs.length L) : ∀ x ∈ L, 0 ≤ x ∧ x ≤ 5 := fun x hx => by
  obtain ⟨k1, _, k3, _, _⟩ := checkProg_ok h
  obtain ⟨j, hj, rfl⟩ := List.getElem_of_mem hx
  have hl := hL.sol.len
  have h1 := hL.sol.pos j
  have h2 := least_lt (inR_of k3) hL (i := (j : Int)) (by omega) (by omega)
  rw [lv_get hj] at h1 h2
  omega
theorem NStrata_ok (B : Base) (hB : B.ok) (s : Sl Int) (hs : s.Is 1 iEnc B.h) (hb : ∀ x ∈ s.xs, 0 ≤ x ∧ x ≤ 5) : Fn Tryz.prog 62 [s.val] B (fun v _ => v = .int .i64 (numS s.xs : Nat)) := by
  have hsm := hs.small
  refine Fn.of Tryz.func62 rfl Tryz.ntmps62 (by kernel_rfl) (by simp) ?_
  intro e
  have I := Inv.start hB
  refine WP.seq ?_
  refine WP.region ?_
  refine Ops.y (v := .int .i64 _) (Y.assign rfl) ?_
  refine Ops.nil ?_
  refine WP.seq ?_
  refine WP.region ?_
  refine Ops.y (v := .int .i64 _) (Y.assign rfl) ?_
  refine Ops.nil ?_
  refine WP.seq ?_
  refine WP.seq ?_
  refine WP.region ?_
  refine Ops.y (v := .slice _ _ _) (Y.move rfl) ?_
  refine Ops.y (v := .int .i64 _) (Y.lens Tryz.underlying45 rfl) ?_
  refine Ops.y (v := .int .i64 _) (Y.move rfl) ?_
  refine Ops.nil ?_
  refine WP.block ?_
  refine WP.loopE (σ := Nat) (fun k => [(3, .int .i64 (mostL (s.xs.take k) + 1)), (6, s.val), (7, .int .i64 s.xs.length), (8, .int .i64 k)]) (fun k w => Inv B B.h [] w ∧ k ≤ s.xs.length) (fun k => s.xs.length - k)
    ⟨0, ⟨rfl, rfl, rfl, rfl, trivial⟩, I, Nat.zero_le _⟩ ?_
  rintro k e w ⟨I, hk⟩
  refine WP.seq ?_
  refine WP.region ?_
  refine Ops.y (v := .bool (decide _)) (Y.lti rfl rfl) ?_
  refine Ops.nil ?_
  refine WP.seq ?_
  refine WP.cond_dec rfl (fun h3 => ?_) (fun h3 => ?_)
  · have hk' : k < s.xs.length := by omega
    have E := hs.at hk'
    have hx := hb _ (List.getElem_mem hk')
    refine WP.skip ?_
    refine WP.seq ?_
    refine WP.block ?_
    refine WP.seq ?_
    refine WP.region ?_
    refine Ops.y (v := .pointer (some ⟨_, _, none⟩)) (Y.idxEl E Tryz.underlying45 Tryz.sizeOf3 rfl rfl (Int.natCast_nonneg _) rfl) ?_
    refine Ops.y (v := .int .i64 _) (Y.loadv ty_3 rfl (I.rd (E.rd.part 0 1)) rfl rfl) ?_
    refine Ops.y (v := .int .i64 _) (Y.assign rfl) ?_
    refine Ops.nil ?_
    refine WP.region ?_
    refine Ops.y (v := .int .i64 _) (Y.move rfl) ?_
    refine Ops.y (v := .int .i64 _) (Y.move rfl) ?_
    refine Ops.y (v := .int .i64 _) (Y.addi rfl rfl ⟨by omega, by omega⟩) ?_
    refine Ops.y (v := .int .i64 _) (Y.max2 rfl rfl) ?_
    refine Ops.y (v := .int .i64 _) (Y.assign rfl) ?_
    refine Ops.nil ?_
    refine WP.region ?_
    refine Ops.y (v := .int .i64 _) (Y.addi rfl rfl ⟨by omega, by omega⟩) ?_
    refine Ops.y (v := .int .i64 _) (Y.move rfl) ?_
    refine Ops.nil ?_
    exact ⟨k + 1, ⟨⟨congrArg (Value.int .i64) (by rw [mostL_take hk']; omega), rfl, rfl, rfl, trivial⟩, I, by omega⟩, by omega⟩
  obtain rfl : k = s.xs.length := by omega
  refine WP.exit ?_
  refine WP.seq ?_
  refine WP.region ?_
  refine Ops.y (v := .int .i64 _) (Y.move rfl) ?_
  refine Ops.y (v := .int .i64 _) (Y.assign rfl) ?_
  refine Ops.nil ?_
  refine WP.ret ?_
  repeat (first | refine thenE_ret ?_ | refine blockE_ret ?_)
  exact retQ.mk (vs := [.int .i64 _]) rfl ⟨rfl, trivial⟩ I.ext_of (by simp only [tup]; rw [List.take_length, numS_eq])
def RecP (p : Prg) (v : Value) (h : Heap) : Prop := ∃ (s : Sl Fct) (r : Sl Int), v = .tuple #[s.val, r.val] ∧ Fcts s h ∧ r.Is 1 iEnc h ∧ ModK p (strataM p) (numS (strataM p)) s.xs r.xs
def RecO (h0 : Heap) (p : Prg) (v : Value) (h : Heap) : Prop := ∃ (s : Sl Fct) (r : Sl Int), v = .tuple #[s.val, r.val] ∧ Fcts s h ∧ r.Is 1 iEnc h ∧ ModK p (strataM p) (numS (strataM p)) s.xs r.xs ∧ OwnH 52 4 s Fct.enc h0 h
theorem RecO.rec {h0 h : Heap} {p : Prg} {v : Value} (x : RecO h0 p v h) : RecP p v h := by obtain ⟨s, r, a, b, c, d, _⟩ := x; exact ⟨s, r, a, b, c, d⟩
theorem PutO.mono {h0 : Heap} {r : List Fct × Bool} : MonoS (PutO h0 r) := fun _ _ _ hl ⟨s, a, b, c, d⟩ => ⟨s, a, b, c.le hl, d.le hl⟩
def SlO (h0 : Heap) (xs : List Fct) : Sp := fun v h => ∃ s : Sl Fct, v = s.val ∧ s.xs = xs ∧ Fcts s h ∧ OwnH 52 4 s Fct.enc h0 h
theorem SlO.mono {h0 : Heap} {xs : List Fct} : MonoS (SlO h0 xs) := fun _ _ _ hl ⟨s, a, b, c, d⟩ => ⟨s, a, b, c.le hl, d.le hl⟩
theorem put_mid {a : List Int} {t : List Int} {x y : Int} {k : Nat} (h : a.length = k) : (a ++ x :: t).set k y = a ++ y :: t := by subst h; simp
theorem get_mid {a : List Int} {t : List Int} {x : Int} {k : Nat} (h : a.length = k) : (a ++ x :: t)[k]? = some x := by subst h; simp
set_option maxHeartbeats 4000000 in
theorem Reckon_own (B : Base) (hB : B.ok) (p : Prg) (hp : p.In B.h) (hpr : checkProg p = 0) : Fn Tryz.prog 86 [p.val] B (RecO B.h p) := by
  obtain ⟨k1, k2, k3, _, _⟩ := checkProg_ok hpr
  have rk := chk_rok hpr
  have ok0 := chk_nil hpr
  refine Fn.of Tryz.func86 rfl Tryz.ntmps86 (by kernel_rfl) (by simp) ?_
  intro e
  have I := Inv.start hB
  refine WP.seq ?_
  refine WP.region ?_
  refine Ops.go (O.box (v := .agg #[_, _]) I rfl rfl ?_)
  intro b1 w I
  refine Ops.y (v := .slice _ _ _) (Y.assign rfl) ?_
  refine Ops.y (v := .slice _ _ _) (Y.assign rfl) ?_
  refine Ops.nil ?_
  refine WP.seq ?_
  refine WP.region ?_
  refine Ops.y (v := .agg #[_, _]) (Y.loadv ty_25 rfl (I.rdbox 0 rfl 0 2) rfl rfl) ?_
  refine Ops.go (O.call I Tryz.call94 (Levels_ok _ I.base_ok p hp (inR_of k3) k1) rfl ?_)
  rintro v13 h1 w I le1 hL
  rcases hL with ⟨s, hS, hI, rfl⟩ | ⟨hno, rfl⟩
  rotate_left
  exact absurd (strataM_least hpr).sol (hno _)
  refine Ops.y (v := .tuple #[_, _]) (Y.move rfl) ?_
  refine Ops.y (v := .slice _ _ _) (Y.extract rfl rfl) ?_
  refine Ops.y (v := .bool _) (Y.extract rfl rfl) ?_
  refine Ops.y (v := .slice _ _ _) (Y.assign rfl) ?_
  refine Ops.y (v := .bool _) (Y.assign rfl) ?_
  refine Ops.nil ?_
  have hS : Least (usesL p.rules.xs) p.preds.xs.length s.xs := hS
  have eM := strataM_eq hS
  have hb5 := least_small hpr hS
  have hN5 := mostL_small hb5
  have hNe := numS_eq s.xs
  obtain ⟨N, hN⟩ : ∃ N, numS s.xs = N := ⟨_, rfl⟩
  refine WP.seq ?_
  refine WP.region ?_
  refine Ops.y (v := .slice _ _ _) (Y.assign rfl) ?_
  refine Ops.nil ?_
  refine WP.seq ?_
  refine WP.region ?_
  refine Ops.y (v := .slice _ _ _) (Y.move rfl) ?_
  refine Ops.go (O.callv I Tryz.call62 (hN ▸ NStrata_ok _ I.base_ok s hI hb5) rfl ?_)
  intro w I
  refine Ops.go (O.make1 (n := N) (zc := (vI 0)) I Tryz.underlying45 et_3 rfl rfl rfl (by omega) (by omega) ?_)
  intro b18 w I
  refine Ops.y (v := .slice _ _ _) (Y.assign rfl) ?_
  refine Ops.nil ?_
  rw [← List.map_replicate (f := vI)] at I
  refine WP.seq ?_
  refine WP.seq ?_
  refine WP.region ?_
  refine Ops.y (v := .slice _ _ _) (Y.move rfl) ?_
  refine Ops.y (v := .int .i64 _) (Y.lens Tryz.underlying45 rfl) ?_
  refine Ops.y (v := .int .i64 _) (Y.move rfl) ?_
  refine Ops.nil ?_
  refine WP.block ?_
  refine WP.loopE (σ := Nat × Sl Fct × List Int × Heap) (fun s' => [(1, .pointer (some ⟨b1, 0, none⟩)), (4, s.val), (6, s'.2.1.val), (7, .slice (some ⟨b18, 0, none⟩) N N), (20, .int .i64 N), (21, .int .i64 s'.1)])
    (fun s' w => Inv B s'.2.2.2 [box b18 ((s'.2.2.1 ++ List.replicate (N - s'.1) 0).map vI) 3, box b1 p.enc 25] w ∧ s'.1 ≤ N ∧ h1.le s'.2.2.2 ∧ ModK p s.xs s'.1 s'.2.1.xs s'.2.2.1 ∧ Fcts s'.2.1 s'.2.2.2 ∧ OwnH 52 4 s'.2.1 Fct.enc B.h s'.2.2.2) (fun s' => N - s'.1)
    ⟨(0, ⟨none, 0, []⟩, [], h1), ⟨rfl, rfl, rfl, rfl, rfl, rfl, trivial⟩, I, Nat.zero_le _, Heap.le.refl _, ⟨rfl, rfl⟩, fnil, .inl rfl⟩ ?_
  rintro ⟨k, f, r0, hh⟩ e w ⟨I, hk, gl, hm, hf, ho⟩
  dsimp only at I hk gl hm hf ho ⊢
  have hrl := hm.len
  refine WP.seq ?_
  refine WP.region ?_
  refine Ops.y (v := .bool (decide _)) (Y.lti rfl rfl) ?_
  refine Ops.nil ?_
  refine WP.seq ?_
  refine WP.cond_dec rfl (fun h5 => ?_) (fun h5 => ?_)
  · have hk' : k < N := by omega
    have j0 := modK_mj rk hS.sol ok0 hm
    refine WP.skip ?_
    refine WP.seq ?_
    refine WP.block ?_
    refine WP.seq ?_
    refine WP.region ?_
    refine Ops.y (v := .int .i64 _) (Y.move rfl) ?_
    refine Ops.y (v := .int .i64 _) (Y.assign rfl) ?_
    refine Ops.nil ?_
    rw [show N - k = (N - k - 1) + 1 by omega, List.replicate_succ] at I
    refine WP.block ?_
    refine WP.loopE (σ := Nat × Sl Fct × Heap) (fun s' => [(1, .pointer (some ⟨b1, 0, none⟩)), (4, s.val), (6, s'.2.1.val), (7, .slice (some ⟨b18, 0, none⟩) N N), (8, .int .i64 k), (20, .int .i64 N), (21, .int .i64 k)])
      (fun s' w => Inv B s'.2.2 [box b18 ((r0 ++ (s'.1 : Int) :: List.replicate (N - k - 1) 0).map vI) 3, box b1 p.enc 25] w ∧ h1.le s'.2.2 ∧ FOk p.preds.xs s'.2.1.xs ∧ CloB (turnT p s.xs k) f.xs s'.1 s'.2.1.xs ∧ Fcts s'.2.1 s'.2.2 ∧ s'.1 ≤ potF p.preds.xs s'.2.1.xs ∧ OwnH 52 4 s'.2.1 Fct.enc B.h s'.2.2) (fun s' => 2001 - potF p.preds.xs s'.2.1.xs)
      ⟨(0, f, hh), ⟨rfl, rfl, rfl, rfl, rfl, rfl, rfl, trivial⟩, I, gl, j0.fok, CloB.zero, hf, Nat.zero_le _, ho⟩ ?_
    rintro ⟨m, u, h2⟩ e w ⟨I, gl2, okf, cb, hu, hmp, hou⟩
    dsimp only at I gl2 okf cb hu hmp hou ⊢
    have hp2 := hp.le (le1.trans gl2)
    have hI2 := hI.le gl2
    have hpl := potF_le p.preds.xs u.xs
    have tf := told_fine (q := ofQ p s.xs k) rk okf
    obtain ⟨tr, htr⟩ : ∃ t, turnL p.preds.xs u.xs (toldL p.preds.xs u.xs p.rules.xs (ofQ p s.xs k)) = t := ⟨_, rfl⟩
    have htT : turnT p s.xs k u.xs = tr := htr
    refine WP.block ?_
    refine WP.seq ?_
    refine WP.regionF mixed I 12 (by kernel_rfl) ?_
    refine OpsF.y_ (v := .agg #[_, _]) (fun _ => runs_none _) (fun _ w us hl I => Y.loadv ty_25 rfl (I.rdbox 1 rfl 0 2) rfl rfl) ?_
    refine OpsF.y_ (v := .slice _ _ _) (fun _ => runs_none _) (fun _ w us hl I => Y.move rfl) ?_
    refine OpsF.y_ (v := .agg #[_, _]) (fun _ => runs_none _) (fun _ w us hl I => Y.loadv ty_25 rfl (I.rdbox 1 rfl 0 2) rfl rfl) ?_
    refine OpsF.y_ (v := .slice _ _ _) (fun _ => runs_none _) (fun _ w us hl I => Y.move rfl) ?_
    refine OpsF.y_ (v := .int .i64 _) (fun _ => runs_none _) (fun _ w us hl I => Y.move rfl) ?_
    refine OpsF.x_ (Φ := ROfS p s.xs k) ROfS.mono (fun _ => runs_none _) ?_ ?_
    · intro _ w hl I
      try unfold AllL
      refine O.call I Tryz.call65 (ROf_ok _ I.base_ok p s k) rfl ?_
      rintro _ h5 w I hl' ⟨b4, b3, b5, rfl, k4, k3', k5⟩
      exact ⟨_, hl', I, ⟨_, rfl, ROf1_ok p s k b4 b3 b5 k4 k3' k5 ((hp2.le hl).le hl') ((hI2.le hl).le hl') hS.sol.len (heads_in k3)⟩⟩
    refine OpsF.x_ (Φ := PutO B.h tr) PutO.mono (fun _ => runs_none _) ?_ ?_
    · intro _ w hl I u30 q30
      obtain ⟨cs, rfl, hoc⟩ := q30 rfl
      try unfold AllL
      refine O.call I Tryz.call95 (htr ▸ Turn_own _ I.base_ok p (hp2.le hl) hpr u (hu.le hl) okf 132 cs _ hoc) rfl ?_
      rintro _ h6 w I hl' ⟨s9, a9, b9, c9, d9⟩
      exact ⟨_, hl', I, ⟨s9, a9, b9, c9, d9.older (((le1.trans gl2).trans hl))⟩⟩
    refine OpsF.x_ (Φ := PutO B.h tr) PutO.mono (fun _ => runs_none _) ?_ ?_
    · intro _ w hl I u30 q30 u31 q31
      exact O.yx I (Y.move rfl) (q31 rfl)
    refine OpsF.x_ (Φ := SlO B.h tr.1) SlO.mono (fun _ => runs_none _) ?_ ?_
    · intro _ w hl I u30 q30 u31 q31 u24 q24
      obtain ⟨s6, rfl, e6, i6, o6⟩ := q24 rfl
      exact O.yx I (Y.extract rfl rfl) (⟨s6, rfl, e6, i6, o6⟩)
    refine OpsF.d_ (v := .bool tr.2) (fun _ => runs_none _) ?_ ?_
    · intro _ w hl I u30 q30 u31 q31 u24 q24 u32 q32
      obtain ⟨s6, rfl, e6, i6, o6⟩ := q24 rfl
      exact O.yd I (Y.extract rfl rfl) (rfl)
    refine OpsF.x_ (Φ := SlO B.h tr.1) SlO.mono (fun _ => runs_none _) ?_ ?_
    · intro _ w hl I u30 q30 u31 q31 u24 q24 u32 q32
      exact O.yx I (Y.assign rfl) (q32 rfl)
    refine OpsF.y_ (v := .bool _) (fun _ => runs_none _) (fun _ w us hl I => Y.assign rfl) ?_
    refine OpsF.nil ?_
    intro _ w hl I u30 q30 u31 q31 u24 q24 u32 q32 u9 q9
    refine Ops.nil ?_
    obtain ⟨s6, rfl, hs6, is6, os6⟩ := q9 rfl
    have hf6 : Fcts s6 _ := is6
    have okg : FOk p.preds.xs s6.xs := by rw [hs6, ← htr]; exact turn_fok okf tf
    refine WP.seq ?_
    refine WP.seq ?_
    refine WP.region ?_
    refine Ops.y (v := .bool _) (Y.move rfl) ?_
    refine Ops.y (v := .bool _) (Y.not rfl) ?_
    refine Ops.nil ?_
    refine WP.cond rfl (fun h8 => ?_) (fun h8 => ?_)
    · have h8 : tr.2 = false := by simpa using h8
      refine WP.exit ?_
      refine WP.region ?_
      refine Ops.y (v := .int .i64 _) (Y.addi rfl rfl ⟨by omega, by omega⟩) ?_
      refine Ops.y (v := .int .i64 _) (Y.move rfl) ?_
      refine Ops.nil ?_
      exact ⟨(k + 1, u, r0 ++ [(m : Int)], _), ⟨⟨rfl, rfl, rfl, rfl, rfl, rfl, trivial⟩, by rw [List.append_assoc, List.singleton_append, show N - (k + 1) = N - k - 1 by omega]; exact I, by dsimp only; omega, gl2.trans hl, ⟨f.xs, r0, m, hm, cb.done (by rw [htT]; exact h8), rfl⟩, hu.le hl, hou.le hl⟩, by dsimp only; omega⟩
    have h8 : tr.2 = true := by simpa using h8
    have hne : s6.xs ≠ u.xs := by
      have := turn_chg okf tf
      rw [htr, h8] at this
      rw [hs6]; exact of_decide_eq_true this.symm
    have hlt := potF_lt okf okg (by rw [hs6, ← htr]; exact turn_above okf tf) hne
    have hpl2 := potF_le p.preds.xs s6.xs
    refine WP.skip ?_
    refine WP.seq ?_
    refine WP.region ?_
    refine Ops.y (v := .slice _ _ _) (Y.move rfl) ?_
    refine Ops.y (v := .slice _ _ _) (Y.assign rfl) ?_
    refine Ops.nil ?_
    refine WP.region ?_
    refine Ops.y (v := .slice _ _ _) (Y.move rfl) ?_
    refine Ops.y (v := .int .i64 _) (Y.move rfl) ?_
    refine Ops.y (v := .pointer (some ⟨_, _, none⟩)) (Y.idx Tryz.underlying45 Tryz.sizeOf3 rfl rfl (by omega) (by omega)) ?_
    refine Ops.y (v := .int .i64 _) (Y.loadv ty_3 rfl (I.rdL 0 rfl (by omega) (get_mid hrl)) rfl rfl) ?_
    refine Ops.y (v := .int .i64 _) (Y.addi rfl rfl ⟨by omega, by omega⟩) ?_
    refine Ops.y (v := .pointer (some ⟨_, _, none⟩)) (Y.idx Tryz.underlying45 Tryz.sizeOf3 rfl rfl (by omega) (by omega)) ?_
    refine Ops.go (O.store1 I ty_3 0 rfl rfl (i := k) (v := (m : Int) + 1) (by omega) (by simp; omega) rfl rfl rfl ?_)
    intro w I
    refine Ops.nil ?_
    rw [put_mid hrl] at I
    exact ⟨(m + 1, s6, _), ⟨⟨rfl, rfl, rfl, rfl, rfl, rfl, rfl, trivial⟩, I, gl2.trans hl, okg, by have := cb.next (by rw [htT]; exact h8); rw [htT, ← hs6] at this; exact this, is6, by dsimp only; omega, os6⟩, by dsimp only; omega⟩
  obtain rfl : k = N := by omega
  rw [Nat.sub_self, List.replicate_zero, List.append_nil] at I
  have hbo := I.at 0 rfl
  obtain ⟨h4, le4, hb4, I⟩ := (I.front 0 rfl).settle
  refine WP.exit ?_
  refine WP.seq ?_
  refine WP.region ?_
  refine Ops.y (v := .slice _ _ _) (Y.move rfl) ?_
  refine Ops.y (v := .slice _ _ _) (Y.move rfl) ?_
  refine Ops.y (v := .slice _ _ _) (Y.assign rfl) ?_
  refine Ops.y (v := .slice _ _ _) (Y.assign rfl) ?_
  refine Ops.nil ?_
  refine WP.ret ?_
  repeat (first | refine thenE_ret ?_ | refine blockE_ret ?_)
  exact retQ.mk (vs := [.slice _ _ _, .slice _ _ _]) rfl ⟨rfl, rfl, trivial⟩ I.ext_of (⟨f, ⟨some ⟨b18, 0, none⟩, k, r0⟩, by simp only [tup, Sl.val, hrl], hf.le le4, boxIs ((hb4 b18 (by simp [box])).trans hbo) (by rw [hrl]; omega), by rw [eM, hN]; exact hm, ho.le le4⟩)
theorem Reckon_ok (B : Base) (hB : B.ok) (p : Prg) (hp : p.In B.h) (hpr : checkProg p = 0) : Fn Tryz.prog 86 [p.val] B (RecP p) := (Reckon_own B hB p hp hpr).mono fun _ _ _ h => h.rec
def ModP (p : Prg) (v : Value) (h : Heap) : Prop := (checkProg p ≠ 0 ∧ v = .tuple #[.slice none 0 0, .int .i64 (checkProg p)]) ∨ (checkProg p = 0 ∧ ∃ (s : Sl Fct) (rs : List Int), v = .tuple #[s.val, .int .i64 0] ∧ Fcts s h ∧ ModK p (strataM p) (numS (strataM p)) s.xs rs)
theorem Model_ok (B : Base) (hB : B.ok) (p : Prg) (hp : p.In B.h) (hnm : p.Nm) : Fn Tryz.prog 28 [p.val] B (ModP p) := by
  refine Fn.of Tryz.func28 rfl Tryz.ntmps28 (by kernel_rfl) (by simp) ?_
  intro e
  have I := Inv.start hB
  refine WP.seq ?_
  refine WP.region ?_
  refine Ops.go (O.box (v := .agg #[_, _]) I rfl rfl ?_)
  intro b1 w I
  refine Ops.y (v := .slice _ _ _) (Y.assign rfl) ?_
  refine Ops.y (v := .int .i64 _) (Y.assign rfl) ?_
  refine Ops.nil ?_
  refine WP.seq ?_
  refine WP.seq ?_
  refine WP.region ?_
  refine Ops.y (v := .agg #[_, _]) (Y.loadv ty_25 rfl (I.rdbox 0 rfl 0 2) rfl rfl) ?_
  refine Ops.go (O.callv I Tryz.call56 (PCheck_ok _ I.base_ok p hp hnm) rfl ?_)
  intro w I
  refine Ops.y (v := .int .i64 _) (Y.assign rfl) ?_
  refine Ops.nil ?_
  refine WP.seq ?_
  refine WP.region ?_
  refine Ops.y (v := .int .i64 _) (Y.move rfl) ?_
  refine Ops.y (v := .bool (decide _)) (Y.nei rfl rfl) ?_
  refine Ops.nil ?_
  refine WP.cond_dec rfl (fun h => ?_) (fun h => ?_)
  · refine WP.seq ?_
    refine WP.region ?_
    refine Ops.y (v := .int .i64 _) (Y.move rfl) ?_
    refine Ops.y (v := .slice _ _ _) (Y.assign rfl) ?_
    refine Ops.y (v := .int .i64 _) (Y.assign rfl) ?_
    refine Ops.nil ?_
    refine WP.ret ?_
    repeat (first | refine thenE_ret ?_ | refine blockE_ret ?_)
    exact retQ.mk (vs := [.slice _ _ _, .int .i64 _]) rfl ⟨rfl, rfl, trivial⟩ I.ext_of (.inl ⟨h, rfl⟩)
  have hpr := Decidable.not_not.1 h
  refine WP.skip ?_
  refine WP.seq ?_
  refine WP.region ?_
  refine Ops.y (v := .agg #[_, _]) (Y.loadv ty_25 rfl (I.rdbox 0 rfl 0 2) rfl rfl) ?_
  refine Ops.go (O.call I Tryz.call86 (Reckon_ok _ I.base_ok p hp hpr) rfl ?_)
  rintro _ h3 w I le3 ⟨s, r, rfl, hs, hr, hm⟩
  refine Ops.y (v := .tuple #[_, _]) (Y.move rfl) ?_
  refine Ops.y (v := .slice _ _ _) (Y.extract rfl rfl) ?_
  refine Ops.y (v := .slice _ _ _) (Y.extract rfl rfl) ?_
  refine Ops.y (v := .slice _ _ _) (Y.assign rfl) ?_
  refine Ops.y (v := .slice _ _ _) (Y.assign rfl) ?_
  refine Ops.nil ?_
  refine WP.seq ?_
  refine WP.region ?_
  refine Ops.y (v := .slice _ _ _) (Y.move rfl) ?_
  refine Ops.y (v := .slice _ _ _) (Y.assign rfl) ?_
  refine Ops.y (v := .int .i64 _) (Y.assign rfl) ?_
  refine Ops.nil ?_
  refine WP.ret ?_
  repeat (first | refine thenE_ret ?_ | refine blockE_ret ?_)
  exact retQ.mk (vs := [.slice _ _ _, .int .i64 _]) rfl ⟨rfl, rfl, trivial⟩ I.ext_of (.inr ⟨hpr, s, r.xs, rfl, hs, hm⟩)
def MofP (p : Prg) (v : Value) (h : Heap) : Prop := ∃ (s : Sl Fct) (rs : List Int), v = s.val ∧ Fcts s h ∧ ModK p (strataM p) (numS (strataM p)) s.xs rs
def RofP (p : Prg) (v : Value) (h : Heap) : Prop := ∃ (r : Sl Int) (f : List Fct), v = r.val ∧ r.Is 1 iEnc h ∧ ModK p (strataM p) (numS (strataM p)) f r.xs
theorem MofP.mono {p : Prg} : MonoS (MofP p) := fun _ _ _ hl ⟨s, r, a, b, c⟩ => ⟨s, r, a, b.le hl, c⟩
theorem RofP.mono {p : Prg} : MonoS (RofP p) := fun _ _ _ hl ⟨s, r, a, b, c⟩ => ⟨s, r, a, b.le hl, c⟩
end Go.TF
end
section
/- The laws of programs: each returns true. -/
namespace Go.TF
open Go Go.RowKit Go.Proofs
set_option maxRecDepth 20000

theorem PrgOk.nm {p : Prg} {h : Heap} (x : PrgOk p h) : p.Nm := fun y hy => by
  have := (x.preds.each y hy).name
  have h2 : reachBytes ≤ 140737488355328 := by decide
  omega
end Go.TF
end
section
/- The other two laws of programs: each returns true. -/
namespace Go.TF
open Go Go.RowKit Go.Proofs
set_option maxRecDepth 20000

def Asked (L : List Int) (k : Int) (cs : List (Int × Ltl)) : Prop := lv L k = 0 ∨ ∃ c ∈ cs, c.1 = k ∧ lv L k = lst L c
theorem Least.asked {cs : List (Int × Ltl)} {n : Nat} {L : List Int} (hr : InR cs n) (h : Least cs n L) {k : Int} (k0 : 0 ≤ k) (k1 : k < n) : Asked L k cs := by
  refine Classical.byContradiction fun hno => ?_
  unfold Asked at hno
  have hz : lv L k ≠ 0 := fun e => hno (.inl e)
  have hc : ∀ c ∈ cs, c.1 = k → lv L k ≠ lst L c := fun c hc e e2 => hno (.inr ⟨c, hc, e, e2⟩)
  have hp := h.sol.pos k
  have hkl : k < L.length := by rw [h.sol.len]; exact k1
  have hle : ∀ i : Int, 0 ≤ i → lv (L.set k.toNat (lv L k - 1)) i ≤ lv L i := fun i h0 => by
    rw [lv_set k0 hkl _ _ h0]; split
    · rename_i e; subst e; omega
    · omega
  have hM : Sol cs n (L.set k.toNat (lv L k - 1)) := by
    refine ⟨by simp [h.sol.len], fun i => ?_, fun c hcm => ?_⟩
    · have key : ∀ i : Int, 0 ≤ i → 0 ≤ lv (L.set k.toNat (lv L k - 1)) i := fun i h0 => by
        rw [lv_set k0 hkl _ _ h0]; split
        · omega
        · exact h.sol.pos i
      by_cases h0 : 0 ≤ i
      · exact key i h0
      · rw [lv_neg _ (by omega)]; exact key 0 (Int.le_refl 0)
    · have hh := hr.h c hcm
      have hb := hr.b c hcm
      have hs := h.sol.sat c hcm
      have h2 := hle _ hb.1
      unfold SatC lst at hs ⊢
      rw [lv_set k0 hkl _ c.1 hh.1]
      split
      · rename_i e
        have := hc c hcm e
        unfold lst at this
        rw [e] at hs; omega
      · omega
  have := h.least _ hM k
  rw [lv_set k0 hkl _ _ k0, if_pos rfl] at this
  omega
theorem Least.lt {cs : List (Int × Ltl)} {n : Nat} {L : List Int} (hr : InR cs n) (h : Least cs n L) {i : Int} (h0 : 0 ≤ i) (h1 : i < n) : lv L i < n := by
  obtain ⟨M', hM', hlt⟩ := h.sol.small hr
  exact Int.lt_of_le_of_lt (h.least M' hM' i) (hlt i h0 h1)
theorem Reach.trans {cs : List (Int × Ltl)} {a b c : Int} (h : Reach cs a b) (k : Reach cs b c) : Reach cs a c := by
  induction k with
  | refl => exact h
  | step _ hu ih => exact .step ih hu
end Go.TF
end
section
/- The roads' model; what must be in any case of the model. -/
namespace Go.TF
open Go Go.RowKit Go.Proofs
set_option maxRecDepth 20000

section
variable {p : Prg} {h : Heap} (hp : RoadsAt p h)
include hp
end
end Go.TF
end
section
/- The laws of sums: each returns true. -/
namespace Go.TF
open Go Go.RowKit Go.Proofs
set_option maxRecDepth 20000

theorem mod_fok {p : Prg} {f : List Fct} {rs : List Int} (h : checkProg p = 0) (m : ModK p (strataM p) (numS (strataM p)) f rs) : FOk p.preds.xs f := (modK_mj (chk_rok h) (strataM_least h).sol (chk_nil h) m).fok
/-- The same rules, in whatever order: the same follows. -/
theorem mod_rules {a b : Prg} {f g : List Fct} {rs rs' : List Int} (hp : a.preds.xs = b.preds.xs) (hR : ∀ r, r ∈ a.rules.xs ↔ r ∈ b.rules.xs) (ha : checkProg a = 0) (_ : checkProg b = 0)
    (m : ModK a (strataM a) (numS (strataM a)) f rs) (m2 : ModK b (strataM b) (numS (strataM b)) g rs') : f = g ∧ rs = rs' := by
  have e : strataM b = strataM a := strataM_eq (hp ▸ least_rules (fun r hr => (hR r).1 hr) (strataM_least ha) fun r hr => (hR r).2 hr)
  rw [e] at m2
  have := (modK_rules hp hR (chk_rok ha) (chk_nil ha) m).2
  exact ⟨(m2.uniq this).1, (m2.uniq this).2⟩
set_option maxHeartbeats 4000000 in
theorem SumMore_ok (B : Base) (hB : B.ok) (p : Prg) (hp : p.In B.h) (hnm : p.Nm) (q : Prg) (hq : q.In B.h) (hnq : q.Nm) : Fn Tryz.prog 13 [p.val, q.val] B (fun v _ => v = .bool true) := by
  refine Fn.of Tryz.func13 rfl Tryz.ntmps13 (by kernel_rfl) (by simp) ?_
  intro e
  have I := Inv.start hB
  refine WP.seq ?_
  refine WP.region ?_
  refine Ops.go (O.box (v := .agg #[_, _]) I rfl rfl ?_)
  intro b2 w I
  refine Ops.go (O.box (v := .agg #[_, _]) I rfl rfl ?_)
  intro b3 w I
  refine Ops.y (v := .bool _) (Y.assign rfl) ?_
  refine Ops.nil ?_
  refine WP.seq ?_
  refine WP.region ?_
  refine Ops.y (v := .agg #[_, _]) (Y.loadv ty_25 rfl (I.rdbox 1 rfl 0 2) rfl rfl) ?_
  refine Ops.y (v := .agg #[_, _]) (Y.loadv ty_25 rfl (I.rdbox 0 rfl 0 2) rfl rfl) ?_
  refine Ops.go (O.call I Tryz.call59 (Union_ok _ I.base_ok p q hp hq hnm hnq) rfl ?_)
  rintro _ h1 w I le1 ⟨a, rfl, a1, a2, ai, an⟩
  refine Ops.y (v := .tuple #[_, _]) (Y.move rfl) ?_
  refine Ops.y (v := .agg #[_, _]) (Y.extract rfl rfl) ?_
  refine Ops.y (v := .int .i64 _) (Y.extract rfl rfl) ?_
  refine Ops.go (O.alloc I Tryz.zeroValue25 rfl ?_)
  intro b5 w I
  refine Ops.go (O.store (v := .agg #[_, _]) I ty_25 0 rfl rfl rfl rfl rfl rfl (Nat.le_of_ble_eq_true rfl) rfl ?_)
  intro w I
  refine Ops.y (v := .int .i64 _) (Y.assign rfl) ?_
  refine Ops.nil ?_
  have hp := hp.le le1
  have hq := hq.le le1
  refine WP.seq ?_
  refine WP.region ?_
  refine Ops.y (v := .agg #[_, _]) (Y.loadv ty_25 rfl (I.rdbox 1 rfl 0 2) rfl rfl) ?_
  refine Ops.y (v := .agg #[_, _]) (Y.loadv ty_25 rfl (I.rdbox 2 rfl 0 2) rfl rfl) ?_
  refine Ops.go (O.call I Tryz.call59 (Union_ok _ I.base_ok q p hq hp hnq hnm) rfl ?_)
  rintro _ h2 w I le2 ⟨b, rfl, d1, d2, bi, bn⟩
  refine Ops.y (v := .tuple #[_, _]) (Y.move rfl) ?_
  refine Ops.y (v := .agg #[_, _]) (Y.extract rfl rfl) ?_
  refine Ops.y (v := .int .i64 _) (Y.extract rfl rfl) ?_
  refine Ops.go (O.alloc I Tryz.zeroValue25 rfl ?_)
  intro b7 w I
  refine Ops.go (O.store (v := .agg #[_, _]) I ty_25 0 rfl rfl rfl rfl rfl rfl (Nat.le_of_ble_eq_true rfl) rfl ?_)
  intro w I
  refine Ops.y (v := .int .i64 _) (Y.assign rfl) ?_
  refine Ops.nil ?_
  have hp := hp.le le2
  have ai := ai.le le2
  by_cases e1 : (unionOf p q).2 ≠ 0
  · refine WP.seq ?_
    refine WP.seq ?_
    refine WP.region ?_
    refine Ops.y (v := .int .i64 _) (Y.move rfl) ?_
    refine Ops.y (v := .bool true) (Y.dec_t (Y.nei rfl rfl) (e1)) ?_
    refine Ops.y (v := .bool _) (Y.move rfl) ?_
    refine Ops.gf rfl ?_
    refine Ops.gf rfl ?_
    refine Ops.y (v := .bool _) (Y.pick_t rfl rfl) ?_
    refine Ops.nil ?_
    refine WP.cond_t rfl ?_
    refine WP.seq ?_
    refine WP.region ?_
    refine Ops.go (O.callv I Tryz.call60 (sumBegun_ok _ I.base_ok) rfl ?_)
    intro w I
    refine Ops.y (v := .bool _) (Y.assign rfl) ?_
    refine Ops.nil ?_
    refine WP.ret ?_
    repeat (first | refine thenE_ret ?_ | refine blockE_ret ?_)
    exact retQ.mk (vs := [.bool _]) rfl ⟨rfl, trivial⟩ I.ext_of (rfl)
  by_cases e2 : (unionOf q p).2 ≠ 0
  · refine WP.seq ?_
    refine WP.seq ?_
    refine WP.region ?_
    refine Ops.y (v := .int .i64 _) (Y.move rfl) ?_
    refine Ops.y (v := .bool false) (Y.dec_f (Y.nei rfl rfl) (e1)) ?_
    refine Ops.y (v := .bool _) (Y.move rfl) ?_
    refine Ops.ygt rfl (v := .int .i64 _) (Y.move rfl) ?_
    refine Ops.ygt rfl (v := .bool true) (Y.dec_t (Y.nei rfl rfl) (e2)) ?_
    refine Ops.y (v := .bool _) (Y.pick_f rfl rfl) ?_
    refine Ops.nil ?_
    refine WP.cond_t rfl ?_
    refine WP.seq ?_
    refine WP.region ?_
    refine Ops.go (O.callv I Tryz.call60 (sumBegun_ok _ I.base_ok) rfl ?_)
    intro w I
    refine Ops.y (v := .bool _) (Y.assign rfl) ?_
    refine Ops.nil ?_
    refine WP.ret ?_
    repeat (first | refine thenE_ret ?_ | refine blockE_ret ?_)
    exact retQ.mk (vs := [.bool _]) rfl ⟨rfl, trivial⟩ I.ext_of (rfl)
  have e1' := Decidable.not_not.1 e1
  have e2' := Decidable.not_not.1 e2
  obtain ⟨cp, cq, hpq, cm, eu⟩ := unionOf_ok e1'
  obtain ⟨_, _, _, cm2, eu2⟩ := unionOf_ok e2'
  rw [eu] at a1 a2
  rw [eu2] at d1 d2
  dsimp only at a1 a2 d1 d2
  have ca : checkProg a = 0 := (checkProg_congr (b := mkP p.preds.xs (p.rules.xs ++ q.rules.xs)) a1 a2).trans cm
  have cb : checkProg b = 0 := (checkProg_congr (b := mkP q.preds.xs (q.rules.xs ++ p.rules.xs)) d1 d2).trans cm2
  refine WP.seq ?_
  refine WP.seq ?_
  refine WP.region ?_
  refine Ops.y (v := .int .i64 _) (Y.move rfl) ?_
  refine Ops.y (v := .bool false) (Y.dec_f (Y.nei rfl rfl) (e1)) ?_
  refine Ops.y (v := .bool _) (Y.move rfl) ?_
  refine Ops.ygt rfl (v := .int .i64 _) (Y.move rfl) ?_
  refine Ops.ygt rfl (v := .bool false) (Y.dec_f (Y.nei rfl rfl) (e2)) ?_
  refine Ops.y (v := .bool _) (Y.pick_f rfl rfl) ?_
  refine Ops.nil ?_
  refine WP.cond_f rfl ?_
  refine WP.skip ?_
  refine WP.seq ?_
  refine WP.region ?_
  refine Ops.y (v := .agg #[_, _]) (Y.loadv ty_25 rfl (I.rdbox 1 rfl 0 2) rfl rfl) ?_
  refine Ops.go (O.call I Tryz.call28 (Model_ok _ I.base_ok a ai an) rfl ?_)
  rintro v38 h3 w I le3 hv
  rcases hv with ⟨h, _⟩ | ⟨_, m, r1, rfl, hm, mk⟩
  exact absurd ca h
  refine Ops.y (v := .tuple #[_, _]) (Y.move rfl) ?_
  refine Ops.y (v := .slice _ _ _) (Y.extract rfl rfl) ?_
  refine Ops.y (v := .int .i64 _) (Y.extract rfl rfl) ?_
  refine Ops.y (v := .slice _ _ _) (Y.assign rfl) ?_
  refine Ops.y (v := .int .i64 _) (Y.assign rfl) ?_
  refine Ops.nil ?_
  refine WP.seq ?_
  refine WP.region ?_
  refine Ops.y (v := .agg #[_, _]) (Y.loadv ty_25 rfl (I.rdbox 0 rfl 0 2) rfl rfl) ?_
  refine Ops.go (O.call I Tryz.call28 (Model_ok _ I.base_ok b (bi.le le3) bn) rfl ?_)
  rintro v43 h4 w I le4 hv
  rcases hv with ⟨h, _⟩ | ⟨_, n, r2, rfl, hn, nk⟩
  exact absurd cb h
  refine Ops.y (v := .tuple #[_, _]) (Y.move rfl) ?_
  refine Ops.y (v := .slice _ _ _) (Y.extract rfl rfl) ?_
  refine Ops.y (v := .int .i64 _) (Y.extract rfl rfl) ?_
  refine Ops.y (v := .slice _ _ _) (Y.assign rfl) ?_
  refine Ops.y (v := .int .i64 _) (Y.assign rfl) ?_
  refine Ops.nil ?_
  have hp := (hp.le le3).le le4
  have hm := hm.le le4
  refine WP.seq ?_
  refine WP.region ?_
  refine Ops.y (v := .agg #[_, _]) (Y.loadv ty_25 rfl (I.rdbox 3 rfl 0 2) rfl rfl) ?_
  refine Ops.go (O.call I Tryz.call28 (Model_ok _ I.base_ok p hp hnm) rfl ?_)
  rintro v48 h5 w I le5 hv
  rcases hv with ⟨h, _⟩ | ⟨_, x, r3, rfl, hx, xk⟩
  exact absurd cp h
  refine Ops.y (v := .tuple #[_, _]) (Y.move rfl) ?_
  refine Ops.y (v := .slice _ _ _) (Y.extract rfl rfl) ?_
  refine Ops.y (v := .int .i64 _) (Y.extract rfl rfl) ?_
  refine Ops.y (v := .slice _ _ _) (Y.assign rfl) ?_
  refine Ops.y (v := .int .i64 _) (Y.assign rfl) ?_
  refine Ops.nil ?_
  have hp := hp.le le5
  have hm := hm.le le5
  have hn := hn.le le5
  have hmn : m.xs = n.xs := (mod_rules (a1.trans (hpq.trans d1.symm)) (fun r => by rw [a2, d2, List.mem_append, List.mem_append]; exact Or.comm) ca cb mk nk).1
  refine WP.seq ?_
  refine WP.seq ?_
  refine WP.region ?_
  refine Ops.y (v := .int .i64 _) (Y.move rfl) ?_
  refine Ops.y (v := .bool false) (Y.dec_f (Y.nei rfl rfl) ((fun h => h rfl))) ?_
  refine Ops.y (v := .bool _) (Y.move rfl) ?_
  refine Ops.ygt rfl (v := .int .i64 _) (Y.move rfl) ?_
  refine Ops.ygt rfl (v := .bool false) (Y.dec_f (Y.nei rfl rfl) ((fun h => h rfl))) ?_
  refine Ops.y (v := .bool _) (Y.pick_f rfl rfl) ?_
  refine Ops.y (v := .bool _) (Y.move rfl) ?_
  refine Ops.ygt rfl (v := .int .i64 _) (Y.move rfl) ?_
  refine Ops.ygt rfl (v := .bool false) (Y.dec_f (Y.nei rfl rfl) ((fun h => h rfl))) ?_
  refine Ops.y (v := .bool _) (Y.pick_f rfl rfl) ?_
  refine Ops.y (v := .bool _) (Y.move rfl) ?_
  refine Ops.ygt rfl (v := .slice _ _ _) (Y.move rfl) ?_
  refine Ops.ygt rfl (v := .slice _ _ _) (Y.move rfl) ?_
  refine Ops.gt rfl (O.callv I Tryz.call21 (SameFacts_at _ I.base_ok m n hm hn hmn) rfl ?_)
  intro w I
  refine Ops.ygt rfl (v := .bool false) (Y.b (Y.not rfl) (rfl)) ?_
  refine Ops.y (v := .bool _) (Y.pick_f rfl rfl) ?_
  refine Ops.nil ?_
  refine WP.cond_f rfl ?_
  have okx := mod_fok cp xk
  have okm : FOk p.preds.xs m.xs := by rw [← a1]; exact mod_fok ca mk
  refine WP.skip ?_
  refine WP.seq ?_
  refine WP.region ?_
  refine Ops.y (v := .pointer (some ⟨_, _, none⟩)) (Y.fa0 fa_25_0 rfl) ?_
  refine Ops.y (v := .slice _ _ _) (Y.loadv ty_22 rfl (I.rdbox 3 rfl 0 1) rfl rfl) ?_
  refine Ops.y (v := .slice _ _ _) (Y.move rfl) ?_
  refine Ops.y (v := .slice _ _ _) (Y.move rfl) ?_
  refine Ops.go (O.callv I Tryz.call50 (Under_at _ I.base_ok p.preds hp.preds x m hx hm (underF p.preds.xs x.xs m.xs, 0) (underOf_of okx okm)) rfl ?_)
  intro w I
  refine Ops.y (v := .tuple #[_, _]) (Y.move rfl) ?_
  refine Ops.y (v := .bool _) (Y.extract rfl rfl) ?_
  refine Ops.y (v := .int .i64 _) (Y.extract rfl rfl) ?_
  refine Ops.y (v := .bool _) (Y.assign rfl) ?_
  refine Ops.y (v := .int .i64 _) (Y.assign rfl) ?_
  refine Ops.nil ?_
  have ai := ((ai.le le3).le le4).le le5
  cases hpo : posP a
  · refine WP.seq ?_
    refine WP.region ?_
    refine Ops.go (O.callv I Tryz.call60 (sumBegun_ok _ I.base_ok) rfl ?_)
    intro w I
    refine Ops.y (v := .bool _) (Y.move rfl) ?_
    refine Ops.ygt rfl (v := .int .i64 _) (Y.move rfl) ?_
    refine Ops.ygt rfl (v := .bool true) (Y.dec_t (Y.eqi rfl rfl) (rfl)) ?_
    refine Ops.y (v := .bool _) (Y.pick_t rfl rfl) ?_
    refine Ops.y (v := .bool _) (Y.move rfl) ?_
    refine Ops.ygt rfl (v := .agg #[_, _]) (Y.loadv ty_25 rfl (I.rdbox 1 rfl 0 2) rfl rfl) ?_
    refine Ops.gt rfl (O.callv I Tryz.call49 (hpo ▸ positive_ok _ I.base_ok a ai) rfl ?_)
    intro w I
    refine Ops.ygt rfl (v := .bool true) (Y.b (Y.not rfl) (rfl)) ?_
    refine Ops.ygt rfl (v := .bool _) (Y.move rfl) ?_
    refine Ops.gf rfl ?_
    refine Ops.ygt rfl (v := .bool _) (Y.pick_t rfl rfl) ?_
    refine Ops.y (v := .bool _) (Y.pick_t rfl rfl) ?_
    refine Ops.y (v := .bool _) (Y.assign rfl) ?_
    refine Ops.nil ?_
    refine WP.ret ?_
    repeat (first | refine thenE_ret ?_ | refine blockE_ret ?_)
    exact retQ.mk (vs := [.bool _]) rfl ⟨rfl, trivial⟩ I.ext_of (rfl)
  · have hu : underF p.preds.xs x.xs m.xs = true := by
      have := mod_sub (p := a) (q := p) a1.symm (fun r hr => by rw [a2]; exact List.mem_append_left _ hr) ca cp hpo mk xk
      rwa [a1] at this
    rw [hu]
    refine WP.seq ?_
    refine WP.region ?_
    refine Ops.go (O.callv I Tryz.call60 (sumBegun_ok _ I.base_ok) rfl ?_)
    intro w I
    refine Ops.y (v := .bool _) (Y.move rfl) ?_
    refine Ops.ygt rfl (v := .int .i64 _) (Y.move rfl) ?_
    refine Ops.ygt rfl (v := .bool true) (Y.dec_t (Y.eqi rfl rfl) (rfl)) ?_
    refine Ops.y (v := .bool _) (Y.pick_t rfl rfl) ?_
    refine Ops.y (v := .bool _) (Y.move rfl) ?_
    refine Ops.ygt rfl (v := .agg #[_, _]) (Y.loadv ty_25 rfl (I.rdbox 1 rfl 0 2) rfl rfl) ?_
    refine Ops.gt rfl (O.callv I Tryz.call49 (hpo ▸ positive_ok _ I.base_ok a ai) rfl ?_)
    intro w I
    refine Ops.ygt rfl (v := .bool false) (Y.b (Y.not rfl) (rfl)) ?_
    refine Ops.ygt rfl (v := .bool _) (Y.move rfl) ?_
    refine Ops.ygt rfl (v := .bool _) (Y.move rfl) ?_
    refine Ops.ygt rfl (v := .bool _) (Y.pick_f rfl rfl) ?_
    refine Ops.y (v := .bool _) (Y.pick_t rfl rfl) ?_
    refine Ops.y (v := .bool _) (Y.assign rfl) ?_
    refine Ops.nil ?_
    refine WP.ret ?_
    repeat (first | refine thenE_ret ?_ | refine blockE_ret ?_)
    exact retQ.mk (vs := [.bool _]) rfl ⟨rfl, trivial⟩ I.ext_of (rfl)
set_option maxHeartbeats 4000000 in
theorem SumLess_ok (B : Base) (hB : B.ok) (p : Prg) (hp : p.In B.h) (hnm : p.Nm) (n : Int) : Fn Tryz.prog 14 [p.val, .int .i64 n] B (fun v _ => v = .bool true) := by
  refine Fn.of Tryz.func14 rfl Tryz.ntmps14 (by kernel_rfl) (by simp) ?_
  intro e
  have I := Inv.start hB
  refine WP.seq ?_
  refine WP.region ?_
  refine Ops.go (O.box (v := .agg #[_, _]) I rfl rfl ?_)
  intro b2 w I
  refine Ops.y (v := .bool _) (Y.assign rfl) ?_
  refine Ops.nil ?_
  refine WP.seq ?_
  refine WP.region ?_
  refine Ops.y (v := .agg #[_, _]) (Y.loadv ty_25 rfl (I.rdbox 0 rfl 0 2) rfl rfl) ?_
  refine Ops.y (v := .int .i64 _) (Y.move rfl) ?_
  refine Ops.go (O.call I Tryz.call39 (Without_ok _ I.base_ok p hp hnm n) rfl ?_)
  rintro _ h1 w I le1 ⟨q, rfl, q1, q2, qi, qn⟩
  refine Ops.y (v := .tuple #[_, _]) (Y.move rfl) ?_
  refine Ops.y (v := .agg #[_, _]) (Y.extract rfl rfl) ?_
  refine Ops.y (v := .int .i64 _) (Y.extract rfl rfl) ?_
  refine Ops.go (O.alloc I Tryz.zeroValue25 rfl ?_)
  intro b5 w I
  refine Ops.go (O.store (v := .agg #[_, _]) I ty_25 0 rfl rfl rfl rfl rfl rfl (Nat.le_of_ble_eq_true rfl) rfl ?_)
  intro w I
  refine Ops.y (v := .int .i64 _) (Y.assign rfl) ?_
  refine Ops.nil ?_
  have hp := hp.le le1
  refine WP.seq ?_
  refine WP.seq ?_
  refine WP.region ?_
  refine Ops.y (v := .int .i64 _) (Y.move rfl) ?_
  refine Ops.y (v := .bool (decide _)) (Y.nei rfl rfl) ?_
  refine Ops.nil ?_
  refine WP.cond_dec rfl (fun h2 => ?_) (fun h2 => ?_)
  · refine WP.seq ?_
    refine WP.region ?_
    refine Ops.go (O.callv I Tryz.call60 (sumBegun_ok _ I.base_ok) rfl ?_)
    intro w I
    refine Ops.y (v := .bool _) (Y.assign rfl) ?_
    refine Ops.nil ?_
    refine WP.ret ?_
    repeat (first | refine thenE_ret ?_ | refine blockE_ret ?_)
    exact retQ.mk (vs := [.bool _]) rfl ⟨rfl, trivial⟩ I.ext_of (rfl)
  have e1 := Decidable.not_not.1 h2
  obtain ⟨cp, hn, eu⟩ := withoutOf_ok e1
  rw [eu] at q1 q2
  dsimp only at q1 q2
  obtain ⟨cq, hR⟩ := without_chk cp q1 q2
  refine WP.skip ?_
  refine WP.seq ?_
  refine WP.region ?_
  refine Ops.y (v := .agg #[_, _]) (Y.loadv ty_25 rfl (I.rdbox 1 rfl 0 2) rfl rfl) ?_
  refine Ops.go (O.call I Tryz.call61 (Strata_ok _ I.base_ok p hp hnm) rfl ?_)
  rintro v28 h2 w I le2 hS
  rcases hS with ⟨h0, _⟩ | ⟨_, k, hS, hk, rfl⟩
  exact absurd cp h0
  refine Ops.y (v := .tuple #[_, _]) (Y.move rfl) ?_
  refine Ops.y (v := .slice _ _ _) (Y.extract rfl rfl) ?_
  refine Ops.y (v := .int .i64 _) (Y.extract rfl rfl) ?_
  refine Ops.y (v := .slice _ _ _) (Y.assign rfl) ?_
  refine Ops.y (v := .int .i64 _) (Y.assign rfl) ?_
  refine Ops.nil ?_
  have hp := hp.le le2
  have qi := qi.le le2
  refine WP.seq ?_
  refine WP.region ?_
  refine Ops.y (v := .agg #[_, _]) (Y.loadv ty_25 rfl (I.rdbox 0 rfl 0 2) rfl rfl) ?_
  refine Ops.go (O.call I Tryz.call61 (Strata_ok _ I.base_ok q qi qn) rfl ?_)
  rintro v33 h3 w I le3 hT
  rcases hT with ⟨h0, _⟩ | ⟨_, l, hT, hl, rfl⟩
  exact absurd cq h0
  refine Ops.y (v := .tuple #[_, _]) (Y.move rfl) ?_
  refine Ops.y (v := .slice _ _ _) (Y.extract rfl rfl) ?_
  refine Ops.y (v := .int .i64 _) (Y.extract rfl rfl) ?_
  refine Ops.y (v := .slice _ _ _) (Y.assign rfl) ?_
  refine Ops.y (v := .int .i64 _) (Y.assign rfl) ?_
  refine Ops.nil ?_
  have hp := hp.le le3
  have qi := qi.le le3
  have hk := hk.le le3
  have hkl : k.xs.length = p.preds.xs.length := hS.sol.len
  have hll : l.xs.length = p.preds.xs.length := by rw [hT.sol.len, q1]
  have hle := strata_sub q1 hR cp cq
  rw [strataM_eq hS, strataM_eq hT] at hle
  have hsl := hl.small
  refine WP.seq ?_
  refine WP.seq ?_
  refine WP.region ?_
  refine Ops.y (v := .int .i64 _) (Y.move rfl) ?_
  refine Ops.y (v := .bool false) (Y.dec_f (Y.nei rfl rfl) ((fun h => h rfl))) ?_
  refine Ops.y (v := .bool _) (Y.move rfl) ?_
  refine Ops.ygt rfl (v := .int .i64 _) (Y.move rfl) ?_
  refine Ops.ygt rfl (v := .bool false) (Y.dec_f (Y.nei rfl rfl) ((fun h => h rfl))) ?_
  refine Ops.y (v := .bool _) (Y.pick_f rfl rfl) ?_
  refine Ops.y (v := .bool _) (Y.move rfl) ?_
  refine Ops.ygt rfl (v := .slice _ _ _) (Y.move rfl) ?_
  refine Ops.ygt rfl (v := .int .i64 _) (Y.lens Tryz.underlying45 rfl) ?_
  refine Ops.ygt rfl (v := .slice _ _ _) (Y.move rfl) ?_
  refine Ops.ygt rfl (v := .int .i64 _) (Y.lens Tryz.underlying45 rfl) ?_
  refine Ops.ygt rfl (v := .bool false) (Y.dec_f (Y.nei rfl rfl) ((by rw [hkl, hll]; exact fun h => h rfl))) ?_
  refine Ops.y (v := .bool _) (Y.pick_f rfl rfl) ?_
  refine Ops.nil ?_
  refine WP.cond_f rfl ?_
  refine WP.skip ?_
  refine WP.seq ?_
  refine WP.seq ?_
  refine WP.region ?_
  refine Ops.y (v := .int .i64 _) (Y.assign rfl) ?_
  refine Ops.nil ?_
  refine WP.block ?_
  refine WP.loopE (σ := Nat) (fun j => [(2, .pointer (some ⟨b2, 0, none⟩)), (5, .pointer (some ⟨b5, 0, none⟩)), (7, k.val), (9, l.val), (11, .int .i64 j)]) (fun j w => Inv B h3 [box b5 q.enc 25, box b2 p.enc 25] w ∧ j ≤ l.xs.length) (fun j => l.xs.length - j)
    ⟨0, ⟨rfl, rfl, rfl, rfl, rfl, trivial⟩, I, Nat.zero_le _⟩ ?_
  rintro j e w ⟨I, hj⟩
  refine WP.seq ?_
  refine WP.seq ?_
  refine WP.region ?_
  refine Ops.y (v := .int .i64 _) (Y.move rfl) ?_
  refine Ops.y (v := .slice _ _ _) (Y.move rfl) ?_
  refine Ops.y (v := .int .i64 _) (Y.lens Tryz.underlying45 rfl) ?_
  refine Ops.y (v := .bool (decide _)) (Y.lti rfl rfl) ?_
  refine Ops.nil ?_
  refine WP.cond_dec rfl (fun h9 => ?_) (fun h9 => ?_)
  · have hj' : j < l.xs.length := by omega
    have hj2 : j < k.xs.length := by omega
    have E1 := hl.at hj'
    have E2 := hk.at hj2
    have hlt := hle j
    rw [lv_get hj', lv_get hj2] at hlt
    refine WP.skip ?_
    refine WP.seq ?_
    refine WP.block ?_
    refine WP.seq ?_
    refine WP.regionQ mixed I (by kernel_rfl) ?_
    refine OpsQ.y (v := .slice _ _ _) (fun w I => Y.move rfl) ?_
    refine OpsQ.y (v := .int .i64 _) (fun w I => Y.move rfl) ?_
    refine OpsQ.y (v := .pointer (some ⟨_, _, none⟩)) (fun w I => Y.idxEl E1 Tryz.underlying45 Tryz.sizeOf3 rfl rfl (Int.natCast_nonneg _) rfl) ?_
    refine OpsQ.y (v := .int .i64 _) (fun w I => Y.loadv ty_3 rfl (I.rd (E1.rd.part 0 1)) rfl rfl) ?_
    refine OpsQ.y (v := .slice _ _ _) (fun w I => Y.move rfl) ?_
    refine OpsQ.y (v := .int .i64 _) (fun w I => Y.move rfl) ?_
    refine OpsQ.y (v := .pointer (some ⟨_, _, none⟩)) (fun w I => Y.idxEl E2 Tryz.underlying45 Tryz.sizeOf3 rfl rfl (Int.natCast_nonneg _) rfl) ?_
    refine OpsQ.y (v := .int .i64 _) (fun w I => Y.loadv ty_3 rfl (I.rd (E2.rd.part 0 1)) rfl rfl) ?_
    refine OpsQ.y (v := .bool false) (fun w I => Y.dec_f (Y.gti rfl rfl) ((by omega))) ?_
    refine OpsQ.nil ?_
    intro w I
    refine WP.cond_f rfl ?_
    refine WP.skip ?_
    refine WP.region ?_
    refine Ops.y (v := .int .i64 _) (Y.move rfl) ?_
    refine Ops.y (v := .int .i64 _) (Y.addi rfl rfl ⟨by omega, by omega⟩) ?_
    refine Ops.y (v := .int .i64 _) (Y.assign rfl) ?_
    refine Ops.nil ?_
    exact ⟨j + 1, ⟨⟨rfl, rfl, rfl, rfl, rfl, trivial⟩, I, by omega⟩, by omega⟩
  refine WP.exit ?_
  refine WP.seq ?_
  refine WP.region ?_
  refine Ops.y (v := .agg #[_, _]) (Y.loadv ty_25 rfl (I.rdbox 0 rfl 0 2) rfl rfl) ?_
  refine Ops.go (O.call I Tryz.call28 (Model_ok _ I.base_ok q qi qn) rfl ?_)
  rintro v67 h4 w I le4 hv
  rcases hv with ⟨h, _⟩ | ⟨_, x, r1, rfl, hx, xk⟩
  exact absurd cq h
  refine Ops.y (v := .tuple #[_, _]) (Y.move rfl) ?_
  refine Ops.y (v := .slice _ _ _) (Y.extract rfl rfl) ?_
  refine Ops.y (v := .int .i64 _) (Y.extract rfl rfl) ?_
  refine Ops.y (v := .slice _ _ _) (Y.assign rfl) ?_
  refine Ops.y (v := .int .i64 _) (Y.assign rfl) ?_
  refine Ops.nil ?_
  have hp := hp.le le4
  refine WP.seq ?_
  refine WP.region ?_
  refine Ops.y (v := .agg #[_, _]) (Y.loadv ty_25 rfl (I.rdbox 1 rfl 0 2) rfl rfl) ?_
  refine Ops.go (O.call I Tryz.call28 (Model_ok _ I.base_ok p hp hnm) rfl ?_)
  rintro v72 h5 w I le5 hv
  rcases hv with ⟨h, _⟩ | ⟨_, m, r2, rfl, hm, mk⟩
  exact absurd cp h
  refine Ops.y (v := .tuple #[_, _]) (Y.move rfl) ?_
  refine Ops.y (v := .slice _ _ _) (Y.extract rfl rfl) ?_
  refine Ops.y (v := .int .i64 _) (Y.extract rfl rfl) ?_
  refine Ops.y (v := .slice _ _ _) (Y.assign rfl) ?_
  refine Ops.y (v := .int .i64 _) (Y.assign rfl) ?_
  refine Ops.nil ?_
  have hp := hp.le le5
  have hx := hx.le le5
  have okm := mod_fok cp mk
  have okx : FOk p.preds.xs x.xs := by rw [← q1]; exact mod_fok cq xk
  refine WP.seq ?_
  refine WP.region ?_
  refine Ops.y (v := .pointer (some ⟨_, _, none⟩)) (Y.fa0 fa_25_0 rfl) ?_
  refine Ops.y (v := .slice _ _ _) (Y.loadv ty_22 rfl (I.rdbox 1 rfl 0 1) rfl rfl) ?_
  refine Ops.y (v := .slice _ _ _) (Y.move rfl) ?_
  refine Ops.y (v := .slice _ _ _) (Y.move rfl) ?_
  refine Ops.go (O.callv I Tryz.call50 (Under_at _ I.base_ok p.preds hp.preds x m hx hm (underF p.preds.xs x.xs m.xs, 0) (underOf_of okx okm)) rfl ?_)
  intro w I
  refine Ops.y (v := .tuple #[_, _]) (Y.move rfl) ?_
  refine Ops.y (v := .bool _) (Y.extract rfl rfl) ?_
  refine Ops.y (v := .int .i64 _) (Y.extract rfl rfl) ?_
  refine Ops.y (v := .bool _) (Y.assign rfl) ?_
  refine Ops.y (v := .int .i64 _) (Y.assign rfl) ?_
  refine Ops.nil ?_
  cases hpo : posP p
  · refine WP.seq ?_
    refine WP.region ?_
    refine Ops.go (O.callv I Tryz.call60 (sumBegun_ok _ I.base_ok) rfl ?_)
    intro w I
    refine Ops.y (v := .bool _) (Y.move rfl) ?_
    refine Ops.ygt rfl (v := .int .i64 _) (Y.move rfl) ?_
    refine Ops.ygt rfl (v := .bool true) (Y.dec_t (Y.eqi rfl rfl) (rfl)) ?_
    refine Ops.y (v := .bool _) (Y.pick_t rfl rfl) ?_
    refine Ops.y (v := .bool _) (Y.move rfl) ?_
    refine Ops.ygt rfl (v := .int .i64 _) (Y.move rfl) ?_
    refine Ops.ygt rfl (v := .bool true) (Y.dec_t (Y.eqi rfl rfl) (rfl)) ?_
    refine Ops.y (v := .bool _) (Y.pick_t rfl rfl) ?_
    refine Ops.y (v := .bool _) (Y.move rfl) ?_
    refine Ops.ygt rfl (v := .int .i64 _) (Y.move rfl) ?_
    refine Ops.ygt rfl (v := .bool true) (Y.dec_t (Y.eqi rfl rfl) (rfl)) ?_
    refine Ops.y (v := .bool _) (Y.pick_t rfl rfl) ?_
    refine Ops.y (v := .bool _) (Y.move rfl) ?_
    refine Ops.ygt rfl (v := .agg #[_, _]) (Y.loadv ty_25 rfl (I.rdbox 1 rfl 0 2) rfl rfl) ?_
    refine Ops.gt rfl (O.callv I Tryz.call49 (hpo ▸ positive_ok _ I.base_ok p hp) rfl ?_)
    intro w I
    refine Ops.ygt rfl (v := .bool true) (Y.b (Y.not rfl) (rfl)) ?_
    refine Ops.ygt rfl (v := .bool _) (Y.move rfl) ?_
    refine Ops.gf rfl ?_
    refine Ops.ygt rfl (v := .bool _) (Y.pick_t rfl rfl) ?_
    refine Ops.y (v := .bool _) (Y.pick_t rfl rfl) ?_
    refine Ops.y (v := .bool _) (Y.assign rfl) ?_
    refine Ops.nil ?_
    refine WP.ret ?_
    repeat (first | refine thenE_ret ?_ | refine blockE_ret ?_)
    exact retQ.mk (vs := [.bool _]) rfl ⟨rfl, trivial⟩ I.ext_of (rfl)
  · have hu : underF p.preds.xs x.xs m.xs = true := mod_sub q1 hR cp cq hpo mk xk
    rw [hu]
    refine WP.seq ?_
    refine WP.region ?_
    refine Ops.go (O.callv I Tryz.call60 (sumBegun_ok _ I.base_ok) rfl ?_)
    intro w I
    refine Ops.y (v := .bool _) (Y.move rfl) ?_
    refine Ops.ygt rfl (v := .int .i64 _) (Y.move rfl) ?_
    refine Ops.ygt rfl (v := .bool true) (Y.dec_t (Y.eqi rfl rfl) (rfl)) ?_
    refine Ops.y (v := .bool _) (Y.pick_t rfl rfl) ?_
    refine Ops.y (v := .bool _) (Y.move rfl) ?_
    refine Ops.ygt rfl (v := .int .i64 _) (Y.move rfl) ?_
    refine Ops.ygt rfl (v := .bool true) (Y.dec_t (Y.eqi rfl rfl) (rfl)) ?_
    refine Ops.y (v := .bool _) (Y.pick_t rfl rfl) ?_
    refine Ops.y (v := .bool _) (Y.move rfl) ?_
    refine Ops.ygt rfl (v := .int .i64 _) (Y.move rfl) ?_
    refine Ops.ygt rfl (v := .bool true) (Y.dec_t (Y.eqi rfl rfl) (rfl)) ?_
    refine Ops.y (v := .bool _) (Y.pick_t rfl rfl) ?_
    refine Ops.y (v := .bool _) (Y.move rfl) ?_
    refine Ops.ygt rfl (v := .agg #[_, _]) (Y.loadv ty_25 rfl (I.rdbox 1 rfl 0 2) rfl rfl) ?_
    refine Ops.gt rfl (O.callv I Tryz.call49 (hpo ▸ positive_ok _ I.base_ok p hp) rfl ?_)
    intro w I
    refine Ops.ygt rfl (v := .bool false) (Y.b (Y.not rfl) (rfl)) ?_
    refine Ops.ygt rfl (v := .bool _) (Y.move rfl) ?_
    refine Ops.ygt rfl (v := .bool _) (Y.move rfl) ?_
    refine Ops.ygt rfl (v := .bool _) (Y.pick_f rfl rfl) ?_
    refine Ops.y (v := .bool _) (Y.pick_t rfl rfl) ?_
    refine Ops.y (v := .bool _) (Y.assign rfl) ?_
    refine Ops.nil ?_
    refine WP.ret ?_
    repeat (first | refine thenE_ret ?_ | refine blockE_ret ?_)
    exact retQ.mk (vs := [.bool _]) rfl ⟨rfl, trivial⟩ I.ext_of (rfl)
end Go.TF
end
