/- Levels: the strata, raised from 0 until all hold. -/
import Derived.Test.YthgjilgghgkodaaProg1
namespace Go.TF
open Go Go.RowKit Go.Proofs
set_option maxRecDepth 20000

@[reducible] def iEnc (n : Int) : List Value := [.int .i64 n]
@[reducible] def vI (n : Int) : Value := .int .i64 n
@[reducible] def bEnc (n : Bool) : List Value := [.bool n]
@[reducible] def vB (n : Bool) : Value := .bool n
/-- What Levels and strata hand back. -/
def LevP (cs : List (Int × Ltl)) (n : Nat) (v : Value) (h : Heap) : Prop :=
  (∃ s : Sl Int, StrataR cs n (some s.xs) ∧ s.Is 1 iEnc h ∧ v = .tuple #[s.val, .bool true]) ∨ (StrataR cs n none ∧ v = .tuple #[.slice none 0 0, .bool false])
theorem boxIs {b : Nat} {L : List Int} {T : TypeId} {h : Heap} {c : Nat} (hb : h b = some (.cells (L.map vI).toArray T (0, 0))) (hs : L.length ≤ 140737488355328) : (⟨some ⟨b, 0, none⟩, c, L⟩ : Sl Int).Is 1 iEnc h :=
  ⟨fun i x hx => ⟨rfl, fun j v hv => by
    cases j with
    | zero => simp at hv; subst hv; simp only [Heap.cell, Sl.blk, Sl.off, Option.getD_some, hb]; simp [hx]
    | succ j => simp at hv⟩, hs⟩
theorem lv_some {L : List Int} {n : Nat} (hl : L.length = n) {i : Int} (h0 : 0 ≤ i) (h1 : i < n) : L[i.toNat]? = some (lv L i) := by
  have : i.toNat < L.length := by omega
  simp [lv, List.getD_eq_getElem?_getD, this]
structure LevS where
  bo : Nat
  b4 : Nat
  L : List Int
  ms : List Nat
def LevU (s : LevS) (b3 b2 b1 : Nat) (p : Prg) (L : List Int) : List SA := [box s.b4 [.slice (some ⟨s.bo, 0, none⟩) p.preds.xs.length p.preds.xs.length] 58, box s.bo (L.map vI) 3, box b3 [.bool false] 4, box b2 [.slice none 0 0] 58, box b1 p.enc 54]
structure LevJ (B : Base) (b3 b2 b1 : Nat) (p : Prg) (cs : List (Int × Ltl)) (s : LevS) (w : World) : Prop where
  inv : ∃ h1, B.h.le h1 ∧ Inv B h1 (LevU s b3 b2 b1 p s.L ++ s.ms.map markSA) w
  good : Good cs p.preds.xs.length s.L
  lt : ∀ i : Int, 0 ≤ i → i < p.preds.xs.length → lv s.L i < p.preds.xs.length
def LevJx (cs : List (Int × Ltl)) (n : Nat) (L : List Int) (j : Jmp) (L' : List Int) : Prop :=
  match j with
  | .ret => L' = L ∧ StrataR cs n none
  | .goto t => t = 0 ∧ ∃ c ∈ cs, L' = L.set c.1.toNat (lst L c) ∧ lv L c.1 < lst L c ∧ lst L c < n
  | .exit _ => False
set_option maxHeartbeats 4000000 in
theorem Levels_ok (B : Base) (hB : B.ok) (p : Prg) (hp : p.In B.h) (hr : InR (usesL p.rules.xs) p.preds.xs.length) (hn5 : p.preds.xs.length ≤ 5) : Fn Try.prog 76 [p.val] B (fun v h => LevP (usesL p.rules.xs) p.preds.xs.length v h) := by
  refine Fn.ofD Try.func76 rfl Try.ntmps76 (by kernel_rfl) (by simp) ?_
  intro e
  have I := Inv.start hB
  refine WPD.seq ?_
  refine WPD.region ?_
  refine Ops.go (O.box (v := .agg #[_, _]) I rfl rfl ?_)
  intro b1 w I
  refine Ops.go (O.alloc I Try.zeroValue58 rfl ?_)
  intro b2 w I
  refine Ops.go (O.alloc I Try.zeroValue4 rfl ?_)
  intro b3 w I
  refine Ops.nil ?_
  refine WPD.scopeL (σ := LevS) 0 (fun s => [(1, .pointer (some ⟨b1, 0, none⟩)), (2, .pointer (some ⟨b2, 0, none⟩)), (3, .pointer (some ⟨b3, 0, none⟩)), (4, .pointer (some ⟨s.b4, 0, none⟩))]) (fun s => s.ms.map mark)
    (LevJ B b3 b2 b1 p (usesL p.rules.xs)) (fun s => pot p.preds.xs.length s.L) rfl (by kernel_rfl) ?_ ?_
  · refine WPD.region ?_
    refine Ops.y (v := .pointer (some ⟨_, _, none⟩)) (Y.fa0 fa_54_0 rfl) ?_
    refine Ops.y (v := .slice _ _ _) (Y.loadv ty_32 rfl (I.rdbox 2 rfl 0 1) rfl rfl) ?_
    refine Ops.y (v := .int .i64 _) (Y.lens Try.underlying32 rfl) ?_
    refine Ops.go (O.make1 (n := p.preds.xs.length) (zc := (vI 0)) I Try.underlying58 et_3 rfl rfl rfl (by omega) (by omega) ?_)
    intro b11 w I
    refine Ops.go (O.alloc I Try.zeroValue58 rfl ?_)
    intro b4 w I
    refine Ops.go (O.store (v := .slice _ _ _) I ty_58 0 rfl rfl rfl rfl rfl rfl (Nat.le_of_ble_eq_true rfl) rfl ?_)
    intro w I
    refine Ops.nil ?_
    refine ⟨⟨b11, b4, List.replicate p.preds.xs.length 0, []⟩, ⟨rfl, rfl, rfl, rfl, trivial⟩, rfl, ⟨⟨B.h, Heap.le.refl _, ?_⟩, Good.zero _ _, fun i h0 h1 => by rw [lv_zero]; omega⟩⟩
    simp only [List.map_nil, List.append_nil, LevU, List.map_replicate]
    exact I
  · rintro ⟨bo, b4, L, ms⟩ e w ⟨⟨h1, gl1, I⟩, g, hlt⟩
    dsimp only at I g hlt ⊢
    refine WPD.seq ?_
    refine WPD.seq ?_
    refine WPD.region ?_
    refine Ops.y (v := .agg #[_, _]) (Y.loadv ty_54 rfl (I.rdbox 4 rfl 0 2) rfl rfl) ?_
    refine Ops.go (O.call I Try.call80 (uses_ok _ I.base_ok p) rfl ?_)
    rintro _ h2 w I le2 ⟨bp, rfl, hbp⟩
    refine Ops.nil ?_
    refine WPD.block ?_
    refine WPD.rangeFunc (σ := List Int) (LevU ⟨bo, b4, L, ms⟩ b3 b2 b1 p) (fun k L' => L' = L ∧ ∀ j, j < k → ∀ c, (usesL p.rules.xs)[j]? = some c → SatC L c) (LevJx (usesL p.rules.xs) p.preds.xs.length L) L I ⟨rfl, fun j hj => by omega⟩ rfl Try.call94
      (uses1_iter p bp h2 hbp (hp.rules.le (gl1.trans le2))) (fun _ => rfl) (by kernel_rfl) (by kernel_rfl) (by kernel_rfl) ?_ ?_ ?_
    · rintro l r ms' hg k c L' W hx gl I ⟨hL, hsat⟩
      obtain rfl : L = L' := hL.symm
      have hc := List.mem_of_getElem? hx
      have hh := hr.h c hc
      have hb := hr.b c hc
      have hlb := hlt _ hb.1 hb.2
      have hpb := g.pos c.2.atom.pred
      have hng := ng_le c.2
      have hlst : lst L c = lv L c.2.atom.pred + ng c.2 := rfl
      refine WPI.seq ?_
      refine WPI.region (by kernel_rfl) ?_
      refine Ops.y (v := .int .i64 _) (Y.assign rfl) ?_
      refine Ops.nil ?_
      refine WPI.region (by kernel_rfl) ?_
      refine Ops.go (O.alloc I Try.zeroValue71 rfl ?_)
      intro b6 w I
      refine Ops.go (O.store (v := .agg #[_, _, _]) I ty_71 0 rfl rfl rfl rfl rfl rfl (Nat.le_of_ble_eq_true rfl) rfl ?_)
      intro w I
      refine Ops.nil ?_
      refine ⟨hg, [box b6 c.2.enc 71], Heap.le.refl _, I, fun r' W2 I => ?_⟩
      refine WPI.block ?_
      refine WPI.seq ?_
      refine WPI.region (by kernel_rfl) ?_
      refine Ops.y (v := .slice _ _ _) (Y.loadv ty_58 rfl (I.rdbox 1 rfl 0 1) rfl rfl) ?_
      refine Ops.y (v := .pointer (some ⟨_, _, none⟩)) (Y.fa fa_71_1 rfl) ?_
      refine Ops.y (v := .pointer (some ⟨_, _, none⟩)) (Y.fa0 fa_35_0 rfl) ?_
      refine Ops.y (v := .int .i64 _) (Y.loadv ty_3 rfl (I.rdbox 0 rfl 1 1) rfl rfl) ?_
      refine Ops.y (v := .pointer (some ⟨_, _, none⟩)) (Y.idx Try.underlying58 Try.sizeOf3 rfl rfl hb.1 hb.2) ?_
      refine Ops.y (v := .int .i64 _) (Y.loadv ty_3 rfl (I.rdL 2 rfl (by omega) (lv_some g.len hb.1 hb.2)) rfl rfl) ?_
      refine Ops.y (v := .int .i64 _) (Y.assign rfl) ?_
      refine Ops.nil ?_
      refine WPI.seq ?_
      refine WPI.cutL (σ := Unit) (fun _ => [(1, .pointer (some ⟨b1, 0, none⟩)), (2, .pointer (some ⟨b2, 0, none⟩)), (3, .pointer (some ⟨b3, 0, none⟩)), (4, .pointer (some ⟨b4, 0, none⟩)), (5, .int .i64 c.1), (6, .pointer (some ⟨b6, 0, none⟩)), (7, .int .i64 (lst L c))])
        (fun _ w => Inv B hg ([box b6 c.2.enc 71] ++ (LevU ⟨bo, b4, L, ms⟩ b3 b2 b1 p L ++ (loopSA l r' :: ms'.map markSA))) w) ?_ ?_
      · refine WPI.seq ?_
        refine WPI.region (by kernel_rfl) ?_
        refine Ops.y (v := .pointer (some ⟨_, _, none⟩)) (Y.fa0 fa_71_0 rfl) ?_
        refine Ops.y (v := .bool _) (Y.loadv ty_4 rfl (I.rdbox 0 rfl 0 1) rfl rfl) ?_
        refine Ops.nil ?_
        refine WPI.cond rfl (fun hneg => ?_) (fun hneg => ?_)
        · refine WPI.region (by kernel_rfl) ?_
          refine Ops.y (v := .int .i64 _) (Y.move rfl) ?_
          refine Ops.y (v := .int .i64 _) (Y.addi rfl rfl ⟨by omega, by omega⟩) ?_
          refine Ops.y (v := .int .i64 _) (Y.assign rfl) ?_
          refine Ops.nil ?_
          exact ⟨(), ⟨rfl, rfl, rfl, rfl, rfl, rfl, by simp only [lst, ng, hneg]; rfl, trivial⟩, I⟩
        · refine WPI.skip ?_
          exact ⟨(), ⟨rfl, rfl, rfl, rfl, rfl, rfl, by simp only [lst, ng, hneg, Bool.false_eq_true, if_false, Int.add_zero]; rfl, trivial⟩, I⟩
      rintro _ e W2 I
      refine WPI.seq ?_
      refine WPI.seq ?_
      refine WPI.region (by kernel_rfl) ?_
      refine Ops.y (v := .int .i64 _) (Y.move rfl) ?_
      refine Ops.y (v := .slice _ _ _) (Y.loadv ty_58 rfl (I.rdbox 1 rfl 0 1) rfl rfl) ?_
      refine Ops.y (v := .int .i64 _) (Y.move rfl) ?_
      refine Ops.y (v := .pointer (some ⟨_, _, none⟩)) (Y.idx Try.underlying58 Try.sizeOf3 rfl rfl hh.1 hh.2) ?_
      refine Ops.y (v := .int .i64 _) (Y.loadv ty_3 rfl (I.rdL 2 rfl (by omega) (lv_some g.len hh.1 hh.2)) rfl rfl) ?_
      refine Ops.y (v := .bool (decide _)) (Y.lei rfl rfl) ?_
      refine Ops.nil ?_
      refine WPI.cond_dec rfl (fun h8 => ?_) (fun h8 => ?_)
      · refine WPI.exit ?_
        exact ⟨hg, L, [box b6 c.2.enc 71], Heap.le.refl _, I, rfl, fun j hj c' hc' => by
          rcases Nat.lt_succ_iff_lt_or_eq.1 hj with h' | rfl
          · exact hsat j h' c' hc'
          · rw [hx] at hc'; cases hc'; exact h8⟩
      refine WPI.skip ?_
      refine WPI.seq ?_
      refine WPI.seq ?_
      refine WPI.region (by kernel_rfl) ?_
      refine Ops.y (v := .int .i64 _) (Y.move rfl) ?_
      refine Ops.y (v := .pointer (some ⟨_, _, none⟩)) (Y.fa0 fa_54_0 rfl) ?_
      refine Ops.y (v := .slice _ _ _) (Y.loadv ty_32 rfl (I.rdbox 5 rfl 0 1) rfl rfl) ?_
      refine Ops.y (v := .int .i64 _) (Y.lens Try.underlying32 rfl) ?_
      refine Ops.y (v := .bool (decide _)) (Y.gei rfl rfl) ?_
      refine Ops.nil ?_
      refine WPI.cond_dec rfl (fun h9 => ?_) (fun h9 => ?_)
      · refine WPI.seq ?_
        refine WPI.region (by kernel_rfl) ?_
        refine Ops.go (O.store (v := .slice _ _ _) I ty_58 4 rfl rfl rfl rfl rfl rfl (Nat.le_of_ble_eq_true rfl) rfl ?_)
        intro w I
        refine Ops.go (O.store (v := .bool _) I ty_4 3 rfl rfl rfl rfl rfl rfl (Nat.le_of_ble_eq_true rfl) rfl ?_)
        intro w I
        refine Ops.nil ?_
        refine WPI.ret ?_
        repeat (first | refine thenE_ret ?_ | refine blockE_ret ?_)
        exact ⟨hg, L, [box b6 c.2.enc 71], Heap.le.refl _, I, rfl, g.fail hr hc h9⟩
      refine WPI.skip ?_
      refine WPI.seq ?_
      refine WPI.region (by kernel_rfl) ?_
      refine Ops.y (v := .slice _ _ _) (Y.loadv ty_58 rfl (I.rdbox 1 rfl 0 1) rfl rfl) ?_
      refine Ops.y (v := .int .i64 _) (Y.move rfl) ?_
      refine Ops.y (v := .int .i64 _) (Y.move rfl) ?_
      refine Ops.y (v := .pointer (some ⟨_, _, none⟩)) (Y.idx Try.underlying58 Try.sizeOf3 rfl rfl hh.1 hh.2) ?_
      refine Ops.go (O.store1 I ty_3 2 rfl rfl (i := c.1.toNat) (by omega) (by rw [g.len]; omega) rfl rfl rfl ?_)
      intro w I
      refine Ops.nil ?_
      refine WPI.goto ?_
      exact ⟨hg, L.set c.1.toNat (lst L c), [box b6 c.2.enc 71], Heap.le.refl _, I, rfl, c, hc, rfl, by omega, by omega⟩
    · rintro D h3 L' W gl I ⟨hL, hsat⟩
      obtain rfl : L = L' := hL.symm
      refine WPD.seq ?_
      refine WPD.region ?_
      refine Ops.y (v := .slice _ _ _) (Y.loadv ty_58 rfl (I.rdbox 0 rfl 0 1) rfl rfl) ?_
      refine Ops.go (O.store (v := .slice _ _ _) I ty_58 3 rfl rfl rfl rfl rfl rfl (Nat.le_of_ble_eq_true rfl) rfl ?_)
      intro w I
      refine Ops.go (O.store (v := .bool _) I ty_4 2 rfl rfl rfl rfl rfl rfl (Nat.le_of_ble_eq_true rfl) rfl ?_)
      intro w I
      refine Ops.nil ?_
      refine WPD.ret ?_
      repeat (first | refine thenD_ret ?_ | refine blockD_ret ?_)
      have hbo := I.at 1 rfl
      obtain ⟨h4, le4, hb4, I⟩ := (I.front 1 rfl).settle
      have hs : ∀ c ∈ usesL p.rules.xs, SatC L c := fun c hc => by
        obtain ⟨j, hj, rfl⟩ := List.getElem_of_mem hc
        exact hsat j hj _ (List.getElem?_eq_getElem hj)
      show doneQ _ _ _ _ _ _ _ _
      exact ⟨.inl rfl, D :: ms, [box b4 [.slice (some ⟨bo, 0, none⟩) p.preds.xs.length p.preds.xs.length] 58, box b3 [.bool true] 4, box b2 [.slice (some ⟨bo, 0, none⟩) p.preds.xs.length p.preds.xs.length] 58, box b1 p.enc 54], h4,
        [.slice (some ⟨bo, 0, none⟩) p.preds.xs.length p.preds.xs.length, .bool true], rfl, I, fun w2 I2 => ⟨⟨b2, 0, 1, false, _, rfl, ty_58, I2.rdbox 2 rfl 0 1, rfl, rfl⟩, ⟨b3, 0, 1, false, _, rfl, ty_4, I2.rdbox 1 rfl 0 1, rfl, rfl⟩, trivial⟩,
        .inl ⟨⟨some ⟨bo, 0, none⟩, p.preds.xs.length, L⟩, g.done hs, boxIs ((hb4 bo (by simp [box])).trans hbo) (by rw [g.len]; omega), by simp [tup, Sl.val, g.len]⟩⟩
    · rintro D c h3 L' W gl I hx
      cases c with
      | ret =>
        obtain ⟨hL, hno⟩ := hx
        obtain rfl : L = L' := hL.symm
        refine blockD_ret (thenD_ret ?_)
        show doneQ _ _ _ _ _ _ _ _
        exact ⟨.inl rfl, D :: ms, LevU ⟨bo, b4, L, ms⟩ b3 b2 b1 p L, h3, [.slice none 0 0, .bool false], rfl, I, fun w2 I2 => ⟨⟨b2, 0, 1, false, _, rfl, ty_58, I2.rdbox 3 rfl 0 1, rfl, rfl⟩, ⟨b3, 0, 1, false, _, rfl, ty_4, I2.rdbox 2 rfl 0 1, rfl, rfl⟩, trivial⟩, .inr ⟨hno, rfl⟩⟩
      | goto t =>
        obtain ⟨rfl, c, hc, rfl, k1, k2⟩ := hx
        have hh := hr.h c hc
        exact (show (0 = 0 ∧ _) from ⟨rfl, ⟨bo, b4, L.set c.1.toNat (lst L c), D :: ms⟩, ⟨⟨rfl, rfl, rfl, rfl, trivial⟩, rfl, ⟨⟨h3, (gl1.trans le2).trans gl, I⟩, g.raise hr hc, fun i h0 h1 => by
          rw [lv_set hh.1 (by rw [g.len]; exact hh.2) _ _ h0]; split
          · exact k2
          · exact hlt i h0 h1⟩⟩, pot_set_lt hh.1 (by rw [g.len]; exact hh.2) k1 (hlt _ hh.1 hh.2)⟩)
      | exit id => exact hx.elim
end Go.TF
