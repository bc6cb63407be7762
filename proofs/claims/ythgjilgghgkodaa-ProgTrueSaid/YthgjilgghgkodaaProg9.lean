/- Needs: who is needed, by a queue. -/
import Derived.Test.YthgjilgghgkodaaProg8
namespace Go.TF
open Go Go.RowKit Go.Proofs
set_option maxRecDepth 20000

def NeeP (p : Prg) (pr : Int) (v : Value) (h : Heap) : Prop :=
  (checkProg p ≠ 0 ∧ v = .tuple #[.slice none 0 0, .int .i64 (checkProg p)]) ∨ (checkProg p = 0 ∧ (pr < 0 ∨ (p.preds.xs.length : Int) ≤ pr) ∧ v = .tuple #[.slice none 0 0, .int .i64 7]) ∨
  (checkProg p = 0 ∧ (0 ≤ pr ∧ pr < p.preds.xs.length) ∧ ∃ s : Sl Bool, NeedsR (usesL p.rules.xs) p.preds.xs.length pr s.xs ∧ s.Is 1 bEnc h ∧ v = .tuple #[s.val, .int .i64 0])
theorem usesL_len {rs : List Rul} {m : Nat} (h : ∀ r ∈ rs, r.body.xs.length ≤ m) : (usesL rs).length ≤ rs.length * m := by
  induction rs with
  | nil => simp [usesL]
  | cons r rs ih =>
    have h1 := ih fun x hx => h x (List.mem_cons_of_mem _ hx)
    have h2 := h r (List.mem_cons_self ..)
    unfold usesL at h1 ⊢
    simp only [List.flatMap_cons, List.length_append, List.length_map, List.length_cons, Nat.add_mul]; omega
/-- What x uses, among the first k uses. -/
def succs (cs : List (Int × Ltl)) (x : Int) (k : Nat) : List Int := ((cs.take k).filter fun c => decide (c.1 = x)).map fun c => c.2.atom.pred
theorem succs_at {cs : List (Int × Ltl)} {x : Int} {k : Nat} {c : Int × Ltl} (hc : cs[k]? = some c) : succs cs x (k + 1) = succs cs x k ++ if c.1 = x then [c.2.atom.pred] else [] := by
  obtain ⟨hk, rfl⟩ := List.getElem?_eq_some_iff.1 hc
  unfold succs
  rw [List.take_succ_eq_append_getElem hk, List.filter_append, List.map_append]
  congr 1
  by_cases e : cs[k].1 = x <;> simp [e]
theorem succs_len (cs : List (Int × Ltl)) (x : Int) (k : Nat) : (succs cs x k).length ≤ cs.length := by
  unfold succs
  rw [List.length_map]
  exact Nat.le_trans (List.length_filter_le ..) (by simp; omega)
theorem mem_succs {cs : List (Int × Ltl)} {x y : Int} : y ∈ succs cs x cs.length ↔ Uses cs x y := by
  unfold succs Uses
  rw [List.take_length]
  simp [and_assoc]
structure NdS where
  g : Nat
  o : Nat
  c : Nat
  q : List Int
  N : List Bool
  ms : List Nat
@[reducible] def NdU (b8 bo b2 : Nat) (p : Prg) (g o c : Nat) (q : List Int) (N : List Bool) : List SA := [box b8 [.slice (some ⟨g, o, none⟩) (q.map vI).length c] 58, ownQ 3 g o c (q.map vI), box bo (N.map vB) 4, box b2 p.enc 54]
structure NdJ (B : Base) (b8 bo b2 : Nat) (p : Prg) (pr : Int) (s : NdS) (w : World) : Prop where
  inv : ∃ h1, B.h.le h1 ∧ Inv B h1 (NdU b8 bo b2 p s.g s.o s.c s.q s.N ++ s.ms.map markSA) w
  len : s.N.length = p.preds.xs.length
  snd : ∀ i : Int, 0 ≤ i → i < p.preds.xs.length → bv s.N i = true → Reach (usesL p.rules.xs) pr i
  qin : ∀ x ∈ s.q, (0 ≤ x ∧ x < p.preds.xs.length) ∧ Reach (usesL p.rules.xs) pr x
  clo : ∀ c ∈ usesL p.rules.xs, bv s.N c.1 = true → bv s.N c.2.atom.pred = true ∨ c.2.atom.pred ∈ s.q
  has : bv s.N pr = true ∨ pr ∈ s.q
  small : s.q.length ≤ 1 + 24 * trues s.N
set_option maxHeartbeats 8000000 in
theorem Needs_ok (B : Base) (hB : B.ok) (p : Prg) (hp : p.In B.h) (hnm : p.Nm) (pr : Int) : Fn Try.prog 38 [p.val, .int .i64 pr] B (fun v h => NeeP p pr v h) := by
  refine Fn.ofD Try.func38 rfl Try.ntmps38 (by kernel_rfl) (by simp) ?_
  intro e
  have I := Inv.start hB
  refine WPD.seq ?_
  refine WPD.region ?_
  refine Ops.go (O.box (v := .agg #[_, _]) I rfl rfl ?_)
  intro b2 w I
  refine Ops.y (v := .slice _ _ _) (Y.assign rfl) ?_
  refine Ops.y (v := .int .i64 _) (Y.assign rfl) ?_
  refine Ops.nil ?_
  refine WPD.seq ?_
  refine WPD.seq ?_
  refine WPD.region ?_
  refine Ops.y (v := .agg #[_, _]) (Y.loadv ty_54 rfl (I.rdbox 0 rfl 0 2) rfl rfl) ?_
  refine Ops.go (O.callv I Try.call33 (PCheck_ok _ I.base_ok p hp hnm) rfl ?_)
  intro w I
  refine Ops.y (v := .int .i64 _) (Y.assign rfl) ?_
  refine Ops.nil ?_
  refine WPD.seq ?_
  refine WPD.region ?_
  refine Ops.y (v := .int .i64 _) (Y.move rfl) ?_
  refine Ops.y (v := .bool (decide _)) (Y.nei rfl rfl) ?_
  refine Ops.nil ?_
  refine WPD.cond_dec rfl (fun h => ?_) (fun h => ?_)
  · refine WPD.seq ?_
    refine WPD.region ?_
    refine Ops.y (v := .int .i64 _) (Y.move rfl) ?_
    refine Ops.y (v := .slice _ _ _) (Y.assign rfl) ?_
    refine Ops.y (v := .int .i64 _) (Y.assign rfl) ?_
    refine Ops.nil ?_
    refine WPD.ret ?_
    repeat (first | refine thenD_ret ?_ | refine blockD_ret ?_)
    show doneQ _ _ _ _ _ _ _ _
    exact ⟨.inl rfl, [], _, _, [.slice none 0 0, .int .i64 (checkProg p)], rfl, by rw [List.map_nil, List.append_nil]; exact I, fun w2 I2 => ⟨rfl, rfl, trivial⟩, .inl ⟨h, rfl⟩⟩
  have h0 := Decidable.not_not.1 h
  obtain ⟨k1, k2, k3, M, hM⟩ := checkProg_ok h0
  have hr := inR_of k3
  have hcl : (usesL p.rules.xs).length ≤ 24 := by
    have := usesL_len (m := 3) fun r hr => (checkRule_ok (rulesErr_zero.1 k3 r hr)).2.1
    omega
  refine WPD.skip ?_
  refine WPD.seq ?_
  refine WPD.seq ?_
  by_cases o0 : pr < 0
  · refine WPD.region ?_
    refine Ops.y (v := .int .i64 _) (Y.move rfl) ?_
    refine Ops.y (v := .bool true) (Y.dec_t (Y.lti rfl rfl) (o0)) ?_
    refine Ops.y (v := .bool _) (Y.move rfl) ?_
    refine Ops.gf rfl ?_
    refine Ops.gf rfl ?_
    refine Ops.gf rfl ?_
    refine Ops.gf rfl ?_
    refine Ops.gf rfl ?_
    refine Ops.y (v := .bool _) (Y.pick_t rfl rfl) ?_
    refine Ops.nil ?_
    refine WPD.cond_t rfl ?_
    refine WPD.seq ?_
    refine WPD.region ?_
    refine Ops.y (v := .slice _ _ _) (Y.assign rfl) ?_
    refine Ops.y (v := .int .i64 _) (Y.assign rfl) ?_
    refine Ops.nil ?_
    refine WPD.ret ?_
    repeat (first | refine thenD_ret ?_ | refine blockD_ret ?_)
    show doneQ _ _ _ _ _ _ _ _
    exact ⟨.inl rfl, [], _, _, [.slice none 0 0, .int .i64 7], rfl, by rw [List.map_nil, List.append_nil]; exact I, fun w2 I2 => ⟨rfl, rfl, trivial⟩, .inr (.inl ⟨h0, by omega, rfl⟩)⟩
  by_cases o1 : (p.preds.xs.length : Int) ≤ pr
  · refine WPD.region ?_
    refine Ops.y (v := .int .i64 _) (Y.move rfl) ?_
    refine Ops.y (v := .bool false) (Y.dec_f (Y.lti rfl rfl) (o0)) ?_
    refine Ops.y (v := .bool _) (Y.move rfl) ?_
    refine Ops.ygt rfl (v := .int .i64 _) (Y.move rfl) ?_
    refine Ops.ygt rfl (v := .pointer (some ⟨_, _, none⟩)) (Y.fa0 fa_54_0 rfl) ?_
    refine Ops.ygt rfl (v := .slice _ _ _) (Y.loadv ty_32 rfl (I.rdbox 0 rfl 0 1) rfl rfl) ?_
    refine Ops.ygt rfl (v := .int .i64 _) (Y.lens Try.underlying32 rfl) ?_
    refine Ops.ygt rfl (v := .bool true) (Y.dec_t (Y.gei rfl rfl) (o1)) ?_
    refine Ops.y (v := .bool _) (Y.pick_f rfl rfl) ?_
    refine Ops.nil ?_
    refine WPD.cond_t rfl ?_
    refine WPD.seq ?_
    refine WPD.region ?_
    refine Ops.y (v := .slice _ _ _) (Y.assign rfl) ?_
    refine Ops.y (v := .int .i64 _) (Y.assign rfl) ?_
    refine Ops.nil ?_
    refine WPD.ret ?_
    repeat (first | refine thenD_ret ?_ | refine blockD_ret ?_)
    show doneQ _ _ _ _ _ _ _ _
    exact ⟨.inl rfl, [], _, _, [.slice none 0 0, .int .i64 7], rfl, by rw [List.map_nil, List.append_nil]; exact I, fun w2 I2 => ⟨rfl, rfl, trivial⟩, .inr (.inl ⟨h0, by omega, rfl⟩)⟩
  refine WPD.region ?_
  refine Ops.y (v := .int .i64 _) (Y.move rfl) ?_
  refine Ops.y (v := .bool false) (Y.dec_f (Y.lti rfl rfl) (o0)) ?_
  refine Ops.y (v := .bool _) (Y.move rfl) ?_
  refine Ops.ygt rfl (v := .int .i64 _) (Y.move rfl) ?_
  refine Ops.ygt rfl (v := .pointer (some ⟨_, _, none⟩)) (Y.fa0 fa_54_0 rfl) ?_
  refine Ops.ygt rfl (v := .slice _ _ _) (Y.loadv ty_32 rfl (I.rdbox 0 rfl 0 1) rfl rfl) ?_
  refine Ops.ygt rfl (v := .int .i64 _) (Y.lens Try.underlying32 rfl) ?_
  refine Ops.ygt rfl (v := .bool false) (Y.dec_f (Y.gei rfl rfl) (o1)) ?_
  refine Ops.y (v := .bool _) (Y.pick_f rfl rfl) ?_
  refine Ops.nil ?_
  refine WPD.cond_f rfl ?_
  have q0 : 0 ≤ pr := by omega
  have q1 : pr < p.preds.xs.length := by omega
  refine WPD.skip ?_
  refine WPD.seq ?_
  refine WPD.region ?_
  refine Ops.y (v := .pointer (some ⟨_, _, none⟩)) (Y.fa0 fa_54_0 rfl) ?_
  refine Ops.y (v := .slice _ _ _) (Y.loadv ty_32 rfl (I.rdbox 0 rfl 0 1) rfl rfl) ?_
  refine Ops.y (v := .int .i64 _) (Y.lens Try.underlying32 rfl) ?_
  refine Ops.go (O.make1 (n := p.preds.xs.length) (zc := (vB false)) I Try.underlying61 et_4 rfl rfl rfl (by omega) (by omega) ?_)
  intro b29 w I
  refine Ops.y (v := .slice _ _ _) (Y.assign rfl) ?_
  refine Ops.nil ?_
  rw [← List.map_replicate (f := vB)] at I
  refine WPD.seq ?_
  refine WPD.region ?_
  refine Ops.y (v := .int .i64 _) (Y.move rfl) ?_
  refine Ops.go (O.mkbox (cs := [vI pr]) I Try.underlying58 Try.sizeOf3 Try.zeroValue3 (by decide) (by decide) rfl rfl ?_)
  intro b31 w I
  refine Ops.go (O.alloc I Try.zeroValue58 rfl ?_)
  intro b8 w I
  refine Ops.go (O.store (v := .slice _ _ _) I ty_58 0 rfl rfl rfl rfl rfl rfl (Nat.le_of_ble_eq_true rfl) rfl ?_)
  intro w I
  refine Ops.nil ?_
  have I := I.toQ 1 rfl
  refine WPD.seq ?_
  refine WPD.block ?_
  refine WPD.loop (σ := NdS) (fun s => [(2, .pointer (some ⟨b2, 0, none⟩)), (7, .slice (some ⟨b29, 0, none⟩) p.preds.xs.length p.preds.xs.length), (8, .pointer (some ⟨b8, 0, none⟩))]) (fun s => s.ms.map mark) (NdJ B b8 b29 b2 p pr) (fun s => 25 * (p.preds.xs.length - trues s.N) + s.q.length)
    ⟨⟨b31, 0, 1, [pr], List.replicate p.preds.xs.length false, []⟩, ⟨rfl, rfl, rfl, trivial⟩, rfl, ⟨⟨B.h, Heap.le.refl _, by rw [List.map_nil, List.append_nil]; exact I⟩, by simp, (fun i _ _ h => by rw [bv_none] at h; cases h), (fun x hx => by
      rw [List.mem_singleton.1 hx]; exact ⟨⟨q0, q1⟩, .refl⟩), (fun c _ h => by rw [bv_none] at h; cases h), .inr (List.mem_singleton.2 rfl), by simp⟩⟩ ?_
  rintro ⟨g, o, c, q, N, ms⟩ e w ⟨⟨h1, gl1, I⟩, hlen, hsnd, hqin, hclo, hhas, hsmall⟩
  dsimp only at I hlen hsnd hqin hclo hhas hsmall ⊢
  have htr := trues_le N
  refine WPD.seq ?_
  refine WPD.seq ?_
  refine WPD.region ?_
  refine Ops.y (v := .slice _ _ _) (Y.loadv ty_58 rfl (I.rdbox 0 rfl 0 1) rfl rfl) ?_
  refine Ops.y (v := .int .i64 _) (Y.lens Try.underlying58 rfl) ?_
  refine Ops.y (v := .bool (decide _)) (Y.gti rfl rfl) ?_
  refine Ops.nil ?_
  refine WPD.cond_dec rfl (fun h8 => ?_) (fun h8 => ?_)
  · cases q with
    | nil => exact absurd h8 (by simp)
    | cons x q =>
    obtain ⟨⟨x0, x1⟩, hxr⟩ := hqin x (List.mem_cons_self ..)
    have hqc : (q.map vI).length + 1 ≤ c := by obtain ⟨_, _, hc, _⟩ := I.at 1 rfl; simpa using hc
    refine WPD.skip ?_
    refine WPD.block ?_
    refine WPD.seq ?_
    refine WPD.region ?_
    refine Ops.y (v := .slice _ _ _) (Y.loadv ty_58 rfl (I.rdbox 0 rfl 0 1) rfl rfl) ?_
    refine Ops.y (v := .pointer (some ⟨_, _, none⟩)) (Y.idx Try.underlying58 Try.sizeOf3 rfl rfl (Int.le_refl _) h8) ?_
    refine Ops.y (v := .int .i64 _) (Y.loadv ty_3 rfl (I.rdQ 1 rfl (i := 0) rfl) rfl rfl) ?_
    refine Ops.go (O.alloc I Try.zeroValue3 rfl ?_)
    intro b9 w I
    refine Ops.go (O.store (v := .int .i64 _) I ty_3 0 rfl rfl rfl rfl rfl rfl (Nat.le_of_ble_eq_true rfl) rfl ?_)
    intro w I
    refine Ops.nil ?_
    refine WPD.seq ?_
    refine WPD.region ?_
    refine Ops.y (v := .slice _ _ _) (Y.loadv ty_58 rfl (I.rdbox 1 rfl 0 1) rfl rfl) ?_
    refine Ops.y (v := .slice _ _ _) (Y.cutQ Try.underlying58 Try.sizeOf3 rfl hqc rfl rfl) ?_
    have I := I.popQ 2 rfl
    refine Ops.go (O.store (v := .slice _ _ _) I ty_58 1 rfl rfl rfl rfl rfl rfl (Nat.le_of_ble_eq_true rfl) rfl ?_)
    intro w I
    refine Ops.nil ?_
    cases ht : bv N x
    case true =>
      refine WPD.seq ?_
      refine WPD.seq ?_
      refine WPD.region ?_
      refine Ops.y (v := .slice _ _ _) (Y.move rfl) ?_
      refine Ops.y (v := .int .i64 _) (Y.loadv ty_3 rfl (I.rdbox 0 rfl 0 1) rfl rfl) ?_
      refine Ops.y (v := .pointer (some ⟨_, _, none⟩)) (Y.idx Try.underlying61 Try.sizeOf4 rfl rfl x0 x1) ?_
      refine Ops.y (v := .bool true) (Y.b (Y.loadv ty_4 rfl (I.rdL 3 rfl (by omega) (bv_some hlen x0 x1)) rfl rfl) (ht)) ?_
      refine Ops.nil ?_
      refine WPD.cond_t rfl ?_
      refine WPD.exit ?_
      exact ⟨⟨g, if c = 1 then o else o + 1, c - 1, q, N, ms⟩, ⟨⟨rfl, rfl, rfl, trivial⟩, rfl, ⟨⟨h1, gl1, I.drop⟩, hlen, hsnd, fun y hy => hqin y (List.mem_cons_of_mem _ hy), fun d hd hb => by
        rcases hclo d hd hb with h | h
        · exact .inl h
        · rcases List.mem_cons.1 h with e | h
          · exact .inl (by rw [e]; exact ht)
          · exact .inr h, by
        rcases hhas with h | h
        · exact .inl h
        · rcases List.mem_cons.1 h with e | h
          · exact .inl (by rw [e]; exact ht)
          · exact .inr h, by simp only [List.length_cons] at hsmall; dsimp only; omega⟩⟩, by simp only [List.length_cons]; omega⟩
    refine WPD.seq ?_
    refine WPD.seq ?_
    refine WPD.region ?_
    refine Ops.y (v := .slice _ _ _) (Y.move rfl) ?_
    refine Ops.y (v := .int .i64 _) (Y.loadv ty_3 rfl (I.rdbox 0 rfl 0 1) rfl rfl) ?_
    refine Ops.y (v := .pointer (some ⟨_, _, none⟩)) (Y.idx Try.underlying61 Try.sizeOf4 rfl rfl x0 x1) ?_
    refine Ops.y (v := .bool false) (Y.b (Y.loadv ty_4 rfl (I.rdL 3 rfl (by omega) (bv_some hlen x0 x1)) rfl rfl) (ht)) ?_
    refine Ops.nil ?_
    refine WPD.cond_f rfl ?_
    refine WPD.skip ?_
    refine WPD.seq ?_
    refine WPD.region ?_
    refine Ops.y (v := .slice _ _ _) (Y.move rfl) ?_
    refine Ops.y (v := .int .i64 _) (Y.loadv ty_3 rfl (I.rdbox 0 rfl 0 1) rfl rfl) ?_
    refine Ops.y (v := .pointer (some ⟨_, _, none⟩)) (Y.idx Try.underlying61 Try.sizeOf4 rfl rfl x0 x1) ?_
    refine Ops.go (O.store1 I ty_4 3 rfl rfl (i := x.toNat) (v := true) (by omega) (by rw [hlen]; omega) rfl rfl rfl ?_)
    intro w I
    refine Ops.nil ?_
    refine WPD.seq ?_
    refine WPD.region ?_
    refine Ops.y (v := .agg #[_, _]) (Y.loadv ty_54 rfl (I.rdbox 4 rfl 0 2) rfl rfl) ?_
    refine Ops.go (O.call I Try.call80 (uses_ok _ I.base_ok p) rfl ?_)
    rintro _ h2 w I le2 ⟨bp, rfl, hbp⟩
    refine Ops.nil ?_
    have hxi : x.toNat < N.length := by rw [hlen]; omega
    have hNx : N[x.toNat] = false := by have : N[x.toNat] = bv N x := by simp [bv, List.getD_eq_getElem?_getD, hxi]
                                        rw [this, ht]
    have htr2 := trues_set N x.toNat hxi hNx
    have htr3 := trues_le (N.set x.toNat true)
    rw [List.length_set, hlen] at htr3
    simp only [List.length_cons] at hsmall
    refine WPD.block ?_
    refine WPD.rangeFunc (σ := NdS) (fun s => box b9 [vI x] 3 :: NdU b8 b29 b2 p s.g s.o s.c s.q (N.set x.toNat true)) (fun k s => s.q = q ++ succs (usesL p.rules.xs) x k) (fun _ _ => False) ⟨g, if c = 1 then o else o + 1, c - 1, q, N, ms⟩ I (by simp [succs]) rfl Try.call94
      (uses1_iter p bp h2 hbp (hp.rules.le (gl1.trans le2))) (fun _ => rfl) (by kernel_rfl) (by kernel_rfl) (by kernel_rfl) ?_ ?_ ?_
    · rintro l r ms' hg k d ⟨g', o', c', q', N', ms2⟩ W hx gl I hq
      dsimp only at I hq ⊢
      have hd := List.mem_of_getElem? hx
      have hql : q'.length ≤ 300 := by have := succs_len (usesL p.rules.xs) x k; rw [hq, List.length_append]; omega
      refine WPI.seq ?_
      refine WPI.region (by kernel_rfl) ?_
      refine Ops.y (v := .int .i64 _) (Y.assign rfl) ?_
      refine Ops.nil ?_
      refine WPI.region (by kernel_rfl) ?_
      refine Ops.go (O.alloc I Try.zeroValue71 rfl ?_)
      intro b11 w I
      refine Ops.go (O.store (v := .agg #[_, _, _]) I ty_71 0 rfl rfl rfl rfl rfl rfl (Nat.le_of_ble_eq_true rfl) rfl ?_)
      intro w I
      refine Ops.nil ?_
      refine ⟨hg, [box b11 d.2.enc 71], Heap.le.refl _, I, fun r' W2 I => ?_⟩
      refine WPI.block ?_
      refine WPI.seq ?_
      refine WPI.region (by kernel_rfl) ?_
      refine Ops.y (v := .int .i64 _) (Y.move rfl) ?_
      refine Ops.y (v := .int .i64 _) (Y.loadv ty_3 rfl (I.rdbox 1 rfl 0 1) rfl rfl) ?_
      refine Ops.y (v := .bool (decide _)) (Y.eqi rfl rfl) ?_
      refine Ops.nil ?_
      refine WPI.cond_dec rfl (fun h16 => ?_) (fun h16 => ?_)
      · refine WPI.region (by kernel_rfl) ?_
        refine Ops.y (v := .slice _ _ _) (Y.loadv ty_58 rfl (I.rdbox 2 rfl 0 1) rfl rfl) ?_
        refine Ops.y (v := .pointer (some ⟨_, _, none⟩)) (Y.fa fa_71_1 rfl) ?_
        refine Ops.y (v := .pointer (some ⟨_, _, none⟩)) (Y.fa0 fa_35_0 rfl) ?_
        refine Ops.y (v := .int .i64 _) (Y.loadv ty_3 rfl (I.rdbox 0 rfl 1 1) rfl rfl) ?_
        refine Ops.go (O.mksl (xs := [d.2.atom.pred]) (enc := iEnc) I Try.underlying58 Try.sizeOf3 Try.zeroValue3 rfl (Nat.le_of_ble_eq_true rfl) rfl rfl (by decide) (fun _ => rfl) ?_)
        intro b58 h58 w I le58 sl58
        refine Ops.go (O.appendQ (v := vI d.2.atom.pred) I Try.underlying58 et_3 3 rfl rfl rfl (I.rd (sl58 0 _ rfl).2) rfl (by simp; omega) (by simp; omega) ?_)
        intro g2 o2 c2 w I
        refine Ops.go (O.store (v := .slice _ _ _) I ty_58 2 rfl rfl rfl rfl rfl rfl (Nat.le_of_ble_eq_true rfl) rfl ?_)
        intro w I
        refine Ops.nil ?_
        have e1 : q'.map vI ++ [vI d.2.atom.pred] = (q' ++ [d.2.atom.pred]).map vI := by simp
        have e2 : (q'.map vI).length + 1 = ((q' ++ [d.2.atom.pred]).map vI).length := by simp
        rw [e1, e2] at I
        exact ⟨h58, ⟨g2, o2, c2, q' ++ [d.2.atom.pred], N', ms2⟩, [box b11 d.2.enc 71], le58, I, by dsimp only; rw [succs_at hx, if_pos h16, hq, List.append_assoc]⟩
      · refine WPI.skip ?_
        exact ⟨hg, ⟨g', o', c', q', N', ms2⟩, [box b11 d.2.enc 71], Heap.le.refl _, I, by dsimp only; rw [succs_at hx, if_neg h16, hq, List.append_nil]⟩
    · rintro D h3 ⟨g', o', c', q', N', ms2⟩ W gl I hq
      dsimp only at I hq
      have hsl := succs_len (usesL p.rules.xs) x (usesL p.rules.xs).length
      have hql : q'.length = q.length + (succs (usesL p.rules.xs) x (usesL p.rules.xs).length).length := by rw [hq, List.length_append]
      have hxl : x < N.length := by rw [hlen]; exact x1
      refine ⟨⟨g', o', c', q', N.set x.toNat true, D :: ms⟩, ⟨⟨rfl, rfl, rfl, trivial⟩, rfl, ⟨⟨h3, (gl1.trans le2).trans gl, I.drop⟩, by simp [hlen], fun i i0 i1 h => ?_, fun y hy => ?_, fun d hd hb => ?_, ?_, by dsimp only; omega⟩⟩, by dsimp only; simp only [List.length_cons]; omega⟩
      · dsimp only at h
        rw [bv_set x0 hxl _ _ i0] at h
        split at h
        · rename_i e; rw [e]; exact hxr
        · exact hsnd i i0 i1 h
      · dsimp only at hy
        rw [hq] at hy
        rcases List.mem_append.1 hy with h | h
        · exact hqin y (List.mem_cons_of_mem _ h)
        · have hu := mem_succs.1 h
          refine ⟨?_, .step hxr hu⟩
          obtain ⟨d, hd, _, rfl⟩ := hu
          exact hr.b d hd
      · dsimp only at hb ⊢
        have hdh := hr.h d hd
        have hdb := hr.b d hd
        rw [bv_set x0 hxl _ _ hdh.1] at hb
        rw [bv_set x0 hxl _ _ hdb.1, hq]
        split at hb
        · rename_i e
          exact .inr (List.mem_append_right _ (mem_succs.2 ⟨d, hd, e, rfl⟩))
        · rcases hclo d hd hb with h | h
          · left; split
            · rfl
            · exact h
          · rcases List.mem_cons.1 h with e | h
            · left; rw [if_pos e]
            · exact .inr (List.mem_append_left _ h)
      · dsimp only
        rw [bv_set x0 hxl _ _ q0, hq]
        rcases hhas with h | h
        · left; split
          · rfl
          · exact h
        · rcases List.mem_cons.1 h with e | h
          · left; rw [if_pos e]
          · exact .inr (List.mem_append_left _ h)
    · rintro D c h3 s W gl I hx
      exact hx.elim
  · have hq : q = [] := by simpa using h8
    subst hq
    refine WPD.exit ?_
    refine WPD.seq ?_
    refine WPD.region ?_
    refine Ops.y (v := .slice _ _ _) (Y.move rfl) ?_
    refine Ops.y (v := .slice _ _ _) (Y.assign rfl) ?_
    refine Ops.y (v := .int .i64 _) (Y.assign rfl) ?_
    refine Ops.nil ?_
    refine WPD.ret ?_
    repeat (first | refine thenD_ret ?_ | refine blockD_ret ?_)
    show doneQ _ _ _ _ _ _ _ _
    have hbo := I.at 2 rfl
    obtain ⟨h4, le4, hb4, I⟩ := (I.front 2 rfl).settle
    have hhas' : bv N pr = true := hhas.resolve_right (by simp)
    exact ⟨.inl rfl, ms, [box b8 [.slice (some ⟨g, o, none⟩) (([] : List Int).map vI).length c] 58, ownQ 3 g o c (([] : List Int).map vI), box b2 p.enc 54], h4,
      [.slice (some ⟨b29, 0, none⟩) p.preds.xs.length p.preds.xs.length, .int .i64 0], rfl, I, fun w2 I2 => ⟨rfl, rfl, trivial⟩,
      .inr (.inr ⟨h0, ⟨q0, q1⟩, ⟨some ⟨b29, 0, none⟩, p.preds.xs.length, N⟩, NeedsR.of hlen hsnd hhas' (fun d hd hb => (hclo d hd hb).resolve_right (by simp)), boxIsB ((hb4 b29 (by simp [box])).trans hbo) (by rw [hlen]; omega), by simp [tup, Sl.val, hlen]⟩)⟩
end Go.TF
