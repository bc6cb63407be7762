/- Texts Txp7 Prog7 Prog8 Bas2 Bas3 Rnd0 Bas4 Txp8 Base30 Txr1 Txp2 Base28 Txp3. -/
import Derived.Test.YtljkkojkfddpeaaGreatDoorU6
import Derived.Test.YtljkkojkfddpeaaGreatDoorU2
import Derived.Test.YtljkkojkfddpeaaGreatDoorU3
import Derived.Test.YtljkkojkfddpeaaGreatDoorU4
section
/- Package text: Fact, Facts: walked. -/
namespace Go.TF
open Go Go.RowKit Go.Proofs
set_option maxRecDepth 20000
set_option linter.unusedSimpArgs false


/-- The atom that a fact tells of. -/
def factA (l : List Prd) (x : Fct) : Atm := ⟨x.pred, ⟨none, 0, [⟨false, x.a⟩, ⟨false, x.b⟩].take (predOf l x.pred).arity.toNat⟩⟩
def factL (l : List Prd) (x : Fct) : Bs := atomL l (factA l x) ++ (if (predOf l x.pred).kind ≠ 0 then [32, 61, 32] ++ dgL x.v.toNat else [])
def factsL (l : List Prd) (f : List Fct) : Bs := f.flatMap fun x => factL l x ++ [46, 10]
def LitS {α : Type} (k : Nat) (enc : α → List Value) (xs : List α) : Sp := fun u h => ∃ s : Sl α, u = s.val ∧ s.xs = xs ∧ s.Is k enc h ∧ s.at_ = some ⟨s.blk, s.off, none⟩ ∧ s.xs.length ≤ s.cap
theorem LitS.mono {α : Type} {k : Nat} {enc : α → List Value} {xs : List α} : MonoS (LitS k enc xs) := fun _ _ _ hl ⟨s, a, b, c, d⟩ => ⟨s, a, b, c.le hl, d⟩
structure FctR (l : List Prd) (x : Fct) : Prop where
  pred : 0 ≤ x.pred ∧ x.pred < l.length
  a : 0 ≤ x.a ∧ x.a ≤ 4
  b : 0 ≤ x.b ∧ x.b ≤ 4
  v : 0 ≤ x.v ∧ x.v ≤ 15
  fine : predFine (predOf l x.pred) = true
theorem fctR {l : List Prd} {f : List Fct} (fo : FOk l f) {x : Fct} (hx : x ∈ f) : FctR l x := by
  have h := fo.fine x hx
  unfold factFine at h
  simp only [Bool.and_eq_true, decide_eq_true_eq] at h
  obtain ⟨⟨⟨⟨⟨h1, h2⟩, h3⟩, _⟩, _⟩, h6⟩ := h
  unfold within at h1 h2 h3
  have hp : 0 ≤ x.pred ∧ x.pred < l.length := by omega
  refine ⟨hp, by omega, by omega, ?_, fo.preds _ (predOf_mem hp)⟩
  unfold checkVal at h6
  split at h6
  · cases h6
  · split at h6
    · cases h6
    · omega
theorem FctR.aok {l : List Prd} {x : Fct} (r : FctR l x) : AOk l (factA l x) := by
  have hf := r.fine
  unfold predFine at hf
  have hf := of_decide_eq_true hf
  refine ⟨r.pred, ?_, ?_, ?_⟩
  · simp only [factA, List.length_take, List.length_cons, List.length_nil]; omega
  · unfold argsErr
    rw [if_pos]
    refine List.all_eq_true.2 fun t ht => ?_
    have ht := List.mem_of_mem_take ht
    simp only [List.mem_cons, List.not_mem_nil, or_false] at ht
    unfold termOk
    rcases ht with rfl | rfl
    · exact decide_eq_true r.a
    · exact decide_eq_true r.b
  · simp only [factA, List.length_take, List.length_cons, List.length_nil]; omega
theorem atomL_er {l : List Prd} {a c : Atm} (h : a.er = c.er) : atomL l a = atomL l c := by
  have h1 : a.pred = c.pred := by have := congrArg Atm.pred h; exact this
  have h2 : a.args.xs = c.args.xs := by have := congrArg (fun z => z.args.xs) h; exact this
  unfold atomL; rw [h1, h2]
theorem AOk.er {l : List Prd} {a c : Atm} (h : a.er = c.er) (o : AOk l c) : AOk l a := by
  have h1 : a.pred = c.pred := by have := congrArg Atm.pred h; exact this
  have h2 : a.args.xs = c.args.xs := by have := congrArg (fun z => z.args.xs) h; exact this
  exact ⟨by rw [h1]; exact o.pred, by rw [h2]; exact o.len, by rw [h2]; exact o.err, by rw [h1, h2]; exact o.arity⟩
set_option maxHeartbeats 4000000 in
theorem Fact_ok (B : Base) (hB : B.ok) (l : Sl Prd) (hL : Prds l B.h) (x : Fct) (r : FctR l.xs x) (hnm : (predOf l.xs x.pred).name.size ≤ 8) : Fn Tryz.prog 51 [l.val, x.val] B (fun v _ => v = .string (mk (factL l.xs x))) := by
  have Ep := hL.el.el (predOf_get r.pred.1 r.pred.2)
  have ao := r.aok
  have hal := atomL_len ao
  have hnm2 : (predOf l.xs (factA l.xs x).pred).name.size ≤ 8 := hnm
  obtain ⟨A, hA⟩ : ∃ A, atomL l.xs (factA l.xs x) = A := ⟨_, rfl⟩
  have hfi := r.fine
  obtain ⟨⟨nm, ar, kd⟩, hP⟩ : ∃ y, predOf l.xs x.pred = y := ⟨_, rfl⟩
  have hF : factL l.xs x = A ++ (if kd ≠ 0 then [32, 61, 32] ++ dgL x.v.toNat else []) := by unfold factL; rw [hA, hP]
  rw [hP] at Ep hfi hnm
  unfold predFine at hfi
  obtain ⟨a0, a2, d0, d3⟩ := of_decide_eq_true hfi
  dsimp only at a0 a2 d0 d3 hnm
  obtain ⟨na, rfl⟩ : ∃ n : Nat, ar = n := ⟨ar.toNat, by omega⟩
  have hE : (factA l.xs x).er = ⟨x.pred, ⟨none, 0, [⟨false, x.a⟩, ⟨false, x.b⟩].take na⟩⟩ := by unfold factA Atm.er; rw [hP]; rfl
  rw [hA] at hal
  obtain ⟨nv, hnv⟩ : ∃ n : Nat, x.v = n := ⟨x.v.toNat, by have := r.v; omega⟩
  have dl := dg_len (n := nv) (by have := r.v; omega)
  refine Fn.of Tryz.func51 rfl Tryz.ntmps51 (by kernel_rfl) (by simp) ?_
  intro e
  have I := Inv.start hB
  refine WP.seq ?_
  refine WP.region ?_
  refine Ops.go (O.box (v := .agg #[_, _, _, _]) I rfl rfl ?_)
  intro b3 w I
  refine Ops.y (v := .string _) (Y.assign rfl) ?_
  refine Ops.nil ?_
  refine WP.seq ?_
  refine WP.region ?_
  refine Ops.y (v := .slice _ _ _) (Y.move rfl) ?_
  refine Ops.y (v := .pointer (some ⟨_, _, none⟩)) (Y.fa0 fa_83_0 rfl) ?_
  refine Ops.y (v := .int .i64 _) (Y.loadv ty_3 rfl (I.rdbox 0 rfl 0 1) rfl rfl) ?_
  refine Ops.y (v := .pointer (some ⟨_, _, none⟩)) (Y.idxEl Ep Tryz.underlying22 Tryz.sizeOf53 rfl rfl r.pred.1 rfl) ?_
  refine Ops.y (v := .agg #[_, _, _]) (Y.loadv ty_53 rfl (I.rd (Ep.rd.part 0 3)) rfl rfl) ?_
  refine Ops.go (O.alloc I Tryz.zeroValue53 rfl ?_)
  intro b5 w I
  refine Ops.go (O.store (v := .agg #[_, _, _]) I ty_53 0 rfl rfl rfl rfl rfl rfl (Nat.le_of_ble_eq_true rfl) rfl ?_)
  intro w I
  refine Ops.nil ?_
  refine WP.seq ?_
  refine WP.regionF mixed I 16 (by kernel_rfl) ?_
  refine OpsF.y_ (v := .slice _ _ _) (fun _ => runs_none _) (fun _ w us hl I => Y.move rfl) ?_
  refine OpsF.y_ (v := .pointer (some ⟨_, _, none⟩)) (fun _ => runs_none _) (fun _ w us hl I => Y.fa0 fa_83_0 rfl) ?_
  refine OpsF.y_ (v := .int .i64 _) (fun _ => runs_none _) (fun _ w us hl I => Y.loadv ty_3 rfl (I.rdbox 1 rfl 0 1) rfl rfl) ?_
  refine OpsF.y_ (v := .pointer (some ⟨_, _, none⟩)) (fun _ => runs_none _) (fun _ w us hl I => Y.fa fa_83_1 rfl) ?_
  refine OpsF.y_ (v := .int .i64 _) (fun _ => runs_none _) (fun _ w us hl I => Y.loadv ty_3 rfl (I.rdbox 1 rfl 1 1) rfl rfl) ?_
  refine OpsF.y_ (v := .agg #[.bool _, .int .i64 _]) (fun _ => runs_none _) (fun _ w us hl I => Y.build pl_109 Tryz.zeroValue109 rfl rfl) ?_
  refine OpsF.y_ (v := .pointer (some ⟨_, _, none⟩)) (fun _ => runs_none _) (fun _ w us hl I => Y.fa fa_83_2 rfl) ?_
  refine OpsF.y_ (v := .int .i64 _) (fun _ => runs_none _) (fun _ w us hl I => Y.loadv ty_3 rfl (I.rdbox 1 rfl 2 1) rfl rfl) ?_
  refine OpsF.y_ (v := .agg #[.bool _, .int .i64 _]) (fun _ => runs_none _) (fun _ w us hl I => Y.build pl_109 Tryz.zeroValue109 rfl rfl) ?_
  refine OpsF.x_ (Φ := LitS 2 Trm.enc [⟨false, x.a⟩, ⟨false, x.b⟩]) LitS.mono (fun _ => runs_none _) ?_ ?_
  · intro _ w hl I
    exact O.mksl (xs := [⟨false, x.a⟩, ⟨false, x.b⟩]) (enc := Trm.enc) I Tryz.underlying59 Tryz.sizeOf109 Tryz.zeroValue109 rfl (Nat.le_of_ble_eq_true rfl) rfl rfl (by decide) (fun _ => rfl) (fun b h w I le sl => ⟨h, le, I, ⟨⟨some ⟨b, 0, none⟩, _, [⟨false, x.a⟩, ⟨false, x.b⟩]⟩, rfl, rfl, ⟨sl, by simp⟩, rfl, Nat.le_refl _⟩⟩)
  refine OpsF.y_ (v := .pointer (some ⟨_, _, none⟩)) (fun _ => runs_none _) (fun _ w us hl I => Y.fa fa_53_1 rfl) ?_
  refine OpsF.y_ (v := .int .i64 _) (fun _ => runs_none _) (fun _ w us hl I => Y.loadv ty_3 rfl (I.rdbox 0 rfl 1 1) rfl rfl) ?_
  refine OpsF.x_ (Φ := SlS 2 Trm.enc ([⟨false, x.a⟩, ⟨false, x.b⟩].take na)) (SlS.mono) (fun _ => runs_none _) ?_ ?_
  · intro _ w hl I u21 q21
    obtain ⟨s, rfl, es, is, at_, cp⟩ := q21 rfl
    exact O.yx I (Y.cut (s := s) (l := 0) (h := na) Tryz.underlying59 Tryz.sizeOf109 at_ cp rfl (.inl ⟨rfl, rfl⟩) (.inr ⟨_, _, rfl, rfl⟩) (Nat.zero_le _) (by rw [es]; simp only [List.length_cons, List.length_nil]; omega)) ⟨s.cut 2 0 na, rfl, by rw [← es]; rfl, is.cut cp⟩
  refine OpsF.x_ (Φ := AtmS x.pred ([⟨false, x.a⟩, ⟨false, x.b⟩].take na)) (AtmS.mono) (fun _ => runs_none _) ?_ ?_
  · intro _ w hl I u21 q21 u24 q24
    obtain ⟨s, rfl, es, is⟩ := q24 rfl
    exact O.yx I (Y.build pl_61 Tryz.zeroValue61 rfl rfl) ⟨⟨x.pred, s⟩, rfl, by show (⟨x.pred, ⟨none, 0, s.xs⟩⟩ : Atm) = _; rw [es], is⟩
  refine OpsF.x_ (Φ := EqV (.string (mk A))) EqV.mono (fun _ => runs_none _) ?_ ?_
  · intro _ w hl I u21 q21 u24 q24 u25 q25
    obtain ⟨a, rfl, ea, ia⟩ := q25 rfl
    try unfold AllL
    refine O.call I Tryz.call25 (TAtom_ok _ I.base_ok l (hL.le hl) a ia (AOk.er (ea.trans hE.symm) ao) (by rw [show a.pred = x.pred by have := congrArg Atm.pred ea; exact this, hP]; dsimp only; omega)) rfl ?_
    rintro _ h2 w I hl' rfl
    exact ⟨_, hl', I, by rw [← hA]; exact congrArg (fun z => Value.string (mk z)) (atomL_er (ea.trans hE.symm))⟩
  refine OpsF.x_ (Φ := EqV (.string (mk A))) EqV.mono (fun _ => runs_none _) ?_ ?_
  · intro _ w hl I u21 q21 u24 q24 u25 q25 u26 q26
    obtain ⟨⟩ := q26 rfl
    exact O.yx I (Y.assign rfl) (rfl)
  refine OpsF.nil ?_
  intro _ w hl I u21 q21 u24 q24 u25 q25 u26 q26 u6 q6
  refine Ops.nil ?_
  obtain rfl : u6 = .string (mk A) := q6 rfl
  refine WP.seq ?_
  refine WP.seq ?_
  refine WP.region ?_
  refine Ops.y (v := .pointer (some ⟨_, _, none⟩)) (Y.fa fa_53_2 rfl) ?_
  refine Ops.y (v := .int .i64 _) (Y.loadv ty_3 rfl (I.rdbox 0 rfl 2 1) rfl rfl) ?_
  refine Ops.y (v := .bool (decide _)) (Y.nei rfl rfl) ?_
  refine Ops.nil ?_
  refine WP.cond_dec rfl (fun h29 => ?_) (fun h29 => ?_)
  · rw [if_pos h29, hnv] at hF
    refine WP.region ?_
    refine Ops.y (v := .string _) (Y.move rfl) ?_
    refine Ops.y (v := .pointer (some ⟨_, _, none⟩)) (Y.fa fa_83_3 rfl) ?_
    refine Ops.y (v := .int .i64 _) (Y.loadv ty_3 rfl (I.rdbox 1 rfl 3 1) rfl rfl) ?_
    refine Ops.go (O.callv I Tryz.call24 (hnv ▸ Itoa_ok _ I.base_ok nv (by have := r.v; omega)) rfl ?_)
    intro w I
    refine Ops.y (v := .string _) (Y.adds rfl rfl ((by simp only [ByteArray.size_append, bsz, List.size_toArray, List.length_cons, List.length_nil, List.length_append]; omega))) ?_
    refine Ops.y (v := .string _) (Y.adds rfl rfl (by simp only [ByteArray.size_append, mk_size]; show _ + (3 + _) ≤ _; omega)) ?_
    refine Ops.y (v := .string _) (Y.assign rfl) ?_
    refine Ops.nil ?_
    refine WP.seq ?_
    refine WP.region ?_
    refine Ops.y (v := .string _) (Y.move rfl) ?_
    refine Ops.y (v := .string _) (Y.assign rfl) ?_
    refine Ops.nil ?_
    refine WP.ret ?_
    repeat (first | refine thenE_ret ?_ | refine blockE_ret ?_)
    exact retQ.mk (vs := [.string _]) rfl ⟨rfl, trivial⟩ I.ext_of (by simp only [tup]; rw [hF]; exact congrArg Value.string (tx_inj.1 (by simp only [tx_mk, tx_app, txl, List.append_assoc, Int.toNat_natCast, List.cons_append, List.nil_append])))
  · rw [if_neg h29, List.append_nil] at hF
    refine WP.skip ?_
    refine WP.seq ?_
    refine WP.region ?_
    refine Ops.y (v := .string _) (Y.move rfl) ?_
    refine Ops.y (v := .string _) (Y.assign rfl) ?_
    refine Ops.nil ?_
    refine WP.ret ?_
    repeat (first | refine thenE_ret ?_ | refine blockE_ret ?_)
    exact retQ.mk (vs := [.string _]) rfl ⟨rfl, trivial⟩ I.ext_of (by simp only [tup]; rw [hF])
end Go.TF
end
section
/- CheckProg, of the document; Strata; StrataOf. -/
namespace Go.TF
open Go Go.RowKit Go.Proofs
set_option maxRecDepth 20000

theorem toList_beq (a b : ByteArray) : (a.toList == b.toList) = decide (a = b) := by rw [← beq_toListBytes, beq_bytes]
theorem twice_true {l : List Prd} {i k : Nat} (hk : k < l.length) (hi : i < k) (e : l[i].name = l[k].name) : twice l = true := by
  unfold twice
  rw [List.any_eq_true]
  refine ⟨k, List.mem_range.2 hk, ?_⟩
  unfold early
  rw [List.any_eq_true]
  refine ⟨l[i], List.mem_iff_getElem.2 ⟨i, by simp; omega, by simp⟩, ?_⟩
  simp [List.getD_eq_getElem?_getD, hk, e]
theorem twice_false {l : List Prd} (h : ∀ k, ∀ hk : k < l.length, ∀ i, ∀ hi : i < k, l[i].name ≠ l[k].name) : twice l = false := by
  unfold twice
  rw [List.any_eq_false]
  intro k hk
  have hk := List.mem_range.1 hk
  unfold early
  rw [Bool.not_eq_true, List.any_eq_false]
  intro y hy
  obtain ⟨i, hi, rfl⟩ := List.getElem_of_mem hy
  have hi' : i < k := by simp at hi; omega
  have := h k hk i hi'
  simp only [List.getElem_take, List.getD_eq_getElem?_getD, List.getElem?_eq_getElem hk, Option.getD_some, decide_eq_true_eq]
  exact this
theorem any_false {α : Type} {l : List α} {q : α → Bool} (h : ∀ j, j < l.length → ∀ hj : j < l.length, q l[j] = false) : l.any q = false := by
  rw [List.any_eq_false]
  intro x hx
  obtain ⟨j, hj, rfl⟩ := List.getElem_of_mem hx
  rw [h j hj hj]; decide
theorem any_at {α : Type} {l : List α} {q : α → Bool} {k : Nat} (hk : k < l.length) (h : q l[k] = true) : l.any q = true := List.any_eq_true.2 ⟨_, List.getElem_mem hk, h⟩
theorem not_within' {a lo hi : Int} : (!decide (within a lo hi)) = true ↔ a < lo ∨ hi < a := by
  simp only [Bool.not_eq_true', decide_eq_false_iff_not]; unfold within; omega
set_option maxHeartbeats 4000000 in
theorem CheckProg_ok (B : Base) (hB : B.ok) (p : Prg) (hp : p.In B.h) (hnm : p.Nm) : Fn Tryz.prog 16 [p.val] B (fun v _ => v = .int .i64 (checkProg p)) := by
  have hsp := hp.preds.small
  have hsr := hp.rules.is.small
  refine Fn.of Tryz.func16 rfl Tryz.ntmps16 (by kernel_rfl) (by simp) ?_
  intro e
  have I := Inv.start hB
  refine WP.seq ?_
  refine WP.region ?_
  refine Ops.go (O.box (v := .agg #[_, _]) I rfl rfl ?_)
  intro b1 w I
  refine Ops.y (v := .int .i64 _) (Y.assign rfl) ?_
  refine Ops.nil ?_
  refine WP.seq ?_
  refine WP.seq ?_
  by_cases o0 : 5 < (p.preds.xs.length : Int)
  · refine WP.region ?_
    refine Ops.y (v := .pointer (some ⟨_, _, none⟩)) (Y.fa0 fa_25_0 rfl) ?_
    refine Ops.y (v := .slice _ _ _) (Y.loadv ty_22 rfl (I.rdbox 0 rfl 0 1) rfl rfl) ?_
    refine Ops.y (v := .int .i64 _) (Y.lens Tryz.underlying22 rfl) ?_
    refine Ops.y (v := .bool true) (Y.dec_t (Y.gti rfl rfl) (o0)) ?_
    refine Ops.y (v := .bool _) (Y.move rfl) ?_
    refine Ops.gf rfl ?_
    refine Ops.gf rfl ?_
    refine Ops.gf rfl ?_
    refine Ops.gf rfl ?_
    refine Ops.y (v := .bool _) (Y.pick_t rfl rfl) ?_
    refine Ops.nil ?_
    refine WP.cond_t rfl ?_
    refine WP.seq ?_
    refine WP.region ?_
    refine Ops.y (v := .int .i64 _) (Y.assign rfl) ?_
    refine Ops.nil ?_
    refine WP.ret ?_
    repeat (first | refine thenE_ret ?_ | refine blockE_ret ?_)
    exact retQ.mk (vs := [.int .i64 _]) rfl ⟨rfl, trivial⟩ I.ext_of (by simp only [tup, checkProg]; rw [if_pos (by omega)])
  by_cases o1 : 8 < (p.rules.xs.length : Int)
  · refine WP.region ?_
    refine Ops.y (v := .pointer (some ⟨_, _, none⟩)) (Y.fa0 fa_25_0 rfl) ?_
    refine Ops.y (v := .slice _ _ _) (Y.loadv ty_22 rfl (I.rdbox 0 rfl 0 1) rfl rfl) ?_
    refine Ops.y (v := .int .i64 _) (Y.lens Tryz.underlying22 rfl) ?_
    refine Ops.y (v := .bool false) (Y.dec_f (Y.gti rfl rfl) (o0)) ?_
    refine Ops.y (v := .bool _) (Y.move rfl) ?_
    refine Ops.ygt rfl (v := .pointer (some ⟨_, _, none⟩)) (Y.fa fa_25_1 rfl) ?_
    refine Ops.ygt rfl (v := .slice _ _ _) (Y.loadv ty_23 rfl (I.rdbox 0 rfl 1 1) rfl rfl) ?_
    refine Ops.ygt rfl (v := .int .i64 _) (Y.lens Tryz.underlying23 rfl) ?_
    refine Ops.ygt rfl (v := .bool true) (Y.dec_t (Y.gti rfl rfl) (o1)) ?_
    refine Ops.y (v := .bool _) (Y.pick_f rfl rfl) ?_
    refine Ops.nil ?_
    refine WP.cond_t rfl ?_
    refine WP.seq ?_
    refine WP.region ?_
    refine Ops.y (v := .int .i64 _) (Y.assign rfl) ?_
    refine Ops.nil ?_
    refine WP.ret ?_
    repeat (first | refine thenE_ret ?_ | refine blockE_ret ?_)
    exact retQ.mk (vs := [.int .i64 _]) rfl ⟨rfl, trivial⟩ I.ext_of (by simp only [tup, checkProg]; rw [if_pos (by omega)])
  refine WP.region ?_
  refine Ops.y (v := .pointer (some ⟨_, _, none⟩)) (Y.fa0 fa_25_0 rfl) ?_
  refine Ops.y (v := .slice _ _ _) (Y.loadv ty_22 rfl (I.rdbox 0 rfl 0 1) rfl rfl) ?_
  refine Ops.y (v := .int .i64 _) (Y.lens Tryz.underlying22 rfl) ?_
  refine Ops.y (v := .bool false) (Y.dec_f (Y.gti rfl rfl) (o0)) ?_
  refine Ops.y (v := .bool _) (Y.move rfl) ?_
  refine Ops.ygt rfl (v := .pointer (some ⟨_, _, none⟩)) (Y.fa fa_25_1 rfl) ?_
  refine Ops.ygt rfl (v := .slice _ _ _) (Y.loadv ty_23 rfl (I.rdbox 0 rfl 1 1) rfl rfl) ?_
  refine Ops.ygt rfl (v := .int .i64 _) (Y.lens Tryz.underlying23 rfl) ?_
  refine Ops.ygt rfl (v := .bool false) (Y.dec_f (Y.gti rfl rfl) (o1)) ?_
  refine Ops.y (v := .bool _) (Y.pick_f rfl rfl) ?_
  refine Ops.nil ?_
  refine WP.cond_f rfl ?_
  have c0 : ¬ (5 < p.preds.xs.length ∨ 8 < p.rules.xs.length) := by omega
  refine WP.skip ?_
  refine WP.seq ?_
  refine WP.seq ?_
  refine WP.region ?_
  refine Ops.y (v := .int .i64 _) (Y.assign rfl) ?_
  refine Ops.nil ?_
  refine WP.cutL (σ := Unit) (fun _ => [(1, .pointer (some ⟨b1, 0, none⟩))]) (fun _ w => Inv B B.h [box b1 p.enc 25] w ∧ (p.preds.xs.any fun x => !isName x.name) = false) ?_ ?_
  · refine WP.block ?_
    refine WP.loopE (σ := Nat) (fun k => [(1, .pointer (some ⟨b1, 0, none⟩)), (3, .int .i64 k)]) (fun k w => Inv B B.h [box b1 p.enc 25] w ∧ k ≤ p.preds.xs.length ∧ ∀ j, j < k → ∀ hj : j < p.preds.xs.length, (!isName p.preds.xs[j].name) = false) (fun k => p.preds.xs.length - k)
      ⟨0, ⟨rfl, rfl, trivial⟩, I, Nat.zero_le _, fun j hj => by omega⟩ ?_
    rintro k e w ⟨I, hk, hn⟩
    refine WP.seq ?_
    refine WP.seq ?_
    refine WP.region ?_
    refine Ops.y (v := .int .i64 _) (Y.move rfl) ?_
    refine Ops.y (v := .pointer (some ⟨_, _, none⟩)) (Y.fa0 fa_25_0 rfl) ?_
    refine Ops.y (v := .slice _ _ _) (Y.loadv ty_22 rfl (I.rdbox 0 rfl 0 1) rfl rfl) ?_
    refine Ops.y (v := .int .i64 _) (Y.lens Tryz.underlying22 rfl) ?_
    refine Ops.y (v := .bool (decide _)) (Y.lti rfl rfl) ?_
    refine Ops.nil ?_
    refine WP.cond_dec rfl (fun h => ?_) (fun h => ?_)
    · have hk' : k < p.preds.xs.length := by omega
      have E1 := hp.preds.at hk'
      refine WP.skip ?_
      refine WP.seq ?_
      refine WP.block ?_
      refine WP.seq ?_
      refine WP.region ?_
      refine Ops.y (v := .pointer (some ⟨_, _, none⟩)) (Y.fa0 fa_25_0 rfl) ?_
      refine Ops.y (v := .slice _ _ _) (Y.loadv ty_22 rfl (I.rdbox 0 rfl 0 1) rfl rfl) ?_
      refine Ops.y (v := .int .i64 _) (Y.move rfl) ?_
      refine Ops.y (v := .pointer (some ⟨_, _, none⟩)) (Y.idxEl E1 Tryz.underlying22 Tryz.sizeOf53 rfl rfl (Int.natCast_nonneg _) rfl) ?_
      refine Ops.y (v := .pointer (some ⟨_, _, none⟩)) (Y.fa0 fa_53_0 rfl) ?_
      refine Ops.y (v := .string _) (Y.loadv ty_9 rfl (I.rd (E1.rd.part 0 1)) rfl rfl) ?_
      refine Ops.go (O.callv I Tryz.call41 (IsName_ok _ I.base_ok p.preds.xs[k].name (hnm _ (List.getElem_mem hk'))) rfl ?_)
      intro w I
      refine Ops.y (v := .bool _) (Y.not rfl) ?_
      refine Ops.nil ?_
      refine WP.cond rfl (fun hb => ?_) (fun hb => ?_)
      · refine WP.seq ?_
        refine WP.region ?_
        refine Ops.y (v := .int .i64 _) (Y.assign rfl) ?_
        refine Ops.nil ?_
        refine WP.ret ?_
        repeat (first | refine thenE_ret ?_ | refine blockE_ret ?_)
        exact retQ.mk (vs := [.int .i64 _]) rfl ⟨rfl, trivial⟩ I.ext_of (by simp only [tup, checkProg]; rw [if_neg c0, if_pos (any_at hk' hb)])
      refine WP.skip ?_
      refine WP.region ?_
      refine Ops.y (v := .int .i64 _) (Y.move rfl) ?_
      refine Ops.y (v := .int .i64 _) (Y.addi rfl rfl ⟨by omega, by omega⟩) ?_
      refine Ops.y (v := .int .i64 _) (Y.assign rfl) ?_
      refine Ops.nil ?_
      exact ⟨k + 1, ⟨⟨rfl, rfl, trivial⟩, I, hk', fun j hj hj' => by
        rcases Nat.lt_succ_iff_lt_or_eq.1 hj with h' | rfl
        · exact hn j h' hj'
        · exact hb⟩, by omega⟩
    refine WP.exit ?_
    exact ⟨(), ⟨rfl, trivial⟩, I, any_false (fun j hj hj' => hn j (by omega) hj')⟩
  rintro _ e w ⟨I, c1⟩
  refine WP.seq ?_
  refine WP.seq ?_
  refine WP.region ?_
  refine Ops.y (v := .int .i64 _) (Y.assign rfl) ?_
  refine Ops.nil ?_
  refine WP.cutL (σ := Unit) (fun _ => [(1, .pointer (some ⟨b1, 0, none⟩))]) (fun _ w => Inv B B.h [box b1 p.enc 25] w ∧ twice p.preds.xs = false) ?_ ?_
  · refine WP.block ?_
    refine WP.loopE (σ := Nat) (fun k => [(1, .pointer (some ⟨b1, 0, none⟩)), (4, .int .i64 k)]) (fun k w => Inv B B.h [box b1 p.enc 25] w ∧ k ≤ p.preds.xs.length ∧ ∀ j, j < k → ∀ hj : j < p.preds.xs.length, ∀ i, ∀ hi : i < j, p.preds.xs[i].name ≠ p.preds.xs[j].name) (fun k => p.preds.xs.length - k)
      ⟨0, ⟨rfl, rfl, trivial⟩, I, Nat.zero_le _, fun j hj => by omega⟩ ?_
    rintro k e w ⟨I, hk, hn⟩
    refine WP.seq ?_
    refine WP.seq ?_
    refine WP.region ?_
    refine Ops.y (v := .int .i64 _) (Y.move rfl) ?_
    refine Ops.y (v := .pointer (some ⟨_, _, none⟩)) (Y.fa0 fa_25_0 rfl) ?_
    refine Ops.y (v := .slice _ _ _) (Y.loadv ty_22 rfl (I.rdbox 0 rfl 0 1) rfl rfl) ?_
    refine Ops.y (v := .int .i64 _) (Y.lens Tryz.underlying22 rfl) ?_
    refine Ops.y (v := .bool (decide _)) (Y.lti rfl rfl) ?_
    refine Ops.nil ?_
    refine WP.cond_dec rfl (fun h => ?_) (fun h => ?_)
    · have hk' : k < p.preds.xs.length := by omega
      have E1 := hp.preds.at hk'
      refine WP.skip ?_
      refine WP.seq ?_
      refine WP.block ?_
      refine WP.seq ?_
      refine WP.region ?_
      refine Ops.y (v := .int .i64 _) (Y.assign rfl) ?_
      refine Ops.nil ?_
      refine WP.block ?_
      refine WP.loopE (σ := Nat) (fun i => [(1, .pointer (some ⟨b1, 0, none⟩)), (4, .int .i64 k), (5, .int .i64 i)]) (fun i w => Inv B B.h [box b1 p.enc 25] w ∧ i ≤ k ∧ ∀ j, ∀ hj : j < i, ∀ hj' : j < p.preds.xs.length, p.preds.xs[j].name ≠ p.preds.xs[k].name) (fun i => k - i)
        ⟨0, ⟨rfl, rfl, rfl, trivial⟩, I, Nat.zero_le _, fun j hj => by omega⟩ ?_
      rintro i e w ⟨I, hi, hni⟩
      refine WP.seq ?_
      refine WP.seq ?_
      refine WP.region ?_
      refine Ops.y (v := .int .i64 _) (Y.move rfl) ?_
      refine Ops.y (v := .int .i64 _) (Y.move rfl) ?_
      refine Ops.y (v := .bool (decide _)) (Y.lti rfl rfl) ?_
      refine Ops.nil ?_
      refine WP.cond_dec rfl (fun h12 => ?_) (fun h12 => ?_)
      · have hi' : i < p.preds.xs.length := by omega
        have E2 := hp.preds.at hi'
        refine WP.skip ?_
        refine WP.seq ?_
        refine WP.block ?_
        refine WP.seq ?_
        refine WP.regionQ mixed I (by kernel_rfl) ?_
        refine OpsQ.y (v := .pointer (some ⟨_, _, none⟩)) (fun w I => Y.fa0 fa_25_0 rfl) ?_
        refine OpsQ.y (v := .slice _ _ _) (fun w I => Y.loadv ty_22 rfl (I.rdbox 0 rfl 0 1) rfl rfl) ?_
        refine OpsQ.y (v := .int .i64 _) (fun w I => Y.move rfl) ?_
        refine OpsQ.y (v := .pointer (some ⟨_, _, none⟩)) (fun w I => Y.idxEl E2 Tryz.underlying22 Tryz.sizeOf53 rfl rfl (Int.natCast_nonneg _) rfl) ?_
        refine OpsQ.y (v := .pointer (some ⟨_, _, none⟩)) (fun w I => Y.fa0 fa_53_0 rfl) ?_
        refine OpsQ.y (v := .string _) (fun w I => Y.loadv ty_9 rfl (I.rd (E2.rd.part 0 1)) rfl rfl) ?_
        refine OpsQ.y (v := .pointer (some ⟨_, _, none⟩)) (fun w I => Y.fa0 fa_25_0 rfl) ?_
        refine OpsQ.y (v := .slice _ _ _) (fun w I => Y.loadv ty_22 rfl (I.rdbox 0 rfl 0 1) rfl rfl) ?_
        refine OpsQ.y (v := .int .i64 _) (fun w I => Y.move rfl) ?_
        refine OpsQ.y (v := .pointer (some ⟨_, _, none⟩)) (fun w I => Y.idxEl E1 Tryz.underlying22 Tryz.sizeOf53 rfl rfl (Int.natCast_nonneg _) rfl) ?_
        refine OpsQ.y (v := .pointer (some ⟨_, _, none⟩)) (fun w I => Y.fa0 fa_53_0 rfl) ?_
        refine OpsQ.y (v := .string _) (fun w I => Y.loadv ty_9 rfl (I.rd (E1.rd.part 0 1)) rfl rfl) ?_
        refine OpsQ.y (v := .bool _) (fun w I => Y.eqs rfl rfl) ?_
        refine OpsQ.nil ?_
        intro w I
        refine WP.cond rfl (fun hb => ?_) (fun hb => ?_)
        · refine WP.seq ?_
          refine WP.region ?_
          refine Ops.y (v := .int .i64 _) (Y.assign rfl) ?_
          refine Ops.nil ?_
          refine WP.ret ?_
          repeat (first | refine thenE_ret ?_ | refine blockE_ret ?_)
          exact retQ.mk (vs := [.int .i64 _]) rfl ⟨rfl, trivial⟩ I.ext_of (by simp only [tup, checkProg]; rw [if_neg c0, if_neg (by rw [c1]; decide), if_pos (twice_true hk' (show i < k by omega) (by rw [toList_beq] at hb; exact of_decide_eq_true hb))])
        refine WP.skip ?_
        refine WP.region ?_
        refine Ops.y (v := .int .i64 _) (Y.move rfl) ?_
        refine Ops.y (v := .int .i64 _) (Y.addi rfl rfl ⟨by omega, by omega⟩) ?_
        refine Ops.y (v := .int .i64 _) (Y.assign rfl) ?_
        refine Ops.nil ?_
        exact ⟨i + 1, ⟨⟨rfl, rfl, rfl, trivial⟩, I, by omega, fun j hj hj' => by
          rcases Nat.lt_succ_iff_lt_or_eq.1 hj with h' | rfl
          · exact hni j h' hj'
          · rw [toList_beq] at hb; exact of_decide_eq_false hb⟩, by omega⟩
      refine WP.exit ?_
      refine WP.region ?_
      refine Ops.y (v := .int .i64 _) (Y.move rfl) ?_
      refine Ops.y (v := .int .i64 _) (Y.addi rfl rfl ⟨by omega, by omega⟩) ?_
      refine Ops.y (v := .int .i64 _) (Y.assign rfl) ?_
      refine Ops.nil ?_
      exact ⟨k + 1, ⟨⟨rfl, rfl, trivial⟩, I, hk', fun j hj hj' => by
        rcases Nat.lt_succ_iff_lt_or_eq.1 hj with h' | rfl
        · exact hn j h' hj'
        · exact fun q hq => hni q (by omega) (by omega)⟩, by omega⟩
    refine WP.exit ?_
    exact ⟨(), ⟨rfl, trivial⟩, I, twice_false (fun j hj => hn j (by omega) hj)⟩
  rintro _ e w ⟨I, c2⟩
  refine WP.seq ?_
  refine WP.seq ?_
  refine WP.region ?_
  refine Ops.y (v := .int .i64 _) (Y.assign rfl) ?_
  refine Ops.nil ?_
  refine WP.cutL (σ := Unit) (fun _ => [(1, .pointer (some ⟨b1, 0, none⟩))]) (fun _ w => Inv B B.h [box b1 p.enc 25] w ∧ p.preds.xs.any badArity = false) ?_ ?_
  · refine WP.block ?_
    refine WP.loopE (σ := Nat) (fun k => [(1, .pointer (some ⟨b1, 0, none⟩)), (6, .int .i64 k)]) (fun k w => Inv B B.h [box b1 p.enc 25] w ∧ k ≤ p.preds.xs.length ∧ ∀ j, j < k → ∀ hj : j < p.preds.xs.length, badArity p.preds.xs[j] = false) (fun k => p.preds.xs.length - k)
      ⟨0, ⟨rfl, rfl, trivial⟩, I, Nat.zero_le _, fun j hj => by omega⟩ ?_
    rintro k e w ⟨I, hk, hn⟩
    refine WP.seq ?_
    refine WP.seq ?_
    refine WP.region ?_
    refine Ops.y (v := .int .i64 _) (Y.move rfl) ?_
    refine Ops.y (v := .pointer (some ⟨_, _, none⟩)) (Y.fa0 fa_25_0 rfl) ?_
    refine Ops.y (v := .slice _ _ _) (Y.loadv ty_22 rfl (I.rdbox 0 rfl 0 1) rfl rfl) ?_
    refine Ops.y (v := .int .i64 _) (Y.lens Tryz.underlying22 rfl) ?_
    refine Ops.y (v := .bool (decide _)) (Y.lti rfl rfl) ?_
    refine Ops.nil ?_
    refine WP.cond_dec rfl (fun h => ?_) (fun h => ?_)
    · have hk' : k < p.preds.xs.length := by omega
      have E1 := hp.preds.at hk'
      refine WP.skip ?_
      refine WP.seq ?_
      refine WP.block ?_
      refine WP.seq ?_
      refine WP.region ?_
      refine Ops.y (v := .pointer (some ⟨_, _, none⟩)) (Y.fa0 fa_25_0 rfl) ?_
      refine Ops.y (v := .slice _ _ _) (Y.loadv ty_22 rfl (I.rdbox 0 rfl 0 1) rfl rfl) ?_
      refine Ops.y (v := .int .i64 _) (Y.move rfl) ?_
      refine Ops.y (v := .pointer (some ⟨_, _, none⟩)) (Y.idxEl E1 Tryz.underlying22 Tryz.sizeOf53 rfl rfl (Int.natCast_nonneg _) rfl) ?_
      refine Ops.y (v := .pointer (some ⟨_, _, none⟩)) (Y.fa fa_53_1 rfl) ?_
      refine Ops.y (v := .int .i64 _) (Y.loadv ty_3 rfl (I.rd (E1.rd.part 1 1)) rfl rfl) ?_
      refine Ops.go (O.callv I Tryz.call42 (within_ok _ I.base_ok _ _ _) rfl ?_)
      intro w I
      refine Ops.y (v := .bool _) (Y.not rfl) ?_
      refine Ops.nil ?_
      refine WP.cond rfl (fun hb => ?_) (fun hb => ?_)
      · refine WP.seq ?_
        refine WP.region ?_
        refine Ops.y (v := .int .i64 _) (Y.assign rfl) ?_
        refine Ops.nil ?_
        refine WP.ret ?_
        repeat (first | refine thenE_ret ?_ | refine blockE_ret ?_)
        exact retQ.mk (vs := [.int .i64 _]) rfl ⟨rfl, trivial⟩ I.ext_of (by simp only [tup, checkProg]; rw [if_neg c0, if_neg (by rw [c1]; decide), if_neg (by rw [c2]; decide), if_pos (any_at hk' (by unfold badArity; exact decide_eq_true (not_within'.1 hb)))])
      refine WP.skip ?_
      refine WP.region ?_
      refine Ops.y (v := .int .i64 _) (Y.move rfl) ?_
      refine Ops.y (v := .int .i64 _) (Y.addi rfl rfl ⟨by omega, by omega⟩) ?_
      refine Ops.y (v := .int .i64 _) (Y.assign rfl) ?_
      refine Ops.nil ?_
      exact ⟨k + 1, ⟨⟨rfl, rfl, trivial⟩, I, hk', fun j hj hj' => by
        rcases Nat.lt_succ_iff_lt_or_eq.1 hj with h' | rfl
        · exact hn j h' hj'
        · unfold badArity; exact decide_eq_false (fun hx => by rw [not_within'.2 hx] at hb; cases hb)⟩, by omega⟩
    refine WP.exit ?_
    exact ⟨(), ⟨rfl, trivial⟩, I, any_false (fun j hj hj' => hn j (by omega) hj')⟩
  rintro _ e w ⟨I, c3⟩
  refine WP.seq ?_
  refine WP.seq ?_
  refine WP.region ?_
  refine Ops.y (v := .int .i64 _) (Y.assign rfl) ?_
  refine Ops.nil ?_
  refine WP.cutL (σ := Unit) (fun _ => [(1, .pointer (some ⟨b1, 0, none⟩))]) (fun _ w => Inv B B.h [box b1 p.enc 25] w ∧ p.preds.xs.any badKind = false) ?_ ?_
  · refine WP.block ?_
    refine WP.loopE (σ := Nat) (fun k => [(1, .pointer (some ⟨b1, 0, none⟩)), (7, .int .i64 k)]) (fun k w => Inv B B.h [box b1 p.enc 25] w ∧ k ≤ p.preds.xs.length ∧ ∀ j, j < k → ∀ hj : j < p.preds.xs.length, badKind p.preds.xs[j] = false) (fun k => p.preds.xs.length - k)
      ⟨0, ⟨rfl, rfl, trivial⟩, I, Nat.zero_le _, fun j hj => by omega⟩ ?_
    rintro k e w ⟨I, hk, hn⟩
    refine WP.seq ?_
    refine WP.seq ?_
    refine WP.region ?_
    refine Ops.y (v := .int .i64 _) (Y.move rfl) ?_
    refine Ops.y (v := .pointer (some ⟨_, _, none⟩)) (Y.fa0 fa_25_0 rfl) ?_
    refine Ops.y (v := .slice _ _ _) (Y.loadv ty_22 rfl (I.rdbox 0 rfl 0 1) rfl rfl) ?_
    refine Ops.y (v := .int .i64 _) (Y.lens Tryz.underlying22 rfl) ?_
    refine Ops.y (v := .bool (decide _)) (Y.lti rfl rfl) ?_
    refine Ops.nil ?_
    refine WP.cond_dec rfl (fun h => ?_) (fun h => ?_)
    · have hk' : k < p.preds.xs.length := by omega
      have E1 := hp.preds.at hk'
      refine WP.skip ?_
      refine WP.seq ?_
      refine WP.block ?_
      refine WP.seq ?_
      refine WP.region ?_
      refine Ops.y (v := .pointer (some ⟨_, _, none⟩)) (Y.fa0 fa_25_0 rfl) ?_
      refine Ops.y (v := .slice _ _ _) (Y.loadv ty_22 rfl (I.rdbox 0 rfl 0 1) rfl rfl) ?_
      refine Ops.y (v := .int .i64 _) (Y.move rfl) ?_
      refine Ops.y (v := .pointer (some ⟨_, _, none⟩)) (Y.idxEl E1 Tryz.underlying22 Tryz.sizeOf53 rfl rfl (Int.natCast_nonneg _) rfl) ?_
      refine Ops.y (v := .pointer (some ⟨_, _, none⟩)) (Y.fa fa_53_2 rfl) ?_
      refine Ops.y (v := .int .i64 _) (Y.loadv ty_3 rfl (I.rd (E1.rd.part 2 1)) rfl rfl) ?_
      refine Ops.go (O.callv I Tryz.call42 (within_ok _ I.base_ok _ _ _) rfl ?_)
      intro w I
      refine Ops.y (v := .bool _) (Y.not rfl) ?_
      refine Ops.nil ?_
      refine WP.cond rfl (fun hb => ?_) (fun hb => ?_)
      · refine WP.seq ?_
        refine WP.region ?_
        refine Ops.y (v := .int .i64 _) (Y.assign rfl) ?_
        refine Ops.nil ?_
        refine WP.ret ?_
        repeat (first | refine thenE_ret ?_ | refine blockE_ret ?_)
        exact retQ.mk (vs := [.int .i64 _]) rfl ⟨rfl, trivial⟩ I.ext_of (by simp only [tup, checkProg]; rw [if_neg c0, if_neg (by rw [c1]; decide), if_neg (by rw [c2]; decide), if_neg (by rw [c3]; decide), if_pos (any_at hk' (by unfold badKind; exact decide_eq_true (not_within'.1 hb)))])
      refine WP.skip ?_
      refine WP.region ?_
      refine Ops.y (v := .int .i64 _) (Y.move rfl) ?_
      refine Ops.y (v := .int .i64 _) (Y.addi rfl rfl ⟨by omega, by omega⟩) ?_
      refine Ops.y (v := .int .i64 _) (Y.assign rfl) ?_
      refine Ops.nil ?_
      exact ⟨k + 1, ⟨⟨rfl, rfl, trivial⟩, I, hk', fun j hj hj' => by
        rcases Nat.lt_succ_iff_lt_or_eq.1 hj with h' | rfl
        · exact hn j h' hj'
        · unfold badKind; exact decide_eq_false (fun hx => by rw [not_within'.2 hx] at hb; cases hb)⟩, by omega⟩
    refine WP.exit ?_
    exact ⟨(), ⟨rfl, trivial⟩, I, any_false (fun j hj hj' => hn j (by omega) hj')⟩
  rintro _ e w ⟨I, c4⟩
  have e4 : checkProg p = if rulesErr p.preds.xs p.rules.xs ≠ 0 then rulesErr p.preds.xs p.rules.xs else @ite Int (∃ M, Sol (usesL p.rules.xs) p.preds.xs.length M) (Classical.propDecidable _) 0 8 := by
    unfold checkProg; rw [if_neg c0, if_neg (by rw [c1]; decide), if_neg (by rw [c2]; decide), if_neg (by rw [c3]; decide), if_neg (by rw [c4]; decide)]
  refine WP.seq ?_
  refine WP.seq ?_
  refine WP.region ?_
  refine Ops.y (v := .int .i64 _) (Y.assign rfl) ?_
  refine Ops.nil ?_
  refine WP.block ?_
  refine WP.loopE (σ := Nat) (fun k => [(1, .pointer (some ⟨b1, 0, none⟩)), (8, .int .i64 k)]) (fun k w => Inv B B.h [box b1 p.enc 25] w ∧ k ≤ p.rules.xs.length ∧ ∀ j, j < k → ∀ hj : j < p.rules.xs.length, checkRule p.preds.xs p.rules.xs[j] = 0) (fun k => p.rules.xs.length - k)
    ⟨0, ⟨rfl, rfl, trivial⟩, I, Nat.zero_le _, fun j hj => by omega⟩ ?_
  rintro k e w ⟨I, hk, hn⟩
  refine WP.seq ?_
  refine WP.seq ?_
  refine WP.region ?_
  refine Ops.y (v := .int .i64 _) (Y.move rfl) ?_
  refine Ops.y (v := .pointer (some ⟨_, _, none⟩)) (Y.fa fa_25_1 rfl) ?_
  refine Ops.y (v := .slice _ _ _) (Y.loadv ty_23 rfl (I.rdbox 0 rfl 1 1) rfl rfl) ?_
  refine Ops.y (v := .int .i64 _) (Y.lens Tryz.underlying23 rfl) ?_
  refine Ops.y (v := .bool (decide _)) (Y.lti rfl rfl) ?_
  refine Ops.nil ?_
  refine WP.cond_dec rfl (fun h => ?_) (fun h => ?_)
  · have hk' : k < p.rules.xs.length := by omega
    have E1 := hp.rules.is.at hk'
    refine WP.skip ?_
    refine WP.seq ?_
    refine WP.block ?_
    refine WP.seq ?_
    refine WP.regionQ mixed I (by kernel_rfl) ?_
    refine OpsQ.y (v := .pointer (some ⟨_, _, none⟩)) (fun w I => Y.fa0 fa_25_0 rfl) ?_
    refine OpsQ.y (v := .slice _ _ _) (fun w I => Y.loadv ty_22 rfl (I.rdbox 0 rfl 0 1) rfl rfl) ?_
    refine OpsQ.y (v := .pointer (some ⟨_, _, none⟩)) (fun w I => Y.fa fa_25_1 rfl) ?_
    refine OpsQ.y (v := .slice _ _ _) (fun w I => Y.loadv ty_23 rfl (I.rdbox 0 rfl 1 1) rfl rfl) ?_
    refine OpsQ.y (v := .int .i64 _) (fun w I => Y.move rfl) ?_
    refine OpsQ.y (v := .pointer (some ⟨_, _, none⟩)) (fun w I => Y.idxEl E1 Tryz.underlying23 Tryz.sizeOf64 rfl rfl (Int.natCast_nonneg _) rfl) ?_
    refine OpsQ.y (v := .agg #[_, _, _, _, _]) (fun w I => Y.loadv ty_64 rfl (I.rd (E1.rd.part 0 5)) rfl rfl) ?_
    refine OpsQ.c (fun w I => QC.callv I Tryz.call43 (CheckRule_ok _ I.base_ok p.preds hp.preds p.rules.xs[k] (hp.rules.each _ (List.getElem_mem hk'))) rfl) ?_
    refine OpsQ.y (v := .int .i64 _) (fun w I => Y.assign rfl) ?_
    refine OpsQ.nil ?_
    intro w I
    refine WP.seq ?_
    refine WP.region ?_
    refine Ops.y (v := .int .i64 _) (Y.move rfl) ?_
    refine Ops.y (v := .bool (decide _)) (Y.nei rfl rfl) ?_
    refine Ops.nil ?_
    refine WP.cond_dec rfl (fun h17 => ?_) (fun h17 => ?_)
    · refine WP.seq ?_
      refine WP.region ?_
      refine Ops.y (v := .int .i64 _) (Y.move rfl) ?_
      refine Ops.y (v := .int .i64 _) (Y.assign rfl) ?_
      refine Ops.nil ?_
      refine WP.ret ?_
      repeat (first | refine thenE_ret ?_ | refine blockE_ret ?_)
      exact retQ.mk (vs := [.int .i64 _]) rfl ⟨rfl, trivial⟩ I.ext_of (by simp only [tup, e4]; rw [rulesErr_at hk' hn h17, if_pos h17])
    refine WP.skip ?_
    refine WP.region ?_
    refine Ops.y (v := .int .i64 _) (Y.move rfl) ?_
    refine Ops.y (v := .int .i64 _) (Y.addi rfl rfl ⟨by omega, by omega⟩) ?_
    refine Ops.y (v := .int .i64 _) (Y.assign rfl) ?_
    refine Ops.nil ?_
    exact ⟨k + 1, ⟨⟨rfl, rfl, trivial⟩, I, hk', fun j hj hj' => by
      rcases Nat.lt_succ_iff_lt_or_eq.1 hj with h' | rfl
      · exact hn j h' hj'
      · exact Decidable.not_not.1 h17⟩, by omega⟩
  have hr0 : rulesErr p.preds.xs p.rules.xs = 0 := rulesErr_zero.2 fun r hr => by
    obtain ⟨j, hj, rfl⟩ := List.getElem_of_mem hr
    exact hn j (by omega) hj
  have e5 : checkProg p = @ite Int (∃ M, Sol (usesL p.rules.xs) p.preds.xs.length M) (Classical.propDecidable _) 0 8 := by rw [e4, if_neg (by rw [hr0]; decide)]
  refine WP.exit ?_
  refine WP.seq ?_
  refine WP.seq ?_
  refine WP.region ?_
  refine Ops.y (v := .agg #[_, _]) (Y.loadv ty_25 rfl (I.rdbox 0 rfl 0 2) rfl rfl) ?_
  refine Ops.go (O.call I Tryz.call44 (strata_ok _ I.base_ok p hp (inR_of hr0) (by omega) (by omega) (fun r hr => (checkRule_ok (rulesErr_zero.1 hr0 r hr)).2.1)) rfl ?_)
  rintro v112 h3 w I le3 hL
  rcases hL with ⟨s, hS, hI, rfl⟩ | ⟨hno, rfl⟩
  · refine Ops.y (v := .tuple #[_, _]) (Y.move rfl) ?_
    refine Ops.y (v := .slice _ _ _) (Y.extract rfl rfl) ?_
    refine Ops.y (v := .bool _) (Y.extract rfl rfl) ?_
    refine Ops.y (v := .slice _ _ _) (Y.assign rfl) ?_
    refine Ops.y (v := .bool _) (Y.assign rfl) ?_
    refine Ops.nil ?_
    refine WP.seq ?_
    refine WP.region ?_
    refine Ops.y (v := .bool _) (Y.move rfl) ?_
    refine Ops.y (v := .bool _) (Y.not rfl) ?_
    refine Ops.nil ?_
    refine WP.cond_f rfl ?_
    refine WP.skip ?_
    refine WP.seq ?_
    refine WP.region ?_
    refine Ops.y (v := .int .i64 _) (Y.assign rfl) ?_
    refine Ops.nil ?_
    refine WP.ret ?_
    repeat (first | refine thenE_ret ?_ | refine blockE_ret ?_)
    exact retQ.mk (vs := [.int .i64 _]) rfl ⟨rfl, trivial⟩ I.ext_of (by simp only [tup, e5]; rw [if_pos ⟨_, hS.sol⟩])
  · refine Ops.y (v := .tuple #[_, _]) (Y.move rfl) ?_
    refine Ops.y (v := .slice _ _ _) (Y.extract rfl rfl) ?_
    refine Ops.y (v := .bool _) (Y.extract rfl rfl) ?_
    refine Ops.y (v := .slice _ _ _) (Y.assign rfl) ?_
    refine Ops.y (v := .bool _) (Y.assign rfl) ?_
    refine Ops.nil ?_
    refine WP.seq ?_
    refine WP.region ?_
    refine Ops.y (v := .bool _) (Y.move rfl) ?_
    refine Ops.y (v := .bool _) (Y.not rfl) ?_
    refine Ops.nil ?_
    refine WP.cond_t rfl ?_
    refine WP.seq ?_
    refine WP.region ?_
    refine Ops.y (v := .int .i64 _) (Y.assign rfl) ?_
    refine Ops.nil ?_
    refine WP.ret ?_
    repeat (first | refine thenE_ret ?_ | refine blockE_ret ?_)
    exact retQ.mk (vs := [.int .i64 _]) rfl ⟨rfl, trivial⟩ I.ext_of (by simp only [tup, e5]; rw [if_neg (fun ⟨M, hM⟩ => hno M hM)])
end Go.TF
end
section
/- Strata, StrataOf, NeedsOf. -/
namespace Go.TF
open Go Go.RowKit Go.Proofs
set_option maxRecDepth 20000

end Go.TF
end
section
/- Finding a fact; being under. -/
namespace Go.TF
open Go Go.RowKit Go.Proofs
set_option maxRecDepth 20000

/-! ### Being under -/
end Go.TF
end
section
/- slices.Insert of one fact; adding a fact. -/
namespace Go.TF
open Go Go.RowKit Go.Proofs
set_option maxRecDepth 20000

end Go.TF
end
section
/- What of a round is asked. -/
namespace Go.TF
open Go Go.RowKit Go.Proofs
set_option maxRecDepth 20000

noncomputable def askR (p : Prg) (f : List Fct) : Int := if checkProg p ≠ 0 then checkProg p else checkFacts p.preds.xs f
theorem askR_iff {p : Prg} {f : List Fct} : askR p f = 0 ↔ checkProg p = 0 ∧ FOk p.preds.xs f := by
  unfold askR
  constructor
  · intro h
    split at h
    · rename_i h1; exact absurd h h1
    · rename_i h1; exact ⟨Decidable.not_not.1 h1, checkFacts_ok.1 h⟩
  · rintro ⟨h1, h2⟩
    rw [if_neg (by omega)]; exact checkFacts_ok.2 h2
end Go.TF
end
section
/- Adding a fact, as base and the document do. -/
namespace Go.TF
open Go Go.RowKit Go.Proofs
set_option maxRecDepth 20000

theorem srt_place {f : List Fct} (hp : ∀ y ∈ f, PF y) (hs : SrtF f) : ∀ i, (hi : i < f.length) → (i : Int) ≤ placeF f[i]
  | 0, hi => (hp _ (List.getElem_mem hi)).place.1
  | i + 1, hi => by
    have h1 := srt_place hp hs i (by omega)
    have h2 := hs.get (i := i) (j := i + 1) (by omega) hi
    omega
theorem srt_len {f : List Fct} (hp : ∀ y ∈ f, PF y) (hs : SrtF f) : f.length ≤ 125 := by
  rcases Nat.lt_or_ge 125 f.length with h | h
  · have h1 := srt_place hp hs 125 h
    have h2 := (hp _ (List.getElem_mem h)).place.2
    omega
  · exact h
theorem FOk.len125 {l : List Prd} {f : List Fct} (ok : FOk l f) : f.length ≤ 125 := srt_len ok.pf ok.srt
def CloneP (xs : List Fct) (h0 : Heap) : Value → Heap → Prop := fun v h => ∃ s : Sl Fct, v = s.val ∧ s.xs = xs ∧ OwnH 83 4 s Fct.enc h0 h ∧ (s.xs = [] → s.cap = 0)
theorem CloneP.mono {xs : List Fct} {h0 : Heap} : MonoS (CloneP xs h0) := fun _ _ _ hl hx => by
  obtain ⟨s, h1, h2, h3, h4⟩ := hx
  exact ⟨s, h1, h2, h3.le hl, h4⟩
/-- What adding hands back. -/
def PutP (r : List Fct × Bool) (v : Value) (h : Heap) : Prop := ∃ s : Sl Fct, v = .tuple #[s.val, .bool r.2] ∧ s.xs = r.1 ∧ Fcts s h
/-- What adding hands back is the call's own. -/
def PutO (h0 : Heap) (r : List Fct × Bool) (v : Value) (h : Heap) : Prop := ∃ s : Sl Fct, v = .tuple #[s.val, .bool r.2] ∧ s.xs = r.1 ∧ Fcts s h ∧ OwnH 83 4 s Fct.enc h0 h
theorem PutO.put {h0 h : Heap} {r : List Fct × Bool} {v : Value} (x : PutO h0 r v h) : PutP r v h := by obtain ⟨s, a, b, c, _⟩ := x; exact ⟨s, a, b, c⟩
structure AddS where
  k : Nat
  n : Nat
  a : Option Addr
  c : Nat
  acc : List Fct
  th : Bool
  ch : Bool
structure AddJ (B : Base) (b5 : Nat) (x : Fct) (kd : Int) (f : List Fct) (s : AddS) (w : World) : Prop where
  inv : ∃ h1, B.h.le h1 ∧ Inv B h1 [ownSl 83 4 (.slice s.a s.n s.c) s.n (s.acc.flatMap Fct.enc), box b5 x.enc 83] w
  n : s.n = s.acc.length
  k : s.k ≤ f.length
  le : s.n ≤ s.k + 1
  lo : s.th = false → s.acc = f.take s.k ∧ s.ch = false ∧ ∀ j, j < s.k → ∀ hj : j < f.length, placeF f[j] < placeF x
  hi : s.th = true → addF kd f x = (s.acc ++ f.drop s.k, s.ch) ∧ ∀ j, s.k ≤ j → ∀ hj : j < f.length, placeF x < placeF f[j]
end Go.TF
end
section
/- Package text: Facts: walked. -/
namespace Go.TF
open Go Go.RowKit Go.Proofs
set_option maxRecDepth 20000
set_option linter.unusedSimpArgs false


noncomputable def factsV (p : Prg) (f : List Fct) : Value := if askR p f = 0 then .tuple #[.string (mk (factsL p.preds.xs f)), .int .i64 0] else .tuple #[.string ⟨#[]⟩, .int .i64 (askR p f)]
theorem factL_len {p : Prg} (hp0 : checkProg p = 0) {x : Fct} (r : FctR p.preds.xs x) : (factL p.preds.xs x).length ≤ 21 := by
  have h1 := atom_len hp0 r.aok
  have dl := dg_len (n := x.v.toNat) (by have := r.v; omega)
  unfold factL
  split <;> simp only [List.length_append, List.length_cons, List.length_nil] <;> omega
theorem flat_fl {n : Nat} {α : Type} {g : α → Bs} : ∀ {L : List α}, (∀ x ∈ L, (g x).length ≤ n) → (L.flatMap g).length ≤ L.length * n
  | [], _ => by simp
  | x :: r, h => by
    have ih := flat_fl (L := r) fun y hy => h y (List.mem_cons_of_mem _ hy)
    have := h x (by simp)
    simp only [List.flatMap_cons, List.length_append, List.length_cons, Nat.add_mul, Nat.one_mul] at ih ⊢
    omega
set_option maxHeartbeats 4000000 in
theorem Facts_ok (B : Base) (hB : B.ok) (p : Prg) (hp : p.In B.h) (hnm : p.Nm) (f : Sl Fct) (hf : Fcts f B.h) : Fn Tryz.prog 19 [p.val, f.val] B (fun v _ => v = factsV p f.xs) := by
  refine Fn.of Tryz.func19 rfl Tryz.ntmps19 (by kernel_rfl) (by simp) ?_
  intro e
  have I := Inv.start hB
  refine WP.seq ?_
  refine WP.region ?_
  refine Ops.go (O.box (v := .agg #[_, _]) I rfl rfl ?_)
  intro b2 w I
  refine Ops.y (v := .string _) (Y.assign rfl) ?_
  refine Ops.y (v := .int .i64 _) (Y.assign rfl) ?_
  refine Ops.nil ?_
  refine WP.seq ?_
  refine WP.seq ?_
  refine WP.region ?_
  refine Ops.y (v := .agg #[_, _]) (Y.loadv ty_25 rfl (I.rdbox 0 rfl 0 2) rfl rfl) ?_
  refine Ops.go (O.callv I Tryz.call22 (PCheck_ok _ I.base_ok p hp hnm) rfl ?_)
  intro w I
  refine Ops.y (v := .int .i64 _) (Y.assign rfl) ?_
  refine Ops.nil ?_
  refine WP.seq ?_
  refine WP.region ?_
  refine Ops.y (v := .int .i64 _) (Y.move rfl) ?_
  refine Ops.y (v := .bool (decide _)) (Y.nei rfl rfl) ?_
  refine Ops.nil ?_
  refine WP.cond_dec rfl (fun h2 => ?_) (fun h2 => ?_)
  · have hq : askR p f.xs = checkProg p := by unfold askR; rw [if_pos h2]
    refine WP.seq ?_
    refine WP.region ?_
    refine Ops.y (v := .int .i64 _) (Y.move rfl) ?_
    refine Ops.y (v := .string _) (Y.assign rfl) ?_
    refine Ops.y (v := .int .i64 _) (Y.assign rfl) ?_
    refine Ops.nil ?_
    refine WP.ret ?_
    repeat (first | refine thenE_ret ?_ | refine blockE_ret ?_)
    exact retQ.mk (vs := [.string _, .int .i64 _]) rfl ⟨rfl, rfl, trivial⟩ I.ext_of (by simp only [tup]; unfold factsV; rw [hq, if_neg h2])
  have hp0 : checkProg p = 0 := Decidable.not_not.1 h2
  have hq : askR p f.xs = checkFacts p.preds.xs f.xs := by unfold askR; rw [if_neg h2]
  refine WP.skip ?_
  refine WP.seq ?_
  refine WP.seq ?_
  refine WP.region ?_
  refine Ops.y (v := .pointer (some ⟨_, _, none⟩)) (Y.fa0 fa_25_0 rfl) ?_
  refine Ops.y (v := .slice _ _ _) (Y.loadv ty_22 rfl (I.rdbox 0 rfl 0 1) rfl rfl) ?_
  refine Ops.y (v := .slice _ _ _) (Y.move rfl) ?_
  refine Ops.go (O.callv I Tryz.call50 (BCheck_ok _ I.base_ok p.preds hp.preds f hf) rfl ?_)
  intro w I
  refine Ops.y (v := .int .i64 _) (Y.assign rfl) ?_
  refine Ops.nil ?_
  refine WP.seq ?_
  refine WP.region ?_
  refine Ops.y (v := .int .i64 _) (Y.move rfl) ?_
  refine Ops.y (v := .bool (decide _)) (Y.nei rfl rfl) ?_
  refine Ops.nil ?_
  refine WP.cond_dec rfl (fun h21 => ?_) (fun h21 => ?_)
  · refine WP.seq ?_
    refine WP.region ?_
    refine Ops.y (v := .int .i64 _) (Y.move rfl) ?_
    refine Ops.y (v := .string _) (Y.assign rfl) ?_
    refine Ops.y (v := .int .i64 _) (Y.assign rfl) ?_
    refine Ops.nil ?_
    refine WP.ret ?_
    repeat (first | refine thenE_ret ?_ | refine blockE_ret ?_)
    exact retQ.mk (vs := [.string _, .int .i64 _]) rfl ⟨rfl, rfl, trivial⟩ I.ext_of (by simp only [tup]; unfold factsV; rw [hq, if_neg h21])
  have hf0 : checkFacts p.preds.xs f.xs = 0 := Decidable.not_not.1 h21
  have fo := checkFacts_ok.1 hf0
  have h125 := fo.len125
  refine WP.skip ?_
  refine WP.seq ?_
  refine WP.region ?_
  refine Ops.go (O.alloc I Tryz.zeroValue51 rfl ?_)
  intro b8 w I
  refine Ops.nil ?_
  have I := I.emptyRow 5 b8
  refine WP.seq ?_
  refine WP.seq ?_
  refine WP.region ?_
  refine Ops.y (v := .slice _ _ _) (Y.move rfl) ?_
  refine Ops.y (v := .int .i64 _) (Y.lens Tryz.underlying31 rfl) ?_
  refine Ops.y (v := .int .i64 _) (Y.move rfl) ?_
  refine Ops.nil ?_
  refine WP.block ?_
  refine WP.loopE (σ := Nat × Value × Option Addr × Nat × Nat × Heap) (fun z => [(2, .pointer (some ⟨b2, 0, none⟩)), (8, .pointer (some ⟨b8, 0, none⟩)), (23, f.val), (24, .int .i64 f.xs.length), (25, .int .i64 z.1)])
    (fun z w => z.1 ≤ f.xs.length ∧ bldP b8 z.2.1 ∧ B.h.le z.2.2.2.2.2 ∧ Inv B z.2.2.2.2.2 [bldR b8 (.slice z.2.2.1 z.2.2.2.1 z.2.2.2.2.1) (factsL p.preds.xs (f.xs.take z.1)), bldB b8 z.2.1 (.slice z.2.2.1 z.2.2.2.1 z.2.2.2.2.1), box b2 p.enc 25] w) (fun z => f.xs.length - z.1)
    ⟨(0, .pointer none, none, 0, 0, B.h), ⟨rfl, rfl, rfl, rfl, rfl, trivial⟩, Nat.zero_le _, .inl rfl, Heap.le.refl _, I⟩ ?_
  rintro ⟨k, pv, a, n, c, hh⟩ e w ⟨hk, hpv, gl, I⟩
  dsimp only at hk hpv gl I ⊢
  refine WP.seq ?_
  refine WP.region ?_
  refine Ops.y (v := .bool (decide _)) (Y.lti rfl rfl) ?_
  refine Ops.nil ?_
  refine WP.seq ?_
  refine WP.cond_dec rfl (fun h26 => ?_) (fun h26 => ?_)
  · have hk' : k < f.xs.length := by omega
    have E := Sl.Is.at (hf.le gl) hk'
    have fr := fctR fo (List.getElem_mem hk')
    have hlen := factL_len hp0 fr
    have hnl := name_len hp0 (predOf_mem fr.pred)
    have hnx : f.xs.take (k + 1) = f.xs.take k ++ [f.xs[k]] := by rw [List.take_add_one, List.getElem?_eq_getElem hk']; rfl
    have hsl : (factsL p.preds.xs (f.xs.take k)).length ≤ 2875 := by
      have h1 := flat_fl (n := 23) (L := f.xs.take k) (g := fun x => factL p.preds.xs x ++ [46, 10]) fun x hx => by
        have := factL_len hp0 (fctR fo (List.mem_of_mem_take hx))
        simp only [List.length_append, List.length_cons, List.length_nil]; omega
      have h3 : (f.xs.take k).length ≤ 125 := by rw [List.length_take]; omega
      have := Nat.mul_le_mul_right 23 h3
      unfold factsL
      omega
    obtain ⟨x, hx⟩ : ∃ x, f.xs[k] = x := ⟨_, rfl⟩
    rw [hx] at E fr hlen hnl hnx
    refine WP.skip ?_
    refine WP.seq ?_
    refine WP.block ?_
    refine WP.seq ?_
    refine WP.region ?_
    refine Ops.y (v := .pointer (some ⟨_, _, none⟩)) (Y.idxEl E Tryz.underlying31 Tryz.sizeOf83 rfl rfl (Int.natCast_nonneg _) rfl) ?_
    refine Ops.y (v := .agg #[_, _, _, _]) (Y.loadv ty_83 rfl (I.rd (E.rd.part 0 4)) rfl rfl) ?_
    refine Ops.go (O.alloc I Tryz.zeroValue83 rfl ?_)
    intro b10 w I
    refine Ops.go (O.store (v := .agg #[_, _, _, _]) I ty_83 0 rfl rfl rfl rfl rfl rfl (Nat.le_of_ble_eq_true rfl) rfl ?_)
    intro w I
    refine Ops.nil ?_
    refine WP.region ?_
    refine Ops.y (v := .pointer (some ⟨_, _, none⟩)) (Y.fa0 fa_25_0 rfl) ?_
    refine Ops.y (v := .slice _ _ _) (Y.loadv ty_22 rfl (I.rdbox 3 rfl 0 1) rfl rfl) ?_
    refine Ops.y (v := .agg #[_, _, _, _]) (Y.loadv ty_83 rfl (I.rdbox 0 rfl 0 4) rfl rfl) ?_
    refine Ops.go (O.callv I Tryz.call51 (Fact_ok _ I.base_ok p.preds (hp.preds.le gl) x fr hnl) rfl ?_)
    intro w I
    refine Ops.y (v := .string _) (Y.adds rfl rfl (by rw [mk_size]; show _ + 2 ≤ _; omega)) ?_
    refine Ops.go (O.calls Tryz.call23 (WriteS_is I 2 1 (by decide) rfl rfl hpv (t := factL p.preds.xs x ++ [46, 10]) (by simp only [tx_mk, tx_app, txl, List.append_assoc, Int.toNat_natCast, List.cons_append, List.nil_append]) (by rw [List.length_append]; simp only [List.length_cons, List.length_nil]; omega)) rfl ?_)
    rintro ed w ⟨rfl, a', k', c', I⟩
    refine ⟨_, rfl, ?_⟩
    refine Ops.nil ?_
    refine WP.region ?_
    refine Ops.y (v := .int .i64 _) (Y.addi rfl rfl ⟨by omega, by omega⟩) ?_
    refine Ops.y (v := .int .i64 _) (Y.move rfl) ?_
    refine Ops.nil ?_
    refine ⟨(k + 1, .pointer (some ⟨b8, 0, none⟩), a', k', c', hh), ⟨⟨rfl, rfl, rfl, rfl, rfl, trivial⟩, by dsimp only; omega, .inr rfl, gl, ?_⟩, by dsimp only; omega⟩
    dsimp only
    unfold factsL at I ⊢
    rw [hnx, List.flatMap_append, List.flatMap_singleton]
    exact I.drop
  obtain rfl : k = f.xs.length := by omega
  rw [List.take_length] at I
  refine WP.exit ?_
  refine WP.seq ?_
  refine WP.region ?_
  refine Ops.go (O.calls Tryz.call27 (BString_v I hB 1 0 rfl rfl hpv) rfl ?_)
  rintro ed w ⟨rfl, I⟩
  refine ⟨_, rfl, ?_⟩
  refine Ops.y (v := .string _) (Y.assign rfl) ?_
  refine Ops.y (v := .int .i64 _) (Y.assign rfl) ?_
  refine Ops.nil ?_
  refine WP.ret ?_
  repeat (first | refine thenE_ret ?_ | refine blockE_ret ?_)
  exact retQ.mk (vs := [.string _, .int .i64 _]) rfl ⟨rfl, rfl, trivial⟩ I.ext_of (by simp only [tup]; unfold factsV; rw [hq, if_pos hf0])
end Go.TF
end
section
/- A drawn region in which one variable is made; it is written behind all else. -/
namespace Go.TF
open Go Go.RowKit

structure AlS where
  h : Heap
  o7 : Option Nat
structure JAl (B : Base) (M : List SA) (T : TypeId) (z : List Value) (i7 : Nat) (D : Nat → Bool) (s : AlS) (w : World) : Prop where
  h7 : s.o7.isSome = D i7
  inv : Inv B s.h (pcs s.o7 false z z T ++ M) w
structure RAl (s s' : AlS) : Prop where
  h : s.h.le s'.h
  h7 : ∀ b, s.o7 = some b → s'.o7 = some b
theorem RAl.pre : Pre RAl := ⟨fun _ => ⟨Heap.le.refl _, fun _ h => h⟩, fun _ _ _ h k => ⟨h.h.trans k.h, fun b e => k.h7 b (h.h7 b e)⟩⟩
def AtAl (u : Value) (s : AlS) : Prop := ∃ b, u = .pointer (some ⟨b, 0, none⟩) ∧ s.o7 = some b
theorem AtAl.mono : MonoG RAl AtAl := fun _ _ _ r ⟨b, h1, h2⟩ => ⟨b, h1, r.h7 b h2⟩
def KnAl (Φ : Sp) (u : Value) (s : AlS) : Prop := Φ u s.h
theorem KnAl.mono {Φ : Sp} (hm : MonoS Φ) : MonoG RAl (KnAl Φ) := fun _ _ _ r h => hm _ _ _ r.h h
section
variable {P : Program} {o : Oper} {e : Env} {B : Base} {M : List SA} {T : TypeId} {z : List Value} {i7 i k : Nat} {D : Nat → Bool} {s : AlS} {w : World}
theorem JAl.base (j : JAl B M T z i7 D s w) : Inv B s.h M w := j.inv.weak (List.sublist_append_right _ _)
theorem JAl.set (h : i7 ≠ k) : ∀ D s w, JAl B M T z i7 D s w → JAl B M T z i7 (setD D k) s w := fun D s w j => ⟨by rw [show setD D k i7 = D i7 by simp [setD, h]]; exact j.h7, j.inv⟩
theorem JAl.know {Φ : Sp} (j : JAl B M T z i7 D s w) (h : i7 ≠ i) (hop : ∀ N, Inv B s.h N w → Op1 P o e w fun u w' => ∃ h', s.h.le h' ∧ Inv B h' N w' ∧ Φ u h') :
    Op1 P o e w fun u w' => ∃ s', RAl s s' ∧ JAl B M T z i7 (setD D i) s' w' ∧ KnAl Φ u s' :=
  (hop _ j.inv).mono fun u w' ⟨h', hl, I, hu⟩ => ⟨⟨h', s.o7⟩, ⟨hl, fun _ e => e⟩, ⟨by rw [show setD D i i7 = D i7 by simp [setD, h]]; exact j.h7, I⟩, hu⟩
end
section
variable {P : Program} {full : Array Oper} {B : Base} {M : List SA} {T : TypeId} {z : List Value} {i7 : Nat} {h0 : AlS} {L : List (Nat × Sq AlS)} {rest : List Oper} {e : Env} {K : List (Nat × Sq AlS) → Env → Prop}
variable {t : TypeId} {pos : String} {af : Array Edge}
end
end Go.TF
end
section
/- The document's texts are the program's: digits, terms, atoms; a fact's text, the facts': walked. -/
namespace Go.TF
open Go Go.RowKit Go.Proofs
set_option maxRecDepth 20000
set_option linter.unusedSimpArgs false


theorem dig_tx {n : Nat} (h : n < 100) : tx (digT n) = dgL n := by
  have : ∀ i : Fin 100, tx (digT i.val) = dgL i.val := by decide
  exact this ⟨n, h⟩
theorem term_tx {t : Trm} (h : termOk t = true) : tx (termT t) = termL t := by
  unfold termT termL
  split
  · rfl
  · rename_i hv
    refine dig_tx ?_
    unfold termOk at h
    rw [if_neg hv] at h
    have := of_decide_eq_true h
    omega
theorem atom_tx {l : List Prd} {a : Atm} (ao : AOk l a) : tx (atomT l a) = atomL l a := by
  have h2 := ao.len
  have hok : ∀ t ∈ a.args.xs, termOk t = true := fun t ht => ao.termOk ht
  obtain ⟨xs, hx⟩ : ∃ xs, a.args.xs = xs := ⟨_, rfl⟩
  unfold atomT atomL argsL
  rw [hx] at h2 hok ⊢
  match xs, h2, hok with
  | [], _, _ => simp [atomK]
  | [t], _, hok =>
    have := term_tx (hok t (by simp))
    simp [atomK, tx_app, joinT, hx, this]
  | [t, u], _, hok =>
    have h1 := term_tx (hok t (by simp))
    have h2 := term_tx (hok u (by simp))
    simp [atomK, tx_app, joinT, hx, h1, h2]
end Go.TF
end
section
/- Package text: atom, which reads an atom or panics: walked. -/
namespace Go.TF
open Go Go.RowKit Go.Proofs
set_option maxRecDepth 20000

theorem cut_len (s sep : Bs) : (Lib.cut s sep).1.length ≤ s.length ∧ (Lib.cut s sep).2.1.length ≤ s.length := by
  unfold Lib.cut
  split
  · simp only [List.length_take, List.length_drop]; omega
  · simp
theorem splitK_len {sep : Bs} : ∀ (k : Nat) (s : Bs), ∀ x ∈ Lib.splitK sep 0 k s, x.length ≤ s.length
  | 0, s, x, hx => by simp [Lib.splitK] at hx; subst hx; exact Nat.le_refl _
  | k + 1, s, x, hx => by
    rw [Lib.splitK] at hx
    split at hx
    · simp at hx; subst hx; exact Nat.le_refl _
    · rcases List.mem_cons.1 hx with rfl | hx
      · simp only [List.length_take]; omega
      · have := splitK_len k _ x hx
        simp only [List.length_drop] at this; omega
theorem split_len {s sep x : Bs} (hx : x ∈ Lib.split s sep) : x.length ≤ s.length := splitK_len _ _ x hx
theorem splitK_cnt {sep : Bs} : ∀ (k : Nat) (s : Bs), (Lib.splitK sep 0 k s).length ≤ k + 1
  | 0, s => by simp [Lib.splitK]
  | k + 1, s => by
    rw [Lib.splitK]
    split
    · simp
    · have := splitK_cnt (sep := sep) k (s.drop ((Lib.index s sep).toNat + sep.length))
      simp only [List.length_cons]; omega
theorem split_cnt (s sep : Bs) : (Lib.split s sep).length ≤ s.length + 2 := by
  have h1 := splitK_cnt (sep := sep) (Lib.count s sep) s
  have h2 := Lib.count_le s sep
  unfold Lib.split; omega
theorem termsR_bad {l : List Bs} {w : Bs} (hw : w ∈ l) (h : termR w = none) : termsR l = none := by
  induction l with
  | nil => cases hw
  | cons x r ih =>
    rcases List.mem_cons.1 hw with rfl | hw
    · simp [termsR, h]
    · simp only [termsR, ih hw]; cases termR x <;> rfl
theorem termsR_snoc {l : List Bs} {w : Bs} {ts : List Trm} {t : Trm} (hl : termsR l = some ts) (h : termR w = some t) : termsR (l ++ [w]) = some (ts ++ [t]) := by
  induction l generalizing ts with
  | nil => simp [termsR] at hl; subst hl; simp [termsR, h]
  | cons x r ih =>
    simp only [termsR] at hl
    cases hx : termR x with
    | none => simp [hx] at hl
    | some y =>
      cases hr : termsR r with
      | none => simp [hx, hr] at hl
      | some ys =>
        simp [hx, hr] at hl
        subst hl
        simp [termsR, hx, ih hr]
def AndV (p : Prop) (v0 : Value) : Sp := fun v _ => p ∧ v = v0
theorem AndV.mono {p : Prop} {v0 : Value} : MonoS (AndV p v0) := fun _ _ _ _ h => h
theorem beq_tx (a b : ByteArray) : (a.toList == b.toList) = decide (tx a = tx b) := by
  rw [Lib.toList_data, Lib.toList_data, Bool.beq_eq_decide_eq]
theorem atom1_ok (B : Base) (hB : B.ok) (x : Prd) (b : Nat) (nm : ByteArray) (hb : Known B.h b [.string nm]) : Fn Tryz.prog 130 [x.val, .pointer (some ⟨b, 0, none⟩)] B (fun v _ => v = .bool (decide (tx x.name = tx nm))) := by
  refine Fn.of Tryz.func130 rfl Tryz.ntmps130 (by kernel_rfl) (by simp) ?_
  intro e
  have I := Inv.start hB
  refine WP.seq ?_
  refine WP.region ?_
  refine Ops.go (O.box (v := .agg #[_, _, _]) I rfl rfl ?_)
  intro b2 w I
  refine Ops.y (v := .bool _) (Y.assign rfl) ?_
  refine Ops.nil ?_
  refine WP.seq ?_
  refine WP.region ?_
  refine Ops.y (v := .pointer (some ⟨_, _, none⟩)) (Y.fa0 fa_53_0 rfl) ?_
  refine Ops.y (v := .string _) (Y.loadv ty_9 rfl (I.rdbox 0 rfl 0 1) rfl rfl) ?_
  refine Ops.y (v := .string _) (Y.loadv ty_9 rfl (I.rd hb.rd) rfl rfl) ?_
  refine Ops.y (v := .bool _) (Y.eqs rfl rfl) ?_
  refine Ops.y (v := .bool _) (Y.assign rfl) ?_
  refine Ops.nil ?_
  refine WP.ret ?_
  repeat (first | refine thenE_ret ?_ | refine blockE_ret ?_)
  exact retQ.mk (vs := [.bool _]) rfl ⟨rfl, trivial⟩ I.ext_of (by simp only [tup]; rw [beq_tx])
set_option maxHeartbeats 16000000 in
theorem atom_ok (B : Base) (hB : B.ok) (V : Vars B.h) (l : Sl Prd) (hl : Prds l B.h) (s : ByteArray) (hs : s.size ≤ 4096) : FnP Tryz.prog 74 [l.val, .string s] B brk (atomR l.xs (tx s) = none) (fun v h => ∃ a : Atm, v = a.val ∧ OwnH 109 2 a.args Trm.enc B.h h ∧ a.args.xs.length ≤ 4098 ∧ atomR l.xs (tx s) = some a.er) := by
  have hcl := cut_len (tx s) [40]
  have htl := tx_len s
  obtain ⟨c1, c2, c3, hc⟩ : ∃ c1 c2 c3, Lib.cut (tx s) [40] = (c1, c2, c3) := ⟨_, _, _, rfl⟩
  have hR : atomR l.xs (tx s) = match predIx l.xs c1 with
      | none => none
      | some k => if c3 = false then some (mkA k []) else if Lib.hasSuffix c2 [41] = false then none else (termsR (Lib.split (Lib.trimSuffix c2 [41]) [44])).map (mkA k) := by unfold atomR; rw [hc] <;> rfl
  have hcut : ∀ B' : Base, B'.ok → Vars B'.h → Fn Tryz.prog 73 [.string s, .string ⟨#[40]⟩] B' (fun v _ => v = .tuple #[.string (mk c1), .string (mk c2), .bool c3]) := fun B' hB' V' =>
    (Cut_ok B' hB' V' s ⟨#[40]⟩ (by omega)).mono fun v _ _ hv => by rw [hv]; show Value.tuple #[.string (mk (Lib.cut (tx s) [40]).1), .string (mk (Lib.cut (tx s) [40]).2.1), .bool (Lib.cut (tx s) [40]).2.2] = _; rw [hc]
  rw [hc] at hcl
  dsimp only at hcl
  have hts := Lib.trimSuffix_le c2 [41]
  have hix : idxOf (fun x : Prd => decide (tx x.name = tx (mk c1))) l.xs = match predIx l.xs c1 with | some k => (k : Int) | none => -1 := rfl
  refine FnP.of Tryz.func74 rfl Tryz.ntmps74 (by kernel_rfl) (by simp) ?_
  intro e
  have I := Inv.start hB
  refine WP.seq ?_
  refine WP.region ?_
  refine Ops.go (O.alloc I Tryz.zeroValue61 rfl ?_)
  intro b4 w I
  refine Ops.nil ?_
  refine WP.seq ?_
  refine WP.region ?_
  refine Ops.y (v := .string _) (Y.move rfl) ?_
  refine Ops.go (O.callv I Tryz.call73 (hcut _ I.base_ok V) rfl ?_)
  intro w I
  refine Ops.y (v := .tuple #[_, _, _]) (Y.move rfl) ?_
  refine Ops.y (v := .string _) (Y.extract rfl rfl) ?_
  refine Ops.y (v := .string _) (Y.extract rfl rfl) ?_
  refine Ops.y (v := .bool _) (Y.extract rfl rfl) ?_
  refine Ops.go (O.alloc I Tryz.zeroValue9 rfl ?_)
  intro b5 w I
  refine Ops.go (O.store (v := .string _) I ty_9 0 rfl rfl rfl rfl rfl rfl (Nat.le_of_ble_eq_true rfl) rfl ?_)
  intro w I
  refine Ops.y (v := .string _) (Y.assign rfl) ?_
  refine Ops.y (v := .bool _) (Y.assign rfl) ?_
  refine Ops.nil ?_
  obtain ⟨h1, gl1, kb, I⟩ := I.settleBox
  have V1 := V.le gl1
  refine WP.seq ?_
  refine WP.region ?_
  refine Ops.y (v := .slice _ _ _) (Y.move rfl) ?_
  refine Ops.y (v := .func _ _ _) (Y.mkfunc rfl rfl) ?_
  refine Ops.go (O.callv I Tryz.call114 (IndexFuncPrd_ok _ I.base_ok l (hl.le gl1) 130 Tryz.call130 [] [.pointer (some ⟨b5, 0, none⟩)] (fun x => decide (tx x.name = tx (mk c1))) (fun B' hB' hl' x _ => atom1_ok B' hB' x b5 (mk c1) (kb.le hl'))) rfl ?_)
  intro w I
  refine Ops.y (v := .agg #[.int .i64 _, .slice _ _ _]) (Y.build pl_61 Tryz.zeroValue61 rfl rfl) ?_
  refine Ops.go (O.alloc I Tryz.zeroValue61 rfl ?_)
  intro b8 w I
  refine Ops.go (O.store (v := .agg #[_, _]) I ty_61 0 rfl rfl rfl rfl rfl rfl (Nat.le_of_ble_eq_true rfl) rfl ?_)
  intro w I
  refine Ops.nil ?_
  cases hp : predIx l.xs c1 with
  | none =>
    have hn : atomR l.xs (tx s) = none := by rw [hR, hp]
    rw [hp] at hix
    refine WP.seq ?_
    refine WP.regionP _ (fun _ _ _ h => h) ?_
    refine OpsP.y (v := .pointer (some ⟨_, _, none⟩)) (Y.fa0 fa_61_0 rfl) ?_
    refine OpsP.y (v := .int .i64 _) (Y.loadv ty_3 rfl (I.rdbox 0 rfl 0 1) rfl rfl) ?_
    refine OpsP.y (v := .bool false) (Y.dec_f (Y.gei rfl rfl) ((by rw [hix]; decide))) ?_
    refine OpsP.p (O.callp I Tryz.call32 (must_ok _ I.base_ok false) rfl (fun _ => hn) ?_)
    rintro _ h w I hle ⟨hh, _⟩
    refine OpsP.nil ?_
    cases hh
  | some k =>
  rw [hp] at hix hR
  dsimp only at hix hR
  refine WP.seq ?_
  refine WP.regionP _ (fun _ _ _ h => h) ?_
  refine OpsP.y (v := .pointer (some ⟨_, _, none⟩)) (Y.fa0 fa_61_0 rfl) ?_
  refine OpsP.y (v := .int .i64 _) (Y.loadv ty_3 rfl (I.rdbox 0 rfl 0 1) rfl rfl) ?_
  refine OpsP.y (v := .bool true) (Y.dec_t (Y.gei rfl rfl) ((by rw [hix]; exact Int.natCast_nonneg k))) ?_
  refine OpsP.p (O.callp I Tryz.call32 (must_ok _ I.base_ok true) rfl (fun h => by cases h) ?_)
  rintro _ h w I gl2 ⟨_, rfl⟩
  refine OpsP.nil ?_
  have gl2 := gl1.trans gl2
  refine WP.seq ?_
  refine WP.seq ?_
  refine WP.region ?_
  refine Ops.y (v := .bool _) (Y.move rfl) ?_
  refine Ops.y (v := .bool _) (Y.not rfl) ?_
  refine Ops.nil ?_
  refine WP.cond rfl (fun h4 => ?_) (fun h4 => ?_)
  · have h3 : c3 = false := by simpa using h4
    refine WP.seq ?_
    refine WP.region ?_
    refine Ops.y (v := .agg #[_, _]) (Y.loadv ty_61 rfl (I.rdbox 0 rfl 0 2) rfl rfl) ?_
    refine Ops.go (O.store (v := .agg #[_, _]) I ty_61 1 rfl rfl rfl rfl rfl rfl (Nat.le_of_ble_eq_true rfl) rfl ?_)
    intro w I
    refine Ops.nil ?_
    refine WP.ret ?_
    repeat (first | refine thenE_ret ?_ | refine blockE_ret ?_)
    exact retP.mk (vs := [.agg #[_, _]]) rfl ⟨⟨_, _, _, _, _, rfl, ty_61, I.rdbox 1 rfl 0 2, rfl, rfl⟩, trivial⟩ I.ext_of (⟨⟨k, ⟨none, 0, []⟩⟩, by simp only [tup]; rw [hix]; rfl, .inl rfl, Nat.zero_le _, by rw [hR, if_pos h3]; rfl⟩)
  have h3 : c3 = true := by simpa using h4
  rw [if_neg (by rw [h3]; decide)] at hR
  refine WP.skip ?_
  refine WP.seq ?_
  refine WP.region ?_
  refine Ops.y (v := .string _) (Y.move rfl) ?_
  refine Ops.go (O.callv I Tryz.call72 (CutSuf_ok _ I.base_ok (mk c2) ⟨#[41]⟩ (by rw [mk_size]; omega)) rfl ?_)
  intro w I
  refine Ops.y (v := .tuple #[_, _]) (Y.move rfl) ?_
  refine Ops.y (v := .string _) (Y.extract rfl rfl) ?_
  refine Ops.y (v := .bool _) (Y.extract rfl rfl) ?_
  refine Ops.y (v := .string _) (Y.assign rfl) ?_
  refine Ops.y (v := .bool _) (Y.assign rfl) ?_
  refine Ops.nil ?_
  cases hsf : Lib.hasSuffix c2 [41] with
  | false =>
    have hn : atomR l.xs (tx s) = none := by rw [hR, if_pos hsf]
    refine WP.seq ?_
    refine WP.regionP _ (fun _ _ _ h => h) ?_
    refine OpsP.y (v := .bool _) (Y.move rfl) ?_
    refine OpsP.p (O.callp I Tryz.call32 (must_ok _ I.base_ok false) rfl (fun _ => hn) ?_)
    rintro _ h w I hle ⟨hh, _⟩
    refine OpsP.nil ?_
    cases hh
  | true =>
  rw [if_neg (by rw [hsf]; decide)] at hR
  refine WP.seq ?_
  refine WP.regionP _ (fun _ _ _ h => h) ?_
  refine OpsP.y (v := .bool _) (Y.move rfl) ?_
  refine OpsP.p (O.callp I Tryz.call32 (must_ok _ I.base_ok true) rfl (fun h => by cases h) ?_)
  rintro _ h w I gl3 ⟨_, rfl⟩
  refine OpsP.nil ?_
  have gl3 := gl2.trans gl3
  obtain ⟨c4, hc4⟩ : ∃ c4, Lib.trimSuffix c2 [41] = c4 := ⟨_, rfl⟩
  rw [hc4] at hts hR
  have hcs : mk (Lib.trimSuffix (tx (mk c2)) (tx ⟨#[41]⟩)) = mk c4 := by rw [← hc4]
  rw [hcs]
  have V3 := V.le gl3
  refine WP.seq ?_
  refine WP.seq ?_
  refine WP.region ?_
  refine Ops.y (v := .string _) (Y.move rfl) ?_
  refine Ops.go (O.call I Tryz.call70 (Split_ok _ I.base_ok V3 (mk c4) ⟨#[44]⟩ (by rw [mk_size]; omega) (Nat.le_refl 1)) rfl ?_)
  rintro _ h w I gl4 ⟨ws, rfl, iws, hws⟩
  refine Ops.y (v := .int .i64 _) (Y.lens Tryz.underlying66 rfl) ?_
  refine Ops.y (v := .int .i64 _) (Y.move rfl) ?_
  refine Ops.nil ?_
  have gl4 := gl3.trans gl4
  have hws' : ws.xs.map tx = Lib.split c4 [44] := hws
  rw [← hws'] at hR
  have hwl : ∀ x ∈ ws.xs, x.size ≤ 4096 := fun x hx => by
    have := split_len (s := c4) (sep := [44]) (x := tx x) (by rw [← hws']; exact List.mem_map_of_mem hx)
    rw [tx_len] at this; omega
  refine WP.block ?_
  refine WP.loopE (σ := Nat × Option Addr × Nat × Heap × List Trm) (fun s => [(4, .pointer (some ⟨b4, 0, none⟩)), (8, .pointer (some ⟨b8, 0, none⟩)), (37, ws.val), (38, .int .i64 ws.xs.length), (39, .int .i64 s.1)])
    (fun s w => Inv B s.2.2.2.1 [ownSl 109 2 (.slice s.2.1 s.1 s.2.2.1) s.1 (s.2.2.2.2.flatMap Trm.enc), box b8 [.int .i64 (k : Int), .slice s.2.1 s.1 s.2.2.1] 61, box b4 [.int .i64 0, .slice none 0 0] 61] w ∧ s.1 ≤ ws.xs.length ∧ h.le s.2.2.2.1 ∧ s.2.2.2.2.length = s.1 ∧ termsR ((ws.xs.take s.1).map tx) = some s.2.2.2.2) (fun s => ws.xs.length - s.1)
    ⟨(0, none, 0, h, []), ⟨rfl, rfl, rfl, rfl, rfl, trivial⟩, by rw [hix] at I; exact I.nilSl 109 2, Nat.zero_le _, Heap.le.refl _, rfl, rfl⟩ ?_
  rintro ⟨i, q, c, hh, ts⟩ e w ⟨I, hi, gl, hlen, hts2⟩
  dsimp only at I hi gl hlen hts2 ⊢
  have hwsm : ws.xs.length ≤ 4098 := by
    have h1 := split_cnt c4 [44]
    rw [← hws', List.length_map] at h1; omega
  refine WP.seq ?_
  refine WP.region ?_
  refine Ops.y (v := .bool (decide _)) (Y.lti rfl rfl) ?_
  refine Ops.nil ?_
  refine WP.seq ?_
  refine WP.cond_dec rfl (fun h9 => ?_) (fun h9 => ?_)
  · have hi' : i < ws.xs.length := by omega
    have E := (iws.le gl).at hi'
    obtain ⟨x, hx⟩ : ∃ x, ws.xs[i] = x := ⟨_, rfl⟩
    have hxm : x ∈ ws.xs := hx ▸ List.getElem_mem hi'
    have hxl := hwl x hxm
    have hnx : (ws.xs.take (i + 1)).map tx = (ws.xs.take i).map tx ++ [tx x] := by rw [List.take_add_one, List.getElem?_eq_getElem hi', hx]; simp
    rw [hx] at E
    have Vh := V.le (gl4.trans gl)
    refine WP.skip ?_
    refine WP.seq ?_
    refine WP.block ?_
    refine WP.seq ?_
    refine WP.region ?_
    refine Ops.y (v := .pointer (some ⟨_, _, none⟩)) (Y.idxEl E Tryz.underlying66 Tryz.sizeOf9 rfl rfl (Int.natCast_nonneg _) rfl) ?_
    refine Ops.y (v := .string _) (Y.loadv ty_9 rfl (I.rd (E.rd.part 0 1)) rfl rfl) ?_
    refine Ops.y (v := .string _) (Y.assign rfl) ?_
    refine Ops.nil ?_
    refine WP.seq ?_
    refine WP.region ?_
    refine Ops.y (v := .string _) (Y.move rfl) ?_
    refine Ops.go (O.callv I Tryz.call86 (Index_ok _ I.base_ok Vh ⟨#[65, 66, 67]⟩ x (by show 3 < _; omega)) rfl ?_)
    intro w I
    refine Ops.y (v := .int .i64 _) (Y.assign rfl) ?_
    refine Ops.nil ?_
    obtain ⟨ix, hix2⟩ : ∃ ix, Lib.index (tx ⟨#[65, 66, 67]⟩) (tx x) = ix := ⟨_, rfl⟩
    have hix3 : Lib.index [65, 66, 67] (tx x) = ix := hix2
    rw [hix2]
    have hxt := tx_len x
    refine WP.seq ?_
    refine WP.cutK (σ := Unit) (fun _ => [(4, .pointer (some ⟨b4, 0, none⟩)), (8, .pointer (some ⟨b8, 0, none⟩)), (10, .string x), (11, .int .i64 ix), (37, ws.val), (38, .int .i64 ws.xs.length), (39, .int .i64 i), (51, .bool (decide (0 ≤ ix ∧ (tx x).length = 1)))])
      (fun _ w => Inv B hh [ownSl 109 2 (.slice q i c) i (ts.flatMap Trm.enc), box b8 [.int .i64 (k : Int), .slice q i c] 61, box b4 [.int .i64 0, .slice none 0 0] 61] w) ?_ ?_
    · by_cases h0 : 0 ≤ ix
      · by_cases h1 : (tx x).length = 1
        · refine WP.region ?_
          refine Ops.y (v := .int .i64 _) (Y.move rfl) ?_
          refine Ops.y (v := .bool true) (Y.dec_t (Y.gei rfl rfl) (h0)) ?_
          refine Ops.y (v := .bool _) (Y.move rfl) ?_
          refine Ops.ygt rfl (v := .string _) (Y.move rfl) ?_
          refine Ops.ygt rfl (v := .int .i64 _) (Y.lenstr Tryz.underlying9 rfl) ?_
          refine Ops.ygt rfl (v := .bool true) (Y.dec_t (Y.eqi rfl rfl) ((by omega))) ?_
          refine Ops.y (v := .bool _) (Y.pick_t rfl rfl) ?_
          refine Ops.nil ?_
          exact ⟨(), ⟨rfl, rfl, rfl, rfl, rfl, rfl, rfl, by rw [decide_eq_true (And.intro h0 h1)]; rfl, trivial⟩, I⟩
        · refine WP.region ?_
          refine Ops.y (v := .int .i64 _) (Y.move rfl) ?_
          refine Ops.y (v := .bool true) (Y.dec_t (Y.gei rfl rfl) (h0)) ?_
          refine Ops.y (v := .bool _) (Y.move rfl) ?_
          refine Ops.ygt rfl (v := .string _) (Y.move rfl) ?_
          refine Ops.ygt rfl (v := .int .i64 _) (Y.lenstr Tryz.underlying9 rfl) ?_
          refine Ops.ygt rfl (v := .bool false) (Y.dec_f (Y.eqi rfl rfl) ((by omega))) ?_
          refine Ops.y (v := .bool _) (Y.pick_t rfl rfl) ?_
          refine Ops.nil ?_
          exact ⟨(), ⟨rfl, rfl, rfl, rfl, rfl, rfl, rfl, by rw [decide_eq_false (fun h : 0 ≤ ix ∧ (tx x).length = 1 => h1 h.2)]; rfl, trivial⟩, I⟩
      · refine WP.region ?_
        refine Ops.y (v := .int .i64 _) (Y.move rfl) ?_
        refine Ops.y (v := .bool false) (Y.dec_f (Y.gei rfl rfl) (h0)) ?_
        refine Ops.y (v := .bool _) (Y.move rfl) ?_
        refine Ops.gf rfl ?_
        refine Ops.gf rfl ?_
        refine Ops.gf rfl ?_
        refine Ops.y (v := .bool _) (Y.pick_f rfl rfl) ?_
        refine Ops.nil ?_
        exact ⟨(), ⟨rfl, rfl, rfl, rfl, rfl, rfl, rfl, by rw [decide_eq_false (fun h : 0 ≤ ix ∧ (tx x).length = 1 => h0 h.1)]; rfl, trivial⟩, I⟩
    rintro _ e w I
    refine WP.cond_dec rfl (fun h51 => ?_) (fun h51 => ?_)
    · have htm : termR (tx x) = some ⟨true, ix⟩ := by unfold termR; rw [hix3, if_pos h51]
      refine WP.region ?_
      refine Ops.y (v := .pointer (some ⟨_, _, none⟩)) (Y.fa fa_61_1 rfl) ?_
      refine Ops.y (v := .slice _ _ _) (Y.loadv ty_59 rfl (I.rdbox 1 rfl 1 1) rfl rfl) ?_
      refine Ops.y (v := .int .i64 _) (Y.move rfl) ?_
      refine Ops.y (v := .agg #[.bool _, .int .i64 _]) (Y.build pl_109 Tryz.zeroValue109 rfl rfl) ?_
      refine Ops.go (O.mksl (xs := [⟨true, ix⟩]) (enc := Trm.enc) I Tryz.underlying59 Tryz.sizeOf109 Tryz.zeroValue109 rfl (Nat.le_of_ble_eq_true rfl) rfl rfl (by decide) (fun _ => rfl) ?_)
      intro b56 h56 w I le56 sl56
      refine Ops.go (O.append I Tryz.underlying59 et_109 0 rfl rfl rfl (I.rd (sl56 0 _ rfl).2) rfl rfl (by decide) ((by omega)) (by omega) ?_)
      intro b57 c57 w I
      refine Ops.y (v := .pointer (some ⟨_, _, none⟩)) (Y.fa fa_61_1 rfl) ?_
      refine Ops.go (O.store (v := .slice _ _ _) I ty_59 1 rfl rfl rfl rfl rfl rfl (Nat.le_of_ble_eq_true rfl) rfl ?_)
      intro w I
      refine Ops.nil ?_
      refine WP.region ?_
      refine Ops.y (v := .int .i64 _) (Y.addi rfl rfl ⟨by omega, by omega⟩) ?_
      refine Ops.y (v := .int .i64 _) (Y.move rfl) ?_
      refine Ops.nil ?_
      refine ⟨(i + 1, some ⟨b57, 0, none⟩, c57, h56, ts ++ [⟨true, ix⟩]), ⟨⟨rfl, rfl, rfl, rfl, rfl, trivial⟩, ?_, by dsimp only; omega, gl.trans le56, by simp [hlen], by dsimp only; rw [hnx]; exact termsR_snoc hts2 htm⟩, by dsimp only; omega⟩
      dsimp only
      rw [List.flatMap_append]
      exact I
    · have htm : termR (tx x) = (numR (tx x)).map fun n => ⟨false, n⟩ := by unfold termR; rw [hix3, if_neg h51]
      obtain ⟨n, hn⟩ : ∃ n, (numR (tx x)).getD 0 = n := ⟨_, rfl⟩
      have hbad : numR (tx x) = none → atomR l.xs (tx s) = none := fun h => by
        rw [hR, termsR_bad (List.mem_map_of_mem hxm) (by rw [htm, h]; rfl)]; rfl
      refine WP.regionGP _ (fun _ _ _ h => h) mixed RAp.pre ⟨hh, none⟩ (J := JAp B [box b8 [.int .i64 (k : Int), .slice q i c] 61, box b4 [.int .i64 0, .slice none 0 0] 61] 109 2 i 1 (.slice q i c) (ts.flatMap Trm.enc) (Trm.enc ⟨false, n⟩) 6) ⟨rfl, I.drew⟩ 7 (by kernel_rfl) ?_
      refine OpsGP.y_ (v := .pointer (some ⟨_, _, none⟩)) (fun _ => runsG_none _) RAp.pre (JAp.set (by decide)) (fun _ s w us hl hj => have I := hj.base; have hl := hl.h; Y.fa fa_61_1 rfl) ?_
      refine OpsGP.y_ (v := .slice _ _ _) (fun _ => runsG_none _) RAp.pre (JAp.set (by decide)) (fun _ s w us hl hj => have I := hj.base; have hl := hl.h; Y.loadv ty_59 rfl (I.rdbox 0 rfl 1 1) rfl rfl) ?_
      refine OpsGP.y_ (v := .string _) (fun _ => runsG_none _) RAp.pre (JAp.set (by decide)) (fun _ s w us hl hj => have I := hj.base; have hl := hl.h; Y.move rfl) ?_
      refine OpsGP.x_ (Φ := KnAp (AndV (numR (tx x) = some n) (.int .i64 n))) (KnAp.mono AndV.mono) (fun _ => runsG_none _) (fun D' z w hDk hl hj => ?_) ?_
      · refine AllG.all fun us => ?_
        refine hj.knowP (by decide) fun N hN I => ?_
        have hl := hl.h
        refine O.callp I Tryz.call71 (num_ok _ I.base_ok (Vh.le hl) x (by omega)) rfl (hbad) ?_
        rintro _ h1 w I hl' ⟨m, hm, rfl⟩
        exact ⟨_, hl', I, by rw [hm] at hn; subst hn; exact ⟨hm, rfl⟩⟩
      refine OpsGP.x_ (Φ := KnAp (EqV (.agg #[.bool false, .int .i64 n]))) (KnAp.mono EqV.mono) (fun _ => runsG_none _) (fun D' z w hDk hl hj => ?_) ?_
      · intro u62 q62
        obtain ⟨_, rfl⟩ := q62 rfl
        refine Op1P.of ?_
        refine hj.know (by decide) fun N I => ?_
        have hl := hl.h
        exact O.yx I (Y.build pl_109 Tryz.zeroValue109 rfl rfl) (rfl)
      refine OpsGP.x_ (Φ := KnA (LitW 109 (Trm.enc ⟨false, n⟩) 1)) (KnA.mono LitW.mono) (fun _ => runsG_none _) (fun D' z w hDk hl hj => ?_) ?_
      · intro u62 q62 u63 q63
        obtain rfl : u63 = .agg #[.bool false, .int .i64 n] := q63 rfl
        refine Op1P.of ?_
        refine hj.know (by decide) fun N I => ?_
        exact O.mklit (cs := Trm.enc ⟨false, n⟩) I Tryz.underlying59 Tryz.sizeOf109 Tryz.zeroValue109 (by decide) (by decide) rfl rfl (fun v h w I le sl => ⟨h, le, I, sl⟩)
      refine OpsGP.x_ (Φ := AtAp (i + 1)) AtAp.mono (fun _ => runsG_none _) (fun D' z w hDk hl hj => ?_) ?_
      · intro u62 q62 u63 q63 u64 q64
        obtain ⟨bl, rfl, hbl⟩ := q64 rfl
        refine Op1P.of ?_
        refine hj.app hDk fun I => ?_
        have kb : Known z.h bl (Trm.enc ⟨false, n⟩) := ⟨fun j v hv => by simp [Heap.cell, hbl, hv]⟩
        refine O.append I Tryz.underlying59 et_109 0 rfl rfl rfl (I.rd kb.rd) rfl rfl (by decide) (by omega) (by omega) ?_
        intro g c w I
        exact ⟨g, c, rfl, I⟩
      refine OpsGP.nil ?_
      intro D z w hD hl hj u62 q62 u63 q63 u64 q64 u65 q65
      obtain ⟨g, c2, rfl, h7⟩ := q65 rfl
      have I := hj.inv
      rw [h7] at I
      obtain ⟨hn2, _⟩ := q62 rfl
      refine OpsP.y (v := .pointer (some ⟨_, _, none⟩)) (Y.fa fa_61_1 rfl) ?_
      refine OpsP.go (O.store (v := .slice _ _ _) I ty_59 1 rfl rfl rfl rfl rfl rfl (Nat.le_of_ble_eq_true rfl) rfl ?_)
      intro w I
      refine OpsP.nil ?_
      refine WP.region ?_
      refine Ops.y (v := .int .i64 _) (Y.addi rfl rfl ⟨by omega, by omega⟩) ?_
      refine Ops.y (v := .int .i64 _) (Y.move rfl) ?_
      refine Ops.nil ?_
      refine ⟨(i + 1, some ⟨g, 0, none⟩, c2, z.h, ts ++ [⟨false, n⟩]), ⟨⟨rfl, rfl, rfl, rfl, rfl, trivial⟩, ?_, by dsimp only; omega, gl.trans hl.h, by simp [hlen], by dsimp only; rw [hnx]; exact termsR_snoc hts2 (by rw [htm, hn2]; rfl)⟩, by dsimp only; omega⟩
      dsimp only
      rw [List.flatMap_append, List.flatMap_singleton]
      exact I
  obtain rfl : i = ws.xs.length := by omega
  rw [List.take_length] at hts2
  obtain ⟨h10, sa, le10, hva, hxa, isa, I⟩ := I.settleO hlen.symm
  have I : Inv B h10 [box b8 [.int .i64 (k : Int), sa.val] 61, box b4 [.int .i64 0, .slice none 0 0] 61] w := by rw [hva]; exact I
  refine WP.exit ?_
  refine WP.seq ?_
  refine WP.region ?_
  refine Ops.y (v := .agg #[_, _]) (Y.loadv ty_61 rfl (I.rdbox 0 rfl 0 2) rfl rfl) ?_
  refine Ops.go (O.store (v := .agg #[_, _]) I ty_61 1 rfl rfl rfl rfl rfl rfl (Nat.le_of_ble_eq_true rfl) rfl ?_)
  intro w I
  refine Ops.nil ?_
  refine WP.ret ?_
  repeat (first | refine thenE_ret ?_ | refine blockE_ret ?_)
  exact retP.mk (vs := [.agg #[_, _]]) rfl ⟨⟨_, _, _, _, _, rfl, ty_61, I.rdbox 1 rfl 0 2, rfl, rfl⟩, trivial⟩ I.ext_of (⟨⟨k, sa⟩, rfl, isa.older (gl4.trans gl), by rw [hxa, hlen]; exact hwsm, by rw [hR, hts2]; unfold mkA Atm.er Sl.er; rw [hxa]; rfl⟩)
end Go.TF
end
section
/- A region in which what was just made is appended to what the call owns: what it is, is told by Ψ. -/
namespace Go.TF
open Go Go.RowKit

structure AqS where
  h : Heap
  o7 : Option (Nat × Nat × List Value)
def pcQ (T k n m : Nat) (v : Value) (xs : List Value) (o7 : Option (Nat × Nat × List Value)) : SA := match o7 with
  | none => ownSl T k v n xs
  | some y => ownSl T k (.slice (some ⟨y.1, 0, none⟩) (n + m) y.2.1) (n + m) (xs ++ y.2.2)
structure JAq (B : Base) (M : List SA) (T k n m : Nat) (v : Value) (xs : List Value) (i7 : Nat) (D : Nat → Bool) (s : AqS) (w : World) : Prop where
  h7 : s.o7.isSome = D i7
  inv : Inv B s.h (pcQ T k n m v xs s.o7 :: M) w
structure RAq (s s' : AqS) : Prop where
  h : s.h.le s'.h
  h7 : ∀ y, s.o7 = some y → s'.o7 = some y
theorem RAq.pre : Pre RAq := ⟨fun _ => ⟨Heap.le.refl _, fun _ h => h⟩, fun _ _ _ h k => ⟨h.h.trans k.h, fun y e => k.h7 y (h.h7 y e)⟩⟩
def AtAq (Ψ : List Value → Heap → Prop) (N : Nat) (u : Value) (s : AqS) : Prop := ∃ g c x, u = .slice (some ⟨g, 0, none⟩) N c ∧ s.o7 = some (g, c, x) ∧ Ψ x s.h
def MonoP (Ψ : List Value → Heap → Prop) : Prop := ∀ x h h', h.le h' → Ψ x h → Ψ x h'
theorem AtAq.mono {Ψ : List Value → Heap → Prop} (hm : MonoP Ψ) {N : Nat} : MonoG RAq (AtAq Ψ N) := fun _ _ _ r ⟨g, c, x, h1, h2, h3⟩ => ⟨g, c, x, h1, r.h7 _ h2, hm _ _ _ r.h h3⟩
def KnAq (Φ : Sp) (u : Value) (s : AqS) : Prop := Φ u s.h
theorem KnAq.mono {Φ : Sp} (hm : MonoS Φ) : MonoG RAq (KnAq Φ) := fun _ _ _ r h => hm _ _ _ r.h h
/-- A literal of what Ψ tells. -/
def LitP (el : TypeId) (Ψ : List Value → Heap → Prop) : Sp := fun u h => ∃ cs, LitW el cs 1 u h ∧ Ψ cs h
theorem LitP.mono {el : TypeId} {Ψ : List Value → Heap → Prop} (hm : MonoP Ψ) : MonoS (LitP el Ψ) := fun _ _ _ hl ⟨cs, h1, h2⟩ => ⟨cs, LitW.mono _ _ _ hl h1, hm _ _ _ hl h2⟩
section
variable {P : Program} {o : Oper} {e : Env} {B : Base} {M : List SA} {T k n m : Nat} {v : Value} {xs : List Value} {i7 i : Nat} {D : Nat → Bool} {s : AqS} {w : World}
theorem JAq.base (j : JAq B M T k n m v xs i7 D s w) : Inv B s.h M w := j.inv.drop
theorem JAq.set (h : i7 ≠ i) : ∀ D s w, JAq B M T k n m v xs i7 D s w → JAq B M T k n m v xs i7 (setD D i) s w := fun D s w j => ⟨by rw [show setD D i i7 = D i7 by simp [setD, h]]; exact j.h7, j.inv⟩
theorem JAq.know {Φ : Sp} (j : JAq B M T k n m v xs i7 D s w) (h : i7 ≠ i) (hop : ∀ N, Inv B s.h N w → Op1 P o e w fun u w' => ∃ h', s.h.le h' ∧ Inv B h' N w' ∧ Φ u h') :
    Op1 P o e w fun u w' => ∃ s', RAq s s' ∧ JAq B M T k n m v xs i7 (setD D i) s' w' ∧ KnAq Φ u s' :=
  (hop _ j.inv).mono fun u w' ⟨h', hl, I, hu⟩ => ⟨⟨h', s.o7⟩, ⟨hl, fun _ e => e⟩, ⟨by rw [show setD D i i7 = D i7 by simp [setD, h]]; exact j.h7, I⟩, hu⟩
theorem JAq.knowP {X : PX} {Φ : Sp} (j : JAq B M T k n m v xs i7 D s w) (h : i7 ≠ i) (hop : ∀ N, N = pcQ T k n m v xs s.o7 :: M → Inv B s.h N w → Op1P P X o e w fun u w' => ∃ h', s.h.le h' ∧ Inv B h' N w' ∧ Φ u h') :
    Op1P P X o e w fun u w' => ∃ s', RAq s s' ∧ JAq B M T k n m v xs i7 (setD D i) s' w' ∧ KnAq Φ u s' :=
  (hop _ rfl j.inv).mono fun u w' ⟨h', hl, I, hu⟩ => ⟨⟨h', s.o7⟩, ⟨hl, fun _ e => e⟩, ⟨by rw [show setD D i i7 = D i7 by simp [setD, h]]; exact j.h7, I⟩, hu⟩
theorem JAq.app {Ψ : List Value → Heap → Prop} (j : JAq B M T k n m v xs i7 D s w) (hD : D i7 = false) (hop : Inv B s.h (ownSl T k v n xs :: M) w → Op1 P o e w fun u w' => ∃ g c x, u = .slice (some ⟨g, 0, none⟩) (n + m) c ∧ Ψ x s.h ∧ Inv B s.h (ownSl T k (.slice (some ⟨g, 0, none⟩) (n + m) c) (n + m) (xs ++ x) :: M) w') :
    Op1 P o e w fun u w' => ∃ s', RAq s s' ∧ JAq B M T k n m v xs i7 (setD D i7) s' w' ∧ AtAq Ψ (n + m) u s' := by
  have h7 : s.o7 = none := by have := j.h7; rw [hD] at this; cases h : s.o7 <;> simp_all
  have I := j.inv
  rw [h7] at I
  exact (hop I).mono fun u w' ⟨g, c, x, e, hp, I⟩ => ⟨⟨s.h, some (g, c, x)⟩, ⟨Heap.le.refl _, fun y e => (by rw [h7] at e; cases e)⟩, ⟨by simp [setD], I⟩, g, c, x, e, rfl, hp⟩
end
end Go.TF
end
section
/- Package text: line, which reads a line into a program, or panics: walked. -/
namespace Go.TF
open Go Go.RowKit Go.Proofs
set_option maxRecDepth 20000

section
variable (B : Base) (hB : B.ok)
include hB
theorem CutPre_is (s : ByteArray) (p : Bs) {a : Bs} {b : Bool} (h1 : Lib.trimPrefix (tx s) p = a) (h2 : Lib.hasPrefix (tx s) p = b) : Fn Tryz.prog 69 [.string s, .string (mk p)] B (fun v _ => v = .tuple #[.string (mk a), .bool b]) := by
  subst h1; subst h2; exact CutPre_ok B hB s (mk p)
theorem CutSuf_is (s : ByteArray) (hs : s.size ≤ 140737488355328) (p : Bs) {a : Bs} {b : Bool} (h1 : Lib.trimSuffix (tx s) p = a) (h2 : Lib.hasSuffix (tx s) p = b) : Fn Tryz.prog 72 [.string s, .string (mk p)] B (fun v _ => v = .tuple #[.string (mk a), .bool b]) := by
  subst h1; subst h2; exact CutSuf_ok B hB s (mk p) hs
theorem HasSuf_is (s : ByteArray) (hs : s.size ≤ 140737488355328) (p : Bs) {b : Bool} (h2 : Lib.hasSuffix (tx s) p = b) : Fn Tryz.prog 38 [.string s, .string (mk p)] B (fun v _ => v = .bool b) := by
  subst h2; exact HasSuf_ok B hB s (mk p) hs
theorem Cut_is (V : Vars B.h) (s : ByteArray) (hs : s.size < 4294967281) (p : Bs) {a b : Bs} {c : Bool} (h1 : Lib.cut (tx s) p = (a, b, c)) : Fn Tryz.prog 73 [.string s, .string (mk p)] B (fun v _ => v = .tuple #[.string (mk a), .string (mk b), .bool c]) := by
  have := Cut_ok B hB V s (mk p) hs
  rw [show tx (mk p) = p from rfl, h1] at this
  exact this
end
/-- What the reading of a line leaves: the program's variable at b, the rows of its predicates and rules, what else there is. -/
abbrev linM (b : Nat) (q : Option Addr) (n c : Nat) (q2 : Option Addr) (n2 c2 : Nat) (ps : List Prd) (rs : List Rul) (M : List SA) : List SA :=
  ownSl 53 3 (.slice q n c) n (ps.flatMap Prd.enc) :: ownSl 64 5 (.slice q2 n2 c2) n2 (rs.flatMap Rul.enc) :: box b [.slice q n c, .slice q2 n2 c2] 25 :: M
def LineQ (B : Base) (h : Heap) (M : List SA) (b : Nat) (q : Option Addr) (n c : Nat) (q2 : Option Addr) (n2 c2 : Nat) (ps : List Prd) (rs : List Rul) (s : Bs) : Ending → World → Prop
  | .returned v, w' => v = .tuple #[] ∧ ∃ h' q c q2 c2 ps' rs', h.le h' ∧ Inv B h' (linM b q ps'.length c q2 rs'.length c2 ps' rs' M) w' ∧ lineR (ps, rs.map Rul.er) s = some (ps', rs'.map Rul.er) ∧ (∀ r ∈ rs', r.In h') ∧ (∀ x ∈ ps', x.name.size ≤ 4096) ∧ ps'.length ≤ ps.length + 1 ∧ rs'.length ≤ rs.length + 1
  | .panicked ch, w' => ch = brk ∧ (∃ h', Inv B h' (box b [.slice q n c, .slice q2 n2 c2] 25 :: M) w') ∧ lineR (ps, rs.map Rul.er) s = none
  | _, _ => False
theorem els3 {α : Type} {l : List α} (h : l.length = 3) : ∃ x y z, l = [x, y, z] := by
  match l, h with
  | [x, y, z], _ => exact ⟨x, y, z, rfl⟩
def AtmO (l : List Prd) (s : Bs) (h1 : Heap) : Sp := fun u h => ∃ a : Atm, u = a.val ∧ OwnH 109 2 a.args Trm.enc h1 h ∧ a.args.xs.length ≤ 4098 ∧ atomR l s = some a.er
theorem AtmO.mono {l : List Prd} {s : Bs} {h1 : Heap} : MonoS (AtmO l s h1) := fun _ _ _ hl ⟨a, e, o, n, r⟩ => ⟨a, e, o.le hl, n, r⟩
/-- A literal that was read. -/
def LtlO (l : List Prd) (s : Bs) (h1 : Heap) (cs : List Value) (h : Heap) : Prop := ∃ x : Ltl, cs = x.enc ∧ OwnH 109 2 x.atom.args Trm.enc h1 h ∧ x.atom.args.xs.length ≤ 4098 ∧ litR l s = some x.er
theorem LtlO.mono {l : List Prd} {s : Bs} {h1 : Heap} : MonoP (LtlO l s h1) := fun _ _ _ hl ⟨a, e, o, n, r⟩ => ⟨a, e, o.le hl, n, r⟩
def LtlV (l : List Prd) (s : Bs) (h1 : Heap) : Sp := fun u h => ∃ x : Ltl, u = x.val ∧ OwnH 109 2 x.atom.args Trm.enc h1 h ∧ x.atom.args.xs.length ≤ 4098 ∧ litR l s = some x.er
theorem LtlV.mono {l : List Prd} {s : Bs} {h1 : Heap} : MonoS (LtlV l s h1) := fun _ _ _ hl ⟨a, e, o, n, r⟩ => ⟨a, e, o.le hl, n, r⟩
theorem litsR_bad {l : List Prd} {ws : List Bs} {w : Bs} (hw : w ∈ ws) (h : litR l w = none) : litsR l ws = none := by
  induction ws with
  | nil => cases hw
  | cons x r ih =>
    rcases List.mem_cons.1 hw with rfl | hw
    · simp [litsR, h]
    · simp only [litsR, ih hw]; cases litR l x <;> rfl
theorem litsR_snoc {p : List Prd} {l : List Bs} {w : Bs} {ts : List Ltl} {t : Ltl} (hl : litsR p l = some ts) (h : litR p w = some t) : litsR p (l ++ [w]) = some (ts ++ [t]) := by
  induction l generalizing ts with
  | nil => simp [litsR] at hl; subst hl; simp [litsR, h]
  | cons x r ih =>
    simp only [litsR] at hl
    cases hx : litR p x with
    | none => simp [hx] at hl
    | some y =>
      cases hr : litsR p r with
      | none => simp [hx, hr] at hl
      | some ys =>
        simp [hx, hr] at hl
        subst hl
        simp [litsR, hx, ih hr]
theorem own_trms {a : Atm} {h0 h : Heap} (o : OwnH 109 2 a.args Trm.enc h0 h) (hl : a.args.xs.length ≤ 4098) : a.In h := ⟨o.in fun _ => rfl, by omega⟩
set_option maxHeartbeats 32000000 in
theorem line_v {B : Base} {h : Heap} {M : List SA} {w : World} {b : Nat} {q q2 : Option Addr} {c c2 : Nat} {ps : List Prd} {rs : List Rul} (V : Vars h) (I : Inv B h (linM b q ps.length c q2 rs.length c2 ps rs M) w) (hps : ps.length ≤ 4096) (hrs : rs.length ≤ 4096)
    (hr : ∀ r ∈ rs, r.In h) (hnm : ∀ x ∈ ps, x.name.size ≤ 4096) (hBh : B.h.le h) (s : ByteArray) (hs : s.size ≤ 4096) :
    Calls Tryz.prog 30 [.pointer (some ⟨b, 0, none⟩), .string s].toArray w (LineQ B h M b q ps.length c q2 rs.length c2 ps rs (tx s)) := by
  have htl := tx_len s
  obtain ⟨rest, hrest⟩ : ∃ x, Lib.trimPrefix (tx s) [112, 114, 101, 100, 32] = x := ⟨_, rfl⟩
  obtain ⟨pf, hpf⟩ : ∃ x, Lib.hasPrefix (tx s) [112, 114, 101, 100, 32] = x := ⟨_, rfl⟩
  obtain ⟨sf, hsf⟩ : ∃ x, Lib.hasSuffix (tx s) [46] = x := ⟨_, rfl⟩
  obtain ⟨s1, hs1⟩ : ∃ x, Lib.trimSuffix (tx s) [46] = x := ⟨_, rfl⟩
  have hL : lineR (ps, rs.map Rul.er) (tx s) = if pf = true ∧ sf = false then (predR rest).map fun x => (ps ++ [x], rs.map Rul.er)
      else if sf = false then none else (ruleR ps s1).map fun r => (ps, rs.map Rul.er ++ [r]) := by unfold lineR predW; rw [hpf, hsf, hrest, hs1]
  have hrl : rest.length ≤ s.size := by have := Lib.trimPrefix_le (tx s) [112, 114, 101, 100, 32]; rw [hrest] at this; omega
  have hsl : s1.length ≤ s.size := by have := Lib.trimSuffix_le (tx s) [46]; rw [hs1] at this; omega
  refine Calls.ofWPP (args := [.pointer (some ⟨b, 0, none⟩), .string s]) Tryz.func30 rfl Tryz.ntmps30 (by kernel_rfl) (by simp) ?_
  intro e
  refine WP.seq ?_
  refine WP.seq ?_
  refine WP.region ?_
  refine Ops.y (v := .string _) (Y.move rfl) ?_
  refine Ops.go (O.callv I Tryz.call69 (CutPre_is _ I.base_ok s [112, 114, 101, 100, 32] hrest hpf) rfl ?_)
  intro w I
  refine Ops.y (v := .tuple #[_, _]) (Y.move rfl) ?_
  refine Ops.y (v := .string _) (Y.extract rfl rfl) ?_
  refine Ops.y (v := .bool _) (Y.extract rfl rfl) ?_
  refine Ops.y (v := .string _) (Y.assign rfl) ?_
  refine Ops.y (v := .bool _) (Y.assign rfl) ?_
  refine Ops.nil ?_
  refine WP.seq ?_
  refine WP.cutK (σ := Unit) (fun _ => [(0, .pointer (some ⟨b, 0, none⟩)), (1, .string s), (4, .string (mk rest)), (30, .bool (pf && !sf))])
    (fun _ w => Inv B h (linM b q ps.length c q2 rs.length c2 ps rs M) w) ?_ ?_
  · cases pf with
    | false =>
      refine WP.region ?_
      refine Ops.y (v := .bool _) (Y.move rfl) ?_
      refine Ops.y (v := .bool false) (Y.b (Y.move rfl) (rfl)) ?_
      refine Ops.gf rfl ?_
      refine Ops.gf rfl ?_
      refine Ops.gf rfl ?_
      refine Ops.y (v := .bool _) (Y.pick_f rfl rfl) ?_
      refine Ops.nil ?_
      exact ⟨(), ⟨rfl, rfl, rfl, rfl, trivial⟩, I⟩
    | true =>
      refine WP.region ?_
      refine Ops.y (v := .bool _) (Y.move rfl) ?_
      refine Ops.y (v := .bool true) (Y.b (Y.move rfl) (rfl)) ?_
      refine Ops.ygt rfl (v := .string _) (Y.move rfl) ?_
      refine Ops.gt rfl (O.callv I Tryz.call38 (HasSuf_is _ I.base_ok s (by omega) [46] hsf) rfl ?_)
      intro w I
      refine Ops.ygt rfl (v := .bool _) (Y.not rfl) ?_
      refine Ops.y (v := .bool _) (Y.pick_t rfl rfl) ?_
      refine Ops.nil ?_
      exact ⟨(), ⟨rfl, rfl, rfl, rfl, trivial⟩, I⟩
  rintro _ e w I
  refine WP.cond rfl (fun h30 => ?_) (fun h30 => ?_)
  · have h30' : pf = true ∧ sf = false := by simpa using h30
    rw [if_pos h30'] at hL
    refine WP.seq ?_
    refine WP.region ?_
    refine Ops.y (v := .string _) (Y.move rfl) ?_
    refine Ops.go (O.call I Tryz.call70 (Split_ok _ I.base_ok V (mk rest) ⟨#[32]⟩ (by rw [mk_size]; omega) (Nat.le_refl 1)) rfl ?_)
    rintro _ h1 w I gl1 ⟨ws, rfl, iws, hws⟩
    refine Ops.y (v := .slice _ _ _) (Y.assign rfl) ?_
    refine Ops.nil ?_
    have hws' : ws.xs.map tx = Lib.split rest [32] := hws
    have V1 := V.le gl1
    by_cases h3 : ws.xs.length = 3
    · obtain ⟨x0, x1, x2, hx⟩ := els3 h3
      have hR : predR rest = match numR (tx x1), numR (tx x2) with | some a, some k => some ⟨⟨(tx x0).toArray⟩, a, k⟩ | _, _ => none := by
        unfold predR; rw [← hws', hx] <;> rfl
      have hwl : ∀ x ∈ ws.xs, x.size ≤ 4096 := fun x hx => by
        have := split_len (s := rest) (sep := [32]) (x := tx x) (by rw [← hws']; exact List.mem_map_of_mem hx)
        rw [tx_len] at this; omega
      have hz0 := hwl x0 (by rw [hx]; simp)
      have hz1 := hwl x1 (by rw [hx]; simp)
      have hz2 := hwl x2 (by rw [hx]; simp)
      refine WP.seq ?_
      refine WP.regionP _ (fun _ _ _ h => h) ?_
      refine OpsP.y (v := .slice _ _ _) (Y.move rfl) ?_
      refine OpsP.y (v := .int .i64 _) (Y.lens Tryz.underlying66 rfl) ?_
      refine OpsP.y (v := .bool true) (Y.dec_t (Y.eqi rfl rfl) ((by omega))) ?_
      refine OpsP.p (O.callpX I Tryz.call32 (must_ok _ I.base_ok true) rfl (fun w' g p => by cases p) ?_)
      rintro _ h2 w I gl2 ⟨_, rfl⟩
      refine OpsP.nil ?_
      have E0 := (iws.le gl2).el.el (i := 0) (x := x0) (by rw [hx]; rfl)
      have E1 := (iws.le gl2).el.el (i := 1) (x := x1) (by rw [hx]; rfl)
      have E2 := (iws.le gl2).el.el (i := 2) (x := x2) (by rw [hx]; rfl)
      have V2 := V1.le gl2
      obtain ⟨na, hna⟩ : ∃ n, (numR (tx x1)).getD 0 = n := ⟨_, rfl⟩
      obtain ⟨nk, hnk⟩ : ∃ n, (numR (tx x2)).getD 0 = n := ⟨_, rfl⟩
      have bad1 : numR (tx x1) = none → lineR (ps, rs.map Rul.er) (tx s) = none := fun hh => by rw [hL, hR, hh]; rfl
      have bad2 : numR (tx x2) = none → lineR (ps, rs.map Rul.er) (tx s) = none := fun hh => by rw [hL, hR, hh]; cases numR (tx x1) <;> rfl
      refine WP.seq ?_
      refine WP.regionGP _ (fun _ _ _ h => h) mixed RAp.pre ⟨h2, none⟩ (J := JAp B (ownSl 64 5 (.slice q2 rs.length c2) rs.length (rs.flatMap Rul.enc) :: box b [.slice q ps.length c, .slice q2 rs.length c2] 25 :: M) 53 3 ps.length 1 (.slice q ps.length c) (ps.flatMap Prd.enc) (Prd.enc ⟨x0, na, nk⟩) 18) ⟨rfl, I.drew⟩ 19 (by kernel_rfl) ?_
      refine OpsGP.y_ (v := .pointer (some ⟨_, _, none⟩)) (fun _ => runsG_none _) RAp.pre (JAp.set (by decide)) (fun _ s w us hl hj => have I := hj.base; have hl := hl.h; Y.move rfl) ?_
      refine OpsGP.y_ (v := .pointer (some ⟨_, _, none⟩)) (fun _ => runsG_none _) RAp.pre (JAp.set (by decide)) (fun _ s w us hl hj => have I := hj.base; have hl := hl.h; Y.move rfl) ?_
      refine OpsGP.y_ (v := .pointer (some ⟨_, _, none⟩)) (fun _ => runsG_none _) RAp.pre (JAp.set (by decide)) (fun _ s w us hl hj => have I := hj.base; have hl := hl.h; Y.nilp rfl) ?_
      refine OpsGP.y_ (v := .pointer (some ⟨_, _, none⟩)) (fun _ => runsG_none _) RAp.pre (JAp.set (by decide)) (fun _ s w us hl hj => have I := hj.base; have hl := hl.h; Y.fa0 fa_25_0 rfl) ?_
      refine OpsGP.y_ (v := .slice _ _ _) (fun _ => runsG_none _) RAp.pre (JAp.set (by decide)) (fun _ s w us hl hj => have I := hj.base; have hl := hl.h; Y.loadv ty_22 rfl (I.rdbox 1 rfl 0 1) rfl rfl) ?_
      refine OpsGP.y_ (v := .slice _ _ _) (fun _ => runsG_none _) RAp.pre (JAp.set (by decide)) (fun _ s w us hl hj => have I := hj.base; have hl := hl.h; Y.move rfl) ?_
      refine OpsGP.y_ (v := .pointer (some ⟨_, _, none⟩)) (fun _ => runsG_none _) RAp.pre (JAp.set (by decide)) (fun _ s w us hl hj => have I := hj.base; have hl := hl.h; Y.idxEl E0 Tryz.underlying66 Tryz.sizeOf9 rfl rfl (by decide) rfl) ?_
      refine OpsGP.y_ (v := .string _) (fun _ => runsG_none _) RAp.pre (JAp.set (by decide)) (fun _ s w us hl hj => have I := hj.base; have hl := hl.h; Y.loadv ty_9 rfl (I.rd ((E0.rd.part 0 1).le hl)) rfl rfl) ?_
      refine OpsGP.y_ (v := .slice _ _ _) (fun _ => runsG_none _) RAp.pre (JAp.set (by decide)) (fun _ s w us hl hj => have I := hj.base; have hl := hl.h; Y.move rfl) ?_
      refine OpsGP.y_ (v := .pointer (some ⟨_, _, none⟩)) (fun _ => runsG_none _) RAp.pre (JAp.set (by decide)) (fun _ s w us hl hj => have I := hj.base; have hl := hl.h; Y.idxEl E1 Tryz.underlying66 Tryz.sizeOf9 rfl rfl (by decide) rfl) ?_
      refine OpsGP.y_ (v := .string _) (fun _ => runsG_none _) RAp.pre (JAp.set (by decide)) (fun _ s w us hl hj => have I := hj.base; have hl := hl.h; Y.loadv ty_9 rfl (I.rd ((E1.rd.part 0 1).le hl)) rfl rfl) ?_
      refine OpsGP.x_ (Φ := KnAp (AndV (numR (tx x1) = some na) (.int .i64 na))) (KnAp.mono AndV.mono) (fun _ => runsG_none _) (fun D' z w hDk hl hj => ?_) ?_
      · refine AllG.all fun us => ?_
        refine hj.knowP (by decide) fun N hN I => ?_
        have hl := hl.h
        refine O.callpX I Tryz.call71 (num_ok _ I.base_ok (V2.le hl) x1 (by omega)) rfl (fun w' g p => ⟨rfl, ⟨_, by subst hN; exact (I.grow g).drop.drop⟩, bad1 p⟩) ?_
        rintro _ h1 w I hl' ⟨m, hm, rfl⟩
        exact ⟨_, hl', I, by rw [hm] at hna; subst hna; exact ⟨hm, rfl⟩⟩
      refine OpsGP.y_ (v := .slice _ _ _) (fun _ => runsG_none _) RAp.pre (JAp.set (by decide)) (fun _ s w us hl hj => have I := hj.base; have hl := hl.h; Y.move rfl) ?_
      refine OpsGP.y_ (v := .pointer (some ⟨_, _, none⟩)) (fun _ => runsG_none _) RAp.pre (JAp.set (by decide)) (fun _ s w us hl hj => have I := hj.base; have hl := hl.h; Y.idxEl E2 Tryz.underlying66 Tryz.sizeOf9 rfl rfl (by decide) rfl) ?_
      refine OpsGP.y_ (v := .string _) (fun _ => runsG_none _) RAp.pre (JAp.set (by decide)) (fun _ s w us hl hj => have I := hj.base; have hl := hl.h; Y.loadv ty_9 rfl (I.rd ((E2.rd.part 0 1).le hl)) rfl rfl) ?_
      refine OpsGP.x_ (Φ := KnAp (AndV (numR (tx x2) = some nk) (.int .i64 nk))) (KnAp.mono AndV.mono) (fun _ => runsG_none _) (fun D' z w hDk hl hj => ?_) ?_
      · intro u48 q48
        refine hj.knowP (by decide) fun N hN I => ?_
        have hl := hl.h
        refine O.callpX I Tryz.call71 (num_ok _ I.base_ok (V2.le hl) x2 (by omega)) rfl (fun w' g p => ⟨rfl, ⟨_, by subst hN; exact (I.grow g).drop.drop⟩, bad2 p⟩) ?_
        rintro _ h1 w I hl' ⟨m, hm, rfl⟩
        exact ⟨_, hl', I, by rw [hm] at hnk; subst hnk; exact ⟨hm, rfl⟩⟩
      refine OpsGP.x_ (Φ := KnAp (EqV (.agg #[.string x0, .int .i64 na, .int .i64 nk]))) (KnAp.mono EqV.mono) (fun _ => runsG_none _) (fun D' z w hDk hl hj => ?_) ?_
      · intro u48 q48 u52 q52
        obtain ⟨_, rfl⟩ := q48 rfl
        obtain ⟨_, rfl⟩ := q52 rfl
        refine Op1P.of ?_
        refine hj.know (by decide) fun N I => ?_
        have hl := hl.h
        exact O.yx I (Y.build pl_53 Tryz.zeroValue53 rfl rfl) (rfl)
      refine OpsGP.x_ (Φ := KnA (LitW 53 (Prd.enc ⟨x0, na, nk⟩) 1)) (KnA.mono LitW.mono) (fun _ => runsG_none _) (fun D' z w hDk hl hj => ?_) ?_
      · intro u48 q48 u52 q52 u53 q53
        obtain rfl : u53 = .agg #[.string x0, .int .i64 na, .int .i64 nk] := q53 rfl
        refine Op1P.of ?_
        refine hj.know (by decide) fun N I => ?_
        exact O.mklit (cs := Prd.enc ⟨x0, na, nk⟩) I Tryz.underlying22 Tryz.sizeOf53 Tryz.zeroValue53 (by decide) (by decide) rfl rfl (fun v h w I le sl => ⟨h, le, I, sl⟩)
      refine OpsGP.x_ (Φ := AtAp (ps.length + 1)) AtAp.mono (fun _ => runsG_none _) (fun D' z w hDk hl hj => ?_) ?_
      · intro u48 q48 u52 q52 u53 q53 u54 q54
        obtain ⟨bl, rfl, hbl⟩ := q54 rfl
        refine Op1P.of ?_
        refine hj.app hDk fun I => ?_
        have kb : Known z.h bl (Prd.enc ⟨x0, na, nk⟩) := ⟨fun j v hv => by simp [Heap.cell, hbl, hv]⟩
        refine O.append I Tryz.underlying22 et_53 0 rfl rfl rfl (I.rd kb.rd) rfl rfl (by decide) (by omega) (by omega) ?_
        intro g c w I
        exact ⟨g, c, rfl, I⟩
      refine OpsGP.nil ?_
      intro D z w hD hl hj u48 q48 u52 q52 u53 q53 u54 q54 u55 q55
      obtain ⟨g, c3, rfl, h7⟩ := q55 rfl
      have I := hj.inv
      rw [h7] at I
      obtain ⟨hn1, _⟩ := q48 rfl
      obtain ⟨hn2, _⟩ := q52 rfl
      refine OpsP.y (v := .pointer (some ⟨_, _, none⟩)) (Y.nilp rfl) ?_
      refine OpsP.y (v := .pointer (some ⟨_, _, none⟩)) (Y.fa0 fa_25_0 rfl) ?_
      refine OpsP.go (O.store (v := .slice _ _ _) I ty_22 2 rfl rfl rfl rfl rfl rfl (Nat.le_of_ble_eq_true rfl) rfl ?_)
      intro w I
      refine OpsP.nil ?_
      refine WP.ret ?_
      exact ⟨[], trivial, rfl, z.h, some ⟨g, 0, none⟩, c3, q2, c2, ps ++ [⟨x0, na, nk⟩], rs, (gl1.trans gl2).trans hl.h, by unfold linM; rw [List.length_append, List.flatMap_append, List.flatMap_singleton]; exact I, by rw [hL, hR, hn1, hn2]; simp only [mk_tx]; rfl, fun r hm => (hr r hm).le ((gl1.trans gl2).trans hl.h), fun x hm => by
        rcases List.mem_append.1 hm with hm | hm
        · exact hnm x hm
        · rw [List.mem_singleton] at hm; subst hm; exact hz0, by simp, by omega⟩
    · have bad0 : lineR (ps, rs.map Rul.er) (tx s) = none := by
        rw [hL]
        unfold predR
        rw [← hws']
        split
        · rename_i n a k he
          exact absurd (by have := congrArg List.length he; simpa using this) h3
        · rfl
      refine WP.seq ?_
      refine WP.regionP _ (fun _ _ _ h => h) ?_
      refine OpsP.y (v := .slice _ _ _) (Y.move rfl) ?_
      refine OpsP.y (v := .int .i64 _) (Y.lens Tryz.underlying66 rfl) ?_
      refine OpsP.y (v := .bool false) (Y.dec_f (Y.eqi rfl rfl) ((by omega))) ?_
      refine OpsP.p (O.callpX I Tryz.call32 (must_ok _ I.base_ok false) rfl (fun w' g _ => ⟨rfl, ⟨_, (I.grow g).drop.drop⟩, bad0⟩) ?_)
      rintro _ h2 w I gl2 ⟨hh, _⟩
      refine OpsP.nil ?_
      cases hh
  have h30' : ¬ (pf = true ∧ sf = false) := fun hh => by rw [hh.1, hh.2] at h30; simp at h30
  rw [if_neg h30'] at hL
  refine WP.skip ?_
  refine WP.seq ?_
  refine WP.region ?_
  refine Ops.y (v := .string _) (Y.move rfl) ?_
  refine Ops.go (O.callv I Tryz.call72 (CutSuf_is _ I.base_ok s (by omega) [46] hs1 hsf) rfl ?_)
  intro w I
  refine Ops.y (v := .tuple #[_, _]) (Y.move rfl) ?_
  refine Ops.y (v := .string _) (Y.extract rfl rfl) ?_
  refine Ops.y (v := .bool _) (Y.extract rfl rfl) ?_
  refine Ops.y (v := .string _) (Y.assign rfl) ?_
  refine Ops.y (v := .bool _) (Y.assign rfl) ?_
  refine Ops.nil ?_
  cases sf with
  | false =>
    have bad : lineR (ps, rs.map Rul.er) (tx s) = none := by rw [hL, if_pos rfl]
    refine WP.seq ?_
    refine WP.regionP _ (fun _ _ _ h => h) ?_
    refine OpsP.y (v := .bool _) (Y.move rfl) ?_
    refine OpsP.p (O.callpX I Tryz.call32 (must_ok _ I.base_ok false) rfl (fun w' g _ => ⟨rfl, ⟨_, (I.grow g).drop.drop⟩, bad⟩) ?_)
    rintro _ h2 w I gl2 ⟨hh, _⟩
    refine OpsP.nil ?_
    cases hh
  | true =>
  rw [if_neg (by decide)] at hL
  refine WP.seq ?_
  refine WP.regionP _ (fun _ _ _ h => h) ?_
  refine OpsP.y (v := .bool _) (Y.move rfl) ?_
  refine OpsP.p (O.callpX I Tryz.call32 (must_ok _ I.base_ok true) rfl (fun w' g p => by cases p) ?_)
  rintro _ h1 w I gl1 ⟨_, rfl⟩
  refine OpsP.nil ?_
  have V1 := V.le gl1
  have hcl1 := cut_len s1 [32, 58, 45, 32]
  obtain ⟨hd, bd, has, hcut⟩ : ∃ x y z, Lib.cut s1 [32, 58, 45, 32] = (x, y, z) := ⟨_, _, _, rfl⟩
  have hcl2 := cut_len hd [32, 61, 32]
  obtain ⟨hd1, va, isv, hcut2⟩ : ∃ x y z, Lib.cut hd [32, 61, 32] = (x, y, z) := ⟨_, _, _, rfl⟩
  rw [hcut] at hcl1
  rw [hcut2] at hcl2
  dsimp only at hcl1 hcl2
  have hH : hdR hd = (hd1, if isv = true then valR va else some (-1, 0)) := by unfold hdR; rw [hcut2]
  have hR : ruleR ps s1 = match (if isv = true then valR va else some (-1, 0)) with
      | none => none
      | some v => match atomR ps hd1 with
        | none => none
        | some a => if has = true then (litsR ps (Lib.split bd [44, 32])).map (mkR a v) else some (mkR a v []) := by
    unfold ruleR; rw [hcut]; simp only [hH]; rfl
  have badV : (if isv = true then valR va else some (-1, 0)) = none → lineR (ps, rs.map Rul.er) (tx s) = none := fun hh => by rw [hL, hR, hh]; rfl
  refine WP.seq ?_
  refine WP.region ?_
  refine Ops.y (v := .string _) (Y.move rfl) ?_
  refine Ops.go (O.callv I Tryz.call73 (Cut_is _ I.base_ok V1 (mk s1) (by rw [mk_size]; omega) [32, 58, 45, 32] hcut) rfl ?_)
  intro w I
  refine Ops.y (v := .tuple #[_, _, _]) (Y.move rfl) ?_
  refine Ops.y (v := .string _) (Y.extract rfl rfl) ?_
  refine Ops.y (v := .string _) (Y.extract rfl rfl) ?_
  refine Ops.y (v := .bool _) (Y.extract rfl rfl) ?_
  refine Ops.y (v := .string _) (Y.assign rfl) ?_
  refine Ops.y (v := .string _) (Y.assign rfl) ?_
  refine Ops.y (v := .bool _) (Y.assign rfl) ?_
  refine Ops.nil ?_
  refine WP.seq ?_
  refine WP.region ?_
  refine Ops.y (v := .agg #[.int .i64 _, .slice _ _ _, .int .i64 _, .int .i64 _, .slice _ _ _]) (Y.build pl_64 Tryz.zeroValue64 rfl rfl) ?_
  refine Ops.go (O.alloc I Tryz.zeroValue64 rfl ?_)
  intro b11 w I
  refine Ops.go (O.store (v := .agg #[_, _, _, _, _]) I ty_64 0 rfl rfl rfl rfl rfl rfl (Nat.le_of_ble_eq_true rfl) rfl ?_)
  intro w I
  refine Ops.nil ?_
  refine WP.seq ?_
  refine WP.region ?_
  refine Ops.y (v := .string _) (Y.move rfl) ?_
  refine Ops.go (O.callv I Tryz.call73 (Cut_is _ I.base_ok V1 (mk hd) (by rw [mk_size]; omega) [32, 61, 32] hcut2) rfl ?_)
  intro w I
  refine Ops.y (v := .tuple #[_, _, _]) (Y.move rfl) ?_
  refine Ops.y (v := .string _) (Y.extract rfl rfl) ?_
  refine Ops.y (v := .string _) (Y.extract rfl rfl) ?_
  refine Ops.y (v := .bool _) (Y.extract rfl rfl) ?_
  refine Ops.y (v := .string _) (Y.assign rfl) ?_
  refine Ops.y (v := .string _) (Y.assign rfl) ?_
  refine Ops.y (v := .bool _) (Y.assign rfl) ?_
  refine Ops.nil ?_
  refine WP.seq ?_
  refine WP.seq ?_
  refine WP.region ?_
  refine Ops.y (v := .bool _) (Y.move rfl) ?_
  refine Ops.nil ?_
  refine WP.cutL (σ := (Int × Int) × Heap) (fun _ => [(0, .pointer (some ⟨b, 0, none⟩)), (8, .string (mk hd1)), (9, .string (mk bd)), (10, .bool has), (11, .pointer (some ⟨b11, 0, none⟩))])
    (fun s w => Inv B s.2 (box b11 [.int .i64 0, .slice none 0 0, .int .i64 s.1.1, .int .i64 s.1.2, .slice none 0 0] 64 :: linM b q ps.length c q2 rs.length c2 ps rs M) w ∧ (if isv = true then valR va else some (-1, 0)) = some s.1 ∧ h1.le s.2) ?_ ?_
  · refine WP.cond rfl (fun h10 => ?_) (fun h10 => ?_)
    · have h10' : isv = true := h10
      have hcl3 := cut_len va [43]
      obtain ⟨f0, n0, pl, hcut3⟩ : ∃ x y z, Lib.cut va [43] = (x, y, z) := ⟨_, _, _, rfl⟩
      rw [hcut3] at hcl3
      dsimp only at hcl3
      have hV : valR va = if pl = true then if Lib.hasPrefix f0 [35] = false then none else (match numR (Lib.trimPrefix f0 [35]), numR n0 with | some a, some b => some (a, b) | _, _ => none) else (numR va).map fun n => (-1, n) := by unfold valR; rw [hcut3] <;> rfl
      rw [if_pos h10'] at badV
      refine WP.seq ?_
      refine WP.region ?_
      refine Ops.y (v := .string _) (Y.move rfl) ?_
      refine Ops.go (O.callv I Tryz.call73 (Cut_is _ I.base_ok V1 (mk va) (by rw [mk_size]; omega) [43] hcut3) rfl ?_)
      intro w I
      refine Ops.y (v := .tuple #[_, _, _]) (Y.move rfl) ?_
      refine Ops.y (v := .string _) (Y.extract rfl rfl) ?_
      refine Ops.y (v := .string _) (Y.extract rfl rfl) ?_
      refine Ops.y (v := .bool _) (Y.extract rfl rfl) ?_
      refine Ops.y (v := .string _) (Y.assign rfl) ?_
      refine Ops.y (v := .string _) (Y.assign rfl) ?_
      refine Ops.y (v := .bool _) (Y.assign rfl) ?_
      refine Ops.nil ?_
      refine WP.seq ?_
      refine WP.region ?_
      refine Ops.y (v := .bool _) (Y.move rfl) ?_
      refine Ops.nil ?_
      refine WP.cond rfl (fun h12 => ?_) (fun h12 => ?_)
      · have h12' : pl = true := h12
        rw [if_pos h12'] at hV
        have hfl := Lib.trimPrefix_le f0 [35]
        obtain ⟨f1, hf1⟩ : ∃ x, Lib.trimPrefix f0 [35] = x := ⟨_, rfl⟩
        obtain ⟨hf, hhf⟩ : ∃ x, Lib.hasPrefix f0 [35] = x := ⟨_, rfl⟩
        rw [hf1] at hfl hV
        rw [hhf] at hV
        refine WP.seq ?_
        refine WP.region ?_
        refine Ops.y (v := .string _) (Y.move rfl) ?_
        refine Ops.go (O.callv I Tryz.call69 (CutPre_is _ I.base_ok (mk f0) [35] hf1 hhf) rfl ?_)
        intro w I
        refine Ops.y (v := .tuple #[_, _]) (Y.move rfl) ?_
        refine Ops.y (v := .string _) (Y.extract rfl rfl) ?_
        refine Ops.y (v := .bool _) (Y.extract rfl rfl) ?_
        refine Ops.y (v := .string _) (Y.assign rfl) ?_
        refine Ops.y (v := .bool _) (Y.assign rfl) ?_
        refine Ops.nil ?_
        cases hf with
        | false =>
          have bad := badV (by rw [hV, if_pos rfl])
          refine WP.seq ?_
          refine WP.regionP _ (fun _ _ _ h => h) ?_
          refine OpsP.y (v := .bool _) (Y.move rfl) ?_
          refine OpsP.p (O.callpX I Tryz.call32 (must_ok _ I.base_ok false) rfl (fun w' g _ => ⟨rfl, ⟨_, (I.grow g).drop.drop.drop⟩, bad⟩) ?_)
          rintro _ h2 w I gl2 ⟨hh, _⟩
          refine OpsP.nil ?_
          cases hh
        | true =>
        rw [if_neg (by decide)] at hV
        refine WP.seq ?_
        refine WP.regionP _ (fun _ _ _ h => h) ?_
        refine OpsP.y (v := .bool _) (Y.move rfl) ?_
        refine OpsP.p (O.callpX I Tryz.call32 (must_ok _ I.base_ok true) rfl (fun w' g p => by cases p) ?_)
        rintro _ h2 w I gl2 ⟨_, rfl⟩
        refine OpsP.nil ?_
        refine WP.regionP _ (fun _ _ _ h => h) ?_
        refine OpsP.y (v := .string _) (Y.move rfl) ?_
        refine OpsP.p (O.callpX I Tryz.call71 (num_ok _ I.base_ok (V1.le gl2) (mk f1) (by rw [mk_size]; omega)) rfl (fun w' g p => ⟨rfl, ⟨_, (I.grow g).drop.drop.drop⟩, badV (by rw [hV]; rw [show numR f1 = none from p])⟩) ?_)
        rintro _ h3 w I gl3 ⟨m1, hm1, rfl⟩
        refine OpsP.y (v := .string _) (Y.move rfl) ?_
        refine OpsP.p (O.callpX I Tryz.call71 (num_ok _ I.base_ok (V1.le (gl2.trans gl3)) (mk n0) (by rw [mk_size]; omega)) rfl (fun w' g p => ⟨rfl, ⟨_, (I.grow g).drop.drop.drop⟩, badV (by rw [hV]; rw [show numR n0 = none from p]; cases numR f1 <;> rfl)⟩) ?_)
        rintro _ h4 w I gl4 ⟨m2, hm2, rfl⟩
        refine OpsP.y (v := .pointer (some ⟨_, _, none⟩)) (Y.fa fa_64_1 rfl) ?_
        refine OpsP.go (O.store (v := .int .i64 _) I ty_3 0 rfl rfl rfl rfl rfl rfl (Nat.le_of_ble_eq_true rfl) rfl ?_)
        intro w I
        refine OpsP.y (v := .pointer (some ⟨_, _, none⟩)) (Y.fa fa_64_2 rfl) ?_
        refine OpsP.go (O.store (v := .int .i64 _) I ty_3 0 rfl rfl rfl rfl rfl rfl (Nat.le_of_ble_eq_true rfl) rfl ?_)
        intro w I
        refine OpsP.nil ?_
        exact ⟨((m1, m2), h4), ⟨rfl, rfl, rfl, rfl, rfl, trivial⟩, I, by rw [if_pos h10', hV]; rw [show numR f1 = some m1 from hm1, show numR n0 = some m2 from hm2], (gl2.trans gl3).trans gl4⟩
      · have h12' : ¬ pl = true := by rw [h12]; decide
        rw [if_neg h12'] at hV
        refine WP.regionP _ (fun _ _ _ h => h) ?_
        refine OpsP.y (v := .string _) (Y.move rfl) ?_
        refine OpsP.p (O.callpX I Tryz.call71 (num_ok _ I.base_ok V1 (mk va) (by rw [mk_size]; omega)) rfl (fun w' g p => ⟨rfl, ⟨_, (I.grow g).drop.drop.drop⟩, badV (by rw [hV]; rw [show numR va = none from p]; rfl)⟩) ?_)
        rintro _ h3 w I gl3 ⟨m1, hm1, rfl⟩
        refine OpsP.y (v := .pointer (some ⟨_, _, none⟩)) (Y.fa fa_64_2 rfl) ?_
        refine OpsP.go (O.store (v := .int .i64 _) I ty_3 0 rfl rfl rfl rfl rfl rfl (Nat.le_of_ble_eq_true rfl) rfl ?_)
        intro w I
        refine OpsP.nil ?_
        exact ⟨((-1, m1), h3), ⟨rfl, rfl, rfl, rfl, rfl, trivial⟩, I, by rw [if_pos h10', hV]; rw [show numR va = some m1 from hm1]; rfl, gl3⟩
    · have h10' : ¬ isv = true := by rw [h10]; decide
      refine WP.skip ?_
      exact ⟨((-1, 0), h1), ⟨rfl, rfl, rfl, rfl, rfl, trivial⟩, I, by rw [if_neg h10'], Heap.le.refl _⟩
  rintro ⟨v, h5⟩ e w ⟨I, hv, gl5⟩
  dsimp only at I hv gl5 ⊢
  rw [hv] at hR
  dsimp only at hR
  obtain ⟨h6, sp, le6, hvp, hxp, osp, J⟩ := (I.front 1 rfl).settleO rfl
  clear I
  have I : Inv B h6 (box b11 [.int .i64 0, .slice none 0 0, .int .i64 v.1, .int .i64 v.2, .slice none 0 0] 64 :: ownSl 64 5 (.slice q2 rs.length c2) rs.length (rs.flatMap Rul.enc) :: box b [sp.val, .slice q2 rs.length c2] 25 :: M) w := by rw [hvp]; exact J
  have isp : Prds sp h6 := ⟨osp.in (fun _ => rfl), by rw [hxp]; omega⟩
  have V6 := V1.le (gl5.trans le6)
  have hbx : ∀ {h' : Heap} {w' : World}, Inv B h' (box b [sp.val, .slice q2 rs.length c2] 25 :: M) w' → ∃ h', Inv B h' (box b [.slice q ps.length c, .slice q2 rs.length c2] 25 :: M) w' := fun J => by rw [hvp] at J; exact ⟨_, J⟩
  refine WP.seq ?_
  refine WP.regionP _ (fun _ _ _ h => h) ?_
  refine OpsP.y (v := .pointer (some ⟨_, _, none⟩)) (Y.move rfl) ?_
  refine OpsP.y (v := .pointer (some ⟨_, _, none⟩)) (Y.nilp rfl) ?_
  refine OpsP.y (v := .pointer (some ⟨_, _, none⟩)) (Y.fa0 fa_25_0 rfl) ?_
  refine OpsP.y (v := .slice _ _ _) (Y.loadv ty_22 rfl (I.rdbox 2 rfl 0 1) rfl rfl) ?_
  refine OpsP.y (v := .string _) (Y.move rfl) ?_
  refine OpsP.p (O.callpX I Tryz.call74 (atom_ok _ I.base_ok V6 sp isp (mk hd1) (by rw [mk_size]; omega)) rfl (fun w' g p => ⟨rfl, hbx (I.grow g).drop.drop, by rw [hxp] at p; rw [hL, hR, show atomR ps hd1 = none from p]; rfl⟩) ?_)
  rintro _ h7 w I gl7 ⟨a1, rfl, oa1, la1, ra1⟩
  refine OpsP.y (v := .pointer (some ⟨_, _, none⟩)) (Y.fa0 fa_64_0 rfl) ?_
  refine OpsP.go (O.store (v := .agg #[_, _]) I ty_61 0 rfl rfl rfl rfl rfl rfl (Nat.le_of_ble_eq_true rfl) rfl ?_)
  intro w I
  refine OpsP.nil ?_
  rw [hxp] at ra1
  rw [show atomR ps hd1 = some a1.er from ra1] at hR
  dsimp only at hR
  have V7 := V6.le gl7
  refine WP.seq ?_
  refine WP.seq ?_
  refine WP.region ?_
  refine Ops.y (v := .string _) (Y.move rfl) ?_
  refine Ops.go (O.call I Tryz.call70 (Split_ok _ I.base_ok V7 (mk bd) ⟨#[44, 32]⟩ (by rw [mk_size]; omega) (by decide)) rfl ?_)
  rintro _ h8 w I gl8 ⟨ws, rfl, iws, hws⟩
  refine Ops.y (v := .int .i64 _) (Y.lens Tryz.underlying66 rfl) ?_
  refine Ops.y (v := .int .i64 _) (Y.move rfl) ?_
  refine Ops.nil ?_
  have hws' : ws.xs.map tx = Lib.split bd [44, 32] := hws
  have hwl : ∀ x ∈ ws.xs, x.size ≤ 4096 := fun x hx => by
    have := split_len (s := bd) (sep := [44, 32]) (x := tx x) (by rw [← hws']; exact List.mem_map_of_mem hx)
    rw [tx_len] at this; omega
  have hwsm : ws.xs.length ≤ 4098 := by
    have h1 := split_cnt bd [44, 32]
    rw [← hws', List.length_map] at h1; omega
  have V8 := V7.le gl8
  have isp8 := isp.le (gl7.trans gl8)
  refine WP.cutL (σ := Option Addr × Nat × Nat × Heap × List Ltl) (fun _ => [(0, .pointer (some ⟨b, 0, none⟩)), (11, .pointer (some ⟨b11, 0, none⟩))])
    (fun s w => Inv B s.2.2.2.1 (ownSl 68 3 (.slice s.1 s.2.1 s.2.2.1) s.2.1 (s.2.2.2.2.flatMap Ltl.enc) :: box b11 [.int .i64 a1.pred, a1.args.val, .int .i64 v.1, .int .i64 v.2, .slice s.1 s.2.1 s.2.2.1] 64 :: ownSl 64 5 (.slice q2 rs.length c2) rs.length (rs.flatMap Rul.enc) :: box b [sp.val, .slice q2 rs.length c2] 25 :: M) w ∧ h8.le s.2.2.2.1 ∧ s.2.2.2.2.length = s.2.1 ∧ s.2.1 ≤ 4098 ∧
      (∀ x ∈ s.2.2.2.2, OwnH 109 2 x.atom.args Trm.enc h7 s.2.2.2.1 ∧ x.atom.args.xs.length ≤ 4098) ∧ (if has = true then (litsR ps (Lib.split bd [44, 32])).map (mkR a1.er v) else some (mkR a1.er v [])) = some (mkR a1.er v (s.2.2.2.2.map Ltl.er))) ?_ ?_
  · cases has with
    | false =>
      refine WP.block ?_
      refine WP.loopE (σ := Unit) (fun _ => [(0, .pointer (some ⟨b, 0, none⟩)), (10, .bool false), (11, .pointer (some ⟨b11, 0, none⟩)), (110, ws.val), (111, .int .i64 ws.xs.length), (112, .int .i64 0)])
        (fun _ w => Inv B h8 (box b11 [.int .i64 a1.pred, a1.args.val, .int .i64 v.1, .int .i64 v.2, .slice none 0 0] 64 :: ownSl 64 5 (.slice q2 rs.length c2) rs.length (rs.flatMap Rul.enc) :: box b [sp.val, .slice q2 rs.length c2] 25 :: M) w) (fun _ => 0)
        ⟨(), ⟨rfl, rfl, rfl, rfl, rfl, rfl, trivial⟩, I⟩ ?_
      rintro _ e w I
      refine WP.seq ?_
      refine WP.region ?_
      refine Ops.y (v := .bool (decide _)) (Y.lti rfl rfl) ?_
      refine Ops.nil ?_
      refine WP.seq ?_
      refine WP.cond_dec rfl (fun h19 => ?_) (fun h19 => ?_)
      · have E := iws.at (i := 0) (by omega)
        refine WP.skip ?_
        refine WP.seq ?_
        refine WP.block ?_
        refine WP.seq ?_
        refine WP.region ?_
        refine Ops.y (v := .pointer (some ⟨_, _, none⟩)) (Y.idxEl E Tryz.underlying66 Tryz.sizeOf9 rfl rfl (Int.natCast_nonneg _) rfl) ?_
        refine Ops.y (v := .string _) (Y.loadv ty_9 rfl (I.rd (E.rd.part 0 1)) rfl rfl) ?_
        refine Ops.y (v := .string _) (Y.assign rfl) ?_
        refine Ops.nil ?_
        refine WP.seq ?_
        refine WP.seq ?_
        refine WP.region ?_
        refine Ops.y (v := .bool _) (Y.move rfl) ?_
        refine Ops.y (v := .bool _) (Y.not rfl) ?_
        refine Ops.nil ?_
        refine WP.cond_t rfl ?_
        refine WP.exit ?_
        exact ⟨(none, 0, 0, h8, []), ⟨rfl, rfl, trivial⟩, I.nilSl 68 3, Heap.le.refl _, rfl, Nat.zero_le _, fun x hx => (by cases hx), by rw [if_neg (by decide)]; rfl⟩
      · refine WP.exit ?_
        exact ⟨(none, 0, 0, h8, []), ⟨rfl, rfl, trivial⟩, I.nilSl 68 3, Heap.le.refl _, rfl, Nat.zero_le _, fun x hx => (by cases hx), by rw [if_neg (by decide)]; rfl⟩
    | true =>
      rw [if_pos rfl] at hR
      refine WP.block ?_
      refine WP.loopE (σ := Nat × Option Addr × Nat × Heap × List Ltl) (fun s => [(0, .pointer (some ⟨b, 0, none⟩)), (10, .bool true), (11, .pointer (some ⟨b11, 0, none⟩)), (110, ws.val), (111, .int .i64 ws.xs.length), (112, .int .i64 s.1)])
        (fun s w => Inv B s.2.2.2.1 (ownSl 68 3 (.slice s.2.1 s.1 s.2.2.1) s.1 (s.2.2.2.2.flatMap Ltl.enc) :: box b11 [.int .i64 a1.pred, a1.args.val, .int .i64 v.1, .int .i64 v.2, .slice s.2.1 s.1 s.2.2.1] 64 :: ownSl 64 5 (.slice q2 rs.length c2) rs.length (rs.flatMap Rul.enc) :: box b [sp.val, .slice q2 rs.length c2] 25 :: M) w ∧ s.1 ≤ ws.xs.length ∧ h8.le s.2.2.2.1 ∧ s.2.2.2.2.length = s.1 ∧
          (∀ x ∈ s.2.2.2.2, OwnH 109 2 x.atom.args Trm.enc h7 s.2.2.2.1 ∧ x.atom.args.xs.length ≤ 4098) ∧ litsR ps ((ws.xs.take s.1).map tx) = some (s.2.2.2.2.map Ltl.er)) (fun s => ws.xs.length - s.1)
        ⟨(0, none, 0, h8, []), ⟨rfl, rfl, rfl, rfl, rfl, rfl, trivial⟩, I.nilSl 68 3, Nat.zero_le _, Heap.le.refl _, rfl, fun x hx => (by cases hx), rfl⟩ ?_
      rintro ⟨k, q3, c3, hh, ls⟩ e w ⟨I, hk, gl, hlen, hown, hls⟩
      dsimp only at I hk gl hlen hown hls ⊢
      refine WP.seq ?_
      refine WP.region ?_
      refine Ops.y (v := .bool (decide _)) (Y.lti rfl rfl) ?_
      refine Ops.nil ?_
      refine WP.seq ?_
      refine WP.cond_dec rfl (fun h19 => ?_) (fun h19 => ?_)
      · have hk' : k < ws.xs.length := by omega
        have E := (iws.le gl).at hk'
        obtain ⟨x, hx⟩ : ∃ x, ws.xs[k] = x := ⟨_, rfl⟩
        have hxm : x ∈ ws.xs := hx ▸ List.getElem_mem hk'
        have hxl := hwl x hxm
        have hxt := tx_len x
        have hnx : (ws.xs.take (k + 1)).map tx = (ws.xs.take k).map tx ++ [tx x] := by rw [List.take_add_one, List.getElem?_eq_getElem hk', hx]; simp
        rw [hx] at E
        have htr := Lib.trimPrefix_le (tx x) [33]
        obtain ⟨tr, htr2⟩ : ∃ y, Lib.trimPrefix (tx x) [33] = y := ⟨_, rfl⟩
        obtain ⟨ng, hng⟩ : ∃ y, Lib.hasPrefix (tx x) [33] = y := ⟨_, rfl⟩
        rw [htr2] at htr
        have hlit : litR ps (tx x) = (atomR ps tr).map fun a => ⟨ng, a⟩ := by unfold litR; rw [htr2, hng]
        have badL : atomR ps tr = none → lineR (ps, rs.map Rul.er) (tx s) = none := fun hp => by
          rw [hL, hR, ← hws', litsR_bad (List.mem_map_of_mem hxm) (by rw [hlit, hp]; rfl)]; rfl
        refine WP.skip ?_
        refine WP.seq ?_
        refine WP.block ?_
        refine WP.seq ?_
        refine WP.region ?_
        refine Ops.y (v := .pointer (some ⟨_, _, none⟩)) (Y.idxEl E Tryz.underlying66 Tryz.sizeOf9 rfl rfl (Int.natCast_nonneg _) rfl) ?_
        refine Ops.y (v := .string _) (Y.loadv ty_9 rfl (I.rd (E.rd.part 0 1)) rfl rfl) ?_
        refine Ops.y (v := .string _) (Y.assign rfl) ?_
        refine Ops.nil ?_
        refine WP.seq ?_
        refine WP.seq ?_
        refine WP.region ?_
        refine Ops.y (v := .bool _) (Y.move rfl) ?_
        refine Ops.y (v := .bool _) (Y.not rfl) ?_
        refine Ops.nil ?_
        refine WP.cond_f rfl ?_
        refine WP.skip ?_
        refine WP.seq ?_
        refine WP.region ?_
        refine Ops.y (v := .string _) (Y.move rfl) ?_
        refine Ops.go (O.callv I Tryz.call69 (CutPre_is _ I.base_ok x [33] htr2 hng) rfl ?_)
        intro w I
        refine Ops.y (v := .tuple #[_, _]) (Y.move rfl) ?_
        refine Ops.y (v := .string _) (Y.extract rfl rfl) ?_
        refine Ops.y (v := .bool _) (Y.extract rfl rfl) ?_
        refine Ops.y (v := .string _) (Y.assign rfl) ?_
        refine Ops.y (v := .bool _) (Y.assign rfl) ?_
        refine Ops.nil ?_
        refine WP.regionGP _ (fun _ _ _ h => h) mixed RAq.pre ⟨hh, none⟩ (J := JAq B (box b11 [.int .i64 a1.pred, a1.args.val, .int .i64 v.1, .int .i64 v.2, .slice q3 k c3] 64 :: ownSl 64 5 (.slice q2 rs.length c2) rs.length (rs.flatMap Rul.enc) :: box b [sp.val, .slice q2 rs.length c2] 25 :: M) 68 3 k 1 (.slice q3 k c3) (ls.flatMap Ltl.enc) 11) ⟨rfl, I.drew⟩ 12 (by kernel_rfl) ?_
        refine OpsGP.y_ (v := .pointer (some ⟨_, _, none⟩)) (fun _ => runsG_none _) RAq.pre (JAq.set (by decide)) (fun _ s w us hl hj => have I := hj.base; have hl := hl.h; Y.fa fa_64_3 rfl) ?_
        refine OpsGP.y_ (v := .slice _ _ _) (fun _ => runsG_none _) RAq.pre (JAq.set (by decide)) (fun _ s w us hl hj => have I := hj.base; have hl := hl.h; Y.loadv ty_62 rfl (I.rdbox 0 rfl 4 1) rfl rfl) ?_
        refine OpsGP.y_ (v := .bool _) (fun _ => runsG_none _) RAq.pre (JAq.set (by decide)) (fun _ s w us hl hj => have I := hj.base; have hl := hl.h; Y.move rfl) ?_
        refine OpsGP.y_ (v := .pointer (some ⟨_, _, none⟩)) (fun _ => runsG_none _) RAq.pre (JAq.set (by decide)) (fun _ s w us hl hj => have I := hj.base; have hl := hl.h; Y.move rfl) ?_
        refine OpsGP.y_ (v := .pointer (some ⟨_, _, none⟩)) (fun _ => runsG_none _) RAq.pre (JAq.set (by decide)) (fun _ s w us hl hj => have I := hj.base; have hl := hl.h; Y.nilp rfl) ?_
        refine OpsGP.y_ (v := .pointer (some ⟨_, _, none⟩)) (fun _ => runsG_none _) RAq.pre (JAq.set (by decide)) (fun _ s w us hl hj => have I := hj.base; have hl := hl.h; Y.fa0 fa_25_0 rfl) ?_
        refine OpsGP.y_ (v := .slice _ _ _) (fun _ => runsG_none _) RAq.pre (JAq.set (by decide)) (fun _ s w us hl hj => have I := hj.base; have hl := hl.h; Y.loadv ty_22 rfl (I.rdbox 2 rfl 0 1) rfl rfl) ?_
        refine OpsGP.y_ (v := .string _) (fun _ => runsG_none _) RAq.pre (JAq.set (by decide)) (fun _ s w us hl hj => have I := hj.base; have hl := hl.h; Y.move rfl) ?_
        refine OpsGP.x_ (Φ := KnAq (AtmO sp.xs tr h7)) (KnAq.mono AtmO.mono) (fun _ => runsG_none _) (fun D' z w hDk hl hj => ?_) ?_
        · refine AllG.all fun us => ?_
          refine hj.knowP (by decide) fun N hN I => ?_
          have hl := hl.h
          refine O.callpX I Tryz.call74 (atom_ok _ I.base_ok (V8.le (gl.trans hl)) sp (isp8.le (gl.trans hl)) (mk tr) (by rw [mk_size]; omega)) rfl (fun w' g p => ⟨rfl, by subst hN; exact hbx (I.grow g).drop.drop.drop, badL (by rw [hxp] at p; exact p)⟩) ?_
          rintro _ h1 w I hl' ⟨a, rfl, oa, la, ra⟩
          exact ⟨_, hl', I, ⟨a, rfl, oa.older (gl8.trans (gl.trans hl)), la, ra⟩⟩
        refine OpsGP.x_ (Φ := KnAq (LtlV sp.xs (tx x) h7)) (KnAq.mono LtlV.mono) (fun _ => runsG_none _) (fun D' z w hDk hl hj => ?_) ?_
        · intro u131 q131
          obtain ⟨a, rfl, oa, la, ra⟩ := q131 rfl
          refine Op1P.of ?_
          refine hj.know (by decide) fun N I => ?_
          have hl := hl.h
          exact O.yx I (Y.build pl_68 Tryz.zeroValue68 rfl rfl) (⟨⟨ng, a⟩, rfl, oa, la, by rw [hxp] at ra ⊢; rw [hlit, ra]; rfl⟩)
        refine OpsGP.x_ (Φ := KnAq (LitP 68 (LtlO sp.xs (tx x) h7))) (KnAq.mono (LitP.mono LtlO.mono)) (fun _ => runsG_none _) (fun D' z w hDk hl hj => ?_) ?_
        · intro u131 q131 u132 q132
          obtain ⟨y, rfl, oy, ly, ry⟩ := q132 rfl
          refine Op1P.of ?_
          refine hj.know (by decide) fun N I => ?_
          exact O.mklit (cs := y.enc) I Tryz.underlying62 Tryz.sizeOf68 Tryz.zeroValue68 (by decide) (by decide) rfl rfl (fun v h w I le sl => ⟨h, le, I, y.enc, sl, y, rfl, oy.le le, ly, ry⟩)
        refine OpsGP.x_ (Φ := AtAq (LtlO sp.xs (tx x) h7) (k + 1)) (AtAq.mono LtlO.mono) (fun _ => runsG_none _) (fun D' z w hDk hl hj => ?_) ?_
        · intro u131 q131 u132 q132 u133 q133
          obtain ⟨cs, ⟨bl, rfl, hbl⟩, y, rfl, oy, ly, ry⟩ := q133 rfl
          refine Op1P.of ?_
          refine hj.app hDk fun I => ?_
          have kb : Known z.h bl y.enc := ⟨fun j v hv => by simp [Heap.cell, hbl, hv]⟩
          refine O.append I Tryz.underlying62 et_68 0 rfl rfl rfl (I.rd kb.rd) rfl rfl (by decide) (by omega) (by omega) ?_
          intro g c w I
          exact ⟨g, c, y.enc, rfl, ⟨y, rfl, oy, ly, ry⟩, I⟩
        refine OpsGP.nil ?_
        intro D z w hD hl hj u131 q131 u132 q132 u133 q133 u134 q134
        obtain ⟨g, c4, cs, rfl, h7', y, rfl, oy, ly, ry⟩ := q134 rfl
        have I := hj.inv
        rw [h7'] at I
        refine OpsP.y (v := .pointer (some ⟨_, _, none⟩)) (Y.fa fa_64_3 rfl) ?_
        refine OpsP.go (O.store (v := .slice _ _ _) I ty_62 1 rfl rfl rfl rfl rfl rfl (Nat.le_of_ble_eq_true rfl) rfl ?_)
        intro w I
        refine OpsP.nil ?_
        refine WP.region ?_
        refine Ops.y (v := .int .i64 _) (Y.addi rfl rfl ⟨by omega, by omega⟩) ?_
        refine Ops.y (v := .int .i64 _) (Y.move rfl) ?_
        refine Ops.nil ?_
        rw [hxp] at ry
        refine ⟨(k + 1, some ⟨g, 0, none⟩, c4, z.h, ls ++ [y]), ⟨⟨rfl, rfl, rfl, rfl, rfl, rfl, trivial⟩, ?_, by dsimp only; omega, gl.trans hl.h, by simp [hlen], fun x hx => ?_, by dsimp only; rw [hnx, List.map_append]; exact litsR_snoc hls ry⟩, by dsimp only; omega⟩
        · dsimp only
          rw [List.flatMap_append, List.flatMap_singleton]
          exact I
        · rcases List.mem_append.1 hx with hx | hx
          · exact ⟨(hown x hx).1.le hl.h, (hown x hx).2⟩
          · rw [List.mem_singleton] at hx; subst hx; exact ⟨oy, ly⟩
      obtain rfl : k = ws.xs.length := by omega
      rw [List.take_length] at hls
      refine WP.exit ?_
      exact ⟨(q3, _, c3, hh, ls), ⟨rfl, rfl, trivial⟩, I, gl, hlen, hwsm, hown, by rw [if_pos rfl, ← hws', hls]; rfl⟩
  rintro ⟨q3, n3, c3, hh, ls⟩ e w ⟨I, gl, hlen, hn3, hown, hmk⟩
  dsimp only at I gl hlen hn3 hown hmk ⊢
  rw [hmk] at hR
  obtain ⟨h9, sb, le9, hvb, hxb, osb, J⟩ := I.settleO hlen.symm
  clear I
  have gl9 := gl.trans le9
  have osp9 := osp.le ((gl7.trans gl8).trans gl9)
  have I : Inv B h9 (box b11 [.int .i64 a1.pred, a1.args.val, .int .i64 v.1, .int .i64 v.2, sb.val] 64 :: ownSl 64 5 (.slice q2 rs.length c2) rs.length (rs.flatMap Rul.enc) :: box b [sp.val, .slice q2 rs.length c2] 25 :: M) w := by rw [hvb]; exact J
  obtain ⟨h10, K, mono10, keep10⟩ := I.unsettle osp9 ((hBh.trans gl1).trans gl5)
  clear I J
  have gl10 : h.le h10 := mono10 h (((((gl1.trans gl5).trans le6).trans gl7).trans gl8).trans gl9) (gl1.trans gl5)
  have oa10 := ((oa1.le (gl8.trans gl9)).keep osp keep10)
  have ob10 := ((osb.older ((gl7.trans gl8).trans gl)).keep osp keep10)
  have ol10 : ∀ x ∈ ls, OwnH 109 2 x.atom.args Trm.enc h6 h10 := fun x hx => (((hown x hx).1.le le9).older gl7).keep osp keep10
  obtain ⟨r, hrd⟩ : ∃ r : Rul, r = ⟨a1, v.1, v.2, sb⟩ := ⟨_, rfl⟩
  have hrin : r.In h10 := by
    subst hrd
    exact ⟨own_trms oa10 la1, ⟨ob10.in fun _ => rfl, by show sb.xs.length ≤ _; rw [hxb]; omega⟩, fun x hx => own_trms (ol10 x (by rw [← hxb]; exact hx)) (hown x (by rw [← hxb]; exact hx)).2⟩
  have hrer : r.er = mkR a1.er v (ls.map Ltl.er) := by subst hrd; unfold Rul.er mkR; rw [hxb]
  have I : Inv B h10 (ownSl 64 5 (.slice q2 rs.length c2) rs.length (rs.flatMap Rul.enc) :: ownSl 53 3 (.slice q ps.length c) ps.length (ps.flatMap Prd.enc) :: box b11 r.enc 64 :: box b [.slice q ps.length c, .slice q2 rs.length c2] 25 :: M) w := by
    have J := K.front 2 rfl
    rw [hvp, hxp] at J
    subst hrd
    exact J
  clear K
  refine WP.regionG mixed RAp.pre ⟨h10, none⟩ (J := JAp B (ownSl 53 3 (.slice q ps.length c) ps.length (ps.flatMap Prd.enc) :: box b11 r.enc 64 :: box b [.slice q ps.length c, .slice q2 rs.length c2] 25 :: M) 64 5 rs.length 1 (.slice q2 rs.length c2) (rs.flatMap Rul.enc) r.enc 7) ⟨rfl, I.drew⟩ 8 (by kernel_rfl) ?_
  refine OpsG.y_ (v := .pointer (some ⟨_, _, none⟩)) (fun _ => runsG_none _) RAp.pre (JAp.set (by decide)) (fun _ s w us hl hj => have I := hj.base; have hl := hl.h; Y.move rfl) ?_
  refine OpsG.y_ (v := .pointer (some ⟨_, _, none⟩)) (fun _ => runsG_none _) RAp.pre (JAp.set (by decide)) (fun _ s w us hl hj => have I := hj.base; have hl := hl.h; Y.move rfl) ?_
  refine OpsG.y_ (v := .pointer (some ⟨_, _, none⟩)) (fun _ => runsG_none _) RAp.pre (JAp.set (by decide)) (fun _ s w us hl hj => have I := hj.base; have hl := hl.h; Y.nilp rfl) ?_
  refine OpsG.y_ (v := .pointer (some ⟨_, _, none⟩)) (fun _ => runsG_none _) RAp.pre (JAp.set (by decide)) (fun _ s w us hl hj => have I := hj.base; have hl := hl.h; Y.fa fa_25_1 rfl) ?_
  refine OpsG.y_ (v := .slice _ _ _) (fun _ => runsG_none _) RAp.pre (JAp.set (by decide)) (fun _ s w us hl hj => have I := hj.base; have hl := hl.h; Y.loadv ty_23 rfl (I.rdbox 2 rfl 1 1) rfl rfl) ?_
  refine OpsG.y_ (v := .agg #[_, _, _, _, _]) (fun _ => runsG_none _) RAp.pre (JAp.set (by decide)) (fun _ s w us hl hj => have I := hj.base; have hl := hl.h; Y.loadv ty_64 rfl (I.rdbox 1 rfl 0 5) rfl rfl) ?_
  refine OpsG.x_ (Φ := KnA (LitW 64 r.enc 1)) (KnA.mono LitW.mono) (fun _ => runsG_none _) (fun D' z w hDk hl hj => AllG.all fun us => ?_) ?_
  · refine hj.know (by decide) fun N I => ?_
    exact O.mklit (cs := r.enc) I Tryz.underlying23 Tryz.sizeOf64 Tryz.zeroValue64 (by decide) (by decide) rfl rfl (fun v h w I le sl => ⟨h, le, I, sl⟩)
  refine OpsG.x_ (Φ := AtAp (rs.length + 1)) AtAp.mono (fun _ => runsG_none _) (fun D' z w hDk hl hj => ?_) ?_
  · intro u143 q143
    obtain ⟨bl, rfl, hbl⟩ := q143 rfl
    refine hj.app hDk fun I => ?_
    have kb : Known z.h bl r.enc := ⟨fun j v hv => by simp [Heap.cell, hbl, hv]⟩
    refine O.append I Tryz.underlying23 et_64 0 rfl rfl rfl (I.rd kb.rd) rfl rfl (by decide) (by omega) (by omega) ?_
    intro g c w I
    exact ⟨g, c, rfl, I⟩
  refine OpsG.nil ?_
  intro D z w hD hl hj u143 q143 u144 q144
  obtain ⟨g, c4, rfl, h7'⟩ := q144 rfl
  have I := hj.inv
  rw [h7'] at I
  refine Ops.y (v := .pointer (some ⟨_, _, none⟩)) (Y.nilp rfl) ?_
  refine Ops.y (v := .pointer (some ⟨_, _, none⟩)) (Y.fa fa_25_1 rfl) ?_
  refine Ops.go (O.store (v := .slice _ _ _) I ty_23 3 rfl rfl rfl rfl rfl rfl (Nat.le_of_ble_eq_true rfl) rfl ?_)
  intro w I
  refine Ops.nil ?_
  have I : Inv B z.h (linM b q ps.length c (some ⟨g, 0, none⟩) (rs.length + 1) c4 ps (rs ++ [r]) M) w := by
    have J := ((I.front 1 rfl).weak (List.Sublist.cons_cons _ (List.Sublist.cons_cons _ (List.sublist_cons_self _ _))))
    unfold linM
    rw [List.flatMap_append, List.flatMap_singleton]
    exact J
  exact ⟨[], trivial, rfl, z.h, q, c, some ⟨g, 0, none⟩, c4, ps, rs ++ [r], gl10.trans hl.h, by rw [List.length_append]; exact I, by rw [hL, hR, List.map_append, ← hrer]; rfl, fun y hy => by
    rcases List.mem_append.1 hy with hy | hy
    · exact (hr y hy).le (gl10.trans hl.h)
    · rw [List.mem_singleton] at hy; subst hy; exact hrin.le hl.h, hnm, by omega, by simp⟩
end Go.TF
end
