/- Texts Fir8 Open FirLaw. -/
import Derived.Test.YtjofbbidkgagdaaU6
import Derived.Test.YtjofbbidkgagdaaU3
import Derived.Test.YtjofbbidkgagdaaU2
import Derived.Deep.Slices
import Derived.SizedLaws
import Derived.OpenShut
import Derived.ChangeArms
import Derived.Test.YtjofbbidkgagdaaU5
section
/- What must be in any case; no literal is not; what holds of less holds of more. -/
namespace Go.TF
open Go Go.RowKit Go.Proofs
set_option maxRecDepth 20000

/-! ### Wherever they lie -/
theorem litOk_er (f : List Fct) (x : Vrs) (t : Ltl) : litOk f x t.er = litOk f x t := rfl
theorem litOf_er2 (r : Rul) (k : Int) : (litOf r.er k).atom.args.xs = (litOf r k).atom.args.xs ∧ (litOf r.er k).atom.pred = (litOf r k).atom.pred := by
  have h : r.er.body.xs = r.body.xs.map Ltl.er := rfl
  unfold litOf
  rw [h, List.getD_eq_getElem?_getD, List.getD_eq_getElem?_getD, List.getElem?_map]
  cases r.body.xs[k.toNat]? <;> exact ⟨rfl, rfl⟩
theorem groundF_of {a b : Atm} (h : a.args.xs = b.args.xs ∧ a.pred = b.pred) (x : Vrs) : groundF a x = groundF b x := by
  obtain ⟨p, s⟩ := a; obtain ⟨q, t⟩ := b
  obtain ⟨h1, h2⟩ := h
  dsimp only at h1 h2
  subst h2
  unfold groundF
  simp only [argv, h1]
theorem holdsB_er (f : List Fct) (r : Rul) (x : Vrs) : holdsB f r.er x = holdsB f r x := by
  have h : r.er.body.xs = r.body.xs.map Ltl.er := rfl
  unfold holdsB
  rw [h, List.all_map]
  rfl
theorem headF_er (l : List Prd) (f : List Fct) (r : Rul) (x : Vrs) : headF l f r.er x = headF l f r x := by
  unfold headF headV
  rw [groundF_of (litOf_er2 r r.er.src)]
  rfl
theorem holdsF_er (l : List Prd) (f : List Fct) (r : Rul) (x : Vrs) : holdsF l f r.er x = holdsF l f r x := by
  unfold holdsF
  rw [holdsB_er, headF_er]
theorem stepsF_er (f : List Fct) (n : Int) (r : Rul) : stepsF f n r.er = stepsF f n r := by
  have h : r.er.body.xs = r.body.xs.map Ltl.er := rfl
  have hs : standsR r.er = standsR r := by
    funext v
    unfold standsR
    rw [h, List.any_map]
    rfl
  unfold stepsF stdOk
  rw [hs]
  simp only [holdsB_er]
theorem ruleAt_er (p : Prg) (n : Int) (h : n.toNat < p.rules.xs.length) : (ruleAt p n).er = ruleAt p.er n := by
  have e : p.er.rules.xs = p.rules.xs.map Rul.er := rfl
  unfold ruleAt
  rw [e, List.getD_eq_getElem?_getD, List.getD_eq_getElem?_getD, List.getElem?_map, List.getElem?_eq_getElem h]
  rfl
theorem eqarrN (k : Nat) (a b : Vrs) (w : World) : (Op.equalIn (k + 1 + 1) 38 (.agg #[.int .i64 a.x0, .int .i64 a.x1, .int .i64 a.x2]) (.agg #[.int .i64 b.x0, .int .i64 b.x1, .int .i64 b.x2])).run Try.prog w = .ok (decide (a = b)) w := by
  obtain ⟨i, hi⟩ : ∃ i, Try.prog.info? 3 = some i := by
    have := (ty_3).size 
    cases hh : Try.prog.info? 3 with
    | some i => exact ⟨i, rfl⟩
    | none => have := this w; simp [sizeOf, typeInfo, hh] at this
  have hc : Try.prog.cellsOf 3 = 1 := by kernel_rfl
  have p : ∀ (cs : Array Value) (o : Nat) v, cs[o]? = some v → (Go.part 3 cs o).run Try.prog w = .ok v w := fun cs o v hv => part_leaf (ty_3).agg hv w
  rw [run_equalIn_array w (k + 1) _ _ Try.underlying38 hi, hc]
  have r3 : List.range 3 = [0, 1, 2] := rfl
  simp only [r3, Op.eqItems]
  obtain ⟨a0, a1, a2⟩ := a; obtain ⟨b0, b1, b2⟩ := b
  have hd : decide ((⟨a0, a1, a2⟩ : Vrs) = ⟨b0, b1, b2⟩) = ((a0 == b0) && ((a1 == b1) && (a2 == b2))) := by
    rw [Bool.eq_iff_iff]; simp
  rw [hd]
  cases h0 : (a0 == b0) <;> cases h1 : (a1 == b1) <;> cases h2 : (a2 == b2) <;> simp [p, run_equalIn_int w _ 3 .i64 .i64 _ _ Try.underlying3, h0, h1, h2]
theorem eqstp (a b : Stp) (w : World) : (Op.equalIn 10000 40 a.val b.val).run Try.prog w = .ok (decide (a = b)) w := by
  rw [show 10000 = 9997 + 1 + 1 + 1 from rfl, run_equalIn_struct w _ 40 _ _ (by simp only [Program.fieldsOf, Try.underlying40]) Try.stoodInHeld40]
  simp only [Program.fieldsOf, Try.underlying40, Op.eqFields]
  have p : ∀ (cs : Array Value) (o : Nat) v, cs[o]? = some v → (Go.part 3 cs o).run Try.prog w = .ok v w := fun cs o v hv => part_leaf (ty_3).agg hv w
  have q : ∀ (cs : Array Value) (o : Nat), (Go.part 38 cs o).run Try.prog w = .ok (.agg (cs.extract o (o + 3))) w := fun cs o => by
    simp [Go.part, (ty_38).agg w]
  have ea := eqarrN 9997 a.vars b.vars w
  obtain ⟨a0, ⟨a1, a2, a3⟩⟩ := a; obtain ⟨b0, ⟨b1, b2, b3⟩⟩ := b
  have hd : decide ((⟨a0, ⟨a1, a2, a3⟩⟩ : Stp) = ⟨b0, ⟨b1, b2, b3⟩⟩) = ((a0 == b0) && decide ((⟨a1, a2, a3⟩ : Vrs) = ⟨b1, b2, b3⟩)) := by
    rw [Bool.eq_iff_iff]; simp
  rw [hd]
  dsimp only at ea
  generalize decide ((⟨a1, a2, a3⟩ : Vrs) = ⟨b1, b2, b3⟩) = x at ea
  cases h0 : (a0 == b0) <;> cases x <;> simp [p, q, run_equalIn_int w _ 3 .i64 .i64 _ _ Try.underlying3, h0, ea]
/-! ### The roads -/
section
variable {p : Prg} {h : Heap} (hp : RoadsAt p h)
include hp
theorem rd_preds : p.preds.xs = roadsC.preds.xs := by have := congrArg (fun q : Prg => q.preds.xs) hp.er; exact this
theorem rd_len : p.rules.xs.length = 7 := by have := congrArg (fun q : Prg => q.rules.xs.length) hp.er; simpa [Prg.er, roadsC] using this
theorem rd_nm : p.Nm := by unfold Prg.Nm; rw [rd_preds hp]; decide
theorem rd_asked {n : Int} (h0 : 0 ≤ n) (h7 : n < 7) : askedOf p pathsC n = 0 :=
  askd_iff.2 ⟨by rw [← checkProg_er, hp.er, roads_check], checkFacts_ok.1 (by rw [rd_preds hp]; kernel_rfl), h0, by rw [rd_len hp]; exact h7⟩
theorem rd_none : askedOf p pathsC 7 = 7 := by
  unfold askedOf
  rw [if_neg (by rw [← checkProg_er, hp.er, roads_check]; decide), if_neg (by rw [rd_preds hp]; decide +kernel), if_pos (by rw [rd_len hp]; omega)]
theorem rd_rule {n : Int} (h0 : 0 ≤ n) (h7 : n < 7) : (ruleAt p n).er = ruleAt roadsC n := by rw [ruleAt_er p n (by rw [rd_len hp]; omega), hp.er]
theorem rd_holds {n : Int} (h0 : 0 ≤ n) (h7 : n < 7) {x : Vrs} (hx : vsB x = true) {y : Bool × Fct} (hy : holdsF roadsC.preds.xs pathsC (ruleAt roadsC n) x = y) : holdsOf p pathsC n x = (y.1, y.2, 0) := by
  unfold holdsOf
  rw [if_neg (by rw [rd_asked hp h0 h7]; decide), if_pos hx, ← holdsF_er, rd_rule hp h0 h7, rd_preds hp, hy]
theorem rd_range {n : Int} (h0 : 0 ≤ n) (h7 : n < 7) {x : Vrs} (hx : vsB x = false) : holdsOf p pathsC n x = (false, default, 3) := by
  unfold holdsOf
  rw [if_neg (by rw [rd_asked hp h0 h7]; decide), if_neg (by rw [hx]; decide)]
theorem rd_all {n : Int} (h0 : 0 ≤ n) (h7 : n < 7) {l : List Stp} (hl : stepsF pathsC n (ruleAt roadsC n) = l) : allOf p pathsC n = (l, 0) := by
  unfold allOf
  rw [if_neg (by rw [rd_asked hp h0 h7]; decide), ← stepsF_er, rd_rule hp h0 h7, hl]
theorem rd_allnone : allOf p pathsC 7 = ([], 7) := by
  unfold allOf
  rw [if_pos (by rw [rd_none hp]; decide), rd_none hp]
end
section
variable (B : Base) (hB : B.ok) (p : Prg) (hp : p.In B.h) (hnm : p.Nm) (f : Sl Fct) (hf : Fcts f B.h) (n : Int)
include hB hp hnm hf
theorem Holds_at (x : Vrs) (r : Bool × Fct × Int) (h : holdsOf p f.xs n x = r) : Fn Try.prog 7 [p.val, f.val, .int .i64 n, x.val] B (fun v _ => v = vHold r) := h ▸ Holds_ok B hB p hp hnm f hf n x
theorem All_at (r : List Stp × Int) (h : allOf p f.xs n = r) : Fn Try.prog 4 [p.val, f.val, .int .i64 n] B (AllR r) := h ▸ All_ok B hB p hp hnm f hf n
end
set_option maxHeartbeats 4000000 in
theorem fireBegun_ok (B : Base) (hB : B.ok) : Fn Try.prog 6 [] B (fun v _ => v = .bool true) := by
  refine Fn.of Try.func6 rfl Try.ntmps6 (by kernel_rfl) (by simp) ?_
  intro e
  have I := Inv.start hB
  refine WP.seq ?_
  refine WP.region ?_
  refine Ops.y (v := .bool _) (Y.assign rfl) ?_
  refine Ops.nil ?_
  refine WP.seq ?_
  refine WP.region ?_
  refine Ops.go (O.call I Try.call13 (roads_ok _ I.base_ok) rfl ?_)
  rintro _ h1 w I le1 ⟨p1, rfl, hp1⟩
  refine Ops.go (O.call I Try.call14 (paths_ok _ I.base_ok) rfl ?_)
  rintro _ h2 w I le2 ⟨s1, rfl, e1, i1⟩
  refine Ops.y (v := .agg #[.int .i64 _, .int .i64 _, .int .i64 _]) (Y.builda Try.underlying38 Try.zeroValue38 Try.sizeOf3 rfl rfl) ?_
  refine Ops.go (O.callv I Try.call7 (Holds_at _ I.base_ok p1 (hp1.is.le le2) (rd_nm hp1) s1 i1 5 ⟨0, 1, 2⟩ (true, ⟨1, 0, 2, 5⟩, 0) (by rw [e1]; exact rd_holds hp1 (by omega) (by omega) rfl (y := (true, ⟨1, 0, 2, 5⟩)) (by kernel_rfl))) rfl ?_)
  intro w I
  refine Ops.y (v := .tuple #[_, _, _]) (Y.move rfl) ?_
  refine Ops.y (v := .bool _) (Y.extract rfl rfl) ?_
  refine Ops.y (v := .agg #[_, _, _, _]) (Y.extract rfl rfl) ?_
  refine Ops.y (v := .int .i64 _) (Y.extract rfl rfl) ?_
  refine Ops.go (O.alloc I Try.zeroValue35 rfl ?_)
  intro b2 w I
  refine Ops.y (v := .bool _) (Y.assign rfl) ?_
  refine Ops.go (O.store (v := .agg #[_, _, _, _]) I ty_35 0 rfl rfl rfl rfl rfl rfl (Nat.le_of_ble_eq_true rfl) rfl ?_)
  intro w I
  refine Ops.y (v := .int .i64 _) (Y.assign rfl) ?_
  refine Ops.nil ?_
  refine WP.seq ?_
  refine WP.region ?_
  refine Ops.go (O.call I Try.call13 (roads_ok _ I.base_ok) rfl ?_)
  rintro _ h3 w I le3 ⟨p2, rfl, hp2⟩
  refine Ops.go (O.call I Try.call14 (paths_ok _ I.base_ok) rfl ?_)
  rintro _ h4 w I le4 ⟨s2, rfl, e2, i2⟩
  refine Ops.y (v := .agg #[.int .i64 _, .int .i64 _, .int .i64 _]) (Y.builda Try.underlying38 Try.zeroValue38 Try.sizeOf3 rfl rfl) ?_
  refine Ops.go (O.callv I Try.call7 (Holds_at _ I.base_ok p2 (hp2.is.le le4) (rd_nm hp2) s2 i2 5 ⟨1, 1, 2⟩ (false, ⟨0, 0, 0, 0⟩, 0) (by rw [e2]; exact rd_holds hp2 (by omega) (by omega) rfl (y := (false, ⟨0, 0, 0, 0⟩)) (by kernel_rfl))) rfl ?_)
  intro w I
  refine Ops.y (v := .tuple #[_, _, _]) (Y.move rfl) ?_
  refine Ops.y (v := .bool _) (Y.extract rfl rfl) ?_
  refine Ops.y (v := .agg #[_, _, _, _]) (Y.extract rfl rfl) ?_
  refine Ops.y (v := .int .i64 _) (Y.extract rfl rfl) ?_
  refine Ops.go (O.alloc I Try.zeroValue35 rfl ?_)
  intro b5 w I
  refine Ops.y (v := .bool _) (Y.assign rfl) ?_
  refine Ops.go (O.store (v := .agg #[_, _, _, _]) I ty_35 0 rfl rfl rfl rfl rfl rfl (Nat.le_of_ble_eq_true rfl) rfl ?_)
  intro w I
  refine Ops.y (v := .int .i64 _) (Y.assign rfl) ?_
  refine Ops.nil ?_
  refine WP.seq ?_
  refine WP.region ?_
  refine Ops.go (O.call I Try.call13 (roads_ok _ I.base_ok) rfl ?_)
  rintro _ h5 w I le5 ⟨p3, rfl, hp3⟩
  refine Ops.go (O.call I Try.call14 (paths_ok _ I.base_ok) rfl ?_)
  rintro _ h6 w I le6 ⟨s3, rfl, e3, i3⟩
  refine Ops.go (O.call I Try.call4 (All_at _ I.base_ok p3 (hp3.is.le le6) (rd_nm hp3) s3 i3 4 ([⟨4, ⟨0, 1, 0⟩⟩, ⟨4, ⟨1, 2, 0⟩⟩], 0) (by rw [e3]; exact rd_all hp3 (by omega) (by omega) (by kernel_rfl))) rfl ?_)
  rintro _ h7 w I le7 ⟨m3, rfl, em3, im3⟩
  refine Ops.y (v := .tuple #[_, _]) (Y.move rfl) ?_
  refine Ops.y (v := .slice _ _ _) (Y.extract rfl rfl) ?_
  refine Ops.y (v := .int .i64 _) (Y.extract rfl rfl) ?_
  refine Ops.y (v := .slice _ _ _) (Y.assign rfl) ?_
  refine Ops.y (v := .int .i64 _) (Y.assign rfl) ?_
  refine Ops.nil ?_
  refine WP.seq ?_
  refine WP.region ?_
  refine Ops.go (O.call I Try.call13 (roads_ok _ I.base_ok) rfl ?_)
  rintro _ h8 w I le8 ⟨p4, rfl, hp4⟩
  refine Ops.go (O.call I Try.call14 (paths_ok _ I.base_ok) rfl ?_)
  rintro _ h9 w I le9 ⟨s4, rfl, e4, i4⟩
  refine Ops.go (O.call I Try.call4 (All_at _ I.base_ok p4 (hp4.is.le le9) (rd_nm hp4) s4 i4 7 ([], 7) (by rw [e4]; exact rd_allnone hp4)) rfl ?_)
  rintro _ h10 w I le10 ⟨m4, rfl, em4, im4⟩
  refine Ops.y (v := .tuple #[_, _]) (Y.move rfl) ?_
  refine Ops.y (v := .slice _ _ _) (Y.extract rfl rfl) ?_
  refine Ops.y (v := .int .i64 _) (Y.extract rfl rfl) ?_
  refine Ops.y (v := .slice _ _ _) (Y.assign rfl) ?_
  refine Ops.y (v := .int .i64 _) (Y.assign rfl) ?_
  refine Ops.nil ?_
  refine WP.seq ?_
  refine WP.region ?_
  refine Ops.go (O.call I Try.call13 (roads_ok _ I.base_ok) rfl ?_)
  rintro _ h11 w I le11 ⟨p5, rfl, hp5⟩
  refine Ops.go (O.call I Try.call14 (paths_ok _ I.base_ok) rfl ?_)
  rintro _ h12 w I le12 ⟨s5, rfl, e5, i5⟩
  refine Ops.y (v := .agg #[.int .i64 _, .int .i64 _, .int .i64 _]) (Y.builda Try.underlying38 Try.zeroValue38 Try.sizeOf3 rfl rfl) ?_
  refine Ops.go (O.callv I Try.call7 (Holds_at _ I.base_ok p5 (hp5.is.le le12) (rd_nm hp5) s5 i5 5 ⟨5, 0, 0⟩ (false, ⟨0, 0, 0, 0⟩, 3) (by rw [e5]; exact rd_range hp5 (by omega) (by omega) rfl)) rfl ?_)
  intro w I
  refine Ops.y (v := .tuple #[_, _, _]) (Y.move rfl) ?_
  refine Ops.y (v := .bool _) (Y.extract rfl rfl) ?_
  refine Ops.y (v := .agg #[_, _, _, _]) (Y.extract rfl rfl) ?_
  refine Ops.y (v := .int .i64 _) (Y.extract rfl rfl) ?_
  refine Ops.go (O.alloc I Try.zeroValue35 rfl ?_)
  intro b12 w I
  refine Ops.y (v := .bool _) (Y.assign rfl) ?_
  refine Ops.go (O.store (v := .agg #[_, _, _, _]) I ty_35 0 rfl rfl rfl rfl rfl rfl (Nat.le_of_ble_eq_true rfl) rfl ?_)
  intro w I
  refine Ops.y (v := .int .i64 _) (Y.assign rfl) ?_
  refine Ops.nil ?_
  refine WP.seq ?_
  refine WP.region ?_
  refine Ops.go (O.call I Try.call13 (roads_ok _ I.base_ok) rfl ?_)
  rintro _ h13 w I le13 ⟨p6, rfl, hp6⟩
  refine Ops.go (O.call I Try.call14 (paths_ok _ I.base_ok) rfl ?_)
  rintro _ h14 w I le14 ⟨s6, rfl, e6, i6⟩
  refine Ops.go (O.call I Try.call4 (All_at _ I.base_ok p6 (hp6.is.le le14) (rd_nm hp6) s6 i6 6 ([⟨6, ⟨0, 1, 0⟩⟩, ⟨6, ⟨1, 2, 0⟩⟩], 0) (by rw [e6]; exact rd_all hp6 (by omega) (by omega) (by kernel_rfl))) rfl ?_)
  rintro _ h15 w I le15 ⟨m6, rfl, em6, im6⟩
  refine Ops.y (v := .tuple #[_, _]) (Y.move rfl) ?_
  refine Ops.y (v := .slice _ _ _) (Y.extract rfl rfl) ?_
  refine Ops.y (v := .int .i64 _) (Y.extract rfl rfl) ?_
  refine Ops.y (v := .slice _ _ _) (Y.assign rfl) ?_
  refine Ops.y (v := .int .i64 _) (Y.assign rfl) ?_
  refine Ops.nil ?_
  dsimp only at em3 em6
  have n3 : m3.xs.length = 2 := by rw [em3]; rfl
  have n6 : m6.xs.length = 2 := by rw [em6]; rfl
  have g3 : m3.xs[1]? = some ⟨4, ⟨1, 2, 0⟩⟩ := by rw [em3]; rfl
  have im3 := ((((((im3.le le8).le le9).le le10).le le11).le le12).le le13).le (le14.trans le15)
  have E3 := im3.el.el g3
  refine WP.seq ?_
  refine WP.region ?_
  refine Ops.y (v := .int .i64 _) (Y.move rfl) ?_
  refine Ops.y (v := .bool true) (Y.dec_t (Y.eqi rfl rfl) (rfl)) ?_
  refine Ops.y (v := .bool _) (Y.move rfl) ?_
  refine Ops.ygt rfl (v := .int .i64 _) (Y.move rfl) ?_
  refine Ops.ygt rfl (v := .bool true) (Y.dec_t (Y.eqi rfl rfl) (rfl)) ?_
  refine Ops.y (v := .bool _) (Y.pick_t rfl rfl) ?_
  refine Ops.y (v := .bool _) (Y.move rfl) ?_
  refine Ops.ygt rfl (v := .int .i64 _) (Y.move rfl) ?_
  refine Ops.ygt rfl (v := .bool true) (Y.dec_t (Y.eqi rfl rfl) (rfl)) ?_
  refine Ops.y (v := .bool _) (Y.pick_t rfl rfl) ?_
  refine Ops.y (v := .bool _) (Y.move rfl) ?_
  refine Ops.ygt rfl (v := .int .i64 _) (Y.move rfl) ?_
  refine Ops.ygt rfl (v := .bool true) (Y.dec_t (Y.eqi rfl rfl) (rfl)) ?_
  refine Ops.y (v := .bool _) (Y.pick_t rfl rfl) ?_
  refine Ops.y (v := .bool _) (Y.move rfl) ?_
  refine Ops.ygt rfl (v := .int .i64 _) (Y.move rfl) ?_
  refine Ops.ygt rfl (v := .bool true) (Y.dec_t (Y.eqi rfl rfl) (rfl)) ?_
  refine Ops.y (v := .bool _) (Y.pick_t rfl rfl) ?_
  refine Ops.y (v := .bool _) (Y.move rfl) ?_
  refine Ops.ygt rfl (v := .int .i64 _) (Y.move rfl) ?_
  refine Ops.ygt rfl (v := .bool true) (Y.dec_t (Y.eqi rfl rfl) (rfl)) ?_
  refine Ops.y (v := .bool _) (Y.pick_t rfl rfl) ?_
  refine Ops.y (v := .bool _) (Y.move rfl) ?_
  refine Ops.ygt rfl (v := .bool _) (Y.move rfl) ?_
  refine Ops.y (v := .bool _) (Y.pick_t rfl rfl) ?_
  refine Ops.y (v := .bool _) (Y.move rfl) ?_
  refine Ops.ygt rfl (v := .agg #[_, _, _, _]) (Y.loadv ty_35 rfl (I.rdbox 2 rfl 0 4) rfl rfl) ?_
  refine Ops.ygt rfl (v := .agg #[.int .i64 _, .int .i64 _, .int .i64 _, .int .i64 _]) (Y.build pl_35 Try.zeroValue35 rfl rfl) ?_
  refine Ops.ygt rfl (v := .bool true) (Y.b (Y.eqst Try.eqGuardType35 (eq_35 _ _ _ _ _ _ _ _) rfl rfl) (rfl)) ?_
  refine Ops.y (v := .bool _) (Y.pick_t rfl rfl) ?_
  refine Ops.y (v := .bool _) (Y.move rfl) ?_
  refine Ops.ygt rfl (v := .bool _) (Y.move rfl) ?_
  refine Ops.ygt rfl (v := .bool true) (Y.b (Y.not rfl) (rfl)) ?_
  refine Ops.y (v := .bool _) (Y.pick_t rfl rfl) ?_
  refine Ops.y (v := .bool _) (Y.move rfl) ?_
  refine Ops.ygt rfl (v := .agg #[_, _, _, _]) (Y.loadv ty_35 rfl (I.rdbox 1 rfl 0 4) rfl rfl) ?_
  refine Ops.ygt rfl (v := .agg #[.int .i64 _, .int .i64 _, .int .i64 _, .int .i64 _]) (Y.build pl_35 Try.zeroValue35 rfl rfl) ?_
  refine Ops.ygt rfl (v := .bool true) (Y.b (Y.eqst Try.eqGuardType35 (eq_35 _ _ _ _ _ _ _ _) rfl rfl) (rfl)) ?_
  refine Ops.y (v := .bool _) (Y.pick_t rfl rfl) ?_
  refine Ops.y (v := .bool _) (Y.move rfl) ?_
  refine Ops.ygt rfl (v := .slice _ _ _) (Y.move rfl) ?_
  refine Ops.ygt rfl (v := .int .i64 _) (Y.lens Try.underlying27 rfl) ?_
  refine Ops.ygt rfl (v := .bool true) (Y.dec_t (Y.eqi rfl rfl) ((by rw [n3]; rfl))) ?_
  refine Ops.y (v := .bool _) (Y.pick_t rfl rfl) ?_
  refine Ops.y (v := .bool _) (Y.move rfl) ?_
  refine Ops.ygt rfl (v := .slice _ _ _) (Y.move rfl) ?_
  refine Ops.ygt rfl (v := .pointer (some ⟨_, _, none⟩)) (Y.idxEl E3 Try.underlying27 Try.sizeOf40 rfl rfl (by decide) rfl) ?_
  refine Ops.ygt rfl (v := .agg #[_, _, _, _]) (Y.loadv ty_40 rfl (I.rd (E3.rd.part 0 4)) rfl rfl) ?_
  refine Ops.ygt rfl (v := .agg #[.int .i64 _, .int .i64 _, .int .i64 _]) (Y.builda Try.underlying38 Try.zeroValue38 Try.sizeOf3 rfl rfl) ?_
  refine Ops.ygt rfl (v := .agg #[.int .i64 _, .int .i64 _, .int .i64 _, .int .i64 _]) (Y.build pl_40 Try.zeroValue40 rfl rfl) ?_
  refine Ops.ygt rfl (v := .bool true) (Y.b (Y.eqst Try.eqGuardType40 (eqstp ⟨4, ⟨1, 2, 0⟩⟩ ⟨4, ⟨1, 2, 0⟩⟩) rfl rfl) (rfl)) ?_
  refine Ops.y (v := .bool _) (Y.pick_t rfl rfl) ?_
  refine Ops.y (v := .bool _) (Y.move rfl) ?_
  refine Ops.ygt rfl (v := .slice _ _ _) (Y.move rfl) ?_
  refine Ops.ygt rfl (v := .int .i64 _) (Y.lens Try.underlying27 rfl) ?_
  refine Ops.ygt rfl (v := .bool true) (Y.dec_t (Y.eqi rfl rfl) ((by rw [n6]; rfl))) ?_
  refine Ops.y (v := .bool _) (Y.pick_t rfl rfl) ?_
  refine Ops.y (v := .bool _) (Y.assign rfl) ?_
  refine Ops.nil ?_
  refine WP.ret ?_
  repeat (first | refine thenE_ret ?_ | refine blockE_ret ?_)
  exact retQ.mk (vs := [.bool _]) rfl ⟨rfl, trivial⟩ I.ext_of (rfl)
/-! ### No literal is not -/
def posR (r : Rul) : Bool := r.body.xs.all fun t => !t.neg
def posP (p : Prg) : Bool := p.rules.xs.all posR
set_option maxHeartbeats 4000000 in
theorem positive_ok (B : Base) (hB : B.ok) (p : Prg) (hp : p.In B.h) : Fn Try.prog 8 [p.val] B (fun v _ => v = .bool (posP p)) := by
  have hsr := hp.rules.is.small
  refine Fn.of Try.func8 rfl Try.ntmps8 (by kernel_rfl) (by simp) ?_
  intro e
  have I := Inv.start hB
  refine WP.seq ?_
  refine WP.region ?_
  refine Ops.go (O.box (v := .agg #[_, _]) I rfl rfl ?_)
  intro b1 w I
  refine Ops.y (v := .bool _) (Y.assign rfl) ?_
  refine Ops.nil ?_
  refine WP.seq ?_
  refine WP.seq ?_
  refine WP.region ?_
  refine Ops.y (v := .int .i64 _) (Y.assign rfl) ?_
  refine Ops.nil ?_
  refine WP.block ?_
  refine WP.loopE (σ := Nat) (fun k => [(1, .pointer (some ⟨b1, 0, none⟩)), (3, .int .i64 k)]) (fun k w => Inv B B.h [box b1 p.enc 25] w ∧ k ≤ p.rules.xs.length ∧ ∀ j, j < k → ∀ hj : j < p.rules.xs.length, posR p.rules.xs[j] = true) (fun k => p.rules.xs.length - k)
    ⟨0, ⟨rfl, rfl, trivial⟩, I, Nat.zero_le _, fun j hj => by omega⟩ ?_
  rintro k e w ⟨I, hk, hn⟩
  refine WP.seq ?_
  refine WP.seq ?_
  refine WP.region ?_
  refine Ops.y (v := .int .i64 _) (Y.move rfl) ?_
  refine Ops.y (v := .pointer (some ⟨_, _, none⟩)) (Y.fa fa_25_1 rfl) ?_
  refine Ops.y (v := .slice _ _ _) (Y.loadv ty_23 rfl (I.rdbox 0 rfl 1 1) rfl rfl) ?_
  refine Ops.y (v := .int .i64 _) (Y.lens Try.underlying23 rfl) ?_
  refine Ops.y (v := .bool (decide _)) (Y.lti rfl rfl) ?_
  refine Ops.nil ?_
  refine WP.cond_dec rfl (fun h2 => ?_) (fun h2 => ?_)
  · have hk' : k < p.rules.xs.length := by omega
    have E1 := hp.rules.is.at hk'
    have ib := (hp.rules.each _ (List.getElem_mem hk')).body
    have hsb := ib.is.small
    refine WP.skip ?_
    refine WP.seq ?_
    refine WP.block ?_
    refine WP.seq ?_
    refine WP.region ?_
    refine Ops.y (v := .int .i64 _) (Y.assign rfl) ?_
    refine Ops.nil ?_
    refine WP.block ?_
    refine WP.loopE (σ := Nat) (fun j => [(1, .pointer (some ⟨b1, 0, none⟩)), (3, .int .i64 k), (4, .int .i64 j)]) (fun j w => Inv B B.h [box b1 p.enc 25] w ∧ j ≤ p.rules.xs[k].body.xs.length ∧ ∀ i, i < j → ∀ hi : i < p.rules.xs[k].body.xs.length, p.rules.xs[k].body.xs[i].neg = false) (fun j => p.rules.xs[k].body.xs.length - j)
      ⟨0, ⟨rfl, rfl, rfl, trivial⟩, I, Nat.zero_le _, fun j hj => by omega⟩ ?_
    rintro j e w ⟨I, hj, hm⟩
    refine WP.seq ?_
    refine WP.seq ?_
    refine WP.region ?_
    refine Ops.y (v := .int .i64 _) (Y.move rfl) ?_
    refine Ops.y (v := .pointer (some ⟨_, _, none⟩)) (Y.fa fa_25_1 rfl) ?_
    refine Ops.y (v := .slice _ _ _) (Y.loadv ty_23 rfl (I.rdbox 0 rfl 1 1) rfl rfl) ?_
    refine Ops.y (v := .int .i64 _) (Y.move rfl) ?_
    refine Ops.y (v := .pointer (some ⟨_, _, none⟩)) (Y.idxEl E1 Try.underlying23 Try.sizeOf58 rfl rfl (Int.natCast_nonneg _) rfl) ?_
    refine Ops.y (v := .pointer (some ⟨_, _, none⟩)) (Y.fa fa_58_3 rfl) ?_
    refine Ops.y (v := .slice _ _ _) (Y.loadv ty_56 rfl (I.rd (E1.rd.part 4 1)) rfl rfl) ?_
    refine Ops.y (v := .int .i64 _) (Y.lens Try.underlying56 rfl) ?_
    refine Ops.y (v := .bool (decide _)) (Y.lti rfl rfl) ?_
    refine Ops.nil ?_
    refine WP.cond_dec rfl (fun h5 => ?_) (fun h5 => ?_)
    · have hj' : j < p.rules.xs[k].body.xs.length := by omega
      have E2 := ib.is.at hj'
      refine WP.skip ?_
      refine WP.seq ?_
      refine WP.block ?_
      refine WP.seq ?_
      refine WP.region ?_
      refine Ops.y (v := .pointer (some ⟨_, _, none⟩)) (Y.fa fa_25_1 rfl) ?_
      refine Ops.y (v := .slice _ _ _) (Y.loadv ty_23 rfl (I.rdbox 0 rfl 1 1) rfl rfl) ?_
      refine Ops.y (v := .int .i64 _) (Y.move rfl) ?_
      refine Ops.y (v := .pointer (some ⟨_, _, none⟩)) (Y.idxEl E1 Try.underlying23 Try.sizeOf58 rfl rfl (Int.natCast_nonneg _) rfl) ?_
      refine Ops.y (v := .pointer (some ⟨_, _, none⟩)) (Y.fa fa_58_3 rfl) ?_
      refine Ops.y (v := .slice _ _ _) (Y.loadv ty_56 rfl (I.rd (E1.rd.part 4 1)) rfl rfl) ?_
      refine Ops.y (v := .int .i64 _) (Y.move rfl) ?_
      refine Ops.y (v := .pointer (some ⟨_, _, none⟩)) (Y.idxEl E2 Try.underlying56 Try.sizeOf60 rfl rfl (Int.natCast_nonneg _) rfl) ?_
      refine Ops.y (v := .pointer (some ⟨_, _, none⟩)) (Y.fa0 fa_60_0 rfl) ?_
      refine Ops.y (v := .bool _) (Y.loadv ty_4 rfl (I.rd (E2.rd.part 0 1)) rfl rfl) ?_
      refine Ops.nil ?_
      refine WP.cond rfl (fun h7 => ?_) (fun h7 => ?_)
      · refine WP.seq ?_
        refine WP.region ?_
        refine Ops.y (v := .bool _) (Y.assign rfl) ?_
        refine Ops.nil ?_
        refine WP.ret ?_
        repeat (first | refine thenE_ret ?_ | refine blockE_ret ?_)
        exact retQ.mk (vs := [.bool _]) rfl ⟨rfl, trivial⟩ I.ext_of (by simp only [tup]; rw [show posP p = false from by unfold posP; rw [List.all_eq_false]; exact ⟨_, List.getElem_mem hk', by unfold posR; rw [Bool.not_eq_true, List.all_eq_false]; exact ⟨_, List.getElem_mem hj', by rw [h7]; decide⟩⟩])
      · refine WP.skip ?_
        refine WP.region ?_
        refine Ops.y (v := .int .i64 _) (Y.move rfl) ?_
        refine Ops.y (v := .int .i64 _) (Y.addi rfl rfl ⟨by omega, by omega⟩) ?_
        refine Ops.y (v := .int .i64 _) (Y.assign rfl) ?_
        refine Ops.nil ?_
        exact ⟨j + 1, ⟨⟨rfl, rfl, rfl, trivial⟩, I, by omega, fun i hi hi' => by
          rcases Nat.lt_succ_iff_lt_or_eq.1 hi with h' | rfl
          · exact hm i h' hi'
          · simpa using h7⟩, by omega⟩
    refine WP.exit ?_
    refine WP.region ?_
    refine Ops.y (v := .int .i64 _) (Y.move rfl) ?_
    refine Ops.y (v := .int .i64 _) (Y.addi rfl rfl ⟨by omega, by omega⟩) ?_
    refine Ops.y (v := .int .i64 _) (Y.assign rfl) ?_
    refine Ops.nil ?_
    exact ⟨k + 1, ⟨⟨rfl, rfl, trivial⟩, I, by omega, fun i hi hi' => by
      rcases Nat.lt_succ_iff_lt_or_eq.1 hi with h' | rfl
      · exact hn i h' hi'
      · unfold posR; rw [List.all_eq_true]; intro t ht; obtain ⟨q, hq, rfl⟩ := List.getElem_of_mem ht; rw [hm q (by omega) hq]; rfl⟩, by omega⟩
  refine WP.exit ?_
  refine WP.seq ?_
  refine WP.region ?_
  refine Ops.y (v := .bool _) (Y.assign rfl) ?_
  refine Ops.nil ?_
  refine WP.ret ?_
  repeat (first | refine thenE_ret ?_ | refine blockE_ret ?_)
  exact retQ.mk (vs := [.bool _]) rfl ⟨rfl, trivial⟩ I.ext_of (by simp only [tup]; rw [show posP p = true from by unfold posP; rw [List.all_eq_true]; intro r hr; obtain ⟨q, hq, rfl⟩ := List.getElem_of_mem hr; exact hn q (by omega) hq])
/-! ### What holds of less holds of more -/
theorem isF_up {l : List Prd} {f g : List Fct} (hu : underF l f g = true) {y : Fct} (h : isF f y = true) : isF g y = true := by
  unfold isF at *
  cases hl : lkF f (placeF y) with
  | none => rw [hl] at h; cases h
  | some v =>
    obtain ⟨z, hz, e, _⟩ := lkF_mem hl
    obtain ⟨u, h1, _⟩ := underF_iff.1 hu z hz
    rw [← e, h1]; rfl
theorem holdsB_up {l : List Prd} {f g : List Fct} {r : Rul} {x : Vrs} (hu : underF l f g = true) (hp : posR r = true) (h : holdsB f r x = true) : holdsB g r x = true := by
  unfold holdsB at *
  rw [List.all_eq_true] at *
  intro t ht
  have h1 := h t ht
  have h2 : t.neg = false := by have := List.all_eq_true.1 hp t ht; simpa using this
  unfold litOk at h1 ⊢
  rw [h2, decide_eq_true_eq] at h1
  rw [h2, decide_eq_true_eq]
  have := isF_up hu (y := groundF t.atom x) (by simpa using h1)
  rw [this]; decide
theorem lkF_sing (x y : Fct) (h : placeF x = placeF y) : lkF [y] (placeF x) = some y.v := by
  unfold lkF; simp [h]
theorem headV_le {l : List Prd} {f g : List Fct} {r : Rul} {x : Vrs} (ok : ROk l r) (okf : FOk l f) (okg : FOk l g) (hx : VsOk x) (hu : underF l f g = true) (h : holdsB f r x = true) : LeV (predOf l r.head.pred).kind (headV l f r x) (headV l g r x) := by
  have ha := aok_of ok.preds ok.head
  have hk := ok.preds _ (predOf_mem ha.pred)
  simp only [predFine, decide_eq_true_eq] at hk
  have hrn : VOk (predOf l r.head.pred).kind r.n := by
    rw [vOk_iff]; exact ⟨hk.2.2.1, hk.2.2.2, ok.n.1, ok.n.2, fun h => (ok.plain h).2⟩
  unfold headV
  by_cases h0 : 0 ≤ r.src
  · rw [if_pos h0, if_pos h0]
    have hm := litOf_mem ⟨h0, ok.src.2⟩
    obtain ⟨hn, hkd⟩ := ok.pos h0
    have hl := List.all_eq_true.1 h _ hm
    have hb := aok_of ok.preds (ok.body _ hm)
    have pf := hb.pf ok.five hx 0
    unfold litOk at hl
    rw [hn, decide_eq_true_eq] at hl
    have hs : isF f (groundF (litOf r r.src).atom x) = true := by simpa using hl
    unfold isF at hs
    cases hlk : lkF f (placeF (groundF (litOf r r.src).atom x)) with
    | none => rw [hlk] at hs; cases hs
    | some v =>
      obtain ⟨y, hy, e, rfl⟩ := lkF_mem hlk
      have hyf := okf.fine y hy
      have hyp := ((fine_pf ok.five hyf).inj pf e).1
      have hv := fine_v hyf
      obtain ⟨u, hu1, hu2⟩ := underF_iff.1 hu y hy
      obtain ⟨z, hz, ez, rfl⟩ := lkF_mem hu1
      have hzf := okg.fine z hz
      have hzp := ((fine_pf ok.five hzf).inj (fine_pf ok.five hyf) ez).1
      have hv2 := fine_v hzf
      rw [show z.pred = y.pred from hzp] at hv2
      rw [show y.pred = (litOf r r.src).atom.pred from hyp, hkd] at hv hv2 hu2
      rw [e] at hu1
      rw [hu1]
      exact leV_lift hv hv2 hrn hu2
  · rw [if_neg h0, if_neg h0]
    exact joinV_idem hrn
theorem head_under {l : List Prd} {f g : List Fct} {r : Rul} {x : Vrs} (ok : ROk l r) (okf : FOk l f) (okg : FOk l g) (hx : VsOk x) (hu : underF l f g = true) (hp : posR r = true) (h : holdsB f r x = true) : underOf l [headF l f r x] [headF l g r x] = (true, 0) := by
  have h1 := headF_fine ok okf hx h
  have h2 := headF_fine ok okg hx (holdsB_up hu hp h)
  rw [underOf_of (fok_one ok.five ok.preds h1) (fok_one ok.five ok.preds h2)]
  rw [underF_iff.2 fun y hy => ?_]
  rw [List.mem_singleton.1 hy]
  exact ⟨_, lkF_sing _ _ rfl, headV_le ok okf okg hx hu h⟩
end Go.TF
end
section
/- Arguments as they come in: what is read as data lies in memory as located data. -/
namespace Go.TF
open Go Go.RowKit Go.Proofs Go.Deep

def memH (W : World) : Heap := fun b => W.heap[b]?
theorem memH_cell {W : World} {b o : Nat} {v : Value} (h : W.cell? ⟨b, o, none⟩ = some v) : (memH W).cell b o = some v := by
  unfold World.cell? at h
  unfold Heap.cell memH
  split at h
  · rename_i c t f hb; rw [hb]; simpa using h
  · cases h
def Opens (P : Program) (T : TypeId) {α : Type} (enc : α → List Value) (In : α → Heap → Prop) : Prop :=
  ∀ (H : Type) (en : TypeId × Value → H) (W : World) (fuel : Nat) (cs : List Value) (x : DataW H × List MemPlace), DataW.trod en P W 0 (fun _ => true) true fuel T cs = some x → (∀ n ∈ x.1.weights P T, n ≤ reachBytes) → ∃ y : α, cs = enc y ∧ In y (memH W)
/-- A slice, its elements, and that there are not too many. -/
structure Sl.Ok {α : Type} (s : Sl α) (k b : Nat) (enc : α → List Value) (In : α → Heap → Prop) (h : Heap) : Prop where
  is : s.Is k enc h
  each : ∀ x ∈ s.xs, In x h
  cap : s.xs.length ≤ s.cap
  size : s.cap * b ≤ reachBytes
section
variable {P : Program} {T : TypeId}
theorem i64_of_wf {n : Int} (hw : (Lit.int .i64 n).wf = true) : I64 n := by
  simp only [Lit.wf, Bool.and_eq_true, decide_eq_true_eq] at hw
  have h1 : IntKind.i64.min = -9223372036854775808 := rfl
  have h2 : IntKind.i64.max = 9223372036854775807 := rfl
  exact ⟨by omega, by omega⟩
theorem op_int (hT : P.underlying T = some (.int .i64)) : Opens P T (fun n : Int => [.int .i64 n]) (fun n _ => I64 n) := fun H en W fuel cs x h _ => by
  obtain ⟨n, rfl, _, hw⟩ := DataW.trod_int hT h
  refine ⟨n, rfl, ?_⟩
  simp only [Lit.wf, Bool.and_eq_true, decide_eq_true_eq] at hw
  have h1 : IntKind.i64.min = -9223372036854775808 := rfl
  have h2 : IntKind.i64.max = 9223372036854775807 := rfl
  exact ⟨by omega, by omega⟩
theorem op_bool (hT : P.underlying T = some .bool) : Opens P T (fun n : Bool => [.bool n]) (fun _ _ => True) := fun H en W fuel cs x h _ => by
  obtain ⟨n, rfl, _⟩ := DataW.trod_bool hT h
  exact ⟨n, rfl, trivial⟩
theorem op_string (hT : P.underlying T = some .string) : Opens P T (fun n : ByteArray => [.string n]) (fun s _ => s.size ≤ reachBytes) := fun H en W fuel cs x h hw => by
  obtain ⟨n, rfl, rfl, _⟩ := DataW.trod_string hT h
  refine ⟨n, rfl, ?_⟩
  have := hw n.data.toList.length (by simp [DataW.weights])
  simpa using this
theorem weightsAll_mem {H : Type} {e : TypeId} : ∀ {l : List (DataW H)} {d : DataW H}, d ∈ l → ∀ n ∈ d.weights P e, n ∈ DataW.weightsAll P e l
  | x :: l, d, hd, n, hn => by
    simp only [DataW.weightsAll]
    rcases List.mem_cons.1 hd with rfl | hd
    · exact List.mem_append_left _ hn
    · exact List.mem_append_right _ (weightsAll_mem hd n hn)
theorem op_slice {e k b : Nat} {α : Type} {enc : α → List Value} {In : α → Heap → Prop} (hT : P.underlying T = some (.slice e)) (hk : P.cellsOf e = k) (hb : P.bytesOf e = b) (hb0 : 0 < b) (hk0 : 0 < k) (he : Opens P e enc In) :
    Opens P T (fun s : Sl α => [s.val]) (fun s h => s.Ok k b enc In h) := fun H en W fuel cs x h hw => by
  rcases open_slice hT h with ⟨rfl, rfl⟩ | ⟨a, len, cap, m, n, D, Pl, rfl, _, hl, _, hmm, rfl, hall⟩
  · exact ⟨⟨none, 0, []⟩, rfl, ⟨⟨fun i x hx => by simp at hx, by simp⟩, fun x hx => by simp at hx, by simp, by simp [reachBytes]⟩⟩
  · simp only [if_true] at hmm
    subst hmm
    have hel : ∀ i, i < len → ∃ (y : α), W.cells? 0 (a.add (i * k)) k = some (enc y) ∧ In y (memH W) := fun i hi => by
      obtain ⟨cs', h1, h2⟩ := hall i (by omega)
      obtain ⟨y, rfl, hy⟩ := he H en W n cs' _ h2 fun q hq => hw q (by
        simp only [DataW.weights, hT]
        refine List.mem_cons_of_mem _ (List.mem_append_left _ (weightsAll_mem (d := D i) (List.mem_map.2 ⟨i, List.mem_range.2 hi, rfl⟩) q hq)))
      rw [hk] at h1
      exact ⟨y, h1, hy⟩
    have hsz : m * b ≤ reachBytes := by
      have := hw ((len + (m - len)) * b) (by simp [DataW.weights, hT, hb])
      rwa [show len + (m - len) = m by omega] at this
    have hm47 : m ≤ 140737488355328 := by
      have h1 : m ≤ m * b := Nat.le_mul_of_pos_right m hb0
      have h2 : reachBytes ≤ 140737488355328 := by decide
      omega
    have key : ∃ xs : List α, xs.length = len ∧ ∀ i y, xs[i]? = some y → W.cells? 0 (a.add (i * k)) k = some (enc y) ∧ In y (memH W) := by
      have : ∀ l, l ≤ len → ∃ xs : List α, xs.length = l ∧ ∀ i y, xs[i]? = some y → W.cells? 0 (a.add (i * k)) k = some (enc y) ∧ In y (memH W) := by
        intro l
        induction l with
        | zero => intro _; exact ⟨[], rfl, fun i y hy => by simp at hy⟩
        | succ l ih =>
          intro hl'
          obtain ⟨xs, h1, h2⟩ := ih (by omega)
          obtain ⟨y, h3⟩ := hel l (by omega)
          refine ⟨xs ++ [y], by simp [h1], fun i z hz => ?_⟩
          rw [List.getElem?_append] at hz
          split at hz
          · exact h2 i z hz
          · have : i = l := by
              have := (List.getElem?_eq_some_iff.1 hz).1
              simp at this; omega
            subst this
            simp [h1] at hz
            subst hz; exact h3
      exact this len (Nat.le_refl _)
    obtain ⟨xs, hxs, hx⟩ := key
    obtain ⟨ab, ao, spot⟩ := a
    have hspot : 0 < len → spot = none := fun h0 => by
      obtain ⟨y, h1, _⟩ := hel 0 h0
      obtain ⟨_, hlen, hc⟩ := World.cells?_some h1
      have hc0 := hc 0 hk0
      have : ∃ v, (enc y)[0]? = some v := ⟨(enc y)[0]'(by omega), by simp⟩
      obtain ⟨v, hv⟩ := this
      rw [hv] at hc0
      have := World.cell?_spot hc0
      simpa [Addr.add] using this
    refine ⟨⟨some ⟨ab, ao, spot⟩, m, xs⟩, by simp [Sl.val, hxs], ⟨⟨fun i y hy => ?_, by simp only [hxs]; omega⟩, fun y hy => ?_, by simp only [hxs]; omega, hsz⟩⟩
    · have hi : i < xs.length := (List.getElem?_eq_some_iff.1 hy).1
      have hs := hspot (by omega)
      subst hs
      refine ⟨rfl, fun j v hj => ?_⟩
      obtain ⟨_, hlen, hc⟩ := World.cells?_some (hx i y hy).1
      have hjk : j < k := by have := (List.getElem?_eq_some_iff.1 hj).1; omega
      have := hc j hjk
      rw [hj, addr_add, addr_add] at this
      exact memH_cell this
    · obtain ⟨i, hi, rfl⟩ := List.getElem_of_mem hy
      exact (hx i xs[i] (List.getElem?_eq_getElem hi)).2
theorem op_field {fs : Array Field} {H : Type} {en : TypeId × Value → H} {W : World} {fuel : Nat} {cs : List Value} {x : DataW H × List MemPlace} (hT : P.underlying T = some (.struct fs)) (h : DataW.trod en P W 0 (fun _ => true) true fuel T cs = some x) (hw : ∀ n ∈ x.1.weights P T, n ≤ reachBytes)
    {α : Type} {enc : α → List Value} {In : α → Heap → Prop} (i : Nat) {f : Field} (hf : fs[i]? = some f) {k : Nat} (hk : P.cellsOf f.type = k) (he : Opens P f.type enc In) : ∃ y : α, (cs.drop f.offset).take k = enc y ∧ In y (memH W) := by
  subst hk
  obtain ⟨xs, n, _, rfl, _, hlen, hfs⟩ := DataW.trod_struct hT h
  have hi : i < xs.length := by rw [hlen]; exact (Array.getElem?_eq_some_iff.1 hf).1
  have h1 := hfs i f hf
  rw [List.getElem?_eq_getElem hi] at h1
  refine he H en W n _ xs[i] h1 fun q hq => hw q ?_
  simp only [DataW.weights, hT]
  exact DataW.weights_mem_each (j := i) (t := f.type) (d := xs[i].1) (by simp [hf]) (by simp [hi]) q hq
theorem op_len {fs : Array Field} {H : Type} {en : TypeId × Value → H} {W : World} {fuel : Nat} {cs : List Value} {x : DataW H × List MemPlace} (hT : P.underlying T = some (.struct fs)) (h : DataW.trod en P W 0 (fun _ => true) true fuel T cs = some x) : cs.length = P.cellsOf T := by
  obtain ⟨xs, n, _, rfl, hl, _, _⟩ := DataW.trod_struct hT h
  exact hl
theorem op_arr {e n k : Nat} {H : Type} {en : TypeId × Value → H} {W : World} {fuel : Nat} {cs : List Value} {x : DataW H × List MemPlace} (hT : P.underlying T = some (.array n e)) (hk : P.cellsOf e = k) (h : DataW.trod en P W 0 (fun _ => true) true fuel T cs = some x) (hw : ∀ n ∈ x.1.weights P T, n ≤ reachBytes)
    {α : Type} {enc : α → List Value} {In : α → Heap → Prop} (he : Opens P e enc In) : cs.length = P.cellsOf T ∧ ∀ i, i < n → ∃ y : α, (cs.drop (i * k)).take k = enc y ∧ In y (memH W) := by
  cases fuel with
  | zero => simp [DataW.trod] at h
  | succ f =>
    have h2 : cs.length = P.cellsOf T ∧ ∃ xs, (List.range n).mapM (fun i => DataW.trod en P W 0 (fun _ => true) true f e ((cs.drop (i * k)).take k)) = some xs ∧ x = (.agg (xs.map (·.1)), xs.flatMap (·.2)) := by
      clear hw he
      simp only [DataW.trod, hT, hk] at h
      by_cases hl : cs.length = P.cellsOf T
      · rw [if_pos hl, Option.map_eq_some_iff] at h
        obtain ⟨xs, hp, hd⟩ := h
        exact ⟨hl, xs, hp, hd.symm⟩
      · rw [if_neg hl] at h; cases h
    obtain ⟨hl, xs, hp, rfl⟩ := h2
    refine ⟨hl, fun i hi => ?_⟩
    have hlen := mapM_some_length hp
    simp at hlen
    have h1 := mapM_some_get hp i i (by simp [hi])
    rw [List.getElem?_eq_getElem (by omega)] at h1
    refine he H en W f _ _ h1 fun q hq => ?_
    refine hw q ?_
    simp only [DataW.weights, hT]
    exact weightsAll_mem (d := (xs[i]'(by omega)).1) (List.mem_map.2 ⟨_, List.getElem_mem _, rfl⟩) q hq
/-- From the argument's cells to its value. -/
theorem val_slice {W : World} {r : Go.Reach} {b0 e : Nat} {v w : Value} (hT : P.underlying T = some (.slice e)) (hval : Value.okWide P W r b0 T v) (hc : v.cells.toList = [w]) : v = w := by
  unfold Value.okWide at hval
  rw [hT] at hval
  simp only at hval
  cases v <;> simp_all [Value.cells, Cell.okWide, Cell.ok]
theorem val_struct {W : World} {r : Go.Reach} {b0 : Nat} {fs : Array Field} {v : Value} {cs : List Value} (hT : P.underlying T = some (.struct fs)) (hval : Value.okWide P W r b0 T v) (hc : v.cells.toList = cs) : v = .agg cs.toArray := by
  unfold Value.okWide at hval
  rw [hT] at hval
  obtain ⟨cs', rfl, _⟩ := hval
  subst hc; simp [Value.cells]
theorem val_array {W : World} {r : Go.Reach} {b0 n e : Nat} {v : Value} {cs : List Value} (hT : P.underlying T = some (.array n e)) (hval : Value.okWide P W r b0 T v) (hc : v.cells.toList = cs) : v = .agg cs.toArray := by
  unfold Value.okWide at hval
  rw [hT] at hval
  obtain ⟨cs', rfl, _⟩ := hval
  subst hc; simp [Value.cells]
theorem weights_of {H : Type} {ts : List TypeId} {ds : List (DataW H)} (hz : (DataW.weightsEach P ts ds).all (· ≤ reachBytes) = true) (j : Nat) {t : TypeId} {d : DataW H} (ht : ts[j]? = some t) (hd : ds[j]? = some d) : ∀ n ∈ d.weights P t, n ≤ reachBytes := fun n hn => by
  have := List.all_eq_true.1 hz n (DataW.weights_mem_each ht hd n hn)
  simpa using this
end
theorem len47 {s : ByteArray} (h : s.data.toList.length ≤ reachBytes) : s.size ≤ 140737488355328 := by
  have h2 : reachBytes ≤ 140737488355328 := by decide
  have h3 : s.data.toList.length = s.size := by simp
  omega
theorem open_of {P : Program} {T : TypeId} {α : Type} {enc : α → List Value} {In : α → Heap → Prop} {H : Type} {en : TypeId × Value → H} {W : World} {v : Value} {d : DataW H} {ps : List MemPlace} (he : Opens P T enc In) (hd : DataW.Trod en P W 0 (fun _ => true) true T v d ps) (hw : ∀ n ∈ d.weights P T, n ≤ reachBytes) :
    ∃ y : α, v.cells.toList = enc y ∧ In y (memH W) := by
  obtain ⟨fuel, h⟩ := hd
  exact he H en W fuel _ _ h hw

/-! ### This program's types -/
theorem len2 {cs : List Value} (h : cs.length = 2) : ∃ c0 c1, cs = [c0, c1] := by
  match cs, h with
  | [c0, c1], _ => exact ⟨c0, c1, rfl⟩
theorem len3 {cs : List Value} (h : cs.length = 3) : ∃ c0 c1 c2, cs = [c0, c1, c2] := by
  match cs, h with
  | [c0, c1, c2], _ => exact ⟨c0, c1, c2, rfl⟩
theorem len4 {cs : List Value} (h : cs.length = 4) : ∃ c0 c1 c2 c3, cs = [c0, c1, c2, c3] := by
  match cs, h with
  | [c0, c1, c2, c3], _ => exact ⟨c0, c1, c2, c3, rfl⟩
theorem len5 {cs : List Value} (h : cs.length = 5) : ∃ c0 c1 c2 c3 c4, cs = [c0, c1, c2, c3, c4] := by
  match cs, h with
  | [c0, c1, c2, c3, c4], _ => exact ⟨c0, c1, c2, c3, c4, rfl⟩
def TrmOk (t : Trm) (_ : Heap) : Prop := I64 t.n
structure PrdOk (p : Prd) (_ : Heap) : Prop where
  name : p.name.size ≤ reachBytes
  arity : I64 p.arity
  kind : I64 p.kind
structure AtmOk (a : Atm) (h : Heap) : Prop where
  pred : I64 a.pred
  args : a.args.Ok 2 16 Trm.enc TrmOk h
def LtlOk (x : Ltl) (h : Heap) : Prop := AtmOk x.atom h
structure RulOk (r : Rul) (h : Heap) : Prop where
  head : AtmOk r.head h
  src : I64 r.src
  n : I64 r.n
  body : r.body.Ok 3 40 Ltl.enc LtlOk h
structure PrgOk (p : Prg) (h : Heap) : Prop where
  preds : p.preds.Ok 3 32 Prd.enc PrdOk h
  rules : p.rules.Ok 5 72 Rul.enc RulOk h
structure FctOk (x : Fct) (_ : Heap) : Prop where
  pred : I64 x.pred
  a : I64 x.a
  b : I64 x.b
  v : I64 x.v
structure VrsOk (x : Vrs) (_ : Heap) : Prop where
  x0 : I64 x.x0
  x1 : I64 x.x1
  x2 : I64 x.x2
structure StpOk (x : Stp) (h : Heap) : Prop where
  rule : I64 x.rule
  vars : VrsOk x.vars h
theorem AtmOk.in_ {a : Atm} {h : Heap} (x : AtmOk a h) : a.In h := x.args.is
theorem RulOk.in_ {r : Rul} {h : Heap} (x : RulOk r h) : r.In h := ⟨x.head.in_, x.body.is, fun y hy => AtmOk.in_ (x.body.each y hy)⟩
theorem PrgOk.in_ {p : Prg} {h : Heap} (x : PrgOk p h) : p.In h := ⟨x.preds.is, x.rules.is, fun y hy => (x.rules.each y hy).in_⟩
theorem op_Trm : Opens Try.prog 89 Trm.enc TrmOk := fun H en W fuel cs x h hw => by
  have hl := op_len Try.underlying89 h
  rw [show Try.prog.cellsOf 89 = 2 by kernel_rfl] at hl
  obtain ⟨y0, e0, g0⟩ := op_field Try.underlying89 h hw 0 rfl (k := 1) (by kernel_rfl) (op_bool Try.underlying4)
  obtain ⟨y1, e1, g1⟩ := op_field Try.underlying89 h hw 1 rfl (k := 1) (by kernel_rfl) (op_int Try.underlying3)
  obtain ⟨c0, c1, rfl⟩ := len2 hl
  replace e0 : [c0] = _ := e0
  replace e1 : [c1] = _ := e1
  simp only [List.cons.injEq, and_true] at e0 e1
  exact ⟨⟨y0, y1⟩, by simp [*], g1⟩
theorem op_SlTrm : Opens Try.prog 53 (fun s : Sl Trm => [s.val]) (fun s h => s.Ok 2 16 Trm.enc TrmOk h) := op_slice Try.underlying53 (by kernel_rfl) (by kernel_rfl) (by decide) (by decide) op_Trm
theorem op_Prd : Opens Try.prog 78 Prd.enc PrdOk := fun H en W fuel cs x h hw => by
  have hl := op_len Try.underlying78 h
  rw [show Try.prog.cellsOf 78 = 3 by kernel_rfl] at hl
  obtain ⟨y0, e0, g0⟩ := op_field Try.underlying78 h hw 0 rfl (k := 1) (by kernel_rfl) (op_string Try.underlying9)
  obtain ⟨y1, e1, g1⟩ := op_field Try.underlying78 h hw 1 rfl (k := 1) (by kernel_rfl) (op_int Try.underlying3)
  obtain ⟨y2, e2, g2⟩ := op_field Try.underlying78 h hw 2 rfl (k := 1) (by kernel_rfl) (op_int Try.underlying3)
  obtain ⟨c0, c1, c2, rfl⟩ := len3 hl
  replace e0 : [c0] = _ := e0
  replace e1 : [c1] = _ := e1
  replace e2 : [c2] = _ := e2
  simp only [List.cons.injEq, and_true] at e0 e1 e2
  exact ⟨⟨y0, y1, y2⟩, by simp [*], ⟨g0, g1, g2⟩⟩
theorem op_SlPrd : Opens Try.prog 22 (fun s : Sl Prd => [s.val]) (fun s h => s.Ok 3 32 Prd.enc PrdOk h) := op_slice Try.underlying22 (by kernel_rfl) (by kernel_rfl) (by decide) (by decide) op_Prd
theorem op_Atm : Opens Try.prog 55 Atm.enc AtmOk := fun H en W fuel cs x h hw => by
  have hl := op_len Try.underlying55 h
  rw [show Try.prog.cellsOf 55 = 2 by kernel_rfl] at hl
  obtain ⟨y0, e0, g0⟩ := op_field Try.underlying55 h hw 0 rfl (k := 1) (by kernel_rfl) (op_int Try.underlying3)
  obtain ⟨y1, e1, g1⟩ := op_field Try.underlying55 h hw 1 rfl (k := 1) (by kernel_rfl) (op_SlTrm)
  obtain ⟨c0, c1, rfl⟩ := len2 hl
  replace e0 : [c0] = _ := e0
  replace e1 : [c1] = _ := e1
  simp only [List.cons.injEq, and_true] at e0 e1
  exact ⟨⟨y0, y1⟩, by simp [*], ⟨g0, g1⟩⟩
theorem op_Ltl : Opens Try.prog 60 Ltl.enc LtlOk := fun H en W fuel cs x h hw => by
  have hl := op_len Try.underlying60 h
  rw [show Try.prog.cellsOf 60 = 3 by kernel_rfl] at hl
  obtain ⟨y0, e0, g0⟩ := op_field Try.underlying60 h hw 0 rfl (k := 1) (by kernel_rfl) (op_bool Try.underlying4)
  obtain ⟨y1, e1, g1⟩ := op_field Try.underlying60 h hw 1 rfl (k := 2) (by kernel_rfl) (op_Atm)
  obtain ⟨c0, c1, c2, rfl⟩ := len3 hl
  replace e0 : [c0] = _ := e0
  replace e1 : [c1, c2] = _ := e1
  simp only [List.cons.injEq, and_true] at e0 e1
  exact ⟨⟨y0, y1⟩, by simp [*], g1⟩
theorem op_SlLtl : Opens Try.prog 56 (fun s : Sl Ltl => [s.val]) (fun s h => s.Ok 3 40 Ltl.enc LtlOk h) := op_slice Try.underlying56 (by kernel_rfl) (by kernel_rfl) (by decide) (by decide) op_Ltl
theorem op_Rul : Opens Try.prog 58 Rul.enc RulOk := fun H en W fuel cs x h hw => by
  have hl := op_len Try.underlying58 h
  rw [show Try.prog.cellsOf 58 = 5 by kernel_rfl] at hl
  obtain ⟨y0, e0, g0⟩ := op_field Try.underlying58 h hw 0 rfl (k := 2) (by kernel_rfl) (op_Atm)
  obtain ⟨y1, e1, g1⟩ := op_field Try.underlying58 h hw 1 rfl (k := 1) (by kernel_rfl) (op_int Try.underlying3)
  obtain ⟨y2, e2, g2⟩ := op_field Try.underlying58 h hw 2 rfl (k := 1) (by kernel_rfl) (op_int Try.underlying3)
  obtain ⟨y3, e3, g3⟩ := op_field Try.underlying58 h hw 3 rfl (k := 1) (by kernel_rfl) (op_SlLtl)
  obtain ⟨c0, c1, c2, c3, c4, rfl⟩ := len5 hl
  replace e0 : [c0, c1] = _ := e0
  replace e1 : [c2] = _ := e1
  replace e2 : [c3] = _ := e2
  replace e3 : [c4] = _ := e3
  simp only [List.cons.injEq, and_true] at e0 e1 e2 e3
  exact ⟨⟨y0, y1, y2, y3⟩, by simp [*], ⟨g0, g1, g2, g3⟩⟩
theorem op_SlRul : Opens Try.prog 23 (fun s : Sl Rul => [s.val]) (fun s h => s.Ok 5 72 Rul.enc RulOk h) := op_slice Try.underlying23 (by kernel_rfl) (by kernel_rfl) (by decide) (by decide) op_Rul
theorem op_Prg : Opens Try.prog 25 Prg.enc PrgOk := fun H en W fuel cs x h hw => by
  have hl := op_len Try.underlying25 h
  rw [show Try.prog.cellsOf 25 = 2 by kernel_rfl] at hl
  obtain ⟨y0, e0, g0⟩ := op_field Try.underlying25 h hw 0 rfl (k := 1) (by kernel_rfl) (op_SlPrd)
  obtain ⟨y1, e1, g1⟩ := op_field Try.underlying25 h hw 1 rfl (k := 1) (by kernel_rfl) (op_SlRul)
  obtain ⟨c0, c1, rfl⟩ := len2 hl
  replace e0 : [c0] = _ := e0
  replace e1 : [c1] = _ := e1
  simp only [List.cons.injEq, and_true] at e0 e1
  exact ⟨⟨y0, y1⟩, by simp [*], ⟨g0, g1⟩⟩
theorem op_Fct : Opens Try.prog 35 Fct.enc FctOk := fun H en W fuel cs x h hw => by
  have hl := op_len Try.underlying35 h
  rw [show Try.prog.cellsOf 35 = 4 by kernel_rfl] at hl
  obtain ⟨y0, e0, g0⟩ := op_field Try.underlying35 h hw 0 rfl (k := 1) (by kernel_rfl) (op_int Try.underlying3)
  obtain ⟨y1, e1, g1⟩ := op_field Try.underlying35 h hw 1 rfl (k := 1) (by kernel_rfl) (op_int Try.underlying3)
  obtain ⟨y2, e2, g2⟩ := op_field Try.underlying35 h hw 2 rfl (k := 1) (by kernel_rfl) (op_int Try.underlying3)
  obtain ⟨y3, e3, g3⟩ := op_field Try.underlying35 h hw 3 rfl (k := 1) (by kernel_rfl) (op_int Try.underlying3)
  obtain ⟨c0, c1, c2, c3, rfl⟩ := len4 hl
  replace e0 : [c0] = _ := e0
  replace e1 : [c1] = _ := e1
  replace e2 : [c2] = _ := e2
  replace e3 : [c3] = _ := e3
  simp only [List.cons.injEq, and_true] at e0 e1 e2 e3
  exact ⟨⟨y0, y1, y2, y3⟩, by simp [*], ⟨g0, g1, g2, g3⟩⟩
theorem op_SlFct : Opens Try.prog 26 (fun s : Sl Fct => [s.val]) (fun s h => s.Ok 4 32 Fct.enc FctOk h) := op_slice Try.underlying26 (by kernel_rfl) (by kernel_rfl) (by decide) (by decide) op_Fct
theorem op_Vrs : Opens Try.prog 38 Vrs.enc VrsOk := fun H en W fuel cs x h hw => by
  obtain ⟨hl, hf⟩ := op_arr (k := 1) Try.underlying38 (by kernel_rfl) h hw (op_int Try.underlying3)
  rw [show Try.prog.cellsOf 38 = 3 by kernel_rfl] at hl
  obtain ⟨y0, e0, g0⟩ := hf 0 (by decide)
  obtain ⟨y1, e1, g1⟩ := hf 1 (by decide)
  obtain ⟨y2, e2, g2⟩ := hf 2 (by decide)
  obtain ⟨c0, c1, c2, rfl⟩ := len3 hl
  replace e0 : [c0] = _ := e0
  replace e1 : [c1] = _ := e1
  replace e2 : [c2] = _ := e2
  simp only [List.cons.injEq, and_true] at e0 e1 e2
  exact ⟨⟨y0, y1, y2⟩, by simp [*], ⟨g0, g1, g2⟩⟩
theorem op_Stp : Opens Try.prog 40 Stp.enc StpOk := fun H en W fuel cs x h hw => by
  have hl := op_len Try.underlying40 h
  rw [show Try.prog.cellsOf 40 = 4 by kernel_rfl] at hl
  obtain ⟨y0, e0, g0⟩ := op_field Try.underlying40 h hw 0 rfl (k := 1) (by kernel_rfl) (op_int Try.underlying3)
  obtain ⟨y1, e1, g1⟩ := op_field Try.underlying40 h hw 1 rfl (k := 3) (by kernel_rfl) (op_Vrs)
  obtain ⟨c0, c1, c2, c3, rfl⟩ := len4 hl
  replace e0 : [c0] = _ := e0
  replace e1 : [c1, c2, c3] = _ := e1
  simp only [List.cons.injEq, and_true] at e0 e1
  exact ⟨⟨y0, y1⟩, by simp [*], ⟨g0, g1⟩⟩
theorem op_SlStp : Opens Try.prog 27 (fun s : Sl Stp => [s.val]) (fun s h => s.Ok 4 32 Stp.enc StpOk h) := op_slice Try.underlying27 (by kernel_rfl) (by kernel_rfl) (by decide) (by decide) op_Stp
end Go.TF
end
section
/- The law of fire without it: returns true. -/
namespace Go.TF
open Go Go.RowKit Go.Proofs
set_option maxRecDepth 20000

theorem PrgOk.nms {p : Prg} {h : Heap} (x : PrgOk p h) : p.Nm := fun y hy => by
  have := (x.preds.each y hy).1
  simp only [reachBytes] at this; omega
theorem steps_mem {f : List Fct} {n : Int} {r : Rul} {s : Stp} (h : s ∈ stepsF f n r) : s.rule = n ∧ VsOk s.vars ∧ holdsB f r s.vars = true := by
  unfold stepsF at h
  obtain ⟨x, hx, rfl⟩ := List.mem_map.1 h
  obtain ⟨h1, h2⟩ := List.mem_filter.1 hx
  rw [Bool.and_eq_true] at h2
  exact ⟨rfl, mem_vecs.1 h1, h2.2⟩
theorem holds_of {p : Prg} {f : List Fct} {n : Int} {r : Rul} {x : Vrs} (ak : Askd p f n) (hr : p.rules.xs[n.toNat]? = some r) (hx : VsOk x) (hh : holdsB f r x = true) : holdsOf p f n x = (true, headF p.preds.xs f r x, 0) := by
  unfold holdsOf
  rw [if_neg (by rw [askd_iff.2 ak]; decide), if_pos (vsB_iff.2 hx), ruleAt_eq hr]
  unfold holdsF
  rw [if_pos hh]
theorem all_of {p : Prg} {f : List Fct} {n : Int} {r : Rul} (ak : Askd p f n) (hr : p.rules.xs[n.toNat]? = some r) : allOf p f n = (stepsF f n r, 0) := by
  unfold allOf
  rw [if_neg (by rw [askd_iff.2 ak]; decide), ruleAt_eq hr]
theorem under_ok {l : List Prd} {f g : List Fct} (h : (underOf l f g).2 = 0) : FOk l f ∧ FOk l g ∧ underOf l f g = (underF l f g, 0) := by
  have h' := h
  unfold underOf at h'
  split at h'
  · rename_i hc; exact absurd h' hc
  split at h'
  · rename_i hc; exact absurd h' hc
  rename_i h1 h2
  have o1 := checkFacts_ok.1 (Decidable.not_not.1 h1)
  have o2 := checkFacts_ok.1 (Decidable.not_not.1 h2)
  exact ⟨o1, o2, underOf_of o1 o2⟩
set_option maxHeartbeats 8000000 in
theorem FireTrue_ok (B : Base) (hB : B.ok) (p : Prg) (hp : p.In B.h) (hnm : p.Nm) (f g : Sl Fct) (hf : Fcts f B.h) (hg : Fcts g B.h) (n : Int) : Fn Try.prog 3 [p.val, f.val, g.val, .int .i64 n] B (fun v _ => v = .bool true) := by
  refine Fn.of Try.func3 rfl Try.ntmps3 (by kernel_rfl) (by simp) ?_
  intro e
  have I := Inv.start hB
  refine WP.seq ?_
  refine WP.region ?_
  refine Ops.go (O.box (v := .agg #[_, _]) I rfl rfl ?_)
  intro b4 w I
  refine Ops.y (v := .bool _) (Y.assign rfl) ?_
  refine Ops.nil ?_
  refine WP.seq ?_
  refine WP.region ?_
  refine Ops.y (v := .agg #[_, _]) (Y.loadv ty_25 rfl (I.rdbox 0 rfl 0 2) rfl rfl) ?_
  refine Ops.y (v := .slice _ _ _) (Y.move rfl) ?_
  refine Ops.y (v := .int .i64 _) (Y.move rfl) ?_
  refine Ops.go (O.call I Try.call4 (All_ok _ I.base_ok p hp hnm f hf n) rfl ?_)
  rintro _ h1 w I le1 ⟨s1, rfl, e1, i1⟩
  refine Ops.y (v := .tuple #[_, _]) (Y.move rfl) ?_
  refine Ops.y (v := .slice _ _ _) (Y.extract rfl rfl) ?_
  refine Ops.y (v := .int .i64 _) (Y.extract rfl rfl) ?_
  refine Ops.y (v := .slice _ _ _) (Y.assign rfl) ?_
  refine Ops.y (v := .int .i64 _) (Y.assign rfl) ?_
  refine Ops.nil ?_
  have hp := hp.le le1
  have hf := hf.le le1
  have hg := hg.le le1
  refine WP.seq ?_
  refine WP.region ?_
  refine Ops.y (v := .pointer (some ⟨_, _, none⟩)) (Y.fa0 fa_25_0 rfl) ?_
  refine Ops.y (v := .slice _ _ _) (Y.loadv ty_22 rfl (I.rdbox 0 rfl 0 1) rfl rfl) ?_
  refine Ops.y (v := .slice _ _ _) (Y.move rfl) ?_
  refine Ops.y (v := .slice _ _ _) (Y.move rfl) ?_
  refine Ops.go (O.callv I Try.call5 (Under_ok _ I.base_ok p.preds hp.preds f g hf hg) rfl ?_)
  intro w I
  refine Ops.y (v := .tuple #[_, _]) (Y.move rfl) ?_
  refine Ops.y (v := .bool _) (Y.extract rfl rfl) ?_
  refine Ops.y (v := .int .i64 _) (Y.extract rfl rfl) ?_
  refine Ops.y (v := .bool _) (Y.assign rfl) ?_
  refine Ops.y (v := .int .i64 _) (Y.assign rfl) ?_
  refine Ops.nil ?_
  by_cases o1 : (allOf p f.xs n).2 ≠ 0
  · refine WP.seq ?_
    refine WP.seq ?_
    refine WP.region ?_
    refine Ops.y (v := .int .i64 _) (Y.move rfl) ?_
    refine Ops.y (v := .bool true) (Y.dec_t (Y.nei rfl rfl) (o1)) ?_
    refine Ops.y (v := .bool _) (Y.move rfl) ?_
    refine Ops.gf rfl ?_
    refine Ops.gf rfl ?_
    refine Ops.y (v := .bool _) (Y.pick_t rfl rfl) ?_
    refine Ops.nil ?_
    refine WP.cond_t rfl ?_
    refine WP.seq ?_
    refine WP.region ?_
    refine Ops.go (O.callv I Try.call6 (fireBegun_ok _ I.base_ok) rfl ?_)
    intro w I
    refine Ops.y (v := .bool _) (Y.assign rfl) ?_
    refine Ops.nil ?_
    refine WP.ret ?_
    repeat (first | refine thenE_ret ?_ | refine blockE_ret ?_)
    exact retQ.mk (vs := [.bool _]) rfl ⟨rfl, trivial⟩ I.ext_of (rfl)
  by_cases o2 : (underOf p.preds.xs f.xs g.xs).2 ≠ 0
  · refine WP.seq ?_
    refine WP.seq ?_
    refine WP.region ?_
    refine Ops.y (v := .int .i64 _) (Y.move rfl) ?_
    refine Ops.y (v := .bool false) (Y.dec_f (Y.nei rfl rfl) (o1)) ?_
    refine Ops.y (v := .bool _) (Y.move rfl) ?_
    refine Ops.ygt rfl (v := .int .i64 _) (Y.move rfl) ?_
    refine Ops.ygt rfl (v := .bool true) (Y.dec_t (Y.nei rfl rfl) (o2)) ?_
    refine Ops.y (v := .bool _) (Y.pick_f rfl rfl) ?_
    refine Ops.nil ?_
    refine WP.cond_t rfl ?_
    refine WP.seq ?_
    refine WP.region ?_
    refine Ops.go (O.callv I Try.call6 (fireBegun_ok _ I.base_ok) rfl ?_)
    intro w I
    refine Ops.y (v := .bool _) (Y.assign rfl) ?_
    refine Ops.nil ?_
    refine WP.ret ?_
    repeat (first | refine thenE_ret ?_ | refine blockE_ret ?_)
    exact retQ.mk (vs := [.bool _]) rfl ⟨rfl, trivial⟩ I.ext_of (rfl)
  refine WP.seq ?_
  refine WP.seq ?_
  refine WP.region ?_
  refine Ops.y (v := .int .i64 _) (Y.move rfl) ?_
  refine Ops.y (v := .bool false) (Y.dec_f (Y.nei rfl rfl) (o1)) ?_
  refine Ops.y (v := .bool _) (Y.move rfl) ?_
  refine Ops.ygt rfl (v := .int .i64 _) (Y.move rfl) ?_
  refine Ops.ygt rfl (v := .bool false) (Y.dec_f (Y.nei rfl rfl) (o2)) ?_
  refine Ops.y (v := .bool _) (Y.pick_f rfl rfl) ?_
  refine Ops.nil ?_
  refine WP.cond_f rfl ?_
  have ak : Askd p f.xs n := by
    apply askd_iff.1
    have := Decidable.not_not.1 o1
    unfold allOf at this
    split at this
    · exact this
    · rename_i h; exact Decidable.not_not.1 h
  obtain ⟨r, hr, ok⟩ := ak.rule
  obtain ⟨okf, okg, eu⟩ := under_ok (Decidable.not_not.1 o2)
  have akg : Askd p g.xs n := ⟨ak.prog, okg, ak.n⟩
  have es : s1.xs = stepsF f.xs n r := by rw [e1, all_of ak hr]
  have hs1 := i1.small
  have eu1 : (underOf p.preds.xs f.xs g.xs).1 = underF p.preds.xs f.xs g.xs := by rw [eu]
  rw [eu1]
  refine WP.skip ?_
  refine WP.seq ?_
  refine WP.seq ?_
  refine WP.region ?_
  refine Ops.y (v := .int .i64 _) (Y.assign rfl) ?_
  refine Ops.nil ?_
  refine WP.block ?_
  refine WP.loopE (σ := Nat) (fun k => [(1, f.val), (2, g.val), (3, .int .i64 n), (4, .pointer (some ⟨b4, 0, none⟩)), (9, s1.val), (11, .bool (underF p.preds.xs f.xs g.xs)), (13, .int .i64 k)])
    (fun k w => (∃ h2, h1.le h2 ∧ Inv B h2 [box b4 p.enc 25] w) ∧ k ≤ s1.xs.length) (fun k => s1.xs.length - k)
    ⟨0, ⟨rfl, rfl, rfl, rfl, rfl, rfl, rfl, trivial⟩, ⟨h1, Heap.le.refl _, I⟩, Nat.zero_le _⟩ ?_
  rintro k e w ⟨⟨h2, gl, I⟩, hk⟩
  have hp := hp.le gl
  have hf := hf.le gl
  have hg := hg.le gl
  have i1 := i1.le gl
  refine WP.seq ?_
  refine WP.seq ?_
  refine WP.region ?_
  refine Ops.y (v := .int .i64 _) (Y.move rfl) ?_
  refine Ops.y (v := .slice _ _ _) (Y.move rfl) ?_
  refine Ops.y (v := .int .i64 _) (Y.lens Try.underlying27 rfl) ?_
  refine Ops.y (v := .bool (decide _)) (Y.lti rfl rfl) ?_
  refine Ops.nil ?_
  refine WP.cond_dec rfl (fun h6 => ?_) (fun h6 => ?_)
  · have hk' : k < s1.xs.length := by omega
    have E := i1.at hk'
    have hmem : s1.xs[k] ∈ stepsF f.xs n r := es ▸ List.getElem_mem hk'
    obtain ⟨hrule, hvs, hhf⟩ := steps_mem hmem
    have e8 := holds_of ak hr hvs hhf
    obtain ⟨y, hy⟩ : ∃ y, headF p.preds.xs f.xs r s1.xs[k].vars = y := ⟨_, rfl⟩
    rw [hy] at e8
    refine WP.skip ?_
    refine WP.seq ?_
    refine WP.block ?_
    refine WP.seq ?_
    refine WP.regionG mixed RBx.pre ⟨h2, none, none⟩ (J := JBx B [box b4 p.enc 25] 35 [.int .i64 0, .int .i64 0, .int .i64 0, .int .i64 0] y.enc 13 99 15) ⟨rfl, rfl, fun h => (by cases h), I.drew⟩ 16 (by kernel_rfl) ?_
    refine OpsG.y_ (v := .agg #[_, _]) (fun _ => runsG_none _) RBx.pre (JBx.set (by decide)) (fun _ s w us hl hj => have I := hj.base; have hl := hl.h; Y.loadv ty_25 rfl (I.rdbox 0 rfl 0 2) rfl rfl) ?_
    refine OpsG.y_ (v := .slice _ _ _) (fun _ => runsG_none _) RBx.pre (JBx.set (by decide)) (fun _ s w us hl hj => have I := hj.base; have hl := hl.h; Y.move rfl) ?_
    refine OpsG.y_ (v := .int .i64 _) (fun _ => runsG_none _) RBx.pre (JBx.set (by decide)) (fun _ s w us hl hj => have I := hj.base; have hl := hl.h; Y.move rfl) ?_
    refine OpsG.y_ (v := .slice _ _ _) (fun _ => runsG_none _) RBx.pre (JBx.set (by decide)) (fun _ s w us hl hj => have I := hj.base; have hl := hl.h; Y.move rfl) ?_
    refine OpsG.y_ (v := .int .i64 _) (fun _ => runsG_none _) RBx.pre (JBx.set (by decide)) (fun _ s w us hl hj => have I := hj.base; have hl := hl.h; Y.move rfl) ?_
    refine OpsG.y_ (v := .pointer (some ⟨_, _, none⟩)) (fun _ => runsG_none _) RBx.pre (JBx.set (by decide)) (fun _ s w us hl hj => have I := hj.base; have hl := hl.h; Y.idxEl E Try.underlying27 Try.sizeOf40 rfl rfl (Int.natCast_nonneg _) rfl) ?_
    refine OpsG.y_ (v := .pointer (some ⟨_, _, none⟩)) (fun _ => runsG_none _) RBx.pre (JBx.set (by decide)) (fun _ s w us hl hj => have I := hj.base; have hl := hl.h; Y.fa fa_40_1 rfl) ?_
    refine OpsG.y_ (v := .agg #[_, _, _]) (fun _ => runsG_none _) RBx.pre (JBx.set (by decide)) (fun _ s w us hl hj => have I := hj.base; have hl := hl.h; Y.loadv ty_38 rfl (I.rd ((E.rd.part 1 3).le hl)) rfl rfl) ?_
    refine OpsG.c_ (by decide) (fun _ s w us hl hj => have I := hj.inv; have hl := hl.h; O.callv I Try.call7 (Holds_at _ I.base_ok p (hp.le hl) hnm f (hf.le hl) n s1.xs[k].vars (true, y, 0) e8) rfl (fun w' I' => ⟨rfl, ⟨hj.h7, hj.h8, hj.ord, I'⟩⟩)) ?_
    refine OpsG.y_ (v := .tuple #[_, _, _]) (fun _ => runsG_none _) RBx.pre (JBx.set (by decide)) (fun _ s w us hl hj => have I := hj.base; have hl := hl.h; Y.move rfl) ?_
    refine OpsG.y_ (v := .bool _) (fun _ => runsG_none _) RBx.pre (JBx.set (by decide)) (fun _ s w us hl hj => have I := hj.base; have hl := hl.h; Y.extract rfl rfl) ?_
    refine OpsG.y_ (v := .agg #[_, _, _, _]) (fun _ => runsG_none _) RBx.pre (JBx.set (by decide)) (fun _ s w us hl hj => have I := hj.base; have hl := hl.h; Y.extract rfl rfl) ?_
    refine OpsG.y_ (v := .int .i64 _) (fun _ => runsG_none _) RBx.pre (JBx.set (by decide)) (fun _ s w us hl hj => have I := hj.base; have hl := hl.h; Y.extract rfl rfl) ?_
    refine OpsG.make7 Try.zeroValue35 rfl (by decide) (by decide) ?_
    refine OpsG.y_ (v := .bool _) (fun _ => runsG_none _) RBx.pre (JBx.set (by decide)) (fun _ s w us hl hj => have I := hj.base; have hl := hl.h; Y.assign rfl) ?_
    refine OpsG.store7 ty_35 rfl rfl (fun s => by intro u15 q15; exact ⟨q15 rfl, rfl⟩) rfl rfl (by decide) (by decide) ?_
    refine OpsG.nil ?_
    intro D s w hD hl hj u15 q15
    obtain ⟨b15, rfl, h15⟩ := q15 rfl
    have I := hj.inv
    rw [h15, hD 15 (by omega)] at I
    have hl := hl.h
    refine Ops.y (v := .int .i64 _) (Y.assign rfl) ?_
    refine Ops.nil ?_
    generalize s.o8 = o8 at I
    generalize s.h = h3 at I hl
    have I : Inv B h3 [box b15 y.enc 35, box b4 p.enc 25] w := by
      cases o8 with
      | none => exact I
      | some b8 => exact I.weak (List.Sublist.cons_cons _ (List.sublist_cons_self _ _))
    have hp := hp.le hl
    have hf := hf.le hl
    have hg := hg.le hl
    have i1 := i1.le hl
    have E := E.le hl
    have gl := gl.trans hl
    refine WP.seq ?_
    refine WP.seq ?_
    refine WP.region ?_
    refine Ops.y (v := .int .i64 _) (Y.move rfl) ?_
    refine Ops.y (v := .bool false) (Y.dec_f (Y.nei rfl rfl) ((fun h => h rfl))) ?_
    refine Ops.y (v := .bool _) (Y.move rfl) ?_
    refine Ops.ygt rfl (v := .bool _) (Y.move rfl) ?_
    refine Ops.ygt rfl (v := .bool false) (Y.b (Y.not rfl) (rfl)) ?_
    refine Ops.y (v := .bool _) (Y.pick_f rfl rfl) ?_
    refine Ops.y (v := .bool _) (Y.move rfl) ?_
    refine Ops.ygt rfl (v := .slice _ _ _) (Y.move rfl) ?_
    refine Ops.ygt rfl (v := .int .i64 _) (Y.move rfl) ?_
    refine Ops.ygt rfl (v := .pointer (some ⟨_, _, none⟩)) (Y.idxEl E Try.underlying27 Try.sizeOf40 rfl rfl (Int.natCast_nonneg _) rfl) ?_
    refine Ops.ygt rfl (v := .pointer (some ⟨_, _, none⟩)) (Y.fa0 fa_40_0 rfl) ?_
    refine Ops.ygt rfl (v := .int .i64 _) (Y.loadv ty_3 rfl (I.rd (E.rd.part 0 1)) rfl rfl) ?_
    refine Ops.ygt rfl (v := .int .i64 _) (Y.move rfl) ?_
    refine Ops.ygt rfl (v := .bool false) (Y.dec_f (Y.nei rfl rfl) ((fun h => h hrule))) ?_
    refine Ops.y (v := .bool _) (Y.pick_f rfl rfl) ?_
    refine Ops.nil ?_
    refine WP.cond_f rfl ?_
    cases hu : underF p.preds.xs f.xs g.xs
    · refine WP.skip ?_
      refine WP.seq ?_
      refine WP.seq ?_
      refine WP.region ?_
      refine Ops.y (v := .bool _) (Y.move rfl) ?_
      refine Ops.y (v := .bool true) (Y.b (Y.not rfl) (rfl)) ?_
      refine Ops.y (v := .bool _) (Y.move rfl) ?_
      refine Ops.gf rfl ?_
      refine Ops.gf rfl ?_
      refine Ops.gf rfl ?_
      refine Ops.y (v := .bool _) (Y.pick_t rfl rfl) ?_
      refine Ops.nil ?_
      refine WP.cond_t rfl ?_
      refine WP.exit ?_
      refine WP.region ?_
      refine Ops.y (v := .int .i64 _) (Y.move rfl) ?_
      refine Ops.y (v := .int .i64 _) (Y.addi rfl rfl ⟨by omega, by omega⟩) ?_
      refine Ops.y (v := .int .i64 _) (Y.assign rfl) ?_
      refine Ops.nil ?_
      exact ⟨k + 1, ⟨⟨rfl, rfl, rfl, rfl, rfl, rfl, rfl, trivial⟩, ⟨h3, gl, I.drop⟩, by omega⟩, by omega⟩
    cases hpo : posP p
    · refine WP.skip ?_
      refine WP.seq ?_
      refine WP.seq ?_
      refine WP.region ?_
      refine Ops.y (v := .bool _) (Y.move rfl) ?_
      refine Ops.y (v := .bool false) (Y.b (Y.not rfl) (rfl)) ?_
      refine Ops.y (v := .bool _) (Y.move rfl) ?_
      refine Ops.ygt rfl (v := .agg #[_, _]) (Y.loadv ty_25 rfl (I.rdbox 1 rfl 0 2) rfl rfl) ?_
      refine Ops.gt rfl (O.callv I Try.call8 (hpo ▸ positive_ok _ I.base_ok p hp) rfl ?_)
      intro w I
      refine Ops.ygt rfl (v := .bool true) (Y.b (Y.not rfl) (rfl)) ?_
      refine Ops.y (v := .bool _) (Y.pick_f rfl rfl) ?_
      refine Ops.nil ?_
      refine WP.cond_t rfl ?_
      refine WP.exit ?_
      refine WP.region ?_
      refine Ops.y (v := .int .i64 _) (Y.move rfl) ?_
      refine Ops.y (v := .int .i64 _) (Y.addi rfl rfl ⟨by omega, by omega⟩) ?_
      refine Ops.y (v := .int .i64 _) (Y.assign rfl) ?_
      refine Ops.nil ?_
      exact ⟨k + 1, ⟨⟨rfl, rfl, rfl, rfl, rfl, rfl, rfl, trivial⟩, ⟨h3, gl, I.drop⟩, by omega⟩, by omega⟩
    have hpr : posR r = true := List.all_eq_true.1 hpo _ (List.mem_of_getElem? hr)
    have e12 := holds_of akg hr hvs (holdsB_up hu hpr hhf)
    have e13 := head_under ok okf okg hvs hu hpr hhf
    obtain ⟨y2, hy2⟩ : ∃ y, headF p.preds.xs g.xs r s1.xs[k].vars = y := ⟨_, rfl⟩
    rw [hy2] at e12 e13
    rw [hy] at e13
    refine WP.skip ?_
    refine WP.seq ?_
    refine WP.seq ?_
    refine WP.region ?_
    refine Ops.y (v := .bool _) (Y.move rfl) ?_
    refine Ops.y (v := .bool false) (Y.b (Y.not rfl) (rfl)) ?_
    refine Ops.y (v := .bool _) (Y.move rfl) ?_
    refine Ops.ygt rfl (v := .agg #[_, _]) (Y.loadv ty_25 rfl (I.rdbox 1 rfl 0 2) rfl rfl) ?_
    refine Ops.gt rfl (O.callv I Try.call8 (hpo ▸ positive_ok _ I.base_ok p hp) rfl ?_)
    intro w I
    refine Ops.ygt rfl (v := .bool false) (Y.b (Y.not rfl) (rfl)) ?_
    refine Ops.y (v := .bool _) (Y.pick_f rfl rfl) ?_
    refine Ops.nil ?_
    refine WP.cond_f rfl ?_
    refine WP.skip ?_
    refine WP.seq ?_
    refine WP.regionG mixed RBx.pre ⟨h3, none, none⟩ (J := JBx B [box b15 y.enc 35, box b4 p.enc 25] 35 [.int .i64 0, .int .i64 0, .int .i64 0, .int .i64 0] y2.enc 13 99 15) ⟨rfl, rfl, fun h => (by cases h), I.drew⟩ 16 (by kernel_rfl) ?_
    refine OpsG.y_ (v := .agg #[_, _]) (fun _ => runsG_none _) RBx.pre (JBx.set (by decide)) (fun _ s w us hl hj => have I := hj.base; have hl := hl.h; Y.loadv ty_25 rfl (I.rdbox 1 rfl 0 2) rfl rfl) ?_
    refine OpsG.y_ (v := .slice _ _ _) (fun _ => runsG_none _) RBx.pre (JBx.set (by decide)) (fun _ s w us hl hj => have I := hj.base; have hl := hl.h; Y.move rfl) ?_
    refine OpsG.y_ (v := .int .i64 _) (fun _ => runsG_none _) RBx.pre (JBx.set (by decide)) (fun _ s w us hl hj => have I := hj.base; have hl := hl.h; Y.move rfl) ?_
    refine OpsG.y_ (v := .slice _ _ _) (fun _ => runsG_none _) RBx.pre (JBx.set (by decide)) (fun _ s w us hl hj => have I := hj.base; have hl := hl.h; Y.move rfl) ?_
    refine OpsG.y_ (v := .int .i64 _) (fun _ => runsG_none _) RBx.pre (JBx.set (by decide)) (fun _ s w us hl hj => have I := hj.base; have hl := hl.h; Y.move rfl) ?_
    refine OpsG.y_ (v := .pointer (some ⟨_, _, none⟩)) (fun _ => runsG_none _) RBx.pre (JBx.set (by decide)) (fun _ s w us hl hj => have I := hj.base; have hl := hl.h; Y.idxEl E Try.underlying27 Try.sizeOf40 rfl rfl (Int.natCast_nonneg _) rfl) ?_
    refine OpsG.y_ (v := .pointer (some ⟨_, _, none⟩)) (fun _ => runsG_none _) RBx.pre (JBx.set (by decide)) (fun _ s w us hl hj => have I := hj.base; have hl := hl.h; Y.fa fa_40_1 rfl) ?_
    refine OpsG.y_ (v := .agg #[_, _, _]) (fun _ => runsG_none _) RBx.pre (JBx.set (by decide)) (fun _ s w us hl hj => have I := hj.base; have hl := hl.h; Y.loadv ty_38 rfl (I.rd ((E.rd.part 1 3).le hl)) rfl rfl) ?_
    refine OpsG.c_ (by decide) (fun _ s w us hl hj => have I := hj.inv; have hl := hl.h; O.callv I Try.call7 (Holds_at _ I.base_ok p (hp.le hl) hnm g (hg.le hl) n s1.xs[k].vars (true, y2, 0) e12) rfl (fun w' I' => ⟨rfl, ⟨hj.h7, hj.h8, hj.ord, I'⟩⟩)) ?_
    refine OpsG.y_ (v := .tuple #[_, _, _]) (fun _ => runsG_none _) RBx.pre (JBx.set (by decide)) (fun _ s w us hl hj => have I := hj.base; have hl := hl.h; Y.move rfl) ?_
    refine OpsG.y_ (v := .bool _) (fun _ => runsG_none _) RBx.pre (JBx.set (by decide)) (fun _ s w us hl hj => have I := hj.base; have hl := hl.h; Y.extract rfl rfl) ?_
    refine OpsG.y_ (v := .agg #[_, _, _, _]) (fun _ => runsG_none _) RBx.pre (JBx.set (by decide)) (fun _ s w us hl hj => have I := hj.base; have hl := hl.h; Y.extract rfl rfl) ?_
    refine OpsG.y_ (v := .int .i64 _) (fun _ => runsG_none _) RBx.pre (JBx.set (by decide)) (fun _ s w us hl hj => have I := hj.base; have hl := hl.h; Y.extract rfl rfl) ?_
    refine OpsG.make7 Try.zeroValue35 rfl (by decide) (by decide) ?_
    refine OpsG.y_ (v := .bool _) (fun _ => runsG_none _) RBx.pre (JBx.set (by decide)) (fun _ s w us hl hj => have I := hj.base; have hl := hl.h; Y.assign rfl) ?_
    refine OpsG.store7 ty_35 rfl rfl (fun s => by intro u18 q18; exact ⟨q18 rfl, rfl⟩) rfl rfl (by decide) (by decide) ?_
    refine OpsG.nil ?_
    intro D s w hD hl hj u18 q18
    obtain ⟨b18, rfl, h18⟩ := q18 rfl
    have I := hj.inv
    rw [h18, hD 15 (by omega)] at I
    have hl := hl.h
    refine Ops.y (v := .int .i64 _) (Y.assign rfl) ?_
    refine Ops.nil ?_
    generalize s.o8 = o8 at I
    generalize s.h = h4 at I hl
    have I : Inv B h4 [box b18 y2.enc 35, box b15 y.enc 35, box b4 p.enc 25] w := by
      cases o8 with
      | none => exact I
      | some b8 => exact I.weak (List.Sublist.cons_cons _ (List.sublist_cons_self _ _))
    have hp := hp.le hl
    have hf := hf.le hl
    have hg := hg.le hl
    have i1 := i1.le hl
    have E := E.le hl
    have gl := gl.trans hl
    refine WP.seq ?_
    refine WP.region ?_
    refine Ops.y (v := .pointer (some ⟨_, _, none⟩)) (Y.fa0 fa_25_0 rfl) ?_
    refine Ops.y (v := .slice _ _ _) (Y.loadv ty_22 rfl (I.rdbox 2 rfl 0 1) rfl rfl) ?_
    refine Ops.y (v := .agg #[_, _, _, _]) (Y.loadv ty_35 rfl (I.rdbox 1 rfl 0 4) rfl rfl) ?_
    refine Ops.go (O.mksl (xs := [y]) (enc := Fct.enc) I Try.underlying26 Try.sizeOf35 Try.zeroValue35 rfl (Nat.le_of_ble_eq_true rfl) rfl rfl (by decide) (fun _ => rfl) ?_)
    intro b102 h102 w I le102 sl102
    refine Ops.y (v := .agg #[_, _, _, _]) (Y.loadv ty_35 rfl (I.rdbox 0 rfl 0 4) rfl rfl) ?_
    refine Ops.go (O.mksl (xs := [y2]) (enc := Fct.enc) I Try.underlying26 Try.sizeOf35 Try.zeroValue35 rfl (Nat.le_of_ble_eq_true rfl) rfl rfl (by decide) (fun _ => rfl) ?_)
    intro b104 h104 w I le104 sl104
    refine Ops.go (O.callv I Try.call5 (Under_at _ I.base_ok p.preds (hp.preds.le (le102.trans le104)) ⟨some ⟨b102, 0, none⟩, 1, [y]⟩ ⟨some ⟨b104, 0, none⟩, 1, [y2]⟩ ⟨sl102.le le104, by simp⟩ ⟨sl104, by simp⟩ (true, 0) e13) rfl ?_)
    intro w I
    refine Ops.y (v := .tuple #[_, _]) (Y.move rfl) ?_
    refine Ops.y (v := .bool _) (Y.extract rfl rfl) ?_
    refine Ops.y (v := .int .i64 _) (Y.extract rfl rfl) ?_
    refine Ops.y (v := .bool _) (Y.assign rfl) ?_
    refine Ops.y (v := .int .i64 _) (Y.assign rfl) ?_
    refine Ops.nil ?_
    have gl := gl.trans (le102.trans le104)
    refine WP.seq ?_
    refine WP.region ?_
    refine Ops.y (v := .int .i64 _) (Y.move rfl) ?_
    refine Ops.y (v := .bool false) (Y.dec_f (Y.nei rfl rfl) ((fun h => h rfl))) ?_
    refine Ops.y (v := .bool _) (Y.move rfl) ?_
    refine Ops.ygt rfl (v := .int .i64 _) (Y.move rfl) ?_
    refine Ops.ygt rfl (v := .bool false) (Y.dec_f (Y.nei rfl rfl) ((fun h => h rfl))) ?_
    refine Ops.y (v := .bool _) (Y.pick_f rfl rfl) ?_
    refine Ops.y (v := .bool _) (Y.move rfl) ?_
    refine Ops.ygt rfl (v := .bool _) (Y.move rfl) ?_
    refine Ops.ygt rfl (v := .bool false) (Y.b (Y.not rfl) (rfl)) ?_
    refine Ops.y (v := .bool _) (Y.pick_f rfl rfl) ?_
    refine Ops.y (v := .bool _) (Y.move rfl) ?_
    refine Ops.ygt rfl (v := .bool _) (Y.move rfl) ?_
    refine Ops.ygt rfl (v := .bool false) (Y.b (Y.not rfl) (rfl)) ?_
    refine Ops.y (v := .bool _) (Y.pick_f rfl rfl) ?_
    refine Ops.nil ?_
    refine WP.cond_f rfl ?_
    refine WP.skip ?_
    refine WP.region ?_
    refine Ops.y (v := .int .i64 _) (Y.move rfl) ?_
    refine Ops.y (v := .int .i64 _) (Y.addi rfl rfl ⟨by omega, by omega⟩) ?_
    refine Ops.y (v := .int .i64 _) (Y.assign rfl) ?_
    refine Ops.nil ?_
    exact ⟨k + 1, ⟨⟨rfl, rfl, rfl, rfl, rfl, rfl, rfl, trivial⟩, ⟨_, gl, I.drop.drop⟩, by omega⟩, by omega⟩
  · refine WP.exit ?_
    refine WP.seq ?_
    refine WP.region ?_
    refine Ops.go (O.callv I Try.call6 (fireBegun_ok _ I.base_ok) rfl ?_)
    intro w I
    refine Ops.y (v := .bool _) (Y.assign rfl) ?_
    refine Ops.nil ?_
    refine WP.ret ?_
    repeat (first | refine thenE_ret ?_ | refine blockE_ret ?_)
    exact retQ.mk (vs := [.bool _]) rfl ⟨rfl, trivial⟩ I.ext_of (rfl)
end Go.TF
end
