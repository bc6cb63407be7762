/- Texts Fir1 Base16 Base17 Fir2 SortLay Fir3 Fir4 Fir5. -/
import Derived.Test.YtgblgeddpegplaaGreatU4
import Derived.Test.YtgblgeddpegplaaGreatU2
import Derived.Test.YtgblgeddpegplaaGreatU3
import Derived.Shelf.SlSortCmp.WholeK
import Derived.Ground.SlsfProg
import Derived.Test.YtgblgeddpegplaaGreatProg
import Derived.Shelf.SlSortCmp.NoneTotal
import Derived.ChangeKeysEq
section
/- A rule is used; an atom is bound with a fact. -/
namespace Go.TF
open Go Go.RowKit Go.Proofs
set_option maxRecDepth 20000

def hvAt (l : List Prd) (f : List Fct) (r : Rul) (x : Vrs) (k : Nat) : Int := if 0 ≤ r.src ∧ r.src < k then headV l f r x else r.n
theorem hvAt_end {l : List Prd} {f : List Fct} {r : Rul} {x : Vrs} (ok : ROk l r) : hvAt l f r x r.body.xs.length = headV l f r x := by
  unfold hvAt
  split
  · rfl
  · rename_i h
    have := ok.src
    unfold headV
    rw [if_neg (by omega)]
theorem litOk_iff {f : List Fct} {x : Vrs} {t : Ltl} : litOk f x t = true ↔ isF f (groundF t.atom x) ≠ t.neg := by unfold litOk; rw [decide_eq_true_eq]
theorem litOf_at {r : Rul} {k : Nat} (hk : k < r.body.xs.length) : litOf r k = r.body.xs[k] := by simp [litOf, List.getD_eq_getElem?_getD, hk]
def tHold (x : Bool × Fct) : Value := .tuple #[.bool x.1, x.2.val]
set_option maxHeartbeats 4000000 in
theorem FOf_ok (B : Base) (hB : B.ok) (p : Prg) (hp : p.In B.h) (f : Sl Fct) (hf : Fcts f B.h) (n : Int) (r : Rul) (h0 : 0 ≤ n) (hr : p.rules.xs[n.toNat]? = some r) (ok : ROk p.preds.xs r) (okf : FOk p.preds.xs f.xs) (x : Vrs) (hx : VsOk x) :
    Fn Tryz.prog 84 [p.val, f.val, .int .i64 n, x.val] B (fun v _ => v = tHold (holdsF p.preds.xs f.xs r x)) := by
  have Er := hp.rules.is.el.el hr
  have ir := hp.rules.each _ (List.mem_of_getElem? hr)
  have ah := aok_of ok.preds ok.head
  have hlen := ok.len
  have hkp : r.head.pred.toNat < p.preds.xs.length := by have := ah.pred; omega
  have Eh := hp.preds.at hkp
  have hpo : p.preds.xs[r.head.pred.toNat] = predOf p.preds.xs r.head.pred := (predOf_getE ah.pred.1 ah.pred.2).symm
  have hkd := ok.preds _ (predOf_mem ah.pred)
  simp only [predFine, decide_eq_true_eq] at hkd
  refine Fn.of Tryz.func84 rfl Tryz.ntmps84 (by kernel_rfl) (by simp) ?_
  intro e
  have I := Inv.start hB
  refine WP.seq ?_
  refine WP.region ?_
  refine Ops.go (O.box (v := .agg #[_, _]) I rfl rfl ?_)
  intro b4 w I
  refine Ops.go (O.box (v := .agg #[_, _, _]) I rfl rfl ?_)
  intro b7 w I
  refine Ops.y (v := .bool _) (Y.assign rfl) ?_
  refine Ops.go (O.alloc I Tryz.zeroValue52 rfl ?_)
  intro b9 w I
  refine Ops.nil ?_
  refine WP.seq ?_
  refine WP.region ?_
  refine Ops.y (v := .pointer (some ⟨_, _, none⟩)) (Y.fa fa_25_1 rfl) ?_
  refine Ops.y (v := .slice _ _ _) (Y.loadv ty_23 rfl (I.rdbox 2 rfl 1 1) rfl rfl) ?_
  refine Ops.y (v := .int .i64 _) (Y.move rfl) ?_
  refine Ops.y (v := .pointer (some ⟨_, _, none⟩)) (Y.idxEl Er Tryz.underlying23 Tryz.sizeOf68 rfl rfl h0 rfl) ?_
  refine Ops.y (v := .agg #[_, _, _, _, _]) (Y.loadv ty_68 rfl (I.rd (Er.rd.part 0 5)) rfl rfl) ?_
  refine Ops.go (O.alloc I Tryz.zeroValue68 rfl ?_)
  intro b10 w I
  refine Ops.go (O.store (v := .agg #[_, _, _, _, _]) I ty_68 0 rfl rfl rfl rfl rfl rfl (Nat.le_of_ble_eq_true rfl) rfl ?_)
  intro w I
  refine Ops.nil ?_
  refine WP.seq ?_
  refine WP.region ?_
  refine Ops.y (v := .pointer (some ⟨_, _, none⟩)) (Y.fa0 fa_68_0 rfl) ?_
  refine Ops.y (v := .agg #[_, _]) (Y.loadv ty_65 rfl (I.rdbox 0 rfl 0 2) rfl rfl) ?_
  refine Ops.y (v := .agg #[_, _, _]) (Y.loadv ty_80 rfl (I.rdbox 2 rfl 0 3) rfl rfl) ?_
  refine Ops.go (O.callv I Tryz.call135 (Of_ok _ I.base_ok r.head ir.head x ah.len ah.err) rfl ?_)
  intro w I
  refine Ops.go (O.alloc I Tryz.zeroValue52 rfl ?_)
  intro b11 w I
  refine Ops.go (O.store (v := .agg #[_, _, _, _]) I ty_52 0 rfl rfl rfl rfl rfl rfl (Nat.le_of_ble_eq_true rfl) rfl ?_)
  intro w I
  refine Ops.nil ?_
  refine WP.seq ?_
  refine WP.region ?_
  refine Ops.y (v := .pointer (some ⟨_, _, none⟩)) (Y.fa fa_68_2 rfl) ?_
  refine Ops.y (v := .int .i64 _) (Y.loadv ty_3 rfl (I.rdbox 1 rfl 3 1) rfl rfl) ?_
  refine Ops.y (v := .pointer (some ⟨_, _, none⟩)) (Y.fa fa_52_3 rfl) ?_
  refine Ops.go (O.store (v := .int .i64 _) I ty_3 0 rfl rfl rfl rfl rfl rfl (Nat.le_of_ble_eq_true rfl) rfl ?_)
  intro w I
  refine Ops.nil ?_
  refine WP.seq ?_
  refine WP.seq ?_
  refine WP.region ?_
  refine Ops.y (v := .pointer (some ⟨_, _, none⟩)) (Y.fa fa_68_3 rfl) ?_
  refine Ops.y (v := .slice _ _ _) (Y.loadv ty_66 rfl (I.rdbox 1 rfl 4 1) rfl rfl) ?_
  refine Ops.y (v := .int .i64 _) (Y.lens Tryz.underlying66 rfl) ?_
  refine Ops.y (v := .int .i64 _) (Y.move rfl) ?_
  refine Ops.nil ?_
  refine WP.block ?_
  refine WP.loopE (σ := Nat) (fun k => [(1, f.val), (4, .pointer (some ⟨b4, 0, none⟩)), (7, .pointer (some ⟨b7, 0, none⟩)), (9, .pointer (some ⟨b9, 0, none⟩)), (10, .pointer (some ⟨b10, 0, none⟩)), (11, .pointer (some ⟨b11, 0, none⟩)), (29, r.body.val), (30, .int .i64 r.body.xs.length), (31, .int .i64 k)])
    (fun k w => (∃ h1, B.h.le h1 ∧ Inv B h1 [box b11 [.int .i64 r.head.pred, .int .i64 (argv r.head x 0), .int .i64 (argv r.head x 1), .int .i64 (hvAt p.preds.xs f.xs r x k)] 52, box b10 r.enc 68, box b9 [.int .i64 0, .int .i64 0, .int .i64 0, .int .i64 0] 52, box b7 x.enc 80, box b4 p.enc 25] w) ∧ k ≤ r.body.xs.length ∧ ∀ j, j < k → ∀ hj : j < r.body.xs.length, litOk f.xs x r.body.xs[j] = true) (fun k => r.body.xs.length - k)
    ⟨0, ⟨rfl, rfl, rfl, rfl, rfl, rfl, rfl, rfl, rfl, trivial⟩, ?_, Nat.zero_le _, fun j hj => by omega⟩ ?_
  · have : hvAt p.preds.xs f.xs r x 0 = r.n := by unfold hvAt; rw [if_neg (by omega)]
    rw [this]; exact ⟨_, Heap.le.refl _, I⟩
  rintro k e w ⟨⟨h1, gl, I⟩, hk, hn⟩
  have ir := ir.le gl
  have hf := hf.le gl
  have Eh := Eh.le gl
  refine WP.seq ?_
  refine WP.region ?_
  refine Ops.y (v := .bool (decide _)) (Y.lti rfl rfl) ?_
  refine Ops.nil ?_
  refine WP.seq ?_
  refine WP.cond_dec rfl (fun h => ?_) (fun h => ?_)
  · have hk' : k < r.body.xs.length := by omega
    have E1 := ir.body.is.at hk'
    have ab := aok_of ok.preds (ok.body _ (List.getElem_mem hk'))
    have pb := ab.pf ok.five hx 0
    have hiff := isF_iff (x := groundF r.body.xs[k].atom x) okf.srt
    refine WP.skip ?_
    refine WP.seq ?_
    refine WP.block ?_
    refine WP.seq ?_
    refine WP.region ?_
    refine Ops.y (v := .int .i64 _) (Y.move rfl) ?_
    refine Ops.y (v := .pointer (some ⟨_, _, none⟩)) (Y.idxEl E1 Tryz.underlying66 Tryz.sizeOf131 rfl rfl (Int.natCast_nonneg _) rfl) ?_
    refine Ops.y (v := .agg #[_, _, _]) (Y.loadv ty_131 rfl (I.rd (E1.rd.part 0 3)) rfl rfl) ?_
    refine Ops.go (O.alloc I Tryz.zeroValue131 rfl ?_)
    intro b13 w I
    refine Ops.y (v := .int .i64 _) (Y.assign rfl) ?_
    refine Ops.go (O.store (v := .agg #[_, _, _]) I ty_131 0 rfl rfl rfl rfl rfl rfl (Nat.le_of_ble_eq_true rfl) rfl ?_)
    intro w I
    refine Ops.nil ?_
    refine WP.seq ?_
    refine WP.region ?_
    refine Ops.y (v := .slice _ _ _) (Y.move rfl) ?_
    refine Ops.y (v := .pointer (some ⟨_, _, none⟩)) (Y.fa fa_131_1 rfl) ?_
    refine Ops.y (v := .agg #[_, _]) (Y.loadv ty_65 rfl (I.rdbox 0 rfl 1 2) rfl rfl) ?_
    refine Ops.y (v := .agg #[_, _, _]) (Y.loadv ty_80 rfl (I.rdbox 4 rfl 0 3) rfl rfl) ?_
    refine Ops.go (O.callv I Tryz.call135 (Of_ok _ I.base_ok r.body.xs[k].atom (ir.body.each _ (List.getElem_mem hk')) x ab.len ab.err) rfl ?_)
    intro w I
    refine Ops.go (O.callv I Tryz.call70 (Seek_ok _ I.base_ok f hf okf.pf okf.srt _ pb) rfl ?_)
    intro w I
    refine Ops.y (v := .tuple #[_, _]) (Y.move rfl) ?_
    refine Ops.y (v := .int .i64 _) (Y.extract rfl rfl) ?_
    refine Ops.y (v := .bool _) (Y.extract rfl rfl) ?_
    refine Ops.y (v := .int .i64 _) (Y.assign rfl) ?_
    refine Ops.y (v := .bool _) (Y.assign rfl) ?_
    refine Ops.nil ?_
    refine WP.seq ?_
    refine WP.seq ?_
    refine WP.region ?_
    refine Ops.y (v := .bool _) (Y.move rfl) ?_
    refine Ops.y (v := .pointer (some ⟨_, _, none⟩)) (Y.fa0 fa_131_0 rfl) ?_
    refine Ops.y (v := .bool _) (Y.loadv ty_4 rfl (I.rdbox 0 rfl 0 1) rfl rfl) ?_
    refine Ops.y (v := .bool (decide _)) (Y.eqb Tryz.underlying4 rfl rfl) ?_
    refine Ops.nil ?_
    refine WP.cond_dec rfl (fun h8 => ?_) (fun h8 => ?_)
    · have hno : holdsB f.xs r x = false := by
        unfold holdsB; rw [List.all_eq_false]; exact ⟨_, List.getElem_mem hk', by rw [litOk_iff]; exact fun hh => hh h8⟩
      refine WP.seq ?_
      refine WP.region ?_
      refine Ops.y (v := .agg #[.int .i64 _, .int .i64 _, .int .i64 _, .int .i64 _]) (Y.build pl_52 Tryz.zeroValue52 rfl rfl) ?_
      refine Ops.y (v := .bool _) (Y.assign rfl) ?_
      refine Ops.go (O.store (v := .agg #[_, _, _, _]) I ty_52 3 rfl rfl rfl rfl rfl rfl (Nat.le_of_ble_eq_true rfl) rfl ?_)
      intro w I
      refine Ops.nil ?_
      refine WP.ret ?_
      repeat (first | refine thenE_ret ?_ | refine blockE_ret ?_)
      exact retQ.mk (vs := [.bool _, .agg #[_, _, _, _]]) rfl ⟨rfl, ⟨_, _, _, _, _, rfl, ty_52, I.rdbox 3 rfl 0 4, rfl, rfl⟩, trivial⟩ I.ext_of (by simp only [tup, tHold, holdsF, hno]; rfl)
    refine WP.skip ?_
    refine WP.seq ?_
    refine WP.region ?_
    refine Ops.y (v := .int .i64 _) (Y.move rfl) ?_
    refine Ops.y (v := .pointer (some ⟨_, _, none⟩)) (Y.fa fa_68_1 rfl) ?_
    refine Ops.y (v := .int .i64 _) (Y.loadv ty_3 rfl (I.rdbox 2 rfl 2 1) rfl rfl) ?_
    refine Ops.y (v := .bool (decide _)) (Y.eqi rfl rfl) ?_
    refine Ops.nil ?_
    refine WP.cond_dec rfl (fun h10 => ?_) (fun h10 => ?_)
    · have hs0 : 0 ≤ r.src := by omega
      obtain ⟨hng, hkq⟩ := ok.pos hs0
      have hlo : litOf r r.src = r.body.xs[k] := by rw [← h10]; exact litOf_at hk'
      rw [hlo] at hng
      have his : isF f.xs (groundF r.body.xs[k].atom x) = true := by
        rcases Bool.eq_false_or_eq_true (isF f.xs (groundF r.body.xs[k].atom x)) with hh | hh
        · exact hh
        · exact absurd (hh.trans hng.symm) h8
      obtain ⟨hlt, hpl⟩ := hiff.1 his
      have Ef := hf.at hlt
      have hlk := lkF_pos okf.srt hlt hpl
      have hval : hvAt p.preds.xs f.xs r x (k + 1) = liftV p.preds.xs[r.head.pred.toNat].kind f.xs[posF f.xs (groundF r.body.xs[k].atom x)].v r.n := by
        unfold hvAt headV
        rw [if_pos ⟨hs0, by omega⟩, if_pos hs0, hlo, hlk, hpo]; rfl
      have hI : I64 (f.xs[posF f.xs (groundF r.body.xs[k].atom x)].v + r.n) := by
        have h1 := vOk_iff.1 (fine_v (okf.fine _ (List.getElem_mem hlt)))
        have h2 := ok.n
        unfold I64; omega
      refine WP.regionF mixed I 15 (by kernel_rfl) ?_
      refine OpsF.y_ (v := .pointer (some ⟨_, _, none⟩)) (fun _ => runs_none _) (fun _ w us hl I => Y.fa0 fa_25_0 rfl) ?_
      refine OpsF.y_ (v := .slice _ _ _) (fun _ => runs_none _) (fun _ w us hl I => Y.loadv ty_22 rfl (I.rdbox 5 rfl 0 1) rfl rfl) ?_
      refine OpsF.y_ (v := .pointer (some ⟨_, _, none⟩)) (fun _ => runs_none _) (fun _ w us hl I => Y.fa0 fa_52_0 rfl) ?_
      refine OpsF.y_ (v := .int .i64 _) (fun _ => runs_none _) (fun _ w us hl I => Y.loadv ty_3 rfl (I.rdbox 1 rfl 0 1) rfl rfl) ?_
      refine OpsF.y_ (v := .pointer (some ⟨_, _, none⟩)) (fun _ => runs_none _) (fun _ w us hl I => Y.idxEl Eh Tryz.underlying22 Tryz.sizeOf62 rfl rfl ah.pred.1 rfl) ?_
      refine OpsF.y_ (v := .pointer (some ⟨_, _, none⟩)) (fun _ => runs_none _) (fun _ w us hl I => Y.fa fa_62_2 rfl) ?_
      refine OpsF.y_ (v := .int .i64 _) (fun _ => runs_none _) (fun _ w us hl I => Y.loadv ty_3 rfl (I.rd ((Eh.rd.part 2 1).le hl)) rfl rfl) ?_
      refine OpsF.y_ (v := .slice _ _ _) (fun _ => runs_none _) (fun _ w us hl I => Y.move rfl) ?_
      refine OpsF.y_ (v := .int .i64 _) (fun _ => runs_none _) (fun _ w us hl I => Y.move rfl) ?_
      refine OpsF.y_ (v := .pointer (some ⟨_, _, none⟩)) (fun _ => runs_none _) (fun _ w us hl I => Y.idxEl Ef Tryz.underlying26 Tryz.sizeOf52 rfl rfl (Int.natCast_nonneg _) rfl) ?_
      refine OpsF.y_ (v := .pointer (some ⟨_, _, none⟩)) (fun _ => runs_none _) (fun _ w us hl I => Y.fa fa_52_3 rfl) ?_
      refine OpsF.y_ (v := .int .i64 _) (fun _ => runs_none _) (fun _ w us hl I => Y.loadv ty_3 rfl (I.rd ((Ef.rd.part 3 1).le hl)) rfl rfl) ?_
      refine OpsF.y_ (v := .pointer (some ⟨_, _, none⟩)) (fun _ => runs_none _) (fun _ w us hl I => Y.fa fa_68_2 rfl) ?_
      refine OpsF.y_ (v := .int .i64 _) (fun _ => runs_none _) (fun _ w us hl I => Y.loadv ty_3 rfl (I.rdbox 2 rfl 3 1) rfl rfl) ?_
      refine OpsF.c_ (fun _ => runs_none _) (fun _ w us hl I => O.callv I Tryz.call150 (Lifted_ok _ I.base_ok _ _ _ (by rw [hpo]; exact hkd.2.2) hI) rfl (fun w' I' => ⟨rfl, I'⟩)) ?_
      refine OpsF.nil ?_
      intro _ w hl I
      refine Ops.y (v := .pointer (some ⟨_, _, none⟩)) (Y.fa fa_52_3 rfl) ?_
      refine Ops.go (O.store (v := .int .i64 _) I ty_3 1 rfl rfl rfl rfl rfl rfl (Nat.le_of_ble_eq_true rfl) rfl ?_)
      intro w I
      refine Ops.nil ?_
      refine WP.region ?_
      refine Ops.y (v := .int .i64 _) (Y.addi rfl rfl ⟨by omega, by omega⟩) ?_
      refine Ops.y (v := .int .i64 _) (Y.move rfl) ?_
      refine Ops.nil ?_
      exact ⟨k + 1, ⟨⟨rfl, rfl, rfl, rfl, rfl, rfl, rfl, rfl, rfl, trivial⟩, ⟨_, gl.trans hl, by rw [hval]; exact I.drop⟩, by omega, fun j hj hj' => by
        rcases Nat.lt_succ_iff_lt_or_eq.1 hj with h' | rfl
        · exact hn j h' hj'
        · exact litOk_iff.2 h8⟩, by omega⟩
    · have hval : hvAt p.preds.xs f.xs r x (k + 1) = hvAt p.preds.xs f.xs r x k := by
        unfold hvAt
        have : (0 ≤ r.src ∧ r.src < ((k + 1 : Nat) : Int)) ↔ (0 ≤ r.src ∧ r.src < (k : Int)) := by omega
        simp only [this]
      refine WP.skip ?_
      refine WP.region ?_
      refine Ops.y (v := .int .i64 _) (Y.addi rfl rfl ⟨by omega, by omega⟩) ?_
      refine Ops.y (v := .int .i64 _) (Y.move rfl) ?_
      refine Ops.nil ?_
      exact ⟨k + 1, ⟨⟨rfl, rfl, rfl, rfl, rfl, rfl, rfl, rfl, rfl, trivial⟩, ⟨h1, gl, by rw [hval]; exact I.drop⟩, by omega, fun j hj hj' => by
        rcases Nat.lt_succ_iff_lt_or_eq.1 hj with h' | rfl
        · exact hn j h' hj'
        · exact litOk_iff.2 h8⟩, by omega⟩
  obtain rfl : k = r.body.xs.length := by omega
  have hyes : holdsB f.xs r x = true := by
    unfold holdsB; rw [List.all_eq_true]; intro t ht; obtain ⟨j, hj, rfl⟩ := List.getElem_of_mem ht; exact hn j hj hj
  rw [hvAt_end ok] at I
  refine WP.exit ?_
  refine WP.seq ?_
  refine WP.regionF mixed I 2 (by kernel_rfl) ?_
  refine OpsF.y_ (v := .agg #[_, _, _, _]) (fun _ => runs_none _) (fun _ w us hl I => Y.loadv ty_52 rfl (I.rdbox 0 rfl 0 4) rfl rfl) ?_
  refine OpsF.y_ (v := .bool _) (fun _ => runs_none _) (fun _ w us hl I => Y.assign rfl) ?_
  refine OpsF.nil ?_
  intro _ w hl I
  refine Ops.go (O.store (v := .agg #[_, _, _, _]) I ty_52 2 rfl rfl rfl rfl rfl rfl (Nat.le_of_ble_eq_true rfl) rfl ?_)
  intro w I
  refine Ops.nil ?_
  refine WP.ret ?_
  repeat (first | refine thenE_ret ?_ | refine blockE_ret ?_)
  exact retQ.mk (vs := [.bool _, .agg #[_, _, _, _]]) rfl ⟨rfl, ⟨_, _, _, _, _, rfl, ty_52, I.rdbox 2 rfl 0 4, rfl, rfl⟩, trivial⟩ I.ext_of (by simp only [tup, tHold, holdsF, hyes]; rfl)
/-! ### Binding -/
def nthF (x : Fct) (k : Nat) : Int := if k = 0 then x.a else x.b
theorem pair_drop {a : Atm} {x : Fct} (h2 : a.args.xs.length ≤ 2) {k : Nat} (hk : k < a.args.xs.length) : (pairF a x).drop k = (a.args.xs[k], nthF x k) :: (pairF a x).drop (k + 1) := by
  have hl : (pairF a x).length = a.args.xs.length := by unfold pairF; rw [List.length_zip]; simp only [List.length_cons, List.length_nil]; omega
  rw [List.drop_eq_getElem_cons (by omega)]
  congr 1
  unfold pairF
  rw [List.getElem_zip]
  have : k = 0 ∨ k = 1 := by omega
  rcases this with rfl | rfl <;> rfl
theorem pair_end {a : Atm} {x : Fct} : (pairF a x).drop a.args.xs.length = [] := by
  apply List.drop_eq_nil_of_le
  unfold pairF; rw [List.length_zip]; omega
theorem set_enc {b : Vrs} {v n : Int} (hv : 0 ≤ v ∧ v < 3) : ([b.x0, b.x1, b.x2].set v.toNat n).map (fun n : Int => Value.int .i64 n) = (b.set v n).enc := by
  have : v = 0 ∨ v = 1 ∨ v = 2 := by omega
  rcases this with rfl | rfl | rfl <;> rfl
def withC : Vrs → List (Trm × Int) → Vrs × Bool
  | b, [] => (b, true)
  | b, (t, n) :: r => if cantF b t n then (b, false) else withC (bindF b t n) r
def wcF (b : Vrs) (a : Atm) (x : Fct) : Vrs × Bool := if a.pred ≠ x.pred then (b, false) else withC b (pairF a x)
theorem withC_L : ∀ (ps : List (Trm × Int)) (b : Vrs), withL b ps = if (withC b ps).2 then some (withC b ps).1 else none
  | [], b => rfl
  | (t, n) :: r, b => by
    rw [withL, withC]
    split
    · rfl
    · exact withC_L r _
theorem withF_wc (b : Vrs) (a : Atm) (x : Fct) : withF b a x = if (wcF b a x).2 then some (wcF b a x).1 else none := by
  unfold withF wcF
  split
  · rfl
  · exact withC_L _ _
def tWith (c : Vrs × Bool) : Value := .tuple #[c.1.val, .bool c.2]
set_option maxHeartbeats 4000000 in
theorem with_ok (B : Base) (hB : B.ok) (b : Vrs) (a : Atm) (ha : a.In B.h) (x : Fct) (h2 : a.args.xs.length ≤ 2) (hv : ∀ t ∈ a.args.xs, t.var = true → 0 ≤ t.n ∧ t.n < 3) : Fn Tryz.prog 169 [b.val, a.val, x.val] B (fun v _ => v = tWith (wcF b a x)) := by
  refine Fn.of Tryz.func169 rfl Tryz.ntmps169 (by kernel_rfl) (by simp) ?_
  intro e
  have I := Inv.start hB
  refine WP.seq ?_
  refine WP.region ?_
  refine Ops.go (O.box (v := .agg #[_, _, _]) I rfl rfl ?_)
  intro b3 w I
  refine Ops.go (O.box (v := .agg #[_, _]) I rfl rfl ?_)
  intro b4 w I
  refine Ops.go (O.box (v := .agg #[_, _, _, _]) I rfl rfl ?_)
  intro b5 w I
  refine Ops.go (O.alloc I Tryz.zeroValue193 rfl ?_)
  intro b6 w I
  refine Ops.y (v := .bool _) (Y.assign rfl) ?_
  refine Ops.nil ?_
  refine WP.seq ?_
  refine WP.seq ?_
  refine WP.region ?_
  refine Ops.y (v := .pointer (some ⟨_, _, none⟩)) (Y.fa0 fa_65_0 rfl) ?_
  refine Ops.y (v := .int .i64 _) (Y.loadv ty_3 rfl (I.rdbox 2 rfl 0 1) rfl rfl) ?_
  refine Ops.y (v := .pointer (some ⟨_, _, none⟩)) (Y.fa0 fa_52_0 rfl) ?_
  refine Ops.y (v := .int .i64 _) (Y.loadv ty_3 rfl (I.rdbox 1 rfl 0 1) rfl rfl) ?_
  refine Ops.y (v := .bool (decide _)) (Y.nei rfl rfl) ?_
  refine Ops.nil ?_
  refine WP.cond_dec rfl (fun h1 => ?_) (fun h1 => ?_)
  · refine WP.seq ?_
    refine WP.region ?_
    refine Ops.y (v := .agg #[_, _, _]) (Y.loadv ty_193 rfl (I.rdbox 3 rfl 0 3) rfl rfl) ?_
    refine Ops.go (O.store (v := .agg #[_, _, _]) I ty_193 0 rfl rfl rfl rfl rfl rfl (Nat.le_of_ble_eq_true rfl) rfl ?_)
    intro w I
    refine Ops.y (v := .bool _) (Y.assign rfl) ?_
    refine Ops.nil ?_
    refine WP.ret ?_
    repeat (first | refine thenE_ret ?_ | refine blockE_ret ?_)
    exact retQ.mk (vs := [.agg #[_, _, _], .bool _]) rfl ⟨⟨_, _, _, _, _, rfl, ty_193, I.rdbox 0 rfl 0 3, rfl, rfl⟩, rfl, trivial⟩ I.ext_of (by simp only [tup, tWith, wcF]; rw [if_pos h1])
  refine WP.skip ?_
  refine WP.seq ?_
  refine WP.seq ?_
  refine WP.region ?_
  refine Ops.y (v := .pointer (some ⟨_, _, none⟩)) (Y.fa fa_65_1 rfl) ?_
  refine Ops.y (v := .slice _ _ _) (Y.loadv ty_63 rfl (I.rdbox 2 rfl 1 1) rfl rfl) ?_
  refine Ops.y (v := .int .i64 _) (Y.lens Tryz.underlying63 rfl) ?_
  refine Ops.y (v := .int .i64 _) (Y.move rfl) ?_
  refine Ops.nil ?_
  refine WP.block ?_
  refine WP.loopE (σ := Nat × Vrs) (fun s => [(3, .pointer (some ⟨b3, 0, none⟩)), (4, .pointer (some ⟨b4, 0, none⟩)), (5, .pointer (some ⟨b5, 0, none⟩)), (6, .pointer (some ⟨b6, 0, none⟩)), (18, a.args.val), (19, .int .i64 a.args.xs.length), (20, .int .i64 s.1)])
    (fun s w => Inv B B.h [box b6 [.int .i64 0, .int .i64 0, .int .i64 0] 193, box b5 x.enc 52, box b4 a.enc 65, box b3 s.2.enc 193] w ∧ s.1 ≤ a.args.xs.length ∧ withC b (pairF a x) = withC s.2 ((pairF a x).drop s.1)) (fun s => a.args.xs.length - s.1)
    ⟨(0, b), ⟨rfl, rfl, rfl, rfl, rfl, rfl, rfl, trivial⟩, I, Nat.zero_le _, rfl⟩ ?_
  rintro ⟨k, c⟩ e w ⟨I, hk, hw⟩
  dsimp only at I hk hw ⊢
  refine WP.seq ?_
  refine WP.region ?_
  refine Ops.y (v := .bool (decide _)) (Y.lti rfl rfl) ?_
  refine Ops.nil ?_
  refine WP.seq ?_
  refine WP.cond_dec rfl (fun h => ?_) (fun h => ?_)
  · have hk' : k < a.args.xs.length := by omega
    have E1 := Sl.Is.at ha hk'
    have hpart : (([.int .i64 x.a, .int .i64 x.b] : List Value).drop ((k : Int).toNat * 1)).take 1 = [.int .i64 (nthF x k)] := by
      have : k = 0 ∨ k = 1 := by omega
      rcases this with rfl | rfl <;> rfl
    have hpd := pair_drop (x := x) h2 hk'
    rw [hpd, withC] at hw
    have htn := hv _ (List.getElem_mem hk')
    refine WP.skip ?_
    refine WP.seq ?_
    refine WP.block ?_
    refine WP.seq ?_
    refine WP.region ?_
    refine Ops.y (v := .int .i64 _) (Y.move rfl) ?_
    refine Ops.y (v := .pointer (some ⟨_, _, none⟩)) (Y.idxEl E1 Tryz.underlying63 Tryz.sizeOf91 rfl rfl (Int.natCast_nonneg _) rfl) ?_
    refine Ops.y (v := .agg #[_, _]) (Y.loadv ty_91 rfl (I.rd (E1.rd.part 0 2)) rfl rfl) ?_
    refine Ops.go (O.alloc I Tryz.zeroValue91 rfl ?_)
    intro b9 w I
    refine Ops.y (v := .int .i64 _) (Y.assign rfl) ?_
    refine Ops.go (O.store (v := .agg #[_, _]) I ty_91 0 rfl rfl rfl rfl rfl rfl (Nat.le_of_ble_eq_true rfl) rfl ?_)
    intro w I
    refine Ops.nil ?_
    refine WP.seq ?_
    refine WP.region ?_
    refine Ops.y (v := .pointer (some ⟨_, _, none⟩)) (Y.fa fa_52_1 rfl) ?_
    refine Ops.y (v := .int .i64 _) (Y.loadv ty_3 rfl (I.rdbox 2 rfl 1 1) rfl rfl) ?_
    refine Ops.y (v := .pointer (some ⟨_, _, none⟩)) (Y.fa fa_52_2 rfl) ?_
    refine Ops.y (v := .int .i64 _) (Y.loadv ty_3 rfl (I.rdbox 2 rfl 2 1) rfl rfl) ?_
    refine Ops.y (v := .agg #[.int .i64 _, .int .i64 _]) (Y.builda Tryz.underlying182 Tryz.zeroValue182 Tryz.sizeOf3 rfl rfl) ?_
    refine Ops.y (v := .int .i64 _) (Y.move rfl) ?_
    refine Ops.y (v := .int .i64 _) (Y.idxvv Tryz.underlying182 ty_3 rfl rfl (Int.natCast_nonneg _) (by omega) (part := [.int .i64 (nthF x k)]) hpart rfl rfl) ?_
    refine Ops.y (v := .int .i64 _) (Y.assign rfl) ?_
    refine Ops.nil ?_
    cases hvar : a.args.xs[k].var
    · by_cases hc : a.args.xs[k].n ≠ nthF x k
      · have hcant : cantF c a.args.xs[k] (nthF x k) := .inl ⟨hvar, hc⟩
        rw [if_pos hcant] at hw
        refine WP.block ?_
        refine WP.seq ?_
        refine WP.seq ?_
        refine WP.region ?_
        refine Ops.y (v := .pointer (some ⟨_, _, none⟩)) (Y.fa0 fa_91_0 rfl) ?_
        refine Ops.y (v := .bool _) (Y.loadv ty_4 rfl (I.rdbox 0 rfl 0 1) rfl rfl) ?_
        refine Ops.y (v := .bool true) (Y.b (Y.not rfl) ((by rw [hvar]; rfl))) ?_
        refine Ops.y (v := .bool _) (Y.move rfl) ?_
        refine Ops.ygt rfl (v := .pointer (some ⟨_, _, none⟩)) (Y.fa fa_91_1 rfl) ?_
        refine Ops.ygt rfl (v := .int .i64 _) (Y.loadv ty_3 rfl (I.rdbox 0 rfl 1 1) rfl rfl) ?_
        refine Ops.ygt rfl (v := .int .i64 _) (Y.move rfl) ?_
        refine Ops.ygt rfl (v := .bool true) (Y.dec_t (Y.nei rfl rfl) (hc)) ?_
        refine Ops.y (v := .bool _) (Y.pick_t rfl rfl) ?_
        refine Ops.y (v := .bool _) (Y.assign rfl) ?_
        refine Ops.nil ?_
        refine WP.cond_t rfl ?_
        refine WP.skip ?_
        refine WP.cond_t rfl ?_
        refine WP.seq ?_
        refine WP.region ?_
        refine Ops.y (v := .agg #[_, _, _]) (Y.loadv ty_193 rfl (I.rdbox 4 rfl 0 3) rfl rfl) ?_
        refine Ops.go (O.store (v := .agg #[_, _, _]) I ty_193 1 rfl rfl rfl rfl rfl rfl (Nat.le_of_ble_eq_true rfl) rfl ?_)
        intro w I
        refine Ops.y (v := .bool _) (Y.assign rfl) ?_
        refine Ops.nil ?_
        refine WP.ret ?_
        repeat (first | refine thenE_ret ?_ | refine blockE_ret ?_)
        exact retQ.mk (vs := [.agg #[_, _, _], .bool _]) rfl ⟨⟨_, _, _, _, _, rfl, ty_193, I.rdbox 1 rfl 0 3, rfl, rfl⟩, rfl, trivial⟩ I.ext_of (by simp only [tup, tWith, wcF]; rw [if_neg h1, hw])
      · have hcant : ¬ cantF c a.args.xs[k] (nthF x k) := by rintro (⟨_, q⟩ | ⟨q, _⟩); exact hc q; rw [hvar] at q; cases q
        rw [if_neg hcant] at hw
        have hbn : bindF c a.args.xs[k] (nthF x k) = c := by unfold bindF; rw [hvar]; rfl
        rw [hbn] at hw
        refine WP.block ?_
        refine WP.seq ?_
        refine WP.seq ?_
        refine WP.region ?_
        refine Ops.y (v := .pointer (some ⟨_, _, none⟩)) (Y.fa0 fa_91_0 rfl) ?_
        refine Ops.y (v := .bool _) (Y.loadv ty_4 rfl (I.rdbox 0 rfl 0 1) rfl rfl) ?_
        refine Ops.y (v := .bool true) (Y.b (Y.not rfl) ((by rw [hvar]; rfl))) ?_
        refine Ops.y (v := .bool _) (Y.move rfl) ?_
        refine Ops.ygt rfl (v := .pointer (some ⟨_, _, none⟩)) (Y.fa fa_91_1 rfl) ?_
        refine Ops.ygt rfl (v := .int .i64 _) (Y.loadv ty_3 rfl (I.rdbox 0 rfl 1 1) rfl rfl) ?_
        refine Ops.ygt rfl (v := .int .i64 _) (Y.move rfl) ?_
        refine Ops.ygt rfl (v := .bool false) (Y.dec_f (Y.nei rfl rfl) (hc)) ?_
        refine Ops.y (v := .bool _) (Y.pick_t rfl rfl) ?_
        refine Ops.y (v := .bool _) (Y.assign rfl) ?_
        refine Ops.nil ?_
        refine WP.cond_f rfl ?_
        refine WP.region ?_
        refine Ops.y (v := .pointer (some ⟨_, _, none⟩)) (Y.fa0 fa_91_0 rfl) ?_
        refine Ops.y (v := .bool _) (Y.loadv ty_4 rfl (I.rdbox 0 rfl 0 1) rfl rfl) ?_
        refine Ops.y (v := .bool false) (Y.b (Y.move rfl) (hvar)) ?_
        refine Ops.gf rfl ?_
        refine Ops.gf rfl ?_
        refine Ops.gf rfl ?_
        refine Ops.gf rfl ?_
        refine Ops.gf rfl ?_
        refine Ops.y (v := .bool _) (Y.pick_f rfl rfl) ?_
        refine Ops.y (v := .bool _) (Y.move rfl) ?_
        refine Ops.gf rfl ?_
        refine Ops.gf rfl ?_
        refine Ops.gf rfl ?_
        refine Ops.gf rfl ?_
        refine Ops.gf rfl ?_
        refine Ops.gf rfl ?_
        refine Ops.y (v := .bool _) (Y.pick_f rfl rfl) ?_
        refine Ops.y (v := .bool _) (Y.assign rfl) ?_
        refine Ops.nil ?_
        refine WP.cond_f rfl ?_
        refine WP.seq ?_
        refine WP.region ?_
        refine Ops.y (v := .pointer (some ⟨_, _, none⟩)) (Y.fa0 fa_91_0 rfl) ?_
        refine Ops.y (v := .bool false) (Y.b (Y.loadv ty_4 rfl (I.rdbox 0 rfl 0 1) rfl rfl) (hvar)) ?_
        refine Ops.y (v := .bool _) (Y.assign rfl) ?_
        refine Ops.nil ?_
        refine WP.cond_f rfl ?_
        refine WP.skip ?_
        refine WP.region ?_
        refine Ops.y (v := .int .i64 _) (Y.addi rfl rfl ⟨by omega, by omega⟩) ?_
        refine Ops.y (v := .int .i64 _) (Y.move rfl) ?_
        refine Ops.nil ?_
        exact ⟨(k + 1, c), ⟨⟨rfl, rfl, rfl, rfl, rfl, rfl, rfl, trivial⟩, I.drop, by dsimp only; omega, hw⟩, by dsimp only; omega⟩
    · have ht := htn hvar
      by_cases hc0 : 0 ≤ c.at a.args.xs[k].n
      · by_cases hc1 : c.at a.args.xs[k].n ≠ nthF x k
        · have hcant : cantF c a.args.xs[k] (nthF x k) := .inr ⟨hvar, hc0, hc1⟩
          rw [if_pos hcant] at hw
          refine WP.block ?_
          refine WP.seq ?_
          refine WP.seq ?_
          refine WP.region ?_
          refine Ops.y (v := .pointer (some ⟨_, _, none⟩)) (Y.fa0 fa_91_0 rfl) ?_
          refine Ops.y (v := .bool _) (Y.loadv ty_4 rfl (I.rdbox 0 rfl 0 1) rfl rfl) ?_
          refine Ops.y (v := .bool false) (Y.b (Y.not rfl) ((by rw [hvar]; rfl))) ?_
          refine Ops.y (v := .bool _) (Y.move rfl) ?_
          refine Ops.gf rfl ?_
          refine Ops.gf rfl ?_
          refine Ops.gf rfl ?_
          refine Ops.gf rfl ?_
          refine Ops.y (v := .bool _) (Y.pick_f rfl rfl) ?_
          refine Ops.y (v := .bool _) (Y.assign rfl) ?_
          refine Ops.nil ?_
          refine WP.cond_f rfl ?_
          refine WP.region ?_
          refine Ops.y (v := .pointer (some ⟨_, _, none⟩)) (Y.fa0 fa_91_0 rfl) ?_
          refine Ops.y (v := .bool _) (Y.loadv ty_4 rfl (I.rdbox 0 rfl 0 1) rfl rfl) ?_
          refine Ops.y (v := .bool true) (Y.b (Y.move rfl) (hvar)) ?_
          refine Ops.ygt rfl (v := .pointer (some ⟨_, _, none⟩)) (Y.fa fa_91_1 rfl) ?_
          refine Ops.ygt rfl (v := .int .i64 _) (Y.loadv ty_3 rfl (I.rdbox 0 rfl 1 1) rfl rfl) ?_
          refine Ops.ygt rfl (v := .pointer (some ⟨_, _, none⟩)) (Y.idxa Tryz.underlying193 Tryz.sizeOf3 rfl rfl ht.1 ht.2) ?_
          refine Ops.ygt rfl (v := .int .i64 _) (Y.loadv ty_3 rfl (Rd.vrs (I.rdbox 4 rfl 0 3) ht.1 ht.2) rfl rfl) ?_
          refine Ops.ygt rfl (v := .bool true) (Y.dec_t (Y.gei rfl rfl) (hc0)) ?_
          refine Ops.y (v := .bool _) (Y.pick_t rfl rfl) ?_
          refine Ops.y (v := .bool _) (Y.move rfl) ?_
          refine Ops.ygt rfl (v := .pointer (some ⟨_, _, none⟩)) (Y.fa fa_91_1 rfl) ?_
          refine Ops.ygt rfl (v := .int .i64 _) (Y.loadv ty_3 rfl (I.rdbox 0 rfl 1 1) rfl rfl) ?_
          refine Ops.ygt rfl (v := .pointer (some ⟨_, _, none⟩)) (Y.idxa Tryz.underlying193 Tryz.sizeOf3 rfl rfl ht.1 ht.2) ?_
          refine Ops.ygt rfl (v := .int .i64 _) (Y.loadv ty_3 rfl (Rd.vrs (I.rdbox 4 rfl 0 3) ht.1 ht.2) rfl rfl) ?_
          refine Ops.ygt rfl (v := .int .i64 _) (Y.move rfl) ?_
          refine Ops.ygt rfl (v := .bool true) (Y.dec_t (Y.nei rfl rfl) (hc1)) ?_
          refine Ops.y (v := .bool _) (Y.pick_t rfl rfl) ?_
          refine Ops.y (v := .bool _) (Y.assign rfl) ?_
          refine Ops.nil ?_
          refine WP.cond_t rfl ?_
          refine WP.seq ?_
          refine WP.region ?_
          refine Ops.y (v := .agg #[_, _, _]) (Y.loadv ty_193 rfl (I.rdbox 4 rfl 0 3) rfl rfl) ?_
          refine Ops.go (O.store (v := .agg #[_, _, _]) I ty_193 1 rfl rfl rfl rfl rfl rfl (Nat.le_of_ble_eq_true rfl) rfl ?_)
          intro w I
          refine Ops.y (v := .bool _) (Y.assign rfl) ?_
          refine Ops.nil ?_
          refine WP.ret ?_
          repeat (first | refine thenE_ret ?_ | refine blockE_ret ?_)
          exact retQ.mk (vs := [.agg #[_, _, _], .bool _]) rfl ⟨⟨_, _, _, _, _, rfl, ty_193, I.rdbox 1 rfl 0 3, rfl, rfl⟩, rfl, trivial⟩ I.ext_of (by simp only [tup, tWith, wcF]; rw [if_neg h1, hw])
        · have hcant : ¬ cantF c a.args.xs[k] (nthF x k) := by rintro (⟨q, _⟩ | ⟨_, _, q⟩); rw [hvar] at q; cases q; exact hc1 q
          rw [if_neg hcant] at hw
          have hbn : bindF c a.args.xs[k] (nthF x k) = c.set a.args.xs[k].n (nthF x k) := by unfold bindF; rw [hvar]; rfl
          rw [hbn] at hw
          refine WP.block ?_
          refine WP.seq ?_
          refine WP.seq ?_
          refine WP.region ?_
          refine Ops.y (v := .pointer (some ⟨_, _, none⟩)) (Y.fa0 fa_91_0 rfl) ?_
          refine Ops.y (v := .bool _) (Y.loadv ty_4 rfl (I.rdbox 0 rfl 0 1) rfl rfl) ?_
          refine Ops.y (v := .bool false) (Y.b (Y.not rfl) ((by rw [hvar]; rfl))) ?_
          refine Ops.y (v := .bool _) (Y.move rfl) ?_
          refine Ops.gf rfl ?_
          refine Ops.gf rfl ?_
          refine Ops.gf rfl ?_
          refine Ops.gf rfl ?_
          refine Ops.y (v := .bool _) (Y.pick_f rfl rfl) ?_
          refine Ops.y (v := .bool _) (Y.assign rfl) ?_
          refine Ops.nil ?_
          refine WP.cond_f rfl ?_
          refine WP.region ?_
          refine Ops.y (v := .pointer (some ⟨_, _, none⟩)) (Y.fa0 fa_91_0 rfl) ?_
          refine Ops.y (v := .bool _) (Y.loadv ty_4 rfl (I.rdbox 0 rfl 0 1) rfl rfl) ?_
          refine Ops.y (v := .bool true) (Y.b (Y.move rfl) (hvar)) ?_
          refine Ops.ygt rfl (v := .pointer (some ⟨_, _, none⟩)) (Y.fa fa_91_1 rfl) ?_
          refine Ops.ygt rfl (v := .int .i64 _) (Y.loadv ty_3 rfl (I.rdbox 0 rfl 1 1) rfl rfl) ?_
          refine Ops.ygt rfl (v := .pointer (some ⟨_, _, none⟩)) (Y.idxa Tryz.underlying193 Tryz.sizeOf3 rfl rfl ht.1 ht.2) ?_
          refine Ops.ygt rfl (v := .int .i64 _) (Y.loadv ty_3 rfl (Rd.vrs (I.rdbox 4 rfl 0 3) ht.1 ht.2) rfl rfl) ?_
          refine Ops.ygt rfl (v := .bool true) (Y.dec_t (Y.gei rfl rfl) (hc0)) ?_
          refine Ops.y (v := .bool _) (Y.pick_t rfl rfl) ?_
          refine Ops.y (v := .bool _) (Y.move rfl) ?_
          refine Ops.ygt rfl (v := .pointer (some ⟨_, _, none⟩)) (Y.fa fa_91_1 rfl) ?_
          refine Ops.ygt rfl (v := .int .i64 _) (Y.loadv ty_3 rfl (I.rdbox 0 rfl 1 1) rfl rfl) ?_
          refine Ops.ygt rfl (v := .pointer (some ⟨_, _, none⟩)) (Y.idxa Tryz.underlying193 Tryz.sizeOf3 rfl rfl ht.1 ht.2) ?_
          refine Ops.ygt rfl (v := .int .i64 _) (Y.loadv ty_3 rfl (Rd.vrs (I.rdbox 4 rfl 0 3) ht.1 ht.2) rfl rfl) ?_
          refine Ops.ygt rfl (v := .int .i64 _) (Y.move rfl) ?_
          refine Ops.ygt rfl (v := .bool false) (Y.dec_f (Y.nei rfl rfl) (hc1)) ?_
          refine Ops.y (v := .bool _) (Y.pick_t rfl rfl) ?_
          refine Ops.y (v := .bool _) (Y.assign rfl) ?_
          refine Ops.nil ?_
          refine WP.cond_f rfl ?_
          refine WP.seq ?_
          refine WP.region ?_
          refine Ops.y (v := .pointer (some ⟨_, _, none⟩)) (Y.fa0 fa_91_0 rfl) ?_
          refine Ops.y (v := .bool true) (Y.b (Y.loadv ty_4 rfl (I.rdbox 0 rfl 0 1) rfl rfl) (hvar)) ?_
          refine Ops.y (v := .bool _) (Y.assign rfl) ?_
          refine Ops.nil ?_
          refine WP.cond_t rfl ?_
          refine WP.region ?_
          refine Ops.y (v := .pointer (some ⟨_, _, none⟩)) (Y.fa fa_91_1 rfl) ?_
          refine Ops.y (v := .int .i64 _) (Y.loadv ty_3 rfl (I.rdbox 0 rfl 1 1) rfl rfl) ?_
          refine Ops.y (v := .int .i64 _) (Y.move rfl) ?_
          refine Ops.y (v := .pointer (some ⟨_, _, none⟩)) (Y.idxa Tryz.underlying193 Tryz.sizeOf3 rfl rfl ht.1 ht.2) ?_
          refine Ops.go (O.store1 I ty_3 4 rfl rfl (f := fun n : Int => Value.int .i64 n) (L := [c.x0, c.x1, c.x2]) (i := a.args.xs[k].n.toNat) (by omega) (by simp only [List.length_cons, List.length_nil]; omega) rfl rfl rfl ?_)
          intro w I
          refine Ops.nil ?_
          refine WP.region ?_
          refine Ops.y (v := .int .i64 _) (Y.addi rfl rfl ⟨by omega, by omega⟩) ?_
          refine Ops.y (v := .int .i64 _) (Y.move rfl) ?_
          refine Ops.nil ?_
          rw [set_enc ht] at I
          exact ⟨(k + 1, c.set a.args.xs[k].n (nthF x k)), ⟨⟨rfl, rfl, rfl, rfl, rfl, rfl, rfl, trivial⟩, I.drop, by dsimp only; omega, hw⟩, by dsimp only; omega⟩
      · have hcant : ¬ cantF c a.args.xs[k] (nthF x k) := by rintro (⟨q, _⟩ | ⟨_, q, _⟩); rw [hvar] at q; cases q; exact hc0 q
        rw [if_neg hcant] at hw
        have hbn : bindF c a.args.xs[k] (nthF x k) = c.set a.args.xs[k].n (nthF x k) := by unfold bindF; rw [hvar]; rfl
        rw [hbn] at hw
        refine WP.block ?_
        refine WP.seq ?_
        refine WP.seq ?_
        refine WP.region ?_
        refine Ops.y (v := .pointer (some ⟨_, _, none⟩)) (Y.fa0 fa_91_0 rfl) ?_
        refine Ops.y (v := .bool _) (Y.loadv ty_4 rfl (I.rdbox 0 rfl 0 1) rfl rfl) ?_
        refine Ops.y (v := .bool false) (Y.b (Y.not rfl) ((by rw [hvar]; rfl))) ?_
        refine Ops.y (v := .bool _) (Y.move rfl) ?_
        refine Ops.gf rfl ?_
        refine Ops.gf rfl ?_
        refine Ops.gf rfl ?_
        refine Ops.gf rfl ?_
        refine Ops.y (v := .bool _) (Y.pick_f rfl rfl) ?_
        refine Ops.y (v := .bool _) (Y.assign rfl) ?_
        refine Ops.nil ?_
        refine WP.cond_f rfl ?_
        refine WP.region ?_
        refine Ops.y (v := .pointer (some ⟨_, _, none⟩)) (Y.fa0 fa_91_0 rfl) ?_
        refine Ops.y (v := .bool _) (Y.loadv ty_4 rfl (I.rdbox 0 rfl 0 1) rfl rfl) ?_
        refine Ops.y (v := .bool true) (Y.b (Y.move rfl) (hvar)) ?_
        refine Ops.ygt rfl (v := .pointer (some ⟨_, _, none⟩)) (Y.fa fa_91_1 rfl) ?_
        refine Ops.ygt rfl (v := .int .i64 _) (Y.loadv ty_3 rfl (I.rdbox 0 rfl 1 1) rfl rfl) ?_
        refine Ops.ygt rfl (v := .pointer (some ⟨_, _, none⟩)) (Y.idxa Tryz.underlying193 Tryz.sizeOf3 rfl rfl ht.1 ht.2) ?_
        refine Ops.ygt rfl (v := .int .i64 _) (Y.loadv ty_3 rfl (Rd.vrs (I.rdbox 4 rfl 0 3) ht.1 ht.2) rfl rfl) ?_
        refine Ops.ygt rfl (v := .bool false) (Y.dec_f (Y.gei rfl rfl) (hc0)) ?_
        refine Ops.y (v := .bool _) (Y.pick_t rfl rfl) ?_
        refine Ops.y (v := .bool _) (Y.move rfl) ?_
        refine Ops.gf rfl ?_
        refine Ops.gf rfl ?_
        refine Ops.gf rfl ?_
        refine Ops.gf rfl ?_
        refine Ops.gf rfl ?_
        refine Ops.gf rfl ?_
        refine Ops.y (v := .bool _) (Y.pick_f rfl rfl) ?_
        refine Ops.y (v := .bool _) (Y.assign rfl) ?_
        refine Ops.nil ?_
        refine WP.cond_f rfl ?_
        refine WP.seq ?_
        refine WP.region ?_
        refine Ops.y (v := .pointer (some ⟨_, _, none⟩)) (Y.fa0 fa_91_0 rfl) ?_
        refine Ops.y (v := .bool true) (Y.b (Y.loadv ty_4 rfl (I.rdbox 0 rfl 0 1) rfl rfl) (hvar)) ?_
        refine Ops.y (v := .bool _) (Y.assign rfl) ?_
        refine Ops.nil ?_
        refine WP.cond_t rfl ?_
        refine WP.region ?_
        refine Ops.y (v := .pointer (some ⟨_, _, none⟩)) (Y.fa fa_91_1 rfl) ?_
        refine Ops.y (v := .int .i64 _) (Y.loadv ty_3 rfl (I.rdbox 0 rfl 1 1) rfl rfl) ?_
        refine Ops.y (v := .int .i64 _) (Y.move rfl) ?_
        refine Ops.y (v := .pointer (some ⟨_, _, none⟩)) (Y.idxa Tryz.underlying193 Tryz.sizeOf3 rfl rfl ht.1 ht.2) ?_
        refine Ops.go (O.store1 I ty_3 4 rfl rfl (f := fun n : Int => Value.int .i64 n) (L := [c.x0, c.x1, c.x2]) (i := a.args.xs[k].n.toNat) (by omega) (by simp only [List.length_cons, List.length_nil]; omega) rfl rfl rfl ?_)
        intro w I
        refine Ops.nil ?_
        refine WP.region ?_
        refine Ops.y (v := .int .i64 _) (Y.addi rfl rfl ⟨by omega, by omega⟩) ?_
        refine Ops.y (v := .int .i64 _) (Y.move rfl) ?_
        refine Ops.nil ?_
        rw [set_enc ht] at I
        exact ⟨(k + 1, c.set a.args.xs[k].n (nthF x k)), ⟨⟨rfl, rfl, rfl, rfl, rfl, rfl, rfl, trivial⟩, I.drop, by dsimp only; omega, hw⟩, by dsimp only; omega⟩
  obtain rfl : k = a.args.xs.length := by omega
  rw [pair_end, withC] at hw
  refine WP.exit ?_
  refine WP.seq ?_
  refine WP.region ?_
  refine Ops.y (v := .agg #[_, _, _]) (Y.loadv ty_193 rfl (I.rdbox 3 rfl 0 3) rfl rfl) ?_
  refine Ops.go (O.store (v := .agg #[_, _, _]) I ty_193 0 rfl rfl rfl rfl rfl rfl (Nat.le_of_ble_eq_true rfl) rfl ?_)
  intro w I
  refine Ops.y (v := .bool _) (Y.assign rfl) ?_
  refine Ops.nil ?_
  refine WP.ret ?_
  repeat (first | refine thenE_ret ?_ | refine blockE_ret ?_)
  exact retQ.mk (vs := [.agg #[_, _, _], .bool _]) rfl ⟨⟨_, _, _, _, _, rfl, ty_193, I.rdbox 0 rfl 0 3, rfl, rfl⟩, rfl, trivial⟩ I.ext_of (by simp only [tup, tWith, wcF]; rw [if_neg h1, hw])
end Go.TF
end
section
/- Regions that draw their order, over knowledge of any kind: pieces may be made and written in them. -/
namespace Go.TF
open Go Go.RowKit

abbrev Sq (σ : Type) := Value → σ → Prop
structure Pre {σ : Type} (R : σ → σ → Prop) : Prop where
  refl : ∀ s, R s s
  trans : ∀ a b c, R a b → R b c → R a c
section
variable {σ : Type}
def ovrG (e : Env) : List (Nat × Sq σ) → Env → Env
  | [], _ => e
  | p :: L, us => upd (ovrG e L us) p.1 (us p.1)
def AllG (c : Nat → Bool) (h : σ) : List (Nat × Sq σ) → Env → (Env → Prop) → Prop
  | [], e, k => k e
  | p :: L, e, k => AllG c h L e fun e' => ∀ u, (c p.1 = true → p.2 u h) → k (upd e' p.1 u)
theorem AllG.get {c : Nat → Bool} {h : σ} : ∀ {L : List (Nat × Sq σ)} {e : Env} {k : Env → Prop}, AllG c h L e k → ∀ us, (∀ p ∈ L, c p.1 = true → p.2 (us p.1) h) → k (ovrG e L us)
  | [], _, _, a, _, _ => a
  | _ :: L, _, _, a, us, hp => AllG.get (L := L) a us (fun q hq => hp q (List.mem_cons_of_mem _ hq)) (us _) (hp _ (List.mem_cons_self ..))
def MonoG (R : σ → σ → Prop) (Φ : Sq σ) : Prop := ∀ u h h', R h h' → Φ u h → Φ u h'
def setD (D : Nat → Bool) (k : Nat) : Nat → Bool := fun j => j == k || D j
def OblG (P : Program) (full : Array Oper) (J : (Nat → Bool) → σ → World → Prop) (R : σ → σ → Prop) (h0 : σ) (k : Nat) (L : List (Nat × Sq σ)) (e : Env) (o : Oper) (Φ : Sq σ) : Prop :=
  ∀ D h1 w, D k = false → R h0 h1 → J D h1 w → AllG (lk full o) h1 L e fun e' => Op1 P o e' w fun u w' => ∃ h2, R h1 h2 ∧ J (setD D k) h2 w' ∧ Φ u h2
def OpsG (P : Program) (full : Array Oper) (J : (Nat → Bool) → σ → World → Prop) (R : σ → σ → Prop) (h0 : σ) : Nat → List (Nat × Sq σ) → List Oper → Env → (List (Nat × Sq σ) → Env → Prop) → Prop
  | _, L, [], e, K => K L e
  | k, L, o :: r, e, K =>
    ((∀ us, runs full (ovrG e L us) o = false) ∧ (∀ D s w, D k = false → J D s w → J (setD D k) s w) ∧ OpsG P full J R h0 (k + 1) L r (updo e o.dst undef) K) ∨
    ((∀ us, runs full (ovrG e L us) o = true) ∧
      ((∃ v, OblG P full J R h0 k L e o (fun u _ => u = v) ∧ OpsG P full J R h0 (k + 1) L r (updo e o.dst v) K) ∨
       (∃ d Φ, o.dst = some d ∧ MonoG R Φ ∧ OblG P full J R h0 k L e o Φ ∧ OpsG P full J R h0 (k + 1) ((d, Φ) :: L) r e K)))

theorem ovrG_notin {e us : Env} {d : Nat} : ∀ {L : List (Nat × Sq σ)}, (∀ p ∈ L, p.1 ≠ d) → ovrG e L us d = e d
  | [], _ => rfl
  | p :: L, h => by
    simp only [ovrG]
    rw [upd_ne _ _ (Ne.symm (h p (List.mem_cons_self ..)))]
    exact ovrG_notin fun q hq => h q (List.mem_cons_of_mem _ hq)
theorem ovrG_upd_ne {e us : Env} {d i : Nat} {v : Value} (h : i ≠ d) : ∀ (L : List (Nat × Sq σ)), ovrG (upd e d v) L us i = ovrG e L us i
  | [] => upd_ne _ _ h
  | p :: L => by
    simp only [ovrG]
    by_cases hp : i = p.1
    · subst hp; rw [upd_eq, upd_eq]
    · rw [upd_ne _ _ hp, upd_ne _ _ hp, ovrG_upd_ne h L]

section
variable (P : Program) (ops : Array Oper) (J : (Nat → Bool) → σ → World → Prop) (R : σ → σ → Prop) (h0 : σ) (e0 : Env)
def OkG (Ss : List (Sq σ)) (k : Nat) (f : Env) (h : σ) (d : Nat) : Prop :=
  (∀ j Φ, j < k → dstO ops j = some d → Ss[j]? = some Φ → Φ (f d) h) ∧ ((∀ j, j < k → dstO ops j ≠ some d) → f d = e0 d)
structure RelG (Ss : List (Sq σ)) (L : List (Nat × Sq σ)) (e : Env) : Prop where
  eq : ∀ f h d, OkG ops e0 Ss Ss.length f h d → ovrG e L f d = f d
  sub : ∀ p ∈ L, ∃ k, k < Ss.length ∧ dstO ops k = some p.1 ∧ Ss[k]? = some p.2
def LSG (Ss : List (Sq σ)) (i : Nat) : Prop := ∀ o Φ f D h1 w, ops[i]? = some o → Ss[i]? = some Φ → D i = false → R h0 h1 → J D h1 w → (∀ d ∈ o.looksAt ops, OkG ops e0 Ss i f h1 d) →
  (runs ops f o = true → Op1 P o f w fun u w' => ∃ h2, R h1 h2 ∧ J (setD D i) h2 w' ∧ Φ u h2) ∧ (runs ops f o = false → Φ undef h1 ∧ J (setD D i) h1 w)
end
section
variable {P : Program} {ops : Array Oper} {J : (Nat → Bool) → σ → World → Prop} {R : σ → σ → Prop} {h0 : σ} {e0 : Env} {m : Nat}
theorem OkG.snoc {Ss : List (Sq σ)} {Φ : Sq σ} {k : Nat} {f : Env} {h : σ} {d : Nat} (hk : k ≤ Ss.length) : OkG ops e0 (Ss ++ [Φ]) k f h d ↔ OkG ops e0 Ss k f h d := by
  unfold OkG
  refine and_congr ⟨fun a j Ψ hj h1 h2 => a j Ψ hj h1 (by rw [get_snoc (by omega)]; exact h2), fun a j Ψ hj h1 h2 => a j Ψ hj h1 (by rw [get_snoc (by omega)] at h2; exact h2)⟩ Iff.rfl
theorem LSG.snoc {Ss : List (Sq σ)} {Φ : Sq σ} {k : Nat} (hk : k < Ss.length) (h : LSG P ops J R h0 e0 Ss k) : LSG P ops J R h0 e0 (Ss ++ [Φ]) k := by
  intro o Ψ f D h1 w ho hp hD hl I hd
  rw [get_snoc hk] at hp
  exact h o Ψ f D h1 w ho hp hD hl I fun d hm => (OkG.snoc (by omega)).1 (hd d hm)
theorem OpsG.sound (hF : Flow ops m) : ∀ (l : List Oper) (Ss : List (Sq σ)) (L : List (Nat × Sq σ)) (e : Env) (K : List (Nat × Sq σ) → Env → Prop), (∀ j, l[j]? = (ops.toList.take m)[Ss.length + j]?) → Ss.length + l.length = m →
    RelG ops e0 Ss L e → (∀ k, k < Ss.length → LSG P ops J R h0 e0 Ss k) → (∀ Φ ∈ Ss, MonoG R Φ) → OpsG P ops J R h0 Ss.length L l e K →
    ∃ Ss' L' e', Ss'.length = m ∧ RelG ops e0 Ss' L' e' ∧ (∀ k, k < m → LSG P ops J R h0 e0 Ss' k) ∧ (∀ Φ ∈ Ss', MonoG R Φ) ∧ K L' e'
  | [], Ss, L, e, K, _, hm, hr, hs, hmo, h => ⟨Ss, L, e, by simpa using hm, hr, by simpa [← hm] using hs, hmo, h⟩
  | o :: r, Ss, L, e, K, hl, hm, hr, hs, hmo, h => by
    simp only [List.length_cons] at hm
    have hi : ops[Ss.length]? = some o := by
      have := hl 0
      simp only [List.getElem?_cons_zero, Nat.add_zero, List.getElem?_take] at this
      rw [if_pos (by omega)] at this
      simpa using this.symm
    have hdst : dstO ops Ss.length = o.dst := by simp [dstO, hi]
    have hdist : ∀ k d, k < Ss.length → dstO ops k = some d → o.dst ≠ some d := fun k d hk hd hod => by
      cases hok : ops[k]? with
      | none => simp [dstO, hok] at hd
      | some ok =>
        simp [dstO, hok] at hd
        have := hF.dist k Ss.length ok o d (by omega) (by omega) hok hi hd hod
        omega
    have hagree : ∀ f h1, (∀ d ∈ o.looksAt ops, OkG ops e0 Ss Ss.length f h1 d) → ∀ d ∈ o.looksAt ops, ovrG e L f d = f d := fun f h1 hd d hdm => hr.eq f h1 d (hd d hdm)
    have hLd : ∀ f h1, (∀ d ∈ o.looksAt ops, OkG ops e0 Ss Ss.length f h1 d) → ∀ p ∈ L, lk ops o p.1 = true → p.2 (f p.1) h1 := fun f h1 hd p hp hk => by
      obtain ⟨k, k1, k2, k3⟩ := hr.sub p hp
      exact (hd p.1 (by simpa [lk] using hk)).1 k p.2 k1 k2 k3
    have next : ∀ Φ L1 e1, MonoG R Φ → LSG P ops J R h0 e0 (Ss ++ [Φ]) Ss.length → RelG ops e0 (Ss ++ [Φ]) L1 e1 → OpsG P ops J R h0 (Ss.length + 1) L1 r e1 K →
        ∃ Ss' L' e', Ss'.length = m ∧ RelG ops e0 Ss' L' e' ∧ (∀ k, k < m → LSG P ops J R h0 e0 Ss' k) ∧ (∀ Φ ∈ Ss', MonoG R Φ) ∧ K L' e' := fun Φ L1 e1 hΦ hls hrel hops => by
      refine OpsG.sound hF r (Ss ++ [Φ]) L1 e1 K (fun j => ?_) (by simp; omega) hrel (fun k hk => ?_) (fun Ψ hΨ => ?_) (by rw [List.length_append]; exact hops)
      · have := hl (j + 1)
        simp only [List.getElem?_cons_succ] at this
        rw [this, List.length_append, List.length_cons, List.length_nil]; congr 1; omega
      · simp only [List.length_append, List.length_cons, List.length_nil] at hk
        by_cases hk' : k < Ss.length
        · exact (hs k hk').snoc hk'
        · have : k = Ss.length := by omega
          subst this; exact hls
      · rcases List.mem_append.1 hΨ with h1 | h1
        · exact hmo Ψ h1
        · simp at h1; subst h1; exact hΦ
    have relV : ∀ v (Φ : Sq σ), (∀ u h1, Φ u h1 → u = v) → RelG ops e0 (Ss ++ [Φ]) L (updo e o.dst v) := fun v Φ hΦ => by
      refine ⟨fun f h1 d hok => ?_, fun p hp => ?_⟩
      · cases hod : o.dst with
        | none =>
          refine hr.eq f h1 d ?_
          refine ⟨fun j Ψ hj a b => hok.1 j Ψ (by simp; omega) a (by rw [get_snoc hj]; exact b), fun hn => hok.2 fun j hj => ?_⟩
          simp only [List.length_append, List.length_cons, List.length_nil] at hj
          by_cases hj' : j < Ss.length
          · exact hn j hj'
          · have : j = Ss.length := by omega
            subst this; rw [hdst, hod]; exact fun hh => by cases hh
        | some t =>
          simp only [updo]
          by_cases hdt : d = t
          · subst hdt
            rw [ovrG_notin, upd_eq]
            · exact (hΦ _ h1 (hok.1 Ss.length Φ (by simp) (by rw [hdst, hod]) (by simp))).symm
            · intro p hp hpd
              obtain ⟨k, k1, k2, _⟩ := hr.sub p hp
              exact hdist k _ k1 k2 (by rw [hod, hpd])
          · rw [ovrG_upd_ne hdt]
            refine hr.eq f h1 d ⟨fun j Ψ hj a b => hok.1 j Ψ (by simp; omega) a (by rw [get_snoc hj]; exact b), fun hn => hok.2 fun j hj => ?_⟩
            simp only [List.length_append, List.length_cons, List.length_nil] at hj
            by_cases hj' : j < Ss.length
            · exact hn j hj'
            · have : j = Ss.length := by omega
              subst this; rw [hdst, hod]; exact fun hh => by cases hh; exact hdt rfl
      · obtain ⟨k, k1, k2, k3⟩ := hr.sub p hp
        exact ⟨k, by simp; omega, k2, by rw [get_snoc k1]; exact k3⟩
    have hsel := fun cs b => Region.noSelect_spec hF.sel Ss.length o cs b hi
    simp only [OpsG] at h
    rcases h with ⟨hru, hJd, h⟩ | ⟨hru, ⟨v, hob, h⟩ | ⟨d, Φ, hod, hΦ, hob, h⟩⟩
    · refine next (fun u _ => u = undef) L _ (fun _ _ _ _ e => e) ?_ (relV undef _ fun _ _ e => e) h
      intro o' Φ' f D h1 w ho' hp' hD hl1 I hd
      rw [hi] at ho'; cases ho'
      simp at hp'; subst hp'
      have hd' := fun d hm => (OkG.snoc (Nat.le_refl _)).1 (hd d hm)
      refine ⟨fun hrt => ?_, fun _ => ⟨rfl, hJd D h1 w hD I⟩⟩
      rw [← runs_congr (hagree f h1 hd'), hru] at hrt
      cases hrt
    · refine next (fun u _ => u = v) L _ (fun _ _ _ _ e => e) ?_ (relV v _ fun _ _ e => e) h
      intro o' Φ' f D h1 w ho' hp' hD hl1 I hd
      rw [hi] at ho'; cases ho'
      simp at hp'; subst hp'
      have hd' := fun d hm => (OkG.snoc (Nat.le_refl _)).1 (hd d hm)
      refine ⟨fun _ => Op1_congr hsel (hagree f h1 hd') ((hob D h1 w hD hl1 I).get f (hLd f h1 hd')), fun hrf => ?_⟩
      rw [← runs_congr (hagree f h1 hd'), hru] at hrf
      cases hrf
    · refine next Φ ((d, Φ) :: L) e hΦ ?_ ⟨fun f h1 i hok => ?_, fun p hp => ?_⟩ h
      · intro o' Φ' f D h1 w ho' hp' hD hl1 I hd
        rw [hi] at ho'; cases ho'
        simp at hp'; subst hp'
        have hd' := fun d hm => (OkG.snoc (Nat.le_refl _)).1 (hd d hm)
        refine ⟨fun _ => Op1_congr hsel (hagree f h1 hd') ((hob D h1 w hD hl1 I).get f (hLd f h1 hd')), fun hrf => ?_⟩
        rw [← runs_congr (hagree f h1 hd'), hru] at hrf
        cases hrf
      · simp only [ovrG]
        by_cases hdt : i = d
        · subst hdt; rw [upd_eq]
        · rw [upd_ne _ _ hdt]
          refine hr.eq f h1 i ⟨fun j Ψ hj a b => hok.1 j Ψ (by simp; omega) a (by rw [get_snoc hj]; exact b), fun hn => hok.2 fun j hj => ?_⟩
          simp only [List.length_append, List.length_cons, List.length_nil] at hj
          by_cases hj' : j < Ss.length
          · exact hn j hj'
          · have : j = Ss.length := by omega
            subst this; rw [hdst, hod]; exact fun hh => by cases hh; exact hdt rfl
      · rcases List.mem_cons.1 hp with rfl | hp
        · exact ⟨Ss.length, by simp, by rw [hdst, hod], by simp⟩
        · obtain ⟨k, k1, k2, k3⟩ := hr.sub p hp
          exact ⟨k, by simp; omega, k2, by rw [get_snoc k1]; exact k3⟩

/-! ### Every order -/
structure StG (ops : Array Oper) (m : Nat) (J : (Nat → Bool) → σ → World → Prop) (R : σ → σ → Prop) (h0 : σ) (e0 : Env) (Ss : List (Sq σ)) (N : Nat) (D : List Deferred) (l : Array Bool) (a : Act) (w : World) : Prop where
  size : l.size = ops.size
  closed : Closed ops fun j => l.getD j false = true
  tail : ∀ j, m ≤ j → l.getD j false ≠ true
  n : a.tmps.size = N
  d : a.defers = D
  st : ∃ h, R h0 h ∧ J (fun j => l.getD j false) h w ∧ ∀ d, (∀ j Φ, j < m → l.getD j false = true → dstO ops j = some d → Ss[j]? = some Φ → Φ (env a d) h) ∧ ((∀ j, j < m → l.getD j false = true → dstO ops j ≠ some d) → env a d = e0 d)
theorem flow_anyG {Q : Exit → Act → World → Prop} {K : Env → World → Prop} {N : Nat} {D : List Deferred} {Ss : List (Sq σ)} (hF : Flow ops m) (hds : dstsOk N ops.toList = true) (hQ : ∀ a w, a.tmps.size = N → a.defers = D → K (env a) w → Q .normal a w)
    (hSs : Ss.length = m) (hls : ∀ k, k < m → LSG P ops J R h0 e0 Ss k) (hmo : ∀ Φ ∈ Ss, MonoG R Φ)
    (hR : Pre R) (hend : ∀ f D h1 w, (∀ j, j < m → D j = true) → R h0 h1 → J D h1 w → (∀ d, OkG ops e0 Ss m f h1 d) → Ops P ops (ops.toList.drop m) f w K) :
    ∀ (fuel : Nat) (l : Array Bool) (a : Act) (w : World), l.count false ≤ fuel → StG ops m J R h0 e0 Ss N D l a w → wpAny P .any ops Q fuel l a w := by
  have fin : ∀ (l : Array Bool) (a : Act) (w : World), StG ops m J R h0 e0 Ss N D l a w → (∀ j, j < m → l.getD j false = true) → Ops P ops (ops.toList.drop m) (env a) w K := fun l a w S hall => by
    obtain ⟨h, g1, g2, g3⟩ := S.st
    exact hend _ _ h w hall g1 g2 fun d => ⟨fun j Φ hj a b => (g3 d).1 j Φ hj (hall j hj) a b, fun hn => (g3 d).2 fun j hj _ => hn j hj⟩
  have nil : ∀ (l : Array Bool) (a : Act) (w : World), StG ops m J R h0 e0 Ss N D l a w → Region.ready .any ops l = [] → Q .normal a w := fun l a w S hr => by
    have least : ∀ n, ∀ j, j < n → j < ops.size → l.getD j false = true := by
      intro n
      induction n with
      | zero => intro j hj; omega
      | succ n ihn =>
        intro j hj hjs
        by_cases hjn : j < n
        · exact ihn j hjn hjs
        · have : j = n := by omega
          subst this
          cases hh : l.getD j false
          · exfalso
            have : j ∈ Region.ready .any ops l := mem_ready.2 ⟨by rw [getD_tf (by rw [S.size]; exact hjs)]; exact hh, ops[j], by simp [hjs], fun e he hb => by
              have := hF.back j ops[j] (by simp [hjs]) e he hb
              exact ihn e.on (by omega) (by omega)⟩
            rw [hr] at this; cases this
          · rfl
    have hms : m = ops.size := by
      rcases Nat.lt_or_ge m ops.size with h' | h'
      · exact absurd (least (m + 1) m (by omega) h') (S.tail m (Nat.le_refl m))
      · have := hF.le; omega
    have := fin l a w S fun j hj => least (j + 1) j (by omega) (by omega)
    rw [List.drop_eq_nil_of_le (by simp; omega)] at this
    exact hQ a w S.n S.d this
  intro fuel
  induction fuel with
  | zero =>
    intro l a w hc S
    have hr : Region.ready .any ops l = [] := by
      cases hr : Region.ready .any ops l with
      | nil => rfl
      | cons x xs =>
        have hx : x ∈ Region.ready .any ops l := by rw [hr]; exact List.mem_cons_self ..
        obtain ⟨h1, o, ho, _⟩ := mem_ready.1 hx
        have hlt : x < l.size := by rw [S.size]; exact (Array.getElem?_eq_some_iff.1 ho).1
        have := count_set hlt h1
        omega
    exact ⟨hr, nil l a w S hr⟩
  | succ fuel ih =>
    intro l a w hc S
    refine ⟨nil l a w S, fun i hi => ?_⟩
    obtain ⟨h1, o, ho, h2⟩ := mem_ready.1 hi
    have hlt : i < ops.size := (Array.getElem?_eq_some_iff.1 ho).1
    have hil : i < l.size := by rw [S.size]; exact hlt
    have hun : l.getD i false ≠ true := by rw [← getD_tf hil, h1]; exact fun h => by cases h
    have hdo : o.dst.all (· < N) = true := (List.all_eq_true.1 hds) o (by have := Array.mem_of_getElem? ho; simpa using this)
    have hcnt := count_set hil h1
    by_cases him : i < m
    · obtain ⟨Φ, hΦ⟩ : ∃ Φ, Ss[i]? = some Φ := ⟨Ss[i]'(by omega), by simp [hSs, him]⟩
      obtain ⟨h, g1, g2, g3⟩ := S.st
      have hDi : (fun j => l.getD j false) i = false := by simpa using hun
      have hset : (fun j => (l.setIfInBounds i true).getD j false) = setD (fun j => l.getD j false) i := by
        funext j
        rw [Bool.eq_iff_iff, set_getD hil]; simp [setD]
      have step : ∀ v w' hh, R h hh → J (setD (fun j => l.getD j false) i) hh w' → Φ v hh → wpAny P .any ops Q fuel (l.setIfInBounds i true) (a.put o.dst v) w' := fun v w' hh hle I hv => by
        refine ih _ _ w' (by omega) ⟨by simpa using S.size, fun j oj hoj hj e he hb => ?_, fun j hj hh' => ?_, by rw [size_put, S.n], by rw [defers_put, S.d], hh, hR.trans _ _ _ g1 hle, by rw [hset]; exact I, fun d => ?_⟩
        · simp only [set_getD hil] at hj ⊢
          rcases hj with rfl | hj
          · rw [ho] at hoj; cases hoj; exact .inr (h2 e he hb)
          · exact .inr (S.closed j oj hoj hj e he hb)
        · rw [set_getD hil] at hh'
          rcases hh' with rfl | hh'
          · omega
          · exact S.tail j hj hh'
        · rw [env_puto a _ v (by rw [S.n]; exact hdo)]
          have other : o.dst ≠ some d → updo (env a) o.dst v d = env a d := fun hne => by
            cases hod : o.dst with
            | none => rfl
            | some t => exact upd_ne _ _ fun e => hne (by rw [hod, e])
          by_cases hod : o.dst = some d
          · rw [hod]
            simp only [updo, upd_eq]
            refine ⟨fun j Ψ hj hlj hdj hΨ => ?_, fun hn => absurd (by simp [dstO, ho, hod]) (hn i him (by rw [set_getD hil]; exact .inl rfl))⟩
            cases hoj : ops[j]? with
            | none => simp [dstO, hoj] at hdj
            | some oj =>
              simp [dstO, hoj] at hdj
              have := hF.dist j i oj o d hj him hoj ho hdj hod
              subst this
              rw [hΦ] at hΨ; cases hΨ; exact hv
          · rw [other hod]
            refine ⟨fun j Ψ hj hlj hdj hΨ => ?_, fun hn => (g3 d).2 fun j hj hlj => hn j hj (by rw [set_getD hil]; exact .inr hlj)⟩
            rw [set_getD hil] at hlj
            rcases hlj with rfl | hlj
            · simp [dstO, ho] at hdj; exact absurd hdj hod
            · exact hmo Ψ (List.mem_of_getElem? hΨ) _ h hh hle ((g3 d).1 j Ψ hj hlj hdj hΨ)
      have hok : ∀ d ∈ o.looksAt ops, OkG ops e0 Ss i (env a) h d := fun d hd => by
        refine ⟨fun j Ψ hj hdj hΨ => ?_, fun hn => (g3 d).2 fun j hj hlj hdj => ?_⟩
        · cases hoj : ops[j]? with
          | none => simp [dstO, hoj] at hdj
          | some oj =>
            simp [dstO, hoj] at hdj
            have := (hF.reads i j o oj d him (by omega) (by omega) ho hoj hdj hd).1 hj
            exact (g3 d).1 j Ψ (by omega) (wt_L (L := fun j => l.getD j false = true) this h2) (by simp [dstO, hoj, hdj]) hΨ
        · rcases Nat.lt_trichotomy j i with h' | h' | h'
          · exact hn j h' hdj
          · subst h'; exact hun hlj
          · cases hoj : ops[j]? with
            | none => simp [dstO, hoj] at hdj
            | some oj =>
              simp [dstO, hoj] at hdj
              have := (hF.reads i j o oj d him hj (by omega) ho hoj hdj hd).2 h'
              exact hun (wt_L (L := fun j => l.getD j false = true) this (S.closed j oj hoj hlj))
      have hls' := hls i him o Φ (env a) _ h w ho hΦ hDi g1 g2 hok
      refine wpOp_of ho ?_
      split
      · rename_i hr
        exact (hls'.1 hr).mono fun v w' ⟨hh, k1, k2, k3⟩ => step v w' hh k1 k2 k3
      · rename_i hr
        exact step undef w h (hR.refl h) (hls'.2 (by simpa using hr)).2 (hls'.2 (by simpa using hr)).1
    · have hall := hF.tail (fun j => l.getD j false = true) S.closed i o (by omega) ho h2
      have him' : i = m := by
        rcases Nat.lt_or_ge m i with h' | h'
        · exact absurd (hall m h') (S.tail m (Nat.le_refl m))
        · omega
      subst him'
      have hl : ∀ j, l.getD j false = true ↔ j < i := fun j => ⟨fun hj => by
        rcases Nat.lt_or_ge j i with h' | h'
        · exact h'
        · exact absurd hj (S.tail j h'), hall j⟩
      have hle : ops.size - i ≤ fuel + 1 := by
        have : ∀ n k (l : Array Bool), l.size = ops.size → k + n = ops.size → (∀ j, k ≤ j → l.getD j false ≠ true) → n ≤ l.count false := by
          intro n
          induction n with
          | zero => intro k l _ _ _; omega
          | succ n ihn =>
            intro k l hs hk hj
            have hks : k < l.size := by omega
            have hkf : l.getD k true = false := by
              rw [getD_tf hks]
              cases hh : l.getD k false
              · rfl
              · exact absurd hh (hj k (Nat.le_refl k))
            have h3 := ihn (k + 1) (l.setIfInBounds k true) (by simpa using hs) (by omega) (fun j hj' => by
              rw [Ne, set_getD hks]; rintro (h | h)
              · omega
              · exact hj j (by omega) h)
            have := count_set hks hkf
            omega
        have := this (ops.size - i) i l S.size (by omega) S.tail
        omega
      have hT := flow_tail (P := P) hF hds hQ (fuel + 1) i l a w (Nat.le_refl i) hF.le hle S.size hl S.n S.d (fin l a w S hall)
      exact hT.2 i hi
end
end
theorem WP.regionG {σ : Type} {P : Program} {N : Nat} {D : List Deferred} {e : Env} {w : World} {Q : Exit → Env → World → Prop} {id : Nat} {ops : Array Oper} {J : (Nat → Bool) → σ → World → Prop} {R : σ → σ → Prop} (hm : Mixed P) (hR : Pre R) (s0 : σ) (I : J (fun _ => false) s0 w.drew) (m : Nat) (hB : flowB ops m = true)
    (k : OpsG P ops J R s0 0 [] (ops.toList.take m) e (fun L e' => ∀ D h1 w1, (∀ j, j < m → D j = true) → R s0 h1 → J D h1 w1 → AllG (fun _ => true) h1 L e' fun e'' => Ops P ops (ops.toList.drop m) e'' w1 (fun e3 w3 => Q .normal e3 w3))) : WP P N D (.region id ops true) e w Q := by
  intro hs a h1 h2 h3
  subst h3
  have hF := flow_of hB
  obtain ⟨Ss, L, e', hlen, hrel, hls, hmo, hK⟩ := OpsG.sound (e0 := env a) hF _ [] [] (env a) _ (fun j => by simp) (by simp [hF.le]) ⟨fun f h1 d ho => (ho.2 (by simp)).symm, by simp⟩ (by simp) (by simp) k
  refine wp_region_any hm ?_
  refine flow_anyG (K := fun e3 w3 => Q .normal e3 w3) (N := N) (D := D) hF hs (fun a w g1 g2 g3 => ⟨g1, g2, g3⟩) hlen hls hmo hR (fun f D h1 w1 hD hl I1 hok => ?_) ops.size _ a _ (by simp) ⟨by simp, ?_, ?_, h1, h2, s0, hR.refl s0, ?_, fun d => ⟨?_, fun _ => rfl⟩⟩
  · have hov : ovrG e' L f = f := by funext d; exact hrel.eq f h1 d (hlen ▸ hok d)
    have := (hK D h1 w1 hD hl I1).get f fun p hp _ => by
      obtain ⟨k, k1, k2, k3⟩ := hrel.sub p hp
      exact (hok p.1).1 k p.2 (hlen ▸ k1) k2 k3
    rwa [hov] at this
  · intro i o _ hl
    simp [Array.getD_eq_getD_getElem?, Array.getElem?_replicate] at hl
    split at hl <;> simp at hl
  · intro j _ hl
    simp [Array.getD_eq_getD_getElem?, Array.getElem?_replicate] at hl
    split at hl <;> simp at hl
  · have : (fun j => (Array.replicate ops.size false).getD j false) = fun _ => false := by
      funext j
      simp [Array.getD_eq_getD_getElem?, Array.getElem?_replicate]
      split <;> rfl
    rw [this]; exact I
  · intro j Φ _ hl
    simp [Array.getD_eq_getD_getElem?, Array.getElem?_replicate] at hl
    split at hl <;> simp at hl
section
variable {σ : Type} {P : Program} {full : Array Oper} {J : (Nat → Bool) → σ → World → Prop} {R : σ → σ → Prop} {h0 : σ} {k : Nat} {L : List (Nat × Sq σ)} {rest : List Oper} {e : Env} {K : List (Nat × Sq σ) → Env → Prop}
variable {op : Op} {t : TypeId} {pos : String} {af : Array Edge}
theorem OpsG.nil (h : K L e) : OpsG P full J R h0 k L [] e K := h
theorem ovrG_us {e us us' : Env} {d : Nat} (h : ∀ j, j ≠ d → us j = us' j) : ∀ (L : List (Nat × Sq σ)) {i : Nat}, i ≠ d → ovrG e L us i = ovrG e L us' i
  | [], _, _ => rfl
  | p :: L, i, hi => by
    simp only [ovrG]
    by_cases hp : i = p.1
    · subst hp; rw [upd_eq, upd_eq, h _ hi]
    · rw [upd_ne _ _ hp, upd_ne _ _ hp, ovrG_us h L hi]
theorem AllG.all {c : Nat → Bool} {h : σ} : ∀ {L : List (Nat × Sq σ)} {e : Env} {k : Env → Prop}, (∀ us, k (ovrG e L us)) → AllG c h L e k
  | [], _, _, hk => hk fun _ => undef
  | p :: L, e, k, hk => AllG.all (L := L) fun us u _ => by
    have h1 := hk (upd us p.1 u)
    have h2 : upd (ovrG e L (upd us p.1 u)) p.1 u = upd (ovrG e L us) p.1 u := by
      funext i
      by_cases hi : i = p.1
      · subst hi; rw [upd_eq, upd_eq]
      · rw [upd_ne _ _ hi, upd_ne _ _ hi]; exact ovrG_us (fun j hj => upd_ne _ _ hj) L hi
    simp only [ovrG, upd_eq, h2] at h1
    exact h1
theorem OpsG.y_ {d : Nat} {g : Option (Nat × Bool)} {v : Value} (hr : ∀ us, runs full (ovrG e L us) ⟨some d, op, t, pos, af, g⟩ = true) (hR : Pre R) (hJ : ∀ D s w, J D s w → J (setD D k) s w)
    (hy : ∀ D h1 w us, R h0 h1 → J D h1 w → Y P ⟨some d, op, t, pos, af, g⟩ (ovrG e L us) w v) (h : OpsG P full J R h0 (k + 1) L rest (upd e d v) K) :
    OpsG P full J R h0 k L (⟨some d, op, t, pos, af, g⟩ :: rest) e K :=
  .inr ⟨hr, .inl ⟨v, fun D h1 w _ hl I => AllG.all fun us => by unfold Op1; rw [hy D h1 w us hl I]; exact ⟨h1, hR.refl h1, hJ D h1 w I, rfl⟩, h⟩⟩
theorem OpsG.x_ {d : Nat} {g : Option (Nat × Bool)} {Φ : Sq σ} (hm : MonoG R Φ) (hr : ∀ us, runs full (ovrG e L us) ⟨some d, op, t, pos, af, g⟩ = true)
    (hy : OblG P full J R h0 k L e ⟨some d, op, t, pos, af, g⟩ Φ) (h : OpsG P full J R h0 (k + 1) ((d, Φ) :: L) rest e K) :
    OpsG P full J R h0 k L (⟨some d, op, t, pos, af, g⟩ :: rest) e K :=
  .inr ⟨hr, .inr ⟨d, Φ, rfl, hm, hy, h⟩⟩
/-- An operation that yields nothing. -/
theorem OpsG.s_ {g : Option (Nat × Bool)} (hr : ∀ us, runs full (ovrG e L us) ⟨none, op, t, pos, af, g⟩ = true)
    (hy : OblG P full J R h0 k L e ⟨none, op, t, pos, af, g⟩ (fun u _ => u = undef)) (h : OpsG P full J R h0 (k + 1) L rest e K) :
    OpsG P full J R h0 k L (⟨none, op, t, pos, af, g⟩ :: rest) e K :=
  .inr ⟨hr, .inl ⟨undef, hy, h⟩⟩
theorem runsG_none (us : Env) {d : Option Nat} : runs full (ovrG e L us) ⟨d, op, t, pos, af, none⟩ = true := rfl
end
end Go.TF
end
section
/- A drawn region that makes two variables and writes the first of them in it. -/
namespace Go.TF
open Go Go.RowKit

structure BxS where
  h : Heap
  o7 : Option Nat
  o8 : Option Nat
def pcs (o : Option Nat) (f : Bool) (z c : List Value) (T : TypeId) : List SA := match o with
  | none => []
  | some b => [box b (if f then c else z) T]
/-- Operations i7, i8 make the variables, i12 writes the first. -/
structure JBx (B : Base) (M : List SA) (T : TypeId) (z c : List Value) (i7 i8 i12 : Nat) (D : Nat → Bool) (s : BxS) (w : World) : Prop where
  h7 : s.o7.isSome = D i7
  h8 : s.o8.isSome = D i8
  ord : D i12 = true → D i7 = true
  inv : Inv B s.h (pcs s.o7 (D i12) z c T ++ (pcs s.o8 false z c T ++ M)) w
structure RBx (s s' : BxS) : Prop where
  h : s.h.le s'.h
  h7 : ∀ b, s.o7 = some b → s'.o7 = some b
  h8 : ∀ b, s.o8 = some b → s'.o8 = some b
theorem RBx.pre : Pre RBx := ⟨fun _ => ⟨Heap.le.refl _, fun _ h => h, fun _ h => h⟩, fun _ _ _ h k => ⟨h.h.trans k.h, fun b e => k.h7 b (h.h7 b e), fun b e => k.h8 b (h.h8 b e)⟩⟩
section
variable {B : Base} {M : List SA} {T : TypeId} {z c : List Value} {i7 i8 i12 k : Nat} {D : Nat → Bool} {s : BxS} {w : World}
theorem JBx.base (j : JBx B M T z c i7 i8 i12 D s w) : Inv B s.h M w := j.inv.weak ((List.sublist_append_right _ _).trans (List.sublist_append_right _ _))
theorem JBx.set (h : i7 ≠ k ∧ i8 ≠ k ∧ i12 ≠ k) : ∀ D s w, JBx B M T z c i7 i8 i12 D s w → JBx B M T z c i7 i8 i12 (setD D k) s w := fun D s w j => by
  have e : ∀ i, i ≠ k → setD D k i = D i := fun i hi => by simp [setD, hi]
  exact ⟨by rw [e _ h.1]; exact j.h7, by rw [e _ h.2.1]; exact j.h8, by rw [e _ h.1, e _ h.2.2]; exact j.ord, by rw [e _ h.2.2]; exact j.inv⟩
def At7 (u : Value) (s : BxS) : Prop := ∃ b, u = .pointer (some ⟨b, 0, none⟩) ∧ s.o7 = some b
def At8 (u : Value) (s : BxS) : Prop := ∃ b, u = .pointer (some ⟨b, 0, none⟩) ∧ s.o8 = some b
theorem At7.mono : MonoG RBx At7 := fun _ _ _ r ⟨b, h1, h2⟩ => ⟨b, h1, r.h7 b h2⟩
theorem At8.mono : MonoG RBx At8 := fun _ _ _ r ⟨b, h1, h2⟩ => ⟨b, h1, r.h8 b h2⟩
end
section
variable {P : Program} {full : Array Oper} {B : Base} {M : List SA} {T : TypeId} {z c : List Value} {i7 i8 i12 k : Nat} {h0 : BxS} {L : List (Nat × Sq BxS)} {rest : List Oper} {e : Env} {K : List (Nat × Sq BxS) → Env → Prop}
variable {t : TypeId} {pos : String} {af : Array Edge}
theorem OpsG.make7 {d : Nat} {zv : Value} (hz : Zero P T zv) (hc : zv.cells = z.toArray) (h78 : i8 ≠ i7) (h712 : i12 ≠ i7) (h : OpsG P full (JBx B M T z c i7 i8 i12) RBx h0 (i7 + 1) ((d, At7) :: L) rest e K) :
    OpsG P full (JBx B M T z c i7 i8 i12) RBx h0 i7 L (⟨some d, .alloc T, t, pos, af, none⟩ :: rest) e K := by
  refine OpsG.x_ At7.mono (fun _ => runsG_none _) (fun D s w hDk hl hj => AllG.all fun us => ?_) h
  have h7 : s.o7 = none := by
    have := hj.h7
    rw [hDk] at this
    cases h : s.o7 <;> simp_all
  have h12 : D i12 = false := by
    cases hh : D i12
    · rfl
    · rw [hj.ord hh] at hDk; cases hDk
  have I := hj.inv
  rw [h7] at I
  refine O.alloc I hz hc fun b w' I' => ⟨⟨s.h, some b, s.o8⟩, ⟨Heap.le.refl _, fun b' e => (by rw [h7] at e; cases e), fun _ e => e⟩, ⟨?_, ?_, fun _ => by simp [setD], ?_⟩, b, rfl, rfl⟩
  · simp [setD]
  · rw [show setD D i7 i8 = D i8 from by simp [setD, h78]]; exact hj.h8
  · rw [show setD D i7 i12 = false from by simp [setD, h712, h12]]
    exact I'
theorem OpsG.store7 {a x : Operand} {n : Nat} {ag : Bool} {v : Value} (hT : Ty P T n ag) (hl7 : z.length = n) (hcl : c.length = n) (hL : ∀ s, AllG (lk full ⟨none, .store T a x, t, pos, af, none⟩) s L e (fun e' => At7 (ev e' a) s ∧ ev e' x = v)) (hv : v.cells = c.toArray) (h1 : oneCells c = true) (h7k : i7 ≠ i12) (h8k : i8 ≠ i12)
    (h : OpsG P full (JBx B M T z c i7 i8 i12) RBx h0 (i12 + 1) L rest e K) : OpsG P full (JBx B M T z c i7 i8 i12) RBx h0 i12 L (⟨none, .store T a x, t, pos, af, none⟩ :: rest) e K := by
  refine OpsG.s_ (fun _ => runsG_none _) (fun D s w hDk hl hj => ?_) h
  have key : ∀ (L : List (Nat × Sq BxS)) (e : Env) (k k' : Env → Prop), (∀ x, k x → k' x) → AllG (lk full ⟨none, .store T a x, t, pos, af, none⟩) s L e k → AllG (lk full ⟨none, .store T a x, t, pos, af, none⟩) s L e k' := by
    intro L
    induction L with
    | nil => intro e k k' hk a; exact hk _ a
    | cons p L ih => intro e k k' hk a; exact ih e _ _ (fun x hx u hu => hk _ (hx u hu)) a
  refine key L e _ _ ?_ (hL s)
  rintro e' ⟨⟨b, ha, hb⟩, hx⟩
  have I := hj.inv
  rw [hb, hDk] at I
  refine O.store (cs' := c) I hT 0 rfl ha hx hv hcl h1 (by simp only [Bool.false_eq_true, if_false]; omega) ?_ fun w' I' => ⟨s, RBx.pre.refl s, ⟨?_, ?_, fun _ => ?_, ?_⟩, rfl⟩
  · simp only [Bool.false_eq_true, if_false]
    rw [putAt_eq _ _ _ (Nat.zero_le _)]
    simp [hcl, hl7]
  · rw [show setD D i12 i7 = D i7 from by simp [setD, h7k]]; exact hj.h7
  · rw [show setD D i12 i8 = D i8 from by simp [setD, h8k]]; exact hj.h8
  · rw [show setD D i12 i7 = D i7 from by simp [setD, h7k], ← hj.h7, hb]; rfl
  · rw [hb, show setD D i12 i12 = true from by simp [setD]]
    exact I'
/-- A quiet call. -/
theorem OpsG.c_ {d : Nat} {op : Op} {v : Value} (h7 : i7 ≠ k ∧ i8 ≠ k ∧ i12 ≠ k) (hy : ∀ D s w us, RBx h0 s → JBx B M T z c i7 i8 i12 D s w → Op1 P ⟨some d, op, t, pos, af, none⟩ (ovrG e L us) w fun u w' => u = v ∧ JBx B M T z c i7 i8 i12 D s w') (h : OpsG P full (JBx B M T z c i7 i8 i12) RBx h0 (k + 1) L rest (upd e d v) K) :
    OpsG P full (JBx B M T z c i7 i8 i12) RBx h0 k L (⟨some d, op, t, pos, af, none⟩ :: rest) e K :=
  .inr ⟨fun _ => runsG_none _, .inl ⟨v, fun D s w _ hl hj => AllG.all fun us => (hy D s w us hl hj).mono fun _ _ ⟨a, b⟩ => ⟨s, RBx.pre.refl s, JBx.set h7 D s _ b, a⟩, h⟩⟩
end
end Go.TF
end
section
/- Facts laid to literals: the walk. -/
namespace Go.TF
open Go Go.RowKit Go.Proofs
set_option maxRecDepth 20000

theorem FOf_at (B : Base) (hB : B.ok) (p : Prg) (hp : p.In B.h) (f : Sl Fct) (hf : Fcts f B.h) (n : Int) (r : Rul) (h0 : 0 ≤ n) (hr : p.rules.xs[n.toNat]? = some r) (ok : ROk p.preds.xs r) (okf : FOk p.preds.xs f.xs) (x : Vrs) (hx : VsOk x) (y : Bool × Fct) (hy : holdsF p.preds.xs f.xs r x = y) :
    Fn Tryz.prog 84 [p.val, f.val, .int .i64 n, x.val] B (fun v _ => v = tHold y) := hy ▸ FOf_ok B hB p hp f hf n r h0 hr ok okf x hx
/-- What is laid, kept where it holds. -/
def outL (f : List Fct) (n : Int) (r : Rul) (bs : List Vrs) : List Stp := ((bs.map mx0).filter (holdsB f r)).map (Stp.mk n)
theorem outL_nil (f : List Fct) (n : Int) (r : Rul) : outL f n r [] = [] := rfl
theorem outL_app (f : List Fct) (n : Int) (r : Rul) (a b : List Vrs) : outL f n r (a ++ b) = outL f n r a ++ outL f n r b := by simp [outL]
theorem outL_le (f : List Fct) (n : Int) (r : Rul) (a : List Vrs) : (outL f n r a).length ≤ a.length := by
  unfold outL; rw [List.length_map]; exact Nat.le_trans (List.length_filter_le ..) (by simp)
theorem outL_one (f : List Fct) (n : Int) (r : Rul) (b : Vrs) : outL f n r [b] = if holdsB f r (mx0 b) then [⟨n, mx0 b⟩] else [] := by
  unfold outL; cases h : holdsB f r (mx0 b) <;> simp [h]
def layN (f : List Fct) (a : Atm) (l : List Atm) (b : Vrs) (x : Fct) : List Vrs := if (wcF b a x).2 then layF f l (wcF b a x).1 else []
theorem layF_cons (f : List Fct) (a : Atm) (l : List Atm) (b : Vrs) : layF f (a :: l) b = f.flatMap (layN f a l b) := by
  rw [layF]
  congr 1
  funext x
  rw [withF_wc]
  unfold layN
  cases (wcF b a x).2 <;> rfl
theorem layF_len (f : List Fct) : ∀ (l : List Atm) (b : Vrs), (layF f l b).length ≤ f.length ^ l.length
  | [], b => by simp [layF]
  | a :: l, b => by
    rw [layF_cons, List.length_flatMap, List.length_cons, Nat.pow_succ, Nat.mul_comm]
    have : ∀ g : List Fct, (g.map fun x => (layN f a l b x).length).sum ≤ g.length * f.length ^ l.length := by
      intro g
      induction g with
      | nil => simp
      | cons y g ih =>
        have h1 : (layN f a l b y).length ≤ f.length ^ l.length := by
          unfold layN; split
          · exact layF_len f l _
          · simp
        rw [List.map_cons, List.sum_cons, List.length_cons, Nat.add_mul]; omega
    exact this f
theorem flat_take_succ {α β : Type} (g : α → List β) {l : List α} {k : Nat} (hk : k < l.length) : (l.take (k + 1)).flatMap g = (l.take k).flatMap g ++ g l[k] := by
  rw [List.take_succ_eq_append_getElem hk, List.flatMap_append]; simp
theorem flat_take_le {α β : Type} (g : α → List β) (l : List α) (k : Nat) : ((l.take k).flatMap g).length ≤ (l.flatMap g).length := by
  conv => rhs; rw [← List.take_append_drop k l, List.flatMap_append, List.length_append]
  omega
theorem BOk.vs {l : List Atm} {b : Vrs} (h : BOk l b) : VsOk (mx0 b) := by
  have h0 := h 0 (by omega); have h1 := h 1 (by omega); have h2 := h 2 (by omega)
  have e0 : b.at 0 = b.x0 := rfl
  have e1 : b.at 1 = b.x1 := rfl
  have e2 : b.at 2 = b.x2 := rfl
  rw [e0] at h0; rw [e1] at h1; rw [e2] at h2
  refine ⟨?_, ?_, ?_⟩ <;> simp only [mx0]
  · rcases h0 with h | ⟨q1, q2, _⟩ <;> omega
  · rcases h1 with h | ⟨q1, q2, _⟩ <;> omega
  · rcases h2 with h | ⟨q1, q2, _⟩ <;> omega
theorem wc_bok {l : List Atm} {a : Atm} {b : Vrs} {x : Fct} (ha : a ∈ l) (hv : ∀ t ∈ a.args.xs, t.var = true → 0 ≤ t.n ∧ t.n < 3) (hx : PF x) (hb : BOk l b) (h : (wcF b a x).2 = true) : BOk l (wcF b a x).1 := by
  have hw := withF_wc b a x
  rw [h, if_pos rfl] at hw
  unfold withF at hw
  split at hw
  · cases hw
  · exact withL_bok ha hv (pair_mem hx) hb hw
structure AtS (l : Sl Atm) (h : Heap) : Prop where
  is : l.Is 2 Atm.enc h
  cap : l.xs.length ≤ l.cap
  each : ∀ a ∈ l.xs, a.In h
theorem AtS.le {l : Sl Atm} {h h' : Heap} (x : AtS l h) (hl : h.le h') : AtS l h' := ⟨x.is.le hl, x.cap, fun a ha => (x.each a ha).le hl⟩
@[reducible] def LayM (bo : Nat) (a : Option Addr) (c : Nat) (m : Nat) (acc : List Stp) : List SA := [box bo [.slice a m c] 36, ownSl 82 4 (.slice a m c) m (acc.flatMap Stp.enc)]
/-- What the closure keeps. -/
structure LayE (h : Heap) (p : Prg) (f : Sl Fct) (n : Int) (r : Rul) (bn bp bf bo bl : Nat) : Prop where
  kn : Known h bn [.int .i64 n]
  kp : Known h bp p.enc
  kf : Known h bf [f.val]
  kl : Known h bl [.func (.func 168) #[] #[.pointer (some ⟨bn, 0, none⟩), .pointer (some ⟨bp, 0, none⟩), .pointer (some ⟨bf, 0, none⟩), .pointer (some ⟨bo, 0, none⟩), .pointer (some ⟨bl, 0, none⟩)]]
  p : p.In h
  f : Fcts f h
theorem LayE.le {h h' : Heap} {p : Prg} {f : Sl Fct} {n : Int} {r : Rul} {bn bp bf bo bl : Nat} (x : LayE h p f n r bn bp bf bo bl) (hl : h.le h') : LayE h' p f n r bn bp bf bo bl := ⟨x.kn.le hl, x.kp.le hl, x.kf.le hl, x.kl.le hl, x.p.le hl, x.f.le hl⟩
theorem snocS (acc : List Stp) (y : Stp) : (acc ++ [y]).flatMap Stp.enc = acc.flatMap Stp.enc ++ y.enc := by simp
set_option maxHeartbeats 8000000 in
theorem lay_ok (p : Prg) (f : Sl Fct) (n : Int) (r : Rul) (bn bp bf bo bl : Nat) (h0 : 0 ≤ n) (hr : p.rules.xs[n.toNat]? = some r) (ok : ROk p.preds.xs r) (okf : FOk p.preds.xs f.xs) : ∀ (ls : List Atm) {B : Base} {h : Heap} {w : World} (l : Sl Atm) (b : Vrs) (a : Option Addr) (c m : Nat) (acc : List Stp), l.xs = ls → Inv B h (LayM bo a c m acc) w → m = acc.length → LayE h p f n r bn bp bf bo bl → AtS l h →
      (∀ x ∈ ls, x ∈ poss r.body.xs) → BOk (poss r.body.xs) b → m + (layF f.xs ls b).length ≤ 1000000000 →
      Calls Tryz.prog 168 [b.val, l.val, .pointer (some ⟨bn, 0, none⟩), .pointer (some ⟨bp, 0, none⟩), .pointer (some ⟨bf, 0, none⟩), .pointer (some ⟨bo, 0, none⟩), .pointer (some ⟨bl, 0, none⟩)].toArray w
        (fun ed w' => ed = .returned (.tuple #[]) ∧ ∃ h' a' c' m', h.le h' ∧ Inv B h' (LayM bo a' c' m' (acc ++ outL f.xs n r (layF f.xs ls b))) w' ∧ m' = (acc ++ outL f.xs n r (layF f.xs ls b)).length)
  | [], B, h, w, l, b, a, c, m, acc, hls0, I, hm, E, hA, hin, hb, hsz => by
    have hvs := hb.vs
    refine Calls.ofWP (args := [b.val, l.val, .pointer (some ⟨bn, 0, none⟩), .pointer (some ⟨bp, 0, none⟩), .pointer (some ⟨bf, 0, none⟩), .pointer (some ⟨bo, 0, none⟩), .pointer (some ⟨bl, 0, none⟩)]) Tryz.func168 rfl Tryz.ntmps168 (by kernel_rfl) (by simp) ?_
    intro e
    refine WP.seq ?_
    refine WP.region ?_
    refine Ops.go (O.box (v := .agg #[_, _, _]) I rfl rfl ?_)
    intro b7 w I
    refine Ops.nil ?_
    refine WP.seq ?_
    refine WP.seq ?_
    refine WP.region ?_
    refine Ops.y (v := .slice _ _ _) (Y.move rfl) ?_
    refine Ops.y (v := .int .i64 _) (Y.lens Tryz.underlying186 rfl) ?_
    refine Ops.y (v := .bool true) (Y.dec_t (Y.eqi rfl rfl) ((by rw [hls0]; rfl))) ?_
    refine Ops.nil ?_
    refine WP.cond_t rfl ?_
    refine WP.seq ?_
    refine WP.region ?_
    refine Ops.y (v := .int .i64 _) (Y.loadv ty_3 rfl (I.rd (E.kn.rd.part 0 1)) rfl rfl) ?_
    refine Ops.y (v := .agg #[.int .i64 _, .int .i64 _, .int .i64 _, .int .i64 _]) (Y.build pl_82 Tryz.zeroValue82 rfl rfl) ?_
    refine Ops.go (O.alloc I Tryz.zeroValue82 rfl ?_)
    intro b9 w I
    refine Ops.go (O.store (v := .agg #[_, _, _, _]) I ty_82 0 rfl rfl rfl rfl rfl rfl (Nat.le_of_ble_eq_true rfl) rfl ?_)
    intro w I
    refine Ops.nil ?_
    refine WP.seq ?_
    refine WP.seq ?_
    refine WP.region ?_
    refine Ops.y (v := .int .i64 _) (Y.move rfl) ?_
    refine Ops.nil ?_
    refine WP.cutK (σ := Unit) (fun _ => [(2, .pointer (some ⟨bn, 0, none⟩)), (3, .pointer (some ⟨bp, 0, none⟩)), (4, .pointer (some ⟨bf, 0, none⟩)), (5, .pointer (some ⟨bo, 0, none⟩)), (9, .pointer (some ⟨b9, 0, none⟩))]) (fun _ w => Inv B h (box b9 (Stp.mk n (mx0 b)).enc 82 :: LayM bo a c m acc) w) ?_ ?_
    · refine WP.block ?_
      refine WP.loopE (σ := Nat) (fun k => [(2, .pointer (some ⟨bn, 0, none⟩)), (3, .pointer (some ⟨bp, 0, none⟩)), (4, .pointer (some ⟨bf, 0, none⟩)), (5, .pointer (some ⟨bo, 0, none⟩)), (7, .pointer (some ⟨b7, 0, none⟩)), (9, .pointer (some ⟨b9, 0, none⟩)), (22, .int .i64 k)]) (fun k w => Inv B h (box b9 [.int .i64 n, .int .i64 (if 0 < k then max 0 b.x0 else 0), .int .i64 (if 1 < k then max 0 b.x1 else 0), .int .i64 (if 2 < k then max 0 b.x2 else 0)] 82 :: box b7 b.enc 193 :: LayM bo a c m acc) w ∧ k ≤ 3) (fun k => 3 - k)
        ⟨0, ⟨rfl, rfl, rfl, rfl, rfl, rfl, rfl, trivial⟩, I, Nat.zero_le _⟩ ?_
      rintro k e w ⟨I, hk⟩
      refine WP.seq ?_
      refine WP.region ?_
      refine Ops.y (v := .bool (decide _)) (Y.lti rfl rfl) ?_
      refine Ops.nil ?_
      refine WP.seq ?_
      refine WP.cond_dec rfl (fun h4 => ?_) (fun h4 => ?_)
      · have hk3 : k = 0 ∨ k = 1 ∨ k = 2 := by omega
        rcases hk3 with rfl | rfl | rfl
        · refine WP.skip ?_
          refine WP.seq ?_
          refine WP.block ?_
          refine WP.seq ?_
          refine WP.region ?_
          refine Ops.y (v := .int .i64 _) (Y.move rfl) ?_
          refine Ops.y (v := .int .i64 _) (Y.assign rfl) ?_
          refine Ops.nil ?_
          refine WP.region ?_
          refine Ops.y (v := .int .i64 _) (Y.move rfl) ?_
          refine Ops.y (v := .int .i64 _) (Y.move rfl) ?_
          refine Ops.y (v := .pointer (some ⟨_, _, none⟩)) (Y.idxa Tryz.underlying193 Tryz.sizeOf3 rfl rfl (by omega) (by omega)) ?_
          refine Ops.y (v := .int .i64 _) (Y.loadv ty_3 rfl (I.rdbox 1 rfl 0 1) rfl rfl) ?_
          refine Ops.y (v := .int .i64 _) (Y.max2 rfl rfl) ?_
          refine Ops.y (v := .pointer (some ⟨_, _, none⟩)) (Y.fa fa_82_1 rfl) ?_
          refine Ops.y (v := .pointer (some ⟨_, _, none⟩)) (Y.idxa Tryz.underlying80 Tryz.sizeOf3 rfl rfl (by omega) (by omega)) ?_
          refine Ops.go (O.store (v := .int .i64 _) I ty_3 0 rfl rfl rfl rfl rfl rfl (Nat.le_of_ble_eq_true rfl) rfl ?_)
          intro w I
          refine Ops.nil ?_
          refine WP.region ?_
          refine Ops.y (v := .int .i64 _) (Y.addi rfl rfl ⟨by omega, by omega⟩) ?_
          refine Ops.y (v := .int .i64 _) (Y.move rfl) ?_
          refine Ops.nil ?_
          exact ⟨1, ⟨⟨rfl, rfl, rfl, rfl, rfl, rfl, rfl, trivial⟩, I, by omega⟩, by omega⟩
        · refine WP.skip ?_
          refine WP.seq ?_
          refine WP.block ?_
          refine WP.seq ?_
          refine WP.region ?_
          refine Ops.y (v := .int .i64 _) (Y.move rfl) ?_
          refine Ops.y (v := .int .i64 _) (Y.assign rfl) ?_
          refine Ops.nil ?_
          refine WP.region ?_
          refine Ops.y (v := .int .i64 _) (Y.move rfl) ?_
          refine Ops.y (v := .int .i64 _) (Y.move rfl) ?_
          refine Ops.y (v := .pointer (some ⟨_, _, none⟩)) (Y.idxa Tryz.underlying193 Tryz.sizeOf3 rfl rfl (by omega) (by omega)) ?_
          refine Ops.y (v := .int .i64 _) (Y.loadv ty_3 rfl (I.rdbox 1 rfl 1 1) rfl rfl) ?_
          refine Ops.y (v := .int .i64 _) (Y.max2 rfl rfl) ?_
          refine Ops.y (v := .pointer (some ⟨_, _, none⟩)) (Y.fa fa_82_1 rfl) ?_
          refine Ops.y (v := .pointer (some ⟨_, _, none⟩)) (Y.idxa Tryz.underlying80 Tryz.sizeOf3 rfl rfl (by omega) (by omega)) ?_
          refine Ops.go (O.store (v := .int .i64 _) I ty_3 0 rfl rfl rfl rfl rfl rfl (Nat.le_of_ble_eq_true rfl) rfl ?_)
          intro w I
          refine Ops.nil ?_
          refine WP.region ?_
          refine Ops.y (v := .int .i64 _) (Y.addi rfl rfl ⟨by omega, by omega⟩) ?_
          refine Ops.y (v := .int .i64 _) (Y.move rfl) ?_
          refine Ops.nil ?_
          exact ⟨2, ⟨⟨rfl, rfl, rfl, rfl, rfl, rfl, rfl, trivial⟩, I, by omega⟩, by omega⟩
        · refine WP.skip ?_
          refine WP.seq ?_
          refine WP.block ?_
          refine WP.seq ?_
          refine WP.region ?_
          refine Ops.y (v := .int .i64 _) (Y.move rfl) ?_
          refine Ops.y (v := .int .i64 _) (Y.assign rfl) ?_
          refine Ops.nil ?_
          refine WP.region ?_
          refine Ops.y (v := .int .i64 _) (Y.move rfl) ?_
          refine Ops.y (v := .int .i64 _) (Y.move rfl) ?_
          refine Ops.y (v := .pointer (some ⟨_, _, none⟩)) (Y.idxa Tryz.underlying193 Tryz.sizeOf3 rfl rfl (by omega) (by omega)) ?_
          refine Ops.y (v := .int .i64 _) (Y.loadv ty_3 rfl (I.rdbox 1 rfl 2 1) rfl rfl) ?_
          refine Ops.y (v := .int .i64 _) (Y.max2 rfl rfl) ?_
          refine Ops.y (v := .pointer (some ⟨_, _, none⟩)) (Y.fa fa_82_1 rfl) ?_
          refine Ops.y (v := .pointer (some ⟨_, _, none⟩)) (Y.idxa Tryz.underlying80 Tryz.sizeOf3 rfl rfl (by omega) (by omega)) ?_
          refine Ops.go (O.store (v := .int .i64 _) I ty_3 0 rfl rfl rfl rfl rfl rfl (Nat.le_of_ble_eq_true rfl) rfl ?_)
          intro w I
          refine Ops.nil ?_
          refine WP.region ?_
          refine Ops.y (v := .int .i64 _) (Y.addi rfl rfl ⟨by omega, by omega⟩) ?_
          refine Ops.y (v := .int .i64 _) (Y.move rfl) ?_
          refine Ops.nil ?_
          exact ⟨3, ⟨⟨rfl, rfl, rfl, rfl, rfl, rfl, rfl, trivial⟩, I, by omega⟩, by omega⟩
      · obtain rfl : k = 3 := by omega
        refine WP.exit ?_
        exact ⟨(), ⟨rfl, rfl, rfl, rfl, rfl, trivial⟩, (I.front 0 rfl).weak (by exact List.Sublist.cons_cons _ (List.sublist_cons_self _ _))⟩
    rintro _ e w I
    have hL : layF f.xs [] b = [b] := rfl
    rw [hL] at hsz
    simp only [hL, outL_one]
    cases hh : holdsB f.xs r (mx0 b)
    · refine WP.seq ?_
      refine WP.seq ?_
      refine WP.region ?_
      refine Ops.y (v := .agg #[_, _]) (Y.loadv ty_25 rfl (I.rd (E.kp.rd.part 0 2)) rfl rfl) ?_
      refine Ops.y (v := .slice _ _ _) (Y.loadv ty_26 rfl (I.rd (E.kf.rd.part 0 1)) rfl rfl) ?_
      refine Ops.y (v := .int .i64 _) (Y.loadv ty_3 rfl (I.rd (E.kn.rd.part 0 1)) rfl rfl) ?_
      refine Ops.y (v := .pointer (some ⟨_, _, none⟩)) (Y.fa fa_82_1 rfl) ?_
      refine Ops.y (v := .agg #[_, _, _]) (Y.loadv ty_80 rfl (I.rdbox 0 rfl 1 3) rfl rfl) ?_
      refine Ops.go (O.callv I Tryz.call84 (FOf_at _ I.base_ok p E.p f E.f n r h0 hr ok okf (mx0 b) hvs (false, default) (by unfold holdsF; rw [hh]; rfl)) rfl ?_)
      intro w I
      refine Ops.y (v := .tuple #[_, _]) (Y.move rfl) ?_
      refine Ops.y (v := .bool _) (Y.extract rfl rfl) ?_
      refine Ops.y (v := .agg #[_, _, _, _]) (Y.extract rfl rfl) ?_
      refine Ops.go (O.alloc I Tryz.zeroValue52 rfl ?_)
      intro b12 w I
      refine Ops.y (v := .bool _) (Y.assign rfl) ?_
      refine Ops.go (O.store (v := .agg #[_, _, _, _]) I ty_52 0 rfl rfl rfl rfl rfl rfl (Nat.le_of_ble_eq_true rfl) rfl ?_)
      intro w I
      refine Ops.nil ?_
      refine WP.seq ?_
      refine WP.region ?_
      refine Ops.y (v := .bool _) (Y.move rfl) ?_
      refine Ops.nil ?_
      refine WP.cond_f rfl ?_
      refine WP.skip ?_
      refine WP.ret ?_
      repeat (first | refine thenE_ret ?_ | refine blockE_ret ?_)
      refine ⟨.inl rfl, [], trivial, rfl, h, a, c, m, Heap.le.refl _, ?_, ?_⟩
      · simp only [Bool.false_eq_true, if_false, List.append_nil]; exact I.drop.drop
      · simp only [Bool.false_eq_true, if_false, List.append_nil]; exact hm
    · refine WP.seq ?_
      refine WP.seq ?_
      refine WP.region ?_
      refine Ops.y (v := .agg #[_, _]) (Y.loadv ty_25 rfl (I.rd (E.kp.rd.part 0 2)) rfl rfl) ?_
      refine Ops.y (v := .slice _ _ _) (Y.loadv ty_26 rfl (I.rd (E.kf.rd.part 0 1)) rfl rfl) ?_
      refine Ops.y (v := .int .i64 _) (Y.loadv ty_3 rfl (I.rd (E.kn.rd.part 0 1)) rfl rfl) ?_
      refine Ops.y (v := .pointer (some ⟨_, _, none⟩)) (Y.fa fa_82_1 rfl) ?_
      refine Ops.y (v := .agg #[_, _, _]) (Y.loadv ty_80 rfl (I.rdbox 0 rfl 1 3) rfl rfl) ?_
      refine Ops.go (O.callv I Tryz.call84 (FOf_at _ I.base_ok p E.p f E.f n r h0 hr ok okf (mx0 b) hvs (true, headF p.preds.xs f.xs r (mx0 b)) (by unfold holdsF; rw [hh]; rfl)) rfl ?_)
      intro w I
      refine Ops.y (v := .tuple #[_, _]) (Y.move rfl) ?_
      refine Ops.y (v := .bool _) (Y.extract rfl rfl) ?_
      refine Ops.y (v := .agg #[_, _, _, _]) (Y.extract rfl rfl) ?_
      refine Ops.go (O.alloc I Tryz.zeroValue52 rfl ?_)
      intro b12 w I
      refine Ops.y (v := .bool _) (Y.assign rfl) ?_
      refine Ops.go (O.store (v := .agg #[_, _, _, _]) I ty_52 0 rfl rfl rfl rfl rfl rfl (Nat.le_of_ble_eq_true rfl) rfl ?_)
      intro w I
      refine Ops.nil ?_
      refine WP.seq ?_
      refine WP.region ?_
      refine Ops.y (v := .bool _) (Y.move rfl) ?_
      refine Ops.nil ?_
      refine WP.cond_t rfl ?_
      refine WP.region ?_
      refine Ops.y (v := .slice _ _ _) (Y.loadv ty_36 rfl (I.rdbox 2 rfl 0 1) rfl rfl) ?_
      refine Ops.y (v := .agg #[_, _, _, _]) (Y.loadv ty_82 rfl (I.rdbox 1 rfl 0 4) rfl rfl) ?_
      refine Ops.go (O.mksl (xs := [⟨n, mx0 b⟩]) (enc := Stp.enc) I Tryz.underlying36 Tryz.sizeOf82 Tryz.zeroValue82 rfl (Nat.le_of_ble_eq_true rfl) rfl rfl (by decide) (fun _ => rfl) ?_)
      intro b45 h45 w I le45 sl45
      refine Ops.go (O.append I Tryz.underlying36 et_82 3 rfl rfl rfl (I.rd (sl45 0 _ rfl).2) rfl rfl (by decide) ((by simp only [List.length_singleton] at hsz; omega)) (by omega) ?_)
      intro b46 c46 w I
      refine Ops.go (O.store (v := .slice _ _ _) I ty_36 2 rfl rfl rfl rfl rfl rfl (Nat.le_of_ble_eq_true rfl) rfl ?_)
      intro w I
      refine Ops.nil ?_
      refine WP.ret ?_
      repeat (first | refine thenE_ret ?_ | refine blockE_ret ?_)
      refine ⟨.inl rfl, [], trivial, rfl, h45, some ⟨b46, 0, none⟩, c46, m + 1, le45, ?_, ?_⟩
      · simp only [if_true]
        show Inv B h45 [box bo [.slice (some ⟨b46, 0, none⟩) (m + 1) c46] 36, ownSl 82 4 (.slice (some ⟨b46, 0, none⟩) (m + 1) c46) (m + 1) ((acc ++ [Stp.mk n (mx0 b)]).flatMap Stp.enc)] w
        rw [snocS]; exact I.drop.drop
      · simp only [if_true, List.length_append, List.length_singleton]; omega
  | at1 :: ls, B, h, w, l, b, a, c, m, acc, hls0, I, hm, E, hA, hin, hb, hsz => by
    have hlen : l.xs.length = ls.length + 1 := by rw [hls0]; rfl
    have hl0 : l.xs[0]? = some at1 := by rw [hls0]; rfl
    have hat := hin at1 List.mem_cons_self
    obtain ⟨y, hy, _, hya⟩ := mem_poss.1 hat
    have aok : AOk p.preds.xs at1 := hya ▸ aok_of ok.preds (ok.body y hy)
    have hav : ∀ t ∈ at1.args.xs, t.var = true → 0 ≤ t.n ∧ t.n < 3 := fun t ht hv => aok.var ht hv
    have hsm := hA.is.small
    have hsf := E.f.small
    rw [layF_cons] at hsz ⊢
    refine Calls.ofWP (args := [b.val, l.val, .pointer (some ⟨bn, 0, none⟩), .pointer (some ⟨bp, 0, none⟩), .pointer (some ⟨bf, 0, none⟩), .pointer (some ⟨bo, 0, none⟩), .pointer (some ⟨bl, 0, none⟩)]) Tryz.func168 rfl Tryz.ntmps168 (by kernel_rfl) (by simp) ?_
    intro e
    refine WP.seq ?_
    refine WP.region ?_
    refine Ops.go (O.box (v := .agg #[_, _, _]) I rfl rfl ?_)
    intro b7 w I
    refine Ops.nil ?_
    refine WP.seq ?_
    refine WP.seq ?_
    refine WP.region ?_
    refine Ops.y (v := .slice _ _ _) (Y.move rfl) ?_
    refine Ops.y (v := .int .i64 _) (Y.lens Tryz.underlying186 rfl) ?_
    refine Ops.y (v := .bool false) (Y.dec_f (Y.eqi rfl rfl) ((by omega))) ?_
    refine Ops.nil ?_
    refine WP.cond_f rfl ?_
    obtain ⟨h1, le1, k7, I⟩ := I.settleBox
    have E := E.le le1
    have hA := hA.le le1
    refine WP.skip ?_
    refine WP.seq ?_
    refine WP.region ?_
    refine Ops.y (v := .slice _ _ _) (Y.loadv ty_26 rfl (I.rd (E.kf.rd.part 0 1)) rfl rfl) ?_
    refine Ops.y (v := .int .i64 _) (Y.lens Tryz.underlying26 rfl) ?_
    refine Ops.y (v := .int .i64 _) (Y.move rfl) ?_
    refine Ops.nil ?_
    refine WP.block ?_
    refine WP.loopE (σ := Nat) (fun k => [(1, l.val), (2, .pointer (some ⟨bn, 0, none⟩)), (3, .pointer (some ⟨bp, 0, none⟩)), (4, .pointer (some ⟨bf, 0, none⟩)), (5, .pointer (some ⟨bo, 0, none⟩)), (6, .pointer (some ⟨bl, 0, none⟩)), (7, .pointer (some ⟨b7, 0, none⟩)), (47, f.val), (48, .int .i64 f.xs.length), (49, .int .i64 k)])
      (fun k w => k ≤ f.xs.length ∧ ∃ h2 a' c' m', h1.le h2 ∧ Inv B h2 (LayM bo a' c' m' (acc ++ outL f.xs n r ((f.xs.take k).flatMap (layN f.xs at1 ls b)))) w ∧ m' = (acc ++ outL f.xs n r ((f.xs.take k).flatMap (layN f.xs at1 ls b))).length) (fun k => f.xs.length - k)
      ⟨0, ⟨rfl, rfl, rfl, rfl, rfl, rfl, rfl, rfl, rfl, rfl, trivial⟩, Nat.zero_le _, h1, a, c, m, Heap.le.refl _, by simpa [outL_nil] using I, by simpa [outL_nil] using hm⟩ ?_
    rintro k e w ⟨hk, h2, a2, c2, m2, gl, I, hm2⟩
    have E := E.le gl
    have hA := hA.le gl
    have k7 := k7.le gl
    refine WP.seq ?_
    refine WP.region ?_
    refine Ops.y (v := .bool (decide _)) (Y.lti rfl rfl) ?_
    refine Ops.nil ?_
    refine WP.seq ?_
    refine WP.cond_dec rfl (fun h12 => ?_) (fun h12 => ?_)
    · have hk' : k < f.xs.length := by omega
      have Ef := E.f.at hk'
      have El0 := hA.is.el.el hl0
      have hat1 := hA.each _ (List.mem_of_getElem? hl0)
      have pf := okf.pf _ (List.getElem_mem hk')
      have hts := flat_take_succ (layN f.xs at1 ls b) hk'
      have htl := flat_take_le (layN f.xs at1 ls b) f.xs (k + 1)
      have hol := outL_le f.xs n r ((f.xs.take k).flatMap (layN f.xs at1 ls b))
      rw [hts, List.length_append] at htl
      refine WP.skip ?_
      refine WP.seq ?_
      refine WP.block ?_
      refine WP.seq ?_
      refine WP.region ?_
      refine Ops.y (v := .pointer (some ⟨_, _, none⟩)) (Y.idxEl Ef Tryz.underlying26 Tryz.sizeOf52 rfl rfl (Int.natCast_nonneg _) rfl) ?_
      refine Ops.y (v := .agg #[_, _, _, _]) (Y.loadv ty_52 rfl (I.rd (Ef.rd.part 0 4)) rfl rfl) ?_
      refine Ops.go (O.alloc I Tryz.zeroValue52 rfl ?_)
      intro b14 w I
      refine Ops.go (O.store (v := .agg #[_, _, _, _]) I ty_52 0 rfl rfl rfl rfl rfl rfl (Nat.le_of_ble_eq_true rfl) rfl ?_)
      intro w I
      refine Ops.nil ?_
      refine WP.seq ?_
      refine WP.regionG mixed RBx.pre ⟨h2, none, none⟩ (J := JBx B (box b14 f.xs[k].enc 52 :: LayM bo a2 c2 m2 (acc ++ outL f.xs n r ((f.xs.take k).flatMap (layN f.xs at1 ls b)))) 193 [.int .i64 0, .int .i64 0, .int .i64 0] (wcF b at1 f.xs[k]).1.enc 9 99 10) ⟨rfl, rfl, fun h => (by cases h), I.drew⟩ 11 (by kernel_rfl) ?_
      refine OpsG.y_ (v := .agg #[_, _, _]) (fun _ => runsG_none _) RBx.pre (JBx.set (by decide)) (fun _ s w us hl hj => have I := hj.base; have hl := hl.h; Y.loadv ty_193 rfl (I.rd ((k7.rd.part 0 3).le hl)) rfl rfl) ?_
      refine OpsG.y_ (v := .slice _ _ _) (fun _ => runsG_none _) RBx.pre (JBx.set (by decide)) (fun _ s w us hl hj => have I := hj.base; have hl := hl.h; Y.move rfl) ?_
      refine OpsG.y_ (v := .pointer (some ⟨_, _, none⟩)) (fun _ => runsG_none _) RBx.pre (JBx.set (by decide)) (fun _ s w us hl hj => have I := hj.base; have hl := hl.h; Y.idxEl El0 Tryz.underlying186 Tryz.sizeOf65 rfl rfl (by decide) rfl) ?_
      refine OpsG.y_ (v := .agg #[_, _]) (fun _ => runsG_none _) RBx.pre (JBx.set (by decide)) (fun _ s w us hl hj => have I := hj.base; have hl := hl.h; Y.loadv ty_65 rfl (I.rd ((El0.rd.part 0 2).le hl)) rfl rfl) ?_
      refine OpsG.y_ (v := .agg #[_, _, _, _]) (fun _ => runsG_none _) RBx.pre (JBx.set (by decide)) (fun _ s w us hl hj => have I := hj.base; have hl := hl.h; Y.loadv ty_52 rfl (I.rdbox 0 rfl 0 4) rfl rfl) ?_
      refine OpsG.c_ (by decide) (fun _ s w us hl hj => have I := hj.inv; have hl := hl.h; O.callv I Tryz.call169 (with_ok _ I.base_ok b at1 (hat1.le hl) f.xs[k] aok.len hav) rfl (fun w' I' => ⟨rfl, ⟨hj.h7, hj.h8, hj.ord, I'⟩⟩)) ?_
      refine OpsG.y_ (v := .tuple #[_, _]) (fun _ => runsG_none _) RBx.pre (JBx.set (by decide)) (fun _ s w us hl hj => have I := hj.base; have hl := hl.h; Y.move rfl) ?_
      refine OpsG.y_ (v := .agg #[_, _, _]) (fun _ => runsG_none _) RBx.pre (JBx.set (by decide)) (fun _ s w us hl hj => have I := hj.base; have hl := hl.h; Y.extract rfl rfl) ?_
      refine OpsG.y_ (v := .bool _) (fun _ => runsG_none _) RBx.pre (JBx.set (by decide)) (fun _ s w us hl hj => have I := hj.base; have hl := hl.h; Y.extract rfl rfl) ?_
      refine OpsG.make7 Tryz.zeroValue193 rfl (by decide) (by decide) ?_
      refine OpsG.store7 ty_193 rfl rfl (fun s => by intro u15 q15; exact ⟨q15 rfl, rfl⟩) rfl rfl (by decide) (by decide) ?_
      refine OpsG.nil ?_
      intro D s w hD hl hj u15 q15
      obtain ⟨b15, rfl, h15⟩ := q15 rfl
      have I := hj.inv
      rw [h15, hD 10 (by omega)] at I
      have hl := hl.h
      refine Ops.y (v := .bool _) (Y.assign rfl) ?_
      refine Ops.nil ?_
      generalize s.o8 = o8 at I
      generalize s.h = h3 at I hl
      have I : Inv B h3 (box b15 (wcF b at1 f.xs[k]).1.enc 193 :: box b14 f.xs[k].enc 52 :: LayM bo a2 c2 m2 (acc ++ outL f.xs n r ((f.xs.take k).flatMap (layN f.xs at1 ls b)))) w := by
        cases o8 with
        | none => exact I
        | some b8 => exact I.weak (List.Sublist.cons_cons _ (List.sublist_cons_self _ _))
      have E := E.le hl
      have hA := hA.le hl
      refine WP.seq ?_
      refine WP.region ?_
      refine Ops.y (v := .bool _) (Y.move rfl) ?_
      refine Ops.nil ?_
      cases hw : (wcF b at1 f.xs[k]).2
      · refine WP.cond_f rfl ?_
        refine WP.skip ?_
        refine WP.region ?_
        refine Ops.y (v := .int .i64 _) (Y.addi rfl rfl ⟨by omega, by omega⟩) ?_
        refine Ops.y (v := .int .i64 _) (Y.move rfl) ?_
        refine Ops.nil ?_
        refine ⟨k + 1, ⟨⟨rfl, rfl, rfl, rfl, rfl, rfl, rfl, rfl, rfl, rfl, trivial⟩, by omega, h3, a2, c2, m2, gl.trans hl, ?_, ?_⟩, by omega⟩
        · rw [hts, show layN f.xs at1 ls b f.xs[k] = [] from by unfold layN; rw [hw]; rfl, List.append_nil]; exact I.drop.drop
        · rw [hts, show layN f.xs at1 ls b f.xs[k] = [] from by unfold layN; rw [hw]; rfl, List.append_nil]; exact hm2
      · have hN : layN f.xs at1 ls b f.xs[k] = layF f.xs ls (wcF b at1 f.xs[k]).1 := by unfold layN; rw [hw]; rfl
        rw [hN] at htl hts
        have hcut : (l.cut 2 1 l.xs.length).xs = ls := by simp only [Sl.cut, List.take_length, hls0, List.drop_succ_cons, List.drop_zero]
        have hAc : AtS (l.cut 2 1 l.xs.length) h3 := ⟨hA.is.cut hA.cap, by simp only [Sl.cut, List.length_drop, List.length_take]; have := hA.cap; omega, fun x hx => hA.each x (List.mem_of_mem_take (List.mem_of_mem_drop hx))⟩
        have gl3 := gl.trans hl
        refine WP.cond_t rfl ?_
        refine WP.regionF mixed I 4 (by kernel_rfl) ?_
        refine OpsF.y_ (v := .func _ _ _) (fun _ => runs_none _) (fun _ w us hl I => Y.loadv ty_192 rfl (I.rd ((E.kl.rd.part 0 1).le hl)) rfl rfl) ?_
        refine OpsF.y_ (v := .agg #[_, _, _]) (fun _ => runs_none _) (fun _ w us hl I => Y.loadv ty_193 rfl (I.rdbox 0 rfl 0 3) rfl rfl) ?_
        refine OpsF.y_ (v := .slice _ _ _) (fun _ => runs_none _) (fun _ w us hl I => Y.move rfl) ?_
        refine OpsF.y_ (v := .slice _ _ _) (fun _ => runs_none _) (fun _ w us hl I => Y.cut (l := 1) (h := l.xs.length) Tryz.underlying186 Tryz.sizeOf65 (hA.is.at (i := 0) (by omega)).at_ hA.cap rfl (.inr ⟨_, _, rfl, rfl⟩) (.inl ⟨rfl, rfl⟩) (by omega) (Nat.le_refl _)) ?_
        refine OpsF.nil ?_
        intro _ w hl I
        have I := I.drop.drop
        refine Ops.go (O.callcs Tryz.call168 (fs := []) (cs := [.pointer (some ⟨bn, 0, none⟩), .pointer (some ⟨bp, 0, none⟩), .pointer (some ⟨bf, 0, none⟩), .pointer (some ⟨bo, 0, none⟩), .pointer (some ⟨bl, 0, none⟩)]) rfl (lay_ok p f n r bn bp bf bo bl h0 hr ok okf ls (l.cut 2 1 l.xs.length) (wcF b at1 f.xs[k]).1 a2 c2 m2 _ hcut I hm2 (E.le (by assumption)) (hAc.le (by assumption)) (fun x hx => hin x (List.mem_cons_of_mem _ hx)) (wc_bok hat hav pf hb hw) (by rw [hm2, List.length_append]; omega)) rfl ?_)
        rintro ed w ⟨rfl, h5, a5, c5, m5, le5, I, hm5⟩
        refine ⟨_, rfl, ?_⟩
        refine Ops.nil ?_
        refine WP.region ?_
        refine Ops.y (v := .int .i64 _) (Y.addi rfl rfl ⟨by omega, by omega⟩) ?_
        refine Ops.y (v := .int .i64 _) (Y.move rfl) ?_
        refine Ops.nil ?_
        refine ⟨k + 1, ⟨⟨rfl, rfl, rfl, rfl, rfl, rfl, rfl, rfl, rfl, rfl, trivial⟩, by omega, h5, a5, c5, m5, (gl3.trans hl).trans le5, ?_, ?_⟩, by omega⟩
        · rw [hts, outL_app, ← List.append_assoc]; exact I
        · rw [hts, outL_app, ← List.append_assoc]; exact hm5
    · obtain rfl : k = f.xs.length := by omega
      rw [List.take_length] at I hm2
      refine WP.exit ?_
      exact ⟨.inr rfl, [], trivial, rfl, h2, a2, c2, m2, le1.trans gl, I, hm2⟩
end Go.TF
end
section
/- The laying of slices.SortFunc at this program, made by the kit's own tool. -/
namespace Go.Proofs
open Go.Shelf
def Tryz.sortStp_ren : Go.Shelf.Ren := ⟨fun | 6 => 170 | 15 => 186 | 14 => 185 | 28 => 203 | 29 => 204 | 20 => 195 | 21 => 196 | 22 => 197 | 23 => 198 | 24 => 199 | 25 => 200 | 26 => 201 | 27 => 202 | 46 => 206 | 47 => 207 | 48 => 208 | 49 => 209 | 50 => 210 | 57 => 211 | n => n, fun | 22 => 36 | 24 => 82 | 25 => 198 | 3 => 3 | 39 => 207 | 0 => 0 | 53 => 224 | 55 => 226 | 4 => 4 | 46 => 218 | 45 => 217 | 50 => 107 | 5 => 5 | 9 => 9 | 66 => 228 | 70 => 232 | 76 => 234 | 77 => 235 | n => n, fun | n => n⟩
theorem Tryz.sortStp : Go.Proofs.SlLaysF0.n6 Tryz.prog Tryz.sortStp_ren := {
  mixed := by kernel_rfl
  f6 := ⟨Tryz.f170.name, by decide, Tryz.func170.trans (congrArg some (by kernel_rfl))⟩
  f14 := ⟨Tryz.f185.name, by decide, Tryz.func185.trans (congrArg some (by kernel_rfl))⟩
  f15 := Tryz.func186.trans (congrArg some (by kernel_rfl))
  f20 := ⟨Tryz.f195.name, by decide, Tryz.func195.trans (congrArg some (by kernel_rfl))⟩
  f21 := ⟨Tryz.f196.name, by decide, Tryz.func196.trans (congrArg some (by kernel_rfl))⟩
  f22 := ⟨Tryz.f197.name, by decide, Tryz.func197.trans (congrArg some (by kernel_rfl))⟩
  f23 := ⟨Tryz.f198.name, by decide, Tryz.func198.trans (congrArg some (by kernel_rfl))⟩
  f24 := ⟨Tryz.f199.name, by decide, Tryz.func199.trans (congrArg some (by kernel_rfl))⟩
  f25 := ⟨Tryz.f200.name, by decide, Tryz.func200.trans (congrArg some (by kernel_rfl))⟩
  f26 := ⟨Tryz.f201.name, by decide, Tryz.func201.trans (congrArg some (by kernel_rfl))⟩
  f27 := ⟨Tryz.f202.name, by decide, Tryz.func202.trans (congrArg some (by kernel_rfl))⟩
  f28 := Tryz.func203.trans (congrArg some (by kernel_rfl))
  f29 := Tryz.func204.trans (congrArg some (by kernel_rfl))
  f46 := ⟨Tryz.f206.name, by decide, Tryz.func206.trans (congrArg some (by kernel_rfl))⟩
  f47 := Tryz.func207.trans (congrArg some (by kernel_rfl))
  f48 := Tryz.func208.trans (congrArg some (by kernel_rfl))
  f49 := ⟨Tryz.f209.name, by decide, Tryz.func209.trans (congrArg some (by kernel_rfl))⟩
  f50 := ⟨Tryz.f210.name, by decide, Tryz.func210.trans (congrArg some (by kernel_rfl))⟩
  f57 := ⟨Tryz.f211.name, by decide, Tryz.func211.trans (congrArg some (by kernel_rfl))⟩
  t0 := Tryz.underlying0
  a0 := Tryz.isAgg0
  z0 := Tryz.sizeOf0
  v0 := Tryz.zeroValue0
  t3 := Tryz.underlying3
  a3 := Tryz.isAgg3
  z3 := Tryz.sizeOf3
  v3 := Tryz.zeroValue3
  t4 := Tryz.underlying4
  a4 := Tryz.isAgg4
  z4 := Tryz.sizeOf4
  v4 := Tryz.zeroValue4
  t5 := Tryz.underlying5
  a5 := Tryz.isAgg5
  z5 := Tryz.sizeOf5
  v5 := Tryz.zeroValue5
  t9 := Tryz.underlying9
  a9 := Tryz.isAgg9
  z9 := Tryz.sizeOf9
  v9 := Tryz.zeroValue9
  t22 := Tryz.underlying36
  a22 := Tryz.isAgg36
  z22 := Tryz.sizeOf36
  v22 := Tryz.zeroValue36
  t25 := Tryz.underlying198
  a25 := Tryz.isAgg198
  z25 := Tryz.sizeOf198
  v25 := Tryz.zeroValue198
  t39 := Tryz.underlying207
  a39 := Tryz.isAgg207
  z39 := Tryz.sizeOf207
  v39 := Tryz.zeroValue207
  t45 := Tryz.underlying217
  a45 := Tryz.isAgg217
  z45 := Tryz.sizeOf217
  v45 := Tryz.zeroValue217
  t46 := Tryz.underlying218
  a46 := Tryz.isAgg218
  z46 := Tryz.sizeOf218
  v46 := Tryz.zeroValue218
  t50 := Tryz.underlying107
  a50 := Tryz.isAgg107
  z50 := Tryz.sizeOf107
  v50 := Tryz.zeroValue107
  t53 := Tryz.underlying224
  a53 := Tryz.isAgg224
  z53 := Tryz.sizeOf224
  v53 := Tryz.zeroValue224
  t55 := Tryz.underlying226
  a55 := Tryz.isAgg226
  z55 := Tryz.sizeOf226
  v55 := Tryz.zeroValue226
  t66 := Tryz.underlying228
  a66 := Tryz.isAgg228
  z66 := Tryz.sizeOf228
  v66 := Tryz.zeroValue228
  t70 := Tryz.underlying232
  a70 := Tryz.isAgg232
  z70 := Tryz.sizeOf232
  v70 := Tryz.zeroValue232
  t76 := Tryz.underlying234
  a76 := Tryz.isAgg234
  z76 := Tryz.sizeOf234
  v76 := Tryz.zeroValue234
  t77 := Tryz.underlying235
  a77 := Tryz.isAgg235
  z77 := Tryz.sizeOf235
  v77 := Tryz.zeroValue235 }
end Go.Proofs
end
section
/- Steps compared, sorted. -/
namespace Go.TF
open Go Go.RowKit Go.Proofs
set_option maxRecDepth 20000

/-! ### In exactly this world -/
theorem isNaN_x (a : Int) (w : World) : Calls Tryz.prog 180 [.int .i64 a].toArray w (fun ed w' => ed = .returned (.bool false) ∧ w' = w) := by
  refine Calls.ofWP (args := [.int .i64 a]) Tryz.func180 rfl Tryz.ntmps180 (by kernel_rfl) (by simp) ?_
  intro e
  refine WP.seq ?_
  refine WP.region ?_
  refine Ops.y (v := .bool _) (Y.assign rfl) ?_
  refine Ops.nil ?_
  refine WP.seq ?_
  refine WP.region ?_
  refine Ops.y (v := .int .i64 _) (Y.move rfl) ?_
  refine Ops.y (v := .int .i64 _) (Y.move rfl) ?_
  refine Ops.y (v := .bool (decide _)) (Y.nei rfl rfl) ?_
  refine Ops.y (v := .bool _) (Y.assign rfl) ?_
  refine Ops.nil ?_
  refine WP.ret ?_
  repeat (first | refine thenE_ret ?_ | refine blockE_ret ?_)
  exact ⟨.inl rfl, [.bool _], ⟨rfl, trivial⟩, by simp [tup], rfl⟩
theorem Compare_x (a b : Int) (w : World) : Calls Tryz.prog 159 [.int .i64 a, .int .i64 b].toArray w (fun ed w' => ed = .returned (.int .i64 (cmpI a b)) ∧ w' = w) := by
  refine Calls.ofWP (args := [.int .i64 a, .int .i64 b]) Tryz.func159 rfl Tryz.ntmps159 (by kernel_rfl) (by simp) ?_
  intro e
  refine WP.seq ?_
  refine WP.region ?_
  refine Ops.y (v := .int .i64 _) (Y.assign rfl) ?_
  refine Ops.nil ?_
  refine WP.seq ?_
  refine WP.region ?_
  refine Ops.y (v := .int .i64 _) (Y.move rfl) ?_
  refine Ops.go (O.calls Tryz.call180 (isNaN_x a w) rfl ?_)
  rintro ed w' ⟨rfl, rfl⟩
  refine ⟨_, rfl, ?_⟩
  refine Ops.y (v := .bool _) (Y.assign rfl) ?_
  refine Ops.nil ?_
  refine WP.seq ?_
  refine WP.region ?_
  refine Ops.y (v := .int .i64 _) (Y.move rfl) ?_
  refine Ops.go (O.calls Tryz.call180 (isNaN_x b _) rfl ?_)
  rintro ed w' ⟨rfl, rfl⟩
  refine ⟨_, rfl, ?_⟩
  refine Ops.y (v := .bool _) (Y.assign rfl) ?_
  refine Ops.nil ?_
  refine WP.seq ?_
  refine WP.seq ?_
  refine WP.region ?_
  refine Ops.y (v := .bool _) (Y.move rfl) ?_
  refine Ops.nil ?_
  refine WP.cond_f rfl ?_
  refine WP.skip ?_
  refine WP.seq ?_
  refine WP.seq ?_
  refine WP.region ?_
  refine Ops.y (v := .bool _) (Y.move rfl) ?_
  refine Ops.nil ?_
  refine WP.cond_f rfl ?_
  refine WP.skip ?_
  refine WP.seq ?_
  refine WP.seq ?_
  refine WP.region ?_
  refine Ops.y (v := .int .i64 _) (Y.move rfl) ?_
  refine Ops.y (v := .int .i64 _) (Y.move rfl) ?_
  refine Ops.y (v := .bool (decide _)) (Y.lti rfl rfl) ?_
  refine Ops.nil ?_
  refine WP.cond_dec rfl (fun h1 => ?_) (fun h1 => ?_)
  · refine WP.seq ?_
    refine WP.region ?_
    refine Ops.y (v := .int .i64 _) (Y.assign rfl) ?_
    refine Ops.nil ?_
    refine WP.ret ?_
    repeat (first | refine thenE_ret ?_ | refine blockE_ret ?_)
    exact ⟨.inl rfl, [.int .i64 (-1)], ⟨rfl, trivial⟩, by simp only [tup, cmpI]; rw [if_pos h1], rfl⟩
  refine WP.skip ?_
  refine WP.seq ?_
  refine WP.seq ?_
  refine WP.region ?_
  refine Ops.y (v := .int .i64 _) (Y.move rfl) ?_
  refine Ops.y (v := .int .i64 _) (Y.move rfl) ?_
  refine Ops.y (v := .bool (decide _)) (Y.gti rfl rfl) ?_
  refine Ops.nil ?_
  refine WP.cond_dec rfl (fun h2 => ?_) (fun h2 => ?_)
  · refine WP.seq ?_
    refine WP.region ?_
    refine Ops.y (v := .int .i64 _) (Y.assign rfl) ?_
    refine Ops.nil ?_
    refine WP.ret ?_
    repeat (first | refine thenE_ret ?_ | refine blockE_ret ?_)
    exact ⟨.inl rfl, [.int .i64 1], ⟨rfl, trivial⟩, by simp only [tup, cmpI]; rw [if_neg h1, if_pos h2], rfl⟩
  refine WP.skip ?_
  refine WP.seq ?_
  refine WP.region ?_
  refine Ops.y (v := .int .i64 _) (Y.assign rfl) ?_
  refine Ops.nil ?_
  refine WP.ret ?_
  repeat (first | refine thenE_ret ?_ | refine blockE_ret ?_)
  exact ⟨.inl rfl, [.int .i64 0], ⟨rfl, trivial⟩, by simp only [tup, cmpI]; rw [if_neg h1, if_neg h2], rfl⟩
def cmpV (x y : Vrs) : Int := if cmpI x.x0 y.x0 ≠ 0 then cmpI x.x0 y.x0 else if cmpI x.x1 y.x1 ≠ 0 then cmpI x.x1 y.x1 else cmpI x.x2 y.x2
theorem cmpI_zero {a b : Int} : cmpI a b = 0 ↔ a = b := by unfold cmpI; (repeat' split) <;> omega
theorem cmpI_neg {a b : Int} : cmpI a b < 0 ↔ a < b := by unfold cmpI; (repeat' split) <;> omega
theorem cmpV_neg {x y : Vrs} : cmpV x y < 0 ↔ ltV x y := by
  unfold cmpV ltV
  have h0 := cmpI_neg (a := x.x0) (b := y.x0); have h1 := cmpI_neg (a := x.x1) (b := y.x1); have h2 := cmpI_neg (a := x.x2) (b := y.x2)
  have z0 := cmpI_zero (a := x.x0) (b := y.x0); have z1 := cmpI_zero (a := x.x1) (b := y.x1)
  split
  · omega
  · split <;> omega
theorem SCompare_x (x y : Vrs) (b1 b2 o1 o2 : Nat) (w : World) (h1 : Rd w b1 o1 x.enc) (h2 : Rd w b2 o2 y.enc) :
    Calls Tryz.prog 172 [.slice (some ⟨b1, o1, none⟩) (3 : Nat) (3 : Nat), .slice (some ⟨b2, o2, none⟩) (3 : Nat) (3 : Nat)].toArray w (fun ed w' => ed = .returned (.int .i64 (cmpV x y)) ∧ w' = w) := by
  refine Calls.ofWP (args := [.slice (some ⟨b1, o1, none⟩) (3 : Nat) (3 : Nat), .slice (some ⟨b2, o2, none⟩) (3 : Nat) (3 : Nat)]) Tryz.func172 rfl Tryz.ntmps172 (by kernel_rfl) (by simp) ?_
  intro e
  refine WP.seq ?_
  refine WP.region ?_
  refine Ops.y (v := .int .i64 _) (Y.assign rfl) ?_
  refine Ops.nil ?_
  refine WP.seq ?_
  refine WP.seq ?_
  refine WP.region ?_
  refine Ops.y (v := .slice _ _ _) (Y.move rfl) ?_
  refine Ops.y (v := .int .i64 _) (Y.lens Tryz.underlying45 rfl) ?_
  refine Ops.y (v := .int .i64 _) (Y.move rfl) ?_
  refine Ops.nil ?_
  refine WP.block ?_
  refine WP.loopE (σ := Nat) (fun k => [(0, .slice (some ⟨b1, o1, none⟩) (3 : Nat) (3 : Nat)), (1, .slice (some ⟨b2, o2, none⟩) (3 : Nat) (3 : Nat)), (9, .slice (some ⟨b1, o1, none⟩) (3 : Nat) (3 : Nat)), (10, .int .i64 (3 : Nat)), (11, .int .i64 k)]) (fun k w' => w' = w ∧ k ≤ 3 ∧ (0 < k → cmpI x.x0 y.x0 = 0) ∧ (1 < k → cmpI x.x1 y.x1 = 0) ∧ (2 < k → cmpI x.x2 y.x2 = 0)) (fun k => 3 - k)
    ⟨0, ⟨rfl, rfl, rfl, rfl, rfl, trivial⟩, rfl, Nat.zero_le _, fun h => by omega, fun h => by omega, fun h => by omega⟩ ?_
  rintro k e w' ⟨rfl, hk, g0, g1, g2⟩
  refine WP.seq ?_
  refine WP.region ?_
  refine Ops.y (v := .bool (decide _)) (Y.lti rfl rfl) ?_
  refine Ops.nil ?_
  refine WP.seq ?_
  refine WP.cond_dec rfl (fun h => ?_) (fun h => ?_)
  · have hk3 : k = 0 ∨ k = 1 ∨ k = 2 := by omega
    rcases hk3 with rfl | rfl | rfl
    · refine WP.skip ?_
      refine WP.seq ?_
      refine WP.block ?_
      refine WP.seq ?_
      refine WP.region ?_
      refine Ops.y (v := .int .i64 _) (Y.move rfl) ?_
      refine Ops.y (v := .pointer (some ⟨_, _, none⟩)) (Y.idx Tryz.underlying45 Tryz.sizeOf3 rfl rfl (by omega) (by omega)) ?_
      refine Ops.y (v := .int .i64 _) (Y.loadv ty_3 rfl (h1.one (i := 0) (x := .int .i64 x.x0) rfl) rfl rfl) ?_
      refine Ops.y (v := .int .i64 _) (Y.assign rfl) ?_
      refine Ops.y (v := .int .i64 _) (Y.assign rfl) ?_
      refine Ops.nil ?_
      refine WP.seq ?_
      refine WP.seq ?_
      refine WP.region ?_
      refine Ops.y (v := .int .i64 _) (Y.move rfl) ?_
      refine Ops.y (v := .slice _ _ _) (Y.move rfl) ?_
      refine Ops.y (v := .int .i64 _) (Y.lens Tryz.underlying45 rfl) ?_
      refine Ops.y (v := .bool (decide _)) (Y.gei rfl rfl) ?_
      refine Ops.nil ?_
      refine WP.cond_decF rfl ((by omega)) ?_
      refine WP.skip ?_
      refine WP.seq ?_
      refine WP.region ?_
      refine Ops.y (v := .slice _ _ _) (Y.move rfl) ?_
      refine Ops.y (v := .int .i64 _) (Y.move rfl) ?_
      refine Ops.y (v := .pointer (some ⟨_, _, none⟩)) (Y.idx Tryz.underlying45 Tryz.sizeOf3 rfl rfl (by omega) (by omega)) ?_
      refine Ops.y (v := .int .i64 _) (Y.loadv ty_3 rfl (h2.one (i := 0) (x := .int .i64 y.x0) rfl) rfl rfl) ?_
      refine Ops.y (v := .int .i64 _) (Y.assign rfl) ?_
      refine Ops.nil ?_
      refine WP.seq ?_
      refine WP.region ?_
      refine Ops.y (v := .int .i64 _) (Y.move rfl) ?_
      refine Ops.y (v := .int .i64 _) (Y.move rfl) ?_
      refine Ops.go (O.calls Tryz.call159 (Compare_x x.x0 y.x0 _) rfl ?_)
      rintro ed w' ⟨rfl, rfl⟩
      refine ⟨_, rfl, ?_⟩
      refine Ops.y (v := .int .i64 _) (Y.assign rfl) ?_
      refine Ops.nil ?_
      refine WP.seq ?_
      refine WP.region ?_
      refine Ops.y (v := .int .i64 _) (Y.move rfl) ?_
      refine Ops.y (v := .bool (decide _)) (Y.nei rfl rfl) ?_
      refine Ops.nil ?_
      refine WP.cond_dec rfl (fun h8 => ?_) (fun h8 => ?_)
      · refine WP.seq ?_
        refine WP.region ?_
        refine Ops.y (v := .int .i64 _) (Y.move rfl) ?_
        refine Ops.y (v := .int .i64 _) (Y.assign rfl) ?_
        refine Ops.nil ?_
        refine WP.ret ?_
        repeat (first | refine thenE_ret ?_ | refine blockE_ret ?_)
        refine ⟨.inl rfl, [.int .i64 (cmpI x.x0 y.x0)], ⟨rfl, trivial⟩, ?_, rfl⟩
        simp only [tup, cmpV]
        simp_all
      · refine WP.skip ?_
        refine WP.region ?_
        refine Ops.y (v := .int .i64 _) (Y.addi rfl rfl ⟨by omega, by omega⟩) ?_
        refine Ops.y (v := .int .i64 _) (Y.move rfl) ?_
        refine Ops.nil ?_
        exact ⟨1, ⟨⟨rfl, rfl, rfl, rfl, rfl, trivial⟩, rfl, by omega, fun h => by first | omega | exact Decidable.not_not.1 h8 | exact g0 (by omega), fun h => by first | omega | exact Decidable.not_not.1 h8 | exact g1 (by omega), fun h => by first | omega | exact Decidable.not_not.1 h8⟩, by omega⟩
    · refine WP.skip ?_
      refine WP.seq ?_
      refine WP.block ?_
      refine WP.seq ?_
      refine WP.region ?_
      refine Ops.y (v := .int .i64 _) (Y.move rfl) ?_
      refine Ops.y (v := .pointer (some ⟨_, _, none⟩)) (Y.idx Tryz.underlying45 Tryz.sizeOf3 rfl rfl (by omega) (by omega)) ?_
      refine Ops.y (v := .int .i64 _) (Y.loadv ty_3 rfl (h1.one (i := 1) (x := .int .i64 x.x1) rfl) rfl rfl) ?_
      refine Ops.y (v := .int .i64 _) (Y.assign rfl) ?_
      refine Ops.y (v := .int .i64 _) (Y.assign rfl) ?_
      refine Ops.nil ?_
      refine WP.seq ?_
      refine WP.seq ?_
      refine WP.region ?_
      refine Ops.y (v := .int .i64 _) (Y.move rfl) ?_
      refine Ops.y (v := .slice _ _ _) (Y.move rfl) ?_
      refine Ops.y (v := .int .i64 _) (Y.lens Tryz.underlying45 rfl) ?_
      refine Ops.y (v := .bool (decide _)) (Y.gei rfl rfl) ?_
      refine Ops.nil ?_
      refine WP.cond_decF rfl ((by omega)) ?_
      refine WP.skip ?_
      refine WP.seq ?_
      refine WP.region ?_
      refine Ops.y (v := .slice _ _ _) (Y.move rfl) ?_
      refine Ops.y (v := .int .i64 _) (Y.move rfl) ?_
      refine Ops.y (v := .pointer (some ⟨_, _, none⟩)) (Y.idx Tryz.underlying45 Tryz.sizeOf3 rfl rfl (by omega) (by omega)) ?_
      refine Ops.y (v := .int .i64 _) (Y.loadv ty_3 rfl (h2.one (i := 1) (x := .int .i64 y.x1) rfl) rfl rfl) ?_
      refine Ops.y (v := .int .i64 _) (Y.assign rfl) ?_
      refine Ops.nil ?_
      refine WP.seq ?_
      refine WP.region ?_
      refine Ops.y (v := .int .i64 _) (Y.move rfl) ?_
      refine Ops.y (v := .int .i64 _) (Y.move rfl) ?_
      refine Ops.go (O.calls Tryz.call159 (Compare_x x.x1 y.x1 _) rfl ?_)
      rintro ed w' ⟨rfl, rfl⟩
      refine ⟨_, rfl, ?_⟩
      refine Ops.y (v := .int .i64 _) (Y.assign rfl) ?_
      refine Ops.nil ?_
      refine WP.seq ?_
      refine WP.region ?_
      refine Ops.y (v := .int .i64 _) (Y.move rfl) ?_
      refine Ops.y (v := .bool (decide _)) (Y.nei rfl rfl) ?_
      refine Ops.nil ?_
      refine WP.cond_dec rfl (fun h8 => ?_) (fun h8 => ?_)
      · refine WP.seq ?_
        refine WP.region ?_
        refine Ops.y (v := .int .i64 _) (Y.move rfl) ?_
        refine Ops.y (v := .int .i64 _) (Y.assign rfl) ?_
        refine Ops.nil ?_
        refine WP.ret ?_
        repeat (first | refine thenE_ret ?_ | refine blockE_ret ?_)
        refine ⟨.inl rfl, [.int .i64 (cmpI x.x1 y.x1)], ⟨rfl, trivial⟩, ?_, rfl⟩
        simp only [tup, cmpV]
        simp_all
      · refine WP.skip ?_
        refine WP.region ?_
        refine Ops.y (v := .int .i64 _) (Y.addi rfl rfl ⟨by omega, by omega⟩) ?_
        refine Ops.y (v := .int .i64 _) (Y.move rfl) ?_
        refine Ops.nil ?_
        exact ⟨2, ⟨⟨rfl, rfl, rfl, rfl, rfl, trivial⟩, rfl, by omega, fun h => by first | omega | exact Decidable.not_not.1 h8 | exact g0 (by omega), fun h => by first | omega | exact Decidable.not_not.1 h8 | exact g1 (by omega), fun h => by first | omega | exact Decidable.not_not.1 h8⟩, by omega⟩
    · refine WP.skip ?_
      refine WP.seq ?_
      refine WP.block ?_
      refine WP.seq ?_
      refine WP.region ?_
      refine Ops.y (v := .int .i64 _) (Y.move rfl) ?_
      refine Ops.y (v := .pointer (some ⟨_, _, none⟩)) (Y.idx Tryz.underlying45 Tryz.sizeOf3 rfl rfl (by omega) (by omega)) ?_
      refine Ops.y (v := .int .i64 _) (Y.loadv ty_3 rfl (h1.one (i := 2) (x := .int .i64 x.x2) rfl) rfl rfl) ?_
      refine Ops.y (v := .int .i64 _) (Y.assign rfl) ?_
      refine Ops.y (v := .int .i64 _) (Y.assign rfl) ?_
      refine Ops.nil ?_
      refine WP.seq ?_
      refine WP.seq ?_
      refine WP.region ?_
      refine Ops.y (v := .int .i64 _) (Y.move rfl) ?_
      refine Ops.y (v := .slice _ _ _) (Y.move rfl) ?_
      refine Ops.y (v := .int .i64 _) (Y.lens Tryz.underlying45 rfl) ?_
      refine Ops.y (v := .bool (decide _)) (Y.gei rfl rfl) ?_
      refine Ops.nil ?_
      refine WP.cond_decF rfl ((by omega)) ?_
      refine WP.skip ?_
      refine WP.seq ?_
      refine WP.region ?_
      refine Ops.y (v := .slice _ _ _) (Y.move rfl) ?_
      refine Ops.y (v := .int .i64 _) (Y.move rfl) ?_
      refine Ops.y (v := .pointer (some ⟨_, _, none⟩)) (Y.idx Tryz.underlying45 Tryz.sizeOf3 rfl rfl (by omega) (by omega)) ?_
      refine Ops.y (v := .int .i64 _) (Y.loadv ty_3 rfl (h2.one (i := 2) (x := .int .i64 y.x2) rfl) rfl rfl) ?_
      refine Ops.y (v := .int .i64 _) (Y.assign rfl) ?_
      refine Ops.nil ?_
      refine WP.seq ?_
      refine WP.region ?_
      refine Ops.y (v := .int .i64 _) (Y.move rfl) ?_
      refine Ops.y (v := .int .i64 _) (Y.move rfl) ?_
      refine Ops.go (O.calls Tryz.call159 (Compare_x x.x2 y.x2 _) rfl ?_)
      rintro ed w' ⟨rfl, rfl⟩
      refine ⟨_, rfl, ?_⟩
      refine Ops.y (v := .int .i64 _) (Y.assign rfl) ?_
      refine Ops.nil ?_
      refine WP.seq ?_
      refine WP.region ?_
      refine Ops.y (v := .int .i64 _) (Y.move rfl) ?_
      refine Ops.y (v := .bool (decide _)) (Y.nei rfl rfl) ?_
      refine Ops.nil ?_
      refine WP.cond_dec rfl (fun h8 => ?_) (fun h8 => ?_)
      · refine WP.seq ?_
        refine WP.region ?_
        refine Ops.y (v := .int .i64 _) (Y.move rfl) ?_
        refine Ops.y (v := .int .i64 _) (Y.assign rfl) ?_
        refine Ops.nil ?_
        refine WP.ret ?_
        repeat (first | refine thenE_ret ?_ | refine blockE_ret ?_)
        refine ⟨.inl rfl, [.int .i64 (cmpI x.x2 y.x2)], ⟨rfl, trivial⟩, ?_, rfl⟩
        simp only [tup, cmpV]
        simp_all
      · refine WP.skip ?_
        refine WP.region ?_
        refine Ops.y (v := .int .i64 _) (Y.addi rfl rfl ⟨by omega, by omega⟩) ?_
        refine Ops.y (v := .int .i64 _) (Y.move rfl) ?_
        refine Ops.nil ?_
        exact ⟨3, ⟨⟨rfl, rfl, rfl, rfl, rfl, trivial⟩, rfl, by omega, fun h => by first | omega | exact Decidable.not_not.1 h8 | exact g0 (by omega), fun h => by first | omega | exact Decidable.not_not.1 h8 | exact g1 (by omega), fun h => by first | omega | exact Decidable.not_not.1 h8⟩, by omega⟩
  obtain rfl : k = 3 := by omega
  refine WP.exit ?_
  refine WP.seq ?_
  refine WP.seq ?_
  refine WP.region ?_
  refine Ops.y (v := .slice _ _ _) (Y.move rfl) ?_
  refine Ops.y (v := .int .i64 _) (Y.lens Tryz.underlying45 rfl) ?_
  refine Ops.y (v := .slice _ _ _) (Y.move rfl) ?_
  refine Ops.y (v := .int .i64 _) (Y.lens Tryz.underlying45 rfl) ?_
  refine Ops.y (v := .bool (decide _)) (Y.lti rfl rfl) ?_
  refine Ops.nil ?_
  refine WP.cond_decF rfl ((by omega)) ?_
  refine WP.skip ?_
  refine WP.seq ?_
  refine WP.region ?_
  refine Ops.y (v := .int .i64 _) (Y.assign rfl) ?_
  refine Ops.nil ?_
  refine WP.ret ?_
  repeat (first | refine thenE_ret ?_ | refine blockE_ret ?_)
  refine ⟨.inl rfl, [.int .i64 0], ⟨rfl, trivial⟩, ?_, rfl⟩
  simp only [tup, cmpV]
  rw [if_neg (by simp [g0]), if_neg (by simp [g1]), g2 (by omega)]
section
variable {P : Program} {e : Env} {w : World} {t : TypeId} {pos : String} {af : Array Edge} {g : Option (Nat × Bool)} {d : Option Nat} {K : Value → World → Prop}
theorem X.box {T : TypeId} {x : Operand} {v : Value} {cs : List Value} (hx : ev e x = v) (hc : v.cells = cs.toArray) (k : K (.pointer (some ⟨w.heap.size, 0, none⟩)) (w.alloc (.cells cs.toArray T))) : Op1 P ⟨d, .box T x, t, pos, af, g⟩ e w K := by
  have : (execOp (ev e) ⟨d, .box T x, t, pos, af, g⟩).run P w = .ok (.value (.pointer (some ⟨w.heap.size, 0, none⟩))) (w.alloc (.cells cs.toArray T)) := by
    simp [execOp, Instr.box, hx, newVar, newRow, hc]
  unfold Op1
  rw [this]
  exact k
theorem Y.slicearr {T el n k b o : Nat} {x : Operand} (hT : Und P T (.array n el)) (hk : ∀ w, (sizeOf el).run P w = .ok k w) (hx : ev e x = .pointer (some ⟨b, o, none⟩)) : Y P ⟨d, .slice T x none none none, t, pos, af, g⟩ e w (.slice (some ⟨b, o, none⟩) n n) := by
  simp [Y, execOp, hx, Instr.sliceAt, Instr.sureAddr, Instr.sliceBounds, run_underlying hT, hk, addr_add]
theorem WP.regionC {N : Nat} {D : List Deferred} {Q : Exit → Env → World → Prop} {id : Nat} {ops : Array Oper} {C : World → Prop} (hm : Mixed P) (hC : C w.drew) (hB : Region.lexB .any ops = true)
    (k : OpsQ P ops C ops.toList e (fun e' => ∀ w', C w' → Q .normal e' w')) : WP P N D (.region id ops true) e w Q := by
  intro hs a h1 h2 h3
  subst h3
  refine wp_region_quiet (C := C) hm hB hC ?_
  exact OpsQ.sound _ a _ _ hs h1 h2 (fun a' g1 g2 g3 w' hw' => ⟨g1, g2, g3 w' hw'⟩) k
theorem QC.calls {C : World → Prop} {f : FuncId} {args : Array Operand} {ts : Array TypeId} {vs : List Value} {r : Value} (hf : Enters P f) (hc : Calls P f vs.toArray w (fun ed w' => ed = .returned r ∧ w' = w)) (hC : C w) (ha : args.toList.map (ev e) = vs) :
    QC P C ⟨d, .call { callee := .value (.func f), args := args, argTypes := ts }, t, pos, af, g⟩ e w r := by
  have ha' : args.map (ev e) = vs.toArray := by rw [← ha]; apply Array.ext'; simp
  have : (execOp (ev e) ⟨d, .call { callee := .value (.func f), args := args, argTypes := ts }, t, pos, af, g⟩).run P w = .ok (.enter f vs.toArray) w := by
    simp [execOp, resolve, ev, Deferred.ofValue, invoke, ha', hf]
  unfold QC
  rw [this]
  exact ⟨rfl, Calls.mono hc fun _ _ ⟨h1, h2⟩ => ⟨h1, h2 ▸ hC⟩⟩
end
theorem Steps2_x (x y : Stp) (W : World) : Calls Tryz.prog 171 [x.val, y.val].toArray W (fun ed w' => ed = .returned (.int .i64 (cmpV x.vars y.vars)) ∧ ∃ q os', w' = Sort.grow (W.drewN q) os') := by
  refine Calls.ofWP (args := [x.val, y.val]) Tryz.func171 rfl Tryz.ntmps171 (by kernel_rfl) (by simp) ?_
  intro e
  refine WP.seq ?_
  refine WP.region ?_
  refine Ops.go (X.box (v := .agg #[_, _, _, _]) rfl rfl ?_)
  refine Ops.go (X.box (v := .agg #[_, _, _, _]) rfl rfl ?_)
  refine Ops.y (v := .int .i64 _) (Y.assign rfl) ?_
  refine Ops.nil ?_
  generalize hW1 : W.alloc (.cells x.enc.toArray 82) = W1
  have hs1 : W1.heap.size = W.heap.size + 1 := by rw [← hW1, Sort.alloc_eq_grow, Sort.size_grow]; rfl
  generalize hW2 : W1.alloc (.cells y.enc.toArray 82) = W2
  have hb1 : W2.heap[W.heap.size]? = some (.cells x.enc.toArray 82 (0, 0)) := by rw [← hW2, (Grow.alloc W1 _).block _ (by omega), ← hW1]; exact heap_alloc_new W _
  have hb2 : W2.heap[W1.heap.size]? = some (.cells y.enc.toArray 82 (0, 0)) := by rw [← hW2]; exact heap_alloc_new W1 _
  have hC0 : (fun w' => ∃ q, w' = W2.drewN q) W2.drew := ⟨1, rfl⟩
  refine WP.seq ?_
  refine WP.regionC (C := fun w' => ∃ q, w' = W2.drewN q) mixed hC0 (by kernel_rfl) ?_
  refine OpsQ.y (v := .pointer (some ⟨_, _, none⟩)) (fun w I => Y.fa fa_82_1 rfl) ?_
  refine OpsQ.y (v := .slice _ _ _) (fun w I => Y.slicearr Tryz.underlying80 Tryz.sizeOf3 rfl) ?_
  refine OpsQ.y (v := .pointer (some ⟨_, _, none⟩)) (fun w I => Y.fa fa_82_1 rfl) ?_
  refine OpsQ.y (v := .slice _ _ _) (fun w I => Y.slicearr Tryz.underlying80 Tryz.sizeOf3 rfl) ?_
  refine OpsQ.c (fun w hw => QC.calls Tryz.call172 ((by obtain ⟨q, rfl⟩ := hw; exact SCompare_x x.vars y.vars W.heap.size W1.heap.size 1 1 _ (rd_box (w := W2.drewN q) hb1 1 3) (rd_box (w := W2.drewN q) hb2 1 3))) hw rfl) ?_
  refine OpsQ.y (v := .int .i64 _) (fun w I => Y.assign rfl) ?_
  refine OpsQ.nil ?_
  intro w I
  obtain ⟨q, rfl⟩ := I
  refine WP.ret ?_
  repeat (first | refine thenE_ret ?_ | refine blockE_ret ?_)
  refine ⟨.inl rfl, [.int .i64 (cmpV x.vars y.vars)], ⟨rfl, trivial⟩, rfl, q, #[.cells x.enc.toArray 82 (0, 0), .cells y.enc.toArray 82 (0, 0)], ?_⟩
  rw [← hW2, ← hW1, Sort.alloc_eq_grow, Sort.alloc_eq_grow, Sort.grow_grow]
  rfl
end Go.TF
end
section
/- slices.SortFunc and CompactFunc of steps. -/
namespace Go.TF
open Go Go.RowKit Go.Proofs
set_option maxRecDepth 20000

def stpCmp (x y : Stp) : Int := cmpV x.vars y.vars
theorem stp_swo : Sort.SWO (ltOf stpCmp) where
  irrefl x := by simp only [ltOf, stpCmp, cmpV_neg]; exact decide_eq_false (ltV_irrefl _)
  trans x y z h1 h2 := by
    simp only [ltOf, stpCmp, cmpV_neg, decide_eq_true_eq] at *
    exact ltV_trans h1 h2
  ntrans x y z h1 h2 := by
    simp only [ltOf, stpCmp, cmpV_neg, decide_eq_false_iff_not] at *
    unfold ltV at *; omega
theorem stp_len (x : Stp) : x.enc.length = 4 := rfl
theorem flatK_eq (xs : List Stp) : Sort.flatK Stp.enc 4 xs.toArray = (xs.flatMap Stp.enc).toArray := by
  have hl := flat_len stp_len xs
  refine Sort.ext_get! (by simp [hl]) fun t ht => ?_
  have ht' : t < xs.length * 4 := by simpa using ht
  rw [Sort.get_flatK _ _ _ t (by simpa using ht')]
  have hv : (xs.flatMap Stp.enc)[t]? = some ((xs.flatMap Stp.enc)[t]'(by rw [hl]; exact ht')) := List.getElem?_eq_getElem _
  obtain ⟨x, h1, h2⟩ := flat_at stp_len (by decide) xs t _ hv
  have e1 : xs.toArray[t / 4]! = x := by simp [getElem!_def, h1]
  rw [e1]
  simp [getElem!_def, h2, hv]
theorem take_put (F : Array Value) (cur : Array Value) (h : F.size ≤ cur.size) : (Sort.putCells id 0 F cur).toList.take F.size = F.toList := by
  apply List.ext_getElem?
  intro j
  rw [List.getElem?_take]
  split
  · rename_i hj
    simp only [Sort.putCells, Array.getElem?_toList, Array.getElem?_mapIdx]
    have : j < cur.size := by omega
    simp [this, hj]
  · rename_i hj
    simp; omega
/-- Sorted by their variables. -/
abbrev SrtS (xs : List Stp) : Prop := xs.Pairwise fun x y => ¬ ltV y.vars x.vars
theorem sort_ok {B : Base} {h : Heap} {M : List SA} {w : World} {a : Option Addr} {c m : Nat} {xs : List Stp} (I : Inv B h (ownSl 82 4 (.slice a m c) m (xs.flatMap Stp.enc) :: M) w) (hm : m = xs.length) (hsz : m ≤ 1000000000) :
    Calls Tryz.prog 170 [.slice a m c, .func (.func 171) #[] #[]].toArray w
      (fun ed w' => ed = .returned (.tuple #[]) ∧ ∃ ys, ys.Perm xs ∧ SrtS ys ∧ Inv B h (ownSl 82 4 (.slice a m c) m (ys.flatMap Stp.enc) :: M) w') := by
  rcases (I.at 0 rfl).2 with ⟨h0, hn⟩ | ⟨g, cap, cur, he, _, hg, hnc, hcm, hcs, ht⟩
  · injection h0 with e1 e2 e3
    subst e1; subst e2; subst e3
    have hx : xs = [] := List.eq_nil_of_length_eq_zero hm.symm
    subst hx
    refine Calls.mono (AnyF.slices_SortFunc_none Tryz.sortStp none 0 (.func (.func 171) #[] #[]) w) ?_
    rintro ed w' ⟨rfl, rfl⟩
    exact ⟨rfl, [], List.Perm.refl _, List.Pairwise.nil, I⟩
  · injection he with e1 e2 e3
    subst e1; subst e3
    have hfl := flat_len stp_len xs
    have hcell : ∀ j, j < (xs.flatMap Stp.enc).length → w.cell? ⟨g, 0 + j, none⟩ = (xs.flatMap Stp.enc)[j]? := fun j hj => by
      have hc : w.cell? ⟨g, 0 + j, none⟩ = cur[j]? := by simp [World.cell?, hg]
      have h2 : (cur.toList.take (m * 4))[j]? = cur[j]? := by
        rw [List.getElem?_take, if_pos (by rw [hfl] at hj; rw [hm]; exact hj)]; simp
      rw [hc, ← h2, ht]
    have hH : Sort.HoldsK Stp.enc 4 w g 0 xs.toArray := by
      unfold Sort.HoldsK
      rw [flatK_eq]
      intro j hj
      have hj' : j < (xs.flatMap Stp.enc).length := by simpa using hj
      refine ⟨?_, by simp [World.frozen?, hg]⟩
      rw [hcell j hj']
      simp [getElem!_def, List.getElem?_eq_getElem hj']
    have hcon := AnyQ.slices_SortFunc Tryz.sortStp 4 (ty_82).agg Tryz.sizeOf82 Stp.enc stp_len (fun x v hv => by simp only [Stp.enc, List.mem_cons, List.not_mem_nil, or_false] at hv; rcases hv with rfl | rfl | rfl | rfl <;> rfl) stpCmp stp_swo 171 #[] g 0 c xs.toArray w Tryz.call171 (fun mm os dk _ x y => Steps2_x x y _) hH (by have := (Array.getElem?_eq_some_iff.1 hg).1; exact this) (by simp only [List.size_toArray]; omega)
    rw [show xs.toArray.size = m from by simp [hm]] at hcon
    refine Calls.mono hcon ?_
    rintro ed w' ⟨rfl, d', n, os, hp, hs, rfl⟩
    have hpl : d'.size = m := by have := hp.1; simpa [hm] using this
    have hperm : d'.toList.Perm xs := by
      have := hp.2.2
      have e1 : d'.extract 0 m = d' := by rw [← hpl]; simp
      have e2 : xs.toArray.extract 0 m = xs.toArray := by rw [hm]; simp
      rw [e1, e2] at this
      simpa using this
    refine ⟨rfl, d'.toList, hperm, ?_, ?_⟩
    · show List.Pairwise _ _
      rw [List.pairwise_iff_getElem]
      intro i j hi hj hij
      have hi' : i < d'.size := by simpa using hi
      have hj' : j < d'.size := by simpa using hj
      have := hs i j (Nat.zero_le _) hij (by rw [← hpl]; exact hj')
      simp only [ltOf, stpCmp, cmpV_neg, decide_eq_false_iff_not] at this
      rw [getElem!_pos d' i hi', getElem!_pos d' j hj'] at this
      simpa using this
    · have hF : Sort.flatK Stp.enc 4 d' = (d'.toList.flatMap Stp.enc).toArray := by have := flatK_eq d'.toList; simpa using this
      have hFs : (Sort.flatK Stp.enc 4 d').size = m * 4 := by rw [Sort.size_flatK, hpl]
      have hmk : m * 4 ≤ cur.size := by rw [hcs]; exact Nat.mul_le_mul_right _ hnc
      refine I.stepAt 0 rfl rfl rfl rfl ?_ (fun b hb hnb => ?_) ?_ (fun b hb => ?_)
      · simp [sortWorldK, Sort.putRowK, Sort.putRow, Sort.mapBlock, Sort.grow, Sort.ahead]
      · have hne : b ≠ g := fun e => hnb (by simp [ownSl, Value.ownBlock, e])
        simp only [sortWorldK, Sort.putRowK, Sort.putRow, Sort.mapBlock, Sort.grow, Sort.ahead]
        rw [Array.getElem?_append_left (by simpa using hb), Array.getElem?_modify, if_neg (Ne.symm hne)]
      · refine ⟨by rw [flat_len stp_len]; simp [hpl], .inr ⟨g, c, Sort.putCells id 0 (Sort.flatK Stp.enc 4 d') cur, rfl, Nat.zero_le _, ?_, hnc, hcm, ?_, ?_⟩⟩
        · simp only [sortWorldK, Sort.putRowK, Sort.putRow, Sort.mapBlock, Sort.grow, Sort.ahead]
          have hlt := (Array.getElem?_eq_some_iff.1 hg).1
          rw [Array.getElem?_append_left (by simpa using hlt), Array.getElem?_modify, if_pos rfl, hg]
          rfl
        · simp [Sort.putCells, hcs]
        · have := take_put (Sort.flatK Stp.enc 4 d') cur (by rw [hFs]; exact hmk)
          rw [hFs, hF] at this
          rw [hF]; simpa using this
      · have : b = g := by simpa [ownSl, Value.ownBlock] using hb
        subst this
        refine ⟨.inl (by simp [ownSl, Value.ownBlock]), ?_⟩
        have hlt := (Array.getElem?_eq_some_iff.1 hg).1
        simp only [sortWorldK, Sort.putRowK, Sort.putRow, Sort.mapBlock, Sort.grow, Sort.ahead, Array.size_append, Array.size_modify]
        omega
end Go.TF
end
section
/- slices.CompactFunc of steps. -/
namespace Go.TF
open Go Go.RowKit Go.Proofs
set_option maxRecDepth 20000

section
variable {P : Program} {e : Env} {w : World} {B : Base} {h : Heap} {M : List SA} {t : TypeId} {pos : String} {af : Array Edge} {g : Option (Nat × Bool)} {d : Option Nat} {K : Value → World → Prop}
/-- Cells of what is owned are stored. -/
theorem O.storeE {T el k bytes gg n cap o m : Nat} {ag : Bool} {z v : Value} {a x : Operand} {xs vs : List Value} (I : Inv B h M w) (hT : Ty P T m ag) (he : ElT P el k bytes z) (n0 : Nat) (hn : M[n0]? = some (ownSl el k (.slice (some ⟨gg, 0, none⟩) n cap) n xs))
    (ha : ev e a = .pointer (some ⟨gg, o, none⟩)) (hx : ev e x = v) (hv : v.cells = vs.toArray) (hl : vs.length = m) (h1 : oneCells vs = true) (ho : o + vs.length ≤ xs.length) (kk : ∀ w', Inv B h (M.set n0 (ownSl el k (.slice (some ⟨gg, 0, none⟩) n cap) n (over xs o vs))) w' → K undef w') :
    Op1 P ⟨d, .store T a x, t, pos, af, g⟩ e w K := by
  obtain ⟨ii, hi, hz, hsz, hby⟩ := he.info'
  subst hsz
  have hp : w.ownsRow 0 el ii.size (.slice (some ⟨gg, 0, none⟩) n cap) n xs := I.at n0 hn
  have hfp := (I.own _ (List.mem_of_getElem? hn)).2 gg (by simp [ownSl, Value.ownBlock])
  rcases hp.2 with ⟨h0, _⟩ | ⟨g', cap', cur, he', hb, hg, hnc, hcm, hcs, ht⟩
  · cases h0
  injection he' with e1 e2 e3; injection e1 with e1; injection e1 with e1; subst e1; subst e3
  have hnk : n * ii.size ≤ cap * ii.size := Nat.mul_le_mul_right _ hnc
  have hxl := hp.1
  have hone : ∀ u ∈ vs, u.oneCell' = true := fun u hu => by
    simp only [oneCells, List.all_eq_true] at h1
    exact h1 u hu
  have hst := run_storeCells_at P gg o el vs 0 cur w hg (by rw [hcs]; omega) hone
  simp only [Nat.add_zero] at hst
  have hA : (execOp (ev e) ⟨d, .store T a x, t, pos, af, g⟩).run P w = .ok .skip (w.setRow gg (cur.toList.take o ++ vs ++ cur.toList.drop (o + vs.length)).toArray) := by
    simp [execOp, Instr.storeAt, Instr.sureAddr, ha, hx, storeVar, hv, hT.size, hl, hst]
  unfold Op1
  rw [hA]
  have hcl : cur.toList.length = cap * ii.size := by rw [Array.length_toList, hcs]
  refine kk _ (I.stepAt n0 hn rfl rfl rfl (by simp) (fun b hb hnb => setRow_other w gg b _ (fun e => hnb (by simp [ownSl, Value.ownBlock, e]))) ?_ (fun b hb => ?_))
  · refine ⟨?_, .inr ⟨gg, cap, _, rfl, hb, setRow_heap w gg cur _ el _ hg, hnc, hcm, ?_, ?_⟩⟩
    · rw [over_len ho, hp.1]
    · simp only [List.size_toArray, List.length_append, List.length_take, List.length_drop, hcl]
      omega
    · rw [over_take _ _ _ _ (by omega) (by rw [hcl]; exact hnk), ht]
  · have : b = gg := by simpa [ownSl, Value.ownBlock] using hb
    subst this
    exact ⟨.inl (by simp [ownSl, Value.ownBlock]), by simpa using hfp.2.1⟩
end
theorem Inv.rdE {B : Base} {h : Heap} {M : List SA} {w : World} {T gg n cap : Nat} {zs : List Stp} (I : Inv B h M w) (n0 : Nat) (hn : M[n0]? = some (ownSl T 4 (.slice (some ⟨gg, 0, none⟩) n cap) n (zs.flatMap Stp.enc))) {i o : Nat} {y : Stp} (hy : zs[i]? = some y) (ho : o = i * 4) : Rd w gg o y.enc := by
  subst ho
  intro j v hj
  have hp : w.ownsRow 0 T 4 (.slice (some ⟨gg, 0, none⟩) n cap) n (zs.flatMap Stp.enc) := I.at n0 hn
  have := hp.cells (g := gg) rfl (i * 4 + j) v (flat_get stp_len zs i j y v hy hj)
  rwa [addr_add, Nat.zero_add] at this
theorem flat_over (zs : List Stp) (k : Nat) (y : Stp) (hk : k < zs.length) : over (zs.flatMap Stp.enc) (k * 4) y.enc = (zs.set k y).flatMap Stp.enc := by
  unfold over
  rw [flat_take stp_len, stp_len, show k * 4 + 4 = (k + 1) * 4 by omega, flat_drop stp_len, List.set_eq_take_append_cons_drop, if_pos hk, List.flatMap_append, List.flatMap_cons, List.append_assoc]
theorem eqarr (a b : Vrs) (w : World) : (Op.equalIn 10000 80 (.agg #[.int .i64 a.x0, .int .i64 a.x1, .int .i64 a.x2]) (.agg #[.int .i64 b.x0, .int .i64 b.x1, .int .i64 b.x2])).run Tryz.prog w = .ok (decide (a = b)) w := by
  obtain ⟨i, hi⟩ : ∃ i, Tryz.prog.info? 3 = some i := by
    have := (ty_3).size 
    cases hh : Tryz.prog.info? 3 with
    | some i => exact ⟨i, rfl⟩
    | none => have := this w; simp [sizeOf, typeInfo, hh] at this
  have hc : Tryz.prog.cellsOf 3 = 1 := by kernel_rfl
  have p : ∀ (cs : Array Value) (o : Nat) v, cs[o]? = some v → (Go.part 3 cs o).run Tryz.prog w = .ok v w := fun cs o v hv => part_leaf (ty_3).agg hv w
  rw [show 10000 = 9998 + 1 + 1 from rfl, run_equalIn_array w (9998 + 1) _ _ Tryz.underlying80 hi, hc]
  have r3 : List.range 3 = [0, 1, 2] := rfl
  simp only [r3, Op.eqItems]
  obtain ⟨a0, a1, a2⟩ := a; obtain ⟨b0, b1, b2⟩ := b
  have hd : decide ((⟨a0, a1, a2⟩ : Vrs) = ⟨b0, b1, b2⟩) = ((a0 == b0) && ((a1 == b1) && (a2 == b2))) := by
    rw [Bool.eq_iff_iff]; simp
  rw [hd]
  cases h0 : (a0 == b0) <;> cases h1 : (a1 == b1) <;> cases h2 : (a2 == b2) <;> simp [p, run_equalIn_int w _ 3 .i64 .i64 _ _ Tryz.underlying3, h0, h1, h2]
theorem Steps3_ok (B : Base) (hB : B.ok) (x y : Stp) : Fn Tryz.prog 174 [x.val, y.val] B (fun v _ => v = .bool (decide (x = y))) := by
  by_cases hr : cmpI x.rule y.rule = 0
  · refine Fn.of Tryz.func174 rfl Tryz.ntmps174 (by kernel_rfl) (by simp) ?_
    intro e
    have I := Inv.start hB
    refine WP.seq ?_
    refine WP.region ?_
    refine Ops.go (O.box (v := .agg #[_, _, _, _]) I rfl rfl ?_)
    intro b2 w I
    refine Ops.go (O.box (v := .agg #[_, _, _, _]) I rfl rfl ?_)
    intro b3 w I
    refine Ops.y (v := .bool _) (Y.assign rfl) ?_
    refine Ops.nil ?_
    refine WP.seq ?_
    refine WP.region ?_
    refine Ops.y (v := .pointer (some ⟨_, _, none⟩)) (Y.fa0 fa_82_0 rfl) ?_
    refine Ops.y (v := .int .i64 _) (Y.loadv ty_3 rfl (I.rdbox 1 rfl 0 1) rfl rfl) ?_
    refine Ops.y (v := .pointer (some ⟨_, _, none⟩)) (Y.fa0 fa_82_0 rfl) ?_
    refine Ops.y (v := .int .i64 _) (Y.loadv ty_3 rfl (I.rdbox 0 rfl 0 1) rfl rfl) ?_
    refine Ops.go (O.callv I Tryz.call159 (Compare_ok _ I.base_ok _ _) rfl ?_)
    intro w I
    refine Ops.y (v := .bool true) (Y.dec_t (Y.eqi rfl rfl) (hr)) ?_
    refine Ops.y (v := .bool _) (Y.move rfl) ?_
    refine Ops.ygt rfl (v := .pointer (some ⟨_, _, none⟩)) (Y.fa fa_82_1 rfl) ?_
    refine Ops.ygt rfl (v := .agg #[_, _, _]) (Y.loadv ty_80 rfl (I.rdbox 1 rfl 1 3) rfl rfl) ?_
    refine Ops.ygt rfl (v := .pointer (some ⟨_, _, none⟩)) (Y.fa fa_82_1 rfl) ?_
    refine Ops.ygt rfl (v := .agg #[_, _, _]) (Y.loadv ty_80 rfl (I.rdbox 0 rfl 1 3) rfl rfl) ?_
    refine Ops.ygt rfl (v := .bool _) (Y.eqst (by kernel_rfl) (eqarr x.vars y.vars) rfl rfl) ?_
    refine Ops.y (v := .bool _) (Y.pick_t rfl rfl) ?_
    refine Ops.y (v := .bool _) (Y.assign rfl) ?_
    refine Ops.nil ?_
    refine WP.ret ?_
    repeat (first | refine thenE_ret ?_ | refine blockE_ret ?_)
    exact retQ.mk (vs := [.bool _]) rfl ⟨rfl, trivial⟩ I.ext_of (by simp only [tup]; congr 1; rw [decide_eq_decide]; have := cmpI_zero.1 hr; cases x; cases y; simp_all)
  · refine Fn.of Tryz.func174 rfl Tryz.ntmps174 (by kernel_rfl) (by simp) ?_
    intro e
    have I := Inv.start hB
    refine WP.seq ?_
    refine WP.region ?_
    refine Ops.go (O.box (v := .agg #[_, _, _, _]) I rfl rfl ?_)
    intro b2 w I
    refine Ops.go (O.box (v := .agg #[_, _, _, _]) I rfl rfl ?_)
    intro b3 w I
    refine Ops.y (v := .bool _) (Y.assign rfl) ?_
    refine Ops.nil ?_
    refine WP.seq ?_
    refine WP.region ?_
    refine Ops.y (v := .pointer (some ⟨_, _, none⟩)) (Y.fa0 fa_82_0 rfl) ?_
    refine Ops.y (v := .int .i64 _) (Y.loadv ty_3 rfl (I.rdbox 1 rfl 0 1) rfl rfl) ?_
    refine Ops.y (v := .pointer (some ⟨_, _, none⟩)) (Y.fa0 fa_82_0 rfl) ?_
    refine Ops.y (v := .int .i64 _) (Y.loadv ty_3 rfl (I.rdbox 0 rfl 0 1) rfl rfl) ?_
    refine Ops.go (O.callv I Tryz.call159 (Compare_ok _ I.base_ok _ _) rfl ?_)
    intro w I
    refine Ops.y (v := .bool false) (Y.dec_f (Y.eqi rfl rfl) (hr)) ?_
    refine Ops.y (v := .bool _) (Y.move rfl) ?_
    refine Ops.gf rfl ?_
    refine Ops.gf rfl ?_
    refine Ops.gf rfl ?_
    refine Ops.gf rfl ?_
    refine Ops.gf rfl ?_
    refine Ops.y (v := .bool _) (Y.pick_f rfl rfl) ?_
    refine Ops.y (v := .bool _) (Y.assign rfl) ?_
    refine Ops.nil ?_
    refine WP.ret ?_
    repeat (first | refine thenE_ret ?_ | refine blockE_ret ?_)
    exact retQ.mk (vs := [.bool _]) rfl ⟨rfl, trivial⟩ I.ext_of (by simp only [tup]; rw [decide_eq_false]; intro e; exact hr (cmpI_zero.2 (by rw [e])))
/-! ### Each once -/
def cpt : Stp → List Stp → List Stp
  | _, [] => []
  | p, y :: r => if y = p then cpt y r else y :: cpt y r
def compactS : List Stp → List Stp
  | [] => []
  | x :: r => x :: cpt x r
theorem cpt_snoc : ∀ (r : List Stp) (p y : Stp), cpt p (r ++ [y]) = cpt p r ++ if y = (p :: r).getLast (by simp) then [] else [y]
  | [], p, y => by by_cases h : y = p <;> simp [cpt, h]
  | z :: r, p, y => by
    rw [List.cons_append, cpt, cpt, cpt_snoc r z y]
    have : (p :: z :: r).getLast (by simp) = (z :: r).getLast (by simp) := by simp
    rw [this]
    split <;> simp
theorem compact_snoc {xs : List Stp} (y : Stp) (h : xs ≠ []) : compactS (xs ++ [y]) = compactS xs ++ if y = xs.getLast h then [] else [y] := by
  cases xs with
  | nil => exact absurd rfl h
  | cons x r => rw [List.cons_append, compactS, compactS, cpt_snoc]; rfl
theorem compact_take {xs : List Stp} {k : Nat} (h0 : 0 < k) (hk : k < xs.length) : compactS (xs.take (k + 1)) = compactS (xs.take k) ++ if xs[k] = xs[k - 1] then [] else [xs[k]] := by
  have hne : xs.take k ≠ [] := by intro e; have := congrArg List.length e; rw [List.length_take, List.length_nil] at this; omega
  have hl : (xs.take k).getLast hne = xs[k - 1] := by
    rw [List.getLast_eq_getElem]
    simp only [List.length_take, List.getElem_take]
    congr 1; omega
  rw [List.take_succ_eq_append_getElem hk, compact_snoc _ hne, hl]
theorem compact_same {xs : List Stp} (k : Nat) (hk : k ≤ xs.length) (h : ∀ j, 0 < j → j < k → ∀ hj : j < xs.length, xs[j] ≠ xs[j - 1]) : compactS (xs.take k) = xs.take k := by
  induction k with
  | zero => simp [compactS]
  | succ k ih =>
    by_cases h0 : k = 0
    · subst h0
      cases xs with
      | nil => simp at hk
      | cons x r => simp [compactS, cpt]
    · rw [compact_take (k := k) (by omega) (by omega), ih (by omega) (fun j a b c => h j a (by omega) c), if_neg (h k (by omega) (by omega) (by omega))]
      exact (List.take_succ_eq_append_getElem _).symm
theorem take_set_self (zs : List Stp) (q : Nat) (y : Stp) : (zs.set q y).take q = zs.take q := by
  apply List.ext_getElem?
  intro j
  rw [List.getElem?_take, List.getElem?_take]
  split
  · rw [List.getElem?_set_ne (by omega)]
  · rfl
theorem cpt_len : ∀ (r : List Stp) (p : Stp), (cpt p r).length ≤ r.length
  | [], p => by simp [cpt]
  | y :: r, p => by rw [cpt]; split <;> simp only [List.length_cons] <;> have := cpt_len r y <;> omega
theorem compact_len (xs : List Stp) : (compactS xs).length ≤ xs.length := by
  cases xs with
  | nil => simp [compactS]
  | cons x r => simp only [compactS, List.length_cons]; have := cpt_len r x; omega
set_option maxHeartbeats 8000000 in
theorem Compact_ok {B : Base} {h : Heap} {M : List SA} {w : World} {a : Option Addr} {c m : Nat} {xs : List Stp} (I : Inv B h (ownSl 82 4 (.slice a m c) m (xs.flatMap Stp.enc) :: M) w) (hm : m = xs.length) (hsz : m ≤ 1000000000) :
    Calls Tryz.prog 173 [.slice a m c, .func (.func 174) #[] #[]].toArray w
      (fun ed w' => ∃ a' c' m', ed = .returned (.slice a' m' c') ∧ m' = (compactS xs).length ∧ Inv B h (ownSl 82 4 (.slice a' m' c') m' ((compactS xs).flatMap Stp.enc) :: M) w') := by
  by_cases hlt : m < 2
  · have hcx : compactS xs = xs := by
      have := compact_same (xs := xs) xs.length (Nat.le_refl _) (fun j h0 hj hj' => by omega)
      rwa [List.take_length] at this
    refine Calls.ofWP (args := [.slice a m c, .func (.func 174) #[] #[]]) Tryz.func173 rfl Tryz.ntmps173 (by kernel_rfl) (by simp) ?_
    intro e
    refine WP.seq ?_
    refine WP.region ?_
    refine Ops.y (v := .slice _ _ _) (Y.assign rfl) ?_
    refine Ops.nil ?_
    refine WP.seq ?_
    refine WP.seq ?_
    refine WP.region ?_
    refine Ops.y (v := .slice _ _ _) (Y.move rfl) ?_
    refine Ops.y (v := .int .i64 _) (Y.lens Tryz.underlying36 rfl) ?_
    refine Ops.y (v := .bool (decide _)) (Y.lti rfl rfl) ?_
    refine Ops.nil ?_
    refine WP.cond_decT rfl ((by omega)) ?_
    refine WP.seq ?_
    refine WP.region ?_
    refine Ops.y (v := .slice _ _ _) (Y.move rfl) ?_
    refine Ops.y (v := .slice _ _ _) (Y.assign rfl) ?_
    refine Ops.nil ?_
    refine WP.ret ?_
    repeat (first | refine thenE_ret ?_ | refine blockE_ret ?_)
    exact ⟨.inl rfl, [.slice a m c], ⟨rfl, trivial⟩, a, c, m, rfl, by rw [hcx]; exact hm, by rw [hcx]; exact I⟩
  rcases (I.at 0 rfl).2 with ⟨h0, hn⟩ | ⟨gg, cap, cur, he, _, hg, hnc, hcm, _⟩
  · injection h0 with e1 e2 e3; omega
  injection he with e1 e2 e3
  subst e1; subst e3
  simp only [maxLen] at hcm
  refine Calls.ofWP (args := [.slice (some ⟨gg, 0, none⟩) m c, .func (.func 174) #[] #[]]) Tryz.func173 rfl Tryz.ntmps173 (by kernel_rfl) (by simp) ?_
  intro e
  refine WP.seq ?_
  refine WP.region ?_
  refine Ops.y (v := .slice _ _ _) (Y.assign rfl) ?_
  refine Ops.nil ?_
  refine WP.seq ?_
  refine WP.seq ?_
  refine WP.region ?_
  refine Ops.y (v := .slice _ _ _) (Y.move rfl) ?_
  refine Ops.y (v := .int .i64 _) (Y.lens Tryz.underlying36 rfl) ?_
  refine Ops.y (v := .bool (decide _)) (Y.lti rfl rfl) ?_
  refine Ops.nil ?_
  refine WP.cond_decF rfl ((by omega)) ?_
  refine WP.skip ?_
  refine WP.seq ?_
  refine WP.seq ?_
  refine WP.region ?_
  refine Ops.y (v := .int .i64 _) (Y.assign rfl) ?_
  refine Ops.nil ?_
  refine WP.block ?_
  refine WP.loopE (σ := Nat) (fun k => [(0, .slice (some ⟨gg, 0, none⟩) m c), (1, .func (.func 174) #[] #[]), (5, .int .i64 k)]) (fun k w => Inv B h (ownSl 82 4 (.slice (some ⟨gg, 0, none⟩) m c) m (xs.flatMap Stp.enc) :: M) w ∧ 1 ≤ k ∧ k ≤ m ∧ ∀ j, 0 < j → j < k → ∀ hj : j < xs.length, xs[j] ≠ xs[j - 1]) (fun k => m - k)
    ⟨1, ⟨rfl, rfl, rfl, trivial⟩, I, Nat.le_refl _, by omega, fun j h0 hj => by omega⟩ ?_
  rintro k e w ⟨I, hk1, hk, hn⟩
  refine WP.seq ?_
  refine WP.seq ?_
  refine WP.region ?_
  refine Ops.y (v := .int .i64 _) (Y.move rfl) ?_
  refine Ops.y (v := .slice _ _ _) (Y.move rfl) ?_
  refine Ops.y (v := .int .i64 _) (Y.lens Tryz.underlying36 rfl) ?_
  refine Ops.y (v := .bool (decide _)) (Y.lti rfl rfl) ?_
  refine Ops.nil ?_
  refine WP.cond_dec rfl (fun h4 => ?_) (fun h4 => ?_)
  · have hk' : k < xs.length := by omega
    have g1 : xs[k]? = some xs[k] := List.getElem?_eq_getElem hk'
    have g0 : xs[k - 1]? = some xs[k - 1] := List.getElem?_eq_getElem (by omega)
    refine WP.skip ?_
    refine WP.seq ?_
    refine WP.block ?_
    refine WP.seq ?_
    refine WP.regionQ mixed I (by kernel_rfl) ?_
    refine OpsQ.y (v := .func _ _ _) (fun w I => Y.move rfl) ?_
    refine OpsQ.y (v := .slice _ _ _) (fun w I => Y.move rfl) ?_
    refine OpsQ.y (v := .int .i64 _) (fun w I => Y.move rfl) ?_
    refine OpsQ.y (v := .pointer (some ⟨_, _, none⟩)) (fun w I => Y.idx Tryz.underlying36 Tryz.sizeOf82 rfl rfl (by omega) (by omega)) ?_
    refine OpsQ.y (v := .agg #[_, _, _, _]) (fun w I => Y.loadv ty_82 rfl (I.rdE 0 rfl g1 (by omega)) rfl rfl) ?_
    refine OpsQ.y (v := .slice _ _ _) (fun w I => Y.move rfl) ?_
    refine OpsQ.y (v := .int .i64 _) (fun w I => Y.move rfl) ?_
    refine OpsQ.y (v := .int .i64 _) (fun w I => Y.subi rfl rfl ⟨by omega, by omega⟩) ?_
    refine OpsQ.y (v := .pointer (some ⟨_, _, none⟩)) (fun w I => Y.idx Tryz.underlying36 Tryz.sizeOf82 rfl rfl (by omega) (by omega)) ?_
    refine OpsQ.y (v := .agg #[_, _, _, _]) (fun w I => Y.loadv ty_82 rfl (I.rdE 0 rfl g0 (by omega)) rfl rfl) ?_
    refine OpsQ.c (fun w I => QC.callcv I Tryz.call174 (fs := []) (cs := []) rfl (Steps3_ok _ I.base_ok xs[k] xs[k - 1]) rfl) ?_
    refine OpsQ.nil ?_
    intro w I
    refine WP.cond_dec rfl (fun h6 => ?_) (fun h6 => ?_)
    · have hc1 : compactS (xs.take (k + 1)) = xs.take k := by
        rw [compact_take (by omega) hk', if_pos h6, compact_same k (by omega) hn, List.append_nil]
      refine WP.seq ?_
      refine WP.region ?_
      refine Ops.y (v := .slice _ _ _) (Y.move rfl) ?_
      refine Ops.y (v := .int .i64 _) (Y.move rfl) ?_
      refine Ops.y (v := .slice _ _ _) (Y.cutO (l := k) (h' := m) Tryz.underlying36 Tryz.sizeOf82 rfl (.inr ⟨_, _, rfl, rfl⟩) (.inl ⟨rfl, rfl⟩) (by omega) (by omega) (by omega)) ?_
      refine Ops.y (v := .slice _ _ _) (Y.assign rfl) ?_
      refine Ops.nil ?_
      refine WP.seq ?_
      refine WP.seq ?_
      refine WP.region ?_
      refine Ops.y (v := .int .i64 _) (Y.assign rfl) ?_
      refine Ops.nil ?_
      refine WP.cutK (σ := Nat) (fun q => [(0, .slice (some ⟨gg, 0, none⟩) m c), (5, .int .i64 q)]) (fun q w => ∃ zs : List Stp, Inv B h (ownSl 82 4 (.slice (some ⟨gg, 0, none⟩) m c) m (zs.flatMap Stp.enc) :: M) w ∧ zs.take q = compactS xs ∧ q = (compactS xs).length ∧ q < m) ?_ ?_
      · refine WP.block ?_
        refine WP.loopE (σ := Nat × Nat × List Stp) (fun s => [(0, .slice (some ⟨gg, 0, none⟩) m c), (1, .func (.func 174) #[] #[]), (5, .int .i64 s.2.1), (6, .slice (some ⟨gg, k * 4, none⟩) (m - k) (c - k)), (7, .int .i64 s.1)])
          (fun s w => Inv B h (ownSl 82 4 (.slice (some ⟨gg, 0, none⟩) m c) m (s.2.2.flatMap Stp.enc) :: M) w ∧ 1 ≤ s.1 ∧ k + s.1 ≤ m ∧ s.2.2.length = m ∧ s.2.1 + 1 ≤ k + s.1 ∧ s.2.2.take s.2.1 = compactS (xs.take (k + s.1)) ∧ s.2.1 = (compactS (xs.take (k + s.1))).length ∧ (∀ j, k + s.1 ≤ j + 1 → s.2.2[j]? = xs[j]?)) (fun s => m - s.1)
          ⟨(1, k, xs), ⟨rfl, rfl, rfl, rfl, rfl, trivial⟩, I, Nat.le_refl _, by dsimp only; omega, hm.symm, by dsimp only; omega, hc1.symm, by dsimp only; rw [hc1, List.length_take]; omega, fun _ _ => rfl⟩ ?_
        rintro ⟨k2, q, zs⟩ e w ⟨I, h1, h2, hzl, hq1, hq2, hq3, hz⟩
        dsimp only at I h1 h2 hzl hq1 hq2 hq3 hz ⊢
        refine WP.seq ?_
        refine WP.seq ?_
        refine WP.region ?_
        refine Ops.y (v := .int .i64 _) (Y.move rfl) ?_
        refine Ops.y (v := .slice _ _ _) (Y.move rfl) ?_
        refine Ops.y (v := .int .i64 _) (Y.lens Tryz.underlying36 rfl) ?_
        refine Ops.y (v := .bool (decide _)) (Y.lti rfl rfl) ?_
        refine Ops.nil ?_
        refine WP.cond_dec rfl (fun h9 => ?_) (fun h9 => ?_)
        · have hkk : k + k2 < xs.length := by omega
          have f1 : zs[k + k2]? = some xs[k + k2] := by rw [hz _ (by omega)]; exact List.getElem?_eq_getElem hkk
          have f0 : zs[k + k2 - 1]? = some xs[k + k2 - 1] := by rw [hz _ (by omega)]; exact List.getElem?_eq_getElem (by omega)
          have hct := compact_take (xs := xs) (k := k + k2) (by omega) hkk
          refine WP.skip ?_
          refine WP.seq ?_
          refine WP.block ?_
          refine WP.seq ?_
          refine WP.regionQ mixed I (by kernel_rfl) ?_
          refine OpsQ.y (v := .func _ _ _) (fun w I => Y.move rfl) ?_
          refine OpsQ.y (v := .slice _ _ _) (fun w I => Y.move rfl) ?_
          refine OpsQ.y (v := .int .i64 _) (fun w I => Y.move rfl) ?_
          refine OpsQ.y (v := .pointer (some ⟨_, _, none⟩)) (fun w I => Y.idx Tryz.underlying36 Tryz.sizeOf82 rfl rfl (by omega) (by omega)) ?_
          refine OpsQ.y (v := .agg #[_, _, _, _]) (fun w I => Y.loadv ty_82 rfl (I.rdE 0 rfl f1 (by omega)) rfl rfl) ?_
          refine OpsQ.y (v := .slice _ _ _) (fun w I => Y.move rfl) ?_
          refine OpsQ.y (v := .int .i64 _) (fun w I => Y.move rfl) ?_
          refine OpsQ.y (v := .int .i64 _) (fun w I => Y.subi rfl rfl ⟨by omega, by omega⟩) ?_
          refine OpsQ.y (v := .pointer (some ⟨_, _, none⟩)) (fun w I => Y.idx Tryz.underlying36 Tryz.sizeOf82 rfl rfl (by omega) (by omega)) ?_
          refine OpsQ.y (v := .agg #[_, _, _, _]) (fun w I => Y.loadv ty_82 rfl (I.rdE 0 rfl f0 (by omega)) rfl rfl) ?_
          refine OpsQ.c (fun w I => QC.callcv I Tryz.call174 (fs := []) (cs := []) rfl (Steps3_ok _ I.base_ok xs[k + k2] xs[k + k2 - 1]) rfl) ?_
          refine OpsQ.y (v := .bool (decide _)) (fun w I => Y.notd rfl) ?_
          refine OpsQ.nil ?_
          intro w I
          refine WP.cond_dec rfl (fun h11 => ?_) (fun h11 => ?_)
          · have hne : xs[k + k2] ≠ xs[k + k2 - 1] := h11
            rw [if_neg hne] at hct
            refine WP.seq ?_
            refine WP.region ?_
            refine Ops.y (v := .slice _ _ _) (Y.move rfl) ?_
            refine Ops.y (v := .int .i64 _) (Y.move rfl) ?_
            refine Ops.y (v := .slice _ _ _) (Y.move rfl) ?_
            refine Ops.y (v := .int .i64 _) (Y.move rfl) ?_
            refine Ops.y (v := .pointer (some ⟨_, _, none⟩)) (Y.idx Tryz.underlying36 Tryz.sizeOf82 rfl rfl (by omega) (by omega)) ?_
            refine Ops.y (v := .agg #[_, _, _, _]) (Y.loadv ty_82 rfl (I.rdE 0 rfl f1 (by omega)) rfl rfl) ?_
            refine Ops.y (v := .pointer (some ⟨_, _, none⟩)) (Y.idx Tryz.underlying36 Tryz.sizeOf82 rfl rfl (by omega) (by omega)) ?_
            refine Ops.go (O.storeE (vs := xs[k+k2].enc) I ty_82 et_82 0 rfl rfl rfl rfl rfl rfl (by rw [flat_len stp_len, stp_len]; omega) ?_)
            intro w I
            refine Ops.nil ?_
            refine WP.region ?_
            refine Ops.y (v := .int .i64 _) (Y.move rfl) ?_
            refine Ops.y (v := .int .i64 _) (Y.addi rfl rfl ⟨by omega, by omega⟩) ?_
            refine Ops.y (v := .int .i64 _) (Y.assign rfl) ?_
            refine Ops.nil ?_
            refine WP.region ?_
            refine Ops.y (v := .int .i64 _) (Y.move rfl) ?_
            refine Ops.y (v := .int .i64 _) (Y.addi rfl rfl ⟨by omega, by omega⟩) ?_
            refine Ops.y (v := .int .i64 _) (Y.assign rfl) ?_
            refine Ops.nil ?_
            have I : Inv B h (ownSl 82 4 (.slice (some ⟨gg, 0, none⟩) m c) m ((zs.set q xs[k + k2]).flatMap Stp.enc) :: M) w := by
              rw [← flat_over _ _ _ (by omega)]
              have J := I
              simp only [Int.toNat_natCast, Nat.zero_add] at J
              exact J
            refine ⟨(k2 + 1, q + 1, zs.set q xs[k + k2]), ⟨⟨rfl, rfl, rfl, rfl, rfl, trivial⟩, I, by dsimp only; omega, by dsimp only; omega, by simpa using hzl, by dsimp only; omega, ?_, ?_, fun j hj => ?_⟩, by dsimp only; omega⟩
            · dsimp only
              rw [show k + (k2 + 1) = k + k2 + 1 by omega, hct, ← hq2, List.take_succ_eq_append_getElem (by simp; omega), take_set_self]
              simp
            · dsimp only
              rw [show k + (k2 + 1) = k + k2 + 1 by omega, hct, List.length_append, ← hq3]; rfl
            · dsimp only at hj ⊢
              rw [List.getElem?_set_ne (by omega)]
              exact hz j (by omega)
          · have heq : xs[k + k2] = xs[k + k2 - 1] := Decidable.not_not.1 h11
            rw [if_pos heq, List.append_nil] at hct
            refine WP.skip ?_
            refine WP.region ?_
            refine Ops.y (v := .int .i64 _) (Y.move rfl) ?_
            refine Ops.y (v := .int .i64 _) (Y.addi rfl rfl ⟨by omega, by omega⟩) ?_
            refine Ops.y (v := .int .i64 _) (Y.assign rfl) ?_
            refine Ops.nil ?_
            exact ⟨(k2 + 1, q, zs), ⟨⟨rfl, rfl, rfl, rfl, rfl, trivial⟩, I, by dsimp only; omega, by dsimp only; omega, hzl, by dsimp only; omega, by dsimp only; rw [show k + (k2 + 1) = k + k2 + 1 by omega, hct]; exact hq2, by dsimp only; rw [show k + (k2 + 1) = k + k2 + 1 by omega, hct]; exact hq3, fun j hj => hz j (by dsimp only at hj; omega)⟩, by dsimp only; omega⟩
        · have hkm : k + k2 = xs.length := by omega
          rw [hkm, List.take_length] at hq2 hq3
          refine WP.exit ?_
          exact ⟨q, ⟨rfl, rfl, trivial⟩, zs, I, hq2, hq3, by omega⟩
      rintro q e w ⟨zs, I, hq2, hq3, hq4⟩
      have I := I.cutSl (m := q) (by omega)
      rw [flat_take stp_len, hq2] at I
      refine WP.seq ?_
      refine WP.region ?_
      refine Ops.y (v := .slice _ _ _) (Y.move rfl) ?_
      refine Ops.y (v := .int .i64 _) (Y.move rfl) ?_
      refine Ops.y (v := .slice _ _ _) (Y.cutO (l := q) (h' := m) Tryz.underlying36 Tryz.sizeOf82 rfl (.inr ⟨_, _, rfl, rfl⟩) (.inl ⟨rfl, rfl⟩) (by omega) (by omega) (by omega)) ?_
      refine Ops.go (O.clearS I Tryz.underlying36 et_82 (by simp [Value.cells, Value.oneCell']) rfl (by omega) rfl (by omega) ?_)
      intro w I
      refine Ops.nil ?_
      refine WP.seq ?_
      refine WP.region ?_
      refine Ops.y (v := .slice _ _ _) (Y.move rfl) ?_
      refine Ops.y (v := .int .i64 _) (Y.move rfl) ?_
      refine Ops.y (v := .slice _ _ _) (Y.cutO (l := 0) (h' := q) Tryz.underlying36 Tryz.sizeOf82 rfl (.inl ⟨rfl, rfl⟩) (.inr ⟨_, _, rfl, rfl⟩) (by omega) (by omega) (by omega)) ?_
      refine Ops.y (v := .slice _ _ _) (Y.assign rfl) ?_
      refine Ops.nil ?_
      refine WP.ret ?_
      repeat (first | refine thenE_ret ?_ | refine blockE_ret ?_)
      exact ⟨.inl rfl, [.slice (some ⟨gg, 0, none⟩) q c], ⟨rfl, trivial⟩, some ⟨gg, 0, none⟩, c, q, rfl, hq3, I⟩
    · refine WP.skip ?_
      refine WP.region ?_
      refine Ops.y (v := .int .i64 _) (Y.move rfl) ?_
      refine Ops.y (v := .int .i64 _) (Y.addi rfl rfl ⟨by omega, by omega⟩) ?_
      refine Ops.y (v := .int .i64 _) (Y.assign rfl) ?_
      refine Ops.nil ?_
      exact ⟨k + 1, ⟨⟨rfl, rfl, rfl, trivial⟩, I, by omega, by omega, fun j h0 hj hj' => by
        rcases Nat.lt_succ_iff_lt_or_eq.1 hj with h' | rfl
        · exact hn j h0 h' hj'
        · exact h6⟩, by omega⟩
  have hcx : compactS xs = xs := by
    have := compact_same (xs := xs) xs.length (Nat.le_refl _) (fun j h0 hj hj' => hn j h0 (by omega) hj')
    rwa [List.take_length] at this
  refine WP.exit ?_
  refine WP.seq ?_
  refine WP.region ?_
  refine Ops.y (v := .slice _ _ _) (Y.move rfl) ?_
  refine Ops.y (v := .slice _ _ _) (Y.assign rfl) ?_
  refine Ops.nil ?_
  refine WP.ret ?_
  repeat (first | refine thenE_ret ?_ | refine blockE_ret ?_)
  exact ⟨.inl rfl, [.slice (some ⟨gg, 0, none⟩) m c], ⟨rfl, trivial⟩, some ⟨gg, 0, none⟩, c, m, rfl, by rw [hcx]; exact hm, by rw [hcx]; exact I⟩
end Go.TF
end
