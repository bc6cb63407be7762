/- Texts Rnd2 Rnd3 Rnd4 Open RndLaw SpNaive2 RndLaw2 SpSub SpAsk Base19 Ask1 Nai1 SlFuncs2 SlDel Base20 Base21 Prog9. -/
import Derived.Test.YtgblgeddpegplaaGreatU6
import Derived.Test.YtgblgeddpegplaaGreatU2
import Derived.Deep.Slices
import Derived.SizedLaws
import Derived.OpenShut
import Derived.ChangeArms
import Derived.Test.YtgblgeddpegplaaGreatU5
import Derived.Test.YtgblgeddpegplaaGreatU3
section
/- Turn, Once, Closed. -/
namespace Go.TF
open Go Go.RowKit Go.Proofs
set_option maxRecDepth 20000

set_option maxHeartbeats 4000000 in
theorem Turn_own (B : Base) (hB : B.ok) (p : Prg) (hp : p.In B.h) (hpr : checkProg p = 0) (f : Sl Fct) (hf : Fcts f B.h) (okf : FOk p.preds.xs f.xs) (g : FuncId) (cs : List Value) (q : Nat → Bool) (ho : OfC Tryz.prog g cs B.h p.rules.xs.length q) :
    Fn Tryz.prog 95 [p.val, f.val, .func (.func g) #[] cs.toArray] B (PutO B.h (turnL p.preds.xs f.xs (toldL p.preds.xs f.xs p.rules.xs q))) := by
  have h125 := okf.le125
  refine Fn.ofD Tryz.func95 rfl Tryz.ntmps95 (by kernel_rfl) (by simp) ?_
  intro e
  have I := Inv.start hB
  refine WPD.seq ?_
  refine WPD.region ?_
  refine Ops.go (O.box (v := .agg #[_, _]) I rfl rfl ?_)
  intro b3 w I
  refine Ops.y (v := .slice _ _ _) (Y.assign rfl) ?_
  refine Ops.y (v := .bool _) (Y.assign rfl) ?_
  refine Ops.nil ?_
  refine WPD.seq ?_
  refine WPD.region ?_
  refine Ops.go (O.mkE (α := Fct) Fct.enc I Tryz.underlying26 Tryz.sizeOf52 ?_)
  intro s13 h13 w I le13 e13 c13 a13 o13
  refine Ops.y (v := .slice _ _ _) (Y.move rfl) ?_
  refine Ops.go (O.appendE (α := Fct) I Tryz.underlying26 et_52 (fun _ => rfl) o13 le13 e13 c13 a13 (hf.el.le le13) rfl rfl (by omega) (by omega) ?_)
  intro rr h2 w I le2 hrx o2 r0
  refine Ops.go (O.alloc I Tryz.zeroValue26 rfl ?_)
  intro b8 w I
  refine Ops.go (O.alloc I Tryz.zeroValue4 rfl ?_)
  intro b9 w I
  refine Ops.go (O.store (v := rr.val) I ty_26 1 rfl rfl rfl rfl rfl rfl (Nat.le_of_ble_eq_true rfl) rfl ?_)
  intro w I
  refine Ops.go (O.store (v := .bool _) I ty_4 0 rfl rfl rfl rfl rfl rfl (Nat.le_of_ble_eq_true rfl) rfl ?_)
  intro w I
  refine Ops.nil ?_
  have gl2 := le13.trans le2
  have irr : Fcts rr h2 := ⟨o2.in (fun _ => rfl), by rw [hrx]; omega⟩
  refine WPD.seq ?_
  refine WPD.seq ?_
  refine WPD.region ?_
  refine Ops.y (v := .agg #[_, _]) (Y.loadv ty_25 rfl (I.rdbox 2 rfl 0 2) rfl rfl) ?_
  refine Ops.y (v := .slice _ _ _) (Y.move rfl) ?_
  refine Ops.y (v := .func _ _ _) (Y.move rfl) ?_
  refine Ops.go (O.call I Tryz.call64 (Told_ok _ I.base_ok p f g cs) rfl ?_)
  rintro _ h3 w I le3 ⟨bp, bo, bf, rfl, kp, ko, kf⟩
  refine Ops.nil ?_
  have gl3 := gl2.trans le3
  refine WPD.block ?_
  refine WPD.rangeFuncH (ms := []) (σ := Sl Fct × Bool) (fun s => [box b9 [.bool s.2] 4, box b8 [s.1.val] 26, box b3 p.enc 25]) (fun k s h => (s.1.xs, s.2) = turnL p.preds.xs f.xs ((toldL p.preds.xs f.xs p.rules.xs q).take k) ∧ Fcts s.1 h ∧ OwnH 52 4 s.1 Fct.enc B.h h) (fun _ _ _ => False) (fun _ _ _ _ hl hj => ⟨hj.1, hj.2.1.le hl, hj.2.2.le hl⟩) (rr, false) I ⟨by rw [List.take_zero, hrx]; rfl, irr.le le3, o2.le le3⟩ rfl Tryz.call130
    (Told1_iter p f g cs q bp bo bf h3 kp ko kf (hp.le gl3) (hf.le gl3) hpr okf (ho.le gl3)) (fun _ => rfl) (by kernel_rfl) (by kernel_rfl) (by kernel_rfl) ?_ ?_ ?_
  · rintro l r ms' hg k t ⟨u, ch⟩ W hx gl I ⟨hj, iu, ou⟩
    dsimp only at hj iu ou
    have hk := (List.getElem?_eq_some_iff.1 hx).1
    have hxk := (List.getElem?_eq_some_iff.1 hx).2
    have hfine := told_fine (q := q) (rules_rok hpr okf) okf t (List.mem_of_getElem? hx)
    have oku : FOk p.preds.xs u.xs := by
      have := turn_fok okf (ts := (toldL p.preds.xs f.xs p.rules.xs q).take k) fun x hx => told_fine (rules_rok hpr okf) okf x (List.mem_of_mem_take hx)
      rw [← hj] at this; exact this
    have hnx : putS p.preds.xs (u.xs, ch) t.2 = turnL p.preds.xs f.xs ((toldL p.preds.xs f.xs p.rules.xs q).take (k + 1)) := by rw [turnL_take hk, ← hj, hxk]
    refine WPI.region (by kernel_rfl) ?_
    refine Ops.go (O.alloc I Tryz.zeroValue52 rfl ?_)
    intro b11 w I
    refine Ops.go (O.store (v := .agg #[_, _, _, _]) I ty_52 0 rfl rfl rfl rfl rfl rfl (Nat.le_of_ble_eq_true rfl) rfl ?_)
    intro w I
    refine Ops.nil ?_
    refine ⟨hg, [box b11 t.2.enc 52], Heap.le.refl _, I, fun r' W2 I => ?_⟩
    refine WPI.block ?_
    refine WPI.seq ?_
    refine WPI.region (by kernel_rfl) ?_
    refine Ops.y (v := .bool _) (Y.assign rfl) ?_
    refine Ops.nil ?_
    refine WPI.seq ?_
    refine WPI.region (by kernel_rfl) ?_
    refine Ops.y (v := .pointer (some ⟨_, _, none⟩)) (Y.fa0 fa_25_0 rfl) ?_
    refine Ops.y (v := .slice _ _ _) (Y.loadv ty_22 rfl (I.rdbox 3 rfl 0 1) rfl rfl) ?_
    refine Ops.y (v := .slice _ _ _) (Y.loadv ty_26 rfl (I.rdbox 2 rfl 0 1) rfl rfl) ?_
    refine Ops.y (v := .agg #[_, _, _, _]) (Y.loadv ty_52 rfl (I.rdbox 0 rfl 0 4) rfl rfl) ?_
    refine Ops.go (O.call I Tryz.call67 (Put_own _ I.base_ok p.preds (hp.preds.le (gl3.trans gl)) u iu oku t.2 hfine) rfl ?_)
    rintro _ h5 w I le5 ⟨u2, rfl, hu2, iu2, ou2⟩
    refine Ops.y (v := .tuple #[_, _]) (Y.move rfl) ?_
    refine Ops.y (v := .slice _ _ _) (Y.extract rfl rfl) ?_
    refine Ops.y (v := .bool _) (Y.extract rfl rfl) ?_
    refine Ops.go (O.store (v := .slice _ _ _) I ty_26 2 rfl rfl rfl rfl rfl rfl (Nat.le_of_ble_eq_true rfl) rfl ?_)
    intro w I
    refine Ops.y (v := .bool _) (Y.assign rfl) ?_
    refine Ops.nil ?_
    cases ch
    · refine WPI.region (by kernel_rfl) ?_
      refine Ops.y (v := .bool false) (Y.b (Y.loadv ty_4 rfl (I.rdbox 1 rfl 0 1) rfl rfl) (rfl)) ?_
      refine Ops.y (v := .bool _) (Y.move rfl) ?_
      refine Ops.ygt rfl (v := .bool _) (Y.move rfl) ?_
      refine Ops.y (v := .bool _) (Y.pick_f rfl rfl) ?_
      refine Ops.go (O.store (v := .bool _) I ty_4 1 rfl rfl rfl rfl rfl rfl (Nat.le_of_ble_eq_true rfl) rfl ?_)
      intro w I
      refine Ops.nil ?_
      exact ⟨h5, (u2, _), [box b11 t.2.enc 52], le5, I, by rw [← hnx, hu2]; rfl, iu2, ou2.older (gl3.trans gl)⟩
    · refine WPI.region (by kernel_rfl) ?_
      refine Ops.y (v := .bool true) (Y.b (Y.loadv ty_4 rfl (I.rdbox 1 rfl 0 1) rfl rfl) (rfl)) ?_
      refine Ops.y (v := .bool _) (Y.move rfl) ?_
      refine Ops.gf rfl ?_
      refine Ops.y (v := .bool _) (Y.pick_t rfl rfl) ?_
      refine Ops.go (O.store (v := .bool _) I ty_4 1 rfl rfl rfl rfl rfl rfl (Nat.le_of_ble_eq_true rfl) rfl ?_)
      intro w I
      refine Ops.nil ?_
      exact ⟨h5, (u2, _), [box b11 t.2.enc 52], le5, I, by rw [← hnx, hu2]; rfl, iu2, ou2.older (gl3.trans gl)⟩
  · rintro D h4 ⟨u, ch⟩ W gl I ⟨hj, iu, ou⟩
    dsimp only at hj iu ou
    rw [List.take_length] at hj
    refine WPD.seq ?_
    refine WPD.regionQ mixed I (by kernel_rfl) ?_
    refine OpsQ.y (v := .slice _ _ _) (fun w I => Y.loadv ty_26 rfl (I.rdbox 1 rfl 0 1) rfl rfl) ?_
    refine OpsQ.y (v := .bool _) (fun w I => Y.loadv ty_4 rfl (I.rdbox 0 rfl 0 1) rfl rfl) ?_
    refine OpsQ.y (v := .slice _ _ _) (fun w I => Y.assign rfl) ?_
    refine OpsQ.y (v := .bool _) (fun w I => Y.assign rfl) ?_
    refine OpsQ.nil ?_
    intro w I
    refine WPD.ret ?_
    repeat (first | refine thenD_ret ?_ | refine blockD_ret ?_)
    show doneQ _ _ _ _ _ _ _ _
    exact ⟨.inl rfl, [D], _, h4, [u.val, .bool ch], rfl, I, fun w2 I2 => ⟨rfl, rfl, trivial⟩, ⟨u, by rw [← hj]; rfl, by rw [← hj], iu, ou⟩⟩
  · rintro D c h4 s W gl I hx
    exact hx.elim
theorem lv_eq_of_least {cs : List (Int × Ltl)} {n : Nat} {L M : List Int} (h1 : Least cs n L) (h2 : Least cs n M) : L = M :=
  lv_ext (h1.sol.len.trans h2.sol.len.symm) fun i => Int.le_antisymm (h1.least M h2.sol i) (h2.least L h1.sol i)
open Classical in
noncomputable def strataM (p : Prg) : List Int := if h : ∃ M, Least (usesL p.rules.xs) p.preds.xs.length M then Classical.choose h else []
theorem strataM_eq {p : Prg} {M : List Int} (h : Least (usesL p.rules.xs) p.preds.xs.length M) : strataM p = M := by
  have he : ∃ M, Least (usesL p.rules.xs) p.preds.xs.length M := ⟨M, h⟩
  unfold strataM
  rw [dif_pos he]
  exact lv_eq_of_least (Classical.choose_spec he) h
theorem PutP.mono {r : List Fct × Bool} : MonoS (PutP r) := fun _ _ _ hl ⟨s, a, b, c⟩ => ⟨s, a, b, c.le hl⟩
def ROfS (p : Prg) (M : List Int) (st : Int) : Sp := fun v h => ∃ cs, v = .func (.func 132) #[] (List.toArray cs) ∧ OfC Tryz.prog 132 cs h p.rules.xs.length (ofQ p M st)
theorem ROfS.mono {p : Prg} {M : List Int} {st : Int} : MonoS (ROfS p M st) := fun _ _ _ hl ⟨cs, a, b⟩ => ⟨cs, a, b.le hl⟩
theorem fnil {h : Heap} : Fcts ⟨none, 0, []⟩ h := ⟨fun i x hx => by simp at hx, by simp⟩
/-! ### Closed -/
end Go.TF
end
section
/- What the document says of a round, and of what is closed. -/
namespace Go.TF
open Go Go.RowKit Go.Proofs
set_option maxRecDepth 20000

end Go.TF
end
section
/- What the document says of what is closed; what must be in any case; laws of a round: plain. -/
namespace Go.TF
open Go Go.RowKit Go.Proofs
set_option maxRecDepth 20000

/-! ### The roads' rounds -/
theorem toldK_er (l : List Prd) (f : List Fct) (rs : List Rul) (q : Nat → Bool) (k : Nat) (hk : k ≤ rs.length) : toldK l f (rs.map Rul.er) q k = toldK l f rs q k := by
  unfold toldK
  have : ∀ n ∈ List.range k, toldN l f (rs.map Rul.er) q n = toldN l f rs q n := fun n hn => by
    have hn' : n < rs.length := by have := List.mem_range.1 hn; omega
    have hg : (rs.map Rul.er).getD n default = (rs.getD n default).er := by
      rw [List.getD_eq_getElem?_getD, List.getD_eq_getElem?_getD, List.getElem?_map, List.getElem?_eq_getElem hn']; rfl
    unfold toldN
    rw [hg, stepsF_er]
    simp only [headF_er]
  rw [List.flatMap_def, List.flatMap_def, List.map_congr_left this]
theorem toldL_er (l : List Prd) (f : List Fct) (rs : List Rul) (q : Nat → Bool) : toldL l f (rs.map Rul.er) q = toldL l f rs q := by
  unfold toldL; rw [List.length_map]; exact toldK_er l f rs q _ (Nat.le_refl _)
theorem toldK_congr {l : List Prd} {f : List Fct} {rs : List Rul} {q q' : Nat → Bool} {k : Nat} (hq : ∀ n, n < k → q n = q' n) : toldK l f rs q k = toldK l f rs q' k := by
  unfold toldK
  have : ∀ n ∈ List.range k, toldN l f rs q n = toldN l f rs q' n := fun n hn => by unfold toldN; rw [hq n (List.mem_range.1 hn)]
  rw [List.flatMap_def, List.flatMap_def, List.map_congr_left this]
section
variable {p : Prg} {h : Heap} (hp : RoadsAt p h)
include hp
theorem rd_rules : p.rules.xs.map Rul.er = roadsC.rules.xs := by have := congrArg (fun q : Prg => q.rules.xs) hp.er; exact this
theorem rd_strata : strataM p = [0, 0, 1] := by
  refine strataM_eq (least_er ?_)
  rw [← usesL_er, rd_rules hp, rd_preds hp]
  exact roads_least
end
end Go.TF
end
section
/- Arguments as they come in: what is read as data lies in memory as located data. -/
namespace Go.TF
open Go Go.RowKit Go.Proofs Go.Deep

def memH (W : World) : Heap := fun b => W.heap[b]?
theorem memH_cell {W : World} {b o : Nat} {v : Value} (h : W.cell? ⟨b, o, none⟩ = some v) : (memH W).cell b o = some v := by
  unfold World.cell? at h
  unfold Heap.cell memH
  split at h
  · rename_i c t f hb; rw [hb]; simpa using h
  · cases h
def Opens (P : Program) (T : TypeId) {α : Type} (enc : α → List Value) (In : α → Heap → Prop) : Prop :=
  ∀ (H : Type) (en : TypeId × Value → H) (W : World) (fuel : Nat) (cs : List Value) (x : DataW H × List MemPlace), DataW.trod en P W 0 (fun _ => true) true fuel T cs = some x → (∀ n ∈ x.1.weights P T, n ≤ reachBytes) → ∃ y : α, cs = enc y ∧ In y (memH W)
/-- A slice, its elements, and that there are not too many. -/
structure Sl.Ok {α : Type} (s : Sl α) (k b : Nat) (enc : α → List Value) (In : α → Heap → Prop) (h : Heap) : Prop where
  is : s.Is k enc h
  each : ∀ x ∈ s.xs, In x h
  cap : s.xs.length ≤ s.cap
  size : s.cap * b ≤ reachBytes
section
variable {P : Program} {T : TypeId}
theorem i64_of_wf {n : Int} (hw : (Lit.int .i64 n).wf = true) : I64 n := by
  simp only [Lit.wf, Bool.and_eq_true, decide_eq_true_eq] at hw
  have h1 : IntKind.i64.min = -9223372036854775808 := rfl
  have h2 : IntKind.i64.max = 9223372036854775807 := rfl
  exact ⟨by omega, by omega⟩
theorem op_int (hT : P.underlying T = some (.int .i64)) : Opens P T (fun n : Int => [.int .i64 n]) (fun n _ => I64 n) := fun H en W fuel cs x h _ => by
  obtain ⟨n, rfl, _, hw⟩ := DataW.trod_int hT h
  refine ⟨n, rfl, ?_⟩
  simp only [Lit.wf, Bool.and_eq_true, decide_eq_true_eq] at hw
  have h1 : IntKind.i64.min = -9223372036854775808 := rfl
  have h2 : IntKind.i64.max = 9223372036854775807 := rfl
  exact ⟨by omega, by omega⟩
theorem op_bool (hT : P.underlying T = some .bool) : Opens P T (fun n : Bool => [.bool n]) (fun _ _ => True) := fun H en W fuel cs x h _ => by
  obtain ⟨n, rfl, _⟩ := DataW.trod_bool hT h
  exact ⟨n, rfl, trivial⟩
theorem op_string (hT : P.underlying T = some .string) : Opens P T (fun n : ByteArray => [.string n]) (fun s _ => s.size ≤ reachBytes) := fun H en W fuel cs x h hw => by
  obtain ⟨n, rfl, rfl, _⟩ := DataW.trod_string hT h
  refine ⟨n, rfl, ?_⟩
  have := hw n.data.toList.length (by simp [DataW.weights])
  simpa using this
theorem weightsAll_mem {H : Type} {e : TypeId} : ∀ {l : List (DataW H)} {d : DataW H}, d ∈ l → ∀ n ∈ d.weights P e, n ∈ DataW.weightsAll P e l
  | x :: l, d, hd, n, hn => by
    simp only [DataW.weightsAll]
    rcases List.mem_cons.1 hd with rfl | hd
    · exact List.mem_append_left _ hn
    · exact List.mem_append_right _ (weightsAll_mem hd n hn)
theorem op_slice {e k b : Nat} {α : Type} {enc : α → List Value} {In : α → Heap → Prop} (hT : P.underlying T = some (.slice e)) (hk : P.cellsOf e = k) (hb : P.bytesOf e = b) (hb0 : 0 < b) (hk0 : 0 < k) (he : Opens P e enc In) :
    Opens P T (fun s : Sl α => [s.val]) (fun s h => s.Ok k b enc In h) := fun H en W fuel cs x h hw => by
  rcases open_slice hT h with ⟨rfl, rfl⟩ | ⟨a, len, cap, m, n, D, Pl, rfl, _, hl, _, hmm, rfl, hall⟩
  · exact ⟨⟨none, 0, []⟩, rfl, ⟨⟨fun i x hx => by simp at hx, by simp⟩, fun x hx => by simp at hx, by simp, by simp [reachBytes]⟩⟩
  · simp only [if_true] at hmm
    subst hmm
    have hel : ∀ i, i < len → ∃ (y : α), W.cells? 0 (a.add (i * k)) k = some (enc y) ∧ In y (memH W) := fun i hi => by
      obtain ⟨cs', h1, h2⟩ := hall i (by omega)
      obtain ⟨y, rfl, hy⟩ := he H en W n cs' _ h2 fun q hq => hw q (by
        simp only [DataW.weights, hT]
        refine List.mem_cons_of_mem _ (List.mem_append_left _ (weightsAll_mem (d := D i) (List.mem_map.2 ⟨i, List.mem_range.2 hi, rfl⟩) q hq)))
      rw [hk] at h1
      exact ⟨y, h1, hy⟩
    have hsz : m * b ≤ reachBytes := by
      have := hw ((len + (m - len)) * b) (by simp [DataW.weights, hT, hb])
      rwa [show len + (m - len) = m by omega] at this
    have hm47 : m ≤ 140737488355328 := by
      have h1 : m ≤ m * b := Nat.le_mul_of_pos_right m hb0
      have h2 : reachBytes ≤ 140737488355328 := by decide
      omega
    have key : ∃ xs : List α, xs.length = len ∧ ∀ i y, xs[i]? = some y → W.cells? 0 (a.add (i * k)) k = some (enc y) ∧ In y (memH W) := by
      have : ∀ l, l ≤ len → ∃ xs : List α, xs.length = l ∧ ∀ i y, xs[i]? = some y → W.cells? 0 (a.add (i * k)) k = some (enc y) ∧ In y (memH W) := by
        intro l
        induction l with
        | zero => intro _; exact ⟨[], rfl, fun i y hy => by simp at hy⟩
        | succ l ih =>
          intro hl'
          obtain ⟨xs, h1, h2⟩ := ih (by omega)
          obtain ⟨y, h3⟩ := hel l (by omega)
          refine ⟨xs ++ [y], by simp [h1], fun i z hz => ?_⟩
          rw [List.getElem?_append] at hz
          split at hz
          · exact h2 i z hz
          · have : i = l := by
              have := (List.getElem?_eq_some_iff.1 hz).1
              simp at this; omega
            subst this
            simp [h1] at hz
            subst hz; exact h3
      exact this len (Nat.le_refl _)
    obtain ⟨xs, hxs, hx⟩ := key
    obtain ⟨ab, ao, spot⟩ := a
    have hspot : 0 < len → spot = none := fun h0 => by
      obtain ⟨y, h1, _⟩ := hel 0 h0
      obtain ⟨_, hlen, hc⟩ := World.cells?_some h1
      have hc0 := hc 0 hk0
      have : ∃ v, (enc y)[0]? = some v := ⟨(enc y)[0]'(by omega), by simp⟩
      obtain ⟨v, hv⟩ := this
      rw [hv] at hc0
      have := World.cell?_spot hc0
      simpa [Addr.add] using this
    refine ⟨⟨some ⟨ab, ao, spot⟩, m, xs⟩, by simp [Sl.val, hxs], ⟨⟨fun i y hy => ?_, by simp only [hxs]; omega⟩, fun y hy => ?_, by simp only [hxs]; omega, hsz⟩⟩
    · have hi : i < xs.length := (List.getElem?_eq_some_iff.1 hy).1
      have hs := hspot (by omega)
      subst hs
      refine ⟨rfl, fun j v hj => ?_⟩
      obtain ⟨_, hlen, hc⟩ := World.cells?_some (hx i y hy).1
      have hjk : j < k := by have := (List.getElem?_eq_some_iff.1 hj).1; omega
      have := hc j hjk
      rw [hj, addr_add, addr_add] at this
      exact memH_cell this
    · obtain ⟨i, hi, rfl⟩ := List.getElem_of_mem hy
      exact (hx i xs[i] (List.getElem?_eq_getElem hi)).2
theorem op_field {fs : Array Field} {H : Type} {en : TypeId × Value → H} {W : World} {fuel : Nat} {cs : List Value} {x : DataW H × List MemPlace} (hT : P.underlying T = some (.struct fs)) (h : DataW.trod en P W 0 (fun _ => true) true fuel T cs = some x) (hw : ∀ n ∈ x.1.weights P T, n ≤ reachBytes)
    {α : Type} {enc : α → List Value} {In : α → Heap → Prop} (i : Nat) {f : Field} (hf : fs[i]? = some f) {k : Nat} (hk : P.cellsOf f.type = k) (he : Opens P f.type enc In) : ∃ y : α, (cs.drop f.offset).take k = enc y ∧ In y (memH W) := by
  subst hk
  obtain ⟨xs, n, _, rfl, _, hlen, hfs⟩ := DataW.trod_struct hT h
  have hi : i < xs.length := by rw [hlen]; exact (Array.getElem?_eq_some_iff.1 hf).1
  have h1 := hfs i f hf
  rw [List.getElem?_eq_getElem hi] at h1
  refine he H en W n _ xs[i] h1 fun q hq => hw q ?_
  simp only [DataW.weights, hT]
  exact DataW.weights_mem_each (j := i) (t := f.type) (d := xs[i].1) (by simp [hf]) (by simp [hi]) q hq
theorem op_len {fs : Array Field} {H : Type} {en : TypeId × Value → H} {W : World} {fuel : Nat} {cs : List Value} {x : DataW H × List MemPlace} (hT : P.underlying T = some (.struct fs)) (h : DataW.trod en P W 0 (fun _ => true) true fuel T cs = some x) : cs.length = P.cellsOf T := by
  obtain ⟨xs, n, _, rfl, hl, _, _⟩ := DataW.trod_struct hT h
  exact hl
/-- From the argument's cells to its value. -/
theorem val_slice {W : World} {r : Go.Reach} {b0 e : Nat} {v w : Value} (hT : P.underlying T = some (.slice e)) (hval : Value.okWide P W r b0 T v) (hc : v.cells.toList = [w]) : v = w := by
  unfold Value.okWide at hval
  rw [hT] at hval
  simp only at hval
  cases v <;> simp_all [Value.cells, Cell.okWide, Cell.ok]
theorem val_struct {W : World} {r : Go.Reach} {b0 : Nat} {fs : Array Field} {v : Value} {cs : List Value} (hT : P.underlying T = some (.struct fs)) (hval : Value.okWide P W r b0 T v) (hc : v.cells.toList = cs) : v = .agg cs.toArray := by
  unfold Value.okWide at hval
  rw [hT] at hval
  obtain ⟨cs', rfl, _⟩ := hval
  subst hc; simp [Value.cells]
theorem weights_of {H : Type} {ts : List TypeId} {ds : List (DataW H)} (hz : (DataW.weightsEach P ts ds).all (· ≤ reachBytes) = true) (j : Nat) {t : TypeId} {d : DataW H} (ht : ts[j]? = some t) (hd : ds[j]? = some d) : ∀ n ∈ d.weights P t, n ≤ reachBytes := fun n hn => by
  have := List.all_eq_true.1 hz n (DataW.weights_mem_each ht hd n hn)
  simpa using this
end
theorem open_of {P : Program} {T : TypeId} {α : Type} {enc : α → List Value} {In : α → Heap → Prop} {H : Type} {en : TypeId × Value → H} {W : World} {v : Value} {d : DataW H} {ps : List MemPlace} (he : Opens P T enc In) (hd : DataW.Trod en P W 0 (fun _ => true) true T v d ps) (hw : ∀ n ∈ d.weights P T, n ≤ reachBytes) :
    ∃ y : α, v.cells.toList = enc y ∧ In y (memH W) := by
  obtain ⟨fuel, h⟩ := hd
  exact he H en W fuel _ _ h hw

/-! ### This program's types -/
theorem len2 {cs : List Value} (h : cs.length = 2) : ∃ c0 c1, cs = [c0, c1] := by
  match cs, h with
  | [c0, c1], _ => exact ⟨c0, c1, rfl⟩
theorem len3 {cs : List Value} (h : cs.length = 3) : ∃ c0 c1 c2, cs = [c0, c1, c2] := by
  match cs, h with
  | [c0, c1, c2], _ => exact ⟨c0, c1, c2, rfl⟩
theorem len4 {cs : List Value} (h : cs.length = 4) : ∃ c0 c1 c2 c3, cs = [c0, c1, c2, c3] := by
  match cs, h with
  | [c0, c1, c2, c3], _ => exact ⟨c0, c1, c2, c3, rfl⟩
theorem len5 {cs : List Value} (h : cs.length = 5) : ∃ c0 c1 c2 c3 c4, cs = [c0, c1, c2, c3, c4] := by
  match cs, h with
  | [c0, c1, c2, c3, c4], _ => exact ⟨c0, c1, c2, c3, c4, rfl⟩
def TrmOk (t : Trm) (_ : Heap) : Prop := I64 t.n
structure PrdOk (p : Prd) (_ : Heap) : Prop where
  name : p.name.size ≤ reachBytes
  arity : I64 p.arity
  kind : I64 p.kind
structure AtmOk (a : Atm) (h : Heap) : Prop where
  pred : I64 a.pred
  args : a.args.Ok 2 16 Trm.enc TrmOk h
def LtlOk (x : Ltl) (h : Heap) : Prop := AtmOk x.atom h
structure RulOk (r : Rul) (h : Heap) : Prop where
  head : AtmOk r.head h
  src : I64 r.src
  n : I64 r.n
  body : r.body.Ok 3 40 Ltl.enc LtlOk h
structure PrgOk (p : Prg) (h : Heap) : Prop where
  preds : p.preds.Ok 3 32 Prd.enc PrdOk h
  rules : p.rules.Ok 5 72 Rul.enc RulOk h
structure FctOk (x : Fct) (_ : Heap) : Prop where
  pred : I64 x.pred
  a : I64 x.a
  b : I64 x.b
  v : I64 x.v
structure VrsOk (x : Vrs) (_ : Heap) : Prop where
  x0 : I64 x.x0
  x1 : I64 x.x1
  x2 : I64 x.x2
structure StpOk (x : Stp) (h : Heap) : Prop where
  rule : I64 x.rule
  vars : VrsOk x.vars h
theorem AtmOk.in_ {a : Atm} {h : Heap} (x : AtmOk a h) : a.In h := x.args.is
theorem RulOk.in_ {r : Rul} {h : Heap} (x : RulOk r h) : r.In h := ⟨x.head.in_, x.body.is, fun y hy => AtmOk.in_ (x.body.each y hy)⟩
theorem PrgOk.in_ {p : Prg} {h : Heap} (x : PrgOk p h) : p.In h := ⟨x.preds.is, x.rules.is, fun y hy => (x.rules.each y hy).in_⟩
theorem op_Trm : Opens Tryz.prog 91 Trm.enc TrmOk := fun H en W fuel cs x h hw => by
  have hl := op_len Tryz.underlying91 h
  rw [show Tryz.prog.cellsOf 91 = 2 by kernel_rfl] at hl
  obtain ⟨y0, e0, g0⟩ := op_field Tryz.underlying91 h hw 0 rfl (k := 1) (by kernel_rfl) (op_bool Tryz.underlying4)
  obtain ⟨y1, e1, g1⟩ := op_field Tryz.underlying91 h hw 1 rfl (k := 1) (by kernel_rfl) (op_int Tryz.underlying3)
  obtain ⟨c0, c1, rfl⟩ := len2 hl
  replace e0 : [c0] = _ := e0
  replace e1 : [c1] = _ := e1
  simp only [List.cons.injEq, and_true] at e0 e1
  exact ⟨⟨y0, y1⟩, by simp [*], g1⟩
theorem op_SlTrm : Opens Tryz.prog 63 (fun s : Sl Trm => [s.val]) (fun s h => s.Ok 2 16 Trm.enc TrmOk h) := op_slice Tryz.underlying63 (by kernel_rfl) (by kernel_rfl) (by decide) (by decide) op_Trm
theorem op_Prd : Opens Tryz.prog 62 Prd.enc PrdOk := fun H en W fuel cs x h hw => by
  have hl := op_len Tryz.underlying62 h
  rw [show Tryz.prog.cellsOf 62 = 3 by kernel_rfl] at hl
  obtain ⟨y0, e0, g0⟩ := op_field Tryz.underlying62 h hw 0 rfl (k := 1) (by kernel_rfl) (op_string Tryz.underlying9)
  obtain ⟨y1, e1, g1⟩ := op_field Tryz.underlying62 h hw 1 rfl (k := 1) (by kernel_rfl) (op_int Tryz.underlying3)
  obtain ⟨y2, e2, g2⟩ := op_field Tryz.underlying62 h hw 2 rfl (k := 1) (by kernel_rfl) (op_int Tryz.underlying3)
  obtain ⟨c0, c1, c2, rfl⟩ := len3 hl
  replace e0 : [c0] = _ := e0
  replace e1 : [c1] = _ := e1
  replace e2 : [c2] = _ := e2
  simp only [List.cons.injEq, and_true] at e0 e1 e2
  exact ⟨⟨y0, y1, y2⟩, by simp [*], ⟨g0, g1, g2⟩⟩
theorem op_SlPrd : Opens Tryz.prog 22 (fun s : Sl Prd => [s.val]) (fun s h => s.Ok 3 32 Prd.enc PrdOk h) := op_slice Tryz.underlying22 (by kernel_rfl) (by kernel_rfl) (by decide) (by decide) op_Prd
theorem op_Atm : Opens Tryz.prog 65 Atm.enc AtmOk := fun H en W fuel cs x h hw => by
  have hl := op_len Tryz.underlying65 h
  rw [show Tryz.prog.cellsOf 65 = 2 by kernel_rfl] at hl
  obtain ⟨y0, e0, g0⟩ := op_field Tryz.underlying65 h hw 0 rfl (k := 1) (by kernel_rfl) (op_int Tryz.underlying3)
  obtain ⟨y1, e1, g1⟩ := op_field Tryz.underlying65 h hw 1 rfl (k := 1) (by kernel_rfl) (op_SlTrm)
  obtain ⟨c0, c1, rfl⟩ := len2 hl
  replace e0 : [c0] = _ := e0
  replace e1 : [c1] = _ := e1
  simp only [List.cons.injEq, and_true] at e0 e1
  exact ⟨⟨y0, y1⟩, by simp [*], ⟨g0, g1⟩⟩
theorem op_Ltl : Opens Tryz.prog 131 Ltl.enc LtlOk := fun H en W fuel cs x h hw => by
  have hl := op_len Tryz.underlying131 h
  rw [show Tryz.prog.cellsOf 131 = 3 by kernel_rfl] at hl
  obtain ⟨y0, e0, g0⟩ := op_field Tryz.underlying131 h hw 0 rfl (k := 1) (by kernel_rfl) (op_bool Tryz.underlying4)
  obtain ⟨y1, e1, g1⟩ := op_field Tryz.underlying131 h hw 1 rfl (k := 2) (by kernel_rfl) (op_Atm)
  obtain ⟨c0, c1, c2, rfl⟩ := len3 hl
  replace e0 : [c0] = _ := e0
  replace e1 : [c1, c2] = _ := e1
  simp only [List.cons.injEq, and_true] at e0 e1
  exact ⟨⟨y0, y1⟩, by simp [*], g1⟩
theorem op_SlLtl : Opens Tryz.prog 66 (fun s : Sl Ltl => [s.val]) (fun s h => s.Ok 3 40 Ltl.enc LtlOk h) := op_slice Tryz.underlying66 (by kernel_rfl) (by kernel_rfl) (by decide) (by decide) op_Ltl
theorem op_Rul : Opens Tryz.prog 68 Rul.enc RulOk := fun H en W fuel cs x h hw => by
  have hl := op_len Tryz.underlying68 h
  rw [show Tryz.prog.cellsOf 68 = 5 by kernel_rfl] at hl
  obtain ⟨y0, e0, g0⟩ := op_field Tryz.underlying68 h hw 0 rfl (k := 2) (by kernel_rfl) (op_Atm)
  obtain ⟨y1, e1, g1⟩ := op_field Tryz.underlying68 h hw 1 rfl (k := 1) (by kernel_rfl) (op_int Tryz.underlying3)
  obtain ⟨y2, e2, g2⟩ := op_field Tryz.underlying68 h hw 2 rfl (k := 1) (by kernel_rfl) (op_int Tryz.underlying3)
  obtain ⟨y3, e3, g3⟩ := op_field Tryz.underlying68 h hw 3 rfl (k := 1) (by kernel_rfl) (op_SlLtl)
  obtain ⟨c0, c1, c2, c3, c4, rfl⟩ := len5 hl
  replace e0 : [c0, c1] = _ := e0
  replace e1 : [c2] = _ := e1
  replace e2 : [c3] = _ := e2
  replace e3 : [c4] = _ := e3
  simp only [List.cons.injEq, and_true] at e0 e1 e2 e3
  exact ⟨⟨y0, y1, y2, y3⟩, by simp [*], ⟨g0, g1, g2, g3⟩⟩
theorem op_SlRul : Opens Tryz.prog 23 (fun s : Sl Rul => [s.val]) (fun s h => s.Ok 5 72 Rul.enc RulOk h) := op_slice Tryz.underlying23 (by kernel_rfl) (by kernel_rfl) (by decide) (by decide) op_Rul
theorem op_Prg : Opens Tryz.prog 25 Prg.enc PrgOk := fun H en W fuel cs x h hw => by
  have hl := op_len Tryz.underlying25 h
  rw [show Tryz.prog.cellsOf 25 = 2 by kernel_rfl] at hl
  obtain ⟨y0, e0, g0⟩ := op_field Tryz.underlying25 h hw 0 rfl (k := 1) (by kernel_rfl) (op_SlPrd)
  obtain ⟨y1, e1, g1⟩ := op_field Tryz.underlying25 h hw 1 rfl (k := 1) (by kernel_rfl) (op_SlRul)
  obtain ⟨c0, c1, rfl⟩ := len2 hl
  replace e0 : [c0] = _ := e0
  replace e1 : [c1] = _ := e1
  simp only [List.cons.injEq, and_true] at e0 e1
  exact ⟨⟨y0, y1⟩, by simp [*], ⟨g0, g1⟩⟩
theorem op_Fct : Opens Tryz.prog 52 Fct.enc FctOk := fun H en W fuel cs x h hw => by
  have hl := op_len Tryz.underlying52 h
  rw [show Tryz.prog.cellsOf 52 = 4 by kernel_rfl] at hl
  obtain ⟨y0, e0, g0⟩ := op_field Tryz.underlying52 h hw 0 rfl (k := 1) (by kernel_rfl) (op_int Tryz.underlying3)
  obtain ⟨y1, e1, g1⟩ := op_field Tryz.underlying52 h hw 1 rfl (k := 1) (by kernel_rfl) (op_int Tryz.underlying3)
  obtain ⟨y2, e2, g2⟩ := op_field Tryz.underlying52 h hw 2 rfl (k := 1) (by kernel_rfl) (op_int Tryz.underlying3)
  obtain ⟨y3, e3, g3⟩ := op_field Tryz.underlying52 h hw 3 rfl (k := 1) (by kernel_rfl) (op_int Tryz.underlying3)
  obtain ⟨c0, c1, c2, c3, rfl⟩ := len4 hl
  replace e0 : [c0] = _ := e0
  replace e1 : [c1] = _ := e1
  replace e2 : [c2] = _ := e2
  replace e3 : [c3] = _ := e3
  simp only [List.cons.injEq, and_true] at e0 e1 e2 e3
  exact ⟨⟨y0, y1, y2, y3⟩, by simp [*], ⟨g0, g1, g2, g3⟩⟩
theorem op_SlFct : Opens Tryz.prog 26 (fun s : Sl Fct => [s.val]) (fun s h => s.Ok 4 32 Fct.enc FctOk h) := op_slice Tryz.underlying26 (by kernel_rfl) (by kernel_rfl) (by decide) (by decide) op_Fct
end Go.TF
end
section
/- The laws of a round: each returns true. -/
namespace Go.TF
open Go Go.RowKit Go.Proofs
set_option maxRecDepth 20000

theorem PrgOk.nm3 {p : Prg} {h : Heap} (x : PrgOk p h) : p.Nm := fun y hy => by
  have := (x.preds.each y hy).1
  simp only [reachBytes] at this; omega
/-! ### RoundMore -/
end Go.TF
end
section
/- The model is closed, each of its facts is told, it is the least, and the order of the rules is nothing to it: plain. -/
namespace Go.TF
open Go

theorem mem_uses {rs : List Rul} {r : Rul} {x : Ltl} (hr : r ∈ rs) (hx : x ∈ r.body.xs) : (r.head.pred, x) ∈ usesL rs := by
  unfold usesL
  exact List.mem_flatMap.2 ⟨r, hr, List.mem_map.2 ⟨x, hx, rfl⟩⟩
def SameLv (M : List Int) (P : Int → Prop) (f g : List Fct) : Prop := ∀ y : Fct, PF y → P (lv M y.pred) → lkF f (placeF y) = lkF g (placeF y)
theorem isF_lv {M : List Int} {P : Int → Prop} {f g : List Fct} (h : SameLv M P f g) {y : Fct} (hy : PF y) (hp : P (lv M y.pred)) : isF f y = isF g y := by unfold isF; rw [h y hy hp]
theorem ng_ge (x : Ltl) : 0 ≤ ng x := by unfold ng; split <;> omega
theorem same_symm {M : List Int} {P : Int → Prop} {f g : List Fct} (h : SameLv M P f g) : SameLv M P g f := fun y a b => (h y a b).symm
theorem lit_lv {p : Prg} {M : List Int} (hM : Sol (usesL p.rules.xs) p.preds.xs.length M) {r : Rul} (hr : r ∈ p.rules.xs) {x : Ltl} (hx : x ∈ r.body.xs) : lv M x.atom.pred + ng x ≤ lv M r.head.pred := hM.sat _ (mem_uses hr hx)
theorem run_off {l : List Prd} {M : List Int} {st : Int} {y : Fct} (hy : PF y) (hl : lv M y.pred ≠ st) : ∀ (ts : List (Stp × Fct)) (s : List Fct × Bool), FOk l s.1 → (∀ t ∈ ts, factFine l t.2 = true) → (∀ t ∈ ts, lv M t.2.pred = st) → lkF (runL l s ts).1 (placeF y) = lkF s.1 (placeF y)
  | [], s, _, _, _ => rfl
  | t :: ts, s, hs, hf, ht => by
    have hx := hf t List.mem_cons_self
    have := run_off hy hl ts (putS l s t.2) (addF_fok hs hx) (fun u hu => hf u (List.mem_cons_of_mem _ hu)) fun u hu => ht u (List.mem_cons_of_mem _ hu)
    refine this.trans ?_
    show lkF (addL l s.1 t.2) (placeF y) = _
    rw [lkF_addL hs, if_neg]
    intro e
    have := (hy.inj (fine_pf hs.len hx) e).1
    exact hl (by rw [this]; exact ht t List.mem_cons_self)
theorem run_mem {l : List Prd} {y : Fct} : ∀ (ts : List (Stp × Fct)) (s : List Fct × Bool), y ∈ (runL l s ts).1 → (∃ z ∈ s.1, placeF z = placeF y) ∨ ∃ t ∈ ts, placeF t.2 = placeF y
  | [], s, h => .inl ⟨y, h, rfl⟩
  | t :: ts, s, h => by
    rcases run_mem ts (putS l s t.2) h with ⟨z, hz, e⟩ | ⟨u, hu, e⟩
    · rcases mem_addF hz with hz | rfl | ⟨y', hy', e', rfl⟩
      · exact .inl ⟨z, hz, e⟩
      · exact .inr ⟨t, List.mem_cons_self, e⟩
      · exact .inl ⟨y', hy', e⟩
    · exact .inr ⟨u, List.mem_cons_of_mem _ hu, e⟩
theorem fok_nil {l : List Prd} (h5 : l.length ≤ 5) (hp : ∀ p ∈ l, predFine p = true) : FOk l [] := ⟨h5, hp, fun x hx => by simp at hx, List.Pairwise.nil⟩
section
variable {p : Prg} {M : List Int} (rk : ∀ r ∈ p.rules.xs, ROk p.preds.xs r) (hM : Sol (usesL p.rules.xs) p.preds.xs.length M)
theorem ofQ_iff {s : Int} {n : Nat} {r : Rul} (hr : p.rules.xs[n]? = some r) : ofQ p M s n = true ↔ lv M r.head.pred = s := by
  unfold ofQ
  rw [List.getD_eq_getElem?_getD, hr, decide_eq_true_eq]
  rfl
theorem told_lv {f : List Fct} {s : Int} : ∀ t ∈ toldL p.preds.xs f p.rules.xs (ofQ p M s), lv M t.2.pred = s := fun t ht => by
  obtain ⟨n, r, hr, hq, hs, he⟩ := mem_told.1 ht
  rw [he]; exact (ofQ_iff hr).1 hq
include rk hM
/-- What holds ahead of a round holds behind it. -/
theorem holds_next {f g : List Fct} {s : Int} (hu : underF p.preds.xs f g = true) (hs : SameLv M (· < s) f g) {r : Rul} (hr : r ∈ p.rules.xs) (hl : lv M r.head.pred ≤ s) {x : Vrs} (hx : VsOk x) (h : holdsB f r x = true) : holdsB g r x = true := by
  unfold holdsB at *
  rw [List.all_eq_true] at *
  intro t ht
  have h1 := h t ht
  unfold litOk at h1 ⊢
  rw [decide_eq_true_eq] at h1 ⊢
  have hlv := lit_lv hM hr ht
  cases hn : t.neg
  · rw [hn] at h1
    have := isF_up hu (y := groundF t.atom x) (by simpa using h1)
    rw [this]; decide
  · rw [hn] at h1
    have hng : ng t = 1 := by unfold ng; rw [hn]; rfl
    have ao := aok_of (rk r hr).preds ((rk r hr).body t ht)
    have pf := ao.pf (rk r hr).five hx 0
    have e := isF_lv hs (y := groundF t.atom x) pf (show lv M t.atom.pred < s by omega)
    rw [← e]
    exact h1
theorem holds_same {f g : List Fct} {s : Int} (hs : SameLv M (· ≤ s) f g) {r : Rul} (hr : r ∈ p.rules.xs) (hl : lv M r.head.pred ≤ s) {x : Vrs} (hx : VsOk x) : holdsB f r x = holdsB g r x ∧ headF p.preds.xs f r x = headF p.preds.xs g r x := by
  have hlit : ∀ t ∈ r.body.xs, lkF f (placeF (groundF t.atom x)) = lkF g (placeF (groundF t.atom x)) := fun t ht => by
    have hlv := lit_lv hM hr ht
    have := ng_ge t
    have ao := aok_of (rk r hr).preds ((rk r hr).body t ht)
    exact hs _ (ao.pf (rk r hr).five hx 0) (show lv M t.atom.pred ≤ s by omega)
  constructor
  · unfold holdsB
    rw [Bool.eq_iff_iff, List.all_eq_true, List.all_eq_true]
    have key : ∀ t ∈ r.body.xs, litOk f x t = litOk g x t := fun t ht => by unfold litOk isF; rw [hlit t ht]
    exact ⟨fun h t ht => (key t ht) ▸ h t ht, fun h t ht => (key t ht).symm ▸ h t ht⟩
  · unfold headF headV
    by_cases h0 : 0 ≤ r.src
    · rw [if_pos h0, if_pos h0, hlit _ (litOf_mem ⟨h0, (rk r hr).src.2⟩)]
    · rw [if_neg h0, if_neg h0]
theorem steps_same {f g : List Fct} {s : Int} (hs : SameLv M (· ≤ s) f g) {r : Rul} (hr : r ∈ p.rules.xs) (hl : lv M r.head.pred ≤ s) (n : Int) : ∀ x, x ∈ stepsF f n r → x ∈ stepsF g n r := fun x hx => by
  unfold stepsF at *
  obtain ⟨v, hv, e⟩ := List.mem_map.1 hx
  obtain ⟨h1, h2⟩ := List.mem_filter.1 hv
  refine List.mem_map.2 ⟨v, List.mem_filter.2 ⟨h1, ?_⟩, e⟩
  rw [← (holds_same rk hM hs hr hl (mem_vecs.1 h1)).1]
  exact h2
theorem told_same {f g : List Fct} {s : Int} (hs : SameLv M (· ≤ s) f g) : ∀ t, t ∈ toldL p.preds.xs f p.rules.xs (ofQ p M s) → t ∈ toldL p.preds.xs g p.rules.xs (ofQ p M s) := fun t ht => by
  obtain ⟨n, r, hr, hq, hst, he⟩ := mem_told.1 ht
  have hrm := List.mem_of_getElem? hr
  have hl := (ofQ_iff hr).1 hq
  refine mem_told.2 ⟨n, r, hr, hq, steps_same rk hM hs hrm (Int.le_of_eq hl) n _ hst, ?_⟩
  rw [he]
  exact (holds_same rk hM hs hrm (Int.le_of_eq hl) (steps_holds hst).2.1).2
theorem turn_still {f g : List Fct} {s : Int} (okf : FOk p.preds.xs f) (okg : FOk p.preds.xs g) (hs : SameLv M (· ≤ s) f g) (h : (turnT p M s f).2 = false) : (turnT p M s g).2 = false := by
  unfold turnT at *
  rw [turn_no okf (told_fine rk okf)] at h
  rw [turn_no okg (told_fine rk okg)]
  intro t ht
  have ht' := told_same rk hM (same_symm hs) t ht
  have h1 := h t ht'
  have hfine := told_fine rk okf t ht'
  rw [underF_iff] at h1 ⊢
  intro z hz
  obtain ⟨v, k1, k2⟩ := h1 z hz
  rw [List.mem_singleton.1 hz] at k1 k2 ⊢
  exact ⟨v, by rw [← hs _ (fine_pf okf.len hfine) (Int.le_of_eq (told_lv t ht'))]; exact k1, k2⟩
/-- A fact that is told. -/
def TldF (p : Prg) (f : List Fct) (y : Fct) : Prop := ∃ (n : Nat) (r : Rul) (x : Vrs), p.rules.xs[n]? = some r ∧ VsOk x ∧ stdOk r x = true ∧ holdsB f r x = true ∧ placeF (headF p.preds.xs f r x) = placeF y
structure MJ (p : Prg) (M : List Int) (k : Nat) (f : List Fct) : Prop where
  fok : FOk p.preds.xs f
  still : ∀ s : Nat, s < k → (turnT p M s f).2 = false
  lev : ∀ y ∈ f, lv M y.pred ≤ k
  told : ∀ y ∈ f, TldF p f y
theorem mj_next {k : Nat} {f : List Fct} (j : MJ p M k f) : MJ p M k (turnT p M k f).1 := by
  have tf := told_fine (q := ofQ p M k) rk j.fok
  have tl := told_lv (p := p) (M := M) (f := f) (s := k)
  have hu : underF p.preds.xs f (turnT p M k f).1 = true := turn_above j.fok tf
  have okg : FOk p.preds.xs (turnT p M k f).1 := turn_fok j.fok tf
  have hoff : SameLv M (· ≠ (k : Int)) f (turnT p M k f).1 := fun y hy hl => (run_off hy hl _ (f, false) j.fok tf tl).symm
  have hlt : SameLv M (· < (k : Int)) f (turnT p M k f).1 := fun y hy hl => hoff y hy (Int.ne_of_lt hl)
  have hold : ∀ y, TldF p f y → lv M y.pred ≤ k → PF y → TldF p (turnT p M k f).1 y := fun y ⟨n, r, x, h1, h2, h3, h4, h5⟩ hl hy => by
    have hrm := List.mem_of_getElem? h1
    have hp1 : (headF p.preds.xs f r x).pred = y.pred := ((fine_pf j.fok.len (headF_fine (rk r hrm) j.fok h2 h4)).inj hy h5).1
    exact ⟨n, r, x, h1, h2, h3, holds_next rk hM hu hlt hrm (by rw [show r.head.pred = y.pred from hp1]; exact hl) h2 h4, h5⟩
  have hmem : ∀ y ∈ (turnT p M k f).1, lv M y.pred ≤ k ∧ TldF p (turnT p M k f).1 y := fun y hy => by
    have hyf := fine_pf okg.len (okg.fine y hy)
    rcases run_mem _ (f, false) hy with ⟨z, hz, e⟩ | ⟨t, ht, e⟩
    · have hzp : z.pred = y.pred := ((fine_pf j.fok.len (j.fok.fine z hz)).inj hyf e).1
      have hl := j.lev z hz
      obtain ⟨n, r, x, h1, h2, h3, h4, h5⟩ := hold z (j.told z hz) hl (fine_pf j.fok.len (j.fok.fine z hz))
      exact ⟨hzp ▸ hl, n, r, x, h1, h2, h3, h4, h5.trans e⟩
    · have htp : t.2.pred = y.pred := ((fine_pf j.fok.len (tf t ht)).inj hyf e).1
      have hl := tl t ht
      obtain ⟨n, r, hr, hq, hs, he⟩ := mem_told.1 ht
      unfold stepsF at hs
      obtain ⟨v, hv, ev⟩ := List.mem_map.1 hs
      obtain ⟨v1, v2⟩ := List.mem_filter.1 hv
      rw [Bool.and_eq_true] at v2
      have hvv : t.1.vars = v := by rw [← ev]
      rw [hvv] at he
      obtain ⟨n', r', x', h1, h2, h3, h4, h5⟩ := hold t.2 ⟨n, r, v, hr, mem_vecs.1 v1, v2.1, v2.2, by rw [he]⟩ (Int.le_of_eq hl) (fine_pf j.fok.len (tf t ht))
      exact ⟨by rw [← htp]; exact Int.le_of_eq hl, n', r', x', h1, h2, h3, h4, h5.trans e⟩
  refine ⟨okg, fun s hs => ?_, fun y hy => (hmem y hy).1, fun y hy => (hmem y hy).2⟩
  exact turn_still rk hM j.fok okg (fun y hy hl => hoff y hy (by omega)) (j.still s hs)
theorem modK_mj (h0 : FOk p.preds.xs []) : ∀ {k : Nat} {f : List Fct} {rs : List Int}, ModK p M k f rs → MJ p M k f
  | 0, f, _, ⟨h, _⟩ => by subst h; exact ⟨h0, fun s hs => by omega, fun y hy => by simp at hy, fun y hy => by simp at hy⟩
  | k + 1, f, _, ⟨f0, r0, n, a, b, _⟩ => by
    have j := modK_mj h0 a
    have j2 : MJ p M k f := b.inv (J := MJ p M k) j fun g hg _ => mj_next rk hM hg
    refine ⟨j2.fok, fun s hs => ?_, fun y hy => by have := j2.lev y hy; omega, j2.told⟩
    rcases Nat.lt_succ_iff_lt_or_eq.1 hs with h | rfl
    · exact j2.still s h
    · exact b.end_
end
/-! ### In whatever order -/
end Go.TF
end
section
/- The laws of a round, the other two: each returns true. -/
namespace Go.TF
open Go Go.RowKit Go.Proofs
set_option maxRecDepth 20000

def sumN (L : List Int) : Nat := (L.map Int.toNat).sum
theorem sum_min : ∀ (L M : List Int), L.length = M.length → (∀ x ∈ L, 0 ≤ x) → (∀ x ∈ M, 0 ≤ x) → sumN (List.zipWith min L M) ≤ sumN L ∧ (sumN (List.zipWith min L M) = sumN L → ∀ (j : Nat) (h1 : j < L.length) (h2 : j < M.length), L[j] ≤ M[j])
  | [], _, _, _, _ => ⟨by simp [sumN], fun _ j h1 => by simp at h1⟩
  | _ :: _, [], h, _, _ => by simp at h
  | a :: L, b :: M, h, hp, hp2 => by
    obtain ⟨i1, i2⟩ := sum_min L M (by simpa using h) (fun x hx => hp x (List.mem_cons_of_mem _ hx)) fun x hx => hp2 x (List.mem_cons_of_mem _ hx)
    have hb := hp2 b List.mem_cons_self
    have ha := hp a List.mem_cons_self
    have e1 : sumN (List.zipWith min (a :: L) (b :: M)) = (min a b).toNat + sumN (List.zipWith min L M) := by simp [sumN]
    have e2 : sumN (a :: L) = a.toNat + sumN L := by simp [sumN]
    rw [e1, e2]
    refine ⟨by omega, fun e j h1 h2 => ?_⟩
    cases j with
    | zero => show a ≤ b; omega
    | succ j => exact i2 (by omega) j (by simpa using h1) (by simpa using h2)
theorem least_ex {cs : List (Int × Ltl)} {n : Nat} {M0 : List Int} (h0 : Sol cs n M0) : ∃ L, Least cs n L := by
  have hmin : ∀ k : Nat, ∀ L, Sol cs n L → sumN L = k → ∃ L, Sol cs n L ∧ ∀ M, Sol cs n M → sumN L ≤ sumN M := by
    intro k
    induction k using Nat.strongRecOn with
    | ind k ih =>
      intro L hL hk
      by_cases hx : ∃ M, Sol cs n M ∧ sumN M < k
      · obtain ⟨M, hM, hlt⟩ := hx
        exact ih _ hlt M hM rfl
      · refine ⟨L, hL, fun M hM => ?_⟩
        rcases Nat.lt_or_ge (sumN M) k with h | h
        · exact absurd ⟨M, hM, h⟩ hx
        · omega
  obtain ⟨L, hL, hm⟩ := hmin _ M0 h0 rfl
  refine ⟨L, hL, fun M hM i => ?_⟩
  have hlv : ∀ i, lv (List.zipWith min L M) i = min (lv L i) (lv M i) := fun i => by
    simp only [lv, List.getD_eq_getElem?_getD, List.getElem?_zipWith]
    by_cases hi : i.toNat < n
    · rw [List.getElem?_eq_getElem (by rw [hL.len]; exact hi), List.getElem?_eq_getElem (by rw [hM.len]; exact hi)]; rfl
    · rw [List.getElem?_eq_none (by rw [hL.len]; omega), List.getElem?_eq_none (by rw [hM.len]; omega)]; rfl
  have hS : Sol cs n (List.zipWith min L M) := by
    refine ⟨by rw [List.length_zipWith, hL.len, hM.len, Nat.min_self], fun i => ?_, fun c hc => ?_⟩
    · rw [hlv]; have := hL.pos i; have := hM.pos i; omega
    · have h1 := hL.sat c hc
      have h2 := hM.sat c hc
      unfold SatC lst at *
      rw [hlv, hlv]; omega
  have hnn : ∀ K, Sol cs n K → ∀ x ∈ K, 0 ≤ x := fun K hK x hx => by
    obtain ⟨j, hj, rfl⟩ := List.getElem_of_mem hx
    have := hK.pos j
    rw [lv_get hj] at this; exact this
  obtain ⟨s1, s2⟩ := sum_min L M (hL.len.trans hM.len.symm) (hnn L hL) (hnn M hM)
  have := s2 (Nat.le_antisymm s1 (hm _ hS))
  by_cases hi : i.toNat < n
  · simp only [lv, List.getD_eq_getElem?_getD]
    rw [List.getElem?_eq_getElem (by rw [hL.len]; exact hi), List.getElem?_eq_getElem (by rw [hM.len]; exact hi)]
    exact this _ _ _
  · simp only [lv, List.getD_eq_getElem?_getD]
    rw [List.getElem?_eq_none (by rw [hL.len]; omega), List.getElem?_eq_none (by rw [hM.len]; omega)]; exact Int.le_refl _
theorem strataM_least {p : Prg} (h : checkProg p = 0) : Least (usesL p.rules.xs) p.preds.xs.length (strataM p) := by
  obtain ⟨_, _, _, M, hM⟩ := checkProg_ok h
  obtain ⟨L, hL⟩ := least_ex hM
  rw [strataM_eq hL]; exact hL
theorem least_lt {cs : List (Int × Ltl)} {n : Nat} {L : List Int} (hr : InR cs n) (h : Least cs n L) {i : Int} (h0 : 0 ≤ i) (h1 : i < n) : lv L i < n := by
  obtain ⟨M', hM', hlt⟩ := h.sol.small hr
  exact Int.lt_of_le_of_lt (h.least M' hM' i) (hlt i h0 h1)
end Go.TF
end
section
/- A program of some of another's rules: right too, no stratum greater; what is needed follows alike: plain. -/
namespace Go.TF
open Go

theorem chk_preds {p : Prg} (h : checkProg p = 0) : ∀ x ∈ p.preds.xs, predFine x = true := by
  unfold checkProg at h
  split at h
  · cases h
  split at h
  · cases h
  split at h
  · cases h
  split at h
  · cases h
  split at h
  · cases h
  rename_i h1 h2 h3 h4 h5
  intro x hx
  have a : badArity x ≠ true := fun e => h4 (List.any_eq_true.2 ⟨x, hx, e⟩)
  have b : badKind x ≠ true := fun e => h5 (List.any_eq_true.2 ⟨x, hx, e⟩)
  simp only [badArity, badKind, ne_eq, decide_eq_true_eq, not_or, Int.not_lt] at a b
  simp only [predFine, decide_eq_true_eq]
  omega
theorem chk_nil {p : Prg} (h : checkProg p = 0) : FOk p.preds.xs [] := fok_nil (checkProg_ok h).1 (chk_preds h)
theorem chk_rok {p : Prg} (h : checkProg p = 0) : ∀ r ∈ p.rules.xs, ROk p.preds.xs r := rules_rok h (chk_nil h)
theorem sol_sub {rs rs' : List Rul} {n : Nat} {K : List Int} (hR : ∀ r, r ∈ rs' → r ∈ rs) (h : Sol (usesL rs) n K) : Sol (usesL rs') n K := ⟨h.len, h.pos, fun c hc => by
  unfold usesL at hc
  obtain ⟨r, hr, hc⟩ := List.mem_flatMap.1 hc
  obtain ⟨x, hx, rfl⟩ := List.mem_map.1 hc
  exact h.sat _ (mem_uses (hR r hr) hx)⟩
theorem checkProg_sub {p q : Prg} (hp : q.preds.xs = p.preds.xs) (hl : q.rules.xs.length ≤ 8) (hR : ∀ r, r ∈ q.rules.xs → r ∈ p.rules.xs) (h : checkProg p = 0) : checkProg q = 0 := by
  obtain ⟨k1, k2, k3, M, hM⟩ := checkProg_ok h
  have k3' : rulesErr p.preds.xs q.rules.xs = 0 := rulesErr_zero.2 fun r hr => rulesErr_zero.1 k3 r (hR r hr)
  unfold checkProg at h ⊢
  rw [hp]
  split at h
  · cases h
  rw [if_neg (by omega)]
  split at h
  · cases h
  rename_i g2
  rw [if_neg g2]
  split at h
  · cases h
  rename_i g3
  rw [if_neg g3]
  split at h
  · cases h
  rename_i g4
  rw [if_neg g4]
  split at h
  · cases h
  rename_i g5
  rw [if_neg g5, if_neg (by rw [k3']; exact fun h => h rfl), if_pos ⟨M, sol_sub hR hM⟩]
/-- No stratum is greater. -/
theorem strata_sub {p q : Prg} (hp : q.preds.xs = p.preds.xs) (hR : ∀ r, r ∈ q.rules.xs → r ∈ p.rules.xs) (h : checkProg p = 0) (h2 : checkProg q = 0) (i : Int) : lv (strataM q) i ≤ lv (strataM p) i :=
  (strataM_least h2).least _ (by rw [hp]; exact sol_sub hR (strataM_least h).sol) i
theorem most_sub {K M : List Int} (hl : K.length = M.length) (h : ∀ i, lv K i ≤ lv M i) : mostL K ≤ mostL M := by
  rcases mostL_of K with e | e
  · rw [e]; exact mostL_ge M
  · obtain ⟨j, hj, e⟩ := List.getElem_of_mem e
    have h1 := h j
    rw [lv_get hj, lv_get (hl ▸ hj), e] at h1
    exact Int.le_trans h1 (mostL_mem (List.getElem_mem _))
/-! ### Only what is needed -/
section
variable {l : List Prd} {N : List Bool}
def nd (N : List Bool) (x : Fct) : Bool := bv N x.pred
theorem addF_front {k : Int} {x : Fct} : ∀ {g : List Fct}, (∀ z ∈ g, placeF x < placeF z) → (addF k g x).1 = x :: g
  | [], _ => rfl
  | z :: g, h => by
    have := h z List.mem_cons_self
    rw [addF, if_neg (by omega), if_pos this]
theorem nd_add {k : Int} {x : Fct} : ∀ {f : List Fct}, SrtF f → (∀ y ∈ f, placeF y = placeF x → y.pred = x.pred) → (addF k f x).1.filter (nd N) = if nd N x = true then (addF k (f.filter (nd N)) x).1 else f.filter (nd N)
  | [], _, _ => by
    rw [addF]
    cases h : nd N x <;> simp [h, addF]
  | y :: r, hs, hx => by
    obtain ⟨s1, s2⟩ := List.pairwise_cons.1 hs
    have ih := nd_add (k := k) (x := x) s2 fun z hz => hx z (List.mem_cons_of_mem _ hz)
    rw [addF]
    split
    · rename_i e
      have hp := hx y List.mem_cons_self e
      have hy : nd N y = nd N x := by unfold nd; rw [hp]
      have hy2 : nd N (⟨y.pred, y.a, y.b, joinV k y.v x.v⟩ : Fct) = nd N x := hy
      cases h : nd N x
      · simp [hy, hy2, h]
      · rw [List.filter_cons, if_pos (by rw [hy2, h]), if_pos rfl, List.filter_cons, if_pos (by rw [hy, h]), addF, if_pos e]
    · rename_i e
      split
      · rename_i e2
        cases h : nd N x
        · simp [h]
        · rw [List.filter_cons, if_pos h, if_pos rfl, addF_front]
          intro z hz
          obtain ⟨hz, _⟩ := List.mem_filter.1 hz
          rcases List.mem_cons.1 hz with rfl | hz
          · exact e2
          · exact Int.lt_trans e2 (s1 z hz)
      · rename_i e2
        show (y :: (addF k r x).1).filter _ = _
        rw [List.filter_cons, ih]
        cases h : nd N x
        · simp only [Bool.false_eq_true, if_false]
          rw [List.filter_cons]
        · simp only [if_true]
          cases hy : nd N y
          · simp [hy]
          · rw [if_pos rfl, List.filter_cons, if_pos hy, addF, if_neg e, if_neg e2]
theorem nd_fok {f : List Fct} (h : FOk l f) : FOk l (f.filter (nd N)) := ⟨h.len, h.preds, fun x hx => h.fine x (List.mem_filter.1 hx).1, h.srt.sublist List.filter_sublist⟩
theorem nd_look {f : List Fct} (h : FOk l f) {y : Fct} (hy : PF y) (hn : nd N y = true) : lkF (f.filter (nd N)) (placeF y) = lkF f (placeF y) := by
  have ho := nd_fok (N := N) h
  cases hl : lkF f (placeF y) with
  | none =>
    refine lkF_none.2 fun z hz => lkF_none.1 hl z (List.mem_filter.1 hz).1
  | some v =>
    obtain ⟨z, hz, e, ev⟩ := lkF_mem hl
    refine (lkF_some ho.srt).2 ⟨z, List.mem_filter.2 ⟨hz, ?_⟩, e, ev⟩
    have := ((fine_pf h.len (h.fine z hz)).inj hy e).1
    unfold nd at hn ⊢
    rw [this]; exact hn
theorem nd_run : ∀ (ts : List (Stp × Fct)) (s : List Fct × Bool), FOk l s.1 → (∀ t ∈ ts, factFine l t.2 = true) → ∀ b, (runL l s ts).1.filter (nd N) = (runL l (s.1.filter (nd N), b) (ts.filter fun t => nd N t.2)).1
  | [], s, _, _, b => rfl
  | t :: ts, s, hs, hf, b => by
    have hx := hf t List.mem_cons_self
    have ih := nd_run ts (putS l s t.2) (addF_fok hs hx) fun u hu => hf u (List.mem_cons_of_mem _ hu)
    have hadd := nd_add (N := N) (k := (predOf l t.2.pred).kind) (x := t.2) hs.srt fun y hy e => same_pred hs.len (hs.fine y hy) hx e
    show (runL l (putS l s t.2) ts).1.filter _ = _
    cases h : nd N t.2
    · rw [List.filter_cons, if_neg (by rw [h]; decide), ih b]
      rw [h] at hadd
      rw [show (putS l s t.2).1.filter (nd N) = s.1.filter (nd N) from hadd]
    · rw [List.filter_cons, if_pos h]
      rw [h] at hadd
      show _ = (runL l (putS l (s.1.filter (nd N), b) t.2) _).1
      rw [ih (putS l (s.1.filter (nd N), b) t.2).2]
      rw [show (putS l s t.2).1.filter (nd N) = (putS l (s.1.filter (nd N), b) t.2).1 from hadd]
end
structure Only (p q : Prg) (N : List Bool) : Prop where
  preds : q.preds.xs = p.preds.xs
  rules : ∀ r, r ∈ q.rules.xs ↔ r ∈ p.rules.xs ∧ bv N r.head.pred = true
  cp : checkProg p = 0
  cq : checkProg q = 0
  closed : ClosedN (usesL p.rules.xs) N
section
variable {p q : Prg} {N : List Bool} (o : Only p q N)
include o
theorem Only.sub : ∀ r, r ∈ q.rules.xs → r ∈ p.rules.xs := fun r hr => ((o.rules r).1 hr).1
theorem Only.body {r : Rul} (hr : r ∈ p.rules.xs) (hn : bv N r.head.pred = true) {x : Ltl} (hx : x ∈ r.body.xs) : bv N x.atom.pred = true := o.closed _ (mem_uses hr hx) hn
theorem Only.lv {i : Int} (hn : bv N i = true) : lv (strataM q) i = lv (strataM p) i := by
  have hle := strata_sub o.preds o.sub o.cp o.cq
  refine Int.le_antisymm (hle i) ?_
  have hLp := strataM_least o.cp
  have hLq := strataM_least o.cq
  rw [o.preds] at hLq
  have hcomb : ∃ L : List Int, L.length = p.preds.xs.length ∧ ∀ i, Go.TF.lv L i = if bv N i = true then Go.TF.lv (strataM q) i else Go.TF.lv (strataM p) i := by
    refine ⟨(List.range p.preds.xs.length).map fun (j : Nat) => if bv N j = true then Go.TF.lv (strataM q) j else Go.TF.lv (strataM p) j, by simp, fun i => ?_⟩
    have hbv : bv N i = bv N (i.toNat : Int) := rfl
    have hlq : Go.TF.lv (strataM q) i = Go.TF.lv (strataM q) (i.toNat : Int) := rfl
    have hlp : Go.TF.lv (strataM p) i = Go.TF.lv (strataM p) (i.toNat : Int) := rfl
    rw [hbv, hlq, hlp]
    show (List.map _ _).getD i.toNat 0 = _
    generalize i.toNat = j
    by_cases hi : j < p.preds.xs.length
    · rw [List.getD_eq_getElem?_getD, List.getElem?_map, List.getElem?_range hi]; rfl
    · have e1 : Go.TF.lv (strataM q) (j : Int) = 0 := by unfold Go.TF.lv; rw [List.getD_eq_getElem?_getD, List.getElem?_eq_none (by rw [hLq.sol.len, Int.toNat_natCast]; omega)]; rfl
      have e2 : Go.TF.lv (strataM p) (j : Int) = 0 := by unfold Go.TF.lv; rw [List.getD_eq_getElem?_getD, List.getElem?_eq_none (by rw [hLp.sol.len, Int.toNat_natCast]; omega)]; rfl
      rw [e1, e2, List.getD_eq_getElem?_getD, List.getElem?_eq_none (by rw [List.length_map, List.length_range]; omega)]
      split <;> rfl
  obtain ⟨L, h1, h2⟩ := hcomb
  have hS : Sol (usesL p.rules.xs) p.preds.xs.length L := by
    refine ⟨h1, fun i => ?_, fun c hc => ?_⟩
    · rw [h2]; split
      · exact hLq.sol.pos i
      · exact hLp.sol.pos i
    · unfold usesL at hc
      obtain ⟨r, hr, hc⟩ := List.mem_flatMap.1 hc
      obtain ⟨x, hx, rfl⟩ := List.mem_map.1 hc
      unfold SatC lst
      dsimp only
      rw [h2, h2]
      by_cases hn : bv N r.head.pred = true
      · rw [if_pos hn, if_pos (o.body hr hn hx)]
        exact hLq.sol.sat _ (mem_uses ((o.rules r).2 ⟨hr, hn⟩) hx)
      · rw [if_neg hn]
        have h3 := hLp.sol.sat _ (mem_uses hr hx)
        unfold SatC lst at h3
        dsimp only at h3
        split
        · have := hle x.atom.pred; omega
        · exact h3
  have := hLp.least L hS i
  rw [h2, if_pos hn] at this
  exact this
theorem Only.hold {f : List Fct} (okf : FOk p.preds.xs f) {r : Rul} (hr : r ∈ p.rules.xs) (hn : bv N r.head.pred = true) {x : Vrs} (hx : VsOk x) : holdsB (f.filter (nd N)) r x = holdsB f r x ∧ headF p.preds.xs (f.filter (nd N)) r x = headF p.preds.xs f r x := by
  have rk := chk_rok o.cp
  have hlit : ∀ t ∈ r.body.xs, lkF (f.filter (nd N)) (placeF (groundF t.atom x)) = lkF f (placeF (groundF t.atom x)) := fun t ht => by
    have ao := aok_of (rk r hr).preds ((rk r hr).body t ht)
    exact nd_look okf (ao.pf (rk r hr).five hx 0) (o.body hr hn ht)
  constructor
  · unfold holdsB
    rw [Bool.eq_iff_iff, List.all_eq_true, List.all_eq_true]
    have key : ∀ t ∈ r.body.xs, litOk (f.filter (nd N)) x t = litOk f x t := fun t ht => by unfold litOk isF; rw [hlit t ht]
    exact ⟨fun h t ht => (key t ht) ▸ h t ht, fun h t ht => (key t ht).symm ▸ h t ht⟩
  · unfold headF headV
    by_cases h0 : 0 ≤ r.src
    · rw [if_pos h0, if_pos h0, hlit _ (litOf_mem ⟨h0, (rk r hr).src.2⟩)]
    · rw [if_neg h0, if_neg h0]
theorem Only.told {f : List Fct} (okf : FOk p.preds.xs f) (s : Int) (y : Fct) : (∃ t ∈ toldL q.preds.xs (f.filter (nd N)) q.rules.xs (ofQ q (strataM q) s), t.2 = y) ↔ ∃ t ∈ toldL p.preds.xs f p.rules.xs (ofQ p (strataM p) s), t.2 = y ∧ nd N y = true := by
  constructor
  · rintro ⟨t, ht, rfl⟩
    obtain ⟨n, r, hr, hq, hs, he⟩ := mem_told.1 ht
    obtain ⟨hrp, hn⟩ := (o.rules r).1 (List.mem_of_getElem? hr)
    obtain ⟨m, hm, em⟩ := List.getElem_of_mem hrp
    have hm' : p.rules.xs[m]? = some r := by rw [List.getElem?_eq_getElem hm, em]
    have hlv := (ofQ_iff hr).1 hq
    rw [o.lv hn] at hlv
    unfold stepsF at hs
    obtain ⟨v, hv, ev⟩ := List.mem_map.1 hs
    obtain ⟨v1, v2⟩ := List.mem_filter.1 hv
    have hh := o.hold okf hrp hn (mem_vecs.1 v1)
    have hvv : t.1.vars = v := by rw [← ev]
    refine ⟨(⟨(m : Int), v⟩, t.2), mem_told.2 ⟨m, r, hm', (ofQ_iff hm').2 hlv, ?_, ?_⟩, rfl, ?_⟩
    · unfold stepsF; exact List.mem_map.2 ⟨v, List.mem_filter.2 ⟨v1, by rw [← hh.1]; exact v2⟩, rfl⟩
    · rw [he, hvv, o.preds]; exact hh.2
    · rw [he]; exact hn
  · rintro ⟨t, ht, rfl, hn⟩
    obtain ⟨n, r, hr, hq, hs, he⟩ := mem_told.1 ht
    have hrp := List.mem_of_getElem? hr
    have hn : bv N r.head.pred = true := by rw [he] at hn; exact hn
    obtain ⟨m, hm, em⟩ := List.getElem_of_mem ((o.rules r).2 ⟨hrp, hn⟩)
    have hm' : q.rules.xs[m]? = some r := by rw [List.getElem?_eq_getElem hm, em]
    have hlv := (ofQ_iff hr).1 hq
    rw [← o.lv hn] at hlv
    unfold stepsF at hs
    obtain ⟨v, hv, ev⟩ := List.mem_map.1 hs
    obtain ⟨v1, v2⟩ := List.mem_filter.1 hv
    have hh := o.hold okf hrp hn (mem_vecs.1 v1)
    have hvv : t.1.vars = v := by rw [← ev]
    refine ⟨(⟨(m : Int), v⟩, t.2), mem_told.2 ⟨m, r, hm', (ofQ_iff hm').2 hlv, ?_, ?_⟩, rfl⟩
    · unfold stepsF; exact List.mem_map.2 ⟨v, List.mem_filter.2 ⟨v1, by rw [hh.1]; exact v2⟩, rfl⟩
    · rw [he, hvv, o.preds]; exact hh.2.symm
theorem Only.turn {f : List Fct} (okf : FOk p.preds.xs f) (s : Int) : (turnT q (strataM q) s (f.filter (nd N))).1 = (turnT p (strataM p) s f).1.filter (nd N) := by
  have rk := chk_rok o.cp
  have rkq := chk_rok o.cq
  rw [o.preds] at rkq
  have okF := nd_fok (N := N) okf
  have tp := told_fine (q := ofQ p (strataM p) s) rk okf
  have tq : ∀ t ∈ toldL q.preds.xs (f.filter (nd N)) q.rules.xs (ofQ q (strataM q) s), factFine p.preds.xs t.2 = true := by rw [o.preds]; exact told_fine rkq okF
  have e := nd_run (N := N) _ (f, false) okf tp false
  show (runL q.preds.xs (f.filter (nd N), false) _).1 = (runL p.preds.xs (f, false) _).1.filter (nd N)
  rw [e]
  have t2 : ∀ t ∈ (toldL p.preds.xs f p.rules.xs (ofQ p (strataM p) s)).filter (fun t => nd N t.2), factFine p.preds.xs t.2 = true := fun t ht => tp t (List.mem_filter.1 ht).1
  have r1 := run_up _ (f.filter (nd N), false) okF tq
  have r2 := run_up _ (f.filter (nd N), false) okF t2
  have hpq : runL q.preds.xs = runL p.preds.xs := by rw [o.preds]
  rw [hpq]
  refine under_anti r1.fok r2.fok (run_least r2.fok _ (f.filter (nd N), false) okF tq r2.up fun t ht => ?_) (run_least r1.fok _ (f.filter (nd N), false) okF t2 r1.up fun t ht => ?_)
  · obtain ⟨u, hu, e1, e2⟩ := (o.told okf s t.2).1 ⟨t, ht, rfl⟩
    rw [← e1]
    exact r2.each u (List.mem_filter.2 ⟨hu, by rw [e1]; exact e2⟩)
  · obtain ⟨h1, h2⟩ := List.mem_filter.1 ht
    obtain ⟨u, hu, e1⟩ := (o.told okf s t.2).2 ⟨t, h1, rfl, h2⟩
    rw [← e1]
    exact r1.each u hu
theorem Only.clo {s : Int} {f r : List Fct} {n : Nat} (h : Clo (turnT p (strataM p) s) f r n) : FOk p.preds.xs f → ∃ m, Clo (turnT q (strataM q) s) (f.filter (nd N)) (r.filter (nd N)) m := by
  have rk := chk_rok o.cp
  have rkq := chk_rok o.cq
  have chg : ∀ g, FOk p.preds.xs g → (turnT q (strataM q) s (g.filter (nd N))).2 = decide ((turnT q (strataM q) s (g.filter (nd N))).1 ≠ g.filter (nd N)) := fun g okg => turn_chg (by rw [o.preds]; exact nd_fok okg) (told_fine rkq (by rw [o.preds]; exact nd_fok okg))
  induction h with
  | @stop f h =>
    intro okf
    refine ⟨0, .stop ?_⟩
    rw [chg f okf, o.turn okf]
    have h1 : (turnT p (strataM p) s f).2 = decide ((turnT p (strataM p) s f).1 ≠ f) := turn_chg okf (told_fine rk okf)
    rw [h] at h1
    have h2 := of_decide_eq_false h1.symm
    rw [Decidable.not_not.1 h2]
    exact decide_eq_false fun hh => hh rfl
  | @step f r n h c ih =>
    intro okf
    obtain ⟨m, cm⟩ := ih (turn_fok okf (told_fine rk okf))
    rw [← o.turn okf] at cm
    cases hc : (turnT q (strataM q) s (f.filter (nd N))).2
    · have h1 := chg f okf
      rw [hc] at h1
      have h2 := Decidable.not_not.1 (of_decide_eq_false h1.symm)
      rw [h2] at cm
      exact ⟨m, cm⟩
    · exact ⟨m + 1, .step hc cm⟩
theorem Only.mod : ∀ {k : Nat} {f : List Fct} {rs : List Int}, ModK p (strataM p) k f rs → ∃ rs', ModK q (strataM q) k (f.filter (nd N)) rs'
  | 0, f, rs, ⟨h, _⟩ => ⟨[], by rw [h]; rfl, rfl⟩
  | k + 1, f, rs, ⟨f0, r0, n, a, b, _⟩ => by
    have j := modK_mj (chk_rok o.cp) (strataM_least o.cp).sol (chk_nil o.cp) a
    obtain ⟨rs', m⟩ := Only.mod a
    obtain ⟨n', c⟩ := o.clo b j.fok
    exact ⟨_, _, _, _, m, c, rfl⟩
theorem Only.most : numS (strataM q) ≤ numS (strataM p) := by
  have := most_sub (K := strataM q) (M := strataM p) (by rw [(strataM_least o.cq).sol.len, (strataM_least o.cp).sol.len, o.preds]) (strata_sub o.preds o.sub o.cp o.cq)
  unfold numS; omega
theorem Only.model {f g : List Fct} {rs rs' : List Int} (m : ModK p (strataM p) (numS (strataM p)) f rs) (m2 : ModK q (strataM q) (numS (strataM q)) g rs') : g = f.filter (nd N) := by
  obtain ⟨rs2, h⟩ := o.mod m
  have hLq := strataM_least o.cq
  have key : ∀ (d k : Nat), k = numS (strataM q) + d → ∀ {f rs}, ModK q (strataM q) k f rs → ∃ rs', ModK q (strataM q) (numS (strataM q)) f rs' := by
    intro d
    induction d with
    | zero => intro k hk f rs h; rw [hk] at h; exact ⟨rs, h⟩
    | succ d ih =>
      intro k hk f rs h
      rw [show k = (numS (strataM q) + d) + 1 by omega] at h
      obtain ⟨f0, r0, n, a, b, _⟩ := h
      have hno : ∀ g, (turnT q (strataM q) ((numS (strataM q) + d : Nat) : Int) g).2 = false := fun g => by
        have : toldL q.preds.xs g q.rules.xs (ofQ q (strataM q) ((numS (strataM q) + d : Nat) : Int)) = [] := by
          refine List.eq_nil_iff_forall_not_mem.2 fun t ht => ?_
          obtain ⟨n, r, hr, hq, _, _⟩ := mem_told.1 ht
          have e := (ofQ_iff hr).1 hq
          obtain ⟨_, _, k3, _, _⟩ := checkProg_ok o.cq
          obtain ⟨i0, i1⟩ := heads_in k3 r (List.mem_of_getElem? hr)
          have hlt : r.head.pred.toNat < (strataM q).length := by rw [hLq.sol.len]; omega
          have e2 := lv_get hlt
          rw [Int.toNat_of_nonneg i0] at e2
          have := mostL_mem (List.getElem_mem hlt)
          have := mostL_ge (strataM q)
          rw [e2] at e
          unfold numS at e
          omega
        unfold turnT
        rw [this]; rfl
      cases b with
      | stop _ => exact ih _ rfl a
      | step h2 _ => rw [hno] at h2; cases h2
  have hm := o.most
  obtain ⟨rs3, h3⟩ := key (numS (strataM p) - numS (strataM q)) _ (by omega) h
  exact ((h3.uniq m2).1)
end
end Go.TF
end
section
/- What fits an atom: plain. -/
namespace Go.TF
open Go

def xv (x : Fct) (k : Nat) : Int := if k = 1 then x.b else x.a
def bndK (ts : List Trm) (x : Fct) : Nat → Int → Option Int
  | 0, _ => none
  | k + 1, n => if (ts.getD k default).var = true ∧ (ts.getD k default).n = n then some (xv x k) else bndK ts x k n
def oneK (ts : List Trm) (x : Fct) (k : Nat) : Bool := if (ts.getD k default).var = true then decide ((bndK ts x k (ts.getD k default).n).getD (xv x k) = xv x k) else decide ((ts.getD k default).n = xv x k)
def fitK (ts : List Trm) (x : Fct) : Nat → Bool
  | 0 => true
  | k + 1 => fitK ts x k && oneK ts x k
def fitB (a : Atm) (x : Fct) : Bool := decide (a.pred = x.pred) && fitK a.args.xs x a.args.xs.length
theorem fitK_no {ts : List Trm} {x : Fct} {k : Nat} (h : oneK ts x k = false) : ∀ {n : Nat}, k < n → fitK ts x n = false
  | 0, hn => by omega
  | n + 1, hn => by
    rw [fitK]
    rcases Nat.lt_succ_iff_lt_or_eq.1 hn with hn | rfl
    · rw [fitK_no h hn, Bool.false_and]
    · rw [h, Bool.and_false]
theorem oneK_con {ts : List Trm} {x : Fct} {k : Nat} {t : Trm} (ht : ts.getD k default = t) (hv : t.var = false) : oneK ts x k = decide (t.n = xv x k) ∧ ∀ n, bndK ts x (k + 1) n = bndK ts x k n := by
  unfold oneK
  rw [ht, if_neg (by rw [hv]; decide)]
  exact ⟨rfl, fun n => by rw [bndK, ht, if_neg (fun h => by rw [hv] at h; cases h.1)]⟩
theorem oneK_var {ts : List Trm} {x : Fct} {k : Nat} {t : Trm} (ht : ts.getD k default = t) (hv : t.var = true) : oneK ts x k = decide ((bndK ts x k t.n).getD (xv x k) = xv x k) ∧ ∀ n, bndK ts x (k + 1) n = if n = t.n then some (xv x k) else bndK ts x k n := by
  unfold oneK
  rw [ht, if_pos hv]
  refine ⟨rfl, fun n => ?_⟩
  rw [bndK, ht]
  by_cases h : n = t.n
  · rw [if_pos h, if_pos ⟨hv, h.symm⟩]
  · rw [if_neg h, if_neg (fun h2 => h h2.2.symm)]
theorem fitB_no {a : Atm} {x : Fct} {k : Nat} (hk : k < a.args.xs.length) (h : oneK a.args.xs x k = false) : fitB a x = false := by unfold fitB; rw [fitK_no h hk, Bool.and_false]
noncomputable def matchOf (p : Prg) (f : List Fct) (a : Atm) : List Fct × Int := if askR p f ≠ 0 then ([], askR p f) else if checkAtom p.preds.xs a ≠ 0 then ([], checkAtom p.preds.xs a) else (f.filter (fitB a), 0)
def varsN (n : Nat) : List Trm := (List.range n).map fun (i : Nat) => ⟨true, i⟩
theorem fit_vars {x : Fct} {n : Nat} (hn : n ≤ 2) : fitK (varsN n) x n = true := by
  have : n = 0 ∨ n = 1 ∨ n = 2 := by omega
  rcases this with rfl | rfl | rfl <;> simp [varsN, List.range, List.range.loop, fitK, oneK, bndK]
theorem fit_con {x : Fct} {n : Nat} {c : Int} (h0 : 0 < n) (hn : n ≤ 2) : fitK ((varsN n).set 0 ⟨false, c⟩) x n = decide (c = x.a) := by
  have : n = 1 ∨ n = 2 := by omega
  rcases this with rfl | rfl <;> simp [varsN, List.range, List.range.loop, fitK, oneK, bndK, xv]
theorem under_filter {l : List Prd} {f : List Fct} (okf : FOk l f) (q : Fct → Bool) : FOk l (f.filter q) ∧ underF l (f.filter q) f = true :=
  ⟨⟨okf.len, okf.preds, fun x hx => okf.fine x (List.mem_filter.1 hx).1, okf.srt.sublist List.filter_sublist⟩, under_sing.2 fun y hy => under_sing.1 (under_refl okf) y (List.mem_filter.1 hy).1⟩
end Go.TF
end
section
/- What is owned read by a call as if known for good; boxes taken back; elements of an owned slice. -/
namespace Go.TF
open Go Go.RowKit Go.Proofs

section
variable {P : Program} {e : Env} {w : World} {B : Base} {h : Heap} {M : List SA} {t : TypeId} {pos : String} {af : Array Edge} {g : Option (Nat × Bool)} {d : Option Nat} {K : Value → World → Prop}
/-- A call that hands back a value and nothing else may be looked at from any knowledge. -/
theorem O.callvH {hb : Heap} {f : FuncId} {args : Array Operand} {ts : Array TypeId} {vs : List Value} {r : Value} (I : Inv B h M w) (hf : Enters P f) (hfn : Fn P f vs ⟨w, hb⟩ (fun v _ => v = r))
    (ha : args.toList.map (ev e) = vs) (k : ∀ w', Inv B h M w' → K r w') : Op1 P ⟨d, .call { callee := .value (.func f), args := args, argTypes := ts }, t, pos, af, g⟩ e w K := by
  have ha' : args.map (ev e) = vs.toArray := by rw [← ha]; apply Array.ext'; simp
  have : (execOp (ev e) ⟨d, .call { callee := .value (.func f), args := args, argTypes := ts }, t, pos, af, g⟩).run P w = .ok (.enter f vs.toArray) w := by
    simp [execOp, resolve, ev, Deferred.ofValue, invoke, ha', hf]
  unfold Op1
  rw [this]
  refine Calls.mono hfn ?_
  rintro x w' ⟨v, h', rfl, X, rfl⟩
  exact k w' (I.grow X.below)
/-- A box goes to what is known for good, and may be taken back. -/
theorem Inv.lend {b : Nat} {cs : List Value} {T : TypeId} (I : Inv B h (box b cs T :: M) w) : ∃ h', h.le h' ∧ h' b = some (.cells cs.toArray T (0, 0)) ∧ Known h' b cs ∧ Inv B h' M w ∧ h b = none ∧ B.h b = none := by
  have hb := I.at 0 rfl
  have hn := ((I.own _ List.mem_cons_self).2 b (by simp [box])).2.2
  obtain ⟨h', hle, hfp, J⟩ := I.settle
  have : h' b = some (.cells cs.toArray T (0, 0)) := (hfp b (by simp [box])).trans hb
  refine ⟨h', hle, this, ⟨fun j v hv => ?_⟩, J, hn, ?_⟩
  · simp [Heap.cell, this, hv]
  · cases hh : B.h b with
    | none => rfl
    | some o => rw [I.ext b o hh] at hn; cases hn
theorem Inv.rdG {α : Type} {enc : α → List Value} {k T gg n cap : Nat} {zs : List α} (hk : ∀ x, (enc x).length = k) (I : Inv B h M w) (n0 : Nat) (hn : M[n0]? = some (ownSl T k (.slice (some ⟨gg, 0, none⟩) n cap) n (zs.flatMap enc))) {i o : Nat} {y : α} (hy : zs[i]? = some y) (ho : o = i * k) : Rd w gg o (enc y) := by
  subst ho
  intro j v hj
  have hp : w.ownsRow 0 T k (.slice (some ⟨gg, 0, none⟩) n cap) n (zs.flatMap enc) := I.at n0 hn
  have := hp.cells (g := gg) rfl (i * k + j) v (flat_get hk zs i j y v hy hj)
  rwa [addr_add, Nat.zero_add] at this
theorem flat_overG {α : Type} {enc : α → List Value} {k : Nat} (hk : ∀ x, (enc x).length = k) (zs : List α) (i : Nat) (y : α) (hi : i < zs.length) : over (zs.flatMap enc) (i * k) (enc y) = (zs.set i y).flatMap enc := by
  unfold over
  rw [flat_take hk, hk, show i * k + k = (i + 1) * k by rw [Nat.add_mul, Nat.one_mul], flat_drop hk, List.set_eq_take_append_cons_drop, if_pos hi, List.flatMap_append, List.flatMap_cons, List.append_assoc]
end
section
variable {P : Program} {N : Nat} {D : List Deferred} {e : Env} {w : World} {Q : Exit → Env → World → List Deferred → Prop}
theorem WPD.cond_decT {c : Operand} {x y : Code} {p : Prop} [Decidable p] (hc : ev e c = .bool (decide p)) (hp : p) (ht : WPD P N D x e w Q) : WPD P N D (.cond c x y) e w Q :=
  WPD.cond_dec hc (fun _ => ht) (fun h => (h hp).elim)
theorem WPD.cond_decF {c : Operand} {x y : Code} {p : Prop} [Decidable p] (hc : ev e c = .bool (decide p)) (hp : ¬p) (hf : WPD P N D y e w Q) : WPD P N D (.cond c x y) e w Q :=
  WPD.cond_dec hc (fun h => (hp h).elim) (fun _ => hf)
theorem WPD.regionF {id : Nat} {ops : Array Oper} {B : Base} {h : Heap} {M : List SA} (hm : Mixed P) (I : Inv B h M w) (m : Nat) (hB : flowB ops m = true)
    (k : OpsF P ops B M h [] (ops.toList.take m) e (fun L e' => ∀ h1 w1, h.le h1 → Inv B h1 M w1 → AllL (fun _ => true) h1 L e' fun e'' => Ops P ops (ops.toList.drop m) e'' w1 (fun e3 w3 => Q .normal e3 w3 D))) : WPD P N D (.region id ops true) e w Q := WPD.of (WP.regionF hm I m hB k)
theorem WPD.cutK {x : Code} {K : Env → World → List Deferred → Prop} {σ : Type} (kv : σ → List (Nat × Value)) (J : σ → World → Prop) (Df : σ → List Deferred)
    (hx : WPD P N D x e w (thenD (fun e' w' D' => ∃ s, Has e' (kv s) ∧ D' = Df s ∧ J s w') Q)) (hy : ∀ s e' w', J s w' → K (E e' (kv s)) w' (Df s)) : WPD P N D x e w (thenD K Q) := by
  refine hx.mono ?_
  intro x e' w' D' h
  cases x <;> first | exact h | skip
  obtain ⟨s, h1, rfl, h2⟩ := h
  have := hy s e' w' h2
  rwa [E_self h1] at this
end
theorem take_setG {α : Type} (zs : List α) (q : Nat) (y : α) : (zs.set q y).take q = zs.take q := by
  apply List.ext_getElem?
  intro j
  rw [List.getElem?_take, List.getElem?_take]
  split
  · rw [List.getElem?_set_ne (by omega)]
  · rfl
/-- What is not taken away. -/
def keepL {α : Type} (p : α → Bool) (xs : List α) : List α := xs.filter fun x => !p x
section
variable {α : Type} {p : α → Bool} {xs : List α}
theorem keepL_take {k : Nat} (hk : k < xs.length) : keepL p (xs.take (k + 1)) = keepL p (xs.take k) ++ if p xs[k] = true then [] else [xs[k]] := by
  unfold keepL
  rw [List.take_succ_eq_append_getElem hk, List.filter_append]
  cases h : p xs[k] <;> simp [h]
theorem keepL_all (h : ∀ x ∈ xs, p x = false) : keepL p xs = xs := List.filter_eq_self.2 fun x hx => by simp [h x hx]
theorem idxOf_cases (p : α → Bool) (xs : List α) : (idxOf p xs = -1 ∧ ∀ x ∈ xs, p x = false) ∨ ∃ k, ∃ hk : k < xs.length, idxOf p xs = (k : Int) ∧ p xs[k] = true ∧ keepL p (xs.take k) = xs.take k := by
  unfold idxOf
  cases h : xs.findIdx? p with
  | none =>
    rw [List.findIdx?_eq_none_iff] at h
    exact .inl ⟨rfl, h⟩
  | some i =>
    rw [List.findIdx?_eq_some_iff_getElem] at h
    obtain ⟨hi, hp, hj⟩ := h
    refine .inr ⟨i, hi, rfl, hp, keepL_all fun x hx => ?_⟩
    obtain ⟨j, hjl, rfl⟩ := List.getElem_of_mem hx
    rw [List.length_take] at hjl
    rw [List.getElem_take]
    have := hj j (by omega)
    simpa using this
end
end Go.TF
end
section
/- What fits an atom: the program's answer and the document's. -/
namespace Go.TF
open Go Go.RowKit Go.Proofs
set_option maxRecDepth 20000

section
variable {P : Program} {e : Env} {w : World} {B : Base} {h : Heap} {M : List SA} {t : TypeId} {pos : String} {af : Array Edge} {g : Option (Nat × Bool)} {d : Option Nat}
theorem Y.lookup2 {T Kt Vt : TypeId} {ik : IntKind} {b : Nat} {es : List (Int × Int)} {x y : Operand} {i : Int} (I : Inv B h M w) (hT : Und P T (.map Kt Vt)) (hK : Und P Kt (.int ik)) (hz : Zero P Vt (.int .i64 0)) (n : Nat) (hn : M[n]? = some (imap b es)) (hx : ev e x = .map (some b)) (hy : ev e y = .int .i64 i) :
    Y P ⟨d, .lookup T x y true, t, pos, af, g⟩ e w (.tuple #[.int .i64 ((ilook es i).getD 0), .bool (ilook es i).isSome]) := by
  obtain ⟨ents, clock, hm, h2⟩ := I.at n hn
  have hg : (getObj b).run P w = .ok (.map ents.toArray clock) w := getObj_run hm (by intro c t f h; cases h)
  have hck : ∀ em, (Instr.checkKey em 10000 Kt (.int .i64 i)).run P w = .ok () w := fun em => checkKey_int (n := 9999) hK
  cases hl : ilook es i with
  | none =>
    have hf := findNow_none (k := ik) ents es 0 h2.is hl
    simp [Y, execOp, hx, hy, Instr.lookup, run_underlying hT, hg, hck, Instr.findKey, run_underlying hK, hf, hz w]
  | some v =>
    obtain ⟨j, _, hf, _⟩ := findNow_some (k := ik) ents es 0 h2.is hl
    simp [Y, execOp, hx, hy, Instr.lookup, run_underlying hT, hg, hck, Instr.findKey, run_underlying hK, hf]
end
theorem ix2 {x : Fct} {k : Nat} (hk : k < 2) : (([.int .i64 x.a, .int .i64 x.b] : List Value).drop ((k : Int).toNat * 1)).take 1 = [.int .i64 (xv x k)] := by
  have : k = 0 ∨ k = 1 := by omega
  rcases this with rfl | rfl <;> rfl
set_option maxHeartbeats 4000000 in
theorem Fits_ok (B : Base) (hB : B.ok) (a : Atm) (ha : a.In B.h) (h2 : a.args.xs.length ≤ 2) (x : Fct) : Fn Tryz.prog 112 [a.val, x.val] B (fun v _ => v = .bool (fitB a x)) := by
  refine Fn.of Tryz.func112 rfl Tryz.ntmps112 (by kernel_rfl) (by simp) ?_
  intro e
  have I := Inv.start hB
  refine WP.seq ?_
  refine WP.region ?_
  refine Ops.go (O.box (v := .agg #[_, _]) I rfl rfl ?_)
  intro b2 w I
  refine Ops.go (O.box (v := .agg #[_, _, _, _]) I rfl rfl ?_)
  intro b3 w I
  refine Ops.y (v := .bool _) (Y.assign rfl) ?_
  refine Ops.nil ?_
  refine WP.seq ?_
  refine WP.seq ?_
  refine WP.region ?_
  refine Ops.y (v := .pointer (some ⟨_, _, none⟩)) (Y.fa0 fa_65_0 rfl) ?_
  refine Ops.y (v := .int .i64 _) (Y.loadv ty_3 rfl (I.rdbox 1 rfl 0 1) rfl rfl) ?_
  refine Ops.y (v := .pointer (some ⟨_, _, none⟩)) (Y.fa0 fa_52_0 rfl) ?_
  refine Ops.y (v := .int .i64 _) (Y.loadv ty_3 rfl (I.rdbox 0 rfl 0 1) rfl rfl) ?_
  refine Ops.y (v := .bool (decide _)) (Y.nei rfl rfl) ?_
  refine Ops.nil ?_
  refine WP.cond_dec rfl (fun h1 => ?_) (fun h1 => ?_)
  · refine WP.seq ?_
    refine WP.region ?_
    refine Ops.y (v := .bool _) (Y.assign rfl) ?_
    refine Ops.nil ?_
    refine WP.ret ?_
    repeat (first | refine thenE_ret ?_ | refine blockE_ret ?_)
    exact retQ.mk (vs := [.bool _]) rfl ⟨rfl, trivial⟩ I.ext_of (by unfold fitB; rw [decide_eq_false h1]; rfl)
  have h1 := Decidable.not_not.1 h1
  refine WP.skip ?_
  refine WP.seq ?_
  refine WP.region ?_
  refine Ops.go (O.mkmap I ?_)
  intro b16 w I
  refine Ops.y (v := .map _) (Y.assign rfl) ?_
  refine Ops.nil ?_
  refine WP.seq ?_
  refine WP.seq ?_
  refine WP.region ?_
  refine Ops.y (v := .pointer (some ⟨_, _, none⟩)) (Y.fa fa_65_1 rfl) ?_
  refine Ops.y (v := .slice _ _ _) (Y.loadv ty_63 rfl (I.rdbox 2 rfl 1 1) rfl rfl) ?_
  refine Ops.y (v := .int .i64 _) (Y.lens Tryz.underlying63 rfl) ?_
  refine Ops.y (v := .int .i64 _) (Y.move rfl) ?_
  refine Ops.nil ?_
  refine WP.block ?_
  refine WP.loopE (σ := Nat × List (Int × Int)) (fun s => [(2, .pointer (some ⟨b2, 0, none⟩)), (3, .pointer (some ⟨b3, 0, none⟩)), (5, .map (some b16)), (18, a.args.val), (19, .int .i64 a.args.xs.length), (20, .int .i64 s.1)])
    (fun s w => Inv B B.h [imap b16 s.2, box b3 x.enc 52, box b2 a.enc 65] w ∧ s.1 ≤ a.args.xs.length ∧ fitK a.args.xs x s.1 = true ∧ ∀ n, ilook s.2 n = bndK a.args.xs x s.1 n) (fun s => a.args.xs.length - s.1)
    ⟨(0, []), ⟨rfl, rfl, rfl, rfl, rfl, rfl, trivial⟩, I, Nat.zero_le _, rfl, fun _ => rfl⟩ ?_
  rintro ⟨k, es⟩ e w ⟨I, hk, hf, hes⟩
  dsimp only at I hk hf hes ⊢
  refine WP.seq ?_
  refine WP.region ?_
  refine Ops.y (v := .bool (decide _)) (Y.lti rfl rfl) ?_
  refine Ops.nil ?_
  refine WP.seq ?_
  refine WP.cond_dec rfl (fun h5 => ?_) (fun h5 => ?_)
  · have hk' : k < a.args.xs.length := by omega
    have hk2 : k < 2 := by omega
    have E := Sl.Is.at ha hk'
    obtain ⟨t, ht⟩ : ∃ t, a.args.xs[k] = t := ⟨_, rfl⟩
    have hgd : a.args.xs.getD k default = t := by rw [List.getD_eq_getElem?_getD, List.getElem?_eq_getElem hk', ht]; rfl
    rw [ht] at E
    refine WP.skip ?_
    refine WP.seq ?_
    refine WP.block ?_
    refine WP.seq ?_
    refine WP.region ?_
    refine Ops.y (v := .int .i64 _) (Y.move rfl) ?_
    refine Ops.y (v := .pointer (some ⟨_, _, none⟩)) (Y.idxEl E Tryz.underlying63 Tryz.sizeOf91 rfl rfl (Int.natCast_nonneg _) rfl) ?_
    refine Ops.y (v := .agg #[_, _]) (Y.loadv ty_91 rfl (I.rd (E.rd.part 0 2)) rfl rfl) ?_
    refine Ops.go (O.alloc I Tryz.zeroValue91 rfl ?_)
    intro b7 w I
    refine Ops.y (v := .int .i64 _) (Y.assign rfl) ?_
    refine Ops.go (O.store (v := .agg #[_, _]) I ty_91 0 rfl rfl rfl rfl rfl rfl (Nat.le_of_ble_eq_true rfl) rfl ?_)
    intro w I
    refine Ops.nil ?_
    refine WP.seq ?_
    refine WP.region ?_
    refine Ops.y (v := .pointer (some ⟨_, _, none⟩)) (Y.fa fa_52_1 rfl) ?_
    refine Ops.y (v := .int .i64 _) (Y.loadv ty_3 rfl (I.rdbox 2 rfl 1 1) rfl rfl) ?_
    refine Ops.y (v := .pointer (some ⟨_, _, none⟩)) (Y.fa fa_52_2 rfl) ?_
    refine Ops.y (v := .int .i64 _) (Y.loadv ty_3 rfl (I.rdbox 2 rfl 2 1) rfl rfl) ?_
    refine Ops.y (v := .agg #[.int .i64 _, .int .i64 _]) (Y.builda Tryz.underlying182 Tryz.zeroValue182 Tryz.sizeOf3 rfl rfl) ?_
    refine Ops.y (v := .int .i64 _) (Y.move rfl) ?_
    refine Ops.y (v := .int .i64 _) (Y.idxvv Tryz.underlying182 ty_3 rfl rfl (by omega) (by omega) (ix2 hk2) rfl rfl) ?_
    refine Ops.y (v := .int .i64 _) (Y.assign rfl) ?_
    refine Ops.nil ?_
    refine WP.seq ?_
    refine WP.seq ?_
    refine WP.region ?_
    refine Ops.y (v := .pointer (some ⟨_, _, none⟩)) (Y.fa0 fa_91_0 rfl) ?_
    refine Ops.y (v := .bool _) (Y.loadv ty_4 rfl (I.rdbox 0 rfl 0 1) rfl rfl) ?_
    refine Ops.y (v := .bool _) (Y.not rfl) ?_
    refine Ops.nil ?_
    refine WP.cond rfl (fun h8 => ?_) (fun h8 => ?_)
    · have hv : t.var = false := by simpa using h8
      obtain ⟨o1, o2⟩ := oneK_con (x := x) hgd hv
      refine WP.seq ?_
      refine WP.seq ?_
      refine WP.region ?_
      refine Ops.y (v := .pointer (some ⟨_, _, none⟩)) (Y.fa fa_91_1 rfl) ?_
      refine Ops.y (v := .int .i64 _) (Y.loadv ty_3 rfl (I.rdbox 0 rfl 1 1) rfl rfl) ?_
      refine Ops.y (v := .int .i64 _) (Y.move rfl) ?_
      refine Ops.y (v := .bool (decide _)) (Y.nei rfl rfl) ?_
      refine Ops.nil ?_
      refine WP.cond_dec rfl (fun h9 => ?_) (fun h9 => ?_)
      · refine WP.seq ?_
        refine WP.region ?_
        refine Ops.y (v := .bool _) (Y.assign rfl) ?_
        refine Ops.nil ?_
        refine WP.ret ?_
        repeat (first | refine thenE_ret ?_ | refine blockE_ret ?_)
        exact retQ.mk (vs := [.bool _]) rfl ⟨rfl, trivial⟩ I.ext_of (by rw [fitB_no hk' (o1.trans (decide_eq_false h9))]; rfl)
      have h9 := Decidable.not_not.1 h9
      refine WP.skip ?_
      refine WP.exit ?_
      refine WP.region ?_
      refine Ops.y (v := .int .i64 _) (Y.addi rfl rfl ⟨by omega, by omega⟩) ?_
      refine Ops.y (v := .int .i64 _) (Y.move rfl) ?_
      refine Ops.nil ?_
      exact ⟨(k + 1, es), ⟨⟨rfl, rfl, rfl, rfl, rfl, rfl, trivial⟩, I.drop, by dsimp only; omega, by rw [fitK, hf, o1, decide_eq_true h9]; rfl, fun n => by dsimp only; rw [hes, o2]⟩, by dsimp only; omega⟩
    have hv : t.var = true := by simpa using h8
    obtain ⟨o1, o2⟩ := oneK_var (x := x) hgd hv
    refine WP.skip ?_
    refine WP.seq ?_
    refine WP.seq ?_
    refine WP.region ?_
    refine Ops.y (v := .map _) (Y.move rfl) ?_
    refine Ops.y (v := .pointer (some ⟨_, _, none⟩)) (Y.fa fa_91_1 rfl) ?_
    refine Ops.y (v := .int .i64 _) (Y.loadv ty_3 rfl (I.rdbox 0 rfl 1 1) rfl rfl) ?_
    refine Ops.y (v := .tuple #[.int .i64 _, .bool _]) (Y.lookup2 I Tryz.underlying181 Tryz.underlying3 Tryz.zeroValue3 1 rfl rfl rfl) ?_
    refine Ops.y (v := .tuple #[_, _]) (Y.move rfl) ?_
    refine Ops.y (v := .int .i64 _) (Y.extract rfl rfl) ?_
    refine Ops.y (v := .bool _) (Y.extract rfl rfl) ?_
    refine Ops.y (v := .int .i64 _) (Y.assign rfl) ?_
    refine Ops.y (v := .bool _) (Y.assign rfl) ?_
    refine Ops.nil ?_
    have next : oneK a.args.xs x k = true → ∀ n, ilook (iset es t.n (xv x k)) n = bndK a.args.xs x (k + 1) n := fun _ n => by rw [ilook_iset, o2, hes]
    cases hb : bndK a.args.xs x k t.n with
    | none =>
      have ho : oneK a.args.xs x k = true := by rw [o1, hb]; exact decide_eq_true rfl
      refine WP.seq ?_
      refine WP.region ?_
      refine Ops.y (v := .bool _) (Y.move rfl) ?_
      refine Ops.y (v := .bool false) (Y.b (Y.move rfl) ((by rw [hes, hb]; rfl))) ?_
      refine Ops.gf rfl ?_
      refine Ops.gf rfl ?_
      refine Ops.gf rfl ?_
      refine Ops.y (v := .bool _) (Y.pick_f rfl rfl) ?_
      refine Ops.nil ?_
      refine WP.cond_f rfl ?_
      refine WP.skip ?_
      refine WP.region ?_
      refine Ops.y (v := .map _) (Y.move rfl) ?_
      refine Ops.y (v := .pointer (some ⟨_, _, none⟩)) (Y.fa fa_91_1 rfl) ?_
      refine Ops.y (v := .int .i64 _) (Y.loadv ty_3 rfl (I.rdbox 0 rfl 1 1) rfl rfl) ?_
      refine Ops.y (v := .int .i64 _) (Y.move rfl) ?_
      refine Ops.go (O.mapset I Tryz.underlying181 Tryz.underlying3 1 rfl rfl rfl rfl ?_)
      intro w I
      refine Ops.nil ?_
      refine WP.region ?_
      refine Ops.y (v := .int .i64 _) (Y.addi rfl rfl ⟨by omega, by omega⟩) ?_
      refine Ops.y (v := .int .i64 _) (Y.move rfl) ?_
      refine Ops.nil ?_
      exact ⟨(k + 1, iset es t.n (xv x k)), ⟨⟨rfl, rfl, rfl, rfl, rfl, rfl, trivial⟩, I.drop, by dsimp only; omega, by rw [fitK, hf, ho]; rfl, next ho⟩, by dsimp only; omega⟩
    | some v =>
      by_cases hvx : v = xv x k
      · have ho : oneK a.args.xs x k = true := by rw [o1, hb]; exact decide_eq_true hvx
        refine WP.seq ?_
        refine WP.region ?_
        refine Ops.y (v := .bool _) (Y.move rfl) ?_
        refine Ops.y (v := .bool true) (Y.b (Y.move rfl) ((by rw [hes, hb]; rfl))) ?_
        refine Ops.ygt rfl (v := .int .i64 _) (Y.move rfl) ?_
        refine Ops.ygt rfl (v := .int .i64 _) (Y.move rfl) ?_
        refine Ops.ygt rfl (v := .bool false) (Y.dec_f (Y.nei rfl rfl) ((by rw [hes, hb]; exact fun h => h hvx))) ?_
        refine Ops.y (v := .bool _) (Y.pick_t rfl rfl) ?_
        refine Ops.nil ?_
        refine WP.cond_f rfl ?_
        refine WP.skip ?_
        refine WP.region ?_
        refine Ops.y (v := .map _) (Y.move rfl) ?_
        refine Ops.y (v := .pointer (some ⟨_, _, none⟩)) (Y.fa fa_91_1 rfl) ?_
        refine Ops.y (v := .int .i64 _) (Y.loadv ty_3 rfl (I.rdbox 0 rfl 1 1) rfl rfl) ?_
        refine Ops.y (v := .int .i64 _) (Y.move rfl) ?_
        refine Ops.go (O.mapset I Tryz.underlying181 Tryz.underlying3 1 rfl rfl rfl rfl ?_)
        intro w I
        refine Ops.nil ?_
        refine WP.region ?_
        refine Ops.y (v := .int .i64 _) (Y.addi rfl rfl ⟨by omega, by omega⟩) ?_
        refine Ops.y (v := .int .i64 _) (Y.move rfl) ?_
        refine Ops.nil ?_
        exact ⟨(k + 1, iset es t.n (xv x k)), ⟨⟨rfl, rfl, rfl, rfl, rfl, rfl, trivial⟩, I.drop, by dsimp only; omega, by rw [fitK, hf, ho]; rfl, next ho⟩, by dsimp only; omega⟩
      · refine WP.seq ?_
        refine WP.region ?_
        refine Ops.y (v := .bool _) (Y.move rfl) ?_
        refine Ops.y (v := .bool true) (Y.b (Y.move rfl) ((by rw [hes, hb]; rfl))) ?_
        refine Ops.ygt rfl (v := .int .i64 _) (Y.move rfl) ?_
        refine Ops.ygt rfl (v := .int .i64 _) (Y.move rfl) ?_
        refine Ops.ygt rfl (v := .bool true) (Y.dec_t (Y.nei rfl rfl) ((by rw [hes, hb]; exact hvx))) ?_
        refine Ops.y (v := .bool _) (Y.pick_t rfl rfl) ?_
        refine Ops.nil ?_
        refine WP.cond_t rfl ?_
        refine WP.seq ?_
        refine WP.region ?_
        refine Ops.y (v := .bool _) (Y.assign rfl) ?_
        refine Ops.nil ?_
        refine WP.ret ?_
        repeat (first | refine thenE_ret ?_ | refine blockE_ret ?_)
        exact retQ.mk (vs := [.bool _]) rfl ⟨rfl, trivial⟩ I.ext_of (by rw [fitB_no hk' (by rw [o1, hb]; exact decide_eq_false hvx)]; rfl)
  obtain rfl : k = a.args.xs.length := by omega
  refine WP.exit ?_
  refine WP.seq ?_
  refine WP.region ?_
  refine Ops.y (v := .bool _) (Y.assign rfl) ?_
  refine Ops.nil ?_
  refine WP.ret ?_
  repeat (first | refine thenE_ret ?_ | refine blockE_ret ?_)
  exact retQ.mk (vs := [.bool _]) rfl ⟨rfl, trivial⟩ I.ext_of (by unfold fitB; rw [decide_eq_true h1, hf]; rfl)
end Go.TF
end
section
/- Naive: how many strata; rounds of each until none changes anything; and the document's. -/
namespace Go.TF
open Go Go.RowKit Go.Proofs
set_option maxRecDepth 20000

theorem mostL_take {L : List Int} {k : Nat} (hk : k < L.length) : mostL (L.take (k + 1)) = max (mostL (L.take k)) L[k] := by
  unfold mostL; rw [List.take_succ_eq_append_getElem hk, List.foldl_append]; rfl
theorem mostL_small {L : List Int} (h : ∀ x ∈ L, 0 ≤ x ∧ x ≤ 5) : mostL L ≤ 5 := by
  rcases mostL_of L with e | e
  · omega
  · exact (h _ e).2
theorem numS_eq (L : List Int) : ((numS L : Nat) : Int) = mostL L + 1 := by have := mostL_ge L; unfold numS; omega
theorem least_small {p : Prg} {L : List Int} (h : checkProg p = 0) (hL : Least (usesL p.rules.xs) p.preds.xs.length L) : ∀ x ∈ L, 0 ≤ x ∧ x ≤ 5 := fun x hx => by
  obtain ⟨k1, _, k3, _, _⟩ := checkProg_ok h
  obtain ⟨j, hj, rfl⟩ := List.getElem_of_mem hx
  have hl := hL.sol.len
  have h1 := hL.sol.pos j
  have h2 := least_lt (inR_of k3) hL (i := (j : Int)) (by omega) (by omega)
  rw [lv_get hj] at h1 h2
  omega
theorem NStrata_ok (B : Base) (hB : B.ok) (s : Sl Int) (hs : s.Is 1 iEnc B.h) (hb : ∀ x ∈ s.xs, 0 ≤ x ∧ x ≤ 5) : Fn Tryz.prog 62 [s.val] B (fun v _ => v = .int .i64 (numS s.xs : Nat)) := by
  have hsm := hs.small
  refine Fn.of Tryz.func62 rfl Tryz.ntmps62 (by kernel_rfl) (by simp) ?_
  intro e
  have I := Inv.start hB
  refine WP.seq ?_
  refine WP.region ?_
  refine Ops.y (v := .int .i64 _) (Y.assign rfl) ?_
  refine Ops.nil ?_
  refine WP.seq ?_
  refine WP.region ?_
  refine Ops.y (v := .int .i64 _) (Y.assign rfl) ?_
  refine Ops.nil ?_
  refine WP.seq ?_
  refine WP.seq ?_
  refine WP.region ?_
  refine Ops.y (v := .slice _ _ _) (Y.move rfl) ?_
  refine Ops.y (v := .int .i64 _) (Y.lens Tryz.underlying45 rfl) ?_
  refine Ops.y (v := .int .i64 _) (Y.move rfl) ?_
  refine Ops.nil ?_
  refine WP.block ?_
  refine WP.loopE (σ := Nat) (fun k => [(3, .int .i64 (mostL (s.xs.take k) + 1)), (6, s.val), (7, .int .i64 s.xs.length), (8, .int .i64 k)]) (fun k w => Inv B B.h [] w ∧ k ≤ s.xs.length) (fun k => s.xs.length - k)
    ⟨0, ⟨rfl, rfl, rfl, rfl, trivial⟩, I, Nat.zero_le _⟩ ?_
  rintro k e w ⟨I, hk⟩
  refine WP.seq ?_
  refine WP.region ?_
  refine Ops.y (v := .bool (decide _)) (Y.lti rfl rfl) ?_
  refine Ops.nil ?_
  refine WP.seq ?_
  refine WP.cond_dec rfl (fun h3 => ?_) (fun h3 => ?_)
  · have hk' : k < s.xs.length := by omega
    have E := hs.at hk'
    have hx := hb _ (List.getElem_mem hk')
    refine WP.skip ?_
    refine WP.seq ?_
    refine WP.block ?_
    refine WP.seq ?_
    refine WP.region ?_
    refine Ops.y (v := .pointer (some ⟨_, _, none⟩)) (Y.idxEl E Tryz.underlying45 Tryz.sizeOf3 rfl rfl (Int.natCast_nonneg _) rfl) ?_
    refine Ops.y (v := .int .i64 _) (Y.loadv ty_3 rfl (I.rd (E.rd.part 0 1)) rfl rfl) ?_
    refine Ops.y (v := .int .i64 _) (Y.assign rfl) ?_
    refine Ops.nil ?_
    refine WP.region ?_
    refine Ops.y (v := .int .i64 _) (Y.move rfl) ?_
    refine Ops.y (v := .int .i64 _) (Y.move rfl) ?_
    refine Ops.y (v := .int .i64 _) (Y.addi rfl rfl ⟨by omega, by omega⟩) ?_
    refine Ops.y (v := .int .i64 _) (Y.max2 rfl rfl) ?_
    refine Ops.y (v := .int .i64 _) (Y.assign rfl) ?_
    refine Ops.nil ?_
    refine WP.region ?_
    refine Ops.y (v := .int .i64 _) (Y.addi rfl rfl ⟨by omega, by omega⟩) ?_
    refine Ops.y (v := .int .i64 _) (Y.move rfl) ?_
    refine Ops.nil ?_
    exact ⟨k + 1, ⟨⟨congrArg (Value.int .i64) (by rw [mostL_take hk']; omega), rfl, rfl, rfl, trivial⟩, I, by omega⟩, by omega⟩
  obtain rfl : k = s.xs.length := by omega
  refine WP.exit ?_
  refine WP.seq ?_
  refine WP.region ?_
  refine Ops.y (v := .int .i64 _) (Y.move rfl) ?_
  refine Ops.y (v := .int .i64 _) (Y.assign rfl) ?_
  refine Ops.nil ?_
  refine WP.ret ?_
  repeat (first | refine thenE_ret ?_ | refine blockE_ret ?_)
  exact retQ.mk (vs := [.int .i64 _]) rfl ⟨rfl, trivial⟩ I.ext_of (by simp only [tup]; rw [List.take_length, numS_eq])
def RecP (p : Prg) (v : Value) (h : Heap) : Prop := ∃ (s : Sl Fct) (r : Sl Int), v = .tuple #[s.val, r.val] ∧ Fcts s h ∧ r.Is 1 iEnc h ∧ ModK p (strataM p) (numS (strataM p)) s.xs r.xs
def RecO (h0 : Heap) (p : Prg) (v : Value) (h : Heap) : Prop := ∃ (s : Sl Fct) (r : Sl Int), v = .tuple #[s.val, r.val] ∧ Fcts s h ∧ r.Is 1 iEnc h ∧ ModK p (strataM p) (numS (strataM p)) s.xs r.xs ∧ OwnH 52 4 s Fct.enc h0 h
theorem RecO.rec {h0 h : Heap} {p : Prg} {v : Value} (x : RecO h0 p v h) : RecP p v h := by obtain ⟨s, r, a, b, c, d, _⟩ := x; exact ⟨s, r, a, b, c, d⟩
theorem PutO.mono {h0 : Heap} {r : List Fct × Bool} : MonoS (PutO h0 r) := fun _ _ _ hl ⟨s, a, b, c, d⟩ => ⟨s, a, b, c.le hl, d.le hl⟩
def SlO (h0 : Heap) (xs : List Fct) : Sp := fun v h => ∃ s : Sl Fct, v = s.val ∧ s.xs = xs ∧ Fcts s h ∧ OwnH 52 4 s Fct.enc h0 h
theorem SlO.mono {h0 : Heap} {xs : List Fct} : MonoS (SlO h0 xs) := fun _ _ _ hl ⟨s, a, b, c, d⟩ => ⟨s, a, b, c.le hl, d.le hl⟩
theorem put_mid {a : List Int} {t : List Int} {x y : Int} {k : Nat} (h : a.length = k) : (a ++ x :: t).set k y = a ++ y :: t := by subst h; simp
theorem get_mid {a : List Int} {t : List Int} {x : Int} {k : Nat} (h : a.length = k) : (a ++ x :: t)[k]? = some x := by subst h; simp
set_option maxHeartbeats 4000000 in
theorem Reckon_own (B : Base) (hB : B.ok) (p : Prg) (hp : p.In B.h) (hpr : checkProg p = 0) : Fn Tryz.prog 86 [p.val] B (RecO B.h p) := by
  obtain ⟨k1, k2, k3, _, _⟩ := checkProg_ok hpr
  have rk := chk_rok hpr
  have ok0 := chk_nil hpr
  refine Fn.of Tryz.func86 rfl Tryz.ntmps86 (by kernel_rfl) (by simp) ?_
  intro e
  have I := Inv.start hB
  refine WP.seq ?_
  refine WP.region ?_
  refine Ops.go (O.box (v := .agg #[_, _]) I rfl rfl ?_)
  intro b1 w I
  refine Ops.y (v := .slice _ _ _) (Y.assign rfl) ?_
  refine Ops.y (v := .slice _ _ _) (Y.assign rfl) ?_
  refine Ops.nil ?_
  refine WP.seq ?_
  refine WP.region ?_
  refine Ops.y (v := .agg #[_, _]) (Y.loadv ty_25 rfl (I.rdbox 0 rfl 0 2) rfl rfl) ?_
  refine Ops.go (O.call I Tryz.call94 (Levels_ok _ I.base_ok p hp (inR_of k3) k1) rfl ?_)
  rintro v13 h1 w I le1 hL
  rcases hL with ⟨s, hS, hI, rfl⟩ | ⟨hno, rfl⟩
  rotate_left
  exact absurd (strataM_least hpr).sol (hno _)
  refine Ops.y (v := .tuple #[_, _]) (Y.move rfl) ?_
  refine Ops.y (v := .slice _ _ _) (Y.extract rfl rfl) ?_
  refine Ops.y (v := .bool _) (Y.extract rfl rfl) ?_
  refine Ops.y (v := .slice _ _ _) (Y.assign rfl) ?_
  refine Ops.y (v := .bool _) (Y.assign rfl) ?_
  refine Ops.nil ?_
  have hS : Least (usesL p.rules.xs) p.preds.xs.length s.xs := hS
  have eM := strataM_eq hS
  have hb5 := least_small hpr hS
  have hN5 := mostL_small hb5
  have hNe := numS_eq s.xs
  obtain ⟨N, hN⟩ : ∃ N, numS s.xs = N := ⟨_, rfl⟩
  refine WP.seq ?_
  refine WP.region ?_
  refine Ops.y (v := .slice _ _ _) (Y.assign rfl) ?_
  refine Ops.nil ?_
  refine WP.seq ?_
  refine WP.region ?_
  refine Ops.y (v := .slice _ _ _) (Y.move rfl) ?_
  refine Ops.go (O.callv I Tryz.call62 (hN ▸ NStrata_ok _ I.base_ok s hI hb5) rfl ?_)
  intro w I
  refine Ops.go (O.make1 (n := N) (zc := (vI 0)) I Tryz.underlying45 et_3 rfl rfl rfl (by omega) (by omega) ?_)
  intro b18 w I
  refine Ops.y (v := .slice _ _ _) (Y.assign rfl) ?_
  refine Ops.nil ?_
  rw [← List.map_replicate (f := vI)] at I
  refine WP.seq ?_
  refine WP.seq ?_
  refine WP.region ?_
  refine Ops.y (v := .slice _ _ _) (Y.move rfl) ?_
  refine Ops.y (v := .int .i64 _) (Y.lens Tryz.underlying45 rfl) ?_
  refine Ops.y (v := .int .i64 _) (Y.move rfl) ?_
  refine Ops.nil ?_
  refine WP.block ?_
  refine WP.loopE (σ := Nat × Sl Fct × List Int × Heap) (fun s' => [(1, .pointer (some ⟨b1, 0, none⟩)), (4, s.val), (6, s'.2.1.val), (7, .slice (some ⟨b18, 0, none⟩) N N), (20, .int .i64 N), (21, .int .i64 s'.1)])
    (fun s' w => Inv B s'.2.2.2 [box b18 ((s'.2.2.1 ++ List.replicate (N - s'.1) 0).map vI) 3, box b1 p.enc 25] w ∧ s'.1 ≤ N ∧ h1.le s'.2.2.2 ∧ ModK p s.xs s'.1 s'.2.1.xs s'.2.2.1 ∧ Fcts s'.2.1 s'.2.2.2 ∧ OwnH 52 4 s'.2.1 Fct.enc B.h s'.2.2.2) (fun s' => N - s'.1)
    ⟨(0, ⟨none, 0, []⟩, [], h1), ⟨rfl, rfl, rfl, rfl, rfl, rfl, trivial⟩, I, Nat.zero_le _, Heap.le.refl _, ⟨rfl, rfl⟩, fnil, .inl rfl⟩ ?_
  rintro ⟨k, f, r0, hh⟩ e w ⟨I, hk, gl, hm, hf, ho⟩
  dsimp only at I hk gl hm hf ho ⊢
  have hrl := hm.len
  refine WP.seq ?_
  refine WP.region ?_
  refine Ops.y (v := .bool (decide _)) (Y.lti rfl rfl) ?_
  refine Ops.nil ?_
  refine WP.seq ?_
  refine WP.cond_dec rfl (fun h5 => ?_) (fun h5 => ?_)
  · have hk' : k < N := by omega
    have j0 := modK_mj rk hS.sol ok0 hm
    refine WP.skip ?_
    refine WP.seq ?_
    refine WP.block ?_
    refine WP.seq ?_
    refine WP.region ?_
    refine Ops.y (v := .int .i64 _) (Y.move rfl) ?_
    refine Ops.y (v := .int .i64 _) (Y.assign rfl) ?_
    refine Ops.nil ?_
    rw [show N - k = (N - k - 1) + 1 by omega, List.replicate_succ] at I
    refine WP.block ?_
    refine WP.loopE (σ := Nat × Sl Fct × Heap) (fun s' => [(1, .pointer (some ⟨b1, 0, none⟩)), (4, s.val), (6, s'.2.1.val), (7, .slice (some ⟨b18, 0, none⟩) N N), (8, .int .i64 k), (20, .int .i64 N), (21, .int .i64 k)])
      (fun s' w => Inv B s'.2.2 [box b18 ((r0 ++ (s'.1 : Int) :: List.replicate (N - k - 1) 0).map vI) 3, box b1 p.enc 25] w ∧ h1.le s'.2.2 ∧ FOk p.preds.xs s'.2.1.xs ∧ CloB (turnT p s.xs k) f.xs s'.1 s'.2.1.xs ∧ Fcts s'.2.1 s'.2.2 ∧ s'.1 ≤ potF p.preds.xs s'.2.1.xs ∧ OwnH 52 4 s'.2.1 Fct.enc B.h s'.2.2) (fun s' => 2001 - potF p.preds.xs s'.2.1.xs)
      ⟨(0, f, hh), ⟨rfl, rfl, rfl, rfl, rfl, rfl, rfl, trivial⟩, I, gl, j0.fok, CloB.zero, hf, Nat.zero_le _, ho⟩ ?_
    rintro ⟨m, u, h2⟩ e w ⟨I, gl2, okf, cb, hu, hmp, hou⟩
    dsimp only at I gl2 okf cb hu hmp hou ⊢
    have hp2 := hp.le (le1.trans gl2)
    have hI2 := hI.le gl2
    have hpl := potF_le p.preds.xs u.xs
    have tf := told_fine (q := ofQ p s.xs k) rk okf
    obtain ⟨tr, htr⟩ : ∃ t, turnL p.preds.xs u.xs (toldL p.preds.xs u.xs p.rules.xs (ofQ p s.xs k)) = t := ⟨_, rfl⟩
    have htT : turnT p s.xs k u.xs = tr := htr
    refine WP.block ?_
    refine WP.seq ?_
    refine WP.regionF mixed I 12 (by kernel_rfl) ?_
    refine OpsF.y_ (v := .agg #[_, _]) (fun _ => runs_none _) (fun _ w us hl I => Y.loadv ty_25 rfl (I.rdbox 1 rfl 0 2) rfl rfl) ?_
    refine OpsF.y_ (v := .slice _ _ _) (fun _ => runs_none _) (fun _ w us hl I => Y.move rfl) ?_
    refine OpsF.y_ (v := .agg #[_, _]) (fun _ => runs_none _) (fun _ w us hl I => Y.loadv ty_25 rfl (I.rdbox 1 rfl 0 2) rfl rfl) ?_
    refine OpsF.y_ (v := .slice _ _ _) (fun _ => runs_none _) (fun _ w us hl I => Y.move rfl) ?_
    refine OpsF.y_ (v := .int .i64 _) (fun _ => runs_none _) (fun _ w us hl I => Y.move rfl) ?_
    refine OpsF.x_ (Φ := ROfS p s.xs k) ROfS.mono (fun _ => runs_none _) ?_ ?_
    · intro _ w hl I
      try unfold AllL
      refine O.call I Tryz.call65 (ROf_ok _ I.base_ok p s k) rfl ?_
      rintro _ h5 w I hl' ⟨b4, b3, b5, rfl, k4, k3', k5⟩
      exact ⟨_, hl', I, ⟨_, rfl, ROf1_ok p s k b4 b3 b5 k4 k3' k5 ((hp2.le hl).le hl') ((hI2.le hl).le hl') hS.sol.len (heads_in k3)⟩⟩
    refine OpsF.x_ (Φ := PutO B.h tr) PutO.mono (fun _ => runs_none _) ?_ ?_
    · intro _ w hl I u30 q30
      obtain ⟨cs, rfl, hoc⟩ := q30 rfl
      try unfold AllL
      refine O.call I Tryz.call95 (htr ▸ Turn_own _ I.base_ok p (hp2.le hl) hpr u (hu.le hl) okf 132 cs _ hoc) rfl ?_
      rintro _ h6 w I hl' ⟨s9, a9, b9, c9, d9⟩
      exact ⟨_, hl', I, ⟨s9, a9, b9, c9, d9.older (((le1.trans gl2).trans hl))⟩⟩
    refine OpsF.x_ (Φ := PutO B.h tr) PutO.mono (fun _ => runs_none _) ?_ ?_
    · intro _ w hl I u30 q30 u31 q31
      exact O.yx I (Y.move rfl) (q31 rfl)
    refine OpsF.x_ (Φ := SlO B.h tr.1) SlO.mono (fun _ => runs_none _) ?_ ?_
    · intro _ w hl I u30 q30 u31 q31 u24 q24
      obtain ⟨s6, rfl, e6, i6, o6⟩ := q24 rfl
      exact O.yx I (Y.extract rfl rfl) (⟨s6, rfl, e6, i6, o6⟩)
    refine OpsF.d_ (v := .bool tr.2) (fun _ => runs_none _) ?_ ?_
    · intro _ w hl I u30 q30 u31 q31 u24 q24 u32 q32
      obtain ⟨s6, rfl, e6, i6, o6⟩ := q24 rfl
      exact O.yd I (Y.extract rfl rfl) (rfl)
    refine OpsF.x_ (Φ := SlO B.h tr.1) SlO.mono (fun _ => runs_none _) ?_ ?_
    · intro _ w hl I u30 q30 u31 q31 u24 q24 u32 q32
      exact O.yx I (Y.assign rfl) (q32 rfl)
    refine OpsF.y_ (v := .bool _) (fun _ => runs_none _) (fun _ w us hl I => Y.assign rfl) ?_
    refine OpsF.nil ?_
    intro _ w hl I u30 q30 u31 q31 u24 q24 u32 q32 u9 q9
    refine Ops.nil ?_
    obtain ⟨s6, rfl, hs6, is6, os6⟩ := q9 rfl
    have hf6 : Fcts s6 _ := is6
    have okg : FOk p.preds.xs s6.xs := by rw [hs6, ← htr]; exact turn_fok okf tf
    refine WP.seq ?_
    refine WP.seq ?_
    refine WP.region ?_
    refine Ops.y (v := .bool _) (Y.move rfl) ?_
    refine Ops.y (v := .bool _) (Y.not rfl) ?_
    refine Ops.nil ?_
    refine WP.cond rfl (fun h8 => ?_) (fun h8 => ?_)
    · have h8 : tr.2 = false := by simpa using h8
      refine WP.exit ?_
      refine WP.region ?_
      refine Ops.y (v := .int .i64 _) (Y.addi rfl rfl ⟨by omega, by omega⟩) ?_
      refine Ops.y (v := .int .i64 _) (Y.move rfl) ?_
      refine Ops.nil ?_
      exact ⟨(k + 1, u, r0 ++ [(m : Int)], _), ⟨⟨rfl, rfl, rfl, rfl, rfl, rfl, trivial⟩, by rw [List.append_assoc, List.singleton_append, show N - (k + 1) = N - k - 1 by omega]; exact I, by dsimp only; omega, gl2.trans hl, ⟨f.xs, r0, m, hm, cb.done (by rw [htT]; exact h8), rfl⟩, hu.le hl, hou.le hl⟩, by dsimp only; omega⟩
    have h8 : tr.2 = true := by simpa using h8
    have hne : s6.xs ≠ u.xs := by
      have := turn_chg okf tf
      rw [htr, h8] at this
      rw [hs6]; exact of_decide_eq_true this.symm
    have hlt := potF_lt okf okg (by rw [hs6, ← htr]; exact turn_above okf tf) hne
    have hpl2 := potF_le p.preds.xs s6.xs
    refine WP.skip ?_
    refine WP.seq ?_
    refine WP.region ?_
    refine Ops.y (v := .slice _ _ _) (Y.move rfl) ?_
    refine Ops.y (v := .slice _ _ _) (Y.assign rfl) ?_
    refine Ops.nil ?_
    refine WP.region ?_
    refine Ops.y (v := .slice _ _ _) (Y.move rfl) ?_
    refine Ops.y (v := .int .i64 _) (Y.move rfl) ?_
    refine Ops.y (v := .pointer (some ⟨_, _, none⟩)) (Y.idx Tryz.underlying45 Tryz.sizeOf3 rfl rfl (by omega) (by omega)) ?_
    refine Ops.y (v := .int .i64 _) (Y.loadv ty_3 rfl (I.rdL 0 rfl (by omega) (get_mid hrl)) rfl rfl) ?_
    refine Ops.y (v := .int .i64 _) (Y.addi rfl rfl ⟨by omega, by omega⟩) ?_
    refine Ops.y (v := .pointer (some ⟨_, _, none⟩)) (Y.idx Tryz.underlying45 Tryz.sizeOf3 rfl rfl (by omega) (by omega)) ?_
    refine Ops.go (O.store1 I ty_3 0 rfl rfl (i := k) (v := (m : Int) + 1) (by omega) (by simp; omega) rfl rfl rfl ?_)
    intro w I
    refine Ops.nil ?_
    rw [put_mid hrl] at I
    exact ⟨(m + 1, s6, _), ⟨⟨rfl, rfl, rfl, rfl, rfl, rfl, rfl, trivial⟩, I, gl2.trans hl, okg, by have := cb.next (by rw [htT]; exact h8); rw [htT, ← hs6] at this; exact this, is6, by dsimp only; omega, os6⟩, by dsimp only; omega⟩
  obtain rfl : k = N := by omega
  rw [Nat.sub_self, List.replicate_zero, List.append_nil] at I
  have hbo := I.at 0 rfl
  obtain ⟨h4, le4, hb4, I⟩ := (I.front 0 rfl).settle
  refine WP.exit ?_
  refine WP.seq ?_
  refine WP.region ?_
  refine Ops.y (v := .slice _ _ _) (Y.move rfl) ?_
  refine Ops.y (v := .slice _ _ _) (Y.move rfl) ?_
  refine Ops.y (v := .slice _ _ _) (Y.assign rfl) ?_
  refine Ops.y (v := .slice _ _ _) (Y.assign rfl) ?_
  refine Ops.nil ?_
  refine WP.ret ?_
  repeat (first | refine thenE_ret ?_ | refine blockE_ret ?_)
  exact retQ.mk (vs := [.slice _ _ _, .slice _ _ _]) rfl ⟨rfl, rfl, trivial⟩ I.ext_of (⟨f, ⟨some ⟨b18, 0, none⟩, k, r0⟩, by simp only [tup, Sl.val, hrl], hf.le le4, boxIs ((hb4 b18 (by simp [box])).trans hbo) (by rw [hrl]; omega), by rw [eM, hN]; exact hm, ho.le le4⟩)
def MofP (p : Prg) (v : Value) (h : Heap) : Prop := ∃ (s : Sl Fct) (rs : List Int), v = s.val ∧ Fcts s h ∧ ModK p (strataM p) (numS (strataM p)) s.xs rs
def RofP (p : Prg) (v : Value) (h : Heap) : Prop := ∃ (r : Sl Int) (f : List Fct), v = r.val ∧ r.Is 1 iEnc h ∧ ModK p (strataM p) (numS (strataM p)) f r.xs
theorem MofP.mono {p : Prg} : MonoS (MofP p) := fun _ _ _ hl ⟨s, r, a, b, c⟩ => ⟨s, r, a, b.le hl, c⟩
theorem RofP.mono {p : Prg} : MonoS (RofP p) := fun _ _ _ hl ⟨s, r, a, b, c⟩ => ⟨s, r, a, b.le hl, c⟩
end Go.TF
end
section
/- slices.IndexFunc, ContainsFunc at rules and literals. -/
namespace Go.TF
open Go Go.RowKit Go.Proofs
set_option maxRecDepth 10000
theorem IndexFuncRul_ok (B : Base) (hB : B.ok) (l : Sl Rul) (hl : l.Is 5 Rul.enc B.h) (f : FuncId) (ent : Enters Tryz.prog f) (fs cs : List Value) (p : Rul → Bool) (hp : PredFn Tryz.prog f fs cs B.h Rul.val l.xs p) :
    Fn Tryz.prog 162 [l.val, .func (.func f) fs.toArray cs.toArray] B (fun v _ => v = .int .i64 (idxOf p l.xs)) := by
  refine Fn.of Tryz.func162 rfl Tryz.ntmps162 (by kernel_rfl) (by simp) ?_
  intro e
  have I := Inv.start hB
  refine WP.seq ?_
  refine WP.region ?_
  refine Ops.y (v := .int .i64 _) (Y.assign rfl) ?_
  refine Ops.nil ?_
  refine WP.seq ?_
  refine WP.seq ?_
  refine WP.region ?_
  refine Ops.y (v := .slice _ _ _) (Y.move rfl) ?_
  refine Ops.y (v := .int .i64 _) (Y.lens Tryz.underlying23 rfl) ?_
  refine Ops.y (v := .int .i64 _) (Y.move rfl) ?_
  refine Ops.nil ?_
  refine WP.block ?_
  refine WP.loopE (σ := Nat) (fun k => [(0, l.val), (1, .func (.func f) fs.toArray cs.toArray), (7, .int .i64 l.xs.length), (8, .int .i64 k)]) (fun k w => Inv B B.h [] w ∧ k ≤ l.xs.length ∧ ∀ j (hj : j < k) (hj' : j < l.xs.length), p l.xs[j] = false) (fun k => l.xs.length - k)
    ⟨0, ⟨rfl, rfl, rfl, rfl, trivial⟩, I, Nat.zero_le _, fun j hj => (by omega)⟩ ?_
  rintro k e w ⟨I, hk, hn⟩
  have hsm := hl.small
  refine WP.seq ?_
  refine WP.region ?_
  refine Ops.y (v := .bool (decide _)) (Y.lti rfl rfl) ?_
  refine Ops.nil ?_
  refine WP.seq ?_
  refine WP.cond_dec rfl (fun h => ?_) (fun h => ?_)
  · have hk' : k < l.xs.length := by omega
    have E1 := hl.at hk'
    refine WP.skip ?_
    refine WP.seq ?_
    refine WP.block ?_
    refine WP.seq ?_
    refine WP.region ?_
    refine Ops.y (v := .int .i64 _) (Y.move rfl) ?_
    refine Ops.y (v := .int .i64 _) (Y.assign rfl) ?_
    refine Ops.nil ?_
    refine WP.seq ?_
    refine WP.region ?_
    refine Ops.y (v := .func _ _ _) (Y.move rfl) ?_
    refine Ops.y (v := .slice _ _ _) (Y.move rfl) ?_
    refine Ops.y (v := .int .i64 _) (Y.move rfl) ?_
    refine Ops.y (v := .pointer (some ⟨_, _, none⟩)) (Y.idxEl E1 Tryz.underlying23 Tryz.sizeOf68 rfl rfl (Int.natCast_nonneg _) rfl) ?_
    refine Ops.y (v := .agg #[_, _, _, _, _]) (Y.loadv ty_68 rfl (I.rd (E1.rd.part 0 5)) rfl rfl) ?_
    refine Ops.go (O.callcv I ent rfl (hp ⟨w, B.h⟩ I.base_ok (Heap.le.refl _) l.xs[k] (List.getElem_mem hk')) rfl ?_)
    intro w I
    refine Ops.nil ?_
    refine WP.cond rfl (fun hb => ?_) (fun hb => ?_)
    · refine WP.seq ?_
      refine WP.region ?_
      refine Ops.y (v := .int .i64 _) (Y.move rfl) ?_
      refine Ops.y (v := .int .i64 _) (Y.assign rfl) ?_
      refine Ops.nil ?_
      refine WP.ret ?_
      repeat (first | refine thenE_ret ?_ | refine blockE_ret ?_)
      exact retQ.mk (vs := [.int .i64 _]) rfl ⟨rfl, trivial⟩ I.ext_of (by simp only [tup]; rw [idxOf_some hk' (fun j hj => hn j hj (by omega)) hb])
    refine WP.skip ?_
    refine WP.region ?_
    refine Ops.y (v := .int .i64 _) (Y.addi rfl rfl ⟨by omega, by omega⟩) ?_
    refine Ops.y (v := .int .i64 _) (Y.move rfl) ?_
    refine Ops.nil ?_
    exact ⟨k + 1, ⟨⟨rfl, rfl, rfl, rfl, trivial⟩, I, by omega, fun j hj hj' => by
      rcases Nat.lt_succ_iff_lt_or_eq.1 hj with h' | h'
      · exact hn j h' hj'
      · subst h'; exact hb⟩, by omega⟩
  refine WP.exit ?_
  refine WP.seq ?_
  refine WP.region ?_
  refine Ops.y (v := .int .i64 _) (Y.assign rfl) ?_
  refine Ops.nil ?_
  refine WP.ret ?_
  repeat (first | refine thenE_ret ?_ | refine blockE_ret ?_)
  exact retQ.mk (vs := [.int .i64 _]) rfl ⟨rfl, trivial⟩ I.ext_of (by simp only [tup]; rw [idxOf_none]; intro x hx; obtain ⟨j, hj, rfl⟩ := List.getElem_of_mem hx; exact hn j (by omega) hj)
end Go.TF
end
section
/- slices.DeleteFunc at this program's types, of a slice of the call's own. -/
namespace Go.TF
open Go Go.RowKit Go.Proofs
set_option maxRecDepth 20000

theorem Fct_len (x : Fct) : x.enc.length = 4 := rfl
set_option maxHeartbeats 8000000 in
theorem DeleteFct_ok {B : Base} {h : Heap} {M : List SA} {w : World} {a : Option Addr} {c m : Nat} {xs : List Fct} (I : Inv B h (ownSl 52 4 (.slice a m c) m (xs.flatMap Fct.enc) :: M) w) (hm : m = xs.length) (hsz : m ≤ 1000000000)
    (f : FuncId) (ent : Enters Tryz.prog f) (fs cs : List Value) (p : Fct → Bool) (hp : PredFn Tryz.prog f fs cs h Fct.val xs p) :
    Calls Tryz.prog 68 [.slice a m c, .func (.func f) fs.toArray cs.toArray].toArray w
      (fun ed w' => ∃ v m', ed = .returned v ∧ m' = (keepL p xs).length ∧ Inv B h (ownSl 52 4 v m' ((keepL p xs).flatMap Fct.enc) :: M) w') := by
  obtain ⟨hv, s, hle, hsv, hsx, hin, Iv⟩ := I.settleSl Fct_len hm
  have hi := IndexFuncFct_ok ⟨w, hv⟩ Iv.base_ok s ⟨hin, by rw [hsx]; omega⟩ f ent fs cs p (by rw [hsx]; exact fun B' ok hl x hx => hp B' ok (hle.trans hl) x hx)
  rw [hsv, hsx] at hi
  rcases idxOf_cases p xs with ⟨hx, hno⟩ | ⟨k0, hk0, hx, hpk, hkt⟩
  · rw [hx] at hi
    refine Calls.ofWP (args := [.slice a m c, .func (.func f) fs.toArray cs.toArray]) Tryz.func68 rfl Tryz.ntmps68 (by kernel_rfl) (by simp) ?_
    intro e
    refine WP.seq ?_
    refine WP.region ?_
    refine Ops.y (v := .slice _ _ _) (Y.assign rfl) ?_
    refine Ops.nil ?_
    refine WP.seq ?_
    refine WP.region ?_
    refine Ops.y (v := .slice _ _ _) (Y.move rfl) ?_
    refine Ops.y (v := .func _ _ _) (Y.move rfl) ?_
    refine Ops.go (O.callvH I Tryz.call138 (hi) rfl ?_)
    intro w I
    refine Ops.y (v := .int .i64 _) (Y.assign rfl) ?_
    refine Ops.nil ?_
    refine WP.seq ?_
    refine WP.seq ?_
    refine WP.region ?_
    refine Ops.y (v := .int .i64 _) (Y.move rfl) ?_
    refine Ops.y (v := .bool (decide _)) (Y.eqi rfl rfl) ?_
    refine Ops.nil ?_
    refine WP.cond_decT rfl (rfl) ?_
    refine WP.seq ?_
    refine WP.region ?_
    refine Ops.y (v := .slice _ _ _) (Y.move rfl) ?_
    refine Ops.y (v := .slice _ _ _) (Y.assign rfl) ?_
    refine Ops.nil ?_
    refine WP.ret ?_
    repeat (first | refine thenE_ret ?_ | refine blockE_ret ?_)
    exact ⟨.inl rfl, [.slice a m c], ⟨rfl, trivial⟩, _, m, rfl, by rw [keepL_all hno]; exact hm, by rw [keepL_all hno]; exact I⟩
  rw [hx] at hi
  rcases (I.at 0 rfl).2 with ⟨h0, hn⟩ | ⟨gg, cap, cur, he, _, hg, hnc, hcm, _⟩
  · injection h0 with e1 e2 e3; omega
  injection he with e1 e2 e3
  subst e1; subst e3
  simp only [maxLen] at hcm
  refine Calls.ofWP (args := [.slice (some ⟨gg, 0, none⟩) m c, .func (.func f) fs.toArray cs.toArray]) Tryz.func68 rfl Tryz.ntmps68 (by kernel_rfl) (by simp) ?_
  intro e
  refine WP.seq ?_
  refine WP.region ?_
  refine Ops.y (v := .slice _ _ _) (Y.assign rfl) ?_
  refine Ops.nil ?_
  refine WP.seq ?_
  refine WP.region ?_
  refine Ops.y (v := .slice _ _ _) (Y.move rfl) ?_
  refine Ops.y (v := .func _ _ _) (Y.move rfl) ?_
  refine Ops.go (O.callvH I Tryz.call138 (hi) rfl ?_)
  intro w I
  refine Ops.y (v := .int .i64 _) (Y.assign rfl) ?_
  refine Ops.nil ?_
  refine WP.seq ?_
  refine WP.seq ?_
  refine WP.region ?_
  refine Ops.y (v := .int .i64 _) (Y.move rfl) ?_
  refine Ops.y (v := .bool (decide _)) (Y.eqi rfl rfl) ?_
  refine Ops.nil ?_
  refine WP.cond_decF rfl ((by omega)) ?_
  refine WP.skip ?_
  refine WP.seq ?_
  refine WP.seq ?_
  refine WP.region ?_
  refine Ops.y (v := .int .i64 _) (Y.move rfl) ?_
  refine Ops.y (v := .int .i64 _) (Y.addi rfl rfl ⟨by omega, by omega⟩) ?_
  refine Ops.y (v := .int .i64 _) (Y.assign rfl) ?_
  refine Ops.nil ?_
  refine WP.cutK (σ := Nat) (fun q => [(0, .slice (some ⟨gg, 0, none⟩) m c), (5, .int .i64 q)]) (fun q w => ∃ zs : List Fct, Inv B h (ownSl 52 4 (.slice (some ⟨gg, 0, none⟩) m c) m (zs.flatMap Fct.enc) :: M) w ∧ zs.take q = keepL p xs ∧ q = (keepL p xs).length ∧ q < m) ?_ ?_
  · refine WP.block ?_
    refine WP.loopE (σ := Nat × Nat × List Fct) (fun s => [(0, .slice (some ⟨gg, 0, none⟩) m c), (1, .func (.func f) fs.toArray cs.toArray), (5, .int .i64 s.2.1), (6, .int .i64 s.1)])
      (fun s w => Inv B h (ownSl 52 4 (.slice (some ⟨gg, 0, none⟩) m c) m (s.2.2.flatMap Fct.enc) :: M) w ∧ s.1 ≤ m ∧ s.2.2.length = m ∧ s.2.1 < s.1 ∧ s.2.2.take s.2.1 = keepL p (xs.take s.1) ∧ s.2.1 = (keepL p (xs.take s.1)).length ∧ (∀ j, s.1 ≤ j → s.2.2[j]? = xs[j]?)) (fun s => m - s.1)
      ⟨(k0 + 1, k0, xs), ⟨rfl, rfl, rfl, rfl, trivial⟩, I, by dsimp only; omega, hm.symm, Nat.lt_succ_self _, by dsimp only; rw [keepL_take hk0, if_pos hpk, List.append_nil, hkt], by dsimp only; rw [keepL_take hk0, if_pos hpk, List.append_nil, hkt, List.length_take]; omega, fun _ _ => rfl⟩ ?_
    rintro ⟨j, q, zs⟩ e w ⟨I, h2, hzl, hq1, hq2, hq3, hz⟩
    dsimp only at I h2 hzl hq1 hq2 hq3 hz ⊢
    refine WP.seq ?_
    refine WP.seq ?_
    refine WP.region ?_
    refine Ops.y (v := .int .i64 _) (Y.move rfl) ?_
    refine Ops.y (v := .slice _ _ _) (Y.move rfl) ?_
    refine Ops.y (v := .int .i64 _) (Y.lens Tryz.underlying26 rfl) ?_
    refine Ops.y (v := .bool (decide _)) (Y.lti rfl rfl) ?_
    refine Ops.nil ?_
    refine WP.cond_dec rfl (fun h5 => ?_) (fun h5 => ?_)
    · have hj : j < xs.length := by omega
      have f1 : zs[j]? = some xs[j] := by rw [hz _ (Nat.le_refl _)]; exact List.getElem?_eq_getElem hj
      have hkt := keepL_take (p := p) hj
      refine WP.skip ?_
      refine WP.seq ?_
      refine WP.block ?_
      refine WP.seq ?_
      refine WP.region ?_
      refine Ops.y (v := .slice _ _ _) (Y.move rfl) ?_
      refine Ops.y (v := .int .i64 _) (Y.move rfl) ?_
      refine Ops.y (v := .pointer (some ⟨_, _, none⟩)) (Y.idx Tryz.underlying26 Tryz.sizeOf52 rfl rfl (by omega) (by omega)) ?_
      refine Ops.y (v := .agg #[_, _, _, _]) (Y.loadv ty_52 rfl (I.rdG Fct_len 0 rfl f1 (by omega)) rfl rfl) ?_
      refine Ops.go (O.alloc I Tryz.zeroValue52 rfl ?_)
      intro b7 w I
      refine Ops.go (O.store (v := xs[j].val) I ty_52 0 rfl rfl rfl rfl rfl rfl (Nat.le_of_ble_eq_true rfl) rfl ?_)
      intro w I
      refine Ops.nil ?_
      refine WP.seq ?_
      refine WP.region ?_
      refine Ops.y (v := .func _ _ _) (Y.move rfl) ?_
      refine Ops.y (v := .agg #[_, _, _, _]) (Y.loadv ty_52 rfl (I.rdbox 0 rfl 0 4) rfl rfl) ?_
      refine Ops.go (O.callcv I ent rfl (hp ⟨w, h⟩ I.base_ok (Heap.le.refl _) xs[j] (List.getElem_mem hj)) rfl ?_)
      intro w I
      refine Ops.y (v := .bool _) (Y.not rfl) ?_
      refine Ops.nil ?_
      refine WP.cond rfl (fun h8 => ?_) (fun h8 => ?_)
      · have h8 : p xs[j] = false := by simpa using h8
        rw [h8] at hkt
        refine WP.seq ?_
        refine WP.region ?_
        refine Ops.y (v := .slice _ _ _) (Y.move rfl) ?_
        refine Ops.y (v := .int .i64 _) (Y.move rfl) ?_
        refine Ops.y (v := .agg #[_, _, _, _]) (Y.loadv ty_52 rfl (I.rdbox 0 rfl 0 4) rfl rfl) ?_
        refine Ops.y (v := .pointer (some ⟨_, _, none⟩)) (Y.idx Tryz.underlying26 Tryz.sizeOf52 rfl rfl (by omega) (by omega)) ?_
        refine Ops.go (O.storeE (vs := xs[j].enc) I ty_52 et_52 1 rfl rfl rfl rfl rfl rfl (by rw [flat_len Fct_len, Fct_len]; omega) ?_)
        intro w I
        refine Ops.nil ?_
        have I : Inv B h (ownSl 52 4 (.slice (some ⟨gg, 0, none⟩) m c) m ((zs.set q xs[j]).flatMap Fct.enc) :: M) w := by
          rw [← flat_overG Fct_len _ _ _ (by omega)]
          have J := I.drop
          simp only [Int.toNat_natCast, Nat.zero_add] at J
          exact J
        refine WP.region ?_
        refine Ops.y (v := .int .i64 _) (Y.move rfl) ?_
        refine Ops.y (v := .int .i64 _) (Y.addi rfl rfl ⟨by omega, by omega⟩) ?_
        refine Ops.y (v := .int .i64 _) (Y.assign rfl) ?_
        refine Ops.nil ?_
        refine WP.region ?_
        refine Ops.y (v := .int .i64 _) (Y.move rfl) ?_
        refine Ops.y (v := .int .i64 _) (Y.addi rfl rfl ⟨by omega, by omega⟩) ?_
        refine Ops.y (v := .int .i64 _) (Y.assign rfl) ?_
        refine Ops.nil ?_
        refine ⟨(j + 1, q + 1, zs.set q xs[j]), ⟨⟨rfl, rfl, rfl, rfl, trivial⟩, I, by dsimp only; omega, by simpa using hzl, by dsimp only; omega, ?_, ?_, fun i hi => ?_⟩, by dsimp only; omega⟩
        · dsimp only
          rw [hkt, ← hq2, List.take_succ_eq_append_getElem (by simp; omega), take_setG]
          simp
        · dsimp only
          rw [hkt, List.length_append, ← hq3]; rfl
        · dsimp only at hi ⊢
          rw [List.getElem?_set_ne (by omega)]
          exact hz i (by omega)
      · have h8 : p xs[j] = true := by simpa using h8
        rw [h8, if_pos rfl, List.append_nil] at hkt
        refine WP.skip ?_
        refine WP.region ?_
        refine Ops.y (v := .int .i64 _) (Y.move rfl) ?_
        refine Ops.y (v := .int .i64 _) (Y.addi rfl rfl ⟨by omega, by omega⟩) ?_
        refine Ops.y (v := .int .i64 _) (Y.assign rfl) ?_
        refine Ops.nil ?_
        exact ⟨(j + 1, q, zs), ⟨⟨rfl, rfl, rfl, rfl, trivial⟩, I.drop, by dsimp only; omega, hzl, by dsimp only; omega, by dsimp only; rw [hkt]; exact hq2, by dsimp only; rw [hkt]; exact hq3, fun i hi => hz i (by dsimp only at hi; omega)⟩, by dsimp only; omega⟩
    · have hjm : j = xs.length := by omega
      rw [hjm, List.take_length] at hq2 hq3
      refine WP.exit ?_
      exact ⟨q, ⟨rfl, rfl, trivial⟩, zs, I, hq2, hq3, by omega⟩
  rintro q e w ⟨zs, I, hq2, hq3, hq4⟩
  have I := I.cutSl (m := q) (by omega)
  rw [flat_take Fct_len, hq2] at I
  refine WP.seq ?_
  refine WP.region ?_
  refine Ops.y (v := .slice _ _ _) (Y.move rfl) ?_
  refine Ops.y (v := .int .i64 _) (Y.move rfl) ?_
  refine Ops.y (v := .slice _ _ _) (Y.cutO (l := q) (h' := m) Tryz.underlying26 Tryz.sizeOf52 rfl (.inr ⟨_, _, rfl, rfl⟩) (.inl ⟨rfl, rfl⟩) (by omega) (by omega) (by omega)) ?_
  refine Ops.go (O.clearS I Tryz.underlying26 et_52 (by simp [Value.cells, Value.oneCell']) rfl (by omega) rfl (by omega) ?_)
  intro w I
  refine Ops.nil ?_
  refine WP.seq ?_
  refine WP.region ?_
  refine Ops.y (v := .slice _ _ _) (Y.move rfl) ?_
  refine Ops.y (v := .int .i64 _) (Y.move rfl) ?_
  refine Ops.y (v := .slice _ _ _) (Y.cutO (l := 0) (h' := q) Tryz.underlying26 Tryz.sizeOf52 rfl (.inl ⟨rfl, rfl⟩) (.inr ⟨_, _, rfl, rfl⟩) (by omega) (by omega) (by omega)) ?_
  refine Ops.y (v := .slice _ _ _) (Y.assign rfl) ?_
  refine Ops.nil ?_
  refine WP.ret ?_
  repeat (first | refine thenE_ret ?_ | refine blockE_ret ?_)
  exact ⟨.inl rfl, [.slice (some ⟨gg, 0, none⟩) q c], ⟨rfl, trivial⟩, _, q, rfl, hq3, I⟩
theorem DeleteFct_v {B : Base} {h : Heap} {M : List SA} {w : World} {v : Value} {m : Nat} {xs : List Fct} (I : Inv B h (ownSl 52 4 v m (xs.flatMap Fct.enc) :: M) w) (hm : m = xs.length) (hsz : m ≤ 1000000000)
    (f : FuncId) (ent : Enters Tryz.prog f) (fs cs : List Value) (p : Fct → Bool) (hp : PredFn Tryz.prog f fs cs h Fct.val xs p) :
    Calls Tryz.prog 68 [v, .func (.func f) fs.toArray cs.toArray].toArray w
      (fun ed w' => ∃ v m', ed = .returned v ∧ m' = (keepL p xs).length ∧ Inv B h (ownSl 52 4 v m' ((keepL p xs).flatMap Fct.enc) :: M) w') := by
  obtain ⟨_, s, _, rfl, hsx, _, _⟩ := I.settleSl Fct_len hm
  obtain rfl : m = s.xs.length := by rw [hsx]; exact hm
  exact DeleteFct_ok I hm hsz f ent fs cs p hp
theorem Rul_len (x : Rul) : x.enc.length = 5 := rfl
set_option maxHeartbeats 8000000 in
theorem DeleteRul_ok {B : Base} {h : Heap} {M : List SA} {w : World} {a : Option Addr} {c m : Nat} {xs : List Rul} (I : Inv B h (ownSl 68 5 (.slice a m c) m (xs.flatMap Rul.enc) :: M) w) (hm : m = xs.length) (hsz : m ≤ 1000000000)
    (f : FuncId) (ent : Enters Tryz.prog f) (fs cs : List Value) (p : Rul → Bool) (hp : PredFn Tryz.prog f fs cs h Rul.val xs p) :
    Calls Tryz.prog 117 [.slice a m c, .func (.func f) fs.toArray cs.toArray].toArray w
      (fun ed w' => ∃ v m', ed = .returned v ∧ m' = (keepL p xs).length ∧ Inv B h (ownSl 68 5 v m' ((keepL p xs).flatMap Rul.enc) :: M) w') := by
  obtain ⟨hv, s, hle, hsv, hsx, hin, Iv⟩ := I.settleSl Rul_len hm
  have hi := IndexFuncRul_ok ⟨w, hv⟩ Iv.base_ok s ⟨hin, by rw [hsx]; omega⟩ f ent fs cs p (by rw [hsx]; exact fun B' ok hl x hx => hp B' ok (hle.trans hl) x hx)
  rw [hsv, hsx] at hi
  rcases idxOf_cases p xs with ⟨hx, hno⟩ | ⟨k0, hk0, hx, hpk, hkt⟩
  · rw [hx] at hi
    refine Calls.ofWP (args := [.slice a m c, .func (.func f) fs.toArray cs.toArray]) Tryz.func117 rfl Tryz.ntmps117 (by kernel_rfl) (by simp) ?_
    intro e
    refine WP.seq ?_
    refine WP.region ?_
    refine Ops.y (v := .slice _ _ _) (Y.assign rfl) ?_
    refine Ops.nil ?_
    refine WP.seq ?_
    refine WP.region ?_
    refine Ops.y (v := .slice _ _ _) (Y.move rfl) ?_
    refine Ops.y (v := .func _ _ _) (Y.move rfl) ?_
    refine Ops.go (O.callvH I Tryz.call162 (hi) rfl ?_)
    intro w I
    refine Ops.y (v := .int .i64 _) (Y.assign rfl) ?_
    refine Ops.nil ?_
    refine WP.seq ?_
    refine WP.seq ?_
    refine WP.region ?_
    refine Ops.y (v := .int .i64 _) (Y.move rfl) ?_
    refine Ops.y (v := .bool (decide _)) (Y.eqi rfl rfl) ?_
    refine Ops.nil ?_
    refine WP.cond_decT rfl (rfl) ?_
    refine WP.seq ?_
    refine WP.region ?_
    refine Ops.y (v := .slice _ _ _) (Y.move rfl) ?_
    refine Ops.y (v := .slice _ _ _) (Y.assign rfl) ?_
    refine Ops.nil ?_
    refine WP.ret ?_
    repeat (first | refine thenE_ret ?_ | refine blockE_ret ?_)
    exact ⟨.inl rfl, [.slice a m c], ⟨rfl, trivial⟩, _, m, rfl, by rw [keepL_all hno]; exact hm, by rw [keepL_all hno]; exact I⟩
  rw [hx] at hi
  rcases (I.at 0 rfl).2 with ⟨h0, hn⟩ | ⟨gg, cap, cur, he, _, hg, hnc, hcm, _⟩
  · injection h0 with e1 e2 e3; omega
  injection he with e1 e2 e3
  subst e1; subst e3
  simp only [maxLen] at hcm
  refine Calls.ofWP (args := [.slice (some ⟨gg, 0, none⟩) m c, .func (.func f) fs.toArray cs.toArray]) Tryz.func117 rfl Tryz.ntmps117 (by kernel_rfl) (by simp) ?_
  intro e
  refine WP.seq ?_
  refine WP.region ?_
  refine Ops.y (v := .slice _ _ _) (Y.assign rfl) ?_
  refine Ops.nil ?_
  refine WP.seq ?_
  refine WP.region ?_
  refine Ops.y (v := .slice _ _ _) (Y.move rfl) ?_
  refine Ops.y (v := .func _ _ _) (Y.move rfl) ?_
  refine Ops.go (O.callvH I Tryz.call162 (hi) rfl ?_)
  intro w I
  refine Ops.y (v := .int .i64 _) (Y.assign rfl) ?_
  refine Ops.nil ?_
  refine WP.seq ?_
  refine WP.seq ?_
  refine WP.region ?_
  refine Ops.y (v := .int .i64 _) (Y.move rfl) ?_
  refine Ops.y (v := .bool (decide _)) (Y.eqi rfl rfl) ?_
  refine Ops.nil ?_
  refine WP.cond_decF rfl ((by omega)) ?_
  refine WP.skip ?_
  refine WP.seq ?_
  refine WP.seq ?_
  refine WP.region ?_
  refine Ops.y (v := .int .i64 _) (Y.move rfl) ?_
  refine Ops.y (v := .int .i64 _) (Y.addi rfl rfl ⟨by omega, by omega⟩) ?_
  refine Ops.y (v := .int .i64 _) (Y.assign rfl) ?_
  refine Ops.nil ?_
  refine WP.cutK (σ := Nat) (fun q => [(0, .slice (some ⟨gg, 0, none⟩) m c), (5, .int .i64 q)]) (fun q w => ∃ zs : List Rul, Inv B h (ownSl 68 5 (.slice (some ⟨gg, 0, none⟩) m c) m (zs.flatMap Rul.enc) :: M) w ∧ zs.take q = keepL p xs ∧ q = (keepL p xs).length ∧ q < m) ?_ ?_
  · refine WP.block ?_
    refine WP.loopE (σ := Nat × Nat × List Rul) (fun s => [(0, .slice (some ⟨gg, 0, none⟩) m c), (1, .func (.func f) fs.toArray cs.toArray), (5, .int .i64 s.2.1), (6, .int .i64 s.1)])
      (fun s w => Inv B h (ownSl 68 5 (.slice (some ⟨gg, 0, none⟩) m c) m (s.2.2.flatMap Rul.enc) :: M) w ∧ s.1 ≤ m ∧ s.2.2.length = m ∧ s.2.1 < s.1 ∧ s.2.2.take s.2.1 = keepL p (xs.take s.1) ∧ s.2.1 = (keepL p (xs.take s.1)).length ∧ (∀ j, s.1 ≤ j → s.2.2[j]? = xs[j]?)) (fun s => m - s.1)
      ⟨(k0 + 1, k0, xs), ⟨rfl, rfl, rfl, rfl, trivial⟩, I, by dsimp only; omega, hm.symm, Nat.lt_succ_self _, by dsimp only; rw [keepL_take hk0, if_pos hpk, List.append_nil, hkt], by dsimp only; rw [keepL_take hk0, if_pos hpk, List.append_nil, hkt, List.length_take]; omega, fun _ _ => rfl⟩ ?_
    rintro ⟨j, q, zs⟩ e w ⟨I, h2, hzl, hq1, hq2, hq3, hz⟩
    dsimp only at I h2 hzl hq1 hq2 hq3 hz ⊢
    refine WP.seq ?_
    refine WP.seq ?_
    refine WP.region ?_
    refine Ops.y (v := .int .i64 _) (Y.move rfl) ?_
    refine Ops.y (v := .slice _ _ _) (Y.move rfl) ?_
    refine Ops.y (v := .int .i64 _) (Y.lens Tryz.underlying23 rfl) ?_
    refine Ops.y (v := .bool (decide _)) (Y.lti rfl rfl) ?_
    refine Ops.nil ?_
    refine WP.cond_dec rfl (fun h5 => ?_) (fun h5 => ?_)
    · have hj : j < xs.length := by omega
      have f1 : zs[j]? = some xs[j] := by rw [hz _ (Nat.le_refl _)]; exact List.getElem?_eq_getElem hj
      have hkt := keepL_take (p := p) hj
      refine WP.skip ?_
      refine WP.seq ?_
      refine WP.block ?_
      refine WP.seq ?_
      refine WP.region ?_
      refine Ops.y (v := .slice _ _ _) (Y.move rfl) ?_
      refine Ops.y (v := .int .i64 _) (Y.move rfl) ?_
      refine Ops.y (v := .pointer (some ⟨_, _, none⟩)) (Y.idx Tryz.underlying23 Tryz.sizeOf68 rfl rfl (by omega) (by omega)) ?_
      refine Ops.y (v := .agg #[_, _, _, _, _]) (Y.loadv ty_68 rfl (I.rdG Rul_len 0 rfl f1 (by omega)) rfl rfl) ?_
      refine Ops.go (O.alloc I Tryz.zeroValue68 rfl ?_)
      intro b7 w I
      refine Ops.go (O.store (v := xs[j].val) I ty_68 0 rfl rfl rfl rfl rfl rfl (Nat.le_of_ble_eq_true rfl) rfl ?_)
      intro w I
      refine Ops.nil ?_
      refine WP.seq ?_
      refine WP.region ?_
      refine Ops.y (v := .func _ _ _) (Y.move rfl) ?_
      refine Ops.y (v := .agg #[_, _, _, _, _]) (Y.loadv ty_68 rfl (I.rdbox 0 rfl 0 5) rfl rfl) ?_
      refine Ops.go (O.callcv I ent rfl (hp ⟨w, h⟩ I.base_ok (Heap.le.refl _) xs[j] (List.getElem_mem hj)) rfl ?_)
      intro w I
      refine Ops.y (v := .bool _) (Y.not rfl) ?_
      refine Ops.nil ?_
      refine WP.cond rfl (fun h8 => ?_) (fun h8 => ?_)
      · have h8 : p xs[j] = false := by simpa using h8
        rw [h8] at hkt
        refine WP.seq ?_
        refine WP.region ?_
        refine Ops.y (v := .slice _ _ _) (Y.move rfl) ?_
        refine Ops.y (v := .int .i64 _) (Y.move rfl) ?_
        refine Ops.y (v := .agg #[_, _, _, _, _]) (Y.loadv ty_68 rfl (I.rdbox 0 rfl 0 5) rfl rfl) ?_
        refine Ops.y (v := .pointer (some ⟨_, _, none⟩)) (Y.idx Tryz.underlying23 Tryz.sizeOf68 rfl rfl (by omega) (by omega)) ?_
        refine Ops.go (O.storeE (vs := xs[j].enc) I ty_68 et_68 1 rfl rfl rfl rfl rfl rfl (by rw [flat_len Rul_len, Rul_len]; omega) ?_)
        intro w I
        refine Ops.nil ?_
        have I : Inv B h (ownSl 68 5 (.slice (some ⟨gg, 0, none⟩) m c) m ((zs.set q xs[j]).flatMap Rul.enc) :: M) w := by
          rw [← flat_overG Rul_len _ _ _ (by omega)]
          have J := I.drop
          simp only [Int.toNat_natCast, Nat.zero_add] at J
          exact J
        refine WP.region ?_
        refine Ops.y (v := .int .i64 _) (Y.move rfl) ?_
        refine Ops.y (v := .int .i64 _) (Y.addi rfl rfl ⟨by omega, by omega⟩) ?_
        refine Ops.y (v := .int .i64 _) (Y.assign rfl) ?_
        refine Ops.nil ?_
        refine WP.region ?_
        refine Ops.y (v := .int .i64 _) (Y.move rfl) ?_
        refine Ops.y (v := .int .i64 _) (Y.addi rfl rfl ⟨by omega, by omega⟩) ?_
        refine Ops.y (v := .int .i64 _) (Y.assign rfl) ?_
        refine Ops.nil ?_
        refine ⟨(j + 1, q + 1, zs.set q xs[j]), ⟨⟨rfl, rfl, rfl, rfl, trivial⟩, I, by dsimp only; omega, by simpa using hzl, by dsimp only; omega, ?_, ?_, fun i hi => ?_⟩, by dsimp only; omega⟩
        · dsimp only
          rw [hkt, ← hq2, List.take_succ_eq_append_getElem (by simp; omega), take_setG]
          simp
        · dsimp only
          rw [hkt, List.length_append, ← hq3]; rfl
        · dsimp only at hi ⊢
          rw [List.getElem?_set_ne (by omega)]
          exact hz i (by omega)
      · have h8 : p xs[j] = true := by simpa using h8
        rw [h8, if_pos rfl, List.append_nil] at hkt
        refine WP.skip ?_
        refine WP.region ?_
        refine Ops.y (v := .int .i64 _) (Y.move rfl) ?_
        refine Ops.y (v := .int .i64 _) (Y.addi rfl rfl ⟨by omega, by omega⟩) ?_
        refine Ops.y (v := .int .i64 _) (Y.assign rfl) ?_
        refine Ops.nil ?_
        exact ⟨(j + 1, q, zs), ⟨⟨rfl, rfl, rfl, rfl, trivial⟩, I.drop, by dsimp only; omega, hzl, by dsimp only; omega, by dsimp only; rw [hkt]; exact hq2, by dsimp only; rw [hkt]; exact hq3, fun i hi => hz i (by dsimp only at hi; omega)⟩, by dsimp only; omega⟩
    · have hjm : j = xs.length := by omega
      rw [hjm, List.take_length] at hq2 hq3
      refine WP.exit ?_
      exact ⟨q, ⟨rfl, rfl, trivial⟩, zs, I, hq2, hq3, by omega⟩
  rintro q e w ⟨zs, I, hq2, hq3, hq4⟩
  have I := I.cutSl (m := q) (by omega)
  rw [flat_take Rul_len, hq2] at I
  refine WP.seq ?_
  refine WP.region ?_
  refine Ops.y (v := .slice _ _ _) (Y.move rfl) ?_
  refine Ops.y (v := .int .i64 _) (Y.move rfl) ?_
  refine Ops.y (v := .slice _ _ _) (Y.cutO (l := q) (h' := m) Tryz.underlying23 Tryz.sizeOf68 rfl (.inr ⟨_, _, rfl, rfl⟩) (.inl ⟨rfl, rfl⟩) (by omega) (by omega) (by omega)) ?_
  refine Ops.go (O.clearS I Tryz.underlying23 et_68 (by simp [Value.cells, Value.oneCell']) rfl (by omega) rfl (by omega) ?_)
  intro w I
  refine Ops.nil ?_
  refine WP.seq ?_
  refine WP.region ?_
  refine Ops.y (v := .slice _ _ _) (Y.move rfl) ?_
  refine Ops.y (v := .int .i64 _) (Y.move rfl) ?_
  refine Ops.y (v := .slice _ _ _) (Y.cutO (l := 0) (h' := q) Tryz.underlying23 Tryz.sizeOf68 rfl (.inl ⟨rfl, rfl⟩) (.inr ⟨_, _, rfl, rfl⟩) (by omega) (by omega) (by omega)) ?_
  refine Ops.y (v := .slice _ _ _) (Y.assign rfl) ?_
  refine Ops.nil ?_
  refine WP.ret ?_
  repeat (first | refine thenE_ret ?_ | refine blockE_ret ?_)
  exact ⟨.inl rfl, [.slice (some ⟨gg, 0, none⟩) q c], ⟨rfl, trivial⟩, _, q, rfl, hq3, I⟩
theorem DeleteRul_v {B : Base} {h : Heap} {M : List SA} {w : World} {v : Value} {m : Nat} {xs : List Rul} (I : Inv B h (ownSl 68 5 v m (xs.flatMap Rul.enc) :: M) w) (hm : m = xs.length) (hsz : m ≤ 1000000000)
    (f : FuncId) (ent : Enters Tryz.prog f) (fs cs : List Value) (p : Rul → Bool) (hp : PredFn Tryz.prog f fs cs h Rul.val xs p) :
    Calls Tryz.prog 117 [v, .func (.func f) fs.toArray cs.toArray].toArray w
      (fun ed w' => ∃ v m', ed = .returned v ∧ m' = (keepL p xs).length ∧ Inv B h (ownSl 68 5 v m' ((keepL p xs).flatMap Rul.enc) :: M) w') := by
  obtain ⟨_, s, _, rfl, hsx, _, _⟩ := I.settleSl Rul_len hm
  obtain rfl : m = s.xs.length := by rw [hsx]; exact hm
  exact DeleteRul_ok I hm hsz f ent fs cs p hp
end Go.TF
end
section
/- A region in which a slice is made, and then turned into another, while what is loaded may be loaded ahead or behind. -/
namespace Go.TF
open Go Go.RowKit

structure DlS where
  h : Heap
  o2 : Option Value
  o4 : Option Value
def pcD (T k n m : Nat) (c2 c4 : List Value) (o2 o4 : Option Value) : List SA := match o4 with
  | some v => [ownSl T k v m c4]
  | none => match o2 with
    | some v => [ownSl T k v n c2]
    | none => []
structure JDl (B : Base) (M : List SA) (T k n m : Nat) (c2 c4 : List Value) (i2 i4 : Nat) (D : Nat → Bool) (s : DlS) (w : World) : Prop where
  h2 : s.o2.isSome = D i2
  h4 : s.o4.isSome = D i4
  ord : D i4 = true → D i2 = true
  inv : Inv B s.h (pcD T k n m c2 c4 s.o2 s.o4 ++ M) w
structure RDl (s s' : DlS) : Prop where
  h : s.h.le s'.h
  h2 : ∀ v, s.o2 = some v → s'.o2 = some v
  h4 : ∀ v, s.o4 = some v → s'.o4 = some v
theorem RDl.pre : Pre RDl := ⟨fun _ => ⟨Heap.le.refl _, fun _ h => h, fun _ h => h⟩, fun _ _ _ h k => ⟨h.h.trans k.h, fun b e => k.h2 b (h.h2 b e), fun b e => k.h4 b (h.h4 b e)⟩⟩
def AtD2 (u : Value) (s : DlS) : Prop := s.o2 = some u
def AtD4 (u : Value) (s : DlS) : Prop := s.o4 = some u
theorem AtD2.mono : MonoG RDl AtD2 := fun _ _ _ r h => r.h2 _ h
theorem AtD4.mono : MonoG RDl AtD4 := fun _ _ _ r h => r.h4 _ h
section
variable {P : Program} {o : Oper} {e : Env} {B : Base} {M : List SA} {T k n m : Nat} {c2 c4 : List Value} {i2 i4 i : Nat} {D : Nat → Bool} {s : DlS} {w : World}
theorem JDl.base (j : JDl B M T k n m c2 c4 i2 i4 D s w) : Inv B s.h M w := j.inv.weak (List.sublist_append_right _ _)
theorem JDl.set (h : i2 ≠ i ∧ i4 ≠ i) : ∀ D s w, JDl B M T k n m c2 c4 i2 i4 D s w → JDl B M T k n m c2 c4 i2 i4 (setD D i) s w := fun D s w j => by
  have e : ∀ x, x ≠ i → setD D i x = D x := fun x hx => by simp [setD, hx]
  exact ⟨by rw [e _ h.1]; exact j.h2, by rw [e _ h.2]; exact j.h4, by rw [e _ h.1, e _ h.2]; exact j.ord, j.inv⟩
theorem JDl.first (j : JDl B M T k n m c2 c4 i2 i4 D s w) (hD : D i2 = false) (h24 : i4 ≠ i2) (hop : Inv B s.h M w → Op1 P o e w fun u w' => ∃ h', s.h.le h' ∧ Inv B h' (ownSl T k u n c2 :: M) w') :
    Op1 P o e w fun u w' => ∃ s', RDl s s' ∧ JDl B M T k n m c2 c4 i2 i4 (setD D i2) s' w' ∧ AtD2 u s' := by
  have h2 : s.o2 = none := by have := j.h2; rw [hD] at this; cases h : s.o2 <;> simp_all
  have hD4 : D i4 = false := by
    cases h : D i4
    · rfl
    · rw [j.ord h] at hD; cases hD
  have h4 : s.o4 = none := by have := j.h4; rw [hD4] at this; cases h : s.o4 <;> simp_all
  refine (hop j.base).mono fun u w' ⟨h', hl, I⟩ => ⟨⟨h', some u, none⟩, ⟨hl, fun v hv => (by rw [h2] at hv; cases hv), fun v hv => (by rw [h4] at hv; cases hv)⟩, ⟨?_, ?_, fun hh => ?_, I⟩, rfl⟩
  · simp [setD]
  · rw [show setD D i2 i4 = D i4 by simp [setD, h24], hD4]; rfl
  · simp [setD]
end
theorem WPD.regionG {σ : Type} {P : Program} {N : Nat} {D : List Deferred} {e : Env} {w : World} {Q : Exit → Env → World → List Deferred → Prop} {id : Nat} {ops : Array Oper} {J : (Nat → Bool) → σ → World → Prop} {R : σ → σ → Prop} (hm : Mixed P) (hR : Pre R) (s0 : σ) (I : J (fun _ => false) s0 w.drew) (m : Nat) (hB : flowB ops m = true)
    (k : OpsG P ops J R s0 0 [] (ops.toList.take m) e (fun L e' => ∀ D' h1 w1, (∀ j, j < m → D' j = true) → R s0 h1 → J D' h1 w1 → AllG (fun _ => true) h1 L e' fun e'' => Ops P ops (ops.toList.drop m) e'' w1 (fun e3 w3 => Q .normal e3 w3 D))) : WPD P N D (.region id ops true) e w Q := WPD.of (WP.regionG hm hR s0 I m hB k)
end Go.TF
end
section
/- A region in which a literal is made and appended to what the call owns, while what is loaded may be loaded ahead or behind. -/
namespace Go.TF
open Go Go.RowKit

structure ApS where
  h : Heap
  o7 : Option (Nat × Nat)
def pcA (T k n m : Nat) (v : Value) (xs x : List Value) (o7 : Option (Nat × Nat)) : SA := match o7 with
  | none => ownSl T k v n xs
  | some y => ownSl T k (.slice (some ⟨y.1, 0, none⟩) (n + m) y.2) (n + m) (xs ++ x)
structure JAp (B : Base) (M : List SA) (T k n m : Nat) (v : Value) (xs x : List Value) (i7 : Nat) (D : Nat → Bool) (s : ApS) (w : World) : Prop where
  h7 : s.o7.isSome = D i7
  inv : Inv B s.h (pcA T k n m v xs x s.o7 :: M) w
structure RAp (s s' : ApS) : Prop where
  h : s.h.le s'.h
  h7 : ∀ y, s.o7 = some y → s'.o7 = some y
theorem RAp.pre : Pre RAp := ⟨fun _ => ⟨Heap.le.refl _, fun _ h => h⟩, fun _ _ _ h k => ⟨h.h.trans k.h, fun y e => k.h7 y (h.h7 y e)⟩⟩
def AtAp (N : Nat) (u : Value) (s : ApS) : Prop := ∃ g c, u = .slice (some ⟨g, 0, none⟩) N c ∧ s.o7 = some (g, c)
theorem AtAp.mono {N : Nat} : MonoG RAp (AtAp N) := fun _ _ _ r ⟨g, c, h1, h2⟩ => ⟨g, c, h1, r.h7 _ h2⟩
def KnA (Φ : Sp) (u : Value) (s : ApS) : Prop := Φ u s.h
theorem KnA.mono {Φ : Sp} (hm : MonoS Φ) : MonoG RAp (KnA Φ) := fun _ _ _ r h => hm _ _ _ r.h h
section
variable {P : Program} {o : Oper} {e : Env} {B : Base} {M : List SA} {T k n m : Nat} {v : Value} {xs x : List Value} {i7 i : Nat} {D : Nat → Bool} {s : ApS} {w : World}
theorem JAp.base (j : JAp B M T k n m v xs x i7 D s w) : Inv B s.h M w := j.inv.drop
theorem JAp.set (h : i7 ≠ i) : ∀ D s w, JAp B M T k n m v xs x i7 D s w → JAp B M T k n m v xs x i7 (setD D i) s w := fun D s w j => ⟨by rw [show setD D i i7 = D i7 by simp [setD, h]]; exact j.h7, j.inv⟩
/-- What makes known more, and turns nothing. -/
theorem JAp.know {Φ : Sp} (j : JAp B M T k n m v xs x i7 D s w) (h : i7 ≠ i) (hop : ∀ N, Inv B s.h N w → Op1 P o e w fun u w' => ∃ h', s.h.le h' ∧ Inv B h' N w' ∧ Φ u h') :
    Op1 P o e w fun u w' => ∃ s', RAp s s' ∧ JAp B M T k n m v xs x i7 (setD D i) s' w' ∧ KnA Φ u s' :=
  (hop _ j.inv).mono fun u w' ⟨h', hl, I, hu⟩ => ⟨⟨h', s.o7⟩, ⟨hl, fun _ e => e⟩, ⟨by rw [show setD D i i7 = D i7 by simp [setD, h]]; exact j.h7, I⟩, hu⟩
theorem JAp.app (j : JAp B M T k n m v xs x i7 D s w) (hD : D i7 = false) (hop : Inv B s.h (ownSl T k v n xs :: M) w → Op1 P o e w fun u w' => ∃ g c, u = .slice (some ⟨g, 0, none⟩) (n + m) c ∧ Inv B s.h (ownSl T k (.slice (some ⟨g, 0, none⟩) (n + m) c) (n + m) (xs ++ x) :: M) w') :
    Op1 P o e w fun u w' => ∃ s', RAp s s' ∧ JAp B M T k n m v xs x i7 (setD D i7) s' w' ∧ AtAp (n + m) u s' := by
  have h7 : s.o7 = none := by have := j.h7; rw [hD] at this; cases h : s.o7 <;> simp_all
  have I := j.inv
  rw [h7] at I
  exact (hop I).mono fun u w' ⟨g, c, e, I⟩ => ⟨⟨s.h, some (g, c)⟩, ⟨Heap.le.refl _, fun y e => (by rw [h7] at e; cases e)⟩, ⟨by simp [setD], I⟩, g, c, e, rfl⟩
end
end Go.TF
end
section
/- Needs: who is needed, by a queue. -/
namespace Go.TF
open Go Go.RowKit Go.Proofs
set_option maxRecDepth 20000

def NeeP (p : Prg) (pr : Int) (v : Value) (h : Heap) : Prop :=
  (checkProg p ≠ 0 ∧ v = .tuple #[.slice none 0 0, .int .i64 (checkProg p)]) ∨ (checkProg p = 0 ∧ (pr < 0 ∨ (p.preds.xs.length : Int) ≤ pr) ∧ v = .tuple #[.slice none 0 0, .int .i64 7]) ∨
  (checkProg p = 0 ∧ (0 ≤ pr ∧ pr < p.preds.xs.length) ∧ ∃ s : Sl Bool, NeedsR (usesL p.rules.xs) p.preds.xs.length pr s.xs ∧ s.Is 1 bEnc h ∧ v = .tuple #[s.val, .int .i64 0])
theorem usesL_len {rs : List Rul} {m : Nat} (h : ∀ r ∈ rs, r.body.xs.length ≤ m) : (usesL rs).length ≤ rs.length * m := by
  induction rs with
  | nil => simp [usesL]
  | cons r rs ih =>
    have h1 := ih fun x hx => h x (List.mem_cons_of_mem _ hx)
    have h2 := h r (List.mem_cons_self ..)
    unfold usesL at h1 ⊢
    simp only [List.flatMap_cons, List.length_append, List.length_map, List.length_cons, Nat.add_mul]; omega
/-- What x uses, among the first k uses. -/
def succs (cs : List (Int × Ltl)) (x : Int) (k : Nat) : List Int := ((cs.take k).filter fun c => decide (c.1 = x)).map fun c => c.2.atom.pred
theorem succs_at {cs : List (Int × Ltl)} {x : Int} {k : Nat} {c : Int × Ltl} (hc : cs[k]? = some c) : succs cs x (k + 1) = succs cs x k ++ if c.1 = x then [c.2.atom.pred] else [] := by
  obtain ⟨hk, rfl⟩ := List.getElem?_eq_some_iff.1 hc
  unfold succs
  rw [List.take_succ_eq_append_getElem hk, List.filter_append, List.map_append]
  congr 1
  by_cases e : cs[k].1 = x <;> simp [e]
theorem succs_len (cs : List (Int × Ltl)) (x : Int) (k : Nat) : (succs cs x k).length ≤ cs.length := by
  unfold succs
  rw [List.length_map]
  exact Nat.le_trans (List.length_filter_le ..) (by simp; omega)
theorem mem_succs {cs : List (Int × Ltl)} {x y : Int} : y ∈ succs cs x cs.length ↔ Uses cs x y := by
  unfold succs Uses
  rw [List.take_length]
  simp [and_assoc]
structure NdS where
  g : Nat
  o : Nat
  c : Nat
  q : List Int
  N : List Bool
  ms : List Nat
@[reducible] def NdU (b8 bo b2 : Nat) (p : Prg) (g o c : Nat) (q : List Int) (N : List Bool) : List SA := [box b8 [.slice (some ⟨g, o, none⟩) (q.map vI).length c] 45, ownQ 3 g o c (q.map vI), box bo (N.map vB) 4, box b2 p.enc 25]
structure NdJ (B : Base) (b8 bo b2 : Nat) (p : Prg) (pr : Int) (s : NdS) (w : World) : Prop where
  inv : ∃ h1, B.h.le h1 ∧ Inv B h1 (NdU b8 bo b2 p s.g s.o s.c s.q s.N ++ s.ms.map markSA) w
  len : s.N.length = p.preds.xs.length
  snd : ∀ i : Int, 0 ≤ i → i < p.preds.xs.length → bv s.N i = true → Reach (usesL p.rules.xs) pr i
  qin : ∀ x ∈ s.q, (0 ≤ x ∧ x < p.preds.xs.length) ∧ Reach (usesL p.rules.xs) pr x
  clo : ∀ c ∈ usesL p.rules.xs, bv s.N c.1 = true → bv s.N c.2.atom.pred = true ∨ c.2.atom.pred ∈ s.q
  has : bv s.N pr = true ∨ pr ∈ s.q
  small : s.q.length ≤ 1 + 24 * trues s.N
set_option maxHeartbeats 8000000 in
theorem Needs_ok (B : Base) (hB : B.ok) (p : Prg) (hp : p.In B.h) (hnm : p.Nm) (pr : Int) : Fn Tryz.prog 116 [p.val, .int .i64 pr] B (fun v h => NeeP p pr v h) := by
  refine Fn.ofD Tryz.func116 rfl Tryz.ntmps116 (by kernel_rfl) (by simp) ?_
  intro e
  have I := Inv.start hB
  refine WPD.seq ?_
  refine WPD.region ?_
  refine Ops.go (O.box (v := .agg #[_, _]) I rfl rfl ?_)
  intro b2 w I
  refine Ops.y (v := .slice _ _ _) (Y.assign rfl) ?_
  refine Ops.y (v := .int .i64 _) (Y.assign rfl) ?_
  refine Ops.nil ?_
  refine WPD.seq ?_
  refine WPD.seq ?_
  refine WPD.region ?_
  refine Ops.y (v := .agg #[_, _]) (Y.loadv ty_25 rfl (I.rdbox 0 rfl 0 2) rfl rfl) ?_
  refine Ops.go (O.callv I Tryz.call56 (PCheck_ok _ I.base_ok p hp hnm) rfl ?_)
  intro w I
  refine Ops.y (v := .int .i64 _) (Y.assign rfl) ?_
  refine Ops.nil ?_
  refine WPD.seq ?_
  refine WPD.region ?_
  refine Ops.y (v := .int .i64 _) (Y.move rfl) ?_
  refine Ops.y (v := .bool (decide _)) (Y.nei rfl rfl) ?_
  refine Ops.nil ?_
  refine WPD.cond_dec rfl (fun h => ?_) (fun h => ?_)
  · refine WPD.seq ?_
    refine WPD.region ?_
    refine Ops.y (v := .int .i64 _) (Y.move rfl) ?_
    refine Ops.y (v := .slice _ _ _) (Y.assign rfl) ?_
    refine Ops.y (v := .int .i64 _) (Y.assign rfl) ?_
    refine Ops.nil ?_
    refine WPD.ret ?_
    repeat (first | refine thenD_ret ?_ | refine blockD_ret ?_)
    show doneQ _ _ _ _ _ _ _ _
    exact ⟨.inl rfl, [], _, _, [.slice none 0 0, .int .i64 (checkProg p)], rfl, by rw [List.map_nil, List.append_nil]; exact I, fun w2 I2 => ⟨rfl, rfl, trivial⟩, .inl ⟨h, rfl⟩⟩
  have h0 := Decidable.not_not.1 h
  obtain ⟨k1, k2, k3, M, hM⟩ := checkProg_ok h0
  have hr := inR_of k3
  have hcl : (usesL p.rules.xs).length ≤ 24 := by
    have := usesL_len (m := 3) fun r hr => (checkRule_ok (rulesErr_zero.1 k3 r hr)).2.1
    omega
  refine WPD.skip ?_
  refine WPD.seq ?_
  refine WPD.seq ?_
  by_cases o0 : pr < 0
  · refine WPD.region ?_
    refine Ops.y (v := .int .i64 _) (Y.move rfl) ?_
    refine Ops.y (v := .bool true) (Y.dec_t (Y.lti rfl rfl) (o0)) ?_
    refine Ops.y (v := .bool _) (Y.move rfl) ?_
    refine Ops.gf rfl ?_
    refine Ops.gf rfl ?_
    refine Ops.gf rfl ?_
    refine Ops.gf rfl ?_
    refine Ops.gf rfl ?_
    refine Ops.y (v := .bool _) (Y.pick_t rfl rfl) ?_
    refine Ops.nil ?_
    refine WPD.cond_t rfl ?_
    refine WPD.seq ?_
    refine WPD.region ?_
    refine Ops.y (v := .slice _ _ _) (Y.assign rfl) ?_
    refine Ops.y (v := .int .i64 _) (Y.assign rfl) ?_
    refine Ops.nil ?_
    refine WPD.ret ?_
    repeat (first | refine thenD_ret ?_ | refine blockD_ret ?_)
    show doneQ _ _ _ _ _ _ _ _
    exact ⟨.inl rfl, [], _, _, [.slice none 0 0, .int .i64 7], rfl, by rw [List.map_nil, List.append_nil]; exact I, fun w2 I2 => ⟨rfl, rfl, trivial⟩, .inr (.inl ⟨h0, by omega, rfl⟩)⟩
  by_cases o1 : (p.preds.xs.length : Int) ≤ pr
  · refine WPD.region ?_
    refine Ops.y (v := .int .i64 _) (Y.move rfl) ?_
    refine Ops.y (v := .bool false) (Y.dec_f (Y.lti rfl rfl) (o0)) ?_
    refine Ops.y (v := .bool _) (Y.move rfl) ?_
    refine Ops.ygt rfl (v := .int .i64 _) (Y.move rfl) ?_
    refine Ops.ygt rfl (v := .pointer (some ⟨_, _, none⟩)) (Y.fa0 fa_25_0 rfl) ?_
    refine Ops.ygt rfl (v := .slice _ _ _) (Y.loadv ty_22 rfl (I.rdbox 0 rfl 0 1) rfl rfl) ?_
    refine Ops.ygt rfl (v := .int .i64 _) (Y.lens Tryz.underlying22 rfl) ?_
    refine Ops.ygt rfl (v := .bool true) (Y.dec_t (Y.gei rfl rfl) (o1)) ?_
    refine Ops.y (v := .bool _) (Y.pick_f rfl rfl) ?_
    refine Ops.nil ?_
    refine WPD.cond_t rfl ?_
    refine WPD.seq ?_
    refine WPD.region ?_
    refine Ops.y (v := .slice _ _ _) (Y.assign rfl) ?_
    refine Ops.y (v := .int .i64 _) (Y.assign rfl) ?_
    refine Ops.nil ?_
    refine WPD.ret ?_
    repeat (first | refine thenD_ret ?_ | refine blockD_ret ?_)
    show doneQ _ _ _ _ _ _ _ _
    exact ⟨.inl rfl, [], _, _, [.slice none 0 0, .int .i64 7], rfl, by rw [List.map_nil, List.append_nil]; exact I, fun w2 I2 => ⟨rfl, rfl, trivial⟩, .inr (.inl ⟨h0, by omega, rfl⟩)⟩
  refine WPD.region ?_
  refine Ops.y (v := .int .i64 _) (Y.move rfl) ?_
  refine Ops.y (v := .bool false) (Y.dec_f (Y.lti rfl rfl) (o0)) ?_
  refine Ops.y (v := .bool _) (Y.move rfl) ?_
  refine Ops.ygt rfl (v := .int .i64 _) (Y.move rfl) ?_
  refine Ops.ygt rfl (v := .pointer (some ⟨_, _, none⟩)) (Y.fa0 fa_25_0 rfl) ?_
  refine Ops.ygt rfl (v := .slice _ _ _) (Y.loadv ty_22 rfl (I.rdbox 0 rfl 0 1) rfl rfl) ?_
  refine Ops.ygt rfl (v := .int .i64 _) (Y.lens Tryz.underlying22 rfl) ?_
  refine Ops.ygt rfl (v := .bool false) (Y.dec_f (Y.gei rfl rfl) (o1)) ?_
  refine Ops.y (v := .bool _) (Y.pick_f rfl rfl) ?_
  refine Ops.nil ?_
  refine WPD.cond_f rfl ?_
  have q0 : 0 ≤ pr := by omega
  have q1 : pr < p.preds.xs.length := by omega
  refine WPD.skip ?_
  refine WPD.seq ?_
  refine WPD.region ?_
  refine Ops.y (v := .pointer (some ⟨_, _, none⟩)) (Y.fa0 fa_25_0 rfl) ?_
  refine Ops.y (v := .slice _ _ _) (Y.loadv ty_22 rfl (I.rdbox 0 rfl 0 1) rfl rfl) ?_
  refine Ops.y (v := .int .i64 _) (Y.lens Tryz.underlying22 rfl) ?_
  refine Ops.go (O.make1 (n := p.preds.xs.length) (zc := (vB false)) I Tryz.underlying149 et_4 rfl rfl rfl (by omega) (by omega) ?_)
  intro b29 w I
  refine Ops.y (v := .slice _ _ _) (Y.assign rfl) ?_
  refine Ops.nil ?_
  rw [← List.map_replicate (f := vB)] at I
  refine WPD.seq ?_
  refine WPD.region ?_
  refine Ops.y (v := .int .i64 _) (Y.move rfl) ?_
  refine Ops.go (O.mkbox (cs := [vI pr]) I Tryz.underlying45 Tryz.sizeOf3 Tryz.zeroValue3 (by decide) (by decide) rfl rfl ?_)
  intro b31 w I
  refine Ops.go (O.alloc I Tryz.zeroValue45 rfl ?_)
  intro b8 w I
  refine Ops.go (O.store (v := .slice _ _ _) I ty_45 0 rfl rfl rfl rfl rfl rfl (Nat.le_of_ble_eq_true rfl) rfl ?_)
  intro w I
  refine Ops.nil ?_
  have I := I.toQ 1 rfl
  refine WPD.seq ?_
  refine WPD.block ?_
  refine WPD.loop (σ := NdS) (fun s => [(2, .pointer (some ⟨b2, 0, none⟩)), (7, .slice (some ⟨b29, 0, none⟩) p.preds.xs.length p.preds.xs.length), (8, .pointer (some ⟨b8, 0, none⟩))]) (fun s => s.ms.map mark) (NdJ B b8 b29 b2 p pr) (fun s => 25 * (p.preds.xs.length - trues s.N) + s.q.length)
    ⟨⟨b31, 0, 1, [pr], List.replicate p.preds.xs.length false, []⟩, ⟨rfl, rfl, rfl, trivial⟩, rfl, ⟨⟨B.h, Heap.le.refl _, by rw [List.map_nil, List.append_nil]; exact I⟩, by simp, (fun i _ _ h => by rw [bv_none] at h; cases h), (fun x hx => by
      rw [List.mem_singleton.1 hx]; exact ⟨⟨q0, q1⟩, .refl⟩), (fun c _ h => by rw [bv_none] at h; cases h), .inr (List.mem_singleton.2 rfl), by simp⟩⟩ ?_
  rintro ⟨g, o, c, q, N, ms⟩ e w ⟨⟨h1, gl1, I⟩, hlen, hsnd, hqin, hclo, hhas, hsmall⟩
  dsimp only at I hlen hsnd hqin hclo hhas hsmall ⊢
  have htr := trues_le N
  refine WPD.seq ?_
  refine WPD.seq ?_
  refine WPD.region ?_
  refine Ops.y (v := .slice _ _ _) (Y.loadv ty_45 rfl (I.rdbox 0 rfl 0 1) rfl rfl) ?_
  refine Ops.y (v := .int .i64 _) (Y.lens Tryz.underlying45 rfl) ?_
  refine Ops.y (v := .bool (decide _)) (Y.gti rfl rfl) ?_
  refine Ops.nil ?_
  refine WPD.cond_dec rfl (fun h8 => ?_) (fun h8 => ?_)
  · cases q with
    | nil => exact absurd h8 (by simp)
    | cons x q =>
    obtain ⟨⟨x0, x1⟩, hxr⟩ := hqin x (List.mem_cons_self ..)
    have hqc : (q.map vI).length + 1 ≤ c := by obtain ⟨_, _, hc, _⟩ := I.at 1 rfl; simpa using hc
    refine WPD.skip ?_
    refine WPD.block ?_
    refine WPD.seq ?_
    refine WPD.region ?_
    refine Ops.y (v := .slice _ _ _) (Y.loadv ty_45 rfl (I.rdbox 0 rfl 0 1) rfl rfl) ?_
    refine Ops.y (v := .pointer (some ⟨_, _, none⟩)) (Y.idx Tryz.underlying45 Tryz.sizeOf3 rfl rfl (Int.le_refl _) h8) ?_
    refine Ops.y (v := .int .i64 _) (Y.loadv ty_3 rfl (I.rdQ 1 rfl (i := 0) rfl) rfl rfl) ?_
    refine Ops.go (O.alloc I Tryz.zeroValue3 rfl ?_)
    intro b9 w I
    refine Ops.go (O.store (v := .int .i64 _) I ty_3 0 rfl rfl rfl rfl rfl rfl (Nat.le_of_ble_eq_true rfl) rfl ?_)
    intro w I
    refine Ops.nil ?_
    refine WPD.seq ?_
    refine WPD.region ?_
    refine Ops.y (v := .slice _ _ _) (Y.loadv ty_45 rfl (I.rdbox 1 rfl 0 1) rfl rfl) ?_
    refine Ops.y (v := .slice _ _ _) (Y.cutQ Tryz.underlying45 Tryz.sizeOf3 rfl hqc rfl rfl) ?_
    have I := I.popQ 2 rfl
    refine Ops.go (O.store (v := .slice _ _ _) I ty_45 1 rfl rfl rfl rfl rfl rfl (Nat.le_of_ble_eq_true rfl) rfl ?_)
    intro w I
    refine Ops.nil ?_
    cases ht : bv N x
    case true =>
      refine WPD.seq ?_
      refine WPD.seq ?_
      refine WPD.region ?_
      refine Ops.y (v := .slice _ _ _) (Y.move rfl) ?_
      refine Ops.y (v := .int .i64 _) (Y.loadv ty_3 rfl (I.rdbox 0 rfl 0 1) rfl rfl) ?_
      refine Ops.y (v := .pointer (some ⟨_, _, none⟩)) (Y.idx Tryz.underlying149 Tryz.sizeOf4 rfl rfl x0 x1) ?_
      refine Ops.y (v := .bool true) (Y.b (Y.loadv ty_4 rfl (I.rdL 3 rfl (by omega) (bv_some hlen x0 x1)) rfl rfl) (ht)) ?_
      refine Ops.nil ?_
      refine WPD.cond_t rfl ?_
      refine WPD.exit ?_
      exact ⟨⟨g, if c = 1 then o else o + 1, c - 1, q, N, ms⟩, ⟨⟨rfl, rfl, rfl, trivial⟩, rfl, ⟨⟨h1, gl1, I.drop⟩, hlen, hsnd, fun y hy => hqin y (List.mem_cons_of_mem _ hy), fun d hd hb => by
        rcases hclo d hd hb with h | h
        · exact .inl h
        · rcases List.mem_cons.1 h with e | h
          · exact .inl (by rw [e]; exact ht)
          · exact .inr h, by
        rcases hhas with h | h
        · exact .inl h
        · rcases List.mem_cons.1 h with e | h
          · exact .inl (by rw [e]; exact ht)
          · exact .inr h, by simp only [List.length_cons] at hsmall; dsimp only; omega⟩⟩, by simp only [List.length_cons]; omega⟩
    refine WPD.seq ?_
    refine WPD.seq ?_
    refine WPD.region ?_
    refine Ops.y (v := .slice _ _ _) (Y.move rfl) ?_
    refine Ops.y (v := .int .i64 _) (Y.loadv ty_3 rfl (I.rdbox 0 rfl 0 1) rfl rfl) ?_
    refine Ops.y (v := .pointer (some ⟨_, _, none⟩)) (Y.idx Tryz.underlying149 Tryz.sizeOf4 rfl rfl x0 x1) ?_
    refine Ops.y (v := .bool false) (Y.b (Y.loadv ty_4 rfl (I.rdL 3 rfl (by omega) (bv_some hlen x0 x1)) rfl rfl) (ht)) ?_
    refine Ops.nil ?_
    refine WPD.cond_f rfl ?_
    refine WPD.skip ?_
    refine WPD.seq ?_
    refine WPD.region ?_
    refine Ops.y (v := .slice _ _ _) (Y.move rfl) ?_
    refine Ops.y (v := .int .i64 _) (Y.loadv ty_3 rfl (I.rdbox 0 rfl 0 1) rfl rfl) ?_
    refine Ops.y (v := .pointer (some ⟨_, _, none⟩)) (Y.idx Tryz.underlying149 Tryz.sizeOf4 rfl rfl x0 x1) ?_
    refine Ops.go (O.store1 I ty_4 3 rfl rfl (i := x.toNat) (v := true) (by omega) (by rw [hlen]; omega) rfl rfl rfl ?_)
    intro w I
    refine Ops.nil ?_
    refine WPD.seq ?_
    refine WPD.region ?_
    refine Ops.y (v := .agg #[_, _]) (Y.loadv ty_25 rfl (I.rdbox 4 rfl 0 2) rfl rfl) ?_
    refine Ops.go (O.call I Tryz.call151 (uses_ok _ I.base_ok p) rfl ?_)
    rintro _ h2 w I le2 ⟨bp, rfl, hbp⟩
    refine Ops.nil ?_
    have hxi : x.toNat < N.length := by rw [hlen]; omega
    have hNx : N[x.toNat] = false := by have : N[x.toNat] = bv N x := by simp [bv, List.getD_eq_getElem?_getD, hxi]
                                        rw [this, ht]
    have htr2 := trues_set N x.toNat hxi hNx
    have htr3 := trues_le (N.set x.toNat true)
    rw [List.length_set, hlen] at htr3
    simp only [List.length_cons] at hsmall
    refine WPD.block ?_
    refine WPD.rangeFunc (σ := NdS) (fun s => box b9 [vI x] 3 :: NdU b8 b29 b2 p s.g s.o s.c s.q (N.set x.toNat true)) (fun k s => s.q = q ++ succs (usesL p.rules.xs) x k) (fun _ _ => False) ⟨g, if c = 1 then o else o + 1, c - 1, q, N, ms⟩ I (by simp [succs]) rfl Tryz.call179
      (uses1_iter p bp h2 hbp (hp.rules.le (gl1.trans le2))) (fun _ => rfl) (by kernel_rfl) (by kernel_rfl) (by kernel_rfl) ?_ ?_ ?_
    · rintro l r ms' hg k d ⟨g', o', c', q', N', ms2⟩ W hx gl I hq
      dsimp only at I hq ⊢
      have hd := List.mem_of_getElem? hx
      have hql : q'.length ≤ 300 := by have := succs_len (usesL p.rules.xs) x k; rw [hq, List.length_append]; omega
      refine WPI.seq ?_
      refine WPI.region (by kernel_rfl) ?_
      refine Ops.y (v := .int .i64 _) (Y.assign rfl) ?_
      refine Ops.nil ?_
      refine WPI.region (by kernel_rfl) ?_
      refine Ops.go (O.alloc I Tryz.zeroValue131 rfl ?_)
      intro b11 w I
      refine Ops.go (O.store (v := .agg #[_, _, _]) I ty_131 0 rfl rfl rfl rfl rfl rfl (Nat.le_of_ble_eq_true rfl) rfl ?_)
      intro w I
      refine Ops.nil ?_
      refine ⟨hg, [box b11 d.2.enc 131], Heap.le.refl _, I, fun r' W2 I => ?_⟩
      refine WPI.block ?_
      refine WPI.seq ?_
      refine WPI.region (by kernel_rfl) ?_
      refine Ops.y (v := .int .i64 _) (Y.move rfl) ?_
      refine Ops.y (v := .int .i64 _) (Y.loadv ty_3 rfl (I.rdbox 1 rfl 0 1) rfl rfl) ?_
      refine Ops.y (v := .bool (decide _)) (Y.eqi rfl rfl) ?_
      refine Ops.nil ?_
      refine WPI.cond_dec rfl (fun h16 => ?_) (fun h16 => ?_)
      · refine WPI.region (by kernel_rfl) ?_
        refine Ops.y (v := .slice _ _ _) (Y.loadv ty_45 rfl (I.rdbox 2 rfl 0 1) rfl rfl) ?_
        refine Ops.y (v := .pointer (some ⟨_, _, none⟩)) (Y.fa fa_131_1 rfl) ?_
        refine Ops.y (v := .pointer (some ⟨_, _, none⟩)) (Y.fa0 fa_65_0 rfl) ?_
        refine Ops.y (v := .int .i64 _) (Y.loadv ty_3 rfl (I.rdbox 0 rfl 1 1) rfl rfl) ?_
        refine Ops.go (O.mksl (xs := [d.2.atom.pred]) (enc := iEnc) I Tryz.underlying45 Tryz.sizeOf3 Tryz.zeroValue3 rfl (Nat.le_of_ble_eq_true rfl) rfl rfl (by decide) (fun _ => rfl) ?_)
        intro b58 h58 w I le58 sl58
        refine Ops.go (O.appendQ (v := vI d.2.atom.pred) I Tryz.underlying45 et_3 3 rfl rfl rfl (I.rd (sl58 0 _ rfl).2) rfl (by simp; omega) (by simp; omega) ?_)
        intro g2 o2 c2 w I
        refine Ops.go (O.store (v := .slice _ _ _) I ty_45 2 rfl rfl rfl rfl rfl rfl (Nat.le_of_ble_eq_true rfl) rfl ?_)
        intro w I
        refine Ops.nil ?_
        have e1 : q'.map vI ++ [vI d.2.atom.pred] = (q' ++ [d.2.atom.pred]).map vI := by simp
        have e2 : (q'.map vI).length + 1 = ((q' ++ [d.2.atom.pred]).map vI).length := by simp
        rw [e1, e2] at I
        exact ⟨h58, ⟨g2, o2, c2, q' ++ [d.2.atom.pred], N', ms2⟩, [box b11 d.2.enc 131], le58, I, by dsimp only; rw [succs_at hx, if_pos h16, hq, List.append_assoc]⟩
      · refine WPI.skip ?_
        exact ⟨hg, ⟨g', o', c', q', N', ms2⟩, [box b11 d.2.enc 131], Heap.le.refl _, I, by dsimp only; rw [succs_at hx, if_neg h16, hq, List.append_nil]⟩
    · rintro D h3 ⟨g', o', c', q', N', ms2⟩ W gl I hq
      dsimp only at I hq
      have hsl := succs_len (usesL p.rules.xs) x (usesL p.rules.xs).length
      have hql : q'.length = q.length + (succs (usesL p.rules.xs) x (usesL p.rules.xs).length).length := by rw [hq, List.length_append]
      have hxl : x < N.length := by rw [hlen]; exact x1
      refine ⟨⟨g', o', c', q', N.set x.toNat true, D :: ms⟩, ⟨⟨rfl, rfl, rfl, trivial⟩, rfl, ⟨⟨h3, (gl1.trans le2).trans gl, I.drop⟩, by simp [hlen], fun i i0 i1 h => ?_, fun y hy => ?_, fun d hd hb => ?_, ?_, by dsimp only; omega⟩⟩, by dsimp only; simp only [List.length_cons]; omega⟩
      · dsimp only at h
        rw [bv_set x0 hxl _ _ i0] at h
        split at h
        · rename_i e; rw [e]; exact hxr
        · exact hsnd i i0 i1 h
      · dsimp only at hy
        rw [hq] at hy
        rcases List.mem_append.1 hy with h | h
        · exact hqin y (List.mem_cons_of_mem _ h)
        · have hu := mem_succs.1 h
          refine ⟨?_, .step hxr hu⟩
          obtain ⟨d, hd, _, rfl⟩ := hu
          exact hr.b d hd
      · dsimp only at hb ⊢
        have hdh := hr.h d hd
        have hdb := hr.b d hd
        rw [bv_set x0 hxl _ _ hdh.1] at hb
        rw [bv_set x0 hxl _ _ hdb.1, hq]
        split at hb
        · rename_i e
          exact .inr (List.mem_append_right _ (mem_succs.2 ⟨d, hd, e, rfl⟩))
        · rcases hclo d hd hb with h | h
          · left; split
            · rfl
            · exact h
          · rcases List.mem_cons.1 h with e | h
            · left; rw [if_pos e]
            · exact .inr (List.mem_append_left _ h)
      · dsimp only
        rw [bv_set x0 hxl _ _ q0, hq]
        rcases hhas with h | h
        · left; split
          · rfl
          · exact h
        · rcases List.mem_cons.1 h with e | h
          · left; rw [if_pos e]
          · exact .inr (List.mem_append_left _ h)
    · rintro D c h3 s W gl I hx
      exact hx.elim
  · have hq : q = [] := by simpa using h8
    subst hq
    refine WPD.exit ?_
    refine WPD.seq ?_
    refine WPD.region ?_
    refine Ops.y (v := .slice _ _ _) (Y.move rfl) ?_
    refine Ops.y (v := .slice _ _ _) (Y.assign rfl) ?_
    refine Ops.y (v := .int .i64 _) (Y.assign rfl) ?_
    refine Ops.nil ?_
    refine WPD.ret ?_
    repeat (first | refine thenD_ret ?_ | refine blockD_ret ?_)
    show doneQ _ _ _ _ _ _ _ _
    have hbo := I.at 2 rfl
    obtain ⟨h4, le4, hb4, I⟩ := (I.front 2 rfl).settle
    have hhas' : bv N pr = true := hhas.resolve_right (by simp)
    exact ⟨.inl rfl, ms, [box b8 [.slice (some ⟨g, o, none⟩) (([] : List Int).map vI).length c] 45, ownQ 3 g o c (([] : List Int).map vI), box b2 p.enc 25], h4,
      [.slice (some ⟨b29, 0, none⟩) p.preds.xs.length p.preds.xs.length, .int .i64 0], rfl, I, fun w2 I2 => ⟨rfl, rfl, trivial⟩,
      .inr (.inr ⟨h0, ⟨q0, q1⟩, ⟨some ⟨b29, 0, none⟩, p.preds.xs.length, N⟩, NeedsR.of hlen hsnd hhas' (fun d hd hb => (hclo d hd hb).resolve_right (by simp)), boxIsB ((hb4 b29 (by simp [box])).trans hbo) (by rw [hlen]; omega), by simp [tup, Sl.val, hlen]⟩)⟩
end Go.TF
end
