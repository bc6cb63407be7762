/- Texts Base20 Semi2 Prog9 RoadsM Prog10 ProgLaw ProgLaw2 Nai2 Semi3 SpAsk Ask1 Base21 Ask2 Semi4. -/
import Derived.Test.YtgblgeddpegplaaGreatU6
import Derived.Test.YtgblgeddpegplaaGreatU8
import Derived.Test.YtgblgeddpegplaaGreatU3
import Derived.Test.YtgblgeddpegplaaGreatU4
import Derived.Test.YtgblgeddpegplaaGreatU7
import Derived.Test.YtgblgeddpegplaaGreatU2
section
/- A region in which a slice is made, and then turned into another, while what is loaded may be loaded ahead or behind. -/
namespace Go.TF
open Go Go.RowKit

structure DlS where
  h : Heap
  o2 : Option Value
  o4 : Option Value
def pcD (T k n m : Nat) (c2 c4 : List Value) (o2 o4 : Option Value) : List SA := match o4 with
  | some v => [ownSl T k v m c4]
  | none => match o2 with
    | some v => [ownSl T k v n c2]
    | none => []
structure JDl (B : Base) (M : List SA) (T k n m : Nat) (c2 c4 : List Value) (i2 i4 : Nat) (D : Nat → Bool) (s : DlS) (w : World) : Prop where
  h2 : s.o2.isSome = D i2
  h4 : s.o4.isSome = D i4
  ord : D i4 = true → D i2 = true
  inv : Inv B s.h (pcD T k n m c2 c4 s.o2 s.o4 ++ M) w
structure RDl (s s' : DlS) : Prop where
  h : s.h.le s'.h
  h2 : ∀ v, s.o2 = some v → s'.o2 = some v
  h4 : ∀ v, s.o4 = some v → s'.o4 = some v
theorem RDl.pre : Pre RDl := ⟨fun _ => ⟨Heap.le.refl _, fun _ h => h, fun _ h => h⟩, fun _ _ _ h k => ⟨h.h.trans k.h, fun b e => k.h2 b (h.h2 b e), fun b e => k.h4 b (h.h4 b e)⟩⟩
def AtD2 (u : Value) (s : DlS) : Prop := s.o2 = some u
def AtD4 (u : Value) (s : DlS) : Prop := s.o4 = some u
theorem AtD2.mono : MonoG RDl AtD2 := fun _ _ _ r h => r.h2 _ h
theorem AtD4.mono : MonoG RDl AtD4 := fun _ _ _ r h => r.h4 _ h
section
variable {P : Program} {o : Oper} {e : Env} {B : Base} {M : List SA} {T k n m : Nat} {c2 c4 : List Value} {i2 i4 i : Nat} {D : Nat → Bool} {s : DlS} {w : World}
theorem JDl.base (j : JDl B M T k n m c2 c4 i2 i4 D s w) : Inv B s.h M w := j.inv.weak (List.sublist_append_right _ _)
theorem JDl.set (h : i2 ≠ i ∧ i4 ≠ i) : ∀ D s w, JDl B M T k n m c2 c4 i2 i4 D s w → JDl B M T k n m c2 c4 i2 i4 (setD D i) s w := fun D s w j => by
  have e : ∀ x, x ≠ i → setD D i x = D x := fun x hx => by simp [setD, hx]
  exact ⟨by rw [e _ h.1]; exact j.h2, by rw [e _ h.2]; exact j.h4, by rw [e _ h.1, e _ h.2]; exact j.ord, j.inv⟩
theorem JDl.first (j : JDl B M T k n m c2 c4 i2 i4 D s w) (hD : D i2 = false) (h24 : i4 ≠ i2) (hop : Inv B s.h M w → Op1 P o e w fun u w' => ∃ h', s.h.le h' ∧ Inv B h' (ownSl T k u n c2 :: M) w') :
    Op1 P o e w fun u w' => ∃ s', RDl s s' ∧ JDl B M T k n m c2 c4 i2 i4 (setD D i2) s' w' ∧ AtD2 u s' := by
  have h2 : s.o2 = none := by have := j.h2; rw [hD] at this; cases h : s.o2 <;> simp_all
  have hD4 : D i4 = false := by
    cases h : D i4
    · rfl
    · rw [j.ord h] at hD; cases hD
  have h4 : s.o4 = none := by have := j.h4; rw [hD4] at this; cases h : s.o4 <;> simp_all
  refine (hop j.base).mono fun u w' ⟨h', hl, I⟩ => ⟨⟨h', some u, none⟩, ⟨hl, fun v hv => (by rw [h2] at hv; cases hv), fun v hv => (by rw [h4] at hv; cases hv)⟩, ⟨?_, ?_, fun hh => ?_, I⟩, rfl⟩
  · simp [setD]
  · rw [show setD D i2 i4 = D i4 by simp [setD, h24], hD4]; rfl
  · simp [setD]
theorem JDl.second (j : JDl B M T k n m c2 c4 i2 i4 D s w) (hD : D i4 = false) (h24 : i2 ≠ i4) {u2 : Value} (hu : AtD2 u2 s) (hop : Inv B s.h (ownSl T k u2 n c2 :: M) w → Op1 P o e w fun u w' => ∃ h', s.h.le h' ∧ Inv B h' (ownSl T k u m c4 :: M) w') :
    Op1 P o e w fun u w' => ∃ s', RDl s s' ∧ JDl B M T k n m c2 c4 i2 i4 (setD D i4) s' w' ∧ AtD4 u s' := by
  have h4 : s.o4 = none := by have := j.h4; rw [hD] at this; cases h : s.o4 <;> simp_all
  have h2 : s.o2 = some u2 := hu
  have I := j.inv
  rw [h4, h2] at I
  have hD2 : D i2 = true := by rw [← j.h2, h2]; rfl
  refine (hop I).mono fun u w' ⟨h', hl, I⟩ => ⟨⟨h', some u2, some u⟩, ⟨hl, fun v hv => (by rw [h2] at hv; exact hv), fun v hv => (by rw [h4] at hv; cases hv)⟩, ⟨?_, ?_, fun _ => ?_, I⟩, rfl⟩
  · rw [show setD D i4 i2 = D i2 by simp [setD, h24], hD2]; rfl
  · simp [setD]
  · rw [show setD D i4 i2 = D i2 by simp [setD, h24], hD2]
end
theorem WPD.regionG {σ : Type} {P : Program} {N : Nat} {D : List Deferred} {e : Env} {w : World} {Q : Exit → Env → World → List Deferred → Prop} {id : Nat} {ops : Array Oper} {J : (Nat → Bool) → σ → World → Prop} {R : σ → σ → Prop} (hm : Mixed P) (hR : Pre R) (s0 : σ) (I : J (fun _ => false) s0 w.drew) (m : Nat) (hB : flowB ops m = true)
    (k : OpsG P ops J R s0 0 [] (ops.toList.take m) e (fun L e' => ∀ D' h1 w1, (∀ j, j < m → D' j = true) → R s0 h1 → J D' h1 w1 → AllG (fun _ => true) h1 L e' fun e'' => Ops P ops (ops.toList.drop m) e'' w1 (fun e3 w3 => Q .normal e3 w3 D))) : WPD P N D (.region id ops true) e w Q := WPD.of (WP.regionG hm hR s0 I m hB k)
end Go.TF
end
section
/- Semi: the model, only what is new being used. -/
namespace Go.TF
open Go Go.RowKit Go.Proofs
set_option maxRecDepth 20000

def ToldS (p : Prg) (f : List Fct) (q : Nat → Bool) : Sp := fun v h => ∃ bp bo bf, v = .func (.func 130) #[] #[.pointer (some ⟨bp, 0, none⟩), .pointer (some ⟨bo, 0, none⟩), .pointer (some ⟨bf, 0, none⟩)] ∧
  Iter Tryz.prog 130 [.pointer (some ⟨bp, 0, none⟩), .pointer (some ⟨bo, 0, none⟩), .pointer (some ⟨bf, 0, none⟩)] tEnc (toldL p.preds.xs f p.rules.xs q) h
theorem ToldS.mono {p : Prg} {f : List Fct} {q : Nat → Bool} : MonoS (ToldS p f q) := fun _ _ _ hl ⟨a, b, c, e, it⟩ => ⟨a, b, c, e, it.le hl⟩
theorem told_len {l : List Prd} {f : List Fct} {rs : List Rul} {q : Nat → Bool} (h8 : rs.length ≤ 8) : (toldL l f rs q).length ≤ 1000 := by
  have key : ∀ k, (toldK l f rs q k).length ≤ k * 125 := fun k => by
    induction k with
    | zero => simp [toldK]
    | succ k ih =>
      rw [toldK_succ, List.length_append]
      have : (toldN l f rs q k).length ≤ 125 := by
        unfold toldN
        split
        · rw [List.length_map]
          unfold stepsF
          rw [List.length_map]
          exact Nat.le_trans (List.length_filter_le ..) (by decide +kernel)
        · simp
      omega
  have h1 := key rs.length
  show (toldK l f rs q rs.length).length ≤ 1000
  omega
def SemP (p : Prg) (v : Value) (h : Heap) : Prop := (checkProg p ≠ 0 ∧ v = .tuple #[.slice none 0 0, .int .i64 0, .int .i64 (checkProg p)]) ∨ (checkProg p = 0 ∧ ∃ (s : Sl Fct) (c : Nat), v = .tuple #[s.val, .int .i64 c, .int .i64 0] ∧ Fcts s h ∧ SemK p (strataM p) (numS (strataM p)) s.xs c)
def SJ (p : Prg) (M : List Int) (st : Int) (f0 : List Fct) (c : Nat) (b : Bool) (fr f : List Fct) : Prop := (b = true ∨ fr ≠ []) ∧ SCloB p M st f0 c b fr f ∨ b = false ∧ fr = [] ∧ SClo p M st true [] f0 f c
/-- What is put of what is told so far. -/
def someL (p : Prg) (M : List Int) (st : Int) (b : Bool) (fr f : List Fct) (k : Nat) : List (Stp × Fct) := ((toldL p.preds.xs f p.rules.xs (ofQ p M st)).take k).filter (semiQ p M st b fr)
theorem someL_succ {p : Prg} {M : List Int} {st : Int} {b : Bool} {fr f : List Fct} {k : Nat} (hk : k < (toldL p.preds.xs f p.rules.xs (ofQ p M st)).length) :
    someL p M st b fr f (k + 1) = someL p M st b fr f k ++ if semiQ p M st b fr (toldL p.preds.xs f p.rules.xs (ofQ p M st))[k] = true then [(toldL p.preds.xs f p.rules.xs (ofQ p M st))[k]] else [] := by
  unfold someL
  rw [List.take_succ_eq_append_getElem hk, List.filter_append]
  cases h : semiQ p M st b fr (toldL p.preds.xs f p.rules.xs (ofQ p M st))[k] <;> simp [h]
theorem someL_all {p : Prg} {M : List Int} {st : Int} {b : Bool} {fr f : List Fct} : someL p M st b fr f (toldL p.preds.xs f p.rules.xs (ofQ p M st)).length = semiL p M st b fr f := by
  unfold someL semiL; rw [List.take_length]
theorem someL_len {p : Prg} {M : List Int} {st : Int} {b : Bool} {fr f : List Fct} {k : Nat} (h8 : p.rules.xs.length ≤ 8) : (someL p M st b fr f k).length ≤ 1000 := by
  unfold someL
  refine Nat.le_trans (List.length_filter_le ..) ?_
  rw [List.length_take]
  have := told_len (l := p.preds.xs) (f := f) (q := ofQ p M st) h8
  omega
structure SmS where
  b11 : Nat
  first : Bool
  fr : Sl Fct
  f : Sl Fct
  c : Nat
  ms : List Nat
  h : Heap
set_option maxHeartbeats 16000000 in
theorem SemiModel_ok (B : Base) (hB : B.ok) (p : Prg) (hp : p.In B.h) (hnm : p.Nm) : Fn Tryz.prog 17 [p.val] B (SemP p) := by
  refine Fn.ofD Tryz.func17 rfl Tryz.ntmps17 (by kernel_rfl) (by simp) ?_
  intro e
  have I := Inv.start hB
  refine WPD.seq ?_
  refine WPD.region ?_
  refine Ops.go (O.box (v := .agg #[_, _]) I rfl rfl ?_)
  intro b1 w I
  refine Ops.y (v := .slice _ _ _) (Y.assign rfl) ?_
  refine Ops.y (v := .int .i64 _) (Y.assign rfl) ?_
  refine Ops.y (v := .int .i64 _) (Y.assign rfl) ?_
  refine Ops.nil ?_
  by_cases hpr : checkProg p ≠ 0
  · refine WPD.seq ?_
    refine WPD.region ?_
    refine Ops.y (v := .agg #[_, _]) (Y.loadv ty_25 rfl (I.rdbox 0 rfl 0 2) rfl rfl) ?_
    refine Ops.go (O.call I Tryz.call61 (Strata_ok _ I.base_ok p hp hnm) rfl ?_)
    rintro v h1 w I le1 hS
    rcases hS with ⟨_, rfl⟩ | ⟨h0, _⟩
    rotate_left
    exact absurd h0 hpr
    refine Ops.y (v := .tuple #[_, _]) (Y.move rfl) ?_
    refine Ops.y (v := .slice _ _ _) (Y.extract rfl rfl) ?_
    refine Ops.y (v := .int .i64 _) (Y.extract rfl rfl) ?_
    refine Ops.y (v := .slice _ _ _) (Y.assign rfl) ?_
    refine Ops.y (v := .int .i64 _) (Y.assign rfl) ?_
    refine Ops.nil ?_
    refine WPD.seq ?_
    refine WPD.seq ?_
    refine WPD.region ?_
    refine Ops.y (v := .int .i64 _) (Y.move rfl) ?_
    refine Ops.y (v := .bool (decide _)) (Y.nei rfl rfl) ?_
    refine Ops.nil ?_
    refine WPD.cond_decT rfl (hpr) ?_
    refine WPD.seq ?_
    refine WPD.region ?_
    refine Ops.y (v := .int .i64 _) (Y.move rfl) ?_
    refine Ops.y (v := .slice _ _ _) (Y.assign rfl) ?_
    refine Ops.y (v := .int .i64 _) (Y.assign rfl) ?_
    refine Ops.y (v := .int .i64 _) (Y.assign rfl) ?_
    refine Ops.nil ?_
    refine WPD.ret ?_
    repeat (first | refine thenD_ret ?_ | refine blockD_ret ?_)
    show doneQ _ _ _ _ _ _ _ _
    exact ⟨.inl rfl, [], _, _, [.slice none 0 0, .int .i64 0, .int .i64 (checkProg p)], rfl, by rw [List.map_nil, List.append_nil]; exact I, fun w2 I2 => ⟨rfl, rfl, rfl, trivial⟩, .inl ⟨hpr, rfl⟩⟩
  have hpr := Decidable.not_not.1 hpr
  obtain ⟨k1, k2, k3, _, _⟩ := checkProg_ok hpr
  have rk := chk_rok hpr
  have ok0 := chk_nil hpr
  refine WPD.seq ?_
  refine WPD.region ?_
  refine Ops.y (v := .agg #[_, _]) (Y.loadv ty_25 rfl (I.rdbox 0 rfl 0 2) rfl rfl) ?_
  refine Ops.go (O.call I Tryz.call61 (Strata_ok _ I.base_ok p hp hnm) rfl ?_)
  rintro v h1 w I le1 hS
  rcases hS with ⟨h0, _⟩ | ⟨_, s, hS, hI, rfl⟩
  exact absurd hpr h0
  refine Ops.y (v := .tuple #[_, _]) (Y.move rfl) ?_
  refine Ops.y (v := .slice _ _ _) (Y.extract rfl rfl) ?_
  refine Ops.y (v := .int .i64 _) (Y.extract rfl rfl) ?_
  refine Ops.y (v := .slice _ _ _) (Y.assign rfl) ?_
  refine Ops.y (v := .int .i64 _) (Y.assign rfl) ?_
  refine Ops.nil ?_
  have eM := strataM_eq hS
  have hsl : s.xs.length = p.preds.xs.length := hS.sol.len
  have hb5 := least_small hpr hS
  have hN5 := mostL_small hb5
  have hNe := numS_eq s.xs
  obtain ⟨N, hN⟩ : ∃ N, numS s.xs = N := ⟨_, rfl⟩
  refine WPD.seq ?_
  refine WPD.seq ?_
  refine WPD.region ?_
  refine Ops.y (v := .int .i64 _) (Y.move rfl) ?_
  refine Ops.y (v := .bool (decide _)) (Y.nei rfl rfl) ?_
  refine Ops.nil ?_
  refine WPD.cond_decF rfl ((fun h => h rfl)) ?_
  refine WPD.skip ?_
  refine WPD.seq ?_
  refine WPD.region ?_
  refine Ops.go (O.alloc I Tryz.zeroValue26 rfl ?_)
  intro b7 w I
  refine Ops.nil ?_
  refine WPD.seq ?_
  refine WPD.region ?_
  refine Ops.go (O.alloc I Tryz.zeroValue3 rfl ?_)
  intro b8 w I
  refine Ops.go (O.store (v := .int .i64 _) I ty_3 0 rfl rfl rfl rfl rfl rfl (Nat.le_of_ble_eq_true rfl) rfl ?_)
  intro w I
  refine Ops.nil ?_
  refine WPD.seq ?_
  refine WPD.seq ?_
  refine WPD.region ?_
  refine Ops.y (v := .slice _ _ _) (Y.move rfl) ?_
  refine Ops.go (O.callv I Tryz.call62 (hN ▸ NStrata_ok _ I.base_ok s hI hb5) rfl ?_)
  intro w I
  refine Ops.y (v := .int .i64 _) (Y.move rfl) ?_
  refine Ops.nil ?_
  refine WPD.block ?_
  refine WPD.loop (σ := SmS × Nat) (fun s' => [(1, .pointer (some ⟨b1, 0, none⟩)), (5, s.val), (7, .pointer (some ⟨b7, 0, none⟩)), (8, .pointer (some ⟨b8, 0, none⟩)), (24, .int .i64 N), (25, .int .i64 s'.2)]) (fun s' => s'.1.ms.map mark)
    (fun s' w => Inv B s'.1.h ([box b8 [.int .i64 s'.1.c] 3, box b1 p.enc 25, box b7 [s'.1.f.val] 26] ++ s'.1.ms.map markSA) w ∧ s'.2 ≤ N ∧ h1.le s'.1.h ∧ FOk p.preds.xs s'.1.f.xs ∧ SemK p s.xs s'.2 s'.1.f.xs s'.1.c ∧ Fcts s'.1.f s'.1.h ∧ s'.1.c ≤ 1000 * (potF p.preds.xs s'.1.f.xs + s'.2)) (fun s' => N - s'.2)
    ⟨(⟨0, true, ⟨none, 0, []⟩, ⟨none, 0, []⟩, 0, [], h1⟩, 0), ⟨rfl, rfl, rfl, rfl, rfl, rfl, trivial⟩, rfl, I.perm (by simp only [List.map_nil, List.append_nil]; exact List.Perm.cons _ (List.Perm.swap _ _ _)), Nat.zero_le _, Heap.le.refl _, ok0, ⟨rfl, rfl⟩, fnil, Nat.zero_le _⟩ ?_
  rintro ⟨⟨_, _, _, f0, c0, ms, hh⟩, k⟩ e w ⟨I, hk, gl, okf0, hm, hf0, hc0⟩
  dsimp only at I hk gl okf0 hm hf0 hc0 ⊢
  refine WPD.seq ?_
  refine WPD.region ?_
  refine Ops.y (v := .bool (decide _)) (Y.lti rfl rfl) ?_
  refine Ops.nil ?_
  refine WPD.seq ?_
  refine WPD.cond_dec rfl (fun h7 => ?_) (fun h7 => ?_)
  · have hk' : k < N := by omega
    refine WPD.skip ?_
    refine WPD.seq ?_
    refine WPD.block ?_
    refine WPD.seq ?_
    refine WPD.region ?_
    refine Ops.y (v := .int .i64 _) (Y.move rfl) ?_
    refine Ops.y (v := .int .i64 _) (Y.assign rfl) ?_
    refine Ops.nil ?_
    refine WPD.seq ?_
    refine WPD.region ?_
    refine Ops.y (v := .agg #[_, _]) (Y.loadv ty_25 rfl (I.rdbox 1 rfl 0 2) rfl rfl) ?_
    refine Ops.y (v := .slice _ _ _) (Y.move rfl) ?_
    refine Ops.y (v := .int .i64 _) (Y.move rfl) ?_
    refine Ops.y (v := .agg #[.slice _ _ _, .slice _ _ _, .slice _ _ _, .int .i64 _, .slice _ _ _]) (Y.build pl_98 Tryz.zeroValue98 rfl rfl) ?_
    refine Ops.go (O.box (v := .agg #[_, _, _, _, _]) I rfl rfl ?_)
    intro b32 w I
    refine Ops.go (O.alloc I Tryz.zeroValue96 rfl ?_)
    intro b10 w I
    refine Ops.go (O.store (v := .pointer (some ⟨_, _, none⟩)) I ty_96 0 rfl rfl rfl rfl rfl rfl (Nat.le_of_ble_eq_true rfl) rfl ?_)
    intro w I
    refine Ops.nil ?_
    refine WPD.seq ?_
    refine WPD.region ?_
    refine Ops.go (O.alloc I Tryz.zeroValue4 rfl ?_)
    intro b11 w I
    refine Ops.go (O.store (v := .bool _) I ty_4 0 rfl rfl rfl rfl rfl rfl (Nat.le_of_ble_eq_true rfl) rfl ?_)
    intro w I
    refine Ops.nil ?_
    have hp1 := hp.le (le1.trans gl)
    refine WPD.block ?_
    refine WPD.loop (σ := SmS) (fun s' => [(1, .pointer (some ⟨b1, 0, none⟩)), (5, s.val), (7, .pointer (some ⟨b7, 0, none⟩)), (8, .pointer (some ⟨b8, 0, none⟩)), (9, .int .i64 k), (10, .pointer (some ⟨b10, 0, none⟩)), (11, .pointer (some ⟨s'.b11, 0, none⟩)), (24, .int .i64 N), (25, .int .i64 k)]) (fun s' => s'.ms.map mark)
      (fun s' w => Inv B s'.h ([box s'.b11 [.bool s'.first] 4, box b10 [.pointer (some ⟨b32, 0, none⟩)] 96, box b32 (newsE p s k s'.fr) 98, box b8 [.int .i64 s'.c] 3, box b1 p.enc 25, box b7 [s'.f.val] 26] ++ s'.ms.map markSA) w ∧ h1.le s'.h ∧ FOk p.preds.xs s'.f.xs ∧ FOk p.preds.xs s'.fr.xs ∧ SJ p s.xs k f0.xs (s'.c - c0) s'.first s'.fr.xs s'.f.xs ∧ c0 ≤ s'.c ∧ Fcts s'.f s'.h ∧ Fcts s'.fr s'.h ∧ s'.c ≤ 1000 * (potF p.preds.xs s'.f.xs + k + if s'.first = true ∨ s'.fr.xs ≠ [] then 0 else 1))
      (fun s' => 2 * (2001 - potF p.preds.xs s'.f.xs) + if s'.first = true ∨ s'.fr.xs ≠ [] then 1 else 0)
      ⟨⟨b11, true, ⟨none, 0, []⟩, f0, c0, ms, hh⟩, ⟨rfl, rfl, rfl, rfl, rfl, rfl, rfl, rfl, rfl, trivial⟩, rfl, I, gl, okf0, ok0, by rw [Nat.sub_self]; exact .inl ⟨.inl rfl, SCloB.zero⟩, Nat.le_refl _, hf0, fnil, by rw [if_pos (.inl rfl)]; exact hc0⟩ ?_
    rintro ⟨b11, first, fr, f, c, ms, h2⟩ e w ⟨I, gl2, okf, okfr, sj, hcc, hf, hfr, hcb⟩
    dsimp only at I gl2 okf okfr sj hcc hf hfr hcb ⊢
    have hp2 := hp.le (le1.trans gl2)
    have hI2 := hI.le gl2
    have h125 := okf.le125
    have hpl := potF_le p.preds.xs f.xs
    refine WPD.seq ?_
    refine WPD.seq ?_
    refine WPD.cutK (σ := Unit) (fun _ => [(1, .pointer (some ⟨b1, 0, none⟩)), (5, s.val), (7, .pointer (some ⟨b7, 0, none⟩)), (8, .pointer (some ⟨b8, 0, none⟩)), (9, .int .i64 k), (10, .pointer (some ⟨b10, 0, none⟩)), (11, .pointer (some ⟨b11, 0, none⟩)), (24, .int .i64 N), (25, .int .i64 k), (41, .bool (decide (first = true ∨ fr.xs ≠ [])))])
      (fun _ w => Inv B h2 ([box b11 [.bool first] 4, box b10 [.pointer (some ⟨b32, 0, none⟩)] 96, box b32 (newsE p s k fr) 98, box b8 [.int .i64 c] 3, box b1 p.enc 25, box b7 [f.val] 26] ++ ms.map markSA) w) (fun _ => ms.map mark) ?_ ?_
    · cases hfi : first
      · by_cases hfe : fr.xs = []
        · rw [hfi] at I
          refine WPD.region ?_
          refine Ops.y (v := .bool false) (Y.b (Y.loadv ty_4 rfl (I.rdbox 0 rfl 0 1) rfl rfl) (rfl)) ?_
          refine Ops.y (v := .bool _) (Y.move rfl) ?_
          refine Ops.ygt rfl (v := .pointer (some ⟨_, _, none⟩)) (Y.loadv ty_96 rfl (I.rdbox 1 rfl 0 1) rfl rfl) ?_
          refine Ops.ygt rfl (v := .pointer (some ⟨_, _, none⟩)) (Y.nilp rfl) ?_
          refine Ops.ygt rfl (v := .pointer (some ⟨_, _, none⟩)) (Y.fa fa_98_3 rfl) ?_
          refine Ops.ygt rfl (v := .slice _ _ _) (Y.loadv ty_26 rfl (I.rdbox 2 rfl 4 1) rfl rfl) ?_
          refine Ops.ygt rfl (v := .int .i64 _) (Y.lens Tryz.underlying26 rfl) ?_
          refine Ops.ygt rfl (v := .bool false) (Y.dec_f (Y.gti rfl rfl) ((by rw [hfe]; decide))) ?_
          refine Ops.y (v := .bool _) (Y.pick_f rfl rfl) ?_
          refine Ops.nil ?_
          exact ⟨(), ⟨rfl, rfl, rfl, rfl, rfl, rfl, rfl, rfl, rfl, congrArg Value.bool (decide_eq_false (by rw [hfe]; simp)).symm, trivial⟩, rfl, I⟩
        · rw [hfi] at I
          have : (fr.xs.length : Int) > 0 := by have := List.length_pos_iff.2 hfe; omega
          refine WPD.region ?_
          refine Ops.y (v := .bool false) (Y.b (Y.loadv ty_4 rfl (I.rdbox 0 rfl 0 1) rfl rfl) (rfl)) ?_
          refine Ops.y (v := .bool _) (Y.move rfl) ?_
          refine Ops.ygt rfl (v := .pointer (some ⟨_, _, none⟩)) (Y.loadv ty_96 rfl (I.rdbox 1 rfl 0 1) rfl rfl) ?_
          refine Ops.ygt rfl (v := .pointer (some ⟨_, _, none⟩)) (Y.nilp rfl) ?_
          refine Ops.ygt rfl (v := .pointer (some ⟨_, _, none⟩)) (Y.fa fa_98_3 rfl) ?_
          refine Ops.ygt rfl (v := .slice _ _ _) (Y.loadv ty_26 rfl (I.rdbox 2 rfl 4 1) rfl rfl) ?_
          refine Ops.ygt rfl (v := .int .i64 _) (Y.lens Tryz.underlying26 rfl) ?_
          refine Ops.ygt rfl (v := .bool true) (Y.dec_t (Y.gti rfl rfl) (this)) ?_
          refine Ops.y (v := .bool _) (Y.pick_f rfl rfl) ?_
          refine Ops.nil ?_
          exact ⟨(), ⟨rfl, rfl, rfl, rfl, rfl, rfl, rfl, rfl, rfl, congrArg Value.bool (decide_eq_true (.inr hfe)).symm, trivial⟩, rfl, I⟩
      · rw [hfi] at I
        refine WPD.region ?_
        refine Ops.y (v := .bool true) (Y.b (Y.loadv ty_4 rfl (I.rdbox 0 rfl 0 1) rfl rfl) (rfl)) ?_
        refine Ops.y (v := .bool _) (Y.move rfl) ?_
        refine Ops.gf rfl ?_
        refine Ops.gf rfl ?_
        refine Ops.gf rfl ?_
        refine Ops.gf rfl ?_
        refine Ops.gf rfl ?_
        refine Ops.gf rfl ?_
        refine Ops.y (v := .bool _) (Y.pick_t rfl rfl) ?_
        refine Ops.nil ?_
        exact ⟨(), ⟨rfl, rfl, rfl, rfl, rfl, rfl, rfl, rfl, rfl, congrArg Value.bool (decide_eq_true (.inl rfl)).symm, trivial⟩, rfl, I⟩
    rintro _ e w I
    refine WPD.cond_dec rfl (fun h11 => ?_) (fun h11 => ?_)
    · rw [if_pos h11] at hcb
      have hscb : SCloB p s.xs k f0.xs (c - c0) first fr.xs f.xs := by
        rcases sj with ⟨_, h⟩ | ⟨a1, a2, _⟩
        · exact h
        · rcases h11 with h | h
          · rw [a1] at h; cases h
          · exact absurd a2 h
      obtain ⟨ts, hts⟩ : ∃ t, toldL p.preds.xs f.xs p.rules.xs (ofQ p s.xs k) = t := ⟨_, rfl⟩
      have tf : ∀ t ∈ ts, factFine p.preds.xs t.2 = true := by rw [← hts]; exact told_fine rk okf
      have hsomef : ∀ j, ∀ t ∈ someL p s.xs k first fr.xs f.xs j, factFine p.preds.xs t.2 = true := fun j t ht => tf t (hts ▸ List.mem_of_mem_take (List.mem_filter.1 ht).1)
      refine WPD.skip ?_
      refine WPD.seq ?_
      refine WPD.block ?_
      refine WPD.seq ?_
      refine WPD.region ?_
      refine Ops.y (v := .slice _ _ _) (Y.loadv ty_26 rfl (I.rdbox 5 rfl 0 1) rfl rfl) ?_
      refine Ops.go (O.call I Tryz.call63 (CloneFct_ok _ I.base_ok f hf (by omega)) rfl ?_)
      rintro _ h3 w I le3 ⟨g0, rfl, eg, og, g0s⟩
      refine Ops.go (O.alloc I Tryz.zeroValue26 rfl ?_)
      intro b12 w I
      refine Ops.go (O.store (v := .slice _ _ _) I ty_26 0 rfl rfl rfl rfl rfl rfl (Nat.le_of_ble_eq_true rfl) rfl ?_)
      intro w I
      refine Ops.nil ?_
      have hp3 := hp2.le le3
      have hI3 := hI2.le le3
      have hf3 := hf.le le3
      refine WPD.seq ?_
      refine WPD.seq ?_
      refine WPD.regionF mixed I 7 (by kernel_rfl) ?_
      refine OpsF.y_ (v := .agg #[_, _]) (fun _ => runs_none _) (fun _ w us hl I => Y.loadv ty_25 rfl (I.rdbox 5 rfl 0 2) rfl rfl) ?_
      refine OpsF.y_ (v := .slice _ _ _) (fun _ => runs_none _) (fun _ w us hl I => Y.loadv ty_26 rfl (I.rdbox 6 rfl 0 1) rfl rfl) ?_
      refine OpsF.y_ (v := .agg #[_, _]) (fun _ => runs_none _) (fun _ w us hl I => Y.loadv ty_25 rfl (I.rdbox 5 rfl 0 2) rfl rfl) ?_
      refine OpsF.y_ (v := .slice _ _ _) (fun _ => runs_none _) (fun _ w us hl I => Y.move rfl) ?_
      refine OpsF.y_ (v := .int .i64 _) (fun _ => runs_none _) (fun _ w us hl I => Y.move rfl) ?_
      refine OpsF.x_ (Φ := ROfS p s.xs k) ROfS.mono (fun _ => runs_none _) ?_ ?_
      · intro _ w hl I
        try unfold AllL
        refine O.call I Tryz.call65 (ROf_ok _ I.base_ok p s k) rfl ?_
        rintro _ h5 w I hl' ⟨b4, b3, b5, rfl, k4, k3', k5⟩
        exact ⟨_, hl', I, ⟨_, rfl, ROf1_ok p s k b4 b3 b5 k4 k3' k5 ((hp3.le hl).le hl') ((hI3.le hl).le hl') hS.sol.len (heads_in k3)⟩⟩
      refine OpsF.x_ (Φ := ToldS p f.xs (ofQ p s.xs k)) ToldS.mono (fun _ => runs_none _) ?_ ?_
      · intro _ w hl I u49 q49
        obtain ⟨cs, rfl, hoc⟩ := q49 rfl
        try unfold AllL
        refine O.call I Tryz.call64 (Told_ok _ I.base_ok p f 132 cs) rfl ?_
        rintro _ h6 w I hl' ⟨bp, bo, bf, rfl, kp, ko, kf⟩
        exact ⟨_, hl', I, ⟨bp, bo, bf, rfl, Told1_iter p f 132 cs (ofQ p s.xs k) bp bo bf h6 kp ko kf ((hp3.le hl).le hl') ((hf3.le hl).le hl') hpr okf (hoc.le hl')⟩⟩
      refine OpsF.nil ?_
      intro _ w hl I u49 q49 u50 q50
      refine Ops.nil ?_
      obtain ⟨bp, bo, bf, rfl, it⟩ := q50 rfl
      rw [hts] at it
      rename_i h4 _ _
      have le4 := le3.trans hl
      refine WPD.block ?_
      refine WPD.rangeFuncH (ms := ms) (σ := Sl Fct × Nat) (fun s' => [box b12 [s'.1.val] 26, box b11 [.bool first] 4, box b10 [.pointer (some ⟨b32, 0, none⟩)] 96, box b32 (newsE p s k fr) 98, box b8 [.int .i64 s'.2] 3, box b1 p.enc 25, box b7 [f.val] 26])
        (fun j s' h => s'.1.xs = (turnL p.preds.xs f.xs (someL p s.xs k first fr.xs f.xs j)).1 ∧ s'.2 = c + (someL p s.xs k first fr.xs f.xs j).length ∧ Fcts s'.1 h) (fun _ _ _ => False) (fun _ _ _ _ hl hj => ⟨hj.1, hj.2.1, hj.2.2.le hl⟩) (g0, c) I ⟨eg, rfl, Sl.Is.le ⟨og.in Fct_len, by rw [eg]; omega⟩ hl⟩ rfl Tryz.call130
        it (fun _ => rfl) (by kernel_rfl) (by kernel_rfl) (by kernel_rfl) ?_ ?_ ?_
      · rintro l r ms' hg j t ⟨u, ch⟩ W hx gl I ⟨hj, hc, iu⟩
        dsimp only at hj hc iu
        have hjl := (List.getElem?_eq_some_iff.1 hx).1
        have hxj := (List.getElem?_eq_some_iff.1 hx).2
        have htm := List.mem_of_getElem? hx
        have hfine := tf t htm
        have hlen := someL_len (M := s.xs) (st := k) (b := first) (fr := fr.xs) (f := f.xs) (k := j) k2
        have oku : FOk p.preds.xs u.xs := by rw [hj]; exact turn_fok okf (hsomef j)
        obtain ⟨n, r1, hr1, hq1, hst1, he1⟩ := mem_told.1 (hts ▸ htm : t ∈ toldL p.preds.xs f.xs p.rules.xs (ofQ p s.xs k))
        obtain ⟨e1, hvs, hhf⟩ := steps_holds hst1
        have hsome : someL p s.xs k first fr.xs f.xs (j + 1) = someL p s.xs k first fr.xs f.xs j ++ if semiQ p s.xs k first fr.xs t = true then [t] else [] := by
          have hjl' : j < (toldL p.preds.xs f.xs p.rules.xs (ofQ p s.xs k)).length := by rw [hts]; exact hjl
          have := someL_succ (p := p) (M := s.xs) (st := k) (b := first) (fr := fr.xs) (f := f.xs) hjl'
          have e : (toldL p.preds.xs f.xs p.rules.xs (ofQ p s.xs k))[j] = t := by simp only [hts]; exact hxj
          rw [e] at this; exact this
        have gl4 := le4.trans gl
        refine WPI.seq ?_
        refine WPI.region (by kernel_rfl) ?_
        refine Ops.go (O.alloc I Tryz.zeroValue82 rfl ?_)
        intro b13 w I
        refine Ops.go (O.store (v := .agg #[_, _, _, _]) I ty_82 0 rfl rfl rfl rfl rfl rfl (Nat.le_of_ble_eq_true rfl) rfl ?_)
        intro w I
        refine Ops.nil ?_
        refine WPI.region (by kernel_rfl) ?_
        refine Ops.go (O.alloc I Tryz.zeroValue52 rfl ?_)
        intro b14 w I
        refine Ops.go (O.store (v := .agg #[_, _, _, _]) I ty_52 0 rfl rfl rfl rfl rfl rfl (Nat.le_of_ble_eq_true rfl) rfl ?_)
        intro w I
        refine Ops.nil ?_
        refine ⟨hg, [box b14 t.2.enc 52, box b13 t.1.enc 82], Heap.le.refl _, I, fun r' W2 I => ?_⟩
        obtain ⟨hv, lev, _, kb, J, _, _⟩ := (I.front 5 rfl).lend
        have hno := newsOf_ok ⟨W2, hv⟩ J.base_ok p s k fr b32 ⟨kb, hp2.le (gl4.trans lev), hI2.le (gl4.trans lev), hfr.le (gl4.trans lev)⟩ t.1 r1 (by omega) (by rw [e1, Int.toNat_natCast]; exact hr1) (rk r1 (List.mem_of_getElem? hr1)) okfr hvs hsl
        have hpp := hp2.preds.le gl4
        cases hq : semiQ p s.xs k first fr.xs t
        · rw [hq] at hsome
          simp only [Bool.false_eq_true, if_false, List.append_nil] at hsome
          unfold semiQ at hq
          rw [Bool.or_eq_false_iff] at hq
          obtain ⟨hq0, hq2⟩ := hq
          subst hq0
          rw [hq2] at hno
          refine WPI.block ?_
          refine WPI.seq ?_
          refine WPI.region (by kernel_rfl) ?_
          refine Ops.y (v := .bool false) (Y.b (Y.loadv ty_4 rfl (I.rdbox 3 rfl 0 1) rfl rfl) (rfl)) ?_
          refine Ops.y (v := .bool _) (Y.move rfl) ?_
          refine Ops.ygt rfl (v := .pointer (some ⟨_, _, none⟩)) (Y.loadv ty_96 rfl (I.rdbox 4 rfl 0 1) rfl rfl) ?_
          refine Ops.ygt rfl (v := .agg #[_, _, _, _]) (Y.loadv ty_82 rfl (I.rdbox 1 rfl 0 4) rfl rfl) ?_
          refine Ops.gt rfl (O.callvH I Tryz.call66 (hno) rfl ?_)
          intro w I
          refine Ops.y (v := .bool _) (Y.pick_f rfl rfl) ?_
          refine Ops.nil ?_
          refine WPI.cond_f rfl ?_
          refine WPI.skip ?_
          exact ⟨hg, (u, ch), [box b14 t.2.enc 52, box b13 t.1.enc 82], Heap.le.refl _, I, by rw [hsome]; exact hj, by rw [hsome]; exact hc, iu⟩
        · rw [hq, if_pos rfl] at hsome
          have fin : ∀ u2 : Sl Fct, u2.xs = (addF (predOf p.preds.xs t.2.pred).kind u.xs t.2).1 → u2.xs = (turnL p.preds.xs f.xs (someL p s.xs k first fr.xs f.xs (j + 1))).1 := fun u2 h => by
            rw [hsome, turnL_snoc, h, hj]; rfl
          have fin2 : ch + 1 = c + (someL p s.xs k first fr.xs f.xs (j + 1)).length := by rw [hsome, List.length_append, List.length_singleton]; omega
          cases hfi : first
          · subst hfi
            have hq2 : newB p s.xs k fr.xs t.1 = true := by simpa [semiQ] using hq
            rw [hq2] at hno
            refine WPI.block ?_
            refine WPI.seq ?_
            refine WPI.region (by kernel_rfl) ?_
            refine Ops.y (v := .bool false) (Y.b (Y.loadv ty_4 rfl (I.rdbox 3 rfl 0 1) rfl rfl) (rfl)) ?_
            refine Ops.y (v := .bool _) (Y.move rfl) ?_
            refine Ops.ygt rfl (v := .pointer (some ⟨_, _, none⟩)) (Y.loadv ty_96 rfl (I.rdbox 4 rfl 0 1) rfl rfl) ?_
            refine Ops.ygt rfl (v := .agg #[_, _, _, _]) (Y.loadv ty_82 rfl (I.rdbox 1 rfl 0 4) rfl rfl) ?_
            refine Ops.gt rfl (O.callvH I Tryz.call66 (hno) rfl ?_)
            intro w I
            refine Ops.y (v := .bool _) (Y.pick_f rfl rfl) ?_
            refine Ops.nil ?_
            refine WPI.cond_t rfl ?_
            refine WPI.seq ?_
            refine WPI.region (by kernel_rfl) ?_
            refine Ops.y (v := .int .i64 _) (Y.loadv ty_3 rfl (I.rdbox 6 rfl 0 1) rfl rfl) ?_
            refine Ops.y (v := .int .i64 _) (Y.addi rfl rfl ⟨by omega, by omega⟩) ?_
            refine Ops.go (O.store (v := .int .i64 _) I ty_3 6 rfl rfl rfl rfl rfl rfl (Nat.le_of_ble_eq_true rfl) rfl ?_)
            intro w I
            refine Ops.nil ?_
            refine WPI.region (by kernel_rfl) ?_
            refine Ops.y (v := .pointer (some ⟨_, _, none⟩)) (Y.fa0 fa_25_0 rfl) ?_
            refine Ops.y (v := .slice _ _ _) (Y.loadv ty_22 rfl (I.rdbox 7 rfl 0 1) rfl rfl) ?_
            refine Ops.y (v := .slice _ _ _) (Y.loadv ty_26 rfl (I.rdbox 2 rfl 0 1) rfl rfl) ?_
            refine Ops.y (v := .agg #[_, _, _, _]) (Y.loadv ty_52 rfl (I.rdbox 0 rfl 0 4) rfl rfl) ?_
            refine Ops.go (O.call I Tryz.call67 (Put_ok _ I.base_ok p.preds hpp u iu oku t.2 hfine) rfl ?_)
            rintro _ h5 w I le5 ⟨u2, rfl, hu2, iu2⟩
            refine Ops.y (v := .tuple #[_, _]) (Y.move rfl) ?_
            refine Ops.y (v := .slice _ _ _) (Y.extract rfl rfl) ?_
            refine Ops.y (v := .bool _) (Y.extract rfl rfl) ?_
            refine Ops.go (O.store (v := .slice _ _ _) I ty_26 2 rfl rfl rfl rfl rfl rfl (Nat.le_of_ble_eq_true rfl) rfl ?_)
            intro w I
            refine Ops.nil ?_
            exact ⟨h5, (u2, ch + 1), [box b14 t.2.enc 52, box b13 t.1.enc 82], le5, I, fin u2 hu2, fin2, iu2⟩
          · subst hfi
            refine WPI.block ?_
            refine WPI.seq ?_
            refine WPI.region (by kernel_rfl) ?_
            refine Ops.y (v := .bool true) (Y.b (Y.loadv ty_4 rfl (I.rdbox 3 rfl 0 1) rfl rfl) (rfl)) ?_
            refine Ops.y (v := .bool _) (Y.move rfl) ?_
            refine Ops.gf rfl ?_
            refine Ops.gf rfl ?_
            refine Ops.gf rfl ?_
            refine Ops.y (v := .bool _) (Y.pick_t rfl rfl) ?_
            refine Ops.nil ?_
            refine WPI.cond_t rfl ?_
            refine WPI.seq ?_
            refine WPI.region (by kernel_rfl) ?_
            refine Ops.y (v := .int .i64 _) (Y.loadv ty_3 rfl (I.rdbox 6 rfl 0 1) rfl rfl) ?_
            refine Ops.y (v := .int .i64 _) (Y.addi rfl rfl ⟨by omega, by omega⟩) ?_
            refine Ops.go (O.store (v := .int .i64 _) I ty_3 6 rfl rfl rfl rfl rfl rfl (Nat.le_of_ble_eq_true rfl) rfl ?_)
            intro w I
            refine Ops.nil ?_
            refine WPI.region (by kernel_rfl) ?_
            refine Ops.y (v := .pointer (some ⟨_, _, none⟩)) (Y.fa0 fa_25_0 rfl) ?_
            refine Ops.y (v := .slice _ _ _) (Y.loadv ty_22 rfl (I.rdbox 7 rfl 0 1) rfl rfl) ?_
            refine Ops.y (v := .slice _ _ _) (Y.loadv ty_26 rfl (I.rdbox 2 rfl 0 1) rfl rfl) ?_
            refine Ops.y (v := .agg #[_, _, _, _]) (Y.loadv ty_52 rfl (I.rdbox 0 rfl 0 4) rfl rfl) ?_
            refine Ops.go (O.call I Tryz.call67 (Put_ok _ I.base_ok p.preds hpp u iu oku t.2 hfine) rfl ?_)
            rintro _ h5 w I le5 ⟨u2, rfl, hu2, iu2⟩
            refine Ops.y (v := .tuple #[_, _]) (Y.move rfl) ?_
            refine Ops.y (v := .slice _ _ _) (Y.extract rfl rfl) ?_
            refine Ops.y (v := .bool _) (Y.extract rfl rfl) ?_
            refine Ops.go (O.store (v := .slice _ _ _) I ty_26 2 rfl rfl rfl rfl rfl rfl (Nat.le_of_ble_eq_true rfl) rfl ?_)
            intro w I
            refine Ops.nil ?_
            exact ⟨h5, (u2, ch + 1), [box b14 t.2.enc 52, box b13 t.1.enc 82], le5, I, fin u2 hu2, fin2, iu2⟩
      · rintro Dm h5 ⟨u, ch⟩ W gl I ⟨hj, hc, iu⟩
        dsimp only at hj hc iu
        rw [← hts, someL_all] at hj hc
        have hjT : semiT p s.xs k first fr.xs f.xs = u.xs := hj.symm
        have hsl2 : (semiL p s.xs k first fr.xs f.xs).length ≤ 1000 := Nat.le_trans (List.length_filter_le ..) (told_len k2)
        have sf : ∀ t ∈ semiL p s.xs k first fr.xs f.xs, factFine p.preds.xs t.2 = true := fun t ht => tf t (hts ▸ (List.mem_filter.1 ht).1)
        have ru := run_up (semiL p s.xs k first fr.xs f.xs) (f.xs, false) okf sf
        have oku : FOk p.preds.xs u.xs := by rw [hj]; exact ru.fok
        have hup : underF p.preds.xs f.xs u.xs = true := by rw [hj]; exact ru.up
        have hu125 := oku.le125
        have gl5 := le4.trans gl
        obtain ⟨h6, le6, hb7, kb7, I, hn7, hB7⟩ := (I.front 6 rfl).lend
        have hBh6 := I.ext
        refine WPD.seq ?_
        refine WPD.regionG mixed RDl.pre ⟨h6, none, none⟩ (J := JDl B ([box b12 [u.val] 26, box b11 [.bool first] 4, box b10 [.pointer (some ⟨b32, 0, none⟩)] 96, box b32 (newsE p s k fr) 98, box b8 [.int .i64 ch] 3, box b1 p.enc 25] ++ (Dm :: ms).map markSA) 52 4 u.xs.length (keepL (sameQ f.xs) u.xs).length (u.xs.flatMap Fct.enc) ((keepL (sameQ f.xs) u.xs).flatMap Fct.enc) 2 4) ⟨rfl, rfl, fun h => (by cases h), I.drew⟩ 5 (by kernel_rfl) ?_
        refine OpsG.y_ (v := .pointer (some ⟨_, _, none⟩)) (fun _ => runsG_none _) RDl.pre (JDl.set (by decide)) (fun _ s w us hl hj => have I := hj.base; have hl := hl.h; Y.loadv ty_96 rfl (I.rdbox 2 rfl 0 1) rfl rfl) ?_
        refine OpsG.y_ (v := .slice _ _ _) (fun _ => runsG_none _) RDl.pre (JDl.set (by decide)) (fun _ s w us hl hj => have I := hj.base; have hl := hl.h; Y.loadv ty_26 rfl (I.rdbox 0 rfl 0 1) rfl rfl) ?_
        refine OpsG.x_ AtD2.mono (fun _ => runsG_none _) (fun D' z w hDk hl hj => ?_) ?_
        · refine AllG.all fun us => ?_
          refine hj.first hDk (by decide) fun I => ?_
          refine O.call I Tryz.call63 (CloneFct_ok _ I.base_ok u ((iu.le le6).le hl.h) (by omega)) rfl ?_
          rintro _ h7 w I hl' ⟨gs, rfl, eg, og, gs0⟩
          obtain ⟨h8, I, mono8, keep8⟩ := I.unsettle og (hBh6.trans hl.h)
          exact ⟨h8, mono8 _ hl' (Heap.le.refl _), by rw [eg] at I; exact I⟩
        refine OpsG.y_ (v := .func (.func 69) #[] #[.pointer (some ⟨b7, 0, none⟩)]) (fun _ => runsG_none _) RDl.pre (JDl.set (by decide)) (fun _ s w us hl hj => have I := hj.base; have hl := hl.h; Y.mkfunc rfl rfl) ?_
        refine OpsG.x_ AtD4.mono (fun _ => runsG_none _) (fun D' z w hDk hl hj => ?_) ?_
        · intro u71 q71
          refine hj.second hDk (by decide) (q71 rfl) fun I => ?_
          refine O.calls Tryz.call68 (DeleteFct_v I rfl (by omega) 69 Tryz.call69 [] [.pointer (some ⟨b7, 0, none⟩)] (sameQ f.xs) (semiM1_ok p.preds.xs f b7 u.xs (kb7.le hl.h) (((hf.le gl5).le le6).le hl.h) okf oku.fine)) rfl ?_
          rintro ed w ⟨v7, m7, rfl, rfl, I⟩
          refine ⟨_, rfl, ?_⟩
          exact ⟨z.h, Heap.le.refl _, I⟩
        refine OpsG.nil ?_
        intro D z w hD hl hj u71 q71 u73 q73
        have I := hj.inv
        have q73 : z.o4 = some u73 := q73 rfl
        rw [q73] at I
        obtain ⟨h9, I, mono9, hn9⟩ := I.unbox (hl.h _ _ hb7) hB7
        obtain ⟨h10, fs, le10, rfl, hfs, infs, I⟩ := (I.front 1 rfl).settleSl Fct_len rfl
        have I := I.perm perm_last6
        refine Ops.y (v := .pointer (some ⟨_, _, none⟩)) (Y.nilp rfl) ?_
        refine Ops.y (v := .pointer (some ⟨_, _, none⟩)) (Y.fa fa_98_3 rfl) ?_
        refine Ops.go (O.store (v := .slice _ _ _) I ty_26 3 rfl rfl rfl rfl rfl rfl (Nat.le_of_ble_eq_true rfl) rfl ?_)
        intro w I
        refine Ops.nil ?_
        have gl10 : h5.le h10 := (mono9 h5 (le6.trans hl.h) hn7).trans le10
        have efr : fs.xs = freshF f.xs u.xs := by rw [hfs, keep_fresh]
        have hfl : fs.xs.length ≤ u.xs.length := by rw [efr]; exact List.length_filter_le ..
        have okfs : FOk p.preds.xs fs.xs := by rw [efr]; exact ⟨oku.len, oku.preds, fun x hx => oku.fine x (List.mem_filter.1 hx).1, oku.srt.sublist List.filter_sublist⟩
        have hcc' : ch - c0 = (c - c0) + (semiL p s.xs k first fr.xs f.xs).length := by omega
        have hpu := potF_le p.preds.xs u.xs
        refine WPD.region ?_
        refine Ops.y (v := .slice _ _ _) (Y.loadv ty_26 rfl (I.rdbox 0 rfl 0 1) rfl rfl) ?_
        refine Ops.go (O.store (v := .slice _ _ _) I ty_26 6 rfl rfl rfl rfl rfl rfl (Nat.le_of_ble_eq_true rfl) rfl ?_)
        intro w I
        refine Ops.nil ?_
        refine WPD.seq ?_
        refine WPD.seq ?_
        refine WPD.region ?_
        refine Ops.y (v := .bool _) (Y.loadv ty_4 rfl (I.rdbox 1 rfl 0 1) rfl rfl) ?_
        refine Ops.nil ?_
        refine WPD.region ?_
        refine Ops.go (O.alloc I Tryz.zeroValue4 rfl ?_)
        intro b11 w I
        refine Ops.go (O.store (v := .bool _) I ty_4 0 rfl rfl rfl rfl rfl rfl (Nat.le_of_ble_eq_true rfl) rfl ?_)
        intro w I
        refine Ops.nil ?_
        refine WPD.region ?_
        refine Ops.go (O.store (v := .bool _) I ty_4 0 rfl rfl rfl rfl rfl rfl (Nat.le_of_ble_eq_true rfl) rfl ?_)
        intro w I
        refine Ops.nil ?_
        have hend : SJ p s.xs k f0.xs (ch - c0) false fs.xs u.xs ∧ (ch ≤ 1000 * (potF p.preds.xs u.xs + k + if False ∨ fs.xs ≠ [] then 0 else 1)) ∧ 2 * (2001 - potF p.preds.xs u.xs) + (if False ∨ fs.xs ≠ [] then 1 else 0) < 2 * (2001 - potF p.preds.xs f.xs) + 1 := by
          by_cases hfe : freshF f.xs u.xs = []
          · have huf : u.xs = f.xs := fresh_nil okf oku hup hfe
            have hno : ¬ (False ∨ fs.xs ≠ []) := by rw [efr, hfe]; simp
            refine ⟨.inr ⟨rfl, by rw [efr, hfe], by rw [hcc']; exact hscb.done hjT rfl hfe⟩, ?_, ?_⟩
            · rw [if_neg hno, huf]; omega
            · rw [if_neg hno, huf]; omega
          · have hne : u.xs ≠ f.xs := fun e => hfe (by rw [e]; exact fresh_self okf)
            have hlt := potF_lt okf oku hup hne
            have hyes : False ∨ fs.xs ≠ [] := .inr (by rw [efr]; exact hfe)
            refine ⟨.inl ⟨.inr (by rw [efr]; exact hfe), by rw [hcc', efr]; exact hscb.next hjT rfl hfe⟩, ?_, ?_⟩
            · rw [if_pos hyes]; omega
            · rw [if_pos hyes]; omega
        obtain ⟨he1, he2, he3⟩ := hend
        refine ⟨⟨b11, false, fs, u, ch, Dm :: ms, h10⟩, ⟨⟨rfl, rfl, rfl, rfl, rfl, rfl, rfl, rfl, rfl, trivial⟩, rfl, I.weak (.cons_cons _ (.cons _ (.cons _ (List.Sublist.refl _)))), gl2.trans (gl5.trans gl10), oku, okfs, he1, by dsimp only; omega, iu.le gl10, ⟨infs, by dsimp only; omega⟩, ?_⟩, ?_⟩
        · dsimp only; simp only [Bool.false_eq_true]; exact he2
        · dsimp only; rw [if_pos h11]; simp only [Bool.false_eq_true]; exact he3
      · rintro D c h4 _ W gl I hx
        exact hx.elim
    · have h12 : first = false ∧ fr.xs = [] := by
        rw [not_or, Bool.not_eq_true, Decidable.not_not] at h11; exact h11
      rw [if_neg h11] at hcb
      obtain ⟨hfi, hfe⟩ := h12
      have hcl : SClo p s.xs k true [] f0.xs f.xs (c - c0) := by
        rcases sj with ⟨h, _⟩ | ⟨_, _, h⟩
        · exact absurd h h11
        · exact h
      refine WPD.exit ?_
      refine WPD.region ?_
      refine Ops.y (v := .int .i64 _) (Y.addi rfl rfl ⟨by omega, by omega⟩) ?_
      refine Ops.y (v := .int .i64 _) (Y.move rfl) ?_
      refine Ops.nil ?_
      exact ⟨(⟨0, true, ⟨none, 0, []⟩, f, c, ms, h2⟩, k + 1), ⟨⟨rfl, rfl, rfl, rfl, rfl, rfl, trivial⟩, rfl, I.weak (.cons _ (.cons _ (.cons _ (List.Sublist.refl _)))), by dsimp only; omega, gl2, okf, ⟨f0.xs, c0, c - c0, hm, hcl, by dsimp only; omega⟩, hf, by dsimp only; omega⟩, by dsimp only; omega⟩
  obtain rfl : k = N := by omega
  refine WPD.exit ?_
  refine WPD.seq ?_
  refine WPD.regionQ mixed I (by kernel_rfl) ?_
  refine OpsQ.y (v := .slice _ _ _) (fun w I => Y.loadv ty_26 rfl (I.rdbox 2 rfl 0 1) rfl rfl) ?_
  refine OpsQ.y (v := .int .i64 _) (fun w I => Y.loadv ty_3 rfl (I.rdbox 0 rfl 0 1) rfl rfl) ?_
  refine OpsQ.y (v := .slice _ _ _) (fun w I => Y.assign rfl) ?_
  refine OpsQ.y (v := .int .i64 _) (fun w I => Y.assign rfl) ?_
  refine OpsQ.y (v := .int .i64 _) (fun w I => Y.assign rfl) ?_
  refine OpsQ.nil ?_
  intro w I
  refine WPD.ret ?_
  repeat (first | refine thenD_ret ?_ | refine blockD_ret ?_)
  show doneQ _ _ _ _ _ _ _ _
  exact ⟨.inl rfl, ms, [box b8 [.int .i64 c0] 3, box b1 p.enc 25, box b7 [f0.val] 26], hh, [f0.val, .int .i64 c0, .int .i64 0], rfl, I, fun w2 I2 => ⟨rfl, rfl, rfl, trivial⟩, .inr ⟨hpr, f0, c0, rfl, hf0, by rw [eM, hN]; exact hm⟩⟩
end Go.TF
end
section
/- Needs: who is needed, by a queue. -/
namespace Go.TF
open Go Go.RowKit Go.Proofs
set_option maxRecDepth 20000

structure NdS where
  g : Nat
  o : Nat
  c : Nat
  q : List Int
  N : List Bool
  ms : List Nat
@[reducible] def NdU (b8 bo b2 : Nat) (p : Prg) (g o c : Nat) (q : List Int) (N : List Bool) : List SA := [box b8 [.slice (some ⟨g, o, none⟩) (q.map vI).length c] 45, ownQ 3 g o c (q.map vI), box bo (N.map vB) 4, box b2 p.enc 25]
structure NdJ (B : Base) (b8 bo b2 : Nat) (p : Prg) (pr : Int) (s : NdS) (w : World) : Prop where
  inv : ∃ h1, B.h.le h1 ∧ Inv B h1 (NdU b8 bo b2 p s.g s.o s.c s.q s.N ++ s.ms.map markSA) w
  len : s.N.length = p.preds.xs.length
  snd : ∀ i : Int, 0 ≤ i → i < p.preds.xs.length → bv s.N i = true → Reach (usesL p.rules.xs) pr i
  qin : ∀ x ∈ s.q, (0 ≤ x ∧ x < p.preds.xs.length) ∧ Reach (usesL p.rules.xs) pr x
  clo : ∀ c ∈ usesL p.rules.xs, bv s.N c.1 = true → bv s.N c.2.atom.pred = true ∨ c.2.atom.pred ∈ s.q
  has : bv s.N pr = true ∨ pr ∈ s.q
  small : s.q.length ≤ 1 + 24 * trues s.N
end Go.TF
end
section
/- The roads, their arrays the caller's own. -/
namespace Go.TF
open Go Go.RowKit Go.Proofs
set_option maxRecDepth 20000

def prC : List Prd := [⟨bEdge, 2, 0⟩, ⟨bFar, 2, 2⟩, ⟨bLone, 1, 0⟩]
structure RoadsM (v : Value) (h : Heap) (M : List SA) (bp br : Nat) (r0 r1 r2 r3 r4 r5 r6 : Rul) : Prop where
  val : v = .agg #[.slice (some ⟨bp, 0, none⟩) 3 3, .slice (some ⟨br, 0, none⟩) 7 7]
  own : M = [box br ([r0, r1, r2, r3, r4, r5, r6].flatMap Rul.enc) 68, box bp (prC.flatMap Prd.enc) 62]
  is : ∀ x ∈ [r0, r1, r2, r3, r4, r5, r6], x.In h
  cap : ∀ x ∈ [r0, r1, r2, r3, r4, r5, r6], x.body.xs.length ≤ x.body.cap
  er : [r0, r1, r2, r3, r4, r5, r6].map Rul.er = roadsC.rules.xs
end Go.TF
end
section
/- What the laws of programs begin with. -/
namespace Go.TF
open Go Go.RowKit Go.Proofs
set_option maxRecDepth 20000

def LtlS (x : Ltl) : Sp := fun u h => ∃ y : Ltl, u = y.val ∧ y.er = x ∧ y.In h
theorem LtlS.mono {x : Ltl} : MonoS (LtlS x) := fun _ _ _ hl ⟨s, a, b, c⟩ => ⟨s, a, b, c.le hl⟩
def LtlsS (xs : List Ltl) : Sp := fun u h => ∃ s : Sl Ltl, u = s.val ∧ s.xs.map Ltl.er = xs ∧ Ltls s h ∧ s.at_ = some ⟨s.blk, s.off, none⟩
theorem LtlsS.mono {xs : List Ltl} : MonoS (LtlsS xs) := fun _ _ _ hl ⟨s, a, b, c, d⟩ => ⟨s, a, b, c.le hl, d⟩
def LtlsF (xs : List Ltl) : Sp := fun u h => ∃ s : Sl Ltl, u = s.val ∧ s.xs.map Ltl.er = xs ∧ Ltls s h ∧ s.at_ = some ⟨s.blk, s.off, none⟩ ∧ s.cap = s.xs.length
theorem LtlsF.mono {xs : List Ltl} : MonoS (LtlsF xs) := fun _ _ _ hl ⟨s, a, b, c, d⟩ => ⟨s, a, b, c.le hl, d⟩
theorem RoadsAt.nm {p : Prg} {h : Heap} (x : RoadsAt p h) : p.Nm := by
  unfold Prg.Nm
  rw [x.preds]
  decide
theorem RoadsAt.check {p : Prg} {h : Heap} (x : RoadsAt p h) : checkProg p = 0 := by rw [← checkProg_er, x.er, roads_check]
theorem RoadsAt.uses {p : Prg} {h : Heap} (x : RoadsAt p h) : (usesL p.rules.xs).map cEr = usesL roadsC.rules.xs := by
  rw [← usesL_er]
  have := congrArg (fun q : Prg => q.rules.xs) x.er
  exact congrArg usesL this
theorem RoadsAt.len {p : Prg} {h : Heap} (x : RoadsAt p h) : p.preds.xs.length = 3 := by rw [x.preds]; rfl
end Go.TF
end
section
/- The laws of programs: each returns true. -/
namespace Go.TF
open Go Go.RowKit Go.Proofs
set_option maxRecDepth 20000

theorem PrgOk.nm {p : Prg} {h : Heap} (x : PrgOk p h) : p.Nm := fun y hy => by
  have := (x.preds.each y hy).name
  have h2 : reachBytes ≤ 140737488355328 := by decide
  omega
end Go.TF
end
section
/- The other two laws of programs: each returns true. -/
namespace Go.TF
open Go Go.RowKit Go.Proofs
set_option maxRecDepth 20000

def Asked (L : List Int) (k : Int) (cs : List (Int × Ltl)) : Prop := lv L k = 0 ∨ ∃ c ∈ cs, c.1 = k ∧ lv L k = lst L c
theorem Least.asked {cs : List (Int × Ltl)} {n : Nat} {L : List Int} (hr : InR cs n) (h : Least cs n L) {k : Int} (k0 : 0 ≤ k) (k1 : k < n) : Asked L k cs := by
  refine Classical.byContradiction fun hno => ?_
  unfold Asked at hno
  have hz : lv L k ≠ 0 := fun e => hno (.inl e)
  have hc : ∀ c ∈ cs, c.1 = k → lv L k ≠ lst L c := fun c hc e e2 => hno (.inr ⟨c, hc, e, e2⟩)
  have hp := h.sol.pos k
  have hkl : k < L.length := by rw [h.sol.len]; exact k1
  have hle : ∀ i : Int, 0 ≤ i → lv (L.set k.toNat (lv L k - 1)) i ≤ lv L i := fun i h0 => by
    rw [lv_set k0 hkl _ _ h0]; split
    · rename_i e; subst e; omega
    · omega
  have hM : Sol cs n (L.set k.toNat (lv L k - 1)) := by
    refine ⟨by simp [h.sol.len], fun i => ?_, fun c hcm => ?_⟩
    · have key : ∀ i : Int, 0 ≤ i → 0 ≤ lv (L.set k.toNat (lv L k - 1)) i := fun i h0 => by
        rw [lv_set k0 hkl _ _ h0]; split
        · omega
        · exact h.sol.pos i
      by_cases h0 : 0 ≤ i
      · exact key i h0
      · rw [lv_neg _ (by omega)]; exact key 0 (Int.le_refl 0)
    · have hh := hr.h c hcm
      have hb := hr.b c hcm
      have hs := h.sol.sat c hcm
      have h2 := hle _ hb.1
      unfold SatC lst at hs ⊢
      rw [lv_set k0 hkl _ c.1 hh.1]
      split
      · rename_i e
        have := hc c hcm e
        unfold lst at this
        rw [e] at hs; omega
      · omega
  have := h.least _ hM k
  rw [lv_set k0 hkl _ _ k0, if_pos rfl] at this
  omega
theorem Least.lt {cs : List (Int × Ltl)} {n : Nat} {L : List Int} (hr : InR cs n) (h : Least cs n L) {i : Int} (h0 : 0 ≤ i) (h1 : i < n) : lv L i < n := by
  obtain ⟨M', hM', hlt⟩ := h.sol.small hr
  exact Int.lt_of_le_of_lt (h.least M' hM' i) (hlt i h0 h1)
theorem Reach.trans {cs : List (Int × Ltl)} {a b c : Int} (h : Reach cs a b) (k : Reach cs b c) : Reach cs a c := by
  induction k with
  | refl => exact h
  | step _ hu ih => exact .step ih hu
end Go.TF
end
section
/- The roads' model; what must be in any case of the model. -/
namespace Go.TF
open Go Go.RowKit Go.Proofs
set_option maxRecDepth 20000

def rdM0 : List Fct := ((cloF (turnT roadsC [0, 0, 1] 0) 8 []).getD ([], 0)).1
def rdM : List Fct := ((cloF (turnT roadsC [0, 0, 1] 1) 8 rdM0).getD ([], 0)).1
section
variable {p : Prg} {h : Heap} (hp : RoadsAt p h)
include hp
theorem rd_ofQs (st : Int) (n : Nat) (hn : n < 7) : ofQ p [0, 0, 1] st n = ofQ roadsC [0, 0, 1] st n := by
  have h1 : (p.rules.xs.map Rul.er).getD n default = roadsC.rules.xs.getD n default := by rw [rd_rules hp]
  have h2 : n < p.rules.xs.length := by rw [rd_len hp]; exact hn
  rw [List.getD_eq_getElem?_getD, List.getElem?_map, List.getElem?_eq_getElem h2] at h1
  unfold ofQ
  rw [← h1, List.getD_eq_getElem?_getD, List.getElem?_eq_getElem h2]
  rfl
theorem rd_told (st : Int) (f : List Fct) : toldL p.preds.xs f p.rules.xs (ofQ p [0, 0, 1] st) = toldL roadsC.preds.xs f roadsC.rules.xs (ofQ roadsC [0, 0, 1] st) := by
  rw [rd_preds hp, ← rd_rules hp, toldL_er]
  exact toldK_congr fun n hn => rd_ofQs hp st n (by rw [rd_len hp] at hn; exact hn)
theorem rd_getR (n : Nat) : (p.rules.xs.getD n default).er = roadsC.rules.xs.getD n default := by
  rw [← rd_rules hp, List.getD_eq_getElem?_getD, List.getD_eq_getElem?_getD, List.getElem?_map]
  cases p.rules.xs[n]? <;> rfl
end
end Go.TF
end
section
/- The roads' model by what is new; what must be in any case; the same follows. -/
namespace Go.TF
open Go Go.RowKit Go.Proofs
set_option maxRecDepth 20000

def sclF (p : Prg) (M : List Int) (st : Int) : Nat → Bool → List Fct → List Fct → Option (List Fct × Nat)
  | 0, _, _, _ => none
  | k + 1, b, fr, f => if (freshF f (semiT p M st b fr f)).isEmpty = true then some (semiT p M st b fr f, (semiL p M st b fr f).length) else (sclF p M st k false (freshF f (semiT p M st b fr f)) (semiT p M st b fr f)).map fun r => (r.1, (semiL p M st b fr f).length + r.2)
theorem sclF_sclo {p : Prg} {M : List Int} {st : Int} : ∀ {k : Nat} {b : Bool} {fr f r : List Fct} {n : Nat}, sclF p M st k b fr f = some (r, n) → SClo p M st b fr f r n
  | 0, _, _, _, _, _, h => by cases h
  | k + 1, b, fr, f, r, n, h => by
    rw [sclF] at h
    split at h
    · rename_i h2
      injection h with h
      injection h with h3 h4
      exact .stop h3 h4 (by rw [h3] at h2; exact List.isEmpty_iff.1 h2)
    · rename_i h2
      cases hc : sclF p M st k false (freshF f (semiT p M st b fr f)) (semiT p M st b fr f) with
      | none => rw [hc] at h; cases h
      | some x =>
        rw [hc] at h
        simp only [Option.map_some, Option.some.injEq, Prod.mk.injEq] at h
        obtain ⟨rfl, rfl⟩ := h
        exact .step rfl rfl (fun e => h2 (by rw [e]; rfl)) (sclF_sclo hc)
def rdC0 : Nat := ((sclF roadsC [0, 0, 1] 0 8 true [] []).getD ([], 0)).2
def rdC1 : Nat := ((sclF roadsC [0, 0, 1] 1 8 true [] rdM0).getD ([], 0)).2
theorem rdS0 : sclF roadsC [0, 0, 1] 0 8 true [] [] = some (rdM0, rdC0) := by kernel_rfl
theorem rdS1 : sclF roadsC [0, 0, 1] 1 8 true [] rdM0 = some (rdM, rdC1) := by kernel_rfl
theorem rdC_sum : rdC0 + rdC1 = 21 := by kernel_rfl
section
variable {p : Prg} {h : Heap} (hp : RoadsAt p h)
include hp
theorem rd_newB (M : List Int) (st : Int) (fr : List Fct) (s : Stp) : newB p M st fr s = newB roadsC M st fr s := by
  unfold newB
  rw [← rd_getR hp]
  exact (any_er _ (fun x => rfl) _).symm
theorem rd_semL (st : Int) (b : Bool) (fr f : List Fct) : semiL p [0, 0, 1] st b fr f = semiL roadsC [0, 0, 1] st b fr f := by
  unfold semiL
  rw [rd_told hp]
  congr 1
  funext t
  unfold semiQ
  rw [rd_newB hp]
theorem rd_semT (st : Int) (b : Bool) (fr f : List Fct) : semiT p [0, 0, 1] st b fr f = semiT roadsC [0, 0, 1] st b fr f := by
  unfold semiT
  rw [rd_semL hp, rd_preds hp]
theorem rd_sclF (st : Int) : ∀ (k : Nat) (b : Bool) (fr f : List Fct), sclF p [0, 0, 1] st k b fr f = sclF roadsC [0, 0, 1] st k b fr f
  | 0, _, _, _ => rfl
  | k + 1, b, fr, f => by
    rw [sclF, sclF, rd_semT hp, rd_semL hp, rd_sclF st k]
theorem rd_sem : SemK p (strataM p) (numS (strataM p)) rdM 21 := by
  rw [rd_strata hp, show numS [0, 0, 1] = 2 by decide]
  refine ⟨rdM0, rdC0, rdC1, ⟨[], 0, rdC0, ⟨rfl, rfl⟩, ?_, (Nat.zero_add _).symm⟩, ?_, rdC_sum.symm⟩
  · exact sclF_sclo (by rw [← rdS0]; exact rd_sclF hp 0 8 true [] [])
  · exact sclF_sclo (by rw [← rdS1]; exact rd_sclF hp 1 8 true [] rdM0)
end
theorem rd_Semi (B : Base) (hB : B.ok) (p : Prg) (hp : RoadsAt p B.h) : Fn Tryz.prog 17 [p.val] B (fun v h => ∃ s : Sl Fct, v = .tuple #[s.val, .int .i64 21, .int .i64 0] ∧ s.xs = rdM ∧ Fcts s h) :=
  (SemiModel_ok B hB p hp.is hp.nm).mono fun v h' _ hv => by
    rcases hv with ⟨h1, _⟩ | ⟨_, s, c, rfl, hs, hm⟩
    · exact absurd hp.check h1
    · obtain ⟨e1, e2⟩ := (rd_sem hp).uniq hm
      exact ⟨s, by rw [e2]; rfl, e1, hs⟩
theorem semiBegun_ok (B : Base) (hB : B.ok) : Fn Tryz.prog 20 [] B (fun v _ => v = .bool true) := by
  refine Fn.of Tryz.func20 rfl Tryz.ntmps20 (by kernel_rfl) (by simp) ?_
  intro e
  have I := Inv.start hB
  refine WP.seq ?_
  refine WP.region ?_
  refine Ops.y (v := .bool _) (Y.assign rfl) ?_
  refine Ops.nil ?_
  refine WP.seq ?_
  refine WP.region ?_
  refine Ops.go (O.call I Tryz.call81 (roads_ok _ I.base_ok) rfl ?_)
  rintro _ h1 w I le1 ⟨p1, rfl, hp1⟩
  refine Ops.go (O.call I Tryz.call17 (rd_Semi _ I.base_ok p1 hp1) rfl ?_)
  rintro _ h2 w I le2 ⟨m, rfl, em, im⟩
  refine Ops.y (v := .tuple #[_, _, _]) (Y.move rfl) ?_
  refine Ops.y (v := .slice _ _ _) (Y.extract rfl rfl) ?_
  refine Ops.y (v := .int .i64 _) (Y.extract rfl rfl) ?_
  refine Ops.y (v := .int .i64 _) (Y.extract rfl rfl) ?_
  refine Ops.y (v := .slice _ _ _) (Y.assign rfl) ?_
  refine Ops.y (v := .int .i64 _) (Y.assign rfl) ?_
  refine Ops.y (v := .int .i64 _) (Y.assign rfl) ?_
  refine Ops.nil ?_
  have n1 : m.xs.length = 17 := by rw [em]; kernel_rfl
  refine WP.seq ?_
  refine WP.region ?_
  refine Ops.y (v := .int .i64 _) (Y.move rfl) ?_
  refine Ops.y (v := .bool true) (Y.dec_t (Y.eqi rfl rfl) (rfl)) ?_
  refine Ops.y (v := .bool _) (Y.move rfl) ?_
  refine Ops.ygt rfl (v := .slice _ _ _) (Y.move rfl) ?_
  refine Ops.ygt rfl (v := .int .i64 _) (Y.lens Tryz.underlying26 rfl) ?_
  refine Ops.ygt rfl (v := .bool true) (Y.dec_t (Y.eqi rfl rfl) ((by rw [n1]; rfl))) ?_
  refine Ops.y (v := .bool _) (Y.pick_t rfl rfl) ?_
  refine Ops.y (v := .bool _) (Y.move rfl) ?_
  refine Ops.ygt rfl (v := .int .i64 _) (Y.move rfl) ?_
  refine Ops.ygt rfl (v := .bool true) (Y.dec_t (Y.eqi rfl rfl) (rfl)) ?_
  refine Ops.y (v := .bool _) (Y.pick_t rfl rfl) ?_
  refine Ops.y (v := .bool _) (Y.assign rfl) ?_
  refine Ops.nil ?_
  refine WP.ret ?_
  repeat (first | refine thenE_ret ?_ | refine blockE_ret ?_)
  exact retQ.mk (vs := [.bool _]) rfl ⟨rfl, trivial⟩ I.ext_of (rfl)
end Go.TF
end
section
/- What fits an atom: plain. -/
namespace Go.TF
open Go

end Go.TF
end
section
/- What fits an atom: the program's answer and the document's. -/
namespace Go.TF
open Go Go.RowKit Go.Proofs
set_option maxRecDepth 20000

section
variable {P : Program} {e : Env} {w : World} {B : Base} {h : Heap} {M : List SA} {t : TypeId} {pos : String} {af : Array Edge} {g : Option (Nat × Bool)} {d : Option Nat}
end
end Go.TF
end
section
/- A region in which a literal is made and appended to what the call owns, while what is loaded may be loaded ahead or behind. -/
namespace Go.TF
open Go Go.RowKit

structure ApS where
  h : Heap
  o7 : Option (Nat × Nat)
def pcA (T k n m : Nat) (v : Value) (xs x : List Value) (o7 : Option (Nat × Nat)) : SA := match o7 with
  | none => ownSl T k v n xs
  | some y => ownSl T k (.slice (some ⟨y.1, 0, none⟩) (n + m) y.2) (n + m) (xs ++ x)
structure JAp (B : Base) (M : List SA) (T k n m : Nat) (v : Value) (xs x : List Value) (i7 : Nat) (D : Nat → Bool) (s : ApS) (w : World) : Prop where
  h7 : s.o7.isSome = D i7
  inv : Inv B s.h (pcA T k n m v xs x s.o7 :: M) w
structure RAp (s s' : ApS) : Prop where
  h : s.h.le s'.h
  h7 : ∀ y, s.o7 = some y → s'.o7 = some y
theorem RAp.pre : Pre RAp := ⟨fun _ => ⟨Heap.le.refl _, fun _ h => h⟩, fun _ _ _ h k => ⟨h.h.trans k.h, fun y e => k.h7 y (h.h7 y e)⟩⟩
def AtAp (N : Nat) (u : Value) (s : ApS) : Prop := ∃ g c, u = .slice (some ⟨g, 0, none⟩) N c ∧ s.o7 = some (g, c)
theorem AtAp.mono {N : Nat} : MonoG RAp (AtAp N) := fun _ _ _ r ⟨g, c, h1, h2⟩ => ⟨g, c, h1, r.h7 _ h2⟩
def KnA (Φ : Sp) (u : Value) (s : ApS) : Prop := Φ u s.h
theorem KnA.mono {Φ : Sp} (hm : MonoS Φ) : MonoG RAp (KnA Φ) := fun _ _ _ r h => hm _ _ _ r.h h
section
variable {P : Program} {o : Oper} {e : Env} {B : Base} {M : List SA} {T k n m : Nat} {v : Value} {xs x : List Value} {i7 i : Nat} {D : Nat → Bool} {s : ApS} {w : World}
theorem JAp.base (j : JAp B M T k n m v xs x i7 D s w) : Inv B s.h M w := j.inv.drop
theorem JAp.set (h : i7 ≠ i) : ∀ D s w, JAp B M T k n m v xs x i7 D s w → JAp B M T k n m v xs x i7 (setD D i) s w := fun D s w j => ⟨by rw [show setD D i i7 = D i7 by simp [setD, h]]; exact j.h7, j.inv⟩
end
end Go.TF
end
section
/- Match and Only: the program's answers and the document's. -/
namespace Go.TF
open Go Go.RowKit Go.Proofs
set_option maxRecDepth 20000

theorem take_filter {α : Type} (q : α → Bool) {l : List α} {k : Nat} (hk : k < l.length) : (l.take (k + 1)).filter q = (l.take k).filter q ++ if q l[k] = true then [l[k]] else [] := by
  rw [List.take_succ_eq_append_getElem hk, List.filter_append]
  congr 1
  by_cases h : q l[k] = true
  · rw [if_pos h, List.filter_cons, if_pos h]; rfl
  · rw [if_neg h, List.filter_cons, if_neg h]; rfl
/-! ### Only -/
structure OnlQ (p : Prg) (pr : Int) (l : List Fct) : Prop where
  ex : ∃ q N g rs, Only p q N ∧ bv N pr = true ∧ ModK q (strataM q) (numS (strataM q)) g rs ∧ l = g.filter fun x => decide (x.pred = pr)
theorem OnlQ.eq {p : Prg} {pr : Int} {l f : List Fct} {rs : List Int} (o : OnlQ p pr l) (m : ModK p (strataM p) (numS (strataM p)) f rs) : l = f.filter fun x => decide (x.pred = pr) := by
  obtain ⟨q, N, g, rs', on, hb, mg, rfl⟩ := o.ex
  rw [on.model m mg, List.filter_filter]
  congr 1
  funext x
  by_cases h : x.pred = pr
  · rw [decide_eq_true h, Bool.true_and]; unfold nd; rw [h, hb]
  · rw [decide_eq_false h, Bool.false_and]
end Go.TF
end
section
/- The document's model by what is new; the law: returns true. -/
namespace Go.TF
open Go Go.RowKit Go.Proofs
set_option maxRecDepth 20000

set_option maxHeartbeats 4000000 in
theorem isNew_ok (B : Base) (hB : B.ok) (p : Prg) (hp : p.In B.h) (hpr : checkProg p = 0) (x : Stp) (r : Rul) (h0 : 0 ≤ x.rule) (hr : p.rules.xs[x.rule.toNat]? = some r) (hx : VsOk x.vars) (st : Int) (fr : Sl Fct) (hf : Fcts fr B.h) (okf : FOk p.preds.xs fr.xs) :
    Fn Tryz.prog 77 [p.val, x.val, .int .i64 st, fr.val] B (fun v _ => v = .bool (newB p (strataM p) st fr.xs x)) := by
  have rk := chk_rok hpr
  have hrm := List.mem_of_getElem? hr
  have ok := rk r hrm
  have hgd : p.rules.xs.getD x.rule.toNat default = r := by rw [List.getD_eq_getElem?_getD, hr]; rfl
  refine Fn.of Tryz.func77 rfl Tryz.ntmps77 (by kernel_rfl) (by simp) ?_
  intro e
  have I := Inv.start hB
  refine WP.seq ?_
  refine WP.region ?_
  refine Ops.go (O.box (v := .agg #[_, _]) I rfl rfl ?_)
  intro b4 w I
  refine Ops.go (O.box (v := .agg #[_, _, _, _]) I rfl rfl ?_)
  intro b5 w I
  refine Ops.y (v := .bool _) (Y.assign rfl) ?_
  refine Ops.nil ?_
  refine WP.seq ?_
  refine WP.region ?_
  refine Ops.y (v := .agg #[_, _]) (Y.loadv ty_25 rfl (I.rdbox 1 rfl 0 2) rfl rfl) ?_
  refine Ops.go (O.call I Tryz.call75 (StrataOf_ok _ I.base_ok p hp hpr) rfl ?_)
  rintro _ h1 w I le1 ⟨s, hS, hI, rfl⟩
  refine Ops.y (v := .slice _ _ _) (Y.assign rfl) ?_
  refine Ops.nil ?_
  have eM := strataM_eq hS
  have hsl : s.xs.length = p.preds.xs.length := hS.sol.len
  have hp1 := hp.le le1
  have Er := hp1.rules.is.el.el hr
  have ir := hp1.rules.each r hrm
  have hsb := ir.body.is.small
  refine WP.seq ?_
  refine WP.region ?_
  refine Ops.y (v := .pointer (some ⟨_, _, none⟩)) (Y.fa fa_25_1 rfl) ?_
  refine Ops.y (v := .slice _ _ _) (Y.loadv ty_23 rfl (I.rdbox 1 rfl 1 1) rfl rfl) ?_
  refine Ops.y (v := .pointer (some ⟨_, _, none⟩)) (Y.fa0 fa_82_0 rfl) ?_
  refine Ops.y (v := .int .i64 _) (Y.loadv ty_3 rfl (I.rdbox 0 rfl 0 1) rfl rfl) ?_
  refine Ops.y (v := .pointer (some ⟨_, _, none⟩)) (Y.idxEl Er Tryz.underlying23 Tryz.sizeOf68 rfl rfl h0 rfl) ?_
  refine Ops.y (v := .agg #[_, _, _, _, _]) (Y.loadv ty_68 rfl (I.rd (Er.rd.part 0 5)) rfl rfl) ?_
  refine Ops.go (O.alloc I Tryz.zeroValue68 rfl ?_)
  intro b10 w I
  refine Ops.go (O.store (v := .agg #[_, _, _, _, _]) I ty_68 0 rfl rfl rfl rfl rfl rfl (Nat.le_of_ble_eq_true rfl) rfl ?_)
  intro w I
  refine Ops.nil ?_
  refine WP.seq ?_
  refine WP.seq ?_
  refine WP.region ?_
  refine Ops.y (v := .int .i64 _) (Y.assign rfl) ?_
  refine Ops.nil ?_
  refine WP.block ?_
  refine WP.loopE (σ := Nat) (fun k => [(2, .int .i64 st), (3, fr.val), (4, .pointer (some ⟨b4, 0, none⟩)), (5, .pointer (some ⟨b5, 0, none⟩)), (9, s.val), (10, .pointer (some ⟨b10, 0, none⟩)), (11, .int .i64 k)])
    (fun k w => Inv B h1 [box b10 r.enc 68, box b5 x.enc 82, box b4 p.enc 25] w ∧ k ≤ r.body.xs.length ∧ ((r.body.xs.take k).any fun t => !t.neg && decide (lv s.xs t.atom.pred = st) && isF fr.xs (groundF t.atom x.vars)) = false) (fun k => r.body.xs.length - k)
    ⟨0, ⟨rfl, rfl, rfl, rfl, rfl, rfl, rfl, trivial⟩, I, Nat.zero_le _, rfl⟩ ?_
  rintro k e w ⟨I, hk, hn⟩
  refine WP.seq ?_
  refine WP.seq ?_
  refine WP.region ?_
  refine Ops.y (v := .int .i64 _) (Y.move rfl) ?_
  refine Ops.y (v := .pointer (some ⟨_, _, none⟩)) (Y.fa fa_68_3 rfl) ?_
  refine Ops.y (v := .slice _ _ _) (Y.loadv ty_66 rfl (I.rdbox 0 rfl 4 1) rfl rfl) ?_
  refine Ops.y (v := .int .i64 _) (Y.lens Tryz.underlying66 rfl) ?_
  refine Ops.y (v := .bool (decide _)) (Y.lti rfl rfl) ?_
  refine Ops.nil ?_
  refine WP.cond_dec rfl (fun h4 => ?_) (fun h4 => ?_)
  · have hk' : k < r.body.xs.length := by omega
    have E1 := ir.body.is.at hk'
    have ib := ir.body.each _ (List.getElem_mem hk')
    have ab := aok_of ok.preds (ok.body _ (List.getElem_mem hk'))
    have pb := ab.pf ok.five hx 0
    have El1 := hI.el.el (lv_some hsl ab.pred.1 ab.pred.2)
    have hnx := any_take (fun t : Ltl => !t.neg && decide (lv s.xs t.atom.pred = st) && isF fr.xs (groundF t.atom x.vars)) hk'
    rw [hn, Bool.false_or] at hnx
    cases hg : r.body.xs[k].neg
    · by_cases hlv : lv s.xs r.body.xs[k].atom.pred = st
      · refine WP.skip ?_
        refine WP.seq ?_
        refine WP.block ?_
        refine WP.seq ?_
        refine WP.seq ?_
        refine WP.region ?_
        refine Ops.y (v := .pointer (some ⟨_, _, none⟩)) (Y.fa fa_68_3 rfl) ?_
        refine Ops.y (v := .slice _ _ _) (Y.loadv ty_66 rfl (I.rdbox 0 rfl 4 1) rfl rfl) ?_
        refine Ops.y (v := .int .i64 _) (Y.move rfl) ?_
        refine Ops.y (v := .pointer (some ⟨_, _, none⟩)) (Y.idxEl E1 Tryz.underlying66 Tryz.sizeOf131 rfl rfl (Int.natCast_nonneg _) rfl) ?_
        refine Ops.y (v := .pointer (some ⟨_, _, none⟩)) (Y.fa0 fa_131_0 rfl) ?_
        refine Ops.y (v := .bool false) (Y.b (Y.loadv ty_4 rfl (I.rd (E1.rd.part 0 1)) rfl rfl) (hg)) ?_
        refine Ops.y (v := .bool _) (Y.move rfl) ?_
        refine Ops.ygt rfl (v := .slice _ _ _) (Y.move rfl) ?_
        refine Ops.ygt rfl (v := .pointer (some ⟨_, _, none⟩)) (Y.fa fa_68_3 rfl) ?_
        refine Ops.ygt rfl (v := .slice _ _ _) (Y.loadv ty_66 rfl (I.rdbox 0 rfl 4 1) rfl rfl) ?_
        refine Ops.ygt rfl (v := .int .i64 _) (Y.move rfl) ?_
        refine Ops.ygt rfl (v := .pointer (some ⟨_, _, none⟩)) (Y.idxEl E1 Tryz.underlying66 Tryz.sizeOf131 rfl rfl (Int.natCast_nonneg _) rfl) ?_
        refine Ops.ygt rfl (v := .pointer (some ⟨_, _, none⟩)) (Y.fa fa_131_1 rfl) ?_
        refine Ops.ygt rfl (v := .pointer (some ⟨_, _, none⟩)) (Y.fa0 fa_65_0 rfl) ?_
        refine Ops.ygt rfl (v := .int .i64 _) (Y.loadv ty_3 rfl (I.rd (E1.rd.part 1 1)) rfl rfl) ?_
        refine Ops.ygt rfl (v := .pointer (some ⟨_, _, none⟩)) (Y.idxEl El1 Tryz.underlying45 Tryz.sizeOf3 rfl rfl ab.pred.1 rfl) ?_
        refine Ops.ygt rfl (v := .int .i64 _) (Y.loadv ty_3 rfl (I.rd (El1.rd.part 0 1)) rfl rfl) ?_
        refine Ops.ygt rfl (v := .int .i64 _) (Y.move rfl) ?_
        refine Ops.ygt rfl (v := .bool false) (Y.dec_f (Y.nei rfl rfl) ((fun h => h hlv))) ?_
        refine Ops.y (v := .bool _) (Y.pick_f rfl rfl) ?_
        refine Ops.nil ?_
        refine WP.cond_f rfl ?_
        refine WP.skip ?_
        refine WP.seq ?_
        refine WP.regionQ mixed I (by kernel_rfl) ?_
        refine OpsQ.y (v := .slice _ _ _) (fun w I => Y.move rfl) ?_
        refine OpsQ.y (v := .pointer (some ⟨_, _, none⟩)) (fun w I => Y.fa fa_68_3 rfl) ?_
        refine OpsQ.y (v := .slice _ _ _) (fun w I => Y.loadv ty_66 rfl (I.rdbox 0 rfl 4 1) rfl rfl) ?_
        refine OpsQ.y (v := .int .i64 _) (fun w I => Y.move rfl) ?_
        refine OpsQ.y (v := .pointer (some ⟨_, _, none⟩)) (fun w I => Y.idxEl E1 Tryz.underlying66 Tryz.sizeOf131 rfl rfl (Int.natCast_nonneg _) rfl) ?_
        refine OpsQ.y (v := .pointer (some ⟨_, _, none⟩)) (fun w I => Y.fa fa_131_1 rfl) ?_
        refine OpsQ.y (v := .agg #[_, _]) (fun w I => Y.loadv ty_65 rfl (I.rd (E1.rd.part 1 2)) rfl rfl) ?_
        refine OpsQ.y (v := .pointer (some ⟨_, _, none⟩)) (fun w I => Y.fa fa_82_1 rfl) ?_
        refine OpsQ.y (v := .agg #[_, _, _]) (fun w I => Y.loadv ty_80 rfl (I.rdbox 1 rfl 1 3) rfl rfl) ?_
        refine OpsQ.c (fun w I => QC.callv I Tryz.call142 (ground_ok _ I.base_ok r.body.xs[k].atom ib x.vars ab.len ab.err) rfl) ?_
        refine OpsQ.c (fun w I => QC.callv I Tryz.call80 (rfind_ok _ I.base_ok fr (hf.le le1) okf.pf _ pb) rfl) ?_
        refine OpsQ.y (v := .tuple #[_, _]) (fun w I => Y.move rfl) ?_
        refine OpsQ.y (v := .int .i64 _) (fun w I => Y.extract rfl rfl) ?_
        refine OpsQ.y (v := .bool _) (fun w I => Y.extract rfl rfl) ?_
        refine OpsQ.y (v := .int .i64 _) (fun w I => Y.assign rfl) ?_
        refine OpsQ.y (v := .bool _) (fun w I => Y.assign rfl) ?_
        refine OpsQ.nil ?_
        intro w I
        refine WP.seq ?_
        refine WP.region ?_
        refine Ops.y (v := .bool _) (Y.move rfl) ?_
        refine Ops.nil ?_
        refine WP.cond rfl (fun h8 => ?_) (fun h8 => ?_)
        · have h8 : isF fr.xs (groundF r.body.xs[k].atom x.vars) = true := h8
          have hnew : newB p (strataM p) st fr.xs x = true := by
            unfold newB
            rw [hgd, eM]
            exact List.any_eq_true.2 ⟨_, List.getElem_mem hk', by rw [hg, decide_eq_true hlv, h8]; rfl⟩
          refine WP.seq ?_
          refine WP.region ?_
          refine Ops.y (v := .bool _) (Y.assign rfl) ?_
          refine Ops.nil ?_
          refine WP.ret ?_
          repeat (first | refine thenE_ret ?_ | refine blockE_ret ?_)
          exact retQ.mk (vs := [.bool _]) rfl ⟨rfl, trivial⟩ I.ext_of (by rw [hnew]; rfl)
        have h8 : isF fr.xs (groundF r.body.xs[k].atom x.vars) = false := h8
        refine WP.skip ?_
        refine WP.region ?_
        refine Ops.y (v := .int .i64 _) (Y.move rfl) ?_
        refine Ops.y (v := .int .i64 _) (Y.addi rfl rfl ⟨by omega, by omega⟩) ?_
        refine Ops.y (v := .int .i64 _) (Y.assign rfl) ?_
        refine Ops.nil ?_
        exact ⟨k + 1, ⟨⟨rfl, rfl, rfl, rfl, rfl, rfl, rfl, trivial⟩, I, by omega, by rw [hnx, h8, Bool.and_false]⟩, by omega⟩
      · refine WP.skip ?_
        refine WP.seq ?_
        refine WP.block ?_
        refine WP.seq ?_
        refine WP.seq ?_
        refine WP.region ?_
        refine Ops.y (v := .pointer (some ⟨_, _, none⟩)) (Y.fa fa_68_3 rfl) ?_
        refine Ops.y (v := .slice _ _ _) (Y.loadv ty_66 rfl (I.rdbox 0 rfl 4 1) rfl rfl) ?_
        refine Ops.y (v := .int .i64 _) (Y.move rfl) ?_
        refine Ops.y (v := .pointer (some ⟨_, _, none⟩)) (Y.idxEl E1 Tryz.underlying66 Tryz.sizeOf131 rfl rfl (Int.natCast_nonneg _) rfl) ?_
        refine Ops.y (v := .pointer (some ⟨_, _, none⟩)) (Y.fa0 fa_131_0 rfl) ?_
        refine Ops.y (v := .bool false) (Y.b (Y.loadv ty_4 rfl (I.rd (E1.rd.part 0 1)) rfl rfl) (hg)) ?_
        refine Ops.y (v := .bool _) (Y.move rfl) ?_
        refine Ops.ygt rfl (v := .slice _ _ _) (Y.move rfl) ?_
        refine Ops.ygt rfl (v := .pointer (some ⟨_, _, none⟩)) (Y.fa fa_68_3 rfl) ?_
        refine Ops.ygt rfl (v := .slice _ _ _) (Y.loadv ty_66 rfl (I.rdbox 0 rfl 4 1) rfl rfl) ?_
        refine Ops.ygt rfl (v := .int .i64 _) (Y.move rfl) ?_
        refine Ops.ygt rfl (v := .pointer (some ⟨_, _, none⟩)) (Y.idxEl E1 Tryz.underlying66 Tryz.sizeOf131 rfl rfl (Int.natCast_nonneg _) rfl) ?_
        refine Ops.ygt rfl (v := .pointer (some ⟨_, _, none⟩)) (Y.fa fa_131_1 rfl) ?_
        refine Ops.ygt rfl (v := .pointer (some ⟨_, _, none⟩)) (Y.fa0 fa_65_0 rfl) ?_
        refine Ops.ygt rfl (v := .int .i64 _) (Y.loadv ty_3 rfl (I.rd (E1.rd.part 1 1)) rfl rfl) ?_
        refine Ops.ygt rfl (v := .pointer (some ⟨_, _, none⟩)) (Y.idxEl El1 Tryz.underlying45 Tryz.sizeOf3 rfl rfl ab.pred.1 rfl) ?_
        refine Ops.ygt rfl (v := .int .i64 _) (Y.loadv ty_3 rfl (I.rd (El1.rd.part 0 1)) rfl rfl) ?_
        refine Ops.ygt rfl (v := .int .i64 _) (Y.move rfl) ?_
        refine Ops.ygt rfl (v := .bool true) (Y.dec_t (Y.nei rfl rfl) (hlv)) ?_
        refine Ops.y (v := .bool _) (Y.pick_f rfl rfl) ?_
        refine Ops.nil ?_
        refine WP.cond_t rfl ?_
        refine WP.exit ?_
        refine WP.region ?_
        refine Ops.y (v := .int .i64 _) (Y.move rfl) ?_
        refine Ops.y (v := .int .i64 _) (Y.addi rfl rfl ⟨by omega, by omega⟩) ?_
        refine Ops.y (v := .int .i64 _) (Y.assign rfl) ?_
        refine Ops.nil ?_
        exact ⟨k + 1, ⟨⟨rfl, rfl, rfl, rfl, rfl, rfl, rfl, trivial⟩, I, by omega, by rw [hnx, decide_eq_false hlv, Bool.and_false, Bool.false_and]⟩, by omega⟩
    · refine WP.skip ?_
      refine WP.seq ?_
      refine WP.block ?_
      refine WP.seq ?_
      refine WP.seq ?_
      refine WP.region ?_
      refine Ops.y (v := .pointer (some ⟨_, _, none⟩)) (Y.fa fa_68_3 rfl) ?_
      refine Ops.y (v := .slice _ _ _) (Y.loadv ty_66 rfl (I.rdbox 0 rfl 4 1) rfl rfl) ?_
      refine Ops.y (v := .int .i64 _) (Y.move rfl) ?_
      refine Ops.y (v := .pointer (some ⟨_, _, none⟩)) (Y.idxEl E1 Tryz.underlying66 Tryz.sizeOf131 rfl rfl (Int.natCast_nonneg _) rfl) ?_
      refine Ops.y (v := .pointer (some ⟨_, _, none⟩)) (Y.fa0 fa_131_0 rfl) ?_
      refine Ops.y (v := .bool true) (Y.b (Y.loadv ty_4 rfl (I.rd (E1.rd.part 0 1)) rfl rfl) (hg)) ?_
      refine Ops.y (v := .bool _) (Y.move rfl) ?_
      refine Ops.gf rfl ?_
      refine Ops.gf rfl ?_
      refine Ops.gf rfl ?_
      refine Ops.gf rfl ?_
      refine Ops.gf rfl ?_
      refine Ops.gf rfl ?_
      refine Ops.gf rfl ?_
      refine Ops.gf rfl ?_
      refine Ops.gf rfl ?_
      refine Ops.gf rfl ?_
      refine Ops.gf rfl ?_
      refine Ops.gf rfl ?_
      refine Ops.y (v := .bool _) (Y.pick_t rfl rfl) ?_
      refine Ops.nil ?_
      refine WP.cond_t rfl ?_
      refine WP.exit ?_
      refine WP.region ?_
      refine Ops.y (v := .int .i64 _) (Y.move rfl) ?_
      refine Ops.y (v := .int .i64 _) (Y.addi rfl rfl ⟨by omega, by omega⟩) ?_
      refine Ops.y (v := .int .i64 _) (Y.assign rfl) ?_
      refine Ops.nil ?_
      exact ⟨k + 1, ⟨⟨rfl, rfl, rfl, rfl, rfl, rfl, rfl, trivial⟩, I, by omega, by rw [hnx, hg]; rfl⟩, by omega⟩
  obtain rfl : k = r.body.xs.length := by omega
  rw [List.take_length] at hn
  have hnew : newB p (strataM p) st fr.xs x = false := by
    unfold newB
    rw [hgd, eM]
    exact hn
  refine WP.exit ?_
  refine WP.seq ?_
  refine WP.region ?_
  refine Ops.y (v := .bool _) (Y.assign rfl) ?_
  refine Ops.nil ?_
  refine WP.ret ?_
  repeat (first | refine thenE_ret ?_ | refine blockE_ret ?_)
  exact retQ.mk (vs := [.bool _]) rfl ⟨rfl, trivial⟩ I.ext_of (by rw [hnew]; rfl)
theorem isNew_at (B : Base) (hB : B.ok) (p : Prg) (hp : p.In B.h) (hpr : checkProg p = 0) (x : Stp) (r : Rul) (h0 : 0 ≤ x.rule) (hr : p.rules.xs[x.rule.toNat]? = some r) (hx : VsOk x.vars) (st : Int) (fr : Sl Fct) (hf : Fcts fr B.h) (okf : FOk p.preds.xs fr.xs) (M : List Int) (eM : strataM p = M) (b : Bool) (h : newB p M st fr.xs x = b) :
    Fn Tryz.prog 77 [p.val, x.val, .int .i64 st, fr.val] B (fun v _ => v = .bool b) := by
  subst eM; subst h
  exact isNew_ok B hB p hp hpr x r h0 hr hx st fr hf okf
/-! ### The told, so far -/
theorem toldK_len {l : List Prd} {f : List Fct} {rs : List Rul} {q : Nat → Bool} : ∀ k, (toldK l f rs q k).length ≤ k * 125
  | 0 => by simp [toldK]
  | k + 1 => by
    rw [toldK_succ, List.length_append]
    have ih := toldK_len (l := l) (f := f) (rs := rs) (q := q) k
    have : (toldN l f rs q k).length ≤ 125 := by
      unfold toldN
      split
      · rw [List.length_map]
        unfold stepsF
        rw [List.length_map]
        exact Nat.le_trans (List.length_filter_le ..) (by decide +kernel)
      · simp
    omega
def semN (p : Prg) (M : List Int) (st : Int) (b : Bool) (fr f : List Fct) (n k : Nat) : List (Stp × Fct) := (toldK p.preds.xs f p.rules.xs (ofQ p M st) n ++ (toldN p.preds.xs f p.rules.xs (ofQ p M st) n).take k).filter (semiQ p M st b fr)
section
variable {p : Prg} {M : List Int} {st : Int} {b : Bool} {fr f : List Fct} {n k : Nat}
theorem semN_len (hn : n < 8) : (semN p M st b fr f n k).length ≤ 1000 := by
  unfold semN
  refine Nat.le_trans (List.length_filter_le ..) ?_
  have h1 := toldK_len (l := p.preds.xs) (f := f) (rs := p.rules.xs) (q := ofQ p M st) (n + 1)
  rw [toldK_succ, List.length_append] at h1
  rw [List.length_append, List.length_take]
  omega
theorem semN_zero : semN p M st b fr f 0 0 = [] := by simp [semN, toldK]
theorem semN_next : semN p M st b fr f n (toldN p.preds.xs f p.rules.xs (ofQ p M st) n).length = semN p M st b fr f (n + 1) 0 := by
  unfold semN
  rw [List.take_length, List.take_zero, List.append_nil, toldK_succ]
theorem semN_none (h : toldN p.preds.xs f p.rules.xs (ofQ p M st) n = []) : semN p M st b fr f (n + 1) 0 = semN p M st b fr f n 0 := by
  rw [← semN_next, h]; rfl
theorem semN_step (hk : k < (toldN p.preds.xs f p.rules.xs (ofQ p M st) n).length) : semN p M st b fr f n (k + 1) = semN p M st b fr f n k ++ if semiQ p M st b fr (toldN p.preds.xs f p.rules.xs (ofQ p M st) n)[k] = true then [(toldN p.preds.xs f p.rules.xs (ofQ p M st) n)[k]] else [] := by
  unfold semN
  rw [List.take_succ_eq_append_getElem hk, ← List.append_assoc, List.filter_append]
  congr 1
  by_cases h : semiQ p M st b fr (toldN p.preds.xs f p.rules.xs (ofQ p M st) n)[k] = true
  · rw [if_pos h, List.filter_cons, if_pos h]; rfl
  · rw [if_neg h, List.filter_cons, if_neg h]; rfl
theorem semN_all : semN p M st b fr f p.rules.xs.length 0 = semiL p M st b fr f := by
  unfold semN semiL
  rw [List.take_zero, List.append_nil]
theorem semN_fine (hpr : checkProg p = 0) (okf : FOk p.preds.xs f) (hn : n ≤ p.rules.xs.length) (hk : n < p.rules.xs.length ∨ k = 0) : ∀ t ∈ semN p M st b fr f n k, factFine p.preds.xs t.2 = true := fun t ht => by
  refine told_fine (q := ofQ p M st) (rules_rok hpr okf) okf t ?_
  have ht := (List.mem_filter.1 ht).1
  rcases List.mem_append.1 ht with ht | ht
  · unfold toldK at ht
    obtain ⟨m, hm, ht⟩ := List.mem_flatMap.1 ht
    exact List.mem_flatMap.2 ⟨m, List.mem_range.2 (by have := List.mem_range.1 hm; omega), ht⟩
  · rcases hk with hk | rfl
    · exact List.mem_flatMap.2 ⟨n, List.mem_range.2 hk, List.mem_of_mem_take ht⟩
    · rw [List.take_zero] at ht; cases ht
end
theorem fresh_take {f g : List Fct} {k : Nat} (hk : k < g.length) : freshF f (g.take (k + 1)) = freshF f (g.take k) ++ if lkF f (placeF g[k]) ≠ some g[k].v then [g[k]] else [] := by
  unfold freshF
  rw [take_filter _ hk]
  congr 1
  by_cases h : lkF f (placeF g[k]) ≠ some g[k].v
  · rw [if_pos h, if_pos (decide_eq_true h)]
  · rw [if_neg h, if_neg (by rw [decide_eq_false h]; decide)]
def SofP (p : Prg) (v : Value) (h : Heap) : Prop := ∃ (s : Sl Fct) (c : Nat), v = .tuple #[s.val, .int .i64 c] ∧ Fcts s h ∧ SemK p (strataM p) (numS (strataM p)) s.xs c
structure SoS where
  first : Bool
  fr : Sl Fct
  f : Sl Fct
  c : Nat
  h : Heap
set_option maxHeartbeats 16000000 in
theorem SemiOf_ok (B : Base) (hB : B.ok) (p : Prg) (hp : p.In B.h) (hpr : checkProg p = 0) : Fn Tryz.prog 19 [p.val] B (SofP p) := by
  obtain ⟨k1, k2, k3, _, _⟩ := checkProg_ok hpr
  have rk := chk_rok hpr
  have ok0 := chk_nil hpr
  have hin := heads_in k3
  refine Fn.of Tryz.func19 rfl Tryz.ntmps19 (by kernel_rfl) (by simp) ?_
  intro e
  have I := Inv.start hB
  refine WP.seq ?_
  refine WP.region ?_
  refine Ops.go (O.box (v := .agg #[_, _]) I rfl rfl ?_)
  intro b1 w I
  refine Ops.y (v := .slice _ _ _) (Y.assign rfl) ?_
  refine Ops.y (v := .int .i64 _) (Y.assign rfl) ?_
  refine Ops.nil ?_
  refine WP.seq ?_
  refine WP.region ?_
  refine Ops.y (v := .agg #[_, _]) (Y.loadv ty_25 rfl (I.rdbox 0 rfl 0 2) rfl rfl) ?_
  refine Ops.go (O.call I Tryz.call75 (StrataOf_ok _ I.base_ok p hp hpr) rfl ?_)
  rintro _ h1 w I le1 ⟨s, hS, hI, rfl⟩
  refine Ops.y (v := .slice _ _ _) (Y.assign rfl) ?_
  refine Ops.nil ?_
  have eM := strataM_eq hS
  have hsl : s.xs.length = p.preds.xs.length := hS.sol.len
  have hb5 := least_small hpr hS
  have hN5 := mostL_small hb5
  have hNe := numS_eq s.xs
  obtain ⟨N, hN⟩ : ∃ N, numS s.xs = N := ⟨_, rfl⟩
  refine WP.seq ?_
  refine WP.region ?_
  refine Ops.y (v := .slice _ _ _) (Y.assign rfl) ?_
  refine Ops.nil ?_
  refine WP.seq ?_
  refine WP.region ?_
  refine Ops.y (v := .int .i64 _) (Y.assign rfl) ?_
  refine Ops.nil ?_
  refine WP.seq ?_
  refine WP.seq ?_
  refine WP.region ?_
  refine Ops.y (v := .int .i64 _) (Y.assign rfl) ?_
  refine Ops.nil ?_
  refine WP.block ?_
  refine WP.loopE (σ := Sl Fct × Nat × Nat × Heap) (fun s' => [(1, .pointer (some ⟨b1, 0, none⟩)), (4, s.val), (5, s'.1.val), (6, .int .i64 s'.2.1), (7, .int .i64 s'.2.2.1)])
    (fun s' w => Inv B s'.2.2.2 [box b1 p.enc 25] w ∧ s'.2.2.1 ≤ N ∧ h1.le s'.2.2.2 ∧ FOk p.preds.xs s'.1.xs ∧ SemK p s.xs s'.2.2.1 s'.1.xs s'.2.1 ∧ Fcts s'.1 s'.2.2.2 ∧ s'.2.1 ≤ 1000 * (potF p.preds.xs s'.1.xs + s'.2.2.1)) (fun s' => N - s'.2.2.1)
    ⟨(⟨none, 0, []⟩, 0, 0, h1), ⟨rfl, rfl, rfl, rfl, rfl, trivial⟩, I, Nat.zero_le _, Heap.le.refl _, ok0, ⟨rfl, rfl⟩, fnil, Nat.zero_le _⟩ ?_
  rintro ⟨f0, c0, k, hh⟩ e w ⟨I, hk, gl, okf0, hm, hf0, hc0⟩
  dsimp only at I hk gl okf0 hm hf0 hc0 ⊢
  refine WP.seq ?_
  refine WP.seq ?_
  refine WP.region ?_
  refine Ops.y (v := .int .i64 _) (Y.move rfl) ?_
  refine Ops.y (v := .slice _ _ _) (Y.move rfl) ?_
  refine Ops.go (O.callv I Tryz.call76 (most_ok _ I.base_ok s (hI.le gl)) rfl ?_)
  intro w I
  refine Ops.y (v := .bool (decide _)) (Y.lei rfl rfl) ?_
  refine Ops.nil ?_
  refine WP.cond_dec rfl (fun h5 => ?_) (fun h5 => ?_)
  · have h5 : (k : Int) ≤ mostL s.xs := h5
    have hk' : k < N := by omega
    refine WP.skip ?_
    refine WP.seq ?_
    refine WP.block ?_
    refine WP.seq ?_
    refine WP.region ?_
    refine Ops.y (v := .slice _ _ _) (Y.assign rfl) ?_
    refine Ops.nil ?_
    refine WP.seq ?_
    refine WP.region ?_
    refine Ops.y (v := .bool _) (Y.assign rfl) ?_
    refine Ops.nil ?_
    refine WP.block ?_
    refine WP.loopE (σ := SoS) (fun s' => [(1, .pointer (some ⟨b1, 0, none⟩)), (4, s.val), (5, s'.f.val), (6, .int .i64 s'.c), (7, .int .i64 k), (8, s'.fr.val), (9, .bool s'.first)])
      (fun s' w => Inv B s'.h [box b1 p.enc 25] w ∧ hh.le s'.h ∧ FOk p.preds.xs s'.f.xs ∧ FOk p.preds.xs s'.fr.xs ∧ SJ p s.xs k f0.xs (s'.c - c0) s'.first s'.fr.xs s'.f.xs ∧ c0 ≤ s'.c ∧ Fcts s'.f s'.h ∧ Fcts s'.fr s'.h ∧ s'.c ≤ 1000 * (potF p.preds.xs s'.f.xs + k + if s'.first = true ∨ s'.fr.xs ≠ [] then 0 else 1))
      (fun s' => 2 * (2001 - potF p.preds.xs s'.f.xs) + if s'.first = true ∨ s'.fr.xs ≠ [] then 1 else 0)
      ⟨⟨true, ⟨none, 0, []⟩, f0, c0, hh⟩, ⟨rfl, rfl, rfl, rfl, rfl, rfl, rfl, trivial⟩, I, Heap.le.refl _, okf0, ok0, by rw [Nat.sub_self]; exact .inl ⟨.inl rfl, SCloB.zero⟩, Nat.le_refl _, hf0, fnil, by rw [if_pos (.inl rfl)]; exact hc0⟩ ?_
    rintro ⟨first, fr, f, c, h2⟩ e w ⟨I, gl2, okf, okfr, sj, hcc, hf, hfr, hcb⟩
    dsimp only at I gl2 okf okfr sj hcc hf hfr hcb ⊢
    have glA := gl.trans gl2
    have hpl := potF_le p.preds.xs f.xs
    refine WP.seq ?_
    refine WP.seq ?_
    refine WP.cutK (σ := Unit) (fun _ => [(1, .pointer (some ⟨b1, 0, none⟩)), (4, s.val), (5, f.val), (6, .int .i64 c), (7, .int .i64 k), (8, fr.val), (9, .bool first), (32, .bool (decide (first = true ∨ fr.xs ≠ [])))])
      (fun _ w => Inv B h2 [box b1 p.enc 25] w) ?_ ?_
    · cases hfi : first
      · by_cases hfe : fr.xs = []
        · refine WP.region ?_
          refine Ops.y (v := .bool false) (Y.b (Y.move rfl) (rfl)) ?_
          refine Ops.y (v := .bool _) (Y.move rfl) ?_
          refine Ops.ygt rfl (v := .slice _ _ _) (Y.move rfl) ?_
          refine Ops.ygt rfl (v := .int .i64 _) (Y.lens Tryz.underlying26 rfl) ?_
          refine Ops.ygt rfl (v := .bool false) (Y.dec_f (Y.gti rfl rfl) ((by rw [hfe]; decide))) ?_
          refine Ops.y (v := .bool _) (Y.pick_f rfl rfl) ?_
          refine Ops.nil ?_
          exact ⟨(), ⟨rfl, rfl, rfl, rfl, rfl, rfl, rfl, congrArg Value.bool (decide_eq_false (by rw [hfe]; simp)).symm, trivial⟩, I⟩
        · have : (fr.xs.length : Int) > 0 := by have := List.length_pos_iff.2 hfe; omega
          refine WP.region ?_
          refine Ops.y (v := .bool false) (Y.b (Y.move rfl) (rfl)) ?_
          refine Ops.y (v := .bool _) (Y.move rfl) ?_
          refine Ops.ygt rfl (v := .slice _ _ _) (Y.move rfl) ?_
          refine Ops.ygt rfl (v := .int .i64 _) (Y.lens Tryz.underlying26 rfl) ?_
          refine Ops.ygt rfl (v := .bool true) (Y.dec_t (Y.gti rfl rfl) (this)) ?_
          refine Ops.y (v := .bool _) (Y.pick_f rfl rfl) ?_
          refine Ops.nil ?_
          exact ⟨(), ⟨rfl, rfl, rfl, rfl, rfl, rfl, rfl, congrArg Value.bool (decide_eq_true (.inr hfe)).symm, trivial⟩, I⟩
      · refine WP.region ?_
        refine Ops.y (v := .bool true) (Y.b (Y.move rfl) (rfl)) ?_
        refine Ops.y (v := .bool _) (Y.move rfl) ?_
        refine Ops.gf rfl ?_
        refine Ops.gf rfl ?_
        refine Ops.gf rfl ?_
        refine Ops.y (v := .bool _) (Y.pick_t rfl rfl) ?_
        refine Ops.nil ?_
        exact ⟨(), ⟨rfl, rfl, rfl, rfl, rfl, rfl, rfl, congrArg Value.bool (decide_eq_true (.inl rfl)).symm, trivial⟩, I⟩
    rintro _ e w I
    refine WP.cond_dec rfl (fun h9 => ?_) (fun h9 => ?_)
    · rw [if_pos h9] at hcb
      have hscb : SCloB p s.xs k f0.xs (c - c0) first fr.xs f.xs := by
        rcases sj with ⟨_, h⟩ | ⟨a1, a2, _⟩
        · exact h
        · rcases h9 with h | h
          · rw [a1] at h; cases h
          · exact absurd a2 h
      obtain ⟨q, hqd⟩ : ∃ q, ofQ p s.xs k = q := ⟨_, rfl⟩
      refine WP.skip ?_
      refine WP.seq ?_
      refine WP.block ?_
      refine WP.seq ?_
      refine WP.region ?_
      refine Ops.y (v := .slice _ _ _) (Y.move rfl) ?_
      refine Ops.y (v := .slice _ _ _) (Y.assign rfl) ?_
      refine Ops.nil ?_
      refine WP.seq ?_
      refine WP.seq ?_
      refine WP.region ?_
      refine Ops.y (v := .int .i64 _) (Y.assign rfl) ?_
      refine Ops.nil ?_
      refine WP.block ?_
      refine WP.loopE (σ := Sl Fct × Nat × Nat × Heap) (fun s' => [(1, .pointer (some ⟨b1, 0, none⟩)), (4, s.val), (5, f.val), (6, .int .i64 s'.2.1), (7, .int .i64 k), (8, fr.val), (9, .bool first), (10, s'.1.val), (11, .int .i64 s'.2.2.1)])
        (fun s' w => Inv B s'.2.2.2 [box b1 p.enc 25] w ∧ s'.2.2.1 ≤ p.rules.xs.length ∧ h2.le s'.2.2.2 ∧ s'.1.xs = (turnL p.preds.xs f.xs (semN p s.xs k first fr.xs f.xs s'.2.2.1 0)).1 ∧ Fcts s'.1 s'.2.2.2 ∧ s'.2.1 = c + (semN p s.xs k first fr.xs f.xs s'.2.2.1 0).length) (fun s' => p.rules.xs.length - s'.2.2.1)
        ⟨(f, c, 0, h2), ⟨rfl, rfl, rfl, rfl, rfl, rfl, rfl, rfl, rfl, trivial⟩, I, Nat.zero_le _, Heap.le.refl _, by dsimp only; rw [semN_zero]; rfl, hf, by dsimp only; rw [semN_zero]; rfl⟩ ?_
      rintro ⟨u, ch, n, g2⟩ e w ⟨I, hn, gl3, hu, iu, hch⟩
      dsimp only at I hn gl3 hu iu hch ⊢
      have glB := glA.trans gl3
      have hp2 := hp.le (le1.trans glB)
      have hI2 := hI.le glB
      have hf2 := hf.le gl3
      have hfr2 := hfr.le gl3
      have hsr := hp2.rules.is.small
      refine WP.seq ?_
      refine WP.seq ?_
      refine WP.region ?_
      refine Ops.y (v := .int .i64 _) (Y.move rfl) ?_
      refine Ops.y (v := .pointer (some ⟨_, _, none⟩)) (Y.fa fa_25_1 rfl) ?_
      refine Ops.y (v := .slice _ _ _) (Y.loadv ty_23 rfl (I.rdbox 0 rfl 1 1) rfl rfl) ?_
      refine Ops.y (v := .int .i64 _) (Y.lens Tryz.underlying23 rfl) ?_
      refine Ops.y (v := .bool (decide _)) (Y.lti rfl rfl) ?_
      refine Ops.nil ?_
      refine WP.cond_dec rfl (fun h13 => ?_) (fun h13 => ?_)
      · have hn' : n < p.rules.xs.length := by omega
        have hr : p.rules.xs[n]? = some p.rules.xs[n] := List.getElem?_eq_getElem hn'
        have hr' : p.rules.xs[(n : Int).toNat]? = some p.rules.xs[n] := by rw [Int.toNat_natCast]; exact hr
        have okr := rk _ (List.getElem_mem hn')
        have hgd : p.rules.xs.getD n default = p.rules.xs[n] := by rw [List.getD_eq_getElem?_getD, hr]; rfl
        have Er := hp2.rules.is.at hn'
        obtain ⟨i0, i1⟩ := hin _ (List.getElem_mem hn')
        have El1 := hI2.el.el (lv_some hsl i0 i1)
        have hqn : q n = decide (lv s.xs p.rules.xs[n].head.pred = k) := by rw [← hqd]; unfold ofQ; rw [hgd]
        refine WP.skip ?_
        refine WP.seq ?_
        refine WP.block ?_
        refine WP.seq ?_
        refine WP.seq ?_
        refine WP.region ?_
        refine Ops.y (v := .slice _ _ _) (Y.move rfl) ?_
        refine Ops.y (v := .pointer (some ⟨_, _, none⟩)) (Y.fa fa_25_1 rfl) ?_
        refine Ops.y (v := .slice _ _ _) (Y.loadv ty_23 rfl (I.rdbox 0 rfl 1 1) rfl rfl) ?_
        refine Ops.y (v := .int .i64 _) (Y.move rfl) ?_
        refine Ops.y (v := .pointer (some ⟨_, _, none⟩)) (Y.idxEl Er Tryz.underlying23 Tryz.sizeOf68 rfl rfl (Int.natCast_nonneg _) rfl) ?_
        refine Ops.y (v := .pointer (some ⟨_, _, none⟩)) (Y.fa0 fa_68_0 rfl) ?_
        refine Ops.y (v := .pointer (some ⟨_, _, none⟩)) (Y.fa0 fa_65_0 rfl) ?_
        refine Ops.y (v := .int .i64 _) (Y.loadv ty_3 rfl (I.rd (Er.rd.part 0 1)) rfl rfl) ?_
        refine Ops.y (v := .pointer (some ⟨_, _, none⟩)) (Y.idxEl El1 Tryz.underlying45 Tryz.sizeOf3 rfl rfl i0 rfl) ?_
        refine Ops.y (v := .int .i64 _) (Y.loadv ty_3 rfl (I.rd (El1.rd.part 0 1)) rfl rfl) ?_
        refine Ops.y (v := .int .i64 _) (Y.move rfl) ?_
        refine Ops.y (v := .bool (decide _)) (Y.nei rfl rfl) ?_
        refine Ops.nil ?_
        refine WP.cond_dec rfl (fun h15 => ?_) (fun h15 => ?_)
        · have hNn : toldN p.preds.xs f.xs p.rules.xs (ofQ p s.xs k) n = [] := by unfold toldN; rw [hqd, hqn, decide_eq_false h15]; rfl
          have hse := semN_none (M := s.xs) (b := first) (fr := fr.xs) hNn
          refine WP.exit ?_
          refine WP.region ?_
          refine Ops.y (v := .int .i64 _) (Y.move rfl) ?_
          refine Ops.y (v := .int .i64 _) (Y.addi rfl rfl ⟨by omega, by omega⟩) ?_
          refine Ops.y (v := .int .i64 _) (Y.assign rfl) ?_
          refine Ops.nil ?_
          exact ⟨(u, ch, n + 1, g2), ⟨⟨rfl, rfl, rfl, rfl, rfl, rfl, rfl, rfl, rfl, trivial⟩, I, by dsimp only; omega, gl3, by dsimp only; rw [hse]; exact hu, iu, by dsimp only; rw [hse]; exact hch⟩, by dsimp only; omega⟩
        have hlv : lv s.xs p.rules.xs[n].head.pred = k := Decidable.not_not.1 h15
        have hNn : toldN p.preds.xs f.xs p.rules.xs (ofQ p s.xs k) n = (stepsF f.xs n p.rules.xs[n]).map fun s => (s, headF p.preds.xs f.xs p.rules.xs[n] s.vars) := by unfold toldN; rw [hqd, hqn, decide_eq_true hlv, if_pos rfl, hgd]
        refine WP.skip ?_
        refine WP.seq ?_
        refine WP.region ?_
        refine Ops.y (v := .agg #[_, _]) (Y.loadv ty_25 rfl (I.rdbox 0 rfl 0 2) rfl rfl) ?_
        refine Ops.y (v := .slice _ _ _) (Y.move rfl) ?_
        refine Ops.y (v := .int .i64 _) (Y.move rfl) ?_
        refine Ops.go (O.call I Tryz.call47 (AllOf_ok _ I.base_ok p hp2 f hf2 n p.rules.xs[n] (by omega) hr' okr okf) rfl ?_)
        rintro _ h8 w I le8 ⟨sl, rfl, hss, isl⟩
        refine Ops.y (v := .slice _ _ _) (Y.assign rfl) ?_
        refine Ops.nil ?_
        have hNl : (toldN p.preds.xs f.xs p.rules.xs (ofQ p s.xs k) n).length = sl.xs.length := by rw [hNn, List.length_map, hss]
        have hsm := isl.small
        refine WP.seq ?_
        refine WP.region ?_
        refine Ops.y (v := .int .i64 _) (Y.assign rfl) ?_
        refine Ops.nil ?_
        refine WP.block ?_
        refine WP.loopE (σ := Sl Fct × Nat × Nat × Heap) (fun s' => [(1, .pointer (some ⟨b1, 0, none⟩)), (4, s.val), (5, f.val), (6, .int .i64 s'.2.1), (7, .int .i64 k), (8, fr.val), (9, .bool first), (10, s'.1.val), (11, .int .i64 n), (12, sl.val), (13, .int .i64 s'.2.2.1)])
          (fun s' w => Inv B s'.2.2.2 [box b1 p.enc 25] w ∧ s'.2.2.1 ≤ sl.xs.length ∧ h8.le s'.2.2.2 ∧ s'.1.xs = (turnL p.preds.xs f.xs (semN p s.xs k first fr.xs f.xs n s'.2.2.1)).1 ∧ Fcts s'.1 s'.2.2.2 ∧ s'.2.1 = c + (semN p s.xs k first fr.xs f.xs n s'.2.2.1).length) (fun s' => sl.xs.length - s'.2.2.1)
          ⟨(u, ch, 0, h8), ⟨rfl, rfl, rfl, rfl, rfl, rfl, rfl, rfl, rfl, rfl, rfl, trivial⟩, I, Nat.zero_le _, Heap.le.refl _, hu, iu.le le8, hch⟩ ?_
        rintro ⟨u, ch, j, g3⟩ e w ⟨I, hj, gl4, hu, iu, hch⟩
        dsimp only at I hj gl4 hu iu hch ⊢
        have glC := le8.trans gl4
        have hp3 := hp2.le glC
        have hf3 := hf2.le glC
        have hfr3 := hfr2.le glC
        have hlen := semN_len (p := p) (M := s.xs) (st := k) (b := first) (fr := fr.xs) (f := f.xs) (k := j) (show n < 8 by omega)
        have oku : FOk p.preds.xs u.xs := by rw [hu]; exact turn_fok okf (semN_fine hpr okf hn (.inl hn'))
        refine WP.seq ?_
        refine WP.seq ?_
        refine WP.region ?_
        refine Ops.y (v := .int .i64 _) (Y.move rfl) ?_
        refine Ops.y (v := .slice _ _ _) (Y.move rfl) ?_
        refine Ops.y (v := .int .i64 _) (Y.lens Tryz.underlying36 rfl) ?_
        refine Ops.y (v := .bool (decide _)) (Y.lti rfl rfl) ?_
        refine Ops.nil ?_
        refine WP.cond_dec rfl (fun h18 => ?_) (fun h18 => ?_)
        · have hjj : j < sl.xs.length := by omega
          have E := (isl.le gl4).at hjj
          have hmem : sl.xs[j] ∈ stepsF f.xs n p.rules.xs[n] := hss ▸ List.getElem_mem hjj
          obtain ⟨e1, hvs, hhf⟩ := steps_holds hmem
          obtain ⟨y, hy⟩ : ∃ y, headF p.preds.xs f.xs p.rules.xs[n] sl.xs[j].vars = y := ⟨_, rfl⟩
          have hyF : holdsF p.preds.xs f.xs p.rules.xs[n] sl.xs[j].vars = (true, y) := by unfold holdsF; rw [if_pos hhf, hy]
          have hfine : factFine p.preds.xs y = true := hy ▸ headF_fine okr okf hvs hhf
          have hjN : j < (toldN p.preds.xs f.xs p.rules.xs (ofQ p s.xs k) n).length := by omega
          have hget : (toldN p.preds.xs f.xs p.rules.xs (ofQ p s.xs k) n)[j] = (sl.xs[j], y) := by
            have h1 : (toldN p.preds.xs f.xs p.rules.xs (ofQ p s.xs k) n)[j]? = some (sl.xs[j], y) := by rw [hNn, List.getElem?_map, ← hss, List.getElem?_eq_getElem hjj, ← hy]; rfl
            exact (List.getElem?_eq_some_iff.1 h1).2
          have hsome := semN_step (b := first) (fr := fr.xs) hjN
          rw [hget] at hsome
          refine WP.skip ?_
          refine WP.seq ?_
          refine WP.block ?_
          refine WP.seq ?_
          refine WP.seq ?_
          refine WP.cutK (σ := Unit) (fun _ => [(1, .pointer (some ⟨b1, 0, none⟩)), (4, s.val), (5, f.val), (6, .int .i64 ch), (7, .int .i64 k), (8, fr.val), (9, .bool first), (10, u.val), (11, .int .i64 n), (12, sl.val), (13, .int .i64 j), (75, .bool (!semiQ p s.xs k first fr.xs (sl.xs[j], y)))])
            (fun _ w => Inv B g3 [box b1 p.enc 25] w) ?_ ?_
          · cases hfi : first
            · cases hq : newB p s.xs k fr.xs sl.xs[j]
              · refine WP.regionQ mixed I (by kernel_rfl) ?_
                refine OpsQ.y (v := .bool false) (fun w I => Y.b (Y.move rfl) (rfl)) ?_
                refine OpsQ.y (v := .bool true) (fun w I => Y.not (b := false) rfl) ?_
                refine OpsQ.y (v := .bool _) (fun w I => Y.move rfl) ?_
                refine OpsQ.ygt rfl (v := .agg #[_, _]) (fun w I => Y.loadv ty_25 rfl (I.rdbox 0 rfl 0 2) rfl rfl) ?_
                refine OpsQ.ygt rfl (v := .slice _ _ _) (fun w I => Y.move rfl) ?_
                refine OpsQ.ygt rfl (v := .int .i64 _) (fun w I => Y.move rfl) ?_
                refine OpsQ.ygt rfl (v := .pointer (some ⟨_, _, none⟩)) (fun w I => Y.idxEl E Tryz.underlying36 Tryz.sizeOf82 rfl rfl (Int.natCast_nonneg _) rfl) ?_
                refine OpsQ.ygt rfl (v := .agg #[_, _, _, _]) (fun w I => Y.loadv ty_82 rfl (I.rd (E.rd.part 0 4)) rfl rfl) ?_
                refine OpsQ.ygt rfl (v := .int .i64 _) (fun w I => Y.move rfl) ?_
                refine OpsQ.ygt rfl (v := .slice _ _ _) (fun w I => Y.move rfl) ?_
                refine OpsQ.cgt rfl (fun w I => QC.callv I Tryz.call77 (isNew_at _ I.base_ok p hp3 hpr sl.xs[j] p.rules.xs[n] (by omega) (by rw [e1, Int.toNat_natCast]; exact hr) hvs k fr hfr3 okfr s.xs eM false hq) rfl) ?_
                refine OpsQ.ygt rfl (v := .bool true) (fun w I => Y.b (Y.not rfl) (rfl)) ?_
                refine OpsQ.y (v := .bool _) (fun w I => Y.pick_t rfl rfl) ?_
                refine OpsQ.nil ?_
                intro w I
                exact ⟨(), ⟨rfl, rfl, rfl, rfl, rfl, rfl, rfl, rfl, rfl, rfl, rfl, congrArg Value.bool (by unfold semiQ; rw [hq]; rfl), trivial⟩, I⟩
              · refine WP.regionQ mixed I (by kernel_rfl) ?_
                refine OpsQ.y (v := .bool false) (fun w I => Y.b (Y.move rfl) (rfl)) ?_
                refine OpsQ.y (v := .bool true) (fun w I => Y.not (b := false) rfl) ?_
                refine OpsQ.y (v := .bool _) (fun w I => Y.move rfl) ?_
                refine OpsQ.ygt rfl (v := .agg #[_, _]) (fun w I => Y.loadv ty_25 rfl (I.rdbox 0 rfl 0 2) rfl rfl) ?_
                refine OpsQ.ygt rfl (v := .slice _ _ _) (fun w I => Y.move rfl) ?_
                refine OpsQ.ygt rfl (v := .int .i64 _) (fun w I => Y.move rfl) ?_
                refine OpsQ.ygt rfl (v := .pointer (some ⟨_, _, none⟩)) (fun w I => Y.idxEl E Tryz.underlying36 Tryz.sizeOf82 rfl rfl (Int.natCast_nonneg _) rfl) ?_
                refine OpsQ.ygt rfl (v := .agg #[_, _, _, _]) (fun w I => Y.loadv ty_82 rfl (I.rd (E.rd.part 0 4)) rfl rfl) ?_
                refine OpsQ.ygt rfl (v := .int .i64 _) (fun w I => Y.move rfl) ?_
                refine OpsQ.ygt rfl (v := .slice _ _ _) (fun w I => Y.move rfl) ?_
                refine OpsQ.cgt rfl (fun w I => QC.callv I Tryz.call77 (isNew_at _ I.base_ok p hp3 hpr sl.xs[j] p.rules.xs[n] (by omega) (by rw [e1, Int.toNat_natCast]; exact hr) hvs k fr hfr3 okfr s.xs eM true hq) rfl) ?_
                refine OpsQ.ygt rfl (v := .bool false) (fun w I => Y.b (Y.not rfl) (rfl)) ?_
                refine OpsQ.y (v := .bool _) (fun w I => Y.pick_t rfl rfl) ?_
                refine OpsQ.nil ?_
                intro w I
                exact ⟨(), ⟨rfl, rfl, rfl, rfl, rfl, rfl, rfl, rfl, rfl, rfl, rfl, congrArg Value.bool (by unfold semiQ; rw [hq]; rfl), trivial⟩, I⟩
            · refine WP.regionQ mixed I (by kernel_rfl) ?_
              refine OpsQ.y (v := .bool true) (fun w I => Y.b (Y.move rfl) (rfl)) ?_
              refine OpsQ.y (v := .bool false) (fun w I => Y.not (b := true) rfl) ?_
              refine OpsQ.y (v := .bool _) (fun w I => Y.move rfl) ?_
              refine OpsQ.gf rfl ?_
              refine OpsQ.gf rfl ?_
              refine OpsQ.gf rfl ?_
              refine OpsQ.gf rfl ?_
              refine OpsQ.gf rfl ?_
              refine OpsQ.gf rfl ?_
              refine OpsQ.gf rfl ?_
              refine OpsQ.gf rfl ?_
              refine OpsQ.gf rfl ?_
              refine OpsQ.y (v := .bool _) (fun w I => Y.pick_f rfl rfl) ?_
              refine OpsQ.nil ?_
              intro w I
              exact ⟨(), ⟨rfl, rfl, rfl, rfl, rfl, rfl, rfl, rfl, rfl, rfl, rfl, congrArg Value.bool (by unfold semiQ; rfl), trivial⟩, I⟩
          rintro _ e w I
          refine WP.cond rfl (fun h20 => ?_) (fun h20 => ?_)
          · have h20 : semiQ p s.xs k first fr.xs (sl.xs[j], y) = false := by simpa using h20
            rw [h20, if_neg (by decide), List.append_nil] at hsome
            refine WP.exit ?_
            refine WP.region ?_
            refine Ops.y (v := .int .i64 _) (Y.move rfl) ?_
            refine Ops.y (v := .int .i64 _) (Y.addi rfl rfl ⟨by omega, by omega⟩) ?_
            refine Ops.y (v := .int .i64 _) (Y.assign rfl) ?_
            refine Ops.nil ?_
            exact ⟨(u, ch, j + 1, g3), ⟨⟨rfl, rfl, rfl, rfl, rfl, rfl, rfl, rfl, rfl, rfl, rfl, trivial⟩, I, by dsimp only; omega, gl4, by dsimp only; rw [hsome]; exact hu, iu, by dsimp only; rw [hsome]; exact hch⟩, by dsimp only; omega⟩
          have h20 : semiQ p s.xs k first fr.xs (sl.xs[j], y) = true := by simpa using h20
          rw [h20, if_pos rfl] at hsome
          refine WP.skip ?_
          refine WP.seq ?_
          refine WP.region ?_
          refine Ops.y (v := .int .i64 _) (Y.move rfl) ?_
          refine Ops.y (v := .int .i64 _) (Y.addi rfl rfl ⟨by omega, by omega⟩) ?_
          refine Ops.y (v := .int .i64 _) (Y.assign rfl) ?_
          refine Ops.nil ?_
          refine WP.seq ?_
          refine WP.regionG mixed RBx.pre ⟨g3, none, none⟩ (J := JBx B [box b1 p.enc 25] 52 [.int .i64 0, .int .i64 0, .int .i64 0, .int .i64 0] y.enc 12 99 14) ⟨rfl, rfl, fun h => (by cases h), I.drew⟩ 15 (by kernel_rfl) ?_
          refine OpsG.y_ (v := .agg #[_, _]) (fun _ => runsG_none _) RBx.pre (JBx.set (by decide)) (fun _ s w us hl hj => have I := hj.base; have hl := hl.h; Y.loadv ty_25 rfl (I.rdbox 0 rfl 0 2) rfl rfl) ?_
          refine OpsG.y_ (v := .slice _ _ _) (fun _ => runsG_none _) RBx.pre (JBx.set (by decide)) (fun _ s w us hl hj => have I := hj.base; have hl := hl.h; Y.move rfl) ?_
          refine OpsG.y_ (v := .int .i64 _) (fun _ => runsG_none _) RBx.pre (JBx.set (by decide)) (fun _ s w us hl hj => have I := hj.base; have hl := hl.h; Y.move rfl) ?_
          refine OpsG.y_ (v := .slice _ _ _) (fun _ => runsG_none _) RBx.pre (JBx.set (by decide)) (fun _ s w us hl hj => have I := hj.base; have hl := hl.h; Y.move rfl) ?_
          refine OpsG.y_ (v := .int .i64 _) (fun _ => runsG_none _) RBx.pre (JBx.set (by decide)) (fun _ s w us hl hj => have I := hj.base; have hl := hl.h; Y.move rfl) ?_
          refine OpsG.y_ (v := .pointer (some ⟨_, _, none⟩)) (fun _ => runsG_none _) RBx.pre (JBx.set (by decide)) (fun _ s w us hl hj => have I := hj.base; have hl := hl.h; Y.idxEl E Tryz.underlying36 Tryz.sizeOf82 rfl rfl (Int.natCast_nonneg _) rfl) ?_
          refine OpsG.y_ (v := .pointer (some ⟨_, _, none⟩)) (fun _ => runsG_none _) RBx.pre (JBx.set (by decide)) (fun _ s w us hl hj => have I := hj.base; have hl := hl.h; Y.fa fa_82_1 rfl) ?_
          refine OpsG.y_ (v := .agg #[_, _, _]) (fun _ => runsG_none _) RBx.pre (JBx.set (by decide)) (fun _ s w us hl hj => have I := hj.base; have hl := hl.h; Y.loadv ty_80 rfl (I.rd ((E.rd.part 1 3).le hl)) rfl rfl) ?_
          refine OpsG.c_ (by decide) (fun _ s w us hl hj => have I := hj.inv; have hl := hl.h; O.callv I Tryz.call78 (hyF ▸ rholds_ok _ I.base_ok p (hp3.le hl) f (hf3.le hl) n p.rules.xs[n] (by omega) hr' okr okf sl.xs[j].vars hvs) rfl (fun w' I' => ⟨rfl, ⟨hj.h7, hj.h8, hj.ord, I'⟩⟩)) ?_
          refine OpsG.y_ (v := .tuple #[_, _]) (fun _ => runsG_none _) RBx.pre (JBx.set (by decide)) (fun _ s w us hl hj => have I := hj.base; have hl := hl.h; Y.move rfl) ?_
          refine OpsG.y_ (v := .bool _) (fun _ => runsG_none _) RBx.pre (JBx.set (by decide)) (fun _ s w us hl hj => have I := hj.base; have hl := hl.h; Y.extract rfl rfl) ?_
          refine OpsG.y_ (v := .agg #[_, _, _, _]) (fun _ => runsG_none _) RBx.pre (JBx.set (by decide)) (fun _ s w us hl hj => have I := hj.base; have hl := hl.h; Y.extract rfl rfl) ?_
          refine OpsG.make7 Tryz.zeroValue52 rfl (by decide) (by decide) ?_
          refine OpsG.y_ (v := .bool _) (fun _ => runsG_none _) RBx.pre (JBx.set (by decide)) (fun _ s w us hl hj => have I := hj.base; have hl := hl.h; Y.assign rfl) ?_
          refine OpsG.store7 ty_52 rfl rfl (fun s => by intro u15 q15; exact ⟨q15 rfl, rfl⟩) rfl rfl (by decide) (by decide) ?_
          refine OpsG.nil ?_
          intro D s' w hD hl hj' u15 q15
          refine Ops.nil ?_
          obtain ⟨b15, rfl, h15⟩ := q15 rfl
          have I := hj'.inv
          rw [h15, hD 14 (by omega)] at I
          have hl := hl.h
          generalize s'.o8 = o8 at I
          generalize s'.h = h12 at I hl
          have I : Inv B h12 [box b15 y.enc 52, box b1 p.enc 25] w := by
            cases o8 with
            | none => exact I
            | some b8 => exact I.weak (List.Sublist.cons_cons _ (List.sublist_cons_self _ _))
          refine WP.region ?_
          refine Ops.y (v := .pointer (some ⟨_, _, none⟩)) (Y.fa0 fa_25_0 rfl) ?_
          refine Ops.y (v := .slice _ _ _) (Y.loadv ty_22 rfl (I.rdbox 1 rfl 0 1) rfl rfl) ?_
          refine Ops.y (v := .slice _ _ _) (Y.move rfl) ?_
          refine Ops.y (v := .agg #[_, _, _, _]) (Y.loadv ty_52 rfl (I.rdbox 0 rfl 0 4) rfl rfl) ?_
          refine Ops.go (O.call I Tryz.call79 (radd_ok _ I.base_ok p.preds (hp3.le hl).preds u (iu.le hl) oku y hfine) rfl ?_)
          rintro _ h5' w I le5 ⟨u2, rfl, hu2, iu2⟩
          refine Ops.y (v := .tuple #[_, _]) (Y.move rfl) ?_
          refine Ops.y (v := .slice _ _ _) (Y.extract rfl rfl) ?_
          refine Ops.y (v := .bool _) (Y.extract rfl rfl) ?_
          refine Ops.y (v := .slice _ _ _) (Y.assign rfl) ?_
          refine Ops.nil ?_
          refine WP.region ?_
          refine Ops.y (v := .int .i64 _) (Y.move rfl) ?_
          refine Ops.y (v := .int .i64 _) (Y.addi rfl rfl ⟨by omega, by omega⟩) ?_
          refine Ops.y (v := .int .i64 _) (Y.assign rfl) ?_
          refine Ops.nil ?_
          exact ⟨(u2, ch + 1, j + 1, h5'), ⟨⟨rfl, rfl, rfl, rfl, rfl, rfl, rfl, rfl, rfl, rfl, rfl, trivial⟩, I.drop, by dsimp only; omega, (gl4.trans hl).trans le5, by dsimp only; rw [hsome, turnL_snoc, hu2, hu]; rfl, iu2, by dsimp only; rw [hsome, List.length_append, List.length_singleton]; omega⟩, by dsimp only; omega⟩
        obtain rfl : j = sl.xs.length := by omega
        rw [← hNl, semN_next] at hu hch
        refine WP.exit ?_
        refine WP.region ?_
        refine Ops.y (v := .int .i64 _) (Y.move rfl) ?_
        refine Ops.y (v := .int .i64 _) (Y.addi rfl rfl ⟨by omega, by omega⟩) ?_
        refine Ops.y (v := .int .i64 _) (Y.assign rfl) ?_
        refine Ops.nil ?_
        exact ⟨(u, ch, n + 1, g3), ⟨⟨rfl, rfl, rfl, rfl, rfl, rfl, rfl, rfl, rfl, trivial⟩, I, by dsimp only; omega, gl3.trans glC, hu, iu, hch⟩, by dsimp only; omega⟩
      obtain rfl : n = p.rules.xs.length := by omega
      rw [semN_all] at hu hch
      have tf := told_fine (q := ofQ p s.xs k) rk okf
      have sf : ∀ t ∈ semiL p s.xs k first fr.xs f.xs, factFine p.preds.xs t.2 = true := fun t ht => tf t (List.mem_filter.1 ht).1
      have hjT : semiT p s.xs k first fr.xs f.xs = u.xs := hu.symm
      have hsl2 : (semiL p s.xs k first fr.xs f.xs).length ≤ 1000 := Nat.le_trans (List.length_filter_le ..) (told_len k2)
      have ru := run_up (semiL p s.xs k first fr.xs f.xs) (f.xs, false) okf sf
      have oku : FOk p.preds.xs u.xs := by rw [hu]; exact ru.fok
      have hup : underF p.preds.xs f.xs u.xs = true := by rw [hu]; exact ru.up
      have hu125 := oku.le125
      refine WP.exit ?_
      refine WP.seq ?_
      refine WP.region ?_
      refine Ops.y (v := .slice _ _ _) (Y.assign rfl) ?_
      refine Ops.nil ?_
      refine WP.seq ?_
      refine WP.seq ?_
      refine WP.region ?_
      refine Ops.y (v := .int .i64 _) (Y.assign rfl) ?_
      refine Ops.nil ?_
      refine WP.block ?_
      refine WP.loopE (σ := Nat × Value × Heap) (fun s' => [(1, .pointer (some ⟨b1, 0, none⟩)), (4, s.val), (5, f.val), (6, .int .i64 ch), (7, .int .i64 k), (8, s'.2.1), (9, .bool first), (10, u.val), (16, .int .i64 s'.1)])
        (fun s' w => Inv B s'.2.2 [ownSl 52 4 s'.2.1 (freshF f.xs (u.xs.take s'.1)).length ((freshF f.xs (u.xs.take s'.1)).flatMap Fct.enc), box b1 p.enc 25] w ∧ s'.1 ≤ u.xs.length ∧ g2.le s'.2.2) (fun s' => u.xs.length - s'.1)
        ⟨(0, .slice none 0 0, g2), ⟨rfl, rfl, rfl, rfl, rfl, rfl, rfl, rfl, rfl, trivial⟩, I.nilSl 52 4, Nat.zero_le _, Heap.le.refl _⟩ ?_
      rintro ⟨j, v, g4⟩ e w ⟨I, hj, gl5⟩
      dsimp only at I hj gl5 ⊢
      have hfl : (freshF f.xs (u.xs.take j)).length ≤ j := Nat.le_trans (List.length_filter_le ..) (by rw [List.length_take]; omega)
      refine WP.seq ?_
      refine WP.seq ?_
      refine WP.region ?_
      refine Ops.y (v := .int .i64 _) (Y.move rfl) ?_
      refine Ops.y (v := .slice _ _ _) (Y.move rfl) ?_
      refine Ops.y (v := .int .i64 _) (Y.lens Tryz.underlying26 rfl) ?_
      refine Ops.y (v := .bool (decide _)) (Y.lti rfl rfl) ?_
      refine Ops.nil ?_
      refine WP.cond_dec rfl (fun h26 => ?_) (fun h26 => ?_)
      · have hjj : j < u.xs.length := by omega
        have E := (iu.le gl5).at hjj
        have hfi := oku.fine _ (List.getElem_mem hjj)
        have hn := fresh_take (f := f.xs) hjj
        refine WP.skip ?_
        refine WP.seq ?_
        refine WP.block ?_
        refine WP.seq ?_
        refine WP.region ?_
        refine Ops.y (v := .slice _ _ _) (Y.move rfl) ?_
        refine Ops.y (v := .slice _ _ _) (Y.move rfl) ?_
        refine Ops.y (v := .int .i64 _) (Y.move rfl) ?_
        refine Ops.y (v := .pointer (some ⟨_, _, none⟩)) (Y.idxEl E Tryz.underlying26 Tryz.sizeOf52 rfl rfl (Int.natCast_nonneg _) rfl) ?_
        refine Ops.y (v := .agg #[_, _, _, _]) (Y.loadv ty_52 rfl (I.rd (E.rd.part 0 4)) rfl rfl) ?_
        refine Ops.go (O.callv I Tryz.call80 (rfind_ok _ I.base_ok f ((hf2.le gl5)) okf.pf u.xs[j] (fine_pf oku.len hfi)) rfl ?_)
        intro w I
        refine Ops.y (v := .tuple #[_, _]) (Y.move rfl) ?_
        refine Ops.y (v := .int .i64 _) (Y.extract rfl rfl) ?_
        refine Ops.y (v := .bool _) (Y.extract rfl rfl) ?_
        refine Ops.y (v := .int .i64 _) (Y.assign rfl) ?_
        refine Ops.y (v := .bool _) (Y.assign rfl) ?_
        refine Ops.nil ?_
        refine WP.seq ?_
        refine WP.cutK (σ := Unit) (fun _ => [(1, .pointer (some ⟨b1, 0, none⟩)), (4, s.val), (5, f.val), (6, .int .i64 ch), (7, .int .i64 k), (8, v), (9, .bool first), (10, u.val), (16, .int .i64 j), (123, .bool (decide (lkF f.xs (placeF u.xs[j]) ≠ some u.xs[j].v)))])
          (fun _ w => Inv B g4 [ownSl 52 4 v (freshF f.xs (u.xs.take j)).length ((freshF f.xs (u.xs.take j)).flatMap Fct.enc), box b1 p.enc 25] w) ?_ ?_
        · cases hlk : lkF f.xs (placeF u.xs[j]) with
          | none =>
            refine WP.region ?_
            refine Ops.y (v := .bool _) (Y.move rfl) ?_
            refine Ops.y (v := .bool true) (Y.b (Y.not rfl) ((by unfold findF; rw [hlk]; rfl))) ?_
            refine Ops.y (v := .bool _) (Y.move rfl) ?_
            refine Ops.gf rfl ?_
            refine Ops.gf rfl ?_
            refine Ops.gf rfl ?_
            refine Ops.gf rfl ?_
            refine Ops.gf rfl ?_
            refine Ops.gf rfl ?_
            refine Ops.gf rfl ?_
            refine Ops.y (v := .bool _) (Y.pick_t rfl rfl) ?_
            refine Ops.nil ?_
            exact ⟨(), ⟨rfl, rfl, rfl, rfl, rfl, rfl, rfl, rfl, rfl, congrArg Value.bool (decide_eq_true (by intro h; cases h)).symm, trivial⟩, I⟩
          | some v0 =>
            by_cases hv0 : v0 = u.xs[j].v
            · refine WP.region ?_
              refine Ops.y (v := .bool _) (Y.move rfl) ?_
              refine Ops.y (v := .bool false) (Y.b (Y.not rfl) ((by unfold findF; rw [hlk]; rfl))) ?_
              refine Ops.y (v := .bool _) (Y.move rfl) ?_
              refine Ops.ygt rfl (v := .int .i64 _) (Y.move rfl) ?_
              refine Ops.ygt rfl (v := .slice _ _ _) (Y.move rfl) ?_
              refine Ops.ygt rfl (v := .int .i64 _) (Y.move rfl) ?_
              refine Ops.ygt rfl (v := .pointer (some ⟨_, _, none⟩)) (Y.idxEl E Tryz.underlying26 Tryz.sizeOf52 rfl rfl (Int.natCast_nonneg _) rfl) ?_
              refine Ops.ygt rfl (v := .pointer (some ⟨_, _, none⟩)) (Y.fa fa_52_3 rfl) ?_
              refine Ops.ygt rfl (v := .int .i64 _) (Y.loadv ty_3 rfl (I.rd (E.rd.part 3 1)) rfl rfl) ?_
              refine Ops.ygt rfl (v := .bool false) (Y.dec_f (Y.nei rfl rfl) ((by unfold findF; rw [hlk]; exact fun h => h hv0))) ?_
              refine Ops.y (v := .bool _) (Y.pick_f rfl rfl) ?_
              refine Ops.nil ?_
              exact ⟨(), ⟨rfl, rfl, rfl, rfl, rfl, rfl, rfl, rfl, rfl, congrArg Value.bool (decide_eq_false (by rw [hv0]; exact fun h => h rfl)).symm, trivial⟩, I⟩
            · refine WP.region ?_
              refine Ops.y (v := .bool _) (Y.move rfl) ?_
              refine Ops.y (v := .bool false) (Y.b (Y.not rfl) ((by unfold findF; rw [hlk]; rfl))) ?_
              refine Ops.y (v := .bool _) (Y.move rfl) ?_
              refine Ops.ygt rfl (v := .int .i64 _) (Y.move rfl) ?_
              refine Ops.ygt rfl (v := .slice _ _ _) (Y.move rfl) ?_
              refine Ops.ygt rfl (v := .int .i64 _) (Y.move rfl) ?_
              refine Ops.ygt rfl (v := .pointer (some ⟨_, _, none⟩)) (Y.idxEl E Tryz.underlying26 Tryz.sizeOf52 rfl rfl (Int.natCast_nonneg _) rfl) ?_
              refine Ops.ygt rfl (v := .pointer (some ⟨_, _, none⟩)) (Y.fa fa_52_3 rfl) ?_
              refine Ops.ygt rfl (v := .int .i64 _) (Y.loadv ty_3 rfl (I.rd (E.rd.part 3 1)) rfl rfl) ?_
              refine Ops.ygt rfl (v := .bool true) (Y.dec_t (Y.nei rfl rfl) ((by unfold findF; rw [hlk]; exact hv0))) ?_
              refine Ops.y (v := .bool _) (Y.pick_f rfl rfl) ?_
              refine Ops.nil ?_
              exact ⟨(), ⟨rfl, rfl, rfl, rfl, rfl, rfl, rfl, rfl, rfl, congrArg Value.bool (decide_eq_true (show some v0 ≠ some u.xs[j].v from fun h => hv0 (Option.some.inj h))).symm, trivial⟩, I⟩
        rintro _ e w I
        refine WP.cond_dec rfl (fun h29 => ?_) (fun h29 => ?_)
        · rw [if_pos h29] at hn
          refine WP.region ?_
          refine Ops.y (v := v) (Y.move rfl) ?_
          refine Ops.y (v := .slice _ _ _) (Y.move rfl) ?_
          refine Ops.y (v := .int .i64 _) (Y.move rfl) ?_
          refine Ops.y (v := .pointer (some ⟨_, _, none⟩)) (Y.idxEl E Tryz.underlying26 Tryz.sizeOf52 rfl rfl (Int.natCast_nonneg _) rfl) ?_
          refine Ops.y (v := .agg #[_, _, _, _]) (Y.loadv ty_52 rfl (I.rd (E.rd.part 0 4)) rfl rfl) ?_
          refine Ops.go (O.mksl (xs := [u.xs[j]]) (enc := Fct.enc) I Tryz.underlying26 Tryz.sizeOf52 Tryz.zeroValue52 rfl (Nat.le_of_ble_eq_true rfl) rfl rfl (by decide) (fun _ => rfl) ?_)
          intro b129 h129 w I le129 sl129
          refine Ops.go (O.append I Tryz.underlying26 et_52 0 rfl rfl rfl (I.rd (sl129 0 _ rfl).2) rfl rfl (by decide) ((by omega)) (by omega) ?_)
          intro b130 c130 w I
          refine Ops.y (v := .slice _ _ _) (Y.assign rfl) ?_
          refine Ops.nil ?_
          refine WP.region ?_
          refine Ops.y (v := .int .i64 _) (Y.move rfl) ?_
          refine Ops.y (v := .int .i64 _) (Y.addi rfl rfl ⟨by omega, by omega⟩) ?_
          refine Ops.y (v := .int .i64 _) (Y.assign rfl) ?_
          refine Ops.nil ?_
          refine ⟨(j + 1, .slice (some ⟨b130, 0, none⟩) ((freshF f.xs (u.xs.take j)).length + 1) c130, h129), ⟨⟨rfl, rfl, rfl, rfl, rfl, rfl, rfl, rfl, rfl, trivial⟩, ?_, by dsimp only; omega, gl5.trans le129⟩, by dsimp only; omega⟩
          dsimp only
          rw [hn, List.length_append, List.length_singleton, List.flatMap_append, List.flatMap_singleton]
          exact I
        · rw [if_neg h29, List.append_nil] at hn
          refine WP.skip ?_
          refine WP.region ?_
          refine Ops.y (v := .int .i64 _) (Y.move rfl) ?_
          refine Ops.y (v := .int .i64 _) (Y.addi rfl rfl ⟨by omega, by omega⟩) ?_
          refine Ops.y (v := .int .i64 _) (Y.assign rfl) ?_
          refine Ops.nil ?_
          exact ⟨(j + 1, v, g4), ⟨⟨rfl, rfl, rfl, rfl, rfl, rfl, rfl, rfl, rfl, trivial⟩, by dsimp only; rw [hn]; exact I, by dsimp only; omega, gl5⟩, by dsimp only; omega⟩
      obtain rfl : j = u.xs.length := by omega
      rw [List.take_length] at I hfl
      obtain ⟨h10, fs, le10, rfl, efr, infs, I⟩ := I.settleSl Fct_len rfl
      have hfl : fs.xs.length ≤ u.xs.length := by rw [efr]; exact hfl
      have okfs : FOk p.preds.xs fs.xs := by rw [efr]; exact ⟨oku.len, oku.preds, fun x hx => oku.fine x (List.mem_filter.1 hx).1, oku.srt.sublist List.filter_sublist⟩
      have hcc' : ch - c0 = (c - c0) + (semiL p s.xs k first fr.xs f.xs).length := by omega
      have hpu := potF_le p.preds.xs u.xs
      have gl10 := gl5.trans le10
      refine WP.exit ?_
      refine WP.region ?_
      refine Ops.y (v := .slice _ _ _) (Y.move rfl) ?_
      refine Ops.y (v := .slice _ _ _) (Y.assign rfl) ?_
      refine Ops.nil ?_
      refine WP.region ?_
      refine Ops.y (v := .bool _) (Y.assign rfl) ?_
      refine Ops.nil ?_
      have hend : SJ p s.xs k f0.xs (ch - c0) false fs.xs u.xs ∧ (ch ≤ 1000 * (potF p.preds.xs u.xs + k + if False ∨ fs.xs ≠ [] then 0 else 1)) ∧ 2 * (2001 - potF p.preds.xs u.xs) + (if False ∨ fs.xs ≠ [] then 1 else 0) < 2 * (2001 - potF p.preds.xs f.xs) + 1 := by
        by_cases hfe : freshF f.xs u.xs = []
        · have huf : u.xs = f.xs := fresh_nil okf oku hup hfe
          have hno : ¬ (False ∨ fs.xs ≠ []) := by rw [efr, hfe]; simp
          refine ⟨.inr ⟨rfl, by rw [efr, hfe], by rw [hcc']; exact hscb.done hjT rfl hfe⟩, ?_, ?_⟩
          · rw [if_neg hno, huf]; omega
          · rw [if_neg hno, huf]; omega
        · have hne : u.xs ≠ f.xs := fun e => hfe (by rw [e]; exact fresh_self okf)
          have hlt := potF_lt okf oku hup hne
          have hyes : False ∨ fs.xs ≠ [] := .inr (by rw [efr]; exact hfe)
          refine ⟨.inl ⟨.inr (by rw [efr]; exact hfe), by rw [hcc', efr]; exact hscb.next hjT rfl hfe⟩, ?_, ?_⟩
          · rw [if_pos hyes]; omega
          · rw [if_pos hyes]; omega
      obtain ⟨he1, he2, he3⟩ := hend
      refine ⟨⟨false, fs, u, ch, h10⟩, ⟨⟨rfl, rfl, rfl, rfl, rfl, rfl, rfl, trivial⟩, I, gl2.trans (gl3.trans gl10), oku, okfs, he1, by dsimp only; omega, iu.le gl10, ⟨infs, by dsimp only; omega⟩, ?_⟩, ?_⟩
      · dsimp only; simp only [Bool.false_eq_true]; exact he2
      · dsimp only; rw [if_pos h9]; simp only [Bool.false_eq_true]; exact he3
    · have h12 : first = false ∧ fr.xs = [] := by
        rw [not_or, Bool.not_eq_true, Decidable.not_not] at h9; exact h9
      rw [if_neg h9] at hcb
      have hcl : SClo p s.xs k true [] f0.xs f.xs (c - c0) := by
        rcases sj with ⟨h, _⟩ | ⟨_, _, h⟩
        · exact absurd h h9
        · exact h
      refine WP.exit ?_
      refine WP.region ?_
      refine Ops.y (v := .int .i64 _) (Y.move rfl) ?_
      refine Ops.y (v := .int .i64 _) (Y.addi rfl rfl ⟨by omega, by omega⟩) ?_
      refine Ops.y (v := .int .i64 _) (Y.assign rfl) ?_
      refine Ops.nil ?_
      exact ⟨(f, c, k + 1, h2), ⟨⟨rfl, rfl, rfl, rfl, rfl, trivial⟩, I, by dsimp only; omega, glA, okf, ⟨f0.xs, c0, c - c0, hm, hcl, by dsimp only; omega⟩, hf, by dsimp only; omega⟩, by dsimp only; omega⟩
  have h5 : ¬ (k : Int) ≤ mostL s.xs := h5
  obtain rfl : k = N := by omega
  refine WP.exit ?_
  refine WP.seq ?_
  refine WP.region ?_
  refine Ops.y (v := .slice _ _ _) (Y.move rfl) ?_
  refine Ops.y (v := .int .i64 _) (Y.move rfl) ?_
  refine Ops.y (v := .slice _ _ _) (Y.assign rfl) ?_
  refine Ops.y (v := .int .i64 _) (Y.assign rfl) ?_
  refine Ops.nil ?_
  refine WP.ret ?_
  repeat (first | refine thenE_ret ?_ | refine blockE_ret ?_)
  exact retQ.mk (vs := [.slice _ _ _, .int .i64 _]) rfl ⟨rfl, rfl, trivial⟩ I.ext_of (⟨f0, c0, rfl, hf0, by rw [eM, hN]; exact hm⟩)
set_option maxHeartbeats 4000000 in
theorem SemiTells_ok (B : Base) (hB : B.ok) (p : Prg) (hp : p.In B.h) (hnm : p.Nm) : Fn Tryz.prog 3 [p.val] B (fun v _ => v = .bool true) := by
  refine Fn.of Tryz.func3 rfl Tryz.ntmps3 (by kernel_rfl) (by simp) ?_
  intro e
  have I := Inv.start hB
  refine WP.seq ?_
  refine WP.region ?_
  refine Ops.go (O.box (v := .agg #[_, _]) I rfl rfl ?_)
  intro b1 w I
  refine Ops.y (v := .bool _) (Y.assign rfl) ?_
  refine Ops.nil ?_
  by_cases hpr : checkProg p = 0
  · refine WP.seq ?_
    refine WP.region ?_
    refine Ops.y (v := .agg #[_, _]) (Y.loadv ty_25 rfl (I.rdbox 0 rfl 0 2) rfl rfl) ?_
    refine Ops.go (O.call I Tryz.call17 (SemiModel_ok _ I.base_ok p hp hnm) rfl ?_)
    rintro v12 h1 w I le1 hv
    rcases hv with ⟨h, _⟩ | ⟨_, s, c, rfl, hs, hm⟩
    exact absurd hpr h
    refine Ops.y (v := .tuple #[_, _, _]) (Y.move rfl) ?_
    refine Ops.y (v := .slice _ _ _) (Y.extract rfl rfl) ?_
    refine Ops.y (v := .int .i64 _) (Y.extract rfl rfl) ?_
    refine Ops.y (v := .int .i64 _) (Y.extract rfl rfl) ?_
    refine Ops.y (v := .slice _ _ _) (Y.assign rfl) ?_
    refine Ops.y (v := .int .i64 _) (Y.assign rfl) ?_
    refine Ops.y (v := .int .i64 _) (Y.assign rfl) ?_
    refine Ops.nil ?_
    have hp := hp.le le1
    refine WP.seq ?_
    refine WP.region ?_
    refine Ops.y (v := .agg #[_, _]) (Y.loadv ty_25 rfl (I.rdbox 0 rfl 0 2) rfl rfl) ?_
    refine Ops.go (O.callv I Tryz.call18 (CheckProg_ok _ I.base_ok p hp hnm) rfl ?_)
    intro w I
    refine Ops.y (v := .int .i64 _) (Y.assign rfl) ?_
    refine Ops.nil ?_
    refine WP.seq ?_
    refine WP.region ?_
    refine Ops.y (v := .slice _ _ _) (Y.assign rfl) ?_
    refine Ops.nil ?_
    refine WP.seq ?_
    refine WP.region ?_
    refine Ops.y (v := .int .i64 _) (Y.assign rfl) ?_
    refine Ops.nil ?_
    refine WP.seq ?_
    refine WP.seq ?_
    refine WP.region ?_
    refine Ops.y (v := .int .i64 _) (Y.move rfl) ?_
    refine Ops.y (v := .bool (decide _)) (Y.eqi rfl rfl) ?_
    refine Ops.nil ?_
    refine WP.cond_decT rfl (hpr) ?_
    refine WP.region ?_
    refine Ops.y (v := .agg #[_, _]) (Y.loadv ty_25 rfl (I.rdbox 0 rfl 0 2) rfl rfl) ?_
    refine Ops.go (O.call I Tryz.call19 (SemiOf_ok _ I.base_ok p hp hpr) rfl ?_)
    rintro _ h5 w I le5 ⟨s2, c2, rfl, hs2, hm2⟩
    refine Ops.y (v := .tuple #[_, _]) (Y.move rfl) ?_
    refine Ops.y (v := .slice _ _ _) (Y.extract rfl rfl) ?_
    refine Ops.y (v := .int .i64 _) (Y.extract rfl rfl) ?_
    refine Ops.y (v := .slice _ _ _) (Y.assign rfl) ?_
    refine Ops.y (v := .int .i64 _) (Y.assign rfl) ?_
    refine Ops.nil ?_
    obtain ⟨e1, e2⟩ := hm2.uniq hm
    refine WP.seq ?_
    refine WP.region ?_
    refine Ops.go (O.callv I Tryz.call20 (semiBegun_ok _ I.base_ok) rfl ?_)
    intro w I
    refine Ops.y (v := .bool _) (Y.move rfl) ?_
    refine Ops.ygt rfl (v := .slice _ _ _) (Y.move rfl) ?_
    refine Ops.ygt rfl (v := .slice _ _ _) (Y.move rfl) ?_
    refine Ops.gt rfl (O.callv I Tryz.call21 (SameFacts_at _ I.base_ok s s2 (hs.le le5) hs2 e1) rfl ?_)
    intro w I
    refine Ops.y (v := .bool _) (Y.pick_t rfl rfl) ?_
    refine Ops.y (v := .bool _) (Y.move rfl) ?_
    refine Ops.ygt rfl (v := .int .i64 _) (Y.move rfl) ?_
    refine Ops.ygt rfl (v := .int .i64 _) (Y.move rfl) ?_
    refine Ops.ygt rfl (v := .bool true) (Y.dec_t (Y.eqi rfl rfl) ((by rw [e2]))) ?_
    refine Ops.y (v := .bool _) (Y.pick_t rfl rfl) ?_
    refine Ops.y (v := .bool _) (Y.move rfl) ?_
    refine Ops.ygt rfl (v := .int .i64 _) (Y.move rfl) ?_
    refine Ops.ygt rfl (v := .int .i64 _) (Y.move rfl) ?_
    refine Ops.ygt rfl (v := .bool true) (Y.dec_t (Y.eqi rfl rfl) (hpr.symm)) ?_
    refine Ops.y (v := .bool _) (Y.pick_t rfl rfl) ?_
    refine Ops.y (v := .bool _) (Y.assign rfl) ?_
    refine Ops.nil ?_
    refine WP.ret ?_
    repeat (first | refine thenE_ret ?_ | refine blockE_ret ?_)
    exact retQ.mk (vs := [.bool _]) rfl ⟨rfl, trivial⟩ I.ext_of (rfl)
  · refine WP.seq ?_
    refine WP.region ?_
    refine Ops.y (v := .agg #[_, _]) (Y.loadv ty_25 rfl (I.rdbox 0 rfl 0 2) rfl rfl) ?_
    refine Ops.go (O.call I Tryz.call17 (SemiModel_ok _ I.base_ok p hp hnm) rfl ?_)
    rintro v12 h1 w I le1 hv
    rcases hv with ⟨_, rfl⟩ | ⟨h, _⟩
    rotate_left
    exact absurd h hpr
    refine Ops.y (v := .tuple #[_, _, _]) (Y.move rfl) ?_
    refine Ops.y (v := .slice _ _ _) (Y.extract rfl rfl) ?_
    refine Ops.y (v := .int .i64 _) (Y.extract rfl rfl) ?_
    refine Ops.y (v := .int .i64 _) (Y.extract rfl rfl) ?_
    refine Ops.y (v := .slice _ _ _) (Y.assign rfl) ?_
    refine Ops.y (v := .int .i64 _) (Y.assign rfl) ?_
    refine Ops.y (v := .int .i64 _) (Y.assign rfl) ?_
    refine Ops.nil ?_
    have hp := hp.le le1
    refine WP.seq ?_
    refine WP.region ?_
    refine Ops.y (v := .agg #[_, _]) (Y.loadv ty_25 rfl (I.rdbox 0 rfl 0 2) rfl rfl) ?_
    refine Ops.go (O.callv I Tryz.call18 (CheckProg_ok _ I.base_ok p hp hnm) rfl ?_)
    intro w I
    refine Ops.y (v := .int .i64 _) (Y.assign rfl) ?_
    refine Ops.nil ?_
    refine WP.seq ?_
    refine WP.region ?_
    refine Ops.y (v := .slice _ _ _) (Y.assign rfl) ?_
    refine Ops.nil ?_
    refine WP.seq ?_
    refine WP.region ?_
    refine Ops.y (v := .int .i64 _) (Y.assign rfl) ?_
    refine Ops.nil ?_
    refine WP.seq ?_
    refine WP.seq ?_
    refine WP.region ?_
    refine Ops.y (v := .int .i64 _) (Y.move rfl) ?_
    refine Ops.y (v := .bool (decide _)) (Y.eqi rfl rfl) ?_
    refine Ops.nil ?_
    refine WP.cond_decF rfl (hpr) ?_
    refine WP.skip ?_
    refine WP.seq ?_
    refine WP.region ?_
    refine Ops.go (O.callv I Tryz.call20 (semiBegun_ok _ I.base_ok) rfl ?_)
    intro w I
    refine Ops.y (v := .bool _) (Y.move rfl) ?_
    refine Ops.ygt rfl (v := .slice _ _ _) (Y.move rfl) ?_
    refine Ops.ygt rfl (v := .slice _ _ _) (Y.move rfl) ?_
    refine Ops.gt rfl (O.callv I Tryz.call21 (SameFacts_at _ I.base_ok ⟨none, 0, []⟩ ⟨none, 0, []⟩ fnil fnil rfl) rfl ?_)
    intro w I
    refine Ops.y (v := .bool _) (Y.pick_t rfl rfl) ?_
    refine Ops.y (v := .bool _) (Y.move rfl) ?_
    refine Ops.ygt rfl (v := .int .i64 _) (Y.move rfl) ?_
    refine Ops.ygt rfl (v := .int .i64 _) (Y.move rfl) ?_
    refine Ops.ygt rfl (v := .bool true) (Y.dec_t (Y.eqi rfl rfl) (rfl)) ?_
    refine Ops.y (v := .bool _) (Y.pick_t rfl rfl) ?_
    refine Ops.y (v := .bool _) (Y.move rfl) ?_
    refine Ops.ygt rfl (v := .int .i64 _) (Y.move rfl) ?_
    refine Ops.ygt rfl (v := .int .i64 _) (Y.move rfl) ?_
    refine Ops.ygt rfl (v := .bool true) (Y.dec_t (Y.eqi rfl rfl) (rfl)) ?_
    refine Ops.y (v := .bool _) (Y.pick_t rfl rfl) ?_
    refine Ops.y (v := .bool _) (Y.assign rfl) ?_
    refine Ops.nil ?_
    refine WP.ret ?_
    repeat (first | refine thenE_ret ?_ | refine blockE_ret ?_)
    exact retQ.mk (vs := [.bool _]) rfl ⟨rfl, trivial⟩ I.ext_of (rfl)
end Go.TF
end
