/- Slices of the call's own, known for good until they are written again; appended onto an empty literal. -/
import Derived.Test.YtenigglapeajdaaBase12
namespace Go.TF
open Go Go.RowKit

/-- A slice that was made by the call (nothing of it was known in h0), known for good in h: with its spare. -/
def OwnH {α : Type} (el k : Nat) (s : Sl α) (enc : α → List Value) (h0 h : Heap) : Prop :=
  s = ⟨none, 0, []⟩ ∨ ∃ g cur, s.at_ = some ⟨g, 0, none⟩ ∧ h0 g = none ∧ h g = some (.cells cur el (0, 0)) ∧ s.xs.length ≤ s.cap ∧ s.cap ≤ maxLen ∧ cur.size = s.cap * k ∧ cur.toList.take (s.xs.length * k) = s.xs.flatMap enc
section
variable {α : Type} {el k : Nat} {s : Sl α} {enc : α → List Value} {h0 h h' : Heap}
theorem OwnH.le (o : OwnH el k s enc h0 h) (hl : h.le h') : OwnH el k s enc h0 h' := by
  rcases o with o | ⟨g, cur, h1, h2, h3, h4⟩
  · exact .inl o
  · exact .inr ⟨g, cur, h1, h2, hl _ _ h3, h4⟩
theorem OwnH.older {h1 : Heap} (o : OwnH el k s enc h0 h) (hl : h1.le h0) : OwnH el k s enc h1 h := by
  rcases o with o | ⟨g, cur, k1, k2, k3⟩
  · exact .inl o
  · refine .inr ⟨g, cur, k1, ?_, k3⟩
    cases e : h1 g with
    | none => rfl
    | some x => rw [hl _ _ e] at k2; cases k2
theorem OwnH.in (o : OwnH el k s enc h0 h) (hk : ∀ x, (enc x).length = k) : s.In k enc h := by
  rcases o with rfl | ⟨g, cur, h1, _, h3, _, _, _, h7⟩
  · exact fun i x hx => by simp at hx
  · obtain ⟨a, c, xs⟩ := s
    simp only at h1 h7
    subst h1
    refine rowIn hk h3 fun j v hv => ?_
    rw [← h7, List.getElem?_take] at hv
    split at hv
    · simpa using hv
    · cases hv
theorem Heap.le_minus {h1 h : Heap} (g : Nat) (hl : h1.le h) (hg : h1 g = none) : h1.le (fun b => if b = g then none else h b) := fun b o hb => by
  have : b ≠ g := fun e => by rw [e, hg] at hb; cases hb
  simp only [this, if_false]; exact hl b o hb
/-- Written again: known for good no more. -/
theorem Inv.unsettle {B : Base} {M : List SA} {w : World} (I : Inv B h M w) (o : OwnH el k s enc h0 h) (hB : B.h.le h0) :
    ∃ h', Inv B h' (ownSl el k s.val s.xs.length (s.xs.flatMap enc) :: M) w ∧ (∀ h1 : Heap, h1.le h → h1.le h0 → h1.le h') ∧ (∀ b x, h b = some x → h' b = some x ∨ s.at_ = some ⟨b, 0, none⟩) := by
  rcases o with rfl | ⟨g, cur, h1, h2, h3, h4, h5, h6, h7⟩
  · exact ⟨h, I.nilSl el k, fun h1 hl _ => hl, fun b x hb => .inl hb⟩
  · have hBg : B.h g = none := by
      cases e : B.h g with
      | none => rfl
      | some x => rw [hB _ _ e] at h2; cases h2
    have hsz : B.w.heap.size ≤ g := by
      rcases I.new g _ h3 with h | h
      · rw [hBg] at h; cases h
      · exact h
    have hval : s.val = .slice (some ⟨g, 0, none⟩) s.xs.length s.cap := by simp only [Sl.val, h1]
    have hlen : (s.xs.flatMap enc).length = s.xs.length * k := by
      rw [← h7, List.length_take, Array.length_toList, h6]
      exact Nat.min_eq_left (Nat.mul_le_mul_right k h4)
    refine ⟨fun b => if b = g then none else h b, ⟨I.below, fun b o hb => Heap.le_minus g I.ext hBg b o hb, fun b o hb => ?_, fun b o hb => ?_, fun A hA => ?_, List.pairwise_cons.2 ⟨fun C hC b hb hbC => ?_, I.apart⟩⟩, fun h1 hl hl0 => Heap.le_minus g hl ?_, fun b x hb => ?_⟩
    · by_cases e : b = g
      · simp [e] at hb
      · simp only [e, if_false] at hb; exact I.new b o hb
    · by_cases e : b = g
      · simp [e] at hb
      · simp only [e, if_false] at hb; exact I.imm b o hb
    · rcases List.mem_cons.1 hA with rfl | hA
      · refine ⟨?_, fun b hb => ?_⟩
        · show w.ownsRow 0 el k s.val s.xs.length (s.xs.flatMap enc)
          rw [hval]
          exact ⟨hlen, .inr ⟨g, s.cap, cur, rfl, Nat.zero_le _, I.imm _ _ h3, h4, h5, h6, h7⟩⟩
        · have : b = g := by simpa [ownSl, hval, Value.ownBlock] using hb
          subst this
          exact ⟨hsz, I.lt h3, by simp⟩
      · obtain ⟨p1, p2⟩ := I.own A hA
        refine ⟨p1, fun b hb => ?_⟩
        obtain ⟨q1, q2, q3⟩ := p2 b hb
        refine ⟨q1, q2, ?_⟩
        by_cases e : b = g
        · simp [e]
        · simp [e, q3]
    · have : b = g := by simpa [ownSl, hval, Value.ownBlock] using hb
      subst this
      have := ((I.own C hC).2 b hbC).2.2
      rw [h3] at this; cases this
    · cases e : h1 g with
      | none => rfl
      | some x => rw [hl0 _ _ e] at h2; cases h2
    · by_cases e : b = g
      · subst e; exact .inr h1
      · exact .inl (by simp [e, hb])
/-- What was appended to is known for good. -/
theorem Inv.settleO {B : Base} {M : List SA} {w : World} {v : Value} {n : Nat} {xs : List α} (I : Inv B h (ownSl el k v n (xs.flatMap enc) :: M) w) (hn : n = xs.length) :
    ∃ (h' : Heap) (s : Sl α), h.le h' ∧ s.val = v ∧ s.xs = xs ∧ OwnH el k s enc h h' ∧ Inv B h' M w := by
  subst hn
  have hp : w.ownsRow 0 el k v xs.length (xs.flatMap enc) := (I.own _ (List.mem_cons_self ..)).1
  have hfp0 := (I.own _ (List.mem_cons_self ..)).2
  obtain ⟨h', hle, hfp, I'⟩ := I.settle
  rcases hp.2 with ⟨rfl, h0⟩ | ⟨g, cap, cur, rfl, _, hg, hnc, hcm, hcs, htake⟩
  · have : xs = [] := List.eq_nil_of_length_eq_zero h0
    subst this
    exact ⟨h', ⟨none, 0, []⟩, hle, rfl, rfl, .inl rfl, I'⟩
  · have hm : g ∈ (ownSl el k (.slice (some ⟨g, 0, none⟩) xs.length cap) xs.length (xs.flatMap enc)).fp := by simp [ownSl, Value.ownBlock]
    exact ⟨h', ⟨some ⟨g, 0, none⟩, cap, xs⟩, hle, rfl, rfl, .inr ⟨g, cur, rfl, (hfp0 g hm).2.2, (hfp g hm).trans hg, hnc, hcm, hcs, htake⟩, I'⟩
end
section
variable {P : Program} {e : Env} {w : World} {B : Base} {h : Heap} {M : List SA} {t : TypeId} {pos : String} {af : Array Edge} {g : Option (Nat × Bool)} {d : Option Nat} {K : Value → World → Prop}
/-- An empty literal. -/
theorem O.mkE {α : Type} {T el k : Nat} (enc : α → List Value) (I : Inv B h M w) (hT : Und P T (.slice el)) (hk : ∀ w, (sizeOf el).run P w = .ok k w)
    (kk : ∀ (s : Sl α) h' w', Inv B h' M w' → h.le h' → s.xs = [] → s.cap = 0 → (∃ b, s.at_ = some ⟨b, 0, none⟩) → OwnH el k s enc h h' → K s.val w') :
    Op1 P ⟨d, .buildSlice T 0 #[], t, pos, af, g⟩ e w K := by
  have hrun : (execOp (ev e) ⟨d, .buildSlice T 0 #[], t, pos, af, g⟩).run P w = .ok (.value (.slice (some ⟨w.heap.size, 0, none⟩) 0 0)) (w.alloc (.cells #[] el)) := by
    have hd : ¬ ((0 : Nat) > 2 ^ 24) := by decide
    simp only [execOp, Instr.buildSlice, Sem.run_bind, run_underlying hT, Result.andThen_ok, hk w, Nat.zero_mul, if_neg hd, if_true, Sem.run_pure]
    have hr0 : Array.range 0 = #[] := rfl
    simp [newRow, Instr.fill, hr0]
  unfold Op1
  rw [hrun]
  have hm : ∀ b ∈ (⟨[w.heap.size], fun w' => w'.heap[w.heap.size]? = some (.cells #[] el (0, 0)), fun _ _ hh hp => (hh _ (by simp)).trans hp⟩ : SA).fp, w.heap.size ≤ b ∧ b < (w.alloc (.cells #[] el)).heap.size := fun b hb => by simp at hb; subst hb; simp
  have J := I.gain (A := ⟨[w.heap.size], fun w' => w'.heap[w.heap.size]? = some (.cells #[] el (0, 0)), fun _ _ hh hp => (hh _ (by simp)).trans hp⟩) (w' := w.alloc (.cells #[] el)) (Grow.alloc _ _) (heap_alloc_new w _) hm
  have hfr := ((J.own _ (List.mem_cons_self ..)).2 w.heap.size (by simp)).2.2
  obtain ⟨h', hle, hfp, J'⟩ := J.settle
  have hb' : h' w.heap.size = some (.cells #[] el (0, 0)) := (hfp _ (by simp)).trans (heap_alloc_new w _)
  exact kk ⟨some ⟨w.heap.size, 0, none⟩, 0, []⟩ h' _ J' hle rfl rfl ⟨_, rfl⟩ (.inr ⟨_, #[], rfl, hfr, hb', Nat.le_refl _, Nat.zero_le _, by simp, by simp⟩)
theorem run_append_empty {T ty el size : Nat} (hT : P.underlying T = some (.slice el)) (hs : (sizeOf el).run P w = .ok size w) (b : Addr) (n c : Nat) (hnc : n ≤ c) (a : Option Addr) (c' : Nat) :
    (Builtin.append_ #[T, T] ty #[.slice (some b) n c, .slice a 0 c']).run P w = .ok (.slice (some b) n c) w := by
  cases a <;> simp [Builtin.append_, run_underlying hT, hs, Builtin.lenOf, hnc, Builtin.firstCells, storeCells, loadCells, loadCellsFrom]
/-- Numbers turned to another kind; halved by a shift. -/
theorem Y.conv {x : Operand} {S T : TypeId} {k k' : IntKind} {n : Int} (hS : (P.underlying S).isSome = true) (hT : Und P T (.int k')) (hw : k'.wrap n = n) (hx : ev e x = .int k n) : Y P ⟨d, .convert S T x, t, pos, af, g⟩ e w (.int k' n) := by
  obtain ⟨d', hd'⟩ := Option.isSome_iff_exists.mp hS
  simp [Y, execOp, hx, convert, run_underlying hd', run_underlying hT, Conv.intToInt, hw]
theorem Y.half {x y : Operand} {T T' : TypeId} {k yk : IntKind} {a : Int} (h1 : 1 ≤ k.bits) (hx : ev e x = .int k a) (hy : ev e y = .int yk 1) : Y P ⟨d, .binOp .shr T x y T', t, pos, af, g⟩ e w (.int k (a / 2)) := by
  have hm : min 1 k.bits = 1 := by omega
  simp [Y, execOp, hx, hy, eqGuard, binOp, Op.shift, hm, Int.fdiv_eq_ediv_of_nonneg]
theorem wrap_u64 {n : Int} (h0 : 0 ≤ n) (h1 : n ≤ 9223372036854775807) : IntKind.u64.wrap n = n := by
  have h64 : IntKind.u64.bits = 64 := rfl
  have hs : IntKind.u64.signed = false := rfl
  unfold IntKind.wrap
  simp only [h64, hs, Bool.false_and, show (2 ^ 64 : Int) = 18446744073709551616 from rfl, Bool.false_eq_true, if_false]
  omega
theorem equalIn_nil (d : Nat) {T el : TypeId} {a : Option Addr} {n c : Nat} (hT : Und P T (.slice el)) : (Op.equalIn (d + 1) T (.slice a n c) (.slice none 0 0)).run P w = .ok a.isNone w := by
  cases a <;> simp [Op.equalIn, run_underlying hT]
/-- A slice held against nil. -/
theorem Y.eqnil {x y : Operand} {T T' el : TypeId} {a : Option Addr} {n c : Nat} (hT : Und P T (.slice el)) (hx : ev e x = .slice a n c) (hy : ev e y = .slice none 0 0) : Y P ⟨d, .binOp .eql T x y T', t, pos, af, g⟩ e w (.bool a.isNone) := by
  have h1 : ∀ w, (Op.equal T (.slice a n c) (.slice none 0 0)).run P w = .ok a.isNone w := fun w => equalIn_nil 9999 hT
  have h2 : (binOp .eql T (.slice a n c) (.slice none 0 0)).run P w = .ok (.bool a.isNone) w := by simp [binOp, h1]
  simp [Y, execOp, hx, hy, eqGuard, h2]
/-- Appended onto an empty literal. -/
theorem O.appendE {α : Type} {T el k bytes : Nat} {z : Value} {x y : Operand} {s u : Sl α} {enc : α → List Value} {h0 : Heap} (I : Inv B h M w) (hT : Und P T (.slice el)) (he : ElT P el k bytes z) (hk : ∀ x, (enc x).length = k) (hs : OwnH el k s enc h0 h) (hl0 : h0.le h) (hs0 : s.xs = []) (hsc : s.cap = 0) (hsa : ∃ b, s.at_ = some ⟨b, 0, none⟩) (hu : u.In k enc h)
    (hx : ev e x = s.val) (hy : ev e y = u.val) (hb : u.xs.length * bytes ≤ 140737488355328) (h63 : u.xs.length ≤ 140737488355328)
    (kk : ∀ (r : Sl α) h' w', Inv B h' M w' → h.le h' → r.xs = u.xs → OwnH el k r enc h0 h' → (r.xs = [] → r.cap = 0) → K r.val w') :
    Op1 P ⟨d, .call { callee := .builtin .append, args := #[x, y], argTypes := #[T, T] }, t, pos, af, g⟩ e w K := by
  obtain ⟨i, hi, hz, hsz, hby⟩ : ∃ i, P.info? el = some i ∧ i.zero = some z ∧ i.size = k ∧ i.bytes = bytes := by
    have := he.info
    cases h : P.info? el with
    | none => simp [h] at this
    | some i => simp [h] at this; exact ⟨i, rfl, this.1, this.2.1, this.2.2⟩
  obtain ⟨b, hsa⟩ := hsa
  have hsv : s.val = .slice (some ⟨b, 0, none⟩) 0 0 := by simp only [Sl.val, hsa, hs0, hsc, List.length_nil]
  rw [hsv] at hx
  by_cases hn : u.xs = []
  · have hrun := run_append_empty (P := P) (w := w) (T := T) (ty := t) (size := k) hT (by simp [sizeOf, typeInfo, hi, hsz]) ⟨b, 0, none⟩ 0 0 (Nat.le_refl _) u.at_ u.cap
    have hA : (execOp (ev e) ⟨d, .call { callee := .builtin .append, args := #[x, y], argTypes := #[T, T] }, t, pos, af, g⟩).run P w = .ok (.value (.slice (some ⟨b, 0, none⟩) 0 0)) w := by
      simp only [Sl.val, hn, List.length_nil] at hy
      simp [execOp, resolve, invoke, builtin, hx, hy, hrun]
    unfold Op1
    rw [hA]
    have := kk s h w I (Heap.le.refl _) (hs0.trans hn.symm) hs (fun _ => hsc)
    rwa [hsv] at this
  · have hpos : 0 < u.xs.length := List.length_pos_iff.2 hn
    have hua' := (hu 0 u.xs[0] (List.getElem?_eq_getElem hpos)).1
    have hnews : ∀ j v, (u.xs.flatMap enc)[j]? = some v → w.cell? ((⟨u.blk, u.off, none⟩ : Addr).add j) = some v := fun j v hv => by rw [addr_add]; exact I.rd (hu.flat hk he.pos) j v hv
    have hrun := run_append_grow (P := P) w T t el i z hT hi hz ⟨b, 0, none⟩ 0 0 [] (by simp) (fun j v hv => by simp at hv) ⟨u.blk, u.off, none⟩ u.xs.length u.cap (u.xs.flatMap enc) (by rw [flat_len hk, hsz]) hnews (by omega) (by omega) (growslice_fits (by omega) (by rw [hby]; simpa using hb))
    have hA : (execOp (ev e) ⟨d, .call { callee := .builtin .append, args := #[x, y], argTypes := #[T, T] }, t, pos, af, g⟩).run P w = .ok (.value (.slice (some ⟨w.heap.size, 0, none⟩) u.xs.length (grownCap w u.xs.length 0 el)))
        (w.drew.alloc (.cells ((u.xs.flatMap enc).toArray ++ Builtin.zeroCells z.cells (grownCap w u.xs.length 0 el - u.xs.length)) el)) := by
      simp only [Sl.val, hua'] at hy
      simp [execOp, resolve, invoke, builtin, hx, hy, hrun]
    unfold Op1
    rw [hA]
    have hge := grownCap_ge w u.xs.length 0 el
    have hcm := grownCap_le_maxLen w u.xs.length 0 el (by simp only [maxLen]; omega)
    obtain ⟨cs, hcs⟩ : ∃ cs : Array Value, cs = (u.xs.flatMap enc).toArray ++ Builtin.zeroCells z.cells (grownCap w u.xs.length 0 el - u.xs.length) := ⟨_, rfl⟩
    rw [← hcs]
    have hnew := heap_alloc_new w.drew (.cells cs el)
    have J := I.gain (A := ⟨[w.heap.size], fun w' => w'.heap[w.heap.size]? = some (.cells cs el (0, 0)), fun _ _ hh hp => (hh _ (by simp)).trans hp⟩) (w' := w.drew.alloc (.cells cs el)) ((Grow.drew w).trans (Grow.alloc _ _)) hnew (fun b hb => by simp at hb; subst hb; simp)
    have hfr := ((J.own _ (List.mem_cons_self ..)).2 w.heap.size (by simp)).2.2
    obtain ⟨h', hle, hfp, J'⟩ := J.settle
    have hb' : h' w.heap.size = some (.cells cs el (0, 0)) := (hfp _ (by simp)).trans hnew
    refine kk ⟨some ⟨w.heap.size, 0, none⟩, grownCap w u.xs.length 0 el, u.xs⟩ h' _ J' hle rfl (OwnH.older (h0 := h) (.inr ⟨_, cs, rfl, hfr, hb', hge, hcm, ?_, ?_⟩) hl0) (fun e => absurd e hn)
    · rw [hcs]
      simp only [Array.size_append, List.size_toArray, size_zeroCells, he.cells, flat_len hk, ← Nat.add_mul]
      congr 1
      omega
    · rw [hcs]
      simp only [Array.toList_append]
      rw [← flat_len hk]
      exact List.take_left
end
end Go.TF
