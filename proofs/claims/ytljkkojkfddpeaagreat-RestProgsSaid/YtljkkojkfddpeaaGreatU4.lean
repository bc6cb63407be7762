/- Texts Base12 Base13 Base14 Base15 Base16 Base17 SpBase SpBase2 SpStrata. -/
import Derived.Test.YtljkkojkfddpeaaGreatU3
import Derived.Lib.AppendZeros
import Derived.Lib.AppendZerosOnto
import Derived.Lib.Overlaps
import Derived.Test.YtljkkojkfddpeaaGreatU2
section
/- Maps from string to int that the call makes. -/
namespace Go.TF
open Go Go.RowKit

theorem beq_bytes (a b : ByteArray) : (a == b) = decide (a = b) := by
  rw [beq_toListBytes, ByteArray.toList_eq, ByteArray.toList_eq]
  by_cases h : a = b
  · subst h; simp
  · rw [decide_eq_false h, beq_eq_false_iff_ne]
    intro e
    exact h (by obtain ⟨⟨x⟩⟩ := a; obtain ⟨⟨y⟩⟩ := b; simp at e; subst e; rfl)
def sV (p : ByteArray × Int) : Value × Value := (.string p.1, .int .i64 p.2)
def EntsS (ents : List MapEntry) (es : List (ByteArray × Int)) : Prop := ents.map (fun e => (e.key, e.val)) = es.map sV
def slook : List (ByteArray × Int) → ByteArray → Option Int
  | [], _ => none
  | (k, v) :: r, x => if x = k then some v else slook r x
def sset : List (ByteArray × Int) → ByteArray → Int → List (ByteArray × Int)
  | [], x, v => [(x, v)]
  | (k, w) :: r, x, v => if x = k then (x, v) :: r else (k, w) :: sset r x v
theorem slook_sset (es : List (ByteArray × Int)) (x y : ByteArray) (v : Int) : slook (sset es x v) y = if y = x then some v else slook es y := by
  induction es with
  | nil => simp [sset, slook]
  | cons p r ih =>
    obtain ⟨k, w⟩ := p
    simp only [sset]
    split
    · rename_i h; subst h; simp only [slook]; split <;> simp_all
    · rename_i h; simp only [slook, ih]; split <;> split <;> simp_all
theorem findNowS_none {x : ByteArray} : ∀ (ents : List MapEntry) (es : List (ByteArray × Int)) (i : Nat), EntsS ents es → slook es x = none → Instr.findNow .string (.string x) ents i = some none
  | [], _, _, _, _ => rfl
  | e :: r, [], _, h, _ => by simp [EntsS] at h
  | e :: r, (a, b) :: s, i, h, hl => by
    simp only [EntsS, List.map_cons, List.cons.injEq] at h
    simp only [slook] at hl
    split at hl
    · cases hl
    · rename_i hx
      have h1 : e.key = .string a := (Prod.mk.inj h.1).1
      have : (x == a) = false := by rw [beq_bytes]; simpa using hx
      simp only [Instr.findNow, h1, Instr.sameNow, this]
      exact findNowS_none r s (i + 1) h.2 hl
theorem findNowS_some {x : ByteArray} {v : Int} : ∀ (ents : List MapEntry) (es : List (ByteArray × Int)) (i : Nat), EntsS ents es → slook es x = some v →
    ∃ j, j < ents.length ∧ Instr.findNow .string (.string x) ents i = some (some (i + j, .int .i64 v)) ∧ ((ents[j]?).map (·.key)) = some (.string x) ∧ ∀ v', EntsS (ents.modify j fun e => { e with key := .string x, val := .int .i64 v' }) (sset es x v')
  | [], [], _, _, hl => by simp [slook] at hl
  | [], _ :: _, _, h, _ => by simp [EntsS] at h
  | e :: r, [], _, h, _ => by simp [EntsS] at h
  | e :: r, (a, b) :: s, i, h, hl => by
    simp only [EntsS, List.map_cons, List.cons.injEq] at h
    have h1 : e.key = .string a := (Prod.mk.inj h.1).1
    have h2 : e.val = .int .i64 b := (Prod.mk.inj h.1).2
    simp only [slook] at hl
    split at hl
    · rename_i hx
      subst hx
      cases hl
      refine ⟨0, by simp, by simp [Instr.findNow, h1, Instr.sameNow, h2, beq_bytes], by simp [h1], fun v' => ?_⟩
      simp [EntsS, sset, sV]
      exact h.2
    · rename_i hx
      obtain ⟨j, hj, hf, hk, hm⟩ := findNowS_some r s (i + 1) h.2 hl
      refine ⟨j + 1, by simpa using hj, ?_, by simpa using hk, fun v' => ?_⟩
      · have : (x == a) = false := by rw [beq_bytes]; simpa using hx
        simp only [Instr.findNow, h1, Instr.sameNow, this, hf]
        rw [show i + (j + 1) = i + 1 + j by omega]
      · simp only [EntsS, List.modify_succ_cons, sset, if_neg hx, List.map_cons, List.cons.injEq]
        exact ⟨h.1, hm v'⟩
theorem checkKey_str {P : Program} {w : World} {em : Bool} {n : Nat} {T : TypeId} {x : ByteArray} (hT : Und P T .string) : (Instr.checkKey em (n + 1) T (.string x)).run P w = .ok () w := by
  simp [Instr.checkKey, run_underlying hT]

structure SMap (ents : List MapEntry) (clock : Nat) (es : List (ByteArray × Int)) : Prop where
  is : EntsS ents es
  nodup : (ents.map (·.born)).Nodup
  lt : ∀ e ∈ ents, e.born < clock
def smap (b : Nat) (es : List (ByteArray × Int)) : SA where
  fp := [b]
  P := fun w => ∃ ents clock, w.heap[b]? = some (.map ents.toArray clock) ∧ SMap ents clock es
  loc := by
    intro w w' h hp
    obtain ⟨ents, clock, h1, h2⟩ := hp
    exact ⟨ents, clock, (h b (by simp)).trans h1, h2⟩
section
variable {P : Program} {e : Env} {w : World} {B : Base} {h : Heap} {M : List SA} {t : TypeId} {pos : String} {af : Array Edge} {g : Option (Nat × Bool)} {d : Option Nat} {K : Value → World → Prop}
theorem O.mkmaps {T : TypeId} (I : Inv B h M w) (k : ∀ b w', Inv B h (smap b [] :: M) w' → K (.map (some b)) w') : Op1 P ⟨d, .makeMap T none, t, pos, af, g⟩ e w K := by
  have : (execOp (ev e) ⟨d, .makeMap T none, t, pos, af, g⟩).run P w = .ok (.value (.map (some w.heap.size))) (w.alloc (.map #[] 0)) := by
    simp [execOp, Instr.makeMap]
  unfold Op1
  rw [this]
  refine k _ _ (I.gain (Grow.alloc w _) ⟨[], 0, heap_alloc_new w _, rfl, List.Pairwise.nil, fun _ h => by cases h⟩ (fun b hb => ?_))
  simp [smap] at hb; subst hb; simp
theorem lookupS_run {T Kt Vt : TypeId} {m : Nat} {ents : List MapEntry} {clock : Nat} {es : List (ByteArray × Int)} {x : ByteArray} (hT : Und P T (.map Kt Vt)) (hK : Und P Kt .string) (hz : Zero P Vt (.int .i64 0)) (hm : w.heap[m]? = some (.map ents.toArray clock)) (hi : EntsS ents es) :
    (Instr.lookup T (.map (some m)) (.string x) false).run P w = .ok (.int .i64 ((slook es x).getD 0)) w := by
  have hg : (getObj m).run P w = .ok (.map ents.toArray clock) w := getObj_run hm (by intro c t f h; cases h)
  have hck : ∀ em, (Instr.checkKey em 10000 Kt (.string x)).run P w = .ok () w := fun em => checkKey_str (n := 9999) hK
  cases hl : slook es x with
  | none =>
    have hf := findNowS_none ents es 0 hi hl
    simp [Instr.lookup, run_underlying hT, hg, hck, Instr.findKey, run_underlying hK, hf, hz w]
  | some v =>
    obtain ⟨j, _, hf, _⟩ := findNowS_some ents es 0 hi hl
    simp [Instr.lookup, run_underlying hT, hg, hck, Instr.findKey, run_underlying hK, hf]
theorem Y.lookups {T Kt Vt : TypeId} {b : Nat} {es : List (ByteArray × Int)} {x y : Operand} {i : ByteArray} (I : Inv B h M w) (hT : Und P T (.map Kt Vt)) (hK : Und P Kt .string) (hz : Zero P Vt (.int .i64 0)) (n : Nat) (hn : M[n]? = some (smap b es)) (hx : ev e x = .map (some b)) (hy : ev e y = .string i) :
    Y P ⟨d, .lookup T x y false, t, pos, af, g⟩ e w (.int .i64 ((slook es i).getD 0)) := by
  obtain ⟨ents, clock, h1, h2⟩ := I.at n hn
  simp [Y, execOp, hx, hy, lookupS_run hT hK hz h1 h2.is]
theorem O.mapsets {T Kt Vt : TypeId} {b : Nat} {es : List (ByteArray × Int)} {x y z : Operand} {i : ByteArray} {v : Int} (I : Inv B h M w) (hT : Und P T (.map Kt Vt)) (hK : Und P Kt .string) (n : Nat) (hn : M[n]? = some (smap b es)) (hx : ev e x = .map (some b)) (hy : ev e y = .string i) (hz : ev e z = .int .i64 v)
    (k : ∀ w', Inv B h (M.set n (smap b (sset es i v))) w' → K undef w') : Op1 P ⟨d, .mapUpdate T x y z, t, pos, af, g⟩ e w K := by
  obtain ⟨ents, clock, h1, h2⟩ := I.at n hn
  have hg : (getObj b).run P w = .ok (.map ents.toArray clock) w := getObj_run h1 (by intro c t f h; cases h)
  have hck : ∀ em, (Instr.checkKey em 10000 Kt (.string i)).run P w = .ok () w := fun em => checkKey_str (n := 9999) hK
  have hset : ∀ o, (Go.setObj b o).run P w = .ok () { w with heap := w.heap.setIfInBounds b o } := fun o => setObj_run h1 (by intro c t f h; cases h)
  cases hl : slook es i with
  | none =>
    have hf := findNowS_none ents es 0 h2.is hl
    have hrun : (execOp (ev e) ⟨d, .mapUpdate T x y z, t, pos, af, g⟩).run P w = .ok .skip { w with heap := w.heap.setIfInBounds b (.map (ents ++ [({ key := .string i, val := .int .i64 v, born := clock } : MapEntry)]).toArray (clock + 1)) } := by
      simp [execOp, hx, hy, hz, Instr.mapUpdate, run_underlying hT, hg, hck, Instr.findKey, run_underlying hK, hf, hset]
    unfold Op1
    rw [hrun]
    refine k _ (I.setObj n hn rfl rfl fun w' hw' => ⟨_, _, hw', ?_, ?_, ?_⟩)
    · have : sset es i v = es ++ [(i, v)] := by
        clear hf h1 h2 hg hset hn k
        induction es with
        | nil => rfl
        | cons p r ih =>
          obtain ⟨a, c⟩ := p
          simp only [slook] at hl
          split at hl
          · cases hl
          · rename_i hne; simp [sset, hne, ih hl]
      rw [this]
      unfold EntsS
      rw [List.map_append, List.map_append, h2.is]; rfl
    · rw [List.map_append, List.nodup_append]
      refine ⟨h2.nodup, by simp, fun a ha c hc => ?_⟩
      simp at hc; subst hc
      obtain ⟨q, hq, rfl⟩ := List.mem_map.1 ha
      have := h2.lt q hq; omega
    · intro q hq
      rcases List.mem_append.1 hq with hq | hq
      · have := h2.lt q hq; omega
      · simp at hq; subst hq; simp
  | some v0 =>
    obtain ⟨j, hj, hf, hk, hm⟩ := findNowS_some ents es 0 h2.is hl
    have hrun : (execOp (ev e) ⟨d, .mapUpdate T x y z, t, pos, af, g⟩).run P w = .ok .skip { w with heap := w.heap.setIfInBounds b (.map (ents.modify j fun e => { e with key := .string i, val := .int .i64 v }).toArray clock) } := by
      have hk' : ents[j]?.map (·.key) = some (.string i) := hk
      cases hgt : ents[j]? with
      | none => simp [hgt] at hk'
      | some q =>
        simp only [hgt, Option.map_some, Option.some.injEq] at hk'
        simp [execOp, hx, hy, hz, Instr.mapUpdate, run_underlying hT, hg, hck, Instr.findKey, run_underlying hK, hf, hset, hgt, hk', Instr.keyThatStays, Instr.sameBits, beq_bytes]
    unfold Op1
    rw [hrun]
    refine k _ (I.setObj n hn rfl rfl fun w' hw' => ⟨_, _, hw', hm v, ?_, ?_⟩)
    · have : (ents.modify j fun e => { e with key := .string i, val := .int .i64 v }).map (·.born) = ents.map (·.born) := by
        apply List.ext_getElem?
        intro q
        simp only [List.getElem?_map, List.getElem?_modify]
        cases ents[q]? <;> simp
        split <;> rfl
      rw [this]; exact h2.nodup
    · intro q hq
      obtain ⟨p, hp⟩ := List.mem_iff_getElem?.1 hq
      rw [List.getElem?_modify] at hp
      cases hgp : ents[p]? with
      | none => simp [hgp] at hp
      | some c =>
        have := h2.lt c (List.mem_of_getElem? hgp)
        simp only [hgp] at hp
        cases hp; split <;> exact this
/-- Calls that turn what the caller owns. -/
theorem O.callcs {x : Operand} {f : FuncId} {fs cs : List Value} {args : Array Operand} {ts : Array TypeId} {vs : List Value} {R : Ending → World → Prop} (hf : Enters P f)
    (hx : ev e x = .func (.func f) fs.toArray cs.toArray) (hc : Calls P f vs.toArray w R) (ha : fs ++ args.toList.map (ev e) ++ cs = vs) (k : ∀ ed w', R ed w' → ∃ v, ed = .returned v ∧ K v w') :
    Op1 P ⟨d, .call { callee := .value x, args := args, argTypes := ts }, t, pos, af, g⟩ e w K := by
  have ha' : fs.toArray ++ args.map (ev e) ++ cs.toArray = vs.toArray := by rw [← ha]; apply Array.ext'; simp
  have : (execOp (ev e) ⟨d, .call { callee := .value x, args := args, argTypes := ts }, t, pos, af, g⟩).run P w = .ok (.enter f vs.toArray) w := by
    simp only [execOp, resolve, hx, Deferred.ofValue]
    simp [invoke, ha', hf]
  unfold Op1
  rw [this]
  refine Calls.mono hc ?_
  rintro ed w' h
  obtain ⟨v, rfl, hk⟩ := k ed w' h
  exact hk
theorem O.calls {f : FuncId} {args : Array Operand} {ts : Array TypeId} {vs : List Value} {R : Ending → World → Prop} (hf : Enters P f) (hc : Calls P f vs.toArray w R)
    (ha : args.toList.map (ev e) = vs) (k : ∀ ed w', R ed w' → ∃ v, ed = .returned v ∧ K v w') : Op1 P ⟨d, .call { callee := .value (.func f), args := args, argTypes := ts }, t, pos, af, g⟩ e w K := by
  have ha' : args.map (ev e) = vs.toArray := by rw [← ha]; apply Array.ext'; simp
  have : (execOp (ev e) ⟨d, .call { callee := .value (.func f), args := args, argTypes := ts }, t, pos, af, g⟩).run P w = .ok (.enter f vs.toArray) w := by
    simp [execOp, resolve, ev, Deferred.ofValue, invoke, ha', hf]
  unfold Op1
  rw [this]
  refine Calls.mono hc ?_
  rintro ed w' h
  obtain ⟨v, rfl, hk⟩ := k ed w' h
  exact hk
end
/-! ### Slices known for good, appended to -/
theorem flat_at {α : Type} {enc : α → List Value} {k : Nat} (hk : ∀ x, (enc x).length = k) (hk0 : 0 < k) : ∀ (xs : List α) (j : Nat) (v : Value), (xs.flatMap enc)[j]? = some v → ∃ x, xs[j / k]? = some x ∧ (enc x)[j % k]? = some v
  | [], j, v, h => by simp at h
  | x :: xs, j, v, h => by
    simp only [List.flatMap_cons] at h
    by_cases hj : j < k
    · rw [List.getElem?_append_left (by rw [hk]; exact hj)] at h
      exact ⟨x, by rw [Nat.div_eq_of_lt hj]; rfl, by rw [Nat.mod_eq_of_lt hj]; exact h⟩
    · rw [List.getElem?_append_right (by rw [hk]; omega), hk] at h
      obtain ⟨y, h1, h2⟩ := flat_at hk hk0 xs (j - k) v h
      have e1 : j / k = (j - k) / k + 1 := by rw [Nat.div_eq_sub_div hk0 (by omega)]
      have e2 : j % k = (j - k) % k := by rw [Nat.mod_eq_sub_mod (by omega)]
      exact ⟨y, by rw [e1]; exact h1, by rw [e2]; exact h2⟩
theorem flat_get {α : Type} {enc : α → List Value} {k : Nat} (hk : ∀ x, (enc x).length = k) : ∀ (xs : List α) (i j : Nat) (x : α) (v : Value), xs[i]? = some x → (enc x)[j]? = some v → (xs.flatMap enc)[i * k + j]? = some v
  | [], i, j, x, v, h, _ => by simp at h
  | y :: ys, i, j, x, v, h, hv => by
    have hj : j < k := by have := (List.getElem?_eq_some_iff.1 hv).1; rw [hk] at this; exact this
    simp only [List.flatMap_cons]
    cases i with
    | zero =>
      simp at h; subst h
      rw [List.getElem?_append_left (by rw [hk]; omega)]
      simpa using hv
    | succ i =>
      rw [List.getElem?_append_right (by rw [hk, Nat.add_mul]; omega), hk, show (i + 1) * k + j - k = i * k + j by rw [Nat.add_mul]; omega]
      exact flat_get hk ys i j x v (by simpa using h) hv
theorem flat_len {α : Type} {enc : α → List Value} {k : Nat} (hk : ∀ x, (enc x).length = k) (xs : List α) : (xs.flatMap enc).length = xs.length * k := by
  induction xs with
  | nil => simp
  | cons y ys ih => simp only [List.flatMap_cons, List.length_append, hk, ih, List.length_cons, Nat.add_mul]; omega
/-- A row of cells that is known for good holds a slice. -/
theorem rowIn {α : Type} {enc : α → List Value} {k b c : Nat} {xs : List α} {cs : Array Value} {T : TypeId} {f : Nat × Nat} {h : Heap} (hk : ∀ x, (enc x).length = k) (hb : h b = some (.cells cs T f)) (hp : ∀ (j : Nat) (v : Value), (xs.flatMap enc)[j]? = some v → cs[j]? = some v) : (⟨some ⟨b, 0, none⟩, c, xs⟩ : Sl α).In k enc h := fun i x hx =>
  ⟨rfl, fun j v hv => by
    simp only [Heap.cell, Sl.blk, Sl.off, Option.getD_some, hb, Nat.zero_add]
    exact hp _ _ (flat_get hk xs i j x v hx hv)⟩
theorem Sl.In.flat {α : Type} {s : Sl α} {k : Nat} {enc : α → List Value} {h : Heap} (hs : s.In k enc h) (hk : ∀ x, (enc x).length = k) (hk0 : 0 < k) : RdH h s.blk s.off (s.xs.flatMap enc) := fun j v hv => by
  obtain ⟨x, h1, h2⟩ := flat_at hk hk0 s.xs j v hv
  have := (hs _ _ h1).2 _ _ h2
  rw [Nat.add_assoc, Nat.mul_comm, Nat.div_add_mod] at this
  exact this
section
variable {P : Program} {e : Env} {w : World} {B : Base} {h : Heap} {M : List SA} {t : TypeId} {pos : String} {af : Array Edge} {g : Option (Nat × Bool)} {d : Option Nat} {K : Value → World → Prop}
end
end Go.TF
end
section
/- Slices of the call's own, known for good until they are written again; appended onto an empty literal. -/
namespace Go.TF
open Go Go.RowKit

/-- A slice that was made by the call (nothing of it was known in h0), known for good in h: with its spare. -/
def OwnH {α : Type} (el k : Nat) (s : Sl α) (enc : α → List Value) (h0 h : Heap) : Prop :=
  s = ⟨none, 0, []⟩ ∨ ∃ g cur, s.at_ = some ⟨g, 0, none⟩ ∧ h0 g = none ∧ h g = some (.cells cur el (0, 0)) ∧ s.xs.length ≤ s.cap ∧ s.cap ≤ maxLen ∧ cur.size = s.cap * k ∧ cur.toList.take (s.xs.length * k) = s.xs.flatMap enc
section
variable {α : Type} {el k : Nat} {s : Sl α} {enc : α → List Value} {h0 h h' : Heap}
theorem OwnH.le (o : OwnH el k s enc h0 h) (hl : h.le h') : OwnH el k s enc h0 h' := by
  rcases o with o | ⟨g, cur, h1, h2, h3, h4⟩
  · exact .inl o
  · exact .inr ⟨g, cur, h1, h2, hl _ _ h3, h4⟩
theorem OwnH.older {h1 : Heap} (o : OwnH el k s enc h0 h) (hl : h1.le h0) : OwnH el k s enc h1 h := by
  rcases o with o | ⟨g, cur, k1, k2, k3⟩
  · exact .inl o
  · refine .inr ⟨g, cur, k1, ?_, k3⟩
    cases e : h1 g with
    | none => rfl
    | some x => rw [hl _ _ e] at k2; cases k2
theorem OwnH.in (o : OwnH el k s enc h0 h) (hk : ∀ x, (enc x).length = k) : s.In k enc h := by
  rcases o with rfl | ⟨g, cur, h1, _, h3, _, _, _, h7⟩
  · exact fun i x hx => by simp at hx
  · obtain ⟨a, c, xs⟩ := s
    simp only at h1 h7
    subst h1
    refine rowIn hk h3 fun j v hv => ?_
    rw [← h7, List.getElem?_take] at hv
    split at hv
    · simpa using hv
    · cases hv
theorem Heap.le_minus {h1 h : Heap} (g : Nat) (hl : h1.le h) (hg : h1 g = none) : h1.le (fun b => if b = g then none else h b) := fun b o hb => by
  have : b ≠ g := fun e => by rw [e, hg] at hb; cases hb
  simp only [this, if_false]; exact hl b o hb
/-- Written again: known for good no more. -/
theorem Inv.unsettle {B : Base} {M : List SA} {w : World} (I : Inv B h M w) (o : OwnH el k s enc h0 h) (hB : B.h.le h0) :
    ∃ h', Inv B h' (ownSl el k s.val s.xs.length (s.xs.flatMap enc) :: M) w ∧ (∀ h1 : Heap, h1.le h → h1.le h0 → h1.le h') ∧ (∀ b x, h b = some x → h' b = some x ∨ s.at_ = some ⟨b, 0, none⟩) := by
  rcases o with rfl | ⟨g, cur, h1, h2, h3, h4, h5, h6, h7⟩
  · exact ⟨h, I.nilSl el k, fun h1 hl _ => hl, fun b x hb => .inl hb⟩
  · have hBg : B.h g = none := by
      cases e : B.h g with
      | none => rfl
      | some x => rw [hB _ _ e] at h2; cases h2
    have hsz : B.w.heap.size ≤ g := by
      rcases I.new g _ h3 with h | h
      · rw [hBg] at h; cases h
      · exact h
    have hval : s.val = .slice (some ⟨g, 0, none⟩) s.xs.length s.cap := by simp only [Sl.val, h1]
    have hlen : (s.xs.flatMap enc).length = s.xs.length * k := by
      rw [← h7, List.length_take, Array.length_toList, h6]
      exact Nat.min_eq_left (Nat.mul_le_mul_right k h4)
    refine ⟨fun b => if b = g then none else h b, ⟨I.below, fun b o hb => Heap.le_minus g I.ext hBg b o hb, fun b o hb => ?_, fun b o hb => ?_, fun A hA => ?_, List.pairwise_cons.2 ⟨fun C hC b hb hbC => ?_, I.apart⟩⟩, fun h1 hl hl0 => Heap.le_minus g hl ?_, fun b x hb => ?_⟩
    · by_cases e : b = g
      · simp [e] at hb
      · simp only [e, if_false] at hb; exact I.new b o hb
    · by_cases e : b = g
      · simp [e] at hb
      · simp only [e, if_false] at hb; exact I.imm b o hb
    · rcases List.mem_cons.1 hA with rfl | hA
      · refine ⟨?_, fun b hb => ?_⟩
        · show w.ownsRow 0 el k s.val s.xs.length (s.xs.flatMap enc)
          rw [hval]
          exact ⟨hlen, .inr ⟨g, s.cap, cur, rfl, Nat.zero_le _, I.imm _ _ h3, h4, h5, h6, h7⟩⟩
        · have : b = g := by simpa [ownSl, hval, Value.ownBlock] using hb
          subst this
          exact ⟨hsz, I.lt h3, by simp⟩
      · obtain ⟨p1, p2⟩ := I.own A hA
        refine ⟨p1, fun b hb => ?_⟩
        obtain ⟨q1, q2, q3⟩ := p2 b hb
        refine ⟨q1, q2, ?_⟩
        by_cases e : b = g
        · simp [e]
        · simp [e, q3]
    · have : b = g := by simpa [ownSl, hval, Value.ownBlock] using hb
      subst this
      have := ((I.own C hC).2 b hbC).2.2
      rw [h3] at this; cases this
    · cases e : h1 g with
      | none => rfl
      | some x => rw [hl0 _ _ e] at h2; cases h2
    · by_cases e : b = g
      · subst e; exact .inr h1
      · exact .inl (by simp [e, hb])
/-- What was appended to is known for good. -/
theorem Inv.settleO {B : Base} {M : List SA} {w : World} {v : Value} {n : Nat} {xs : List α} (I : Inv B h (ownSl el k v n (xs.flatMap enc) :: M) w) (hn : n = xs.length) :
    ∃ (h' : Heap) (s : Sl α), h.le h' ∧ s.val = v ∧ s.xs = xs ∧ OwnH el k s enc h h' ∧ Inv B h' M w := by
  subst hn
  have hp : w.ownsRow 0 el k v xs.length (xs.flatMap enc) := (I.own _ (List.mem_cons_self ..)).1
  have hfp0 := (I.own _ (List.mem_cons_self ..)).2
  obtain ⟨h', hle, hfp, I'⟩ := I.settle
  rcases hp.2 with ⟨rfl, h0⟩ | ⟨g, cap, cur, rfl, _, hg, hnc, hcm, hcs, htake⟩
  · have : xs = [] := List.eq_nil_of_length_eq_zero h0
    subst this
    exact ⟨h', ⟨none, 0, []⟩, hle, rfl, rfl, .inl rfl, I'⟩
  · have hm : g ∈ (ownSl el k (.slice (some ⟨g, 0, none⟩) xs.length cap) xs.length (xs.flatMap enc)).fp := by simp [ownSl, Value.ownBlock]
    exact ⟨h', ⟨some ⟨g, 0, none⟩, cap, xs⟩, hle, rfl, rfl, .inr ⟨g, cur, rfl, (hfp0 g hm).2.2, (hfp g hm).trans hg, hnc, hcm, hcs, htake⟩, I'⟩
end
section
variable {P : Program} {e : Env} {w : World} {B : Base} {h : Heap} {M : List SA} {t : TypeId} {pos : String} {af : Array Edge} {g : Option (Nat × Bool)} {d : Option Nat} {K : Value → World → Prop}
/-- An empty literal. -/
theorem O.mkE {α : Type} {T el k : Nat} (enc : α → List Value) (I : Inv B h M w) (hT : Und P T (.slice el)) (hk : ∀ w, (sizeOf el).run P w = .ok k w)
    (kk : ∀ (s : Sl α) h' w', Inv B h' M w' → h.le h' → s.xs = [] → s.cap = 0 → (∃ b, s.at_ = some ⟨b, 0, none⟩) → OwnH el k s enc h h' → K s.val w') :
    Op1 P ⟨d, .buildSlice T 0 #[], t, pos, af, g⟩ e w K := by
  have hrun : (execOp (ev e) ⟨d, .buildSlice T 0 #[], t, pos, af, g⟩).run P w = .ok (.value (.slice (some ⟨w.heap.size, 0, none⟩) 0 0)) (w.alloc (.cells #[] el)) := by
    have hd : ¬ ((0 : Nat) > 2 ^ 24) := by decide
    simp only [execOp, Instr.buildSlice, Sem.run_bind, run_underlying hT, Result.andThen_ok, hk w, Nat.zero_mul, if_neg hd, if_true, Sem.run_pure]
    have hr0 : Array.range 0 = #[] := rfl
    simp [newRow, Instr.fill, hr0]
  unfold Op1
  rw [hrun]
  have hm : ∀ b ∈ (⟨[w.heap.size], fun w' => w'.heap[w.heap.size]? = some (.cells #[] el (0, 0)), fun _ _ hh hp => (hh _ (by simp)).trans hp⟩ : SA).fp, w.heap.size ≤ b ∧ b < (w.alloc (.cells #[] el)).heap.size := fun b hb => by simp at hb; subst hb; simp
  have J := I.gain (A := ⟨[w.heap.size], fun w' => w'.heap[w.heap.size]? = some (.cells #[] el (0, 0)), fun _ _ hh hp => (hh _ (by simp)).trans hp⟩) (w' := w.alloc (.cells #[] el)) (Grow.alloc _ _) (heap_alloc_new w _) hm
  have hfr := ((J.own _ (List.mem_cons_self ..)).2 w.heap.size (by simp)).2.2
  obtain ⟨h', hle, hfp, J'⟩ := J.settle
  have hb' : h' w.heap.size = some (.cells #[] el (0, 0)) := (hfp _ (by simp)).trans (heap_alloc_new w _)
  exact kk ⟨some ⟨w.heap.size, 0, none⟩, 0, []⟩ h' _ J' hle rfl rfl ⟨_, rfl⟩ (.inr ⟨_, #[], rfl, hfr, hb', Nat.le_refl _, Nat.zero_le _, by simp, by simp⟩)
theorem run_append_empty {T ty el size : Nat} (hT : P.underlying T = some (.slice el)) (hs : (sizeOf el).run P w = .ok size w) (b : Addr) (n c : Nat) (hnc : n ≤ c) (a : Option Addr) (c' : Nat) :
    (Builtin.append_ #[T, T] ty #[.slice (some b) n c, .slice a 0 c']).run P w = .ok (.slice (some b) n c) w := by
  cases a <;> simp [Builtin.append_, run_underlying hT, hs, Builtin.lenOf, hnc, Builtin.firstCells, storeCells, loadCells, loadCellsFrom]
/-- Numbers turned to another kind; halved by a shift. -/
theorem Y.conv {x : Operand} {S T : TypeId} {k k' : IntKind} {n : Int} (hS : (P.underlying S).isSome = true) (hT : Und P T (.int k')) (hw : k'.wrap n = n) (hx : ev e x = .int k n) : Y P ⟨d, .convert S T x, t, pos, af, g⟩ e w (.int k' n) := by
  obtain ⟨d', hd'⟩ := Option.isSome_iff_exists.mp hS
  simp [Y, execOp, hx, convert, run_underlying hd', run_underlying hT, Conv.intToInt, hw]
theorem Y.half {x y : Operand} {T T' : TypeId} {k yk : IntKind} {a : Int} (h1 : 1 ≤ k.bits) (hx : ev e x = .int k a) (hy : ev e y = .int yk 1) : Y P ⟨d, .binOp .shr T x y T', t, pos, af, g⟩ e w (.int k (a / 2)) := by
  have hm : min 1 k.bits = 1 := by omega
  simp [Y, execOp, hx, hy, eqGuard, binOp, Op.shift, hm, Int.fdiv_eq_ediv_of_nonneg]
theorem wrap_u64 {n : Int} (h0 : 0 ≤ n) (h1 : n ≤ 9223372036854775807) : IntKind.u64.wrap n = n := by
  have h64 : IntKind.u64.bits = 64 := rfl
  have hs : IntKind.u64.signed = false := rfl
  unfold IntKind.wrap
  simp only [h64, hs, Bool.false_and, show (2 ^ 64 : Int) = 18446744073709551616 from rfl, Bool.false_eq_true, if_false]
  omega
theorem equalIn_nil (d : Nat) {T el : TypeId} {a : Option Addr} {n c : Nat} (hT : Und P T (.slice el)) : (Op.equalIn (d + 1) T (.slice a n c) (.slice none 0 0)).run P w = .ok a.isNone w := by
  cases a <;> simp [Op.equalIn, run_underlying hT]
/-- A slice held against nil. -/
theorem Y.eqnil {x y : Operand} {T T' el : TypeId} {a : Option Addr} {n c : Nat} (hT : Und P T (.slice el)) (hx : ev e x = .slice a n c) (hy : ev e y = .slice none 0 0) : Y P ⟨d, .binOp .eql T x y T', t, pos, af, g⟩ e w (.bool a.isNone) := by
  have h1 : ∀ w, (Op.equal T (.slice a n c) (.slice none 0 0)).run P w = .ok a.isNone w := fun w => equalIn_nil 9999 hT
  have h2 : (binOp .eql T (.slice a n c) (.slice none 0 0)).run P w = .ok (.bool a.isNone) w := by simp [binOp, h1]
  simp [Y, execOp, hx, hy, eqGuard, h2]
/-- Appended onto an empty literal. -/
theorem O.appendE {α : Type} {T el k bytes : Nat} {z : Value} {x y : Operand} {s u : Sl α} {enc : α → List Value} {h0 : Heap} (I : Inv B h M w) (hT : Und P T (.slice el)) (he : ElT P el k bytes z) (hk : ∀ x, (enc x).length = k) (hs : OwnH el k s enc h0 h) (hl0 : h0.le h) (hs0 : s.xs = []) (hsc : s.cap = 0) (hsa : ∃ b, s.at_ = some ⟨b, 0, none⟩) (hu : u.In k enc h)
    (hx : ev e x = s.val) (hy : ev e y = u.val) (hb : u.xs.length * bytes ≤ 140737488355328) (h63 : u.xs.length ≤ 140737488355328)
    (kk : ∀ (r : Sl α) h' w', Inv B h' M w' → h.le h' → r.xs = u.xs → OwnH el k r enc h0 h' → (r.xs = [] → r.cap = 0) → K r.val w') :
    Op1 P ⟨d, .call { callee := .builtin .append, args := #[x, y], argTypes := #[T, T] }, t, pos, af, g⟩ e w K := by
  obtain ⟨i, hi, hz, hsz, hby⟩ : ∃ i, P.info? el = some i ∧ i.zero = some z ∧ i.size = k ∧ i.bytes = bytes := by
    have := he.info
    cases h : P.info? el with
    | none => simp [h] at this
    | some i => simp [h] at this; exact ⟨i, rfl, this.1, this.2.1, this.2.2⟩
  obtain ⟨b, hsa⟩ := hsa
  have hsv : s.val = .slice (some ⟨b, 0, none⟩) 0 0 := by simp only [Sl.val, hsa, hs0, hsc, List.length_nil]
  rw [hsv] at hx
  by_cases hn : u.xs = []
  · have hrun := run_append_empty (P := P) (w := w) (T := T) (ty := t) (size := k) hT (by simp [sizeOf, typeInfo, hi, hsz]) ⟨b, 0, none⟩ 0 0 (Nat.le_refl _) u.at_ u.cap
    have hA : (execOp (ev e) ⟨d, .call { callee := .builtin .append, args := #[x, y], argTypes := #[T, T] }, t, pos, af, g⟩).run P w = .ok (.value (.slice (some ⟨b, 0, none⟩) 0 0)) w := by
      simp only [Sl.val, hn, List.length_nil] at hy
      simp [execOp, resolve, invoke, builtin, hx, hy, hrun]
    unfold Op1
    rw [hA]
    have := kk s h w I (Heap.le.refl _) (hs0.trans hn.symm) hs (fun _ => hsc)
    rwa [hsv] at this
  · have hpos : 0 < u.xs.length := List.length_pos_iff.2 hn
    have hua' := (hu 0 u.xs[0] (List.getElem?_eq_getElem hpos)).1
    have hnews : ∀ j v, (u.xs.flatMap enc)[j]? = some v → w.cell? ((⟨u.blk, u.off, none⟩ : Addr).add j) = some v := fun j v hv => by rw [addr_add]; exact I.rd (hu.flat hk he.pos) j v hv
    have hrun := run_append_grow (P := P) w T t el i z hT hi hz ⟨b, 0, none⟩ 0 0 [] (by simp) (fun j v hv => by simp at hv) ⟨u.blk, u.off, none⟩ u.xs.length u.cap (u.xs.flatMap enc) (by rw [flat_len hk, hsz]) hnews (by omega) (by omega) (growslice_fits (by omega) (by rw [hby]; simpa using hb))
    have hA : (execOp (ev e) ⟨d, .call { callee := .builtin .append, args := #[x, y], argTypes := #[T, T] }, t, pos, af, g⟩).run P w = .ok (.value (.slice (some ⟨w.heap.size, 0, none⟩) u.xs.length (grownCap w u.xs.length 0 el)))
        (w.drew.alloc (.cells ((u.xs.flatMap enc).toArray ++ Builtin.zeroCells z.cells (grownCap w u.xs.length 0 el - u.xs.length)) el)) := by
      simp only [Sl.val, hua'] at hy
      simp [execOp, resolve, invoke, builtin, hx, hy, hrun]
    unfold Op1
    rw [hA]
    have hge := grownCap_ge w u.xs.length 0 el
    have hcm := grownCap_le_maxLen w u.xs.length 0 el (by simp only [maxLen]; omega)
    obtain ⟨cs, hcs⟩ : ∃ cs : Array Value, cs = (u.xs.flatMap enc).toArray ++ Builtin.zeroCells z.cells (grownCap w u.xs.length 0 el - u.xs.length) := ⟨_, rfl⟩
    rw [← hcs]
    have hnew := heap_alloc_new w.drew (.cells cs el)
    have J := I.gain (A := ⟨[w.heap.size], fun w' => w'.heap[w.heap.size]? = some (.cells cs el (0, 0)), fun _ _ hh hp => (hh _ (by simp)).trans hp⟩) (w' := w.drew.alloc (.cells cs el)) ((Grow.drew w).trans (Grow.alloc _ _)) hnew (fun b hb => by simp at hb; subst hb; simp)
    have hfr := ((J.own _ (List.mem_cons_self ..)).2 w.heap.size (by simp)).2.2
    obtain ⟨h', hle, hfp, J'⟩ := J.settle
    have hb' : h' w.heap.size = some (.cells cs el (0, 0)) := (hfp _ (by simp)).trans hnew
    refine kk ⟨some ⟨w.heap.size, 0, none⟩, grownCap w u.xs.length 0 el, u.xs⟩ h' _ J' hle rfl (OwnH.older (h0 := h) (.inr ⟨_, cs, rfl, hfr, hb', hge, hcm, ?_, ?_⟩) hl0) (fun e => absurd e hn)
    · rw [hcs]
      simp only [Array.size_append, List.size_toArray, size_zeroCells, he.cells, flat_len hk, ← Nat.add_mul]
      congr 1
      omega
    · rw [hcs]
      simp only [Array.toList_append]
      rw [← flat_len hk]
      exact List.take_left
end
end Go.TF
end
section
/- Slices of the call's own: appended to by what is known, made with room, cut, closed up, cleared behind. -/
namespace Go.TF
open Go Go.RowKit

section
variable {P : Program} {e : Env} {w : World} {B : Base} {h : Heap} {M : List SA} {t : TypeId} {pos : String} {af : Array Edge} {g : Option (Nat × Bool)} {d : Option Nat} {K : Value → World → Prop}
theorem Y.caps {x : Operand} {T r : TypeId} {a : Option Addr} {n c : Nat} (hT : Und P T (.slice r)) (hx : ev e x = .slice a n c) :
    Y P ⟨d, .call { callee := .builtin .cap, args := #[x], argTypes := #[T] }, t, pos, af, g⟩ e w (.int .i64 c) := by
  simp [Y, execOp, hx, resolve, invoke, builtin, Builtin.cap_, run_underlying hT, goInt]
theorem Y.slicenil {T el : TypeId} {x : Operand} {lo hi : Option Operand} (hT : Und P T (.slice el)) {k : Nat} (hk : ∀ w, (sizeOf el).run P w = .ok k w) (hx : ev e x = .slice none 0 0)
    (hl : lo = none ∨ ∃ q k, lo = some q ∧ ev e q = .int k 0) (hh : hi = none ∨ ∃ q k, hi = some q ∧ ev e q = .int k 0) : Y P ⟨d, .slice T x lo hi none, t, pos, af, g⟩ e w (.slice none 0 0) := by
  rcases hl with rfl | ⟨q, k, rfl, hq⟩ <;> rcases hh with rfl | ⟨q', k', rfl, hq'⟩ <;>
    simp_all [Y, execOp, Instr.sliceAt, Instr.slice, Instr.sliceBounds, Instr.sliceBound, run_underlying hT, asIntOf]
theorem run_append_nilnil {T ty el size : Nat} (hT : P.underlying T = some (.slice el)) (hs : (sizeOf el).run P w = .ok size w) (c : Nat) (a : Option Addr) (c' : Nat) :
    (Builtin.append_ #[T, T] ty #[.slice none 0 c, .slice a 0 c']).run P w = .ok (.slice none 0 c) w := by
  cases a <;> simp [Builtin.append_, run_underlying hT, hs, Builtin.lenOf, Builtin.firstCells, loadCells, loadCellsFrom]
theorem ElT.info' {el k bytes : Nat} {z : Value} (he : ElT P el k bytes z) : ∃ i, P.info? el = some i ∧ i.zero = some z ∧ i.size = k ∧ i.bytes = bytes := by
  have := he.info
  cases h : P.info? el with
  | none => simp [h] at this
  | some i => simp [h] at this; exact ⟨i, rfl, this.1, this.2.1, this.2.2⟩
/-- A known slice, whatever its length, behind what the call owns. -/
theorem O.appendL {α : Type} {T el k bytes n : Nat} {z v : Value} {x y : Operand} {xs : List Value} {u : Sl α} {enc : α → List Value} (I : Inv B h M w) (hT : Und P T (.slice el)) (he : ElT P el k bytes z) (n0 : Nat) (hn : M[n0]? = some (ownSl el k v n xs)) (hk : ∀ x, (enc x).length = k) (h1 : ∀ x, oneCells (enc x) = true) (hu : u.In k enc h)
    (hx : ev e x = v) (hy : ev e y = u.val) (hb : (n + u.xs.length) * bytes ≤ 140737488355328) (h63 : n + u.xs.length ≤ 140737488355328)
    (kk : ∀ v' w', Inv B h (M.set n0 (ownSl el k v' (n + u.xs.length) (xs ++ u.xs.flatMap enc))) w' → K v' w') :
    Op1 P ⟨d, .call { callee := .builtin .append, args := #[x, y], argTypes := #[T, T] }, t, pos, af, g⟩ e w K := by
  by_cases hnil : u.xs = []
  · obtain ⟨i, hi, hz, hsz, hby⟩ := he.info'
    have hs : (sizeOf el).run P w = .ok k w := by simp [sizeOf, typeInfo, hi, hsz]
    have hrun : (Builtin.append_ #[T, T] t #[v, u.val]).run P w = .ok v w := by
      simp only [Sl.val, hnil, List.length_nil]
      rcases (I.at n0 hn).2 with ⟨rfl, h0⟩ | ⟨gg, cap, cur, rfl, _, _, hnc, _⟩
      · exact run_append_nilnil hT hs 0 u.at_ u.cap
      · exact run_append_empty hT hs _ _ _ hnc u.at_ u.cap
    have hA : (execOp (ev e) ⟨d, .call { callee := .builtin .append, args := #[x, y], argTypes := #[T, T] }, t, pos, af, g⟩).run P w = .ok (.value v) w := by
      simp [execOp, resolve, invoke, builtin, hx, hy, hrun]
    unfold Op1
    rw [hA]
    refine kk v w ?_
    rw [hnil]
    have hM : M.set n0 (ownSl el k v n xs) = M := by
      obtain ⟨hlt, he⟩ := List.getElem?_eq_some_iff.1 hn
      rw [← he]; exact List.set_getElem_self _
    simpa [hM] using I
  · have hpos : 0 < u.xs.length := List.length_pos_iff.2 hnil
    have hua := (hu 0 u.xs[0] (List.getElem?_eq_getElem hpos)).1
    have hy' : ev e y = .slice (some ⟨u.blk, u.off, none⟩) u.xs.length u.cap := by rw [hy]; simp only [Sl.val]; rw [← hua]
    refine O.append I hT he n0 hn hx hy' (I.rd (hu.flat hk he.pos)) (flat_len hk _) ?_ hpos hb h63 fun gg cap w' I' => kk _ w' I'
    simp only [oneCells, List.all_flatMap]
    rw [List.all_eq_true]
    intro x _
    exact h1 x
/-- Cut behind: fewer elements of what the call owns. -/
theorem Inv.cutSl {el k gg n cap m : Nat} {xs : List Value} (I : Inv B h (ownSl el k (.slice (some ⟨gg, 0, none⟩) n cap) n xs :: M) w) (hm : m ≤ n) : Inv B h (ownSl el k (.slice (some ⟨gg, 0, none⟩) m cap) m (xs.take (m * k)) :: M) w := by
  have hp : w.ownsRow 0 el k (.slice (some ⟨gg, 0, none⟩) n cap) n xs := (I.own _ (List.mem_cons_self ..)).1
  have hfp := (I.own _ (List.mem_cons_self ..)).2 gg (by simp [ownSl, Value.ownBlock])
  refine I.step rfl rfl rfl (Nat.le_refl _) (fun _ _ _ => rfl) ?_ (fun b hb => ?_)
  · rcases hp.2 with ⟨h0, _⟩ | ⟨g', cap', cur, he, hb, hg, hnc, hcm, hcs, ht⟩
    · cases h0
    · injection he with e1 e2 e3; injection e1 with e1; injection e1 with e1; subst e1; subst e3
      have hmk := Nat.mul_le_mul_right k hm
      refine ⟨by rw [List.length_take, hp.1]; omega, .inr ⟨gg, cap, cur, rfl, hb, hg, by omega, hcm, hcs, ?_⟩⟩
      rw [← ht, List.take_take, Nat.min_eq_left hmk]
  · have : b = gg := by simpa [ownSl, Value.ownBlock] using hb
    subst this
    exact ⟨.inl (by simp [ownSl, Value.ownBlock]), hfp.2.1⟩
/-- Closed up: what stands from j on goes to i on. -/
theorem O.closeUp {T el k bytes gg n cap i j c o : Nat} {z : Value} {x y : Operand} {xs : List Value} (I : Inv B h (ownSl el k (.slice (some ⟨gg, 0, none⟩) n cap) n xs :: M) w) (hT : Und P T (.slice el)) (he : ElT P el k bytes z) (h1 : oneCells xs = true) (hij : i ≤ j) (hjn : j ≤ n)
    (hx : ev e x = .slice (some ⟨gg, 0, none⟩) i cap) (hy : ev e y = .slice (some ⟨gg, o, none⟩) (n - j) c) (ho : o = j * k ∨ n = j)
    (kk : ∀ w', Inv B h (ownSl el k (.slice (some ⟨gg, 0, none⟩) (i + (n - j)) cap) (i + (n - j)) (xs.take (i * k) ++ xs.drop (j * k)) :: M) w' → K (.slice (some ⟨gg, 0, none⟩) (i + (n - j)) cap) w') :
    Op1 P ⟨d, .call { callee := .builtin .append, args := #[x, y], argTypes := #[T, T] }, t, pos, af, g⟩ e w K := by
  obtain ⟨ii, hi, hz, hsz, hby⟩ := he.info'
  subst hsz
  have hp : w.ownsRow 0 el ii.size (.slice (some ⟨gg, 0, none⟩) n cap) n xs := (I.own _ (List.mem_cons_self ..)).1
  have hfp := (I.own _ (List.mem_cons_self ..)).2 gg (by simp [ownSl, Value.ownBlock])
  rcases hp.2 with ⟨h0, _⟩ | ⟨g', cap', cur, he', hb, hg, hnc, hcm, hcs, ht⟩
  · cases h0
  injection he' with e1 e2 e3; injection e1 with e1; injection e1 with e1; subst e1; subst e3
  have hjk : j * ii.size ≤ n * ii.size := Nat.mul_le_mul_right _ hjn
  have hik : i * ii.size ≤ j * ii.size := Nat.mul_le_mul_right _ hij
  have hnk : n * ii.size ≤ cap * ii.size := Nat.mul_le_mul_right _ hnc
  have hl : (xs.drop (j * ii.size)).length = (n - j) * ii.size := by rw [List.length_drop, hp.1, Nat.sub_mul]
  have hnews : ∀ q u, (xs.drop (j * ii.size))[q]? = some u → w.cell? ((⟨gg, o, none⟩ : Addr).add q) = some u := fun q u hq => by
    rw [List.getElem?_drop] at hq
    have hlt := (List.getElem?_eq_some_iff.1 hq).1
    rw [hp.1] at hlt
    rcases ho with rfl | rfl
    · rw [addr_add]
      simp only [World.cell?, hg]
      rw [← ht, List.getElem?_take] at hq
      rw [if_pos (by omega)] at hq
      simpa using hq
    · omega
  have hone : ∀ u ∈ xs.drop (j * ii.size), u.oneCell' = true := fun u hu => by
    simp only [oneCells, List.all_eq_true] at h1
    exact h1 u (List.mem_of_mem_drop hu)
  have hroom : i + (n - j) ≤ cap := by omega
  have hfit : i * ii.size + (xs.drop (j * ii.size)).length ≤ cur.size := by rw [hl, hcs, ← Nat.add_mul]; exact Nat.mul_le_mul_right _ hroom
  have hr := run_append_room (P := P) w T t el ii hT hi gg i cap cur hg ⟨gg, o, none⟩ (n - j) c (xs.drop (j * ii.size)) hl hnews hone hroom hfit
  have hA : (execOp (ev e) ⟨d, .call { callee := .builtin .append, args := #[x, y], argTypes := #[T, T] }, t, pos, af, g⟩).run P w = .ok (.value (.slice (some ⟨gg, 0, none⟩) (i + (n - j)) cap)) (w.setRow gg (cur.toList.take (i * ii.size) ++ xs.drop (j * ii.size) ++ cur.toList.drop (i * ii.size + (xs.drop (j * ii.size)).length)).toArray) := by
    simp only [execOp, resolve, invoke, builtin, Sem.run_bind, Sem.run_pure, Result.andThen_ok, List.map_toArray, List.map_cons, List.map_nil, hx, hy, hr]
  unfold Op1
  rw [hA]
  have htk : cur.toList.take (i * ii.size) = xs.take (i * ii.size) := by rw [← ht, List.take_take, Nat.min_eq_left (by omega)]
  have hlen : (xs.take (i * ii.size) ++ xs.drop (j * ii.size)).length = (i + (n - j)) * ii.size := by
    rw [List.length_append, hl, List.length_take, hp.1, Nat.add_mul, Nat.min_eq_left (by omega)]
  refine kk _ (I.step rfl rfl rfl (by simp) (fun b hb hnb => setRow_other w gg b _ (fun e => hnb (by simp [ownSl, Value.ownBlock, e]))) ?_ (fun b hb => ?_))
  · refine ⟨hlen, .inr ⟨gg, cap, _, rfl, hb, setRow_heap w gg cur _ el _ hg, hroom, hcm, ?_, ?_⟩⟩
    · simp only [List.size_toArray, List.length_append, List.length_take, List.length_drop, Array.length_toList, hp.1] at hfit hlen ⊢
      rw [hcs] at hfit ⊢
      omega
    · rw [htk, ← hlen]
      exact List.take_left
  · have : b = gg := by simpa [ownSl, Value.ownBlock] using hb
    subst this
    exact ⟨.inl (by simp [ownSl, Value.ownBlock]), by simpa using hfp.2.1⟩
/-- Cleared behind what is left. -/
theorem O.clearS {T el k bytes gg n cap m o c : Nat} {z : Value} {x : Operand} {xs : List Value} (I : Inv B h (ownSl el k (.slice (some ⟨gg, 0, none⟩) n cap) n xs :: M) w) (hT : Und P T (.slice el)) (he : ElT P el k bytes z) (hz1 : z.cells.all (fun v => v.oneCell') = true) (hx : ev e x = .slice (some ⟨gg, o, none⟩) m c) (hm : 0 < m) (ho : o = n * k) (hmc : n + m ≤ cap)
    (kk : ∀ w', Inv B h (ownSl el k (.slice (some ⟨gg, 0, none⟩) n cap) n xs :: M) w' → K (.tuple #[]) w') :
    Op1 P ⟨d, .call { callee := .builtin .clear, args := #[x], argTypes := #[T] }, t, pos, af, g⟩ e w K := by
  obtain ⟨ii, hi, hz, hsz, hby⟩ := he.info'
  subst hsz; subst ho
  have hp : w.ownsRow 0 el ii.size (.slice (some ⟨gg, 0, none⟩) n cap) n xs := (I.own _ (List.mem_cons_self ..)).1
  have hfp := (I.own _ (List.mem_cons_self ..)).2 gg (by simp [ownSl, Value.ownBlock])
  rcases hp.2 with ⟨h0, _⟩ | ⟨g', cap', cur, he', hb, hg, hnc, hcm, hcs, ht⟩
  · cases h0
  injection he' with e1 e2 e3; injection e1 with e1; injection e1 with e1; subst e1; subst e3
  have hzl : (Builtin.zeroCells z.cells m).toList.length = m * ii.size := by rw [Array.length_toList, size_zeroCells, he.cells]
  have hmk : (n + m) * ii.size ≤ cap * ii.size := Nat.mul_le_mul_right _ hmc
  rw [Nat.add_mul] at hmk
  have hone : ∀ v ∈ (Builtin.zeroCells z.cells m).toList, v.oneCell' = true := fun v hv => by
    simp only [Builtin.zeroCells, Array.toList_map, List.mem_map] at hv
    obtain ⟨q, _, rfl⟩ := hv
    have hlt : q % z.cells.size < z.cells.size := Nat.mod_lt _ (by rw [he.cells]; exact he.pos)
    rw [getElem!_pos z.cells _ hlt]
    rw [Array.all_eq_true] at hz1
    exact hz1 _ hlt
  have hst := run_storeCells_at P gg (n * ii.size) el (Builtin.zeroCells z.cells m).toList 0 cur w hg (by rw [hzl, hcs]; omega) hone
  simp only [Nat.add_zero] at hst
  have hA : (execOp (ev e) ⟨d, .call { callee := .builtin .clear, args := #[x], argTypes := #[T] }, t, pos, af, g⟩).run P w = .ok (.value (.tuple #[])) (w.setRow gg (cur.toList.take (n * ii.size) ++ (Builtin.zeroCells z.cells m).toList ++ cur.toList.drop (n * ii.size + (Builtin.zeroCells z.cells m).toList.length)).toArray) := by
    obtain ⟨m', rfl⟩ : ∃ m', m = m' + 1 := ⟨m - 1, by omega⟩
    simp [execOp, resolve, invoke, builtin, hx, Builtin.clear_, run_underlying hT, zeroValue, typeInfo, hi, hz, hst]
  unfold Op1
  rw [hA]
  refine kk _ (I.step rfl rfl rfl (by simp) (fun b hb hnb => setRow_other w gg b _ (fun e => hnb (by simp [ownSl, Value.ownBlock, e]))) ?_ (fun b hb => ?_))
  · refine ⟨hp.1, .inr ⟨gg, cap, _, rfl, hb, setRow_heap w gg cur _ el _ hg, hnc, hcm, ?_, ?_⟩⟩
    · simp only [List.size_toArray, List.length_append, List.length_take, List.length_drop, hzl, Array.length_toList, hcs]
      omega
    · have hl : (cur.toList.take (n * ii.size)).length = n * ii.size := by rw [ht, hp.1]
      rw [List.append_assoc, List.take_left' hl, ht]
  · have : b = gg := by simpa [ownSl, Value.ownBlock] using hb
    subst this
    exact ⟨.inl (by simp [ownSl, Value.ownBlock]), by simpa using hfp.2.1⟩
end
end Go.TF
end
section
/- Copies into what the call owns; room made behind it; what slices.Insert asks first. -/
namespace Go.TF
open Go Go.RowKit

/-- Laid over what stood there, from place o on. -/
def over (xs : List Value) (o : Nat) (news : List Value) : List Value := xs.take o ++ news ++ xs.drop (o + news.length)
theorem over_len {xs news : List Value} {o : Nat} (h : o + news.length ≤ xs.length) : (over xs o news).length = xs.length := by
  simp only [over, List.length_append, List.length_take, List.length_drop]; omega
theorem over_take (cur news : List Value) (o m : Nat) (h : o + news.length ≤ m) (hm : m ≤ cur.length) : (cur.take o ++ news ++ cur.drop (o + news.length)).take m = over (cur.take m) o news := by
  have hl : (cur.take o ++ news).length = o + news.length := by simp only [List.length_append, List.length_take]; omega
  rw [List.take_append, hl, List.take_of_length_le (by omega)]
  unfold over
  rw [List.take_take, Nat.min_eq_left (by omega), List.drop_take]
theorem flat_take {α : Type} {enc : α → List Value} {k : Nat} (hk : ∀ x, (enc x).length = k) : ∀ (xs : List α) (i : Nat), (xs.flatMap enc).take (i * k) = (xs.take i).flatMap enc
  | [], i => by simp
  | x :: xs, 0 => by simp
  | x :: xs, i + 1 => by
    rw [List.flatMap_cons, List.take_succ_cons, List.flatMap_cons, ← flat_take hk xs i, List.take_append, hk, Nat.add_mul, List.take_of_length_le (by rw [hk]; omega)]
    congr 2; omega
theorem flat_drop {α : Type} {enc : α → List Value} {k : Nat} (hk : ∀ x, (enc x).length = k) : ∀ (xs : List α) (i : Nat), (xs.flatMap enc).drop (i * k) = (xs.drop i).flatMap enc
  | [], i => by simp
  | x :: xs, 0 => by simp
  | x :: xs, i + 1 => by
    rw [List.flatMap_cons, List.drop_succ_cons, ← flat_drop hk xs i, List.drop_append, hk, Nat.add_mul, List.drop_of_length_le (by rw [hk]; omega), List.nil_append]
    congr 1; omega
section
variable {P : Program} {e : Env} {w : World} {B : Base} {h : Heap} {M : List SA} {t : TypeId} {pos : String} {af : Array Edge} {g : Option (Nat × Bool)} {d : Option Nat} {K : Value → World → Prop}
/-- copy: all is read before anything is written. -/
theorem O.copy {T T' el k bytes gg n cap o m c sb so r sc q : Nat} {z : Value} {x y : Operand} {xs news : List Value} (I : Inv B h M w) (hT : Und P T (.slice el)) (he : ElT P el k bytes z) (n0 : Nat) (hn : M[n0]? = some (ownSl el k (.slice (some ⟨gg, 0, none⟩) n cap) n xs))
    (hx : ev e x = .slice (some ⟨gg, o * k, none⟩) m c) (hy : ev e y = .slice (some ⟨sb, so, none⟩) r sc) (hq : Nat.min r m = q) (hom : o + m ≤ n) (hr : Rd w sb so news) (hl : news.length = q * k) (h1 : oneCells news = true)
    (kk : ∀ w', Inv B h (M.set n0 (ownSl el k (.slice (some ⟨gg, 0, none⟩) n cap) n (over xs (o * k) news))) w' → K (.int .i64 q) w') :
    Op1 P ⟨d, .call { callee := .builtin .copy, args := #[x, y], argTypes := #[T, T'] }, t, pos, af, g⟩ e w K := by
  obtain ⟨ii, hi, hz, hsz, hby⟩ := he.info'
  subst hsz
  have hp : w.ownsRow 0 el ii.size (.slice (some ⟨gg, 0, none⟩) n cap) n xs := I.at n0 hn
  have hfp := (I.own _ (List.mem_of_getElem? hn)).2 gg (by simp [ownSl, Value.ownBlock])
  rcases hp.2 with ⟨h0, _⟩ | ⟨g', cap', cur, he', hb, hg, hnc, hcm, hcs, ht⟩
  · cases h0
  injection he' with e1 e2 e3; injection e1 with e1; injection e1 with e1; subst e1; subst e3
  have hqm : q ≤ m := by rw [← hq]; exact Nat.min_le_right _ _
  have hok : o * ii.size + news.length ≤ n * ii.size := by rw [hl, ← Nat.add_mul]; exact Nat.mul_le_mul_right _ (by omega)
  have hnk : n * ii.size ≤ cap * ii.size := Nat.mul_le_mul_right _ hnc
  have hone : ∀ u ∈ news, u.oneCell' = true := fun u hu => by
    simp only [oneCells, List.all_eq_true] at h1
    exact h1 u hu
  have hld := run_loadCells_list (P := P) (w := w) ⟨sb, so, none⟩ news (fun j v hj => by rw [addr_add]; exact hr j v hj)
  have hst := run_storeCells_at P gg (o * ii.size) el news 0 cur w hg (by rw [hcs]; omega) hone
  simp only [Nat.add_zero] at hst
  have hA : (execOp (ev e) ⟨d, .call { callee := .builtin .copy, args := #[x, y], argTypes := #[T, T'] }, t, pos, af, g⟩).run P w = .ok (.value (.int .i64 q)) (w.setRow gg (cur.toList.take (o * ii.size) ++ news ++ cur.toList.drop (o * ii.size + news.length)).toArray) := by
    simp [execOp, resolve, invoke, builtin, hx, hy, Builtin.copy_, run_underlying hT, Builtin.lenOf, Builtin.firstCells, sizeOf, typeInfo, hi, hq, ← hl, hld, hst, goInt]
  unfold Op1
  rw [hA]
  have hcl : cur.toList.length = cap * ii.size := by rw [Array.length_toList, hcs]
  refine kk _ (I.stepAt n0 hn rfl rfl rfl (by simp) (fun b hb hnb => setRow_other w gg b _ (fun e => hnb (by simp [ownSl, Value.ownBlock, e]))) ?_ (fun b hb => ?_))
  · refine ⟨?_, .inr ⟨gg, cap, _, rfl, hb, setRow_heap w gg cur _ el _ hg, hnc, hcm, ?_, ?_⟩⟩
    · rw [over_len (by rw [hp.1]; exact hok), hp.1]
    · simp only [List.size_toArray, List.length_append, List.length_take, List.length_drop, hcl]
      omega
    · rw [over_take _ _ _ _ hok (by rw [hcl]; exact hnk), ht]
  · have : b = gg := by simpa [ownSl, Value.ownBlock] using hb
    subst this
    exact ⟨.inl (by simp [ownSl, Value.ownBlock]), by simpa using hfp.2.1⟩
/-- Seen with some of its spare cells. -/
theorem Inv.widen {el k gg n cap m : Nat} {xs : List Value} (I : Inv B h (ownSl el k (.slice (some ⟨gg, 0, none⟩) n cap) n xs :: M) w) (hm : n + m ≤ cap) :
    ∃ ys, ys.length = m * k ∧ Inv B h (ownSl el k (.slice (some ⟨gg, 0, none⟩) (n + m) cap) (n + m) (xs ++ ys) :: M) w := by
  have hp : w.ownsRow 0 el k (.slice (some ⟨gg, 0, none⟩) n cap) n xs := (I.own _ (List.mem_cons_self ..)).1
  have hfp := (I.own _ (List.mem_cons_self ..)).2 gg (by simp [ownSl, Value.ownBlock])
  rcases hp.2 with ⟨h0, _⟩ | ⟨g', cap', cur, he, hb, hg, hnc, hcm, hcs, ht⟩
  · cases h0
  injection he with e1 e2 e3; injection e1 with e1; injection e1 with e1; subst e1; subst e3
  have hnk : (n + m) * k ≤ cap * k := Nat.mul_le_mul_right _ hm
  rw [Nat.add_mul] at hnk
  have hcl : cur.toList.length = cap * k := by rw [Array.length_toList, hcs]
  have hys : ((cur.toList.drop (n * k)).take (m * k)).length = m * k := by rw [List.length_take, List.length_drop, hcl]; omega
  refine ⟨(cur.toList.drop (n * k)).take (m * k), hys, I.step rfl rfl rfl (Nat.le_refl _) (fun _ _ _ => rfl) ?_ (fun b hb => ?_)⟩
  · refine ⟨by rw [List.length_append, hp.1, hys, Nat.add_mul], .inr ⟨gg, cap, cur, rfl, hb, hg, hm, hcm, hcs, ?_⟩⟩
    rw [← ht, Nat.add_mul, List.take_add]
  · have : b = gg := by simpa [ownSl, Value.ownBlock] using hb
    subst this
    exact ⟨.inl (by simp [ownSl, Value.ownBlock]), hfp.2.1⟩
/-- What is owned holds these cells. -/
theorem Inv.rdOwn {el k gg n cap : Nat} {xs : List Value} (I : Inv B h M w) (n0 : Nat) (hn : M[n0]? = some (ownSl el k (.slice (some ⟨gg, 0, none⟩) n cap) n xs)) (o m : Nat) : Rd w gg o ((xs.drop o).take m) := by
  have hp : w.ownsRow 0 el k (.slice (some ⟨gg, 0, none⟩) n cap) n xs := I.at n0 hn
  intro j v hj
  have := hp.cells (g := gg) rfl (o + j) v (by
    rw [List.getElem?_take] at hj
    split at hj
    · rwa [List.getElem?_drop] at hj
    · cases hj)
  rwa [addr_add, Nat.zero_add] at this
theorem Inv.shapeOwn {el k gg n cap : Nat} {xs : List Value} (I : Inv B h M w) (n0 : Nat) (hn : M[n0]? = some (ownSl el k (.slice (some ⟨gg, 0, none⟩) n cap) n xs)) : w.shape? gg = some (el, cap * k) ∧ n ≤ cap := by
  have hp : w.ownsRow 0 el k (.slice (some ⟨gg, 0, none⟩) n cap) n xs := I.at n0 hn
  rcases hp.2 with ⟨h0, _⟩ | ⟨g', cap', cur, he, hb, hg, hnc, hcm, hcs, ht⟩
  · cases h0
  injection he with e1 e2 e3; injection e1 with e1; injection e1 with e1; subst e1; subst e3
  exact ⟨by simp [World.shape?, hg, hcs], hnc⟩
/-- append(s, make([]T, m)...) where there is no room: a piece of its own, zeros behind. -/
theorem O.appendZ {T Tn el k bytes n m c sb so : Nat} {z : Value} {kn ki : IntKind} {x y : Operand} {olds : List Value} (I : Inv B h M w) (hT : Und P T (.slice el)) (hTn : Und P Tn (.int kn)) (he : ElT P el k bytes z) (hx : ev e x = .slice (some ⟨sb, so, none⟩) n c) (hr : Rd w sb so olds) (hl : olds.length = n * k) (hy : ev e y = .int ki m) (h0 : 0 < m) (hc : c < n + m) (hb : (n + m) * bytes ≤ 140737488355328) (h63 : n + m ≤ 140737488355328)
    (kk : ∀ gg cap w', Inv B h (ownSl el k (.slice (some ⟨gg, 0, none⟩) (n + m) cap) (n + m) (olds ++ (Builtin.zeroCells z.cells m).toList) :: M) w' → gg ≠ sb → K (.slice (some ⟨gg, 0, none⟩) (n + m) cap) w') (hlt : sb < w.heap.size) :
    Op1 P ⟨d, .call { callee := .builtin .append, args := #[x, y], argTypes := #[T, Tn] }, t, pos, af, g⟩ e w K := by
  obtain ⟨i, hi, hz, hsz, hby⟩ := he.info'
  subst hsz; subst hby
  have hold := run_firstCells_some (P := P) w.drew i.size n ⟨sb, so, none⟩ n c olds hl (fun j v hj => by rw [addr_add]; exact hr j v hj)
  have hmb : m * i.bytes ≤ (n + m) * i.bytes := Nat.mul_le_mul_right _ (by omega)
  have hrun := Go.Lib.run_append_grow_zeros (P := P) w T Tn t el i z ki kn hT hTn hi hz (some ⟨sb, so, none⟩) n c olds hold m h0 he.pos hc (by omega) (by omega) (growslice_fits hc hb)
  have hA : (execOp (ev e) ⟨d, .call { callee := .builtin .append, args := #[x, y], argTypes := #[T, Tn] }, t, pos, af, g⟩).run P w = .ok (.value (.slice (some ⟨w.heap.size, 0, none⟩) (n + m) (grownCap w (n + m) c el)))
      (w.drew.alloc (.cells (olds.toArray ++ Builtin.zeroCells z.cells m ++ Builtin.zeroCells z.cells (grownCap w (n + m) c el - (n + m))) el)) := by
    simp [execOp, resolve, invoke, builtin, hx, hy, hrun]
  unfold Op1
  rw [hA]
  have hge := grownCap_ge w (n + m) c el
  have hcm := grownCap_le_maxLen w (n + m) c el (by simp only [maxLen]; omega)
  obtain ⟨cs, hcs⟩ : ∃ cs : Array Value, cs = olds.toArray ++ Builtin.zeroCells z.cells m ++ Builtin.zeroCells z.cells (grownCap w (n + m) c el - (n + m)) := ⟨_, rfl⟩
  rw [← hcs]
  have hsize : cs.toList.length = grownCap w (n + m) c el * i.size := by
    rw [Array.length_toList, hcs]
    simp only [Array.size_append, List.size_toArray, size_zeroCells, he.cells, hl, ← Nat.add_mul]
    congr 1
    omega
  have htk : cs.toList.take ((n + m) * i.size) = olds ++ (Builtin.zeroCells z.cells m).toList := by
    rw [hcs]
    simp only [Array.toList_append]
    refine List.take_left' ?_
    simp only [List.length_append, Array.length_toList, size_zeroCells, he.cells, hl, Nat.add_mul]
  refine kk w.heap.size _ _ (I.gain (A := ownSl el i.size (.slice (some ⟨w.heap.size, 0, none⟩) (n + m) (grownCap w (n + m) c el)) (n + m) (olds ++ (Builtin.zeroCells z.cells m).toList)) ((Grow.drew w).trans (Grow.alloc _ _)) ?_ (fun b hb => by simp [ownSl, Value.ownBlock] at hb; subst hb; simp)) (by omega)
  have := ownsRow_made' w cs.toList el i.size (n + m) (grownCap w (n + m) c el) hsize hge hcm w.drew rfl
  rw [Array.toArray_toList, htk] at this
  exact this
/-- slices.overlaps, of two blocks: no. -/
theorem O.overlaps {f : FuncId} {x y : Operand} {ts : Array TypeId} {T R el k cx cy nx ny bx ox by_ oy : Nat} {tA tB : TypeId} {kA kB : Nat} (hrun : ∀ vs w, (callFunc f vs).run P w = ((Extern.SlicesOverlaps.overlaps #[T, T] #[R] vs).run P w).andThen fun v w' => .ok (.value v) w') (hT : Und P T (.slice el)) (hk : ∀ w, (sizeOf el).run P w = .ok k w)
    (hx : ev e x = .slice (some ⟨bx, ox, none⟩) nx cx) (hy : ev e y = .slice (some ⟨by_, oy, none⟩) ny cy) (hne : bx ≠ by_) (hA : w.shape? bx = some (tA, kA)) (hB : w.shape? by_ = some (tB, kB)) (hkB : kB ≠ 0) (hf : ∀ o, w.frozen? ⟨bx, o, none⟩ = false) :
    Y P ⟨d, .call { callee := .value (.func f), args := #[x, y], argTypes := ts }, t, pos, af, g⟩ e w (.bool false) := by
  have h1 := Go.Lib.run_overlaps_apart (P := P) w T R el hT k hk ⟨bx, ox, none⟩ ⟨by_, oy, none⟩ nx cx ny cy hne tA tB kA kB hA hB hkB (hf ox) (hf kA)
  have hc : ev e (.func f) = .func (.func f) #[] #[] := rfl
  simp [Y, execOp, resolve, hc, Deferred.ofValue, invoke, hx, hy, hrun, h1]
/-- A cut of what begins at its row's start. -/
theorem Y.cutO {T el k b n c l h' : Nat} {x : Operand} {lo hi : Option Operand} (hT : Und P T (.slice el)) (hk : ∀ w, (sizeOf el).run P w = .ok k w) (hx : ev e x = .slice (some ⟨b, 0, none⟩) n c)
    (hl : lo = none ∧ l = 0 ∨ ∃ q k, lo = some q ∧ ev e q = .int k (l : Int)) (hh : hi = none ∧ h' = n ∨ ∃ q k, hi = some q ∧ ev e q = .int k (h' : Int)) (h1 : l ≤ h') (h2 : h' ≤ c) (h3 : l < c) :
    Y P ⟨d, .slice T x lo hi none, t, pos, af, g⟩ e w (.slice (some ⟨b, l * k, none⟩) (h' - l) (c - l)) := by
  refine (Y.slicesl hT hk hx hl hh h1 h2).is ?_
  rw [if_neg (by omega), Nat.zero_add]
/-- One cell of what is owned is stored. -/
theorem O.storeS {T el k bytes gg n cap o : Nat} {z v : Value} {a x : Operand} {xs : List Value} (I : Inv B h M w) (hT : Ty P T 1 false) (he : ElT P el k bytes z) (n0 : Nat) (hn : M[n0]? = some (ownSl el k (.slice (some ⟨gg, 0, none⟩) n cap) n xs))
    (ha : ev e a = .pointer (some ⟨gg, o, none⟩)) (hx : ev e x = v) (hv : v.cells = #[v]) (h1 : v.oneCell' = true) (ho : o < xs.length) (kk : ∀ w', Inv B h (M.set n0 (ownSl el k (.slice (some ⟨gg, 0, none⟩) n cap) n (xs.set o v))) w' → K undef w') :
    Op1 P ⟨d, .store T a x, t, pos, af, g⟩ e w K := by
  obtain ⟨ii, hi, hz, hsz, hby⟩ := he.info'
  subst hsz
  have hp : w.ownsRow 0 el ii.size (.slice (some ⟨gg, 0, none⟩) n cap) n xs := I.at n0 hn
  have hfp := (I.own _ (List.mem_of_getElem? hn)).2 gg (by simp [ownSl, Value.ownBlock])
  rcases hp.2 with ⟨h0, _⟩ | ⟨g', cap', cur, he', hb, hg, hnc, hcm, hcs, ht⟩
  · cases h0
  injection he' with e1 e2 e3; injection e1 with e1; injection e1 with e1; subst e1; subst e3
  have hnk : n * ii.size ≤ cap * ii.size := Nat.mul_le_mul_right _ hnc
  have hxl := hp.1
  have hst := run_storeCells_at P gg o el [v] 0 cur w hg (by rw [hcs]; simp only [List.length_singleton]; omega) (by simpa using h1)
  simp only [Nat.add_zero] at hst
  have hA : (execOp (ev e) ⟨d, .store T a x, t, pos, af, g⟩).run P w = .ok .skip (w.setRow gg (cur.toList.take o ++ [v] ++ cur.toList.drop (o + [v].length)).toArray) := by
    simp [execOp, Instr.storeAt, Instr.sureAddr, ha, hx, storeVar, hv, hT.size, hst]
  unfold Op1
  rw [hA]
  have hcl : cur.toList.length = cap * ii.size := by rw [Array.length_toList, hcs]
  have hset : xs.set o v = over xs o [v] := by
    unfold over
    rw [List.set_eq_take_append_cons_drop, if_pos ho]
    simp
  refine kk _ (I.stepAt n0 hn rfl rfl rfl (by simp) (fun b hb hnb => setRow_other w gg b _ (fun e => hnb (by simp [ownSl, Value.ownBlock, e]))) ?_ (fun b hb => ?_))
  · refine ⟨?_, .inr ⟨gg, cap, _, rfl, hb, setRow_heap w gg cur _ el _ hg, hnc, hcm, ?_, ?_⟩⟩
    · rw [List.length_set, hp.1]
    · simp only [List.size_toArray, List.length_append, List.length_take, List.length_drop, hcl, List.length_singleton]
      omega
    · rw [over_take _ _ _ _ (by simp only [List.length_singleton]; omega) (by rw [hcl]; exact hnk), ht, hset]
  · have : b = gg := by simpa [ownSl, Value.ownBlock] using hb
    subst this
    exact ⟨.inl (by simp [ownSl, Value.ownBlock]), by simpa using hfp.2.1⟩
/-- A slice literal, its whole block told. -/
def LitW (el : TypeId) (cs : List Value) (n : Nat) (v : Value) (h : Heap) : Prop := ∃ b, v = .slice (some ⟨b, 0, none⟩) n n ∧ h b = some (.cells cs.toArray el (0, 0))
theorem LitW.mono {el : TypeId} {cs : List Value} {n : Nat} : MonoS (LitW el cs n) := fun _ _ _ hl hx => by
  obtain ⟨b, h1, h2⟩ := hx
  exact ⟨b, h1, hl _ _ h2⟩
theorem O.mklit {T el k n : Nat} {parts : Array (Nat × Operand)} {z : Value} {cs : List Value} {K : Value → World → Prop} (I : Inv B h M w) (hT : Und P T (.slice el)) (hk : ∀ w, (sizeOf el).run P w = .ok k w) (hz : Zero P el z) (hs : n * k ≤ 16777216) (h0 : n * k ≠ 0)
    (hf : fillL (fun i => some (i * k, k)) ((List.range (n * k)).map fun i => (cellsL z)[i % k]!) (parts.toList.map fun (i, x) => (i, ev e x)) = some cs) (hzc : (cellsL z).length = k)
    (kk : ∀ v h' w', Inv B h' M w' → h.le h' → LitW el cs n v h' → K v w') : Op1 P ⟨d, .buildSlice T n parts, t, pos, af, g⟩ e w K :=
  O.mkbox I hT hk hz hs h0 hf hzc fun b w' I' => by
    have hb := I'.at 0 rfl
    obtain ⟨h', hle, hfp, J⟩ := I'.settle
    exact kk _ h' w' J hle ⟨b, rfl, (hfp b (by simp [TF.box])).trans hb⟩
/-- A quiet call of a function value. -/
theorem QC.callcv {x : Operand} {f : FuncId} {fs cs : List Value} {args : Array Operand} {ts : Array TypeId} {vs : List Value} {r : Value}
    (I : Inv B h M w) (hf : Enters P f) (hx : ev e x = .func (.func f) fs.toArray cs.toArray) (hfn : Fn P f vs ⟨w, h⟩ (fun v _ => v = r)) (ha : fs ++ args.toList.map (ev e) ++ cs = vs) : QC P (Inv B h M) ⟨d, .call { callee := .value x, args := args, argTypes := ts }, t, pos, af, g⟩ e w r := by
  have ha' : fs.toArray ++ args.map (ev e) ++ cs.toArray = vs.toArray := by rw [← ha]; apply Array.ext'; simp
  have : (execOp (ev e) ⟨d, .call { callee := .value x, args := args, argTypes := ts }, t, pos, af, g⟩).run P w = .ok (.enter f vs.toArray) w := by
    simp only [execOp, resolve, hx, Deferred.ofValue]
    simp [invoke, ha', hf]
  unfold QC
  rw [this]
  refine ⟨rfl, Calls.mono hfn ?_⟩
  rintro x w' ⟨v, h', rfl, X, rfl⟩
  exact ⟨rfl, I.grow X.below⟩
end
end Go.TF
end
section
/- Regions that draw their order, over knowledge of any kind: pieces may be made and written in them. -/
namespace Go.TF
open Go Go.RowKit

abbrev Sq (σ : Type) := Value → σ → Prop
structure Pre {σ : Type} (R : σ → σ → Prop) : Prop where
  refl : ∀ s, R s s
  trans : ∀ a b c, R a b → R b c → R a c
section
variable {σ : Type}
def ovrG (e : Env) : List (Nat × Sq σ) → Env → Env
  | [], _ => e
  | p :: L, us => upd (ovrG e L us) p.1 (us p.1)
def AllG (c : Nat → Bool) (h : σ) : List (Nat × Sq σ) → Env → (Env → Prop) → Prop
  | [], e, k => k e
  | p :: L, e, k => AllG c h L e fun e' => ∀ u, (c p.1 = true → p.2 u h) → k (upd e' p.1 u)
theorem AllG.get {c : Nat → Bool} {h : σ} : ∀ {L : List (Nat × Sq σ)} {e : Env} {k : Env → Prop}, AllG c h L e k → ∀ us, (∀ p ∈ L, c p.1 = true → p.2 (us p.1) h) → k (ovrG e L us)
  | [], _, _, a, _, _ => a
  | _ :: L, _, _, a, us, hp => AllG.get (L := L) a us (fun q hq => hp q (List.mem_cons_of_mem _ hq)) (us _) (hp _ (List.mem_cons_self ..))
def MonoG (R : σ → σ → Prop) (Φ : Sq σ) : Prop := ∀ u h h', R h h' → Φ u h → Φ u h'
def setD (D : Nat → Bool) (k : Nat) : Nat → Bool := fun j => j == k || D j
def OblG (P : Program) (full : Array Oper) (J : (Nat → Bool) → σ → World → Prop) (R : σ → σ → Prop) (h0 : σ) (k : Nat) (L : List (Nat × Sq σ)) (e : Env) (o : Oper) (Φ : Sq σ) : Prop :=
  ∀ D h1 w, D k = false → R h0 h1 → J D h1 w → AllG (lk full o) h1 L e fun e' => Op1 P o e' w fun u w' => ∃ h2, R h1 h2 ∧ J (setD D k) h2 w' ∧ Φ u h2
def OpsG (P : Program) (full : Array Oper) (J : (Nat → Bool) → σ → World → Prop) (R : σ → σ → Prop) (h0 : σ) : Nat → List (Nat × Sq σ) → List Oper → Env → (List (Nat × Sq σ) → Env → Prop) → Prop
  | _, L, [], e, K => K L e
  | k, L, o :: r, e, K =>
    ((∀ us, runs full (ovrG e L us) o = false) ∧ (∀ D s w, D k = false → J D s w → J (setD D k) s w) ∧ OpsG P full J R h0 (k + 1) L r (updo e o.dst undef) K) ∨
    ((∀ us, runs full (ovrG e L us) o = true) ∧
      ((∃ v, OblG P full J R h0 k L e o (fun u _ => u = v) ∧ OpsG P full J R h0 (k + 1) L r (updo e o.dst v) K) ∨
       (∃ d Φ, o.dst = some d ∧ MonoG R Φ ∧ OblG P full J R h0 k L e o Φ ∧ OpsG P full J R h0 (k + 1) ((d, Φ) :: L) r e K)))

theorem ovrG_notin {e us : Env} {d : Nat} : ∀ {L : List (Nat × Sq σ)}, (∀ p ∈ L, p.1 ≠ d) → ovrG e L us d = e d
  | [], _ => rfl
  | p :: L, h => by
    simp only [ovrG]
    rw [upd_ne _ _ (Ne.symm (h p (List.mem_cons_self ..)))]
    exact ovrG_notin fun q hq => h q (List.mem_cons_of_mem _ hq)
theorem ovrG_upd_ne {e us : Env} {d i : Nat} {v : Value} (h : i ≠ d) : ∀ (L : List (Nat × Sq σ)), ovrG (upd e d v) L us i = ovrG e L us i
  | [] => upd_ne _ _ h
  | p :: L => by
    simp only [ovrG]
    by_cases hp : i = p.1
    · subst hp; rw [upd_eq, upd_eq]
    · rw [upd_ne _ _ hp, upd_ne _ _ hp, ovrG_upd_ne h L]

section
variable (P : Program) (ops : Array Oper) (J : (Nat → Bool) → σ → World → Prop) (R : σ → σ → Prop) (h0 : σ) (e0 : Env)
def OkG (Ss : List (Sq σ)) (k : Nat) (f : Env) (h : σ) (d : Nat) : Prop :=
  (∀ j Φ, j < k → dstO ops j = some d → Ss[j]? = some Φ → Φ (f d) h) ∧ ((∀ j, j < k → dstO ops j ≠ some d) → f d = e0 d)
structure RelG (Ss : List (Sq σ)) (L : List (Nat × Sq σ)) (e : Env) : Prop where
  eq : ∀ f h d, OkG ops e0 Ss Ss.length f h d → ovrG e L f d = f d
  sub : ∀ p ∈ L, ∃ k, k < Ss.length ∧ dstO ops k = some p.1 ∧ Ss[k]? = some p.2
def LSG (Ss : List (Sq σ)) (i : Nat) : Prop := ∀ o Φ f D h1 w, ops[i]? = some o → Ss[i]? = some Φ → D i = false → R h0 h1 → J D h1 w → (∀ d ∈ o.looksAt ops, OkG ops e0 Ss i f h1 d) →
  (runs ops f o = true → Op1 P o f w fun u w' => ∃ h2, R h1 h2 ∧ J (setD D i) h2 w' ∧ Φ u h2) ∧ (runs ops f o = false → Φ undef h1 ∧ J (setD D i) h1 w)
end
section
variable {P : Program} {ops : Array Oper} {J : (Nat → Bool) → σ → World → Prop} {R : σ → σ → Prop} {h0 : σ} {e0 : Env} {m : Nat}
theorem OkG.snoc {Ss : List (Sq σ)} {Φ : Sq σ} {k : Nat} {f : Env} {h : σ} {d : Nat} (hk : k ≤ Ss.length) : OkG ops e0 (Ss ++ [Φ]) k f h d ↔ OkG ops e0 Ss k f h d := by
  unfold OkG
  refine and_congr ⟨fun a j Ψ hj h1 h2 => a j Ψ hj h1 (by rw [get_snoc (by omega)]; exact h2), fun a j Ψ hj h1 h2 => a j Ψ hj h1 (by rw [get_snoc (by omega)] at h2; exact h2)⟩ Iff.rfl
theorem LSG.snoc {Ss : List (Sq σ)} {Φ : Sq σ} {k : Nat} (hk : k < Ss.length) (h : LSG P ops J R h0 e0 Ss k) : LSG P ops J R h0 e0 (Ss ++ [Φ]) k := by
  intro o Ψ f D h1 w ho hp hD hl I hd
  rw [get_snoc hk] at hp
  exact h o Ψ f D h1 w ho hp hD hl I fun d hm => (OkG.snoc (by omega)).1 (hd d hm)
theorem OpsG.sound (hF : Flow ops m) : ∀ (l : List Oper) (Ss : List (Sq σ)) (L : List (Nat × Sq σ)) (e : Env) (K : List (Nat × Sq σ) → Env → Prop), (∀ j, l[j]? = (ops.toList.take m)[Ss.length + j]?) → Ss.length + l.length = m →
    RelG ops e0 Ss L e → (∀ k, k < Ss.length → LSG P ops J R h0 e0 Ss k) → (∀ Φ ∈ Ss, MonoG R Φ) → OpsG P ops J R h0 Ss.length L l e K →
    ∃ Ss' L' e', Ss'.length = m ∧ RelG ops e0 Ss' L' e' ∧ (∀ k, k < m → LSG P ops J R h0 e0 Ss' k) ∧ (∀ Φ ∈ Ss', MonoG R Φ) ∧ K L' e'
  | [], Ss, L, e, K, _, hm, hr, hs, hmo, h => ⟨Ss, L, e, by simpa using hm, hr, by simpa [← hm] using hs, hmo, h⟩
  | o :: r, Ss, L, e, K, hl, hm, hr, hs, hmo, h => by
    simp only [List.length_cons] at hm
    have hi : ops[Ss.length]? = some o := by
      have := hl 0
      simp only [List.getElem?_cons_zero, Nat.add_zero, List.getElem?_take] at this
      rw [if_pos (by omega)] at this
      simpa using this.symm
    have hdst : dstO ops Ss.length = o.dst := by simp [dstO, hi]
    have hdist : ∀ k d, k < Ss.length → dstO ops k = some d → o.dst ≠ some d := fun k d hk hd hod => by
      cases hok : ops[k]? with
      | none => simp [dstO, hok] at hd
      | some ok =>
        simp [dstO, hok] at hd
        have := hF.dist k Ss.length ok o d (by omega) (by omega) hok hi hd hod
        omega
    have hagree : ∀ f h1, (∀ d ∈ o.looksAt ops, OkG ops e0 Ss Ss.length f h1 d) → ∀ d ∈ o.looksAt ops, ovrG e L f d = f d := fun f h1 hd d hdm => hr.eq f h1 d (hd d hdm)
    have hLd : ∀ f h1, (∀ d ∈ o.looksAt ops, OkG ops e0 Ss Ss.length f h1 d) → ∀ p ∈ L, lk ops o p.1 = true → p.2 (f p.1) h1 := fun f h1 hd p hp hk => by
      obtain ⟨k, k1, k2, k3⟩ := hr.sub p hp
      exact (hd p.1 (by simpa [lk] using hk)).1 k p.2 k1 k2 k3
    have next : ∀ Φ L1 e1, MonoG R Φ → LSG P ops J R h0 e0 (Ss ++ [Φ]) Ss.length → RelG ops e0 (Ss ++ [Φ]) L1 e1 → OpsG P ops J R h0 (Ss.length + 1) L1 r e1 K →
        ∃ Ss' L' e', Ss'.length = m ∧ RelG ops e0 Ss' L' e' ∧ (∀ k, k < m → LSG P ops J R h0 e0 Ss' k) ∧ (∀ Φ ∈ Ss', MonoG R Φ) ∧ K L' e' := fun Φ L1 e1 hΦ hls hrel hops => by
      refine OpsG.sound hF r (Ss ++ [Φ]) L1 e1 K (fun j => ?_) (by simp; omega) hrel (fun k hk => ?_) (fun Ψ hΨ => ?_) (by rw [List.length_append]; exact hops)
      · have := hl (j + 1)
        simp only [List.getElem?_cons_succ] at this
        rw [this, List.length_append, List.length_cons, List.length_nil]; congr 1; omega
      · simp only [List.length_append, List.length_cons, List.length_nil] at hk
        by_cases hk' : k < Ss.length
        · exact (hs k hk').snoc hk'
        · have : k = Ss.length := by omega
          subst this; exact hls
      · rcases List.mem_append.1 hΨ with h1 | h1
        · exact hmo Ψ h1
        · simp at h1; subst h1; exact hΦ
    have relV : ∀ v (Φ : Sq σ), (∀ u h1, Φ u h1 → u = v) → RelG ops e0 (Ss ++ [Φ]) L (updo e o.dst v) := fun v Φ hΦ => by
      refine ⟨fun f h1 d hok => ?_, fun p hp => ?_⟩
      · cases hod : o.dst with
        | none =>
          refine hr.eq f h1 d ?_
          refine ⟨fun j Ψ hj a b => hok.1 j Ψ (by simp; omega) a (by rw [get_snoc hj]; exact b), fun hn => hok.2 fun j hj => ?_⟩
          simp only [List.length_append, List.length_cons, List.length_nil] at hj
          by_cases hj' : j < Ss.length
          · exact hn j hj'
          · have : j = Ss.length := by omega
            subst this; rw [hdst, hod]; exact fun hh => by cases hh
        | some t =>
          simp only [updo]
          by_cases hdt : d = t
          · subst hdt
            rw [ovrG_notin, upd_eq]
            · exact (hΦ _ h1 (hok.1 Ss.length Φ (by simp) (by rw [hdst, hod]) (by simp))).symm
            · intro p hp hpd
              obtain ⟨k, k1, k2, _⟩ := hr.sub p hp
              exact hdist k _ k1 k2 (by rw [hod, hpd])
          · rw [ovrG_upd_ne hdt]
            refine hr.eq f h1 d ⟨fun j Ψ hj a b => hok.1 j Ψ (by simp; omega) a (by rw [get_snoc hj]; exact b), fun hn => hok.2 fun j hj => ?_⟩
            simp only [List.length_append, List.length_cons, List.length_nil] at hj
            by_cases hj' : j < Ss.length
            · exact hn j hj'
            · have : j = Ss.length := by omega
              subst this; rw [hdst, hod]; exact fun hh => by cases hh; exact hdt rfl
      · obtain ⟨k, k1, k2, k3⟩ := hr.sub p hp
        exact ⟨k, by simp; omega, k2, by rw [get_snoc k1]; exact k3⟩
    have hsel := fun cs b => Region.noSelect_spec hF.sel Ss.length o cs b hi
    simp only [OpsG] at h
    rcases h with ⟨hru, hJd, h⟩ | ⟨hru, ⟨v, hob, h⟩ | ⟨d, Φ, hod, hΦ, hob, h⟩⟩
    · refine next (fun u _ => u = undef) L _ (fun _ _ _ _ e => e) ?_ (relV undef _ fun _ _ e => e) h
      intro o' Φ' f D h1 w ho' hp' hD hl1 I hd
      rw [hi] at ho'; cases ho'
      simp at hp'; subst hp'
      have hd' := fun d hm => (OkG.snoc (Nat.le_refl _)).1 (hd d hm)
      refine ⟨fun hrt => ?_, fun _ => ⟨rfl, hJd D h1 w hD I⟩⟩
      rw [← runs_congr (hagree f h1 hd'), hru] at hrt
      cases hrt
    · refine next (fun u _ => u = v) L _ (fun _ _ _ _ e => e) ?_ (relV v _ fun _ _ e => e) h
      intro o' Φ' f D h1 w ho' hp' hD hl1 I hd
      rw [hi] at ho'; cases ho'
      simp at hp'; subst hp'
      have hd' := fun d hm => (OkG.snoc (Nat.le_refl _)).1 (hd d hm)
      refine ⟨fun _ => Op1_congr hsel (hagree f h1 hd') ((hob D h1 w hD hl1 I).get f (hLd f h1 hd')), fun hrf => ?_⟩
      rw [← runs_congr (hagree f h1 hd'), hru] at hrf
      cases hrf
    · refine next Φ ((d, Φ) :: L) e hΦ ?_ ⟨fun f h1 i hok => ?_, fun p hp => ?_⟩ h
      · intro o' Φ' f D h1 w ho' hp' hD hl1 I hd
        rw [hi] at ho'; cases ho'
        simp at hp'; subst hp'
        have hd' := fun d hm => (OkG.snoc (Nat.le_refl _)).1 (hd d hm)
        refine ⟨fun _ => Op1_congr hsel (hagree f h1 hd') ((hob D h1 w hD hl1 I).get f (hLd f h1 hd')), fun hrf => ?_⟩
        rw [← runs_congr (hagree f h1 hd'), hru] at hrf
        cases hrf
      · simp only [ovrG]
        by_cases hdt : i = d
        · subst hdt; rw [upd_eq]
        · rw [upd_ne _ _ hdt]
          refine hr.eq f h1 i ⟨fun j Ψ hj a b => hok.1 j Ψ (by simp; omega) a (by rw [get_snoc hj]; exact b), fun hn => hok.2 fun j hj => ?_⟩
          simp only [List.length_append, List.length_cons, List.length_nil] at hj
          by_cases hj' : j < Ss.length
          · exact hn j hj'
          · have : j = Ss.length := by omega
            subst this; rw [hdst, hod]; exact fun hh => by cases hh; exact hdt rfl
      · rcases List.mem_cons.1 hp with rfl | hp
        · exact ⟨Ss.length, by simp, by rw [hdst, hod], by simp⟩
        · obtain ⟨k, k1, k2, k3⟩ := hr.sub p hp
          exact ⟨k, by simp; omega, k2, by rw [get_snoc k1]; exact k3⟩

/-! ### Every order -/
structure StG (ops : Array Oper) (m : Nat) (J : (Nat → Bool) → σ → World → Prop) (R : σ → σ → Prop) (h0 : σ) (e0 : Env) (Ss : List (Sq σ)) (N : Nat) (D : List Deferred) (l : Array Bool) (a : Act) (w : World) : Prop where
  size : l.size = ops.size
  closed : Closed ops fun j => l.getD j false = true
  tail : ∀ j, m ≤ j → l.getD j false ≠ true
  n : a.tmps.size = N
  d : a.defers = D
  st : ∃ h, R h0 h ∧ J (fun j => l.getD j false) h w ∧ ∀ d, (∀ j Φ, j < m → l.getD j false = true → dstO ops j = some d → Ss[j]? = some Φ → Φ (env a d) h) ∧ ((∀ j, j < m → l.getD j false = true → dstO ops j ≠ some d) → env a d = e0 d)
theorem flow_anyG {Q : Exit → Act → World → Prop} {K : Env → World → Prop} {N : Nat} {D : List Deferred} {Ss : List (Sq σ)} (hF : Flow ops m) (hds : dstsOk N ops.toList = true) (hQ : ∀ a w, a.tmps.size = N → a.defers = D → K (env a) w → Q .normal a w)
    (hSs : Ss.length = m) (hls : ∀ k, k < m → LSG P ops J R h0 e0 Ss k) (hmo : ∀ Φ ∈ Ss, MonoG R Φ)
    (hR : Pre R) (hend : ∀ f D h1 w, (∀ j, j < m → D j = true) → R h0 h1 → J D h1 w → (∀ d, OkG ops e0 Ss m f h1 d) → Ops P ops (ops.toList.drop m) f w K) :
    ∀ (fuel : Nat) (l : Array Bool) (a : Act) (w : World), l.count false ≤ fuel → StG ops m J R h0 e0 Ss N D l a w → wpAny P .any ops Q fuel l a w := by
  have fin : ∀ (l : Array Bool) (a : Act) (w : World), StG ops m J R h0 e0 Ss N D l a w → (∀ j, j < m → l.getD j false = true) → Ops P ops (ops.toList.drop m) (env a) w K := fun l a w S hall => by
    obtain ⟨h, g1, g2, g3⟩ := S.st
    exact hend _ _ h w hall g1 g2 fun d => ⟨fun j Φ hj a b => (g3 d).1 j Φ hj (hall j hj) a b, fun hn => (g3 d).2 fun j hj _ => hn j hj⟩
  have nil : ∀ (l : Array Bool) (a : Act) (w : World), StG ops m J R h0 e0 Ss N D l a w → Region.ready .any ops l = [] → Q .normal a w := fun l a w S hr => by
    have least : ∀ n, ∀ j, j < n → j < ops.size → l.getD j false = true := by
      intro n
      induction n with
      | zero => intro j hj; omega
      | succ n ihn =>
        intro j hj hjs
        by_cases hjn : j < n
        · exact ihn j hjn hjs
        · have : j = n := by omega
          subst this
          cases hh : l.getD j false
          · exfalso
            have : j ∈ Region.ready .any ops l := mem_ready.2 ⟨by rw [getD_tf (by rw [S.size]; exact hjs)]; exact hh, ops[j], by simp [hjs], fun e he hb => by
              have := hF.back j ops[j] (by simp [hjs]) e he hb
              exact ihn e.on (by omega) (by omega)⟩
            rw [hr] at this; cases this
          · rfl
    have hms : m = ops.size := by
      rcases Nat.lt_or_ge m ops.size with h' | h'
      · exact absurd (least (m + 1) m (by omega) h') (S.tail m (Nat.le_refl m))
      · have := hF.le; omega
    have := fin l a w S fun j hj => least (j + 1) j (by omega) (by omega)
    rw [List.drop_eq_nil_of_le (by simp; omega)] at this
    exact hQ a w S.n S.d this
  intro fuel
  induction fuel with
  | zero =>
    intro l a w hc S
    have hr : Region.ready .any ops l = [] := by
      cases hr : Region.ready .any ops l with
      | nil => rfl
      | cons x xs =>
        have hx : x ∈ Region.ready .any ops l := by rw [hr]; exact List.mem_cons_self ..
        obtain ⟨h1, o, ho, _⟩ := mem_ready.1 hx
        have hlt : x < l.size := by rw [S.size]; exact (Array.getElem?_eq_some_iff.1 ho).1
        have := count_set hlt h1
        omega
    exact ⟨hr, nil l a w S hr⟩
  | succ fuel ih =>
    intro l a w hc S
    refine ⟨nil l a w S, fun i hi => ?_⟩
    obtain ⟨h1, o, ho, h2⟩ := mem_ready.1 hi
    have hlt : i < ops.size := (Array.getElem?_eq_some_iff.1 ho).1
    have hil : i < l.size := by rw [S.size]; exact hlt
    have hun : l.getD i false ≠ true := by rw [← getD_tf hil, h1]; exact fun h => by cases h
    have hdo : o.dst.all (· < N) = true := (List.all_eq_true.1 hds) o (by have := Array.mem_of_getElem? ho; simpa using this)
    have hcnt := count_set hil h1
    by_cases him : i < m
    · obtain ⟨Φ, hΦ⟩ : ∃ Φ, Ss[i]? = some Φ := ⟨Ss[i]'(by omega), by simp [hSs, him]⟩
      obtain ⟨h, g1, g2, g3⟩ := S.st
      have hDi : (fun j => l.getD j false) i = false := by simpa using hun
      have hset : (fun j => (l.setIfInBounds i true).getD j false) = setD (fun j => l.getD j false) i := by
        funext j
        rw [Bool.eq_iff_iff, set_getD hil]; simp [setD]
      have step : ∀ v w' hh, R h hh → J (setD (fun j => l.getD j false) i) hh w' → Φ v hh → wpAny P .any ops Q fuel (l.setIfInBounds i true) (a.put o.dst v) w' := fun v w' hh hle I hv => by
        refine ih _ _ w' (by omega) ⟨by simpa using S.size, fun j oj hoj hj e he hb => ?_, fun j hj hh' => ?_, by rw [size_put, S.n], by rw [defers_put, S.d], hh, hR.trans _ _ _ g1 hle, by rw [hset]; exact I, fun d => ?_⟩
        · simp only [set_getD hil] at hj ⊢
          rcases hj with rfl | hj
          · rw [ho] at hoj; cases hoj; exact .inr (h2 e he hb)
          · exact .inr (S.closed j oj hoj hj e he hb)
        · rw [set_getD hil] at hh'
          rcases hh' with rfl | hh'
          · omega
          · exact S.tail j hj hh'
        · rw [env_puto a _ v (by rw [S.n]; exact hdo)]
          have other : o.dst ≠ some d → updo (env a) o.dst v d = env a d := fun hne => by
            cases hod : o.dst with
            | none => rfl
            | some t => exact upd_ne _ _ fun e => hne (by rw [hod, e])
          by_cases hod : o.dst = some d
          · rw [hod]
            simp only [updo, upd_eq]
            refine ⟨fun j Ψ hj hlj hdj hΨ => ?_, fun hn => absurd (by simp [dstO, ho, hod]) (hn i him (by rw [set_getD hil]; exact .inl rfl))⟩
            cases hoj : ops[j]? with
            | none => simp [dstO, hoj] at hdj
            | some oj =>
              simp [dstO, hoj] at hdj
              have := hF.dist j i oj o d hj him hoj ho hdj hod
              subst this
              rw [hΦ] at hΨ; cases hΨ; exact hv
          · rw [other hod]
            refine ⟨fun j Ψ hj hlj hdj hΨ => ?_, fun hn => (g3 d).2 fun j hj hlj => hn j hj (by rw [set_getD hil]; exact .inr hlj)⟩
            rw [set_getD hil] at hlj
            rcases hlj with rfl | hlj
            · simp [dstO, ho] at hdj; exact absurd hdj hod
            · exact hmo Ψ (List.mem_of_getElem? hΨ) _ h hh hle ((g3 d).1 j Ψ hj hlj hdj hΨ)
      have hok : ∀ d ∈ o.looksAt ops, OkG ops e0 Ss i (env a) h d := fun d hd => by
        refine ⟨fun j Ψ hj hdj hΨ => ?_, fun hn => (g3 d).2 fun j hj hlj hdj => ?_⟩
        · cases hoj : ops[j]? with
          | none => simp [dstO, hoj] at hdj
          | some oj =>
            simp [dstO, hoj] at hdj
            have := (hF.reads i j o oj d him (by omega) (by omega) ho hoj hdj hd).1 hj
            exact (g3 d).1 j Ψ (by omega) (wt_L (L := fun j => l.getD j false = true) this h2) (by simp [dstO, hoj, hdj]) hΨ
        · rcases Nat.lt_trichotomy j i with h' | h' | h'
          · exact hn j h' hdj
          · subst h'; exact hun hlj
          · cases hoj : ops[j]? with
            | none => simp [dstO, hoj] at hdj
            | some oj =>
              simp [dstO, hoj] at hdj
              have := (hF.reads i j o oj d him hj (by omega) ho hoj hdj hd).2 h'
              exact hun (wt_L (L := fun j => l.getD j false = true) this (S.closed j oj hoj hlj))
      have hls' := hls i him o Φ (env a) _ h w ho hΦ hDi g1 g2 hok
      refine wpOp_of ho ?_
      split
      · rename_i hr
        exact (hls'.1 hr).mono fun v w' ⟨hh, k1, k2, k3⟩ => step v w' hh k1 k2 k3
      · rename_i hr
        exact step undef w h (hR.refl h) (hls'.2 (by simpa using hr)).2 (hls'.2 (by simpa using hr)).1
    · have hall := hF.tail (fun j => l.getD j false = true) S.closed i o (by omega) ho h2
      have him' : i = m := by
        rcases Nat.lt_or_ge m i with h' | h'
        · exact absurd (hall m h') (S.tail m (Nat.le_refl m))
        · omega
      subst him'
      have hl : ∀ j, l.getD j false = true ↔ j < i := fun j => ⟨fun hj => by
        rcases Nat.lt_or_ge j i with h' | h'
        · exact h'
        · exact absurd hj (S.tail j h'), hall j⟩
      have hle : ops.size - i ≤ fuel + 1 := by
        have : ∀ n k (l : Array Bool), l.size = ops.size → k + n = ops.size → (∀ j, k ≤ j → l.getD j false ≠ true) → n ≤ l.count false := by
          intro n
          induction n with
          | zero => intro k l _ _ _; omega
          | succ n ihn =>
            intro k l hs hk hj
            have hks : k < l.size := by omega
            have hkf : l.getD k true = false := by
              rw [getD_tf hks]
              cases hh : l.getD k false
              · rfl
              · exact absurd hh (hj k (Nat.le_refl k))
            have h3 := ihn (k + 1) (l.setIfInBounds k true) (by simpa using hs) (by omega) (fun j hj' => by
              rw [Ne, set_getD hks]; rintro (h | h)
              · omega
              · exact hj j (by omega) h)
            have := count_set hks hkf
            omega
        have := this (ops.size - i) i l S.size (by omega) S.tail
        omega
      have hT := flow_tail (P := P) hF hds hQ (fuel + 1) i l a w (Nat.le_refl i) hF.le hle S.size hl S.n S.d (fin l a w S hall)
      exact hT.2 i hi
end
end
theorem WP.regionG {σ : Type} {P : Program} {N : Nat} {D : List Deferred} {e : Env} {w : World} {Q : Exit → Env → World → Prop} {id : Nat} {ops : Array Oper} {J : (Nat → Bool) → σ → World → Prop} {R : σ → σ → Prop} (hm : Mixed P) (hR : Pre R) (s0 : σ) (I : J (fun _ => false) s0 w.drew) (m : Nat) (hB : flowB ops m = true)
    (k : OpsG P ops J R s0 0 [] (ops.toList.take m) e (fun L e' => ∀ D h1 w1, (∀ j, j < m → D j = true) → R s0 h1 → J D h1 w1 → AllG (fun _ => true) h1 L e' fun e'' => Ops P ops (ops.toList.drop m) e'' w1 (fun e3 w3 => Q .normal e3 w3))) : WP P N D (.region id ops true) e w Q := by
  intro hs a h1 h2 h3
  subst h3
  have hF := flow_of hB
  obtain ⟨Ss, L, e', hlen, hrel, hls, hmo, hK⟩ := OpsG.sound (e0 := env a) hF _ [] [] (env a) _ (fun j => by simp) (by simp [hF.le]) ⟨fun f h1 d ho => (ho.2 (by simp)).symm, by simp⟩ (by simp) (by simp) k
  refine wp_region_any hm ?_
  refine flow_anyG (K := fun e3 w3 => Q .normal e3 w3) (N := N) (D := D) hF hs (fun a w g1 g2 g3 => ⟨g1, g2, g3⟩) hlen hls hmo hR (fun f D h1 w1 hD hl I1 hok => ?_) ops.size _ a _ (by simp) ⟨by simp, ?_, ?_, h1, h2, s0, hR.refl s0, ?_, fun d => ⟨?_, fun _ => rfl⟩⟩
  · have hov : ovrG e' L f = f := by funext d; exact hrel.eq f h1 d (hlen ▸ hok d)
    have := (hK D h1 w1 hD hl I1).get f fun p hp _ => by
      obtain ⟨k, k1, k2, k3⟩ := hrel.sub p hp
      exact (hok p.1).1 k p.2 (hlen ▸ k1) k2 k3
    rwa [hov] at this
  · intro i o _ hl
    simp [Array.getD_eq_getD_getElem?, Array.getElem?_replicate] at hl
    split at hl <;> simp at hl
  · intro j _ hl
    simp [Array.getD_eq_getD_getElem?, Array.getElem?_replicate] at hl
    split at hl <;> simp at hl
  · have : (fun j => (Array.replicate ops.size false).getD j false) = fun _ => false := by
      funext j
      simp [Array.getD_eq_getD_getElem?, Array.getElem?_replicate]
      split <;> rfl
    rw [this]; exact I
  · intro j Φ _ hl
    simp [Array.getD_eq_getD_getElem?, Array.getElem?_replicate] at hl
    split at hl <;> simp at hl
section
variable {σ : Type} {P : Program} {full : Array Oper} {J : (Nat → Bool) → σ → World → Prop} {R : σ → σ → Prop} {h0 : σ} {k : Nat} {L : List (Nat × Sq σ)} {rest : List Oper} {e : Env} {K : List (Nat × Sq σ) → Env → Prop}
variable {op : Op} {t : TypeId} {pos : String} {af : Array Edge}
theorem OpsG.nil (h : K L e) : OpsG P full J R h0 k L [] e K := h
theorem ovrG_us {e us us' : Env} {d : Nat} (h : ∀ j, j ≠ d → us j = us' j) : ∀ (L : List (Nat × Sq σ)) {i : Nat}, i ≠ d → ovrG e L us i = ovrG e L us' i
  | [], _, _ => rfl
  | p :: L, i, hi => by
    simp only [ovrG]
    by_cases hp : i = p.1
    · subst hp; rw [upd_eq, upd_eq, h _ hi]
    · rw [upd_ne _ _ hp, upd_ne _ _ hp, ovrG_us h L hi]
theorem AllG.all {c : Nat → Bool} {h : σ} : ∀ {L : List (Nat × Sq σ)} {e : Env} {k : Env → Prop}, (∀ us, k (ovrG e L us)) → AllG c h L e k
  | [], _, _, hk => hk fun _ => undef
  | p :: L, e, k, hk => AllG.all (L := L) fun us u _ => by
    have h1 := hk (upd us p.1 u)
    have h2 : upd (ovrG e L (upd us p.1 u)) p.1 u = upd (ovrG e L us) p.1 u := by
      funext i
      by_cases hi : i = p.1
      · subst hi; rw [upd_eq, upd_eq]
      · rw [upd_ne _ _ hi, upd_ne _ _ hi]; exact ovrG_us (fun j hj => upd_ne _ _ hj) L hi
    simp only [ovrG, upd_eq, h2] at h1
    exact h1
theorem OpsG.y_ {d : Nat} {g : Option (Nat × Bool)} {v : Value} (hr : ∀ us, runs full (ovrG e L us) ⟨some d, op, t, pos, af, g⟩ = true) (hR : Pre R) (hJ : ∀ D s w, J D s w → J (setD D k) s w)
    (hy : ∀ D h1 w us, R h0 h1 → J D h1 w → Y P ⟨some d, op, t, pos, af, g⟩ (ovrG e L us) w v) (h : OpsG P full J R h0 (k + 1) L rest (upd e d v) K) :
    OpsG P full J R h0 k L (⟨some d, op, t, pos, af, g⟩ :: rest) e K :=
  .inr ⟨hr, .inl ⟨v, fun D h1 w _ hl I => AllG.all fun us => by unfold Op1; rw [hy D h1 w us hl I]; exact ⟨h1, hR.refl h1, hJ D h1 w I, rfl⟩, h⟩⟩
theorem OpsG.x_ {d : Nat} {g : Option (Nat × Bool)} {Φ : Sq σ} (hm : MonoG R Φ) (hr : ∀ us, runs full (ovrG e L us) ⟨some d, op, t, pos, af, g⟩ = true)
    (hy : OblG P full J R h0 k L e ⟨some d, op, t, pos, af, g⟩ Φ) (h : OpsG P full J R h0 (k + 1) ((d, Φ) :: L) rest e K) :
    OpsG P full J R h0 k L (⟨some d, op, t, pos, af, g⟩ :: rest) e K :=
  .inr ⟨hr, .inr ⟨d, Φ, rfl, hm, hy, h⟩⟩
/-- An operation that yields nothing. -/
theorem OpsG.s_ {g : Option (Nat × Bool)} (hr : ∀ us, runs full (ovrG e L us) ⟨none, op, t, pos, af, g⟩ = true)
    (hy : OblG P full J R h0 k L e ⟨none, op, t, pos, af, g⟩ (fun u _ => u = undef)) (h : OpsG P full J R h0 (k + 1) L rest e K) :
    OpsG P full J R h0 k L (⟨none, op, t, pos, af, g⟩ :: rest) e K :=
  .inr ⟨hr, .inl ⟨undef, hy, h⟩⟩
theorem runsG_none (us : Env) {d : Option Nat} : runs full (ovrG e L us) ⟨d, op, t, pos, af, none⟩ = true := rfl
end
end Go.TF
end
section
/- A drawn region that makes two variables and writes the first of them in it. -/
namespace Go.TF
open Go Go.RowKit

structure BxS where
  h : Heap
  o7 : Option Nat
  o8 : Option Nat
def pcs (o : Option Nat) (f : Bool) (z c : List Value) (T : TypeId) : List SA := match o with
  | none => []
  | some b => [box b (if f then c else z) T]
/-- Operations i7, i8 make the variables, i12 writes the first. -/
structure JBx (B : Base) (M : List SA) (T : TypeId) (z c : List Value) (i7 i8 i12 : Nat) (D : Nat → Bool) (s : BxS) (w : World) : Prop where
  h7 : s.o7.isSome = D i7
  h8 : s.o8.isSome = D i8
  ord : D i12 = true → D i7 = true
  inv : Inv B s.h (pcs s.o7 (D i12) z c T ++ (pcs s.o8 false z c T ++ M)) w
structure RBx (s s' : BxS) : Prop where
  h : s.h.le s'.h
  h7 : ∀ b, s.o7 = some b → s'.o7 = some b
  h8 : ∀ b, s.o8 = some b → s'.o8 = some b
theorem RBx.pre : Pre RBx := ⟨fun _ => ⟨Heap.le.refl _, fun _ h => h, fun _ h => h⟩, fun _ _ _ h k => ⟨h.h.trans k.h, fun b e => k.h7 b (h.h7 b e), fun b e => k.h8 b (h.h8 b e)⟩⟩
section
variable {B : Base} {M : List SA} {T : TypeId} {z c : List Value} {i7 i8 i12 k : Nat} {D : Nat → Bool} {s : BxS} {w : World}
theorem JBx.base (j : JBx B M T z c i7 i8 i12 D s w) : Inv B s.h M w := j.inv.weak ((List.sublist_append_right _ _).trans (List.sublist_append_right _ _))
theorem JBx.set (h : i7 ≠ k ∧ i8 ≠ k ∧ i12 ≠ k) : ∀ D s w, JBx B M T z c i7 i8 i12 D s w → JBx B M T z c i7 i8 i12 (setD D k) s w := fun D s w j => by
  have e : ∀ i, i ≠ k → setD D k i = D i := fun i hi => by simp [setD, hi]
  exact ⟨by rw [e _ h.1]; exact j.h7, by rw [e _ h.2.1]; exact j.h8, by rw [e _ h.1, e _ h.2.2]; exact j.ord, by rw [e _ h.2.2]; exact j.inv⟩
def At7 (u : Value) (s : BxS) : Prop := ∃ b, u = .pointer (some ⟨b, 0, none⟩) ∧ s.o7 = some b
def At8 (u : Value) (s : BxS) : Prop := ∃ b, u = .pointer (some ⟨b, 0, none⟩) ∧ s.o8 = some b
theorem At7.mono : MonoG RBx At7 := fun _ _ _ r ⟨b, h1, h2⟩ => ⟨b, h1, r.h7 b h2⟩
theorem At8.mono : MonoG RBx At8 := fun _ _ _ r ⟨b, h1, h2⟩ => ⟨b, h1, r.h8 b h2⟩
end
section
variable {P : Program} {full : Array Oper} {B : Base} {M : List SA} {T : TypeId} {z c : List Value} {i7 i8 i12 k : Nat} {h0 : BxS} {L : List (Nat × Sq BxS)} {rest : List Oper} {e : Env} {K : List (Nat × Sq BxS) → Env → Prop}
variable {t : TypeId} {pos : String} {af : Array Edge}
theorem OpsG.make7 {d : Nat} {zv : Value} (hz : Zero P T zv) (hc : zv.cells = z.toArray) (h78 : i8 ≠ i7) (h712 : i12 ≠ i7) (h : OpsG P full (JBx B M T z c i7 i8 i12) RBx h0 (i7 + 1) ((d, At7) :: L) rest e K) :
    OpsG P full (JBx B M T z c i7 i8 i12) RBx h0 i7 L (⟨some d, .alloc T, t, pos, af, none⟩ :: rest) e K := by
  refine OpsG.x_ At7.mono (fun _ => runsG_none _) (fun D s w hDk hl hj => AllG.all fun us => ?_) h
  have h7 : s.o7 = none := by
    have := hj.h7
    rw [hDk] at this
    cases h : s.o7 <;> simp_all
  have h12 : D i12 = false := by
    cases hh : D i12
    · rfl
    · rw [hj.ord hh] at hDk; cases hDk
  have I := hj.inv
  rw [h7] at I
  refine O.alloc I hz hc fun b w' I' => ⟨⟨s.h, some b, s.o8⟩, ⟨Heap.le.refl _, fun b' e => (by rw [h7] at e; cases e), fun _ e => e⟩, ⟨?_, ?_, fun _ => by simp [setD], ?_⟩, b, rfl, rfl⟩
  · simp [setD]
  · rw [show setD D i7 i8 = D i8 from by simp [setD, h78]]; exact hj.h8
  · rw [show setD D i7 i12 = false from by simp [setD, h712, h12]]
    exact I'
theorem OpsG.make8 {d : Nat} {zv : Value} (hz : Zero P T zv) (hc : zv.cells = z.toArray) (h78 : i7 ≠ i8) (h812 : i12 ≠ i8) (h : OpsG P full (JBx B M T z c i7 i8 i12) RBx h0 (i8 + 1) ((d, At8) :: L) rest e K) :
    OpsG P full (JBx B M T z c i7 i8 i12) RBx h0 i8 L (⟨some d, .alloc T, t, pos, af, none⟩ :: rest) e K := by
  refine OpsG.x_ At8.mono (fun _ => runsG_none _) (fun D s w hDk hl hj => AllG.all fun us => ?_) h
  have h8 : s.o8 = none := by
    have := hj.h8
    rw [hDk] at this
    cases h : s.o8 <;> simp_all
  have I := hj.inv
  rw [h8] at I
  refine O.alloc I hz hc fun b w' I' => ⟨⟨s.h, s.o7, some b⟩, ⟨Heap.le.refl _, fun _ e => e, fun b' e => (by rw [h8] at e; cases e)⟩, ⟨?_, ?_, ?_, ?_⟩, b, rfl, rfl⟩
  · rw [show setD D i8 i7 = D i7 from by simp [setD, h78]]; exact hj.h7
  · simp [setD]
  · rw [show setD D i8 i12 = D i12 from by simp [setD, h812], show setD D i8 i7 = D i7 from by simp [setD, h78]]; exact hj.ord
  · rw [show setD D i8 i12 = D i12 from by simp [setD, h812]]
    exact I'.perm List.perm_middle
theorem OpsG.store7 {a x : Operand} {n : Nat} {ag : Bool} {v : Value} (hT : Ty P T n ag) (hl7 : z.length = n) (hcl : c.length = n) (hL : ∀ s, AllG (lk full ⟨none, .store T a x, t, pos, af, none⟩) s L e (fun e' => At7 (ev e' a) s ∧ ev e' x = v)) (hv : v.cells = c.toArray) (h1 : oneCells c = true) (h7k : i7 ≠ i12) (h8k : i8 ≠ i12)
    (h : OpsG P full (JBx B M T z c i7 i8 i12) RBx h0 (i12 + 1) L rest e K) : OpsG P full (JBx B M T z c i7 i8 i12) RBx h0 i12 L (⟨none, .store T a x, t, pos, af, none⟩ :: rest) e K := by
  refine OpsG.s_ (fun _ => runsG_none _) (fun D s w hDk hl hj => ?_) h
  have key : ∀ (L : List (Nat × Sq BxS)) (e : Env) (k k' : Env → Prop), (∀ x, k x → k' x) → AllG (lk full ⟨none, .store T a x, t, pos, af, none⟩) s L e k → AllG (lk full ⟨none, .store T a x, t, pos, af, none⟩) s L e k' := by
    intro L
    induction L with
    | nil => intro e k k' hk a; exact hk _ a
    | cons p L ih => intro e k k' hk a; exact ih e _ _ (fun x hx u hu => hk _ (hx u hu)) a
  refine key L e _ _ ?_ (hL s)
  rintro e' ⟨⟨b, ha, hb⟩, hx⟩
  have I := hj.inv
  rw [hb, hDk] at I
  refine O.store (cs' := c) I hT 0 rfl ha hx hv hcl h1 (by simp only [Bool.false_eq_true, if_false]; omega) ?_ fun w' I' => ⟨s, RBx.pre.refl s, ⟨?_, ?_, fun _ => ?_, ?_⟩, rfl⟩
  · simp only [Bool.false_eq_true, if_false]
    rw [putAt_eq _ _ _ (Nat.zero_le _)]
    simp [hcl, hl7]
  · rw [show setD D i12 i7 = D i7 from by simp [setD, h7k]]; exact hj.h7
  · rw [show setD D i12 i8 = D i8 from by simp [setD, h8k]]; exact hj.h8
  · rw [show setD D i12 i7 = D i7 from by simp [setD, h7k], ← hj.h7, hb]; rfl
  · rw [hb, show setD D i12 i12 = true from by simp [setD]]
    exact I'
/-- A quiet call. -/
theorem OpsG.c_ {d : Nat} {op : Op} {v : Value} (h7 : i7 ≠ k ∧ i8 ≠ k ∧ i12 ≠ k) (hy : ∀ D s w us, RBx h0 s → JBx B M T z c i7 i8 i12 D s w → Op1 P ⟨some d, op, t, pos, af, none⟩ (ovrG e L us) w fun u w' => u = v ∧ JBx B M T z c i7 i8 i12 D s w') (h : OpsG P full (JBx B M T z c i7 i8 i12) RBx h0 (k + 1) L rest (upd e d v) K) :
    OpsG P full (JBx B M T z c i7 i8 i12) RBx h0 k L (⟨some d, op, t, pos, af, none⟩ :: rest) e K :=
  .inr ⟨fun _ => runsG_none _, .inl ⟨v, fun D s w _ hl hj => AllG.all fun us => (hy D s w us hl hj).mono fun _ _ ⟨a, b⟩ => ⟨s, RBx.pre.refl s, JBx.set h7 D s _ b, a⟩, h⟩⟩
end
end Go.TF
end
section
/- Facts: which may be, where each stands, finding, adding, being under: plain. -/
namespace Go.TF
open Go

def predFine (p : Prd) : Bool := decide (0 ≤ p.arity ∧ p.arity ≤ 2 ∧ 0 ≤ p.kind ∧ p.kind ≤ 3)
def factFine (l : List Prd) (x : Fct) : Bool :=
  decide (within x.pred 0 (l.length - 1)) && decide (within x.a 0 4) && decide (within x.b 0 4) && (decide (1 ≤ (predOf l x.pred).arity) || decide (x.a = 0)) && (decide (2 ≤ (predOf l x.pred).arity) || decide (x.b = 0)) &&
    decide (checkVal (predOf l x.pred).kind x.v = 0)

def placeF (x : Fct) : Int := (x.pred * 5 + x.a) * 5 + x.b
structure PF (x : Fct) : Prop where
  p0 : 0 ≤ x.pred
  p1 : x.pred ≤ 4
  a0 : 0 ≤ x.a
  a1 : x.a ≤ 4
  b0 : 0 ≤ x.b
  b1 : x.b ≤ 4
theorem PF.inj {x y : Fct} (hx : PF x) (hy : PF y) (h : placeF x = placeF y) : x.pred = y.pred ∧ x.a = y.a ∧ x.b = y.b := by
  obtain ⟨_, _, _, _, _, _⟩ := hx; obtain ⟨_, _, _, _, _, _⟩ := hy
  unfold placeF at h; omega
theorem PF.place {x : Fct} (hx : PF x) : 0 ≤ placeF x ∧ placeF x < 125 := by
  obtain ⟨_, _, _, _, _, _⟩ := hx
  unfold placeF; omega
theorem PF.lt {x y : Fct} (hx : PF x) (hy : PF y) : placeF x < placeF y ↔ x.pred < y.pred ∨ x.pred = y.pred ∧ (x.a < y.a ∨ x.a = y.a ∧ x.b < y.b) := by
  obtain ⟨_, _, _, _, _, _⟩ := hx; obtain ⟨_, _, _, _, _, _⟩ := hy
  unfold placeF; omega
theorem PF.ext {x y : Fct} (hx : PF x) (hy : PF y) (h : placeF x = placeF y) (hv : x.v = y.v) : x = y := by
  obtain ⟨h1, h2, h3⟩ := hx.inj hy h
  cases x; cases y; simp_all
def cmpI (a b : Int) : Int := if a < b then -1 else if b < a then 1 else 0
def ordF (x y : Fct) : Int := if cmpI x.pred y.pred ≠ 0 then cmpI x.pred y.pred else if cmpI x.a y.a ≠ 0 then cmpI x.a y.a else cmpI x.b y.b
theorem ordF_neg {x y : Fct} (hx : PF x) (hy : PF y) : ordF x y < 0 ↔ placeF x < placeF y := by
  rw [hx.lt hy]; unfold ordF cmpI
  (repeat' split) <;> omega
theorem ordF_zero {x y : Fct} (hx : PF x) (hy : PF y) : ordF x y = 0 ↔ placeF x = placeF y := by
  constructor
  · intro h
    have : x.pred = y.pred ∧ x.a = y.a ∧ x.b = y.b := by
      unfold ordF cmpI at h
      (repeat' split at h) <;> omega
    unfold placeF; omega
  · intro h
    obtain ⟨h1, h2, h3⟩ := hx.inj hy h
    unfold ordF cmpI
    (repeat' split) <;> omega
def sortedB : List Fct → Bool
  | [] => true
  | [_] => true
  | x :: y :: r => decide (placeF x < placeF y) && sortedB (y :: r)
abbrev SrtF (f : List Fct) : Prop := f.Pairwise fun x y => placeF x < placeF y
theorem sorted_iff : ∀ f : List Fct, sortedB f = true ↔ SrtF f
  | [] => by simp [sortedB, SrtF]
  | [x] => by simp [sortedB, SrtF]
  | x :: y :: r => by
    rw [sortedB, Bool.and_eq_true, decide_eq_true_eq, sorted_iff (y :: r)]
    constructor
    · rintro ⟨h, hs⟩
      refine List.pairwise_cons.2 ⟨fun z hz => ?_, hs⟩
      rcases List.mem_cons.1 hz with rfl | hz
      · exact h
      · exact Int.lt_trans h ((List.pairwise_cons.1 hs).1 z hz)
    · intro hs
      obtain ⟨h1, h2⟩ := List.pairwise_cons.1 hs
      exact ⟨h1 y List.mem_cons_self, h2⟩
theorem sorted_of {f : List Fct} (h : ∀ i, (hi : i + 1 < f.length) → placeF f[i] < placeF f[i + 1]) : SrtF f := by
  rw [← sorted_iff]
  induction f with
  | nil => rfl
  | cons x r ih =>
    cases r with
    | nil => rfl
    | cons y r =>
      rw [sortedB, Bool.and_eq_true, decide_eq_true_eq]
      exact ⟨h 0 (by simp), ih fun i hi => h (i + 1) (by simp only [List.length_cons] at hi ⊢; omega)⟩
theorem SrtF.get {f : List Fct} (h : SrtF f) {i j : Nat} (hij : i < j) (hj : j < f.length) : placeF f[i] < placeF f[j] := List.pairwise_iff_getElem.1 h i j (by omega) hj hij
def factsB (l : List Prd) (f : List Fct) : Bool := f.all (factFine l) && sortedB f
def predsBad (l : List Prd) : Bool := decide (5 < l.length) || !(l.all predFine)
def checkFacts (l : List Prd) (f : List Fct) : Int := if predsBad l then 2 else if factsB l f then 0 else 1
/-- Right facts, of right predicates. -/
structure FOk (l : List Prd) (f : List Fct) : Prop where
  len : l.length ≤ 5
  preds : ∀ p ∈ l, predFine p = true
  fine : ∀ x ∈ f, factFine l x = true
  srt : SrtF f
theorem checkFacts_ok {l : List Prd} {f : List Fct} : checkFacts l f = 0 ↔ FOk l f := by
  unfold checkFacts
  cases h : predsBad l <;> cases h2 : factsB l f <;> simp only [if_true, Bool.false_eq_true, if_false]
  · refine ⟨fun h => (by omega), fun h3 => ?_⟩
    have : factsB l f = true := by simp only [factsB, Bool.and_eq_true, List.all_eq_true]; exact ⟨h3.fine, (sorted_iff f).2 h3.srt⟩
    rw [this] at h2; cases h2
  · simp only [predsBad, Bool.or_eq_false_iff, decide_eq_false_iff_not, Bool.not_eq_false', List.all_eq_true] at h
    simp only [factsB, Bool.and_eq_true, List.all_eq_true] at h2
    exact ⟨fun _ => ⟨by omega, h.2, h2.1, (sorted_iff f).1 h2.2⟩, fun _ => trivial⟩
  all_goals
    refine ⟨fun h => (by omega), fun h3 => ?_⟩
    have : predsBad l = false := by simp only [predsBad, Bool.or_eq_false_iff, decide_eq_false_iff_not, Bool.not_eq_false', List.all_eq_true]; exact ⟨by have := h3.len; omega, h3.preds⟩
    rw [this] at h; cases h
theorem fine_iff {l : List Prd} {x : Fct} : factFine l x = true ↔ (0 ≤ x.pred ∧ x.pred < l.length) ∧ (0 ≤ x.a ∧ x.a ≤ 4) ∧ (0 ≤ x.b ∧ x.b ≤ 4) ∧ (1 ≤ (predOf l x.pred).arity ∨ x.a = 0) ∧ (2 ≤ (predOf l x.pred).arity ∨ x.b = 0) ∧ VOk (predOf l x.pred).kind x.v := by
  simp only [factFine, Bool.and_eq_true, Bool.or_eq_true, decide_eq_true_eq]
  unfold within
  constructor
  · rintro ⟨⟨⟨⟨⟨h1, h2⟩, h3⟩, h4⟩, h5⟩, h6⟩; exact ⟨⟨h1.1, by omega⟩, h2, h3, h4, h5, h6⟩
  · rintro ⟨h1, h2, h3, h4, h5, h6⟩; exact ⟨⟨⟨⟨⟨⟨h1.1, by omega⟩, h2⟩, h3⟩, h4⟩, h5⟩, h6⟩
theorem fine_pf {l : List Prd} {x : Fct} (hl : l.length ≤ 5) (h : factFine l x = true) : PF x := by
  obtain ⟨h1, h2, h3, _⟩ := fine_iff.1 h
  exact ⟨h1.1, by omega, h2.1, h2.2, h3.1, h3.2⟩
theorem FOk.pf {l : List Prd} {f : List Fct} (h : FOk l f) : ∀ x ∈ f, PF x := fun x hx => fine_pf h.len (h.fine x hx)
/-! ### What is told at a place -/
def lkF (f : List Fct) (p : Int) : Option Int := (f.find? fun y => decide (placeF y = p)).map (·.v)
def findF (f : List Fct) (x : Fct) : Int × Bool := ((lkF f (placeF x)).getD 0, (lkF f (placeF x)).isSome)
theorem lkF_nil (p : Int) : lkF [] p = none := rfl
theorem lkF_cons (y : Fct) (r : List Fct) (p : Int) : lkF (y :: r) p = if placeF y = p then some y.v else lkF r p := by
  unfold lkF; rw [List.find?_cons]
  by_cases h : placeF y = p
  · simp [h]
  · simp [h]
theorem lkF_none {f : List Fct} {p : Int} : lkF f p = none ↔ ∀ y ∈ f, placeF y ≠ p := by
  induction f with
  | nil => simp [lkF_nil]
  | cons y r ih =>
    rw [lkF_cons]
    split
    · rename_i h; simp [h]
    · rename_i h; rw [ih]; simp [h]
theorem lkF_some {f : List Fct} (hs : SrtF f) {p v : Int} : lkF f p = some v ↔ ∃ y ∈ f, placeF y = p ∧ y.v = v := by
  induction f with
  | nil => simp [lkF_nil]
  | cons y r ih =>
    obtain ⟨h1, h2⟩ := List.pairwise_cons.1 hs
    rw [lkF_cons]
    split
    · rename_i h
      constructor
      · intro e; exact ⟨y, List.mem_cons_self, h, by simpa using e⟩
      · rintro ⟨z, hz, e1, e2⟩
        rcases List.mem_cons.1 hz with rfl | hz
        · rw [e2]
        · have := h1 z hz; omega
    · rename_i h
      rw [ih h2]
      constructor
      · rintro ⟨z, hz, e⟩; exact ⟨z, List.mem_cons_of_mem _ hz, e⟩
      · rintro ⟨z, hz, e⟩
        rcases List.mem_cons.1 hz with rfl | hz
        · exact absurd e.1 h
        · exact ⟨z, hz, e⟩
theorem lkF_mem {f : List Fct} {p v : Int} (h : lkF f p = some v) : ∃ y ∈ f, placeF y = p ∧ y.v = v := by
  unfold lkF at h
  cases hf : f.find? fun y => decide (placeF y = p) with
  | none => rw [hf] at h; simp at h
  | some y =>
    rw [hf] at h
    refine ⟨y, List.mem_of_find?_eq_some hf, ?_, by simpa using h⟩
    have := List.find?_some hf
    simpa using this
theorem lkF_of_mem {f : List Fct} (hs : SrtF f) {y : Fct} (hy : y ∈ f) : lkF f (placeF y) = some y.v := (lkF_some hs).2 ⟨y, hy, rfl, rfl⟩
/-- Facts that tell the same are the same. -/
theorem lkF_ext : ∀ {f g : List Fct}, (∀ x ∈ f, PF x) → (∀ x ∈ g, PF x) → SrtF f → SrtF g → (∀ p, lkF f p = lkF g p) → f = g
  | [], [], _, _, _, _, _ => rfl
  | [], y :: r, _, _, _, _, h => by have := h (placeF y); rw [lkF_nil, lkF_cons, if_pos rfl] at this; cases this
  | x :: s, [], _, _, _, _, h => by have := h (placeF x); rw [lkF_nil, lkF_cons, if_pos rfl] at this; cases this
  | x :: s, y :: r, pf, pg, hf, hg, h => by
    obtain ⟨f1, f2⟩ := List.pairwise_cons.1 hf
    obtain ⟨g1, g2⟩ := List.pairwise_cons.1 hg
    have hx := h (placeF x)
    have hy := h (placeF y)
    rw [lkF_cons, if_pos rfl] at hx
    rw [lkF_cons y, if_pos rfl] at hy
    obtain ⟨z, hz, e1, e2⟩ := (lkF_some hg).1 hx.symm
    obtain ⟨z', hz', e1', e2'⟩ := (lkF_some hf).1 hy
    have hp : placeF x = placeF y := by
      rcases List.mem_cons.1 hz with rfl | hz
      · exact e1.symm
      · rcases List.mem_cons.1 hz' with rfl | hz'
        · exact e1'
        · have := g1 z hz; have := f1 z' hz'; omega
    rw [hp, lkF_cons, if_pos rfl] at hx
    have hxy : x = y := (pf x List.mem_cons_self).ext (pg y List.mem_cons_self) hp (by simpa using hx)
    rw [hxy]
    congr 1
    refine lkF_ext (fun z hz => pf z (List.mem_cons_of_mem _ hz)) (fun z hz => pg z (List.mem_cons_of_mem _ hz)) f2 g2 fun p => ?_
    have := h p
    rw [lkF_cons, lkF_cons, hp] at this
    by_cases e : placeF y = p
    · have a : lkF s p = none := lkF_none.2 fun z hz => by have := f1 z hz; omega
      have b : lkF r p = none := lkF_none.2 fun z hz => by have := g1 z hz; omega
      rw [a, b]
    · rwa [if_neg e, if_neg e] at this
/-! ### Adding -/
def addF (k : Int) : List Fct → Fct → List Fct × Bool
  | [], x => ([x], true)
  | y :: r, x => if placeF y = placeF x then (⟨y.pred, y.a, y.b, joinV k y.v x.v⟩ :: r, decide (joinV k y.v x.v ≠ y.v)) else if placeF x < placeF y then (x :: y :: r, true) else (y :: (addF k r x).1, (addF k r x).2)
def newV (k : Int) (o : Option Int) (x : Fct) : Int := match o with | none => x.v | some v => joinV k v x.v
theorem lkF_addF {k : Int} {x : Fct} : ∀ {f : List Fct}, SrtF f → ∀ p, lkF (addF k f x).1 p = if p = placeF x then some (newV k (lkF f p) x) else lkF f p
  | [], _, p => by
    rw [addF, lkF_cons, lkF_nil]
    by_cases h : p = placeF x
    · rw [if_pos h.symm, if_pos h]; rfl
    · rw [if_neg (Ne.symm h), if_neg h]
  | y :: r, hs, p => by
    obtain ⟨h1, h2⟩ := List.pairwise_cons.1 hs
    rw [addF]
    split
    · rename_i he
      show lkF (_ :: r) p = _
      rw [lkF_cons, lkF_cons]
      have hpl : placeF ⟨y.pred, y.a, y.b, joinV k y.v x.v⟩ = placeF y := rfl
      rw [hpl]
      by_cases h : p = placeF x
      · rw [if_pos (he.trans h.symm), if_pos h, if_pos (he.trans h.symm)]; rfl
      · rw [if_neg (by omega), if_neg h, if_neg (by omega)]
    · rename_i he
      split
      · rename_i hlt
        show lkF (x :: y :: r) p = _
        rw [lkF_cons]
        by_cases h : p = placeF x
        · have : lkF (y :: r) p = none := lkF_none.2 fun z hz => by
            rcases List.mem_cons.1 hz with rfl | hz
            · omega
            · have := h1 z hz; omega
          rw [if_pos h.symm, if_pos h, this]; rfl
        · rw [if_neg (Ne.symm h), if_neg h]
      · rename_i hge
        show lkF (y :: (addF k r x).1) p = _
        rw [lkF_cons, lkF_cons, lkF_addF h2]
        by_cases h : p = placeF x
        · rw [if_neg (by omega), if_pos h, if_pos h, if_neg (by omega)]
        · rw [if_neg h, if_neg h]
theorem mem_addF {k : Int} {x z : Fct} : ∀ {f : List Fct}, z ∈ (addF k f x).1 → z ∈ f ∨ z = x ∨ ∃ y ∈ f, placeF y = placeF x ∧ z = ⟨y.pred, y.a, y.b, joinV k y.v x.v⟩
  | [], h => by rw [addF] at h; exact .inr (.inl (by simpa using h))
  | y :: r, h => by
    rw [addF] at h
    split at h
    · rename_i he
      rcases List.mem_cons.1 h with rfl | h
      · exact .inr (.inr ⟨y, List.mem_cons_self, he, rfl⟩)
      · exact .inl (List.mem_cons_of_mem _ h)
    · split at h
      · rcases List.mem_cons.1 h with rfl | h
        · exact .inr (.inl rfl)
        · exact .inl h
      · rcases List.mem_cons.1 h with rfl | h
        · exact .inl List.mem_cons_self
        · rcases mem_addF h with h | h | ⟨y', h1, h2⟩
          · exact .inl (List.mem_cons_of_mem _ h)
          · exact .inr (.inl h)
          · exact .inr (.inr ⟨y', List.mem_cons_of_mem _ h1, h2⟩)
theorem addF_srt {k : Int} {x : Fct} : ∀ {f : List Fct}, SrtF f → SrtF (addF k f x).1
  | [], _ => by rw [addF]; exact List.pairwise_singleton _ _
  | y :: r, hs => by
    obtain ⟨h1, h2⟩ := List.pairwise_cons.1 hs
    rw [addF]
    split
    · exact List.pairwise_cons.2 ⟨fun z hz => h1 z hz, h2⟩
    · rename_i he
      split
      · rename_i hlt
        refine List.pairwise_cons.2 ⟨fun z hz => ?_, hs⟩
        rcases List.mem_cons.1 hz with rfl | hz
        · exact hlt
        · exact Int.lt_trans hlt (h1 z hz)
      · rename_i hge
        refine List.pairwise_cons.2 ⟨fun z hz => ?_, addF_srt h2⟩
        rcases mem_addF hz with hz | rfl | ⟨y', hy', e, rfl⟩
        · exact h1 z hz
        · omega
        · show placeF y < placeF y'
          exact h1 y' hy'
theorem addF_chg {k : Int} {x : Fct} : ∀ {f : List Fct}, SrtF f → (addF k f x).2 = decide (lkF f (placeF x) ≠ some (newV k (lkF f (placeF x)) x))
  | [], _ => by simp [addF, lkF_nil, newV]
  | y :: r, hs => by
    obtain ⟨h1, h2⟩ := List.pairwise_cons.1 hs
    rw [addF, lkF_cons]
    split
    · simp [newV, eq_comm]
    · rename_i he
      split
      · rename_i hlt
        have : lkF r (placeF x) = none := lkF_none.2 fun z hz => by have := h1 z hz; omega
        rw [this]; simp
      · exact addF_chg h2
theorem addF_same {k : Int} {x : Fct} : ∀ {f : List Fct}, (addF k f x).2 = false → (addF k f x).1 = f
  | [], h => by simp [addF] at h
  | y :: r, h => by
    rw [addF] at h ⊢
    split
    · rename_i he
      rw [if_pos he] at h
      have : joinV k y.v x.v = y.v := by simpa using h
      show _ :: r = y :: r
      rw [this]
    · rename_i he
      rw [if_neg he] at h
      split
      · rename_i hlt; rw [if_pos hlt] at h; cases h
      · rename_i hlt
        rw [if_neg hlt] at h
        show y :: _ = y :: r
        rw [addF_same h]
theorem addF_fok {l : List Prd} {f : List Fct} {x : Fct} (h : FOk l f) (hx : factFine l x = true) : FOk l (addF (predOf l x.pred).kind f x).1 := by
  refine ⟨h.len, h.preds, fun z hz => ?_, addF_srt h.srt⟩
  rcases mem_addF hz with hz | rfl | ⟨y, hy, e, rfl⟩
  · exact h.fine z hz
  · exact hx
  · have hpy := (fine_pf h.len (h.fine y hy)).inj (fine_pf h.len hx) e
    have f1 := fine_iff.1 (h.fine y hy)
    have f2 := fine_iff.1 hx
    refine fine_iff.2 ⟨f1.1, f1.2.1, f1.2.2.1, f1.2.2.2.1, f1.2.2.2.2.1, ?_⟩
    show VOk (predOf l y.pred).kind _
    rw [hpy.1]
    exact joinV_ok (by have := f1.2.2.2.2.2; rwa [hpy.1] at this) f2.2.2.2.2.2
/-! ### Where a fact stands -/
def posF (f : List Fct) (x : Fct) : Nat := (f.takeWhile fun y => decide (placeF y < placeF x)).length
theorem posF_of {x : Fct} : ∀ {f : List Fct} {k : Nat}, k ≤ f.length → (∀ m, (h : m < f.length) → m < k → placeF f[m] < placeF x) → (∀ (h : k < f.length), ¬ placeF f[k] < placeF x) → posF f x = k
  | [], k, hk, _, _ => by simp at hk; subst hk; rfl
  | y :: r, 0, _, _, h2 => by
    have := h2 (by simp)
    simp only [List.getElem_cons_zero] at this
    simp [posF, this]
  | y :: r, k + 1, hk, h1, h2 => by
    have h0 := h1 0 (by simp) (by omega)
    simp only [List.getElem_cons_zero] at h0
    have := posF_of (f := r) (x := x) (k := k) (by simpa using hk) (fun m hm hmk => h1 (m + 1) (by simpa using hm) (by omega)) (fun hkl => h2 (by simpa using hkl))
    unfold posF at this ⊢
    rw [List.takeWhile_cons, if_pos (by simpa using h0), List.length_cons, this]
theorem posF_le {f : List Fct} {x : Fct} : posF f x ≤ f.length := by unfold posF; exact (List.takeWhile_sublist _).length_le
theorem posF_cons_lt {y x : Fct} {r : List Fct} (h : placeF y < placeF x) : posF (y :: r) x = posF r x + 1 := by
  unfold posF; rw [List.takeWhile_cons, if_pos (by simpa using h), List.length_cons]
theorem posF_cons_ge {y x : Fct} {r : List Fct} (h : ¬ placeF y < placeF x) : posF (y :: r) x = 0 := by
  unfold posF; rw [List.takeWhile_cons, if_neg (by simpa using h)]; rfl
/-- Is it there? -/
def isF (f : List Fct) (x : Fct) : Bool := (lkF f (placeF x)).isSome
theorem isF_iff {x : Fct} : ∀ {f : List Fct}, SrtF f → (isF f x = true ↔ ∃ h : posF f x < f.length, placeF f[posF f x] = placeF x)
  | [], _ => by simp [isF, lkF_nil]
  | y :: r, hs => by
    obtain ⟨h1, h2⟩ := List.pairwise_cons.1 hs
    unfold isF
    rw [lkF_cons]
    by_cases hlt : placeF y < placeF x
    · rw [if_neg (by omega)]
      have ih := isF_iff (x := x) h2
      unfold isF at ih
      rw [ih]
      simp only [posF_cons_lt hlt, List.length_cons, List.getElem_cons_succ]
      constructor
      · rintro ⟨a, b⟩; exact ⟨by omega, b⟩
      · rintro ⟨a, b⟩; exact ⟨by omega, b⟩
    · simp only [posF_cons_ge hlt, List.length_cons, List.getElem_cons_zero]
      by_cases he : placeF y = placeF x
      · rw [if_pos he]; simp [he]
      · rw [if_neg he]
        have : lkF r (placeF x) = none := lkF_none.2 fun z hz => by have := h1 z hz; omega
        rw [this]; simp [he]
theorem lkF_pos {f : List Fct} {x : Fct} (hs : SrtF f) (h : posF f x < f.length) (he : placeF f[posF f x] = placeF x) : lkF f (placeF x) = some f[posF f x].v :=
  (lkF_some hs).2 ⟨_, List.getElem_mem h, he, rfl⟩
theorem addF_new {k : Int} {x : Fct} : ∀ {f : List Fct}, SrtF f → isF f x = false → addF k f x = (f.take (posF f x) ++ x :: f.drop (posF f x), true)
  | [], _, _ => by simp [addF, posF]
  | y :: r, hs, hi => by
    obtain ⟨h1, h2⟩ := List.pairwise_cons.1 hs
    have hne : placeF y ≠ placeF x := fun e => by simp [isF, lkF_cons, e] at hi
    rw [addF, if_neg hne]
    by_cases hlt : placeF y < placeF x
    · rw [if_neg (by omega), posF_cons_lt hlt, addF_new h2 (by simpa [isF, lkF_cons, hne] using hi)]; rfl
    · rw [if_pos (by omega), posF_cons_ge hlt]; rfl
theorem addF_old {k : Int} {x : Fct} : ∀ {f : List Fct}, SrtF f → ∀ (h : posF f x < f.length), placeF f[posF f x] = placeF x →
    addF k f x = (f.set (posF f x) ⟨f[posF f x].pred, f[posF f x].a, f[posF f x].b, joinV k f[posF f x].v x.v⟩, decide (joinV k f[posF f x].v x.v ≠ f[posF f x].v))
  | [], _, h, _ => by simp at h
  | y :: r, hs, h, he => by
    obtain ⟨h1, h2⟩ := List.pairwise_cons.1 hs
    by_cases hlt : placeF y < placeF x
    · have e := posF_cons_lt (r := r) hlt
      simp only [e, List.length_cons, List.getElem_cons_succ] at h he ⊢
      rw [addF, if_neg (by omega), if_neg (by omega), addF_old h2 (by omega) he]
      simp
    · have e := posF_cons_ge (r := r) hlt
      simp only [e, List.getElem_cons_zero] at he ⊢
      rw [addF, if_pos he]
      simp
/-! ### Being under -/
def underF (l : List Prd) (f g : List Fct) : Bool := f.all fun x => (lkF g (placeF x)).isSome && decide (joinV (predOf l x.pred).kind x.v ((lkF g (placeF x)).getD 0) = (lkF g (placeF x)).getD 0)
def addOf (l : List Prd) (f : List Fct) (x : Fct) : List Fct × Bool × Int := if checkFacts l f ≠ 0 then ([], false, checkFacts l f) else if factFine l x then ((addF (predOf l x.pred).kind f x).1, (addF (predOf l x.pred).kind f x).2, 0) else ([], false, 1)
theorem underF_iff {l : List Prd} {f g : List Fct} : underF l f g = true ↔ ∀ x ∈ f, ∃ v, lkF g (placeF x) = some v ∧ LeV (predOf l x.pred).kind x.v v := by
  unfold underF
  rw [List.all_eq_true]
  refine forall_congr' fun x => imp_congr_right fun _ => ?_
  cases h : lkF g (placeF x) <;> simp [LeV]
end Go.TF
end
section
/- What holds of adding and being under: plain. -/
namespace Go.TF
open Go

theorem fine_v {l : List Prd} {x : Fct} (h : factFine l x = true) : VOk (predOf l x.pred).kind x.v := (fine_iff.1 h).2.2.2.2.2
theorem same_pred {l : List Prd} {x y : Fct} (hl : l.length ≤ 5) (hx : factFine l x = true) (hy : factFine l y = true) (h : placeF x = placeF y) : x.pred = y.pred := ((fine_pf hl hx).inj (fine_pf hl hy) h).1
theorem FOk.look {l : List Prd} {f : List Fct} (h : FOk l f) {x : Fct} (hx : factFine l x = true) {v : Int} (hv : lkF f (placeF x) = some v) : VOk (predOf l x.pred).kind v := by
  obtain ⟨y, hy, e, rfl⟩ := lkF_mem hv
  have := fine_v (h.fine y hy)
  rwa [same_pred h.len (h.fine y hy) hx e] at this
section
variable {l : List Prd} {f g : List Fct} {x y : Fct}
abbrev addL (l : List Prd) (f : List Fct) (x : Fct) : List Fct := (addF (predOf l x.pred).kind f x).1
theorem lkF_addL (h : FOk l f) (p : Int) : lkF (addL l f x) p = if p = placeF x then some (newV (predOf l x.pred).kind (lkF f p) x) else lkF f p := lkF_addF h.srt p
theorem FOk.ext (hf : FOk l f) (hg : FOk l g) (h : ∀ p, lkF f p = lkF g p) : f = g := lkF_ext hf.pf hg.pf hf.srt hg.srt h
theorem under_add (hf : FOk l f) (hx : factFine l x = true) : underF l f (addL l f x) = true := by
  refine underF_iff.2 fun z hz => ?_
  rw [lkF_addL hf]
  have hzf := hf.fine z hz
  split
  · rename_i e
    rw [lkF_of_mem hf.srt hz]
    refine ⟨_, rfl, ?_⟩
    have := same_pred hf.len hzf hx e
    rw [this]
    have hv := fine_v hzf
    rw [this] at hv
    exact leV_up hv (fine_v hx)
  · exact ⟨z.v, lkF_of_mem hf.srt hz, joinV_idem (fine_v hzf)⟩
theorem under_one (hf : FOk l f) (hx : factFine l x = true) : underF l [x] (addL l f x) = true := by
  refine underF_iff.2 fun z hz => ?_
  obtain rfl : z = x := by simpa using hz
  rw [lkF_addL hf, if_pos rfl]
  refine ⟨_, rfl, ?_⟩
  have hv := fine_v hx
  cases h : lkF f (placeF z) with
  | none => exact joinV_idem hv
  | some v =>
    have := hf.look hx h
    show joinV _ z.v (joinV _ v z.v) = joinV _ v z.v
    rw [joinV_comm this hv]
    exact leV_up hv this
theorem fok_one (hl : l.length ≤ 5) (hp : ∀ p ∈ l, predFine p = true) (hx : factFine l x = true) : FOk l [x] := ⟨hl, hp, fun z hz => by rw [List.mem_singleton.1 hz]; exact hx, List.pairwise_singleton _ _⟩
theorem add_chg (hf : FOk l f) : (addF (predOf l x.pred).kind f x).2 = decide (addL l f x ≠ f) := by
  cases h : (addF (predOf l x.pred).kind f x).2
  · rw [show addL l f x = f from addF_same h]; simp
  · symm; rw [decide_eq_true_eq]; intro e
    rw [addF_chg hf.srt, decide_eq_true_eq] at h
    have := lkF_addL (x := x) hf (placeF x)
    rw [if_pos rfl, e] at this
    exact h this
theorem under_refl (hf : FOk l f) : underF l f f = true := underF_iff.2 fun z hz => ⟨z.v, lkF_of_mem hf.srt hz, joinV_idem (fine_v (hf.fine z hz))⟩
theorem under_trans {k : List Fct} (hf : FOk l f) (hg : FOk l g) (hk : FOk l k) (h1 : underF l f g = true) (h2 : underF l g k = true) : underF l f k = true := underF_iff.2 fun z hz => by
  have hzf := hf.fine z hz
  obtain ⟨v, hv, l1⟩ := underF_iff.1 h1 z hz
  obtain ⟨z', hz', e, rfl⟩ := lkF_mem hv
  obtain ⟨u, hu, l2⟩ := underF_iff.1 h2 z' hz'
  have ep := same_pred hf.len (hg.fine z' hz') hzf e
  rw [e] at hu
  rw [ep] at l2
  have hv' := fine_v (hg.fine z' hz')
  rw [ep] at hv'
  exact ⟨u, hu, leV_trans (fine_v hzf) hv' (hk.look hzf hu) l1 l2⟩
theorem under_anti (hf : FOk l f) (hg : FOk l g) (h1 : underF l f g = true) (h2 : underF l g f = true) : f = g := by
  have key : ∀ {f g : List Fct}, FOk l f → FOk l g → underF l f g = true → underF l g f = true → ∀ p v, lkF f p = some v → lkF g p = some v := fun {f g} hf hg h1 h2 p v hv => by
    obtain ⟨z, hz, rfl, rfl⟩ := lkF_mem hv
    obtain ⟨u, hu, l1⟩ := underF_iff.1 h1 z hz
    obtain ⟨z', hz', e, rfl⟩ := lkF_mem hu
    obtain ⟨t, ht, l2⟩ := underF_iff.1 h2 z' hz'
    rw [e, hv] at ht
    cases ht
    have ep := same_pred hf.len (hg.fine z' hz') (hf.fine z hz) e
    rw [ep] at l2
    have hv' := fine_v (hg.fine z' hz')
    rw [ep] at hv'
    rw [hu, leV_antisymm (fine_v (hf.fine z hz)) hv' l1 l2]
  refine hf.ext hg fun p => ?_
  cases h : lkF f p with
  | some v => exact (key hf hg h1 h2 p v h).symm
  | none =>
    cases h' : lkF g p with
    | none => rfl
    | some v => rw [key hg hf h2 h1 p v h'] at h; cases h
end
end Go.TF
end
section
/- Strata and needs: plain. -/
namespace Go.TF
open Go

/-- What a program's rules use: which predicate's rule uses which literal. -/
def usesL (rs : List Rul) : List (Int × Ltl) := rs.flatMap fun r => r.body.xs.map fun x => (r.head.pred, x)
def lv (L : List Int) (i : Int) : Int := L.getD i.toNat 0
def ng (x : Ltl) : Int := if x.neg then 1 else 0
def lst (L : List Int) (c : Int × Ltl) : Int := lv L c.2.atom.pred + ng c.2
def SatC (L : List Int) (c : Int × Ltl) : Prop := lst L c ≤ lv L c.1
structure InR (cs : List (Int × Ltl)) (n : Nat) : Prop where
  h : ∀ c ∈ cs, 0 ≤ c.1 ∧ c.1 < n
  b : ∀ c ∈ cs, 0 ≤ c.2.atom.pred ∧ c.2.atom.pred < n
structure Sol (cs : List (Int × Ltl)) (n : Nat) (L : List Int) : Prop where
  len : L.length = n
  pos : ∀ i, 0 ≤ lv L i
  sat : ∀ c ∈ cs, SatC L c
structure Least (cs : List (Int × Ltl)) (n : Nat) (L : List Int) : Prop where
  sol : Sol cs n L
  least : ∀ M, Sol cs n M → ∀ i, lv L i ≤ lv M i
def StrataR (cs : List (Int × Ltl)) (n : Nat) : Option (List Int) → Prop
  | some L => Least cs n L
  | none => ∀ M, ¬ Sol cs n M
theorem lv_get {L : List Int} {i : Nat} (h : i < L.length) : lv L i = L[i] := by simp [lv, List.getD_eq_getElem?_getD, h]
theorem lv_ext {L M : List Int} (hl : L.length = M.length) (h : ∀ i, lv L i = lv M i) : L = M := by
  apply List.ext_getElem hl
  intro i h1 h2
  have := h i
  rwa [lv_get h1, lv_get h2] at this
theorem StrataR.uniq {cs : List (Int × Ltl)} {n : Nat} : ∀ {r r' : Option (List Int)}, StrataR cs n r → StrataR cs n r' → r = r'
  | none, none, _, _ => rfl
  | none, some L, h, h' => (h L h'.sol).elim
  | some L, none, h, h' => (h' L h.sol).elim
  | some L, some M, h, h' => by
    congr 1
    exact lv_ext (h.sol.len.trans h'.sol.len.symm) fun i => Int.le_antisymm (h.least M h'.sol i) (h'.least L h.sol i)
theorem ng_le (x : Ltl) : 0 ≤ ng x ∧ ng x ≤ 1 := by unfold ng; split <;> omega
theorem lv_set {L : List Int} {i : Int} (h0 : 0 ≤ i) (h1 : i < L.length) (v j : Int) (hj : 0 ≤ j) : lv (L.set i.toNat v) j = if j = i then v else lv L j := by
  simp only [lv, List.getD_eq_getElem?_getD, List.getElem?_set]
  by_cases e : j = i
  · subst e; simp [show j.toNat < L.length by omega]
  · rw [if_neg e, if_neg (by omega)]
theorem lv_neg (L : List Int) {j : Int} (hj : j < 0) : lv L j = lv L 0 := by simp [lv, show j.toNat = 0 by omega]
theorem lv_zero (n : Nat) (i : Int) : lv (List.replicate n 0) i = 0 := by
  simp only [lv, List.getD_eq_getElem?_getD, List.getElem?_replicate]; split <;> rfl

/-- How many are less. -/
def rank (M : List Int) (v : Int) : Int := (M.countP fun u => decide (u < v) : Nat)
theorem countP_lt {M : List Int} {u v : Int} (huv : u < v) {i : Nat} (hi : i < M.length) (he : M[i] = u) : (M.countP fun x => decide (x < u)) < M.countP fun x => decide (x < v) := by
  induction M generalizing i with
  | nil => simp at hi
  | cons a M ih =>
    have mono : ∀ l : List Int, (l.countP fun x => decide (x < u)) ≤ l.countP fun x => decide (x < v) := fun l => List.countP_mono_left (fun x _ hx => by simp at hx ⊢; omega)
    cases i with
    | zero =>
      simp at he; subst he
      have := mono M
      simp [huv]; omega
    | succ i =>
      have := ih (by simpa using hi) (by simpa using he)
      simp only [List.countP_cons]
      have h2 : (if decide (a < u) = true then 1 else 0) ≤ (if decide (a < v) = true then 1 else 0) := by
        by_cases h : a < u
        · simp [h, show a < v by omega]
        · simp [h]
      omega
theorem countP_self_lt {M : List Int} {u : Int} {i : Nat} (hi : i < M.length) (he : M[i] = u) : (M.countP fun x => decide (x < u)) < M.length := by
  have h1 : (M.countP fun x => decide (x < u)) ≤ M.length := List.countP_le_length
  rcases Nat.lt_or_ge (M.countP fun x => decide (x < u)) M.length with h | h
  · exact h
  · have h2 : (M.countP fun x => decide (x < u)) = M.length := by omega
    rw [List.countP_eq_length] at h2
    have := h2 M[i] (List.getElem_mem hi)
    simp [he] at this
/-- If there are strata at all, there are such that are less than the number of predicates. -/
theorem Sol.small {cs : List (Int × Ltl)} {n : Nat} {M : List Int} (hr : InR cs n) (h : Sol cs n M) : ∃ M', Sol cs n M' ∧ ∀ i : Int, 0 ≤ i → i < n → lv M' i < n := by
  have hlv : ∀ i : Int, 0 ≤ i → i < n → lv (M.map (rank M)) i = rank M (lv M i) := fun i h0 h1 => by
    have : i.toNat < M.length := by rw [h.len]; omega
    simp [lv, List.getD_eq_getElem?_getD, this]
  refine ⟨M.map (rank M), ⟨by simp [h.len], fun i => ?_, fun c hc => ?_⟩, fun i h0 h1 => ?_⟩
  · simp only [lv, List.getD_eq_getElem?_getD, List.getElem?_map]
    cases M[i.toNat]? with
    | none => simp
    | some v => simp [rank]
  · have hh := hr.h c hc
    have hb := hr.b c hc
    have hs := h.sat c hc
    unfold SatC lst at hs ⊢
    rw [hlv _ hh.1 hh.2, hlv _ hb.1 hb.2]
    have hbl : c.2.atom.pred.toNat < M.length := by rw [h.len]; omega
    have hbe : M[c.2.atom.pred.toNat] = lv M c.2.atom.pred := by simp [lv, List.getD_eq_getElem?_getD, hbl]
    by_cases hlt : lv M c.2.atom.pred < lv M c.1
    · have := countP_lt hlt hbl hbe
      have := ng_le c.2
      simp only [rank]; omega
    · have hz : ng c.2 = 0 := by have := ng_le c.2; omega
      have he : lv M c.2.atom.pred = lv M c.1 := by omega
      rw [he, hz]; omega
  · rw [hlv i h0 h1]
    have hil : i.toNat < M.length := by rw [h.len]; omega
    have hie : M[i.toNat] = lv M i := by simp [lv, List.getD_eq_getElem?_getD, hil]
    have := countP_self_lt hil hie
    rw [h.len] at this
    simp only [rank]; omega

/-- On the way: not above any strata that there are. -/
structure Good (cs : List (Int × Ltl)) (n : Nat) (L : List Int) : Prop where
  len : L.length = n
  pos : ∀ i, 0 ≤ lv L i
  le : ∀ M, Sol cs n M → ∀ i, lv L i ≤ lv M i
theorem Good.zero (cs : List (Int × Ltl)) (n : Nat) : Good cs n (List.replicate n 0) :=
  ⟨by simp, fun i => by rw [lv_zero]; omega, fun M hM i => by rw [lv_zero]; exact hM.pos i⟩
theorem Good.raise {cs : List (Int × Ltl)} {n : Nat} {L : List Int} (hr : InR cs n) (g : Good cs n L) {c : Int × Ltl} (hc : c ∈ cs) : Good cs n (L.set c.1.toNat (lst L c)) := by
  have hh := hr.h c hc
  have hb := hr.b c hc
  have hl : c.1 < L.length := by rw [g.len]; exact hh.2
  refine ⟨by simp [g.len], fun i => ?_, fun M hM i => ?_⟩
  · by_cases hi : 0 ≤ i
    · rw [lv_set hh.1 hl _ _ hi]; split
      · have := g.pos c.2.atom.pred; have := ng_le c.2; unfold lst; omega
      · exact g.pos i
    · rw [lv_neg _ (by omega), lv_set hh.1 hl _ _ (Int.le_refl 0)]; split
      · have := g.pos c.2.atom.pred; have := ng_le c.2; unfold lst; omega
      · exact g.pos 0
  · have key : ∀ i, 0 ≤ i → lv (L.set c.1.toNat (lst L c)) i ≤ lv M i := fun i hi => by
      rw [lv_set hh.1 hl _ _ hi]; split
      · rename_i e; subst e
        have h1 := hM.sat c hc
        have h2 := g.le M hM c.2.atom.pred
        unfold SatC at h1; unfold lst at h1 ⊢; omega
      · exact g.le M hM i
    by_cases hi : 0 ≤ i
    · exact key i hi
    · rw [lv_neg _ (by omega), lv_neg M (by omega)]; exact key 0 (Int.le_refl 0)
theorem Good.done {cs : List (Int × Ltl)} {n : Nat} {L : List Int} (g : Good cs n L) (h : ∀ c ∈ cs, SatC L c) : StrataR cs n (some L) := ⟨⟨g.len, g.pos, h⟩, g.le⟩
theorem Good.fail {cs : List (Int × Ltl)} {n : Nat} {L : List Int} (hr : InR cs n) (g : Good cs n L) {c : Int × Ltl} (hc : c ∈ cs) (hn : n ≤ lst L c) : StrataR cs n none := fun M hM => by
  obtain ⟨M', hM', hlt⟩ := hM.small hr
  have hh := hr.h c hc
  have h1 := hM'.sat c hc
  have h2 := g.le M' hM' c.2.atom.pred
  have h3 := hlt c.1 hh.1 hh.2
  unfold SatC at h1; unfold lst at h1 hn; omega
theorem Good.lt {cs : List (Int × Ltl)} {n : Nat} {L : List Int} (hr : InR cs n) (g : Good cs n L) (hs : ∃ M, Sol cs n M) {i : Int} (h0 : 0 ≤ i) (h1 : i < n) : lv L i < n := by
  obtain ⟨M, hM⟩ := hs
  obtain ⟨M', hM', hlt⟩ := hM.small hr
  exact Int.lt_of_le_of_lt (g.le M' hM' i) (hlt i h0 h1)
/-- How much can be raised still. -/
def pot (n : Nat) (L : List Int) : Nat := (L.map fun v => ((n : Int) - v).toNat).sum
theorem sum_set_lt : ∀ (l : List Nat) (i : Nat) (y : Nat) (h : i < l.length), y < l[i] → (l.set i y).sum < l.sum
  | a :: l, 0, y, _, hy => by simp at hy ⊢; omega
  | a :: l, i + 1, y, h, hy => by
    have := sum_set_lt l i y (by simpa using h) (by simpa using hy)
    simp only [List.set_cons_succ, List.sum_cons]; omega
theorem pot_set_lt {n : Nat} {L : List Int} {i : Int} {v : Int} (h0 : 0 ≤ i) (h1 : i < L.length) (hv : lv L i < v) (hn : lv L i < n) : pot n (L.set i.toNat v) < pot n L := by
  have hi : i.toNat < L.length := by omega
  have he : L[i.toNat] = lv L i := by simp [lv, List.getD_eq_getElem?_getD, hi]
  unfold pot
  rw [List.map_set]
  refine sum_set_lt _ _ _ (by simpa using hi) ?_
  rw [List.getElem_map, he]; omega
theorem pot_zero (n : Nat) : pot n (List.replicate n 0) = n * n := by
  unfold pot
  rw [List.map_replicate]
  simp

/-- Within one pass over all uses. -/
structure Pass (cs : List (Int × Ltl)) (n : Nat) (L : List Int) (same : Bool) (L' : List Int) (done : List (Int × Ltl)) : Prop where
  good : Good cs n L'
  t : same = true → L' = L ∧ ∀ c ∈ done, SatC L c
  f : same = false → (∃ M, Sol cs n M) → pot n L' + 1 ≤ pot n L
theorem Pass.start {cs : List (Int × Ltl)} {n : Nat} {L : List Int} (g : Good cs n L) : Pass cs n L true L [] := ⟨g, fun _ => ⟨rfl, by simp⟩, fun h => by cases h⟩
theorem Pass.keep {cs : List (Int × Ltl)} {n : Nat} {L L' : List Int} {same : Bool} {done : List (Int × Ltl)} (x : Pass cs n L same L' done) {c : Int × Ltl} (h : ¬ lv L' c.1 < lst L' c) : Pass cs n L same L' (done ++ [c]) :=
  ⟨x.good, fun hs => ⟨(x.t hs).1, fun d hd => by
    rcases List.mem_append.1 hd with h1 | h1
    · exact (x.t hs).2 d h1
    · rw [List.mem_singleton.1 h1]
      have := (x.t hs).1
      subst this
      unfold SatC; omega⟩, x.f⟩
theorem Pass.raise {cs : List (Int × Ltl)} {n : Nat} {L L' : List Int} {same : Bool} {done : List (Int × Ltl)} (hr : InR cs n) (x : Pass cs n L same L' done) {c : Int × Ltl} (hc : c ∈ cs) (h : lv L' c.1 < lst L' c) : Pass cs n L false (L'.set c.1.toNat (lst L' c)) (done ++ [c]) := by
  have hh := hr.h c hc
  refine ⟨x.good.raise hr hc, (fun h => by cases h), fun _ hs => ?_⟩
  have h1 := pot_set_lt (n := n) hh.1 (by rw [x.good.len]; exact hh.2) h (x.good.lt hr hs hh.1 hh.2)
  cases hsm : same
  · have := x.f hsm hs; omega
  · have := (x.t hsm).1; subst this; omega
theorem bound_raise {cs : List (Int × Ltl)} {n : Nat} {L : List Int} {t : Int} (hr : InR cs n) (hl : L.length = n) (hb : ∀ i, lv L i ≤ t) {c : Int × Ltl} (hc : c ∈ cs) : ∀ i, lv (L.set c.1.toNat (lst L c)) i ≤ t + 1 := fun i => by
  have hh := hr.h c hc
  have h1 := hb c.2.atom.pred
  have h2 := ng_le c.2
  have key : ∀ i, 0 ≤ i → lv (L.set c.1.toNat (lst L c)) i ≤ t + 1 := fun i h0 => by
    rw [lv_set hh.1 (by rw [hl]; exact hh.2) _ _ h0]; split
    · unfold lst; omega
    · have := hb i; omega
  by_cases h0 : 0 ≤ i
  · exact key i h0
  · rw [lv_neg _ (by omega)]; exact key 0 (Int.le_refl 0)
/-! ### Needs -/
def Uses (cs : List (Int × Ltl)) (a b : Int) : Prop := ∃ c ∈ cs, c.1 = a ∧ c.2.atom.pred = b
inductive Reach (cs : List (Int × Ltl)) (a : Int) : Int → Prop
  | refl : Reach cs a a
  | step {b c : Int} : Reach cs a b → Uses cs b c → Reach cs a c
def bv (N : List Bool) (i : Int) : Bool := N.getD i.toNat false
structure NeedsR (cs : List (Int × Ltl)) (n : Nat) (p : Int) (N : List Bool) : Prop where
  len : N.length = n
  iff : ∀ i : Int, 0 ≤ i → i < n → (bv N i = true ↔ Reach cs p i)
theorem NeedsR.uniq {cs : List (Int × Ltl)} {n : Nat} {p : Int} {N N' : List Bool} (h : NeedsR cs n p N) (h' : NeedsR cs n p N') : N = N' := by
  apply List.ext_getElem (h.len.trans h'.len.symm)
  intro i h1 h2
  have a := h.iff i (by omega) (by have := h.len; omega)
  have b := h'.iff i (by omega) (by have := h.len; omega)
  have e1 : bv N i = N[i] := by simp [bv, List.getD_eq_getElem?_getD, h1]
  have e2 : bv N' i = N'[i] := by simp [bv, List.getD_eq_getElem?_getD, h2]
  rw [e1] at a; rw [e2] at b
  cases hx : N[i] <;> cases hy : N'[i] <;> simp_all
theorem bv_set {N : List Bool} {i : Int} (h0 : 0 ≤ i) (h1 : i < N.length) (v : Bool) (j : Int) (hj : 0 ≤ j) : bv (N.set i.toNat v) j = if j = i then v else bv N j := by
  simp only [bv, List.getD_eq_getElem?_getD, List.getElem?_set]
  by_cases e : j = i
  · subst e; simp [show j.toNat < N.length by omega]
  · rw [if_neg e, if_neg (by omega)]
def ClosedN (cs : List (Int × Ltl)) (N : List Bool) : Prop := ∀ c ∈ cs, bv N c.1 = true → bv N c.2.atom.pred = true
theorem NeedsR.of {cs : List (Int × Ltl)} {n : Nat} {p : Int} {N : List Bool} (hl : N.length = n) (hs : ∀ i : Int, 0 ≤ i → i < n → bv N i = true → Reach cs p i) (hp : bv N p = true) (hc : ClosedN cs N) : NeedsR cs n p N := by
  refine ⟨hl, fun i h0 h1 => ⟨hs i h0 h1, fun h => ?_⟩⟩
  clear h0 h1
  induction h with
  | refl => exact hp
  | step _ hu ih => obtain ⟨c, hc1, rfl, rfl⟩ := hu; exact hc c hc1 ih
def trues (N : List Bool) : Nat := N.countP id
theorem trues_set : ∀ (N : List Bool) (i : Nat) (h : i < N.length), N[i] = false → trues (N.set i true) = trues N + 1
  | a :: N, 0, _, hf => by simp at hf; subst hf; simp [trues]
  | a :: N, i + 1, h, hf => by
    have := trues_set N i (by simpa using h) (by simpa using hf)
    unfold trues at this ⊢
    simp only [List.set_cons_succ, List.countP_cons, this]; omega
theorem set_same : ∀ (N : List Bool) (i : Nat) (h : i < N.length), N[i] = true → N.set i true = N
  | a :: N, 0, _, hf => by simp at hf; subst hf; rfl
  | a :: N, i + 1, h, hf => by simp [set_same N i (by simpa using h) (by simpa using hf)]
/-- Within one pass over all uses. -/
structure PassN (cs : List (Int × Ltl)) (n : Nat) (p : Int) (N N1 : List Bool) (done : List (Int × Ltl)) : Prop where
  len : N1.length = n
  snd : ∀ i : Int, 0 ≤ i → i < n → bv N1 i = true → Reach cs p i
  has : bv N1 p = true
  or : (N1 = N ∧ ∀ c ∈ done, bv N c.1 = true → bv N c.2.atom.pred = true) ∨ trues N < trues N1
  closed : ClosedN cs N → N1 = N
theorem PassN.skip {cs : List (Int × Ltl)} {n : Nat} {p : Int} {N N1 : List Bool} {done more : List (Int × Ltl)} (x : PassN cs n p N N1 done) (h : ∀ c ∈ more, bv N1 c.1 = false) : PassN cs n p N N1 (done ++ more) :=
  ⟨x.len, x.snd, x.has, x.or.imp (fun ⟨e, hd⟩ => ⟨e, fun c hc => by
    rcases List.mem_append.1 hc with h1 | h1
    · exact hd c h1
    · intro ht; rw [← e, h c h1] at ht; cases ht⟩) id, x.closed⟩
theorem PassN.put {cs : List (Int × Ltl)} {n : Nat} {p : Int} {N N1 : List Bool} {done : List (Int × Ltl)} (hr : InR cs n) (hp : 0 ≤ p) (x : PassN cs n p N N1 done) {c : Int × Ltl} (hc : c ∈ cs) (ht : bv N1 c.1 = true) : PassN cs n p N (N1.set c.2.atom.pred.toNat true) (done ++ [c]) := by
  have hh := hr.h c hc
  have hb := hr.b c hc
  have hl : c.2.atom.pred < N1.length := by rw [x.len]; exact hb.2
  have hi : c.2.atom.pred.toNat < N1.length := by omega
  have hrc : Reach cs p c.2.atom.pred := .step (x.snd _ hh.1 hh.2 ht) ⟨c, hc, rfl, rfl⟩
  have he : N1[c.2.atom.pred.toNat] = bv N1 c.2.atom.pred := by simp [bv, List.getD_eq_getElem?_getD, hi]
  by_cases hq : bv N1 c.2.atom.pred = true
  · rw [set_same N1 _ hi (by rw [he]; exact hq)]
    exact ⟨x.len, x.snd, x.has, x.or.imp (fun ⟨e, hd⟩ => ⟨e, fun d hd' => by
      rcases List.mem_append.1 hd' with h1 | h1
      · exact hd d h1
      · rw [List.mem_singleton.1 h1]; intro _; rw [← e]; exact hq⟩) id, x.closed⟩
  · have hq' : bv N1 c.2.atom.pred = false := by simpa using hq
    have htr := trues_set N1 _ hi (by rw [he]; exact hq')
    refine ⟨by simp [x.len], fun i h0 h1 h => ?_, ?_, .inr ?_, fun hcl => ?_⟩
    · rw [bv_set hb.1 hl _ _ h0] at h
      split at h
      · rename_i e; rw [e]; exact hrc
      · exact x.snd i h0 h1 h
    · rw [bv_set hb.1 hl _ _ hp]; split
      · rfl
      · exact x.has
    · rcases x.or with ⟨e, _⟩ | h
      · subst e; omega
      · omega
    · have e := x.closed hcl
      subst e
      exact absurd (hcl c hc ht) hq
/-! ### Names -/
def lowB (b : UInt8) : Bool := decide (97 ≤ b.toNat) && decide (b.toNat ≤ 122)
def isName (s : ByteArray) : Bool := decide (1 ≤ s.size) && decide (s.size ≤ 8) && s.data.toList.all lowB
/-! ### Programs -/
def rulesErr (l : List Prd) : List Rul → Int
  | [] => 0
  | r :: rs => if checkRule l r ≠ 0 then checkRule l r else rulesErr l rs
theorem rulesErr_zero {l : List Prd} {rs : List Rul} : rulesErr l rs = 0 ↔ ∀ r ∈ rs, checkRule l r = 0 := by
  induction rs with
  | nil => simp [rulesErr]
  | cons x r ih =>
    simp only [rulesErr, List.mem_cons, forall_eq_or_imp]
    by_cases h : checkRule l x = 0
    · simp [h, ih]
    · simp [h]
theorem rulesErr_at {l : List Prd} {b : List Rul} {k : Nat} (hk : k < b.length) (h1 : ∀ j, j < k → ∀ hj' : j < b.length, checkRule l b[j] = 0) (h2 : checkRule l b[k] ≠ 0) : rulesErr l b = checkRule l b[k] := by
  induction b generalizing k with
  | nil => simp at hk
  | cons x r ih =>
    cases k with
    | zero => simp only [List.getElem_cons_zero] at h2 ⊢; simp [rulesErr, h2]
    | succ k =>
      have h0 := h1 0 (by omega) (by simp)
      simp only [List.getElem_cons_zero] at h0
      simp only [rulesErr, h0, List.getElem_cons_succ]
      simp only [List.getElem_cons_succ] at h2
      exact ih (by simpa using hk) (fun j _ hj' => by have := h1 (j + 1) (by omega) (by simpa using hj'); simpa using this) h2
/-- Does a name stand there twice? -/
def early (l : List Prd) (k : Nat) : Bool := (l.take k).any fun y => decide (y.name = (l.getD k default).name)
def twice (l : List Prd) : Bool := (List.range l.length).any (early l)
def badArity (x : Prd) : Bool := decide (x.arity < 0 ∨ 2 < x.arity)
def badKind (x : Prd) : Bool := decide (x.kind < 0 ∨ 3 < x.kind)
open Classical in
noncomputable def checkProg (p : Prg) : Int :=
  if 5 < p.preds.xs.length ∨ 8 < p.rules.xs.length then 2
  else if p.preds.xs.any (fun x => !isName x.name) then 5
  else if twice p.preds.xs then 6
  else if p.preds.xs.any badArity then 3
  else if p.preds.xs.any badKind then 4
  else if rulesErr p.preds.xs p.rules.xs ≠ 0 then rulesErr p.preds.xs p.rules.xs
  else if ∃ M, Sol (usesL p.rules.xs) p.preds.xs.length M then 0 else 8
theorem checkRule_ok {l : List Prd} {r : Rul} (h : checkRule l r = 0) : checkAtom l r.head = 0 ∧ r.body.xs.length ≤ 3 ∧ ∀ x ∈ r.body.xs, checkAtom l x.atom = 0 := by
  unfold checkRule at h
  split at h
  · rename_i h1; exact absurd h h1
  split at h
  · cases h
  split at h
  · rename_i h1; exact absurd h h1
  rename_i h1 h2 h3
  exact ⟨Decidable.not_not.1 h1, by omega, bodyErr_ne.1 (Decidable.not_not.1 h3)⟩
theorem checkAtom_in' {l : List Prd} {a : Atm} (h : checkAtom l a = 0) : 0 ≤ a.pred ∧ a.pred < l.length := by
  unfold checkAtom at h
  split at h
  · cases h
  · omega
theorem inR_of {l : List Prd} {rs : List Rul} (h : rulesErr l rs = 0) : InR (usesL rs) l.length := by
  have key : ∀ c ∈ usesL rs, ∃ r ∈ rs, ∃ x ∈ r.body.xs, c = (r.head.pred, x) := fun c hc => by
    unfold usesL at hc
    obtain ⟨r, hr, hc⟩ := List.mem_flatMap.1 hc
    obtain ⟨x, hx, rfl⟩ := List.mem_map.1 hc
    exact ⟨r, hr, x, hx, rfl⟩
  refine ⟨fun c hc => ?_, fun c hc => ?_⟩ <;> obtain ⟨r, hr, x, hx, rfl⟩ := key c hc <;> have h1 := checkRule_ok (rulesErr_zero.1 h r hr)
  · exact checkAtom_in' h1.1
  · exact checkAtom_in' (h1.2.2 x hx)
theorem checkProg_ok {p : Prg} (h : checkProg p = 0) : p.preds.xs.length ≤ 5 ∧ p.rules.xs.length ≤ 8 ∧ rulesErr p.preds.xs p.rules.xs = 0 ∧ ∃ M, Sol (usesL p.rules.xs) p.preds.xs.length M := by
  unfold checkProg at h
  split at h
  · cases h
  split at h
  · cases h
  split at h
  · cases h
  split at h
  · cases h
  split at h
  · cases h
  split at h
  · rename_i h1; exact absurd h h1
  split at h
  · rename_i h1 _ _ _ _ h2 h3
    exact ⟨by omega, by omega, Decidable.not_not.1 h2, h3⟩
  · cases h
def Prg.Nm (p : Prg) : Prop := ∀ x ∈ p.preds.xs, x.name.size ≤ 140737488355328
end Go.TF
end
