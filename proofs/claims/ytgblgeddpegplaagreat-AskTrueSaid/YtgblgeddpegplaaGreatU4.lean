/- Texts Base12 Base13 Sls Base14 Base15 Bas1 Bas2. -/
import Derived.Test.YtgblgeddpegplaaGreatU3
import Derived.Test.YtgblgeddpegplaaGreatU2
import Derived.Lib.AppendZeros
import Derived.Lib.AppendZerosOnto
import Derived.Lib.Overlaps
section
/- Maps from string to int that the call makes. -/
namespace Go.TF
open Go Go.RowKit

theorem beq_bytes (a b : ByteArray) : (a == b) = decide (a = b) := by
  rw [beq_toListBytes, ByteArray.toList_eq, ByteArray.toList_eq]
  by_cases h : a = b
  · subst h; simp
  · rw [decide_eq_false h, beq_eq_false_iff_ne]
    intro e
    exact h (by obtain ⟨⟨x⟩⟩ := a; obtain ⟨⟨y⟩⟩ := b; simp at e; subst e; rfl)
def sV (p : ByteArray × Int) : Value × Value := (.string p.1, .int .i64 p.2)
def EntsS (ents : List MapEntry) (es : List (ByteArray × Int)) : Prop := ents.map (fun e => (e.key, e.val)) = es.map sV
def slook : List (ByteArray × Int) → ByteArray → Option Int
  | [], _ => none
  | (k, v) :: r, x => if x = k then some v else slook r x
def sset : List (ByteArray × Int) → ByteArray → Int → List (ByteArray × Int)
  | [], x, v => [(x, v)]
  | (k, w) :: r, x, v => if x = k then (x, v) :: r else (k, w) :: sset r x v
theorem slook_sset (es : List (ByteArray × Int)) (x y : ByteArray) (v : Int) : slook (sset es x v) y = if y = x then some v else slook es y := by
  induction es with
  | nil => simp [sset, slook]
  | cons p r ih =>
    obtain ⟨k, w⟩ := p
    simp only [sset]
    split
    · rename_i h; subst h; simp only [slook]; split <;> simp_all
    · rename_i h; simp only [slook, ih]; split <;> split <;> simp_all
theorem findNowS_none {x : ByteArray} : ∀ (ents : List MapEntry) (es : List (ByteArray × Int)) (i : Nat), EntsS ents es → slook es x = none → Instr.findNow .string (.string x) ents i = some none
  | [], _, _, _, _ => rfl
  | e :: r, [], _, h, _ => by simp [EntsS] at h
  | e :: r, (a, b) :: s, i, h, hl => by
    simp only [EntsS, List.map_cons, List.cons.injEq] at h
    simp only [slook] at hl
    split at hl
    · cases hl
    · rename_i hx
      have h1 : e.key = .string a := (Prod.mk.inj h.1).1
      have : (x == a) = false := by rw [beq_bytes]; simpa using hx
      simp only [Instr.findNow, h1, Instr.sameNow, this]
      exact findNowS_none r s (i + 1) h.2 hl
theorem findNowS_some {x : ByteArray} {v : Int} : ∀ (ents : List MapEntry) (es : List (ByteArray × Int)) (i : Nat), EntsS ents es → slook es x = some v →
    ∃ j, j < ents.length ∧ Instr.findNow .string (.string x) ents i = some (some (i + j, .int .i64 v)) ∧ ((ents[j]?).map (·.key)) = some (.string x) ∧ ∀ v', EntsS (ents.modify j fun e => { e with key := .string x, val := .int .i64 v' }) (sset es x v')
  | [], [], _, _, hl => by simp [slook] at hl
  | [], _ :: _, _, h, _ => by simp [EntsS] at h
  | e :: r, [], _, h, _ => by simp [EntsS] at h
  | e :: r, (a, b) :: s, i, h, hl => by
    simp only [EntsS, List.map_cons, List.cons.injEq] at h
    have h1 : e.key = .string a := (Prod.mk.inj h.1).1
    have h2 : e.val = .int .i64 b := (Prod.mk.inj h.1).2
    simp only [slook] at hl
    split at hl
    · rename_i hx
      subst hx
      cases hl
      refine ⟨0, by simp, by simp [Instr.findNow, h1, Instr.sameNow, h2, beq_bytes], by simp [h1], fun v' => ?_⟩
      simp [EntsS, sset, sV]
      exact h.2
    · rename_i hx
      obtain ⟨j, hj, hf, hk, hm⟩ := findNowS_some r s (i + 1) h.2 hl
      refine ⟨j + 1, by simpa using hj, ?_, by simpa using hk, fun v' => ?_⟩
      · have : (x == a) = false := by rw [beq_bytes]; simpa using hx
        simp only [Instr.findNow, h1, Instr.sameNow, this, hf]
        rw [show i + (j + 1) = i + 1 + j by omega]
      · simp only [EntsS, List.modify_succ_cons, sset, if_neg hx, List.map_cons, List.cons.injEq]
        exact ⟨h.1, hm v'⟩
theorem checkKey_str {P : Program} {w : World} {em : Bool} {n : Nat} {T : TypeId} {x : ByteArray} (hT : Und P T .string) : (Instr.checkKey em (n + 1) T (.string x)).run P w = .ok () w := by
  simp [Instr.checkKey, run_underlying hT]

structure SMap (ents : List MapEntry) (clock : Nat) (es : List (ByteArray × Int)) : Prop where
  is : EntsS ents es
  nodup : (ents.map (·.born)).Nodup
  lt : ∀ e ∈ ents, e.born < clock
def smap (b : Nat) (es : List (ByteArray × Int)) : SA where
  fp := [b]
  P := fun w => ∃ ents clock, w.heap[b]? = some (.map ents.toArray clock) ∧ SMap ents clock es
  loc := by
    intro w w' h hp
    obtain ⟨ents, clock, h1, h2⟩ := hp
    exact ⟨ents, clock, (h b (by simp)).trans h1, h2⟩
section
variable {P : Program} {e : Env} {w : World} {B : Base} {h : Heap} {M : List SA} {t : TypeId} {pos : String} {af : Array Edge} {g : Option (Nat × Bool)} {d : Option Nat} {K : Value → World → Prop}
theorem O.mkmaps {T : TypeId} (I : Inv B h M w) (k : ∀ b w', Inv B h (smap b [] :: M) w' → K (.map (some b)) w') : Op1 P ⟨d, .makeMap T none, t, pos, af, g⟩ e w K := by
  have : (execOp (ev e) ⟨d, .makeMap T none, t, pos, af, g⟩).run P w = .ok (.value (.map (some w.heap.size))) (w.alloc (.map #[] 0)) := by
    simp [execOp, Instr.makeMap]
  unfold Op1
  rw [this]
  refine k _ _ (I.gain (Grow.alloc w _) ⟨[], 0, heap_alloc_new w _, rfl, List.Pairwise.nil, fun _ h => by cases h⟩ (fun b hb => ?_))
  simp [smap] at hb; subst hb; simp
theorem lookupS_run {T Kt Vt : TypeId} {m : Nat} {ents : List MapEntry} {clock : Nat} {es : List (ByteArray × Int)} {x : ByteArray} (hT : Und P T (.map Kt Vt)) (hK : Und P Kt .string) (hz : Zero P Vt (.int .i64 0)) (hm : w.heap[m]? = some (.map ents.toArray clock)) (hi : EntsS ents es) :
    (Instr.lookup T (.map (some m)) (.string x) false).run P w = .ok (.int .i64 ((slook es x).getD 0)) w := by
  have hg : (getObj m).run P w = .ok (.map ents.toArray clock) w := getObj_run hm (by intro c t f h; cases h)
  have hck : ∀ em, (Instr.checkKey em 10000 Kt (.string x)).run P w = .ok () w := fun em => checkKey_str (n := 9999) hK
  cases hl : slook es x with
  | none =>
    have hf := findNowS_none ents es 0 hi hl
    simp [Instr.lookup, run_underlying hT, hg, hck, Instr.findKey, run_underlying hK, hf, hz w]
  | some v =>
    obtain ⟨j, _, hf, _⟩ := findNowS_some ents es 0 hi hl
    simp [Instr.lookup, run_underlying hT, hg, hck, Instr.findKey, run_underlying hK, hf]
theorem Y.lookups {T Kt Vt : TypeId} {b : Nat} {es : List (ByteArray × Int)} {x y : Operand} {i : ByteArray} (I : Inv B h M w) (hT : Und P T (.map Kt Vt)) (hK : Und P Kt .string) (hz : Zero P Vt (.int .i64 0)) (n : Nat) (hn : M[n]? = some (smap b es)) (hx : ev e x = .map (some b)) (hy : ev e y = .string i) :
    Y P ⟨d, .lookup T x y false, t, pos, af, g⟩ e w (.int .i64 ((slook es i).getD 0)) := by
  obtain ⟨ents, clock, h1, h2⟩ := I.at n hn
  simp [Y, execOp, hx, hy, lookupS_run hT hK hz h1 h2.is]
theorem O.mapsets {T Kt Vt : TypeId} {b : Nat} {es : List (ByteArray × Int)} {x y z : Operand} {i : ByteArray} {v : Int} (I : Inv B h M w) (hT : Und P T (.map Kt Vt)) (hK : Und P Kt .string) (n : Nat) (hn : M[n]? = some (smap b es)) (hx : ev e x = .map (some b)) (hy : ev e y = .string i) (hz : ev e z = .int .i64 v)
    (k : ∀ w', Inv B h (M.set n (smap b (sset es i v))) w' → K undef w') : Op1 P ⟨d, .mapUpdate T x y z, t, pos, af, g⟩ e w K := by
  obtain ⟨ents, clock, h1, h2⟩ := I.at n hn
  have hg : (getObj b).run P w = .ok (.map ents.toArray clock) w := getObj_run h1 (by intro c t f h; cases h)
  have hck : ∀ em, (Instr.checkKey em 10000 Kt (.string i)).run P w = .ok () w := fun em => checkKey_str (n := 9999) hK
  have hset : ∀ o, (Go.setObj b o).run P w = .ok () { w with heap := w.heap.setIfInBounds b o } := fun o => setObj_run h1 (by intro c t f h; cases h)
  cases hl : slook es i with
  | none =>
    have hf := findNowS_none ents es 0 h2.is hl
    have hrun : (execOp (ev e) ⟨d, .mapUpdate T x y z, t, pos, af, g⟩).run P w = .ok .skip { w with heap := w.heap.setIfInBounds b (.map (ents ++ [({ key := .string i, val := .int .i64 v, born := clock } : MapEntry)]).toArray (clock + 1)) } := by
      simp [execOp, hx, hy, hz, Instr.mapUpdate, run_underlying hT, hg, hck, Instr.findKey, run_underlying hK, hf, hset]
    unfold Op1
    rw [hrun]
    refine k _ (I.setObj n hn rfl rfl fun w' hw' => ⟨_, _, hw', ?_, ?_, ?_⟩)
    · have : sset es i v = es ++ [(i, v)] := by
        clear hf h1 h2 hg hset hn k
        induction es with
        | nil => rfl
        | cons p r ih =>
          obtain ⟨a, c⟩ := p
          simp only [slook] at hl
          split at hl
          · cases hl
          · rename_i hne; simp [sset, hne, ih hl]
      rw [this]
      unfold EntsS
      rw [List.map_append, List.map_append, h2.is]; rfl
    · rw [List.map_append, List.nodup_append]
      refine ⟨h2.nodup, by simp, fun a ha c hc => ?_⟩
      simp at hc; subst hc
      obtain ⟨q, hq, rfl⟩ := List.mem_map.1 ha
      have := h2.lt q hq; omega
    · intro q hq
      rcases List.mem_append.1 hq with hq | hq
      · have := h2.lt q hq; omega
      · simp at hq; subst hq; simp
  | some v0 =>
    obtain ⟨j, hj, hf, hk, hm⟩ := findNowS_some ents es 0 h2.is hl
    have hrun : (execOp (ev e) ⟨d, .mapUpdate T x y z, t, pos, af, g⟩).run P w = .ok .skip { w with heap := w.heap.setIfInBounds b (.map (ents.modify j fun e => { e with key := .string i, val := .int .i64 v }).toArray clock) } := by
      have hk' : ents[j]?.map (·.key) = some (.string i) := hk
      cases hgt : ents[j]? with
      | none => simp [hgt] at hk'
      | some q =>
        simp only [hgt, Option.map_some, Option.some.injEq] at hk'
        simp [execOp, hx, hy, hz, Instr.mapUpdate, run_underlying hT, hg, hck, Instr.findKey, run_underlying hK, hf, hset, hgt, hk', Instr.keyThatStays, Instr.sameBits, beq_bytes]
    unfold Op1
    rw [hrun]
    refine k _ (I.setObj n hn rfl rfl fun w' hw' => ⟨_, _, hw', hm v, ?_, ?_⟩)
    · have : (ents.modify j fun e => { e with key := .string i, val := .int .i64 v }).map (·.born) = ents.map (·.born) := by
        apply List.ext_getElem?
        intro q
        simp only [List.getElem?_map, List.getElem?_modify]
        cases ents[q]? <;> simp
        split <;> rfl
      rw [this]; exact h2.nodup
    · intro q hq
      obtain ⟨p, hp⟩ := List.mem_iff_getElem?.1 hq
      rw [List.getElem?_modify] at hp
      cases hgp : ents[p]? with
      | none => simp [hgp] at hp
      | some c =>
        have := h2.lt c (List.mem_of_getElem? hgp)
        simp only [hgp] at hp
        cases hp; split <;> exact this
/-- Calls that turn what the caller owns. -/
theorem O.callcs {x : Operand} {f : FuncId} {fs cs : List Value} {args : Array Operand} {ts : Array TypeId} {vs : List Value} {R : Ending → World → Prop} (hf : Enters P f)
    (hx : ev e x = .func (.func f) fs.toArray cs.toArray) (hc : Calls P f vs.toArray w R) (ha : fs ++ args.toList.map (ev e) ++ cs = vs) (k : ∀ ed w', R ed w' → ∃ v, ed = .returned v ∧ K v w') :
    Op1 P ⟨d, .call { callee := .value x, args := args, argTypes := ts }, t, pos, af, g⟩ e w K := by
  have ha' : fs.toArray ++ args.map (ev e) ++ cs.toArray = vs.toArray := by rw [← ha]; apply Array.ext'; simp
  have : (execOp (ev e) ⟨d, .call { callee := .value x, args := args, argTypes := ts }, t, pos, af, g⟩).run P w = .ok (.enter f vs.toArray) w := by
    simp only [execOp, resolve, hx, Deferred.ofValue]
    simp [invoke, ha', hf]
  unfold Op1
  rw [this]
  refine Calls.mono hc ?_
  rintro ed w' h
  obtain ⟨v, rfl, hk⟩ := k ed w' h
  exact hk
theorem O.calls {f : FuncId} {args : Array Operand} {ts : Array TypeId} {vs : List Value} {R : Ending → World → Prop} (hf : Enters P f) (hc : Calls P f vs.toArray w R)
    (ha : args.toList.map (ev e) = vs) (k : ∀ ed w', R ed w' → ∃ v, ed = .returned v ∧ K v w') : Op1 P ⟨d, .call { callee := .value (.func f), args := args, argTypes := ts }, t, pos, af, g⟩ e w K := by
  have ha' : args.map (ev e) = vs.toArray := by rw [← ha]; apply Array.ext'; simp
  have : (execOp (ev e) ⟨d, .call { callee := .value (.func f), args := args, argTypes := ts }, t, pos, af, g⟩).run P w = .ok (.enter f vs.toArray) w := by
    simp [execOp, resolve, ev, Deferred.ofValue, invoke, ha', hf]
  unfold Op1
  rw [this]
  refine Calls.mono hc ?_
  rintro ed w' h
  obtain ⟨v, rfl, hk⟩ := k ed w' h
  exact hk
end
/-! ### Slices known for good, appended to -/
theorem flat_at {α : Type} {enc : α → List Value} {k : Nat} (hk : ∀ x, (enc x).length = k) (hk0 : 0 < k) : ∀ (xs : List α) (j : Nat) (v : Value), (xs.flatMap enc)[j]? = some v → ∃ x, xs[j / k]? = some x ∧ (enc x)[j % k]? = some v
  | [], j, v, h => by simp at h
  | x :: xs, j, v, h => by
    simp only [List.flatMap_cons] at h
    by_cases hj : j < k
    · rw [List.getElem?_append_left (by rw [hk]; exact hj)] at h
      exact ⟨x, by rw [Nat.div_eq_of_lt hj]; rfl, by rw [Nat.mod_eq_of_lt hj]; exact h⟩
    · rw [List.getElem?_append_right (by rw [hk]; omega), hk] at h
      obtain ⟨y, h1, h2⟩ := flat_at hk hk0 xs (j - k) v h
      have e1 : j / k = (j - k) / k + 1 := by rw [Nat.div_eq_sub_div hk0 (by omega)]
      have e2 : j % k = (j - k) % k := by rw [Nat.mod_eq_sub_mod (by omega)]
      exact ⟨y, by rw [e1]; exact h1, by rw [e2]; exact h2⟩
theorem flat_get {α : Type} {enc : α → List Value} {k : Nat} (hk : ∀ x, (enc x).length = k) : ∀ (xs : List α) (i j : Nat) (x : α) (v : Value), xs[i]? = some x → (enc x)[j]? = some v → (xs.flatMap enc)[i * k + j]? = some v
  | [], i, j, x, v, h, _ => by simp at h
  | y :: ys, i, j, x, v, h, hv => by
    have hj : j < k := by have := (List.getElem?_eq_some_iff.1 hv).1; rw [hk] at this; exact this
    simp only [List.flatMap_cons]
    cases i with
    | zero =>
      simp at h; subst h
      rw [List.getElem?_append_left (by rw [hk]; omega)]
      simpa using hv
    | succ i =>
      rw [List.getElem?_append_right (by rw [hk, Nat.add_mul]; omega), hk, show (i + 1) * k + j - k = i * k + j by rw [Nat.add_mul]; omega]
      exact flat_get hk ys i j x v (by simpa using h) hv
theorem flat_len {α : Type} {enc : α → List Value} {k : Nat} (hk : ∀ x, (enc x).length = k) (xs : List α) : (xs.flatMap enc).length = xs.length * k := by
  induction xs with
  | nil => simp
  | cons y ys ih => simp only [List.flatMap_cons, List.length_append, hk, ih, List.length_cons, Nat.add_mul]; omega
/-- A row of cells that is known for good holds a slice. -/
theorem rowIn {α : Type} {enc : α → List Value} {k b c : Nat} {xs : List α} {cs : Array Value} {T : TypeId} {f : Nat × Nat} {h : Heap} (hk : ∀ x, (enc x).length = k) (hb : h b = some (.cells cs T f)) (hp : ∀ (j : Nat) (v : Value), (xs.flatMap enc)[j]? = some v → cs[j]? = some v) : (⟨some ⟨b, 0, none⟩, c, xs⟩ : Sl α).In k enc h := fun i x hx =>
  ⟨rfl, fun j v hv => by
    simp only [Heap.cell, Sl.blk, Sl.off, Option.getD_some, hb, Nat.zero_add]
    exact hp _ _ (flat_get hk xs i j x v hx hv)⟩
theorem Sl.In.flat {α : Type} {s : Sl α} {k : Nat} {enc : α → List Value} {h : Heap} (hs : s.In k enc h) (hk : ∀ x, (enc x).length = k) (hk0 : 0 < k) : RdH h s.blk s.off (s.xs.flatMap enc) := fun j v hv => by
  obtain ⟨x, h1, h2⟩ := flat_at hk hk0 s.xs j v hv
  have := (hs _ _ h1).2 _ _ h2
  rw [Nat.add_assoc, Nat.mul_comm, Nat.div_add_mod] at this
  exact this
section
variable {P : Program} {e : Env} {w : World} {B : Base} {h : Heap} {M : List SA} {t : TypeId} {pos : String} {af : Array Edge} {g : Option (Nat × Bool)} {d : Option Nat} {K : Value → World → Prop}
end
end Go.TF
end
section
/- Slices of the call's own, known for good until they are written again; appended onto an empty literal. -/
namespace Go.TF
open Go Go.RowKit

/-- A slice that was made by the call (nothing of it was known in h0), known for good in h: with its spare. -/
def OwnH {α : Type} (el k : Nat) (s : Sl α) (enc : α → List Value) (h0 h : Heap) : Prop :=
  s = ⟨none, 0, []⟩ ∨ ∃ g cur, s.at_ = some ⟨g, 0, none⟩ ∧ h0 g = none ∧ h g = some (.cells cur el (0, 0)) ∧ s.xs.length ≤ s.cap ∧ s.cap ≤ maxLen ∧ cur.size = s.cap * k ∧ cur.toList.take (s.xs.length * k) = s.xs.flatMap enc
section
variable {α : Type} {el k : Nat} {s : Sl α} {enc : α → List Value} {h0 h h' : Heap}
theorem OwnH.le (o : OwnH el k s enc h0 h) (hl : h.le h') : OwnH el k s enc h0 h' := by
  rcases o with o | ⟨g, cur, h1, h2, h3, h4⟩
  · exact .inl o
  · exact .inr ⟨g, cur, h1, h2, hl _ _ h3, h4⟩
theorem OwnH.older {h1 : Heap} (o : OwnH el k s enc h0 h) (hl : h1.le h0) : OwnH el k s enc h1 h := by
  rcases o with o | ⟨g, cur, k1, k2, k3⟩
  · exact .inl o
  · refine .inr ⟨g, cur, k1, ?_, k3⟩
    cases e : h1 g with
    | none => rfl
    | some x => rw [hl _ _ e] at k2; cases k2
theorem OwnH.in (o : OwnH el k s enc h0 h) (hk : ∀ x, (enc x).length = k) : s.In k enc h := by
  rcases o with rfl | ⟨g, cur, h1, _, h3, _, _, _, h7⟩
  · exact fun i x hx => by simp at hx
  · obtain ⟨a, c, xs⟩ := s
    simp only at h1 h7
    subst h1
    refine rowIn hk h3 fun j v hv => ?_
    rw [← h7, List.getElem?_take] at hv
    split at hv
    · simpa using hv
    · cases hv
theorem Heap.le_minus {h1 h : Heap} (g : Nat) (hl : h1.le h) (hg : h1 g = none) : h1.le (fun b => if b = g then none else h b) := fun b o hb => by
  have : b ≠ g := fun e => by rw [e, hg] at hb; cases hb
  simp only [this, if_false]; exact hl b o hb
/-- Written again: known for good no more. -/
theorem Inv.unsettle {B : Base} {M : List SA} {w : World} (I : Inv B h M w) (o : OwnH el k s enc h0 h) (hB : B.h.le h0) :
    ∃ h', Inv B h' (ownSl el k s.val s.xs.length (s.xs.flatMap enc) :: M) w ∧ (∀ h1 : Heap, h1.le h → h1.le h0 → h1.le h') ∧ (∀ b x, h b = some x → h' b = some x ∨ s.at_ = some ⟨b, 0, none⟩) := by
  rcases o with rfl | ⟨g, cur, h1, h2, h3, h4, h5, h6, h7⟩
  · exact ⟨h, I.nilSl el k, fun h1 hl _ => hl, fun b x hb => .inl hb⟩
  · have hBg : B.h g = none := by
      cases e : B.h g with
      | none => rfl
      | some x => rw [hB _ _ e] at h2; cases h2
    have hsz : B.w.heap.size ≤ g := by
      rcases I.new g _ h3 with h | h
      · rw [hBg] at h; cases h
      · exact h
    have hval : s.val = .slice (some ⟨g, 0, none⟩) s.xs.length s.cap := by simp only [Sl.val, h1]
    have hlen : (s.xs.flatMap enc).length = s.xs.length * k := by
      rw [← h7, List.length_take, Array.length_toList, h6]
      exact Nat.min_eq_left (Nat.mul_le_mul_right k h4)
    refine ⟨fun b => if b = g then none else h b, ⟨I.below, fun b o hb => Heap.le_minus g I.ext hBg b o hb, fun b o hb => ?_, fun b o hb => ?_, fun A hA => ?_, List.pairwise_cons.2 ⟨fun C hC b hb hbC => ?_, I.apart⟩⟩, fun h1 hl hl0 => Heap.le_minus g hl ?_, fun b x hb => ?_⟩
    · by_cases e : b = g
      · simp [e] at hb
      · simp only [e, if_false] at hb; exact I.new b o hb
    · by_cases e : b = g
      · simp [e] at hb
      · simp only [e, if_false] at hb; exact I.imm b o hb
    · rcases List.mem_cons.1 hA with rfl | hA
      · refine ⟨?_, fun b hb => ?_⟩
        · show w.ownsRow 0 el k s.val s.xs.length (s.xs.flatMap enc)
          rw [hval]
          exact ⟨hlen, .inr ⟨g, s.cap, cur, rfl, Nat.zero_le _, I.imm _ _ h3, h4, h5, h6, h7⟩⟩
        · have : b = g := by simpa [ownSl, hval, Value.ownBlock] using hb
          subst this
          exact ⟨hsz, I.lt h3, by simp⟩
      · obtain ⟨p1, p2⟩ := I.own A hA
        refine ⟨p1, fun b hb => ?_⟩
        obtain ⟨q1, q2, q3⟩ := p2 b hb
        refine ⟨q1, q2, ?_⟩
        by_cases e : b = g
        · simp [e]
        · simp [e, q3]
    · have : b = g := by simpa [ownSl, hval, Value.ownBlock] using hb
      subst this
      have := ((I.own C hC).2 b hbC).2.2
      rw [h3] at this; cases this
    · cases e : h1 g with
      | none => rfl
      | some x => rw [hl0 _ _ e] at h2; cases h2
    · by_cases e : b = g
      · subst e; exact .inr h1
      · exact .inl (by simp [e, hb])
/-- What was appended to is known for good. -/
theorem Inv.settleO {B : Base} {M : List SA} {w : World} {v : Value} {n : Nat} {xs : List α} (I : Inv B h (ownSl el k v n (xs.flatMap enc) :: M) w) (hn : n = xs.length) :
    ∃ (h' : Heap) (s : Sl α), h.le h' ∧ s.val = v ∧ s.xs = xs ∧ OwnH el k s enc h h' ∧ Inv B h' M w := by
  subst hn
  have hp : w.ownsRow 0 el k v xs.length (xs.flatMap enc) := (I.own _ (List.mem_cons_self ..)).1
  have hfp0 := (I.own _ (List.mem_cons_self ..)).2
  obtain ⟨h', hle, hfp, I'⟩ := I.settle
  rcases hp.2 with ⟨rfl, h0⟩ | ⟨g, cap, cur, rfl, _, hg, hnc, hcm, hcs, htake⟩
  · have : xs = [] := List.eq_nil_of_length_eq_zero h0
    subst this
    exact ⟨h', ⟨none, 0, []⟩, hle, rfl, rfl, .inl rfl, I'⟩
  · have hm : g ∈ (ownSl el k (.slice (some ⟨g, 0, none⟩) xs.length cap) xs.length (xs.flatMap enc)).fp := by simp [ownSl, Value.ownBlock]
    exact ⟨h', ⟨some ⟨g, 0, none⟩, cap, xs⟩, hle, rfl, rfl, .inr ⟨g, cur, rfl, (hfp0 g hm).2.2, (hfp g hm).trans hg, hnc, hcm, hcs, htake⟩, I'⟩
end
section
variable {P : Program} {e : Env} {w : World} {B : Base} {h : Heap} {M : List SA} {t : TypeId} {pos : String} {af : Array Edge} {g : Option (Nat × Bool)} {d : Option Nat} {K : Value → World → Prop}
/-- An empty literal. -/
theorem O.mkE {α : Type} {T el k : Nat} (enc : α → List Value) (I : Inv B h M w) (hT : Und P T (.slice el)) (hk : ∀ w, (sizeOf el).run P w = .ok k w)
    (kk : ∀ (s : Sl α) h' w', Inv B h' M w' → h.le h' → s.xs = [] → s.cap = 0 → (∃ b, s.at_ = some ⟨b, 0, none⟩) → OwnH el k s enc h h' → K s.val w') :
    Op1 P ⟨d, .buildSlice T 0 #[], t, pos, af, g⟩ e w K := by
  have hrun : (execOp (ev e) ⟨d, .buildSlice T 0 #[], t, pos, af, g⟩).run P w = .ok (.value (.slice (some ⟨w.heap.size, 0, none⟩) 0 0)) (w.alloc (.cells #[] el)) := by
    have hd : ¬ ((0 : Nat) > 2 ^ 24) := by decide
    simp only [execOp, Instr.buildSlice, Sem.run_bind, run_underlying hT, Result.andThen_ok, hk w, Nat.zero_mul, if_neg hd, if_true, Sem.run_pure]
    have hr0 : Array.range 0 = #[] := rfl
    simp [newRow, Instr.fill, hr0]
  unfold Op1
  rw [hrun]
  have hm : ∀ b ∈ (⟨[w.heap.size], fun w' => w'.heap[w.heap.size]? = some (.cells #[] el (0, 0)), fun _ _ hh hp => (hh _ (by simp)).trans hp⟩ : SA).fp, w.heap.size ≤ b ∧ b < (w.alloc (.cells #[] el)).heap.size := fun b hb => by simp at hb; subst hb; simp
  have J := I.gain (A := ⟨[w.heap.size], fun w' => w'.heap[w.heap.size]? = some (.cells #[] el (0, 0)), fun _ _ hh hp => (hh _ (by simp)).trans hp⟩) (w' := w.alloc (.cells #[] el)) (Grow.alloc _ _) (heap_alloc_new w _) hm
  have hfr := ((J.own _ (List.mem_cons_self ..)).2 w.heap.size (by simp)).2.2
  obtain ⟨h', hle, hfp, J'⟩ := J.settle
  have hb' : h' w.heap.size = some (.cells #[] el (0, 0)) := (hfp _ (by simp)).trans (heap_alloc_new w _)
  exact kk ⟨some ⟨w.heap.size, 0, none⟩, 0, []⟩ h' _ J' hle rfl rfl ⟨_, rfl⟩ (.inr ⟨_, #[], rfl, hfr, hb', Nat.le_refl _, Nat.zero_le _, by simp, by simp⟩)
theorem run_append_empty {T ty el size : Nat} (hT : P.underlying T = some (.slice el)) (hs : (sizeOf el).run P w = .ok size w) (b : Addr) (n c : Nat) (hnc : n ≤ c) (a : Option Addr) (c' : Nat) :
    (Builtin.append_ #[T, T] ty #[.slice (some b) n c, .slice a 0 c']).run P w = .ok (.slice (some b) n c) w := by
  cases a <;> simp [Builtin.append_, run_underlying hT, hs, Builtin.lenOf, hnc, Builtin.firstCells, storeCells, loadCells, loadCellsFrom]
/-- Numbers turned to another kind; halved by a shift. -/
theorem Y.conv {x : Operand} {S T : TypeId} {k k' : IntKind} {n : Int} (hS : (P.underlying S).isSome = true) (hT : Und P T (.int k')) (hw : k'.wrap n = n) (hx : ev e x = .int k n) : Y P ⟨d, .convert S T x, t, pos, af, g⟩ e w (.int k' n) := by
  obtain ⟨d', hd'⟩ := Option.isSome_iff_exists.mp hS
  simp [Y, execOp, hx, convert, run_underlying hd', run_underlying hT, Conv.intToInt, hw]
theorem Y.half {x y : Operand} {T T' : TypeId} {k yk : IntKind} {a : Int} (h1 : 1 ≤ k.bits) (hx : ev e x = .int k a) (hy : ev e y = .int yk 1) : Y P ⟨d, .binOp .shr T x y T', t, pos, af, g⟩ e w (.int k (a / 2)) := by
  have hm : min 1 k.bits = 1 := by omega
  simp [Y, execOp, hx, hy, eqGuard, binOp, Op.shift, hm, Int.fdiv_eq_ediv_of_nonneg]
theorem wrap_u64 {n : Int} (h0 : 0 ≤ n) (h1 : n ≤ 9223372036854775807) : IntKind.u64.wrap n = n := by
  have h64 : IntKind.u64.bits = 64 := rfl
  have hs : IntKind.u64.signed = false := rfl
  unfold IntKind.wrap
  simp only [h64, hs, Bool.false_and, show (2 ^ 64 : Int) = 18446744073709551616 from rfl, Bool.false_eq_true, if_false]
  omega
theorem equalIn_nil (d : Nat) {T el : TypeId} {a : Option Addr} {n c : Nat} (hT : Und P T (.slice el)) : (Op.equalIn (d + 1) T (.slice a n c) (.slice none 0 0)).run P w = .ok a.isNone w := by
  cases a <;> simp [Op.equalIn, run_underlying hT]
/-- A slice held against nil. -/
theorem Y.eqnil {x y : Operand} {T T' el : TypeId} {a : Option Addr} {n c : Nat} (hT : Und P T (.slice el)) (hx : ev e x = .slice a n c) (hy : ev e y = .slice none 0 0) : Y P ⟨d, .binOp .eql T x y T', t, pos, af, g⟩ e w (.bool a.isNone) := by
  have h1 : ∀ w, (Op.equal T (.slice a n c) (.slice none 0 0)).run P w = .ok a.isNone w := fun w => equalIn_nil 9999 hT
  have h2 : (binOp .eql T (.slice a n c) (.slice none 0 0)).run P w = .ok (.bool a.isNone) w := by simp [binOp, h1]
  simp [Y, execOp, hx, hy, eqGuard, h2]
/-- Appended onto an empty literal. -/
theorem O.appendE {α : Type} {T el k bytes : Nat} {z : Value} {x y : Operand} {s u : Sl α} {enc : α → List Value} {h0 : Heap} (I : Inv B h M w) (hT : Und P T (.slice el)) (he : ElT P el k bytes z) (hk : ∀ x, (enc x).length = k) (hs : OwnH el k s enc h0 h) (hl0 : h0.le h) (hs0 : s.xs = []) (hsc : s.cap = 0) (hsa : ∃ b, s.at_ = some ⟨b, 0, none⟩) (hu : u.In k enc h)
    (hx : ev e x = s.val) (hy : ev e y = u.val) (hb : u.xs.length * bytes ≤ 140737488355328) (h63 : u.xs.length ≤ 140737488355328)
    (kk : ∀ (r : Sl α) h' w', Inv B h' M w' → h.le h' → r.xs = u.xs → OwnH el k r enc h0 h' → (r.xs = [] → r.cap = 0) → K r.val w') :
    Op1 P ⟨d, .call { callee := .builtin .append, args := #[x, y], argTypes := #[T, T] }, t, pos, af, g⟩ e w K := by
  obtain ⟨i, hi, hz, hsz, hby⟩ : ∃ i, P.info? el = some i ∧ i.zero = some z ∧ i.size = k ∧ i.bytes = bytes := by
    have := he.info
    cases h : P.info? el with
    | none => simp [h] at this
    | some i => simp [h] at this; exact ⟨i, rfl, this.1, this.2.1, this.2.2⟩
  obtain ⟨b, hsa⟩ := hsa
  have hsv : s.val = .slice (some ⟨b, 0, none⟩) 0 0 := by simp only [Sl.val, hsa, hs0, hsc, List.length_nil]
  rw [hsv] at hx
  by_cases hn : u.xs = []
  · have hrun := run_append_empty (P := P) (w := w) (T := T) (ty := t) (size := k) hT (by simp [sizeOf, typeInfo, hi, hsz]) ⟨b, 0, none⟩ 0 0 (Nat.le_refl _) u.at_ u.cap
    have hA : (execOp (ev e) ⟨d, .call { callee := .builtin .append, args := #[x, y], argTypes := #[T, T] }, t, pos, af, g⟩).run P w = .ok (.value (.slice (some ⟨b, 0, none⟩) 0 0)) w := by
      simp only [Sl.val, hn, List.length_nil] at hy
      simp [execOp, resolve, invoke, builtin, hx, hy, hrun]
    unfold Op1
    rw [hA]
    have := kk s h w I (Heap.le.refl _) (hs0.trans hn.symm) hs (fun _ => hsc)
    rwa [hsv] at this
  · have hpos : 0 < u.xs.length := List.length_pos_iff.2 hn
    have hua' := (hu 0 u.xs[0] (List.getElem?_eq_getElem hpos)).1
    have hnews : ∀ j v, (u.xs.flatMap enc)[j]? = some v → w.cell? ((⟨u.blk, u.off, none⟩ : Addr).add j) = some v := fun j v hv => by rw [addr_add]; exact I.rd (hu.flat hk he.pos) j v hv
    have hrun := run_append_grow (P := P) w T t el i z hT hi hz ⟨b, 0, none⟩ 0 0 [] (by simp) (fun j v hv => by simp at hv) ⟨u.blk, u.off, none⟩ u.xs.length u.cap (u.xs.flatMap enc) (by rw [flat_len hk, hsz]) hnews (by omega) (by omega) (growslice_fits (by omega) (by rw [hby]; simpa using hb))
    have hA : (execOp (ev e) ⟨d, .call { callee := .builtin .append, args := #[x, y], argTypes := #[T, T] }, t, pos, af, g⟩).run P w = .ok (.value (.slice (some ⟨w.heap.size, 0, none⟩) u.xs.length (grownCap w u.xs.length 0 el)))
        (w.drew.alloc (.cells ((u.xs.flatMap enc).toArray ++ Builtin.zeroCells z.cells (grownCap w u.xs.length 0 el - u.xs.length)) el)) := by
      simp only [Sl.val, hua'] at hy
      simp [execOp, resolve, invoke, builtin, hx, hy, hrun]
    unfold Op1
    rw [hA]
    have hge := grownCap_ge w u.xs.length 0 el
    have hcm := grownCap_le_maxLen w u.xs.length 0 el (by simp only [maxLen]; omega)
    obtain ⟨cs, hcs⟩ : ∃ cs : Array Value, cs = (u.xs.flatMap enc).toArray ++ Builtin.zeroCells z.cells (grownCap w u.xs.length 0 el - u.xs.length) := ⟨_, rfl⟩
    rw [← hcs]
    have hnew := heap_alloc_new w.drew (.cells cs el)
    have J := I.gain (A := ⟨[w.heap.size], fun w' => w'.heap[w.heap.size]? = some (.cells cs el (0, 0)), fun _ _ hh hp => (hh _ (by simp)).trans hp⟩) (w' := w.drew.alloc (.cells cs el)) ((Grow.drew w).trans (Grow.alloc _ _)) hnew (fun b hb => by simp at hb; subst hb; simp)
    have hfr := ((J.own _ (List.mem_cons_self ..)).2 w.heap.size (by simp)).2.2
    obtain ⟨h', hle, hfp, J'⟩ := J.settle
    have hb' : h' w.heap.size = some (.cells cs el (0, 0)) := (hfp _ (by simp)).trans hnew
    refine kk ⟨some ⟨w.heap.size, 0, none⟩, grownCap w u.xs.length 0 el, u.xs⟩ h' _ J' hle rfl (OwnH.older (h0 := h) (.inr ⟨_, cs, rfl, hfr, hb', hge, hcm, ?_, ?_⟩) hl0) (fun e => absurd e hn)
    · rw [hcs]
      simp only [Array.size_append, List.size_toArray, size_zeroCells, he.cells, flat_len hk, ← Nat.add_mul]
      congr 1
      omega
    · rw [hcs]
      simp only [Array.toList_append]
      rw [← flat_len hk]
      exact List.take_left
end
end Go.TF
end
section
/- slices.Clone at this program's types: the same, in memory of its own. -/
namespace Go.TF
open Go Go.RowKit Go.Proofs
set_option maxRecDepth 10000
theorem CloneRul_ok (B : Base) (hB : B.ok) (l : Sl Rul) (hl : l.Is 5 Rul.enc B.h) (hb : l.xs.length * 80 ≤ 140737488355328) :
    Fn Tryz.prog 99 [l.val] B (fun v h => ∃ s : Sl Rul, v = s.val ∧ s.xs = l.xs ∧ OwnH 68 5 s Rul.enc B.h h ∧ (s.xs = [] → s.cap = 0)) := by
  refine Fn.of Tryz.func99 rfl Tryz.ntmps99 (by kernel_rfl) (by simp) ?_
  intro e
  have I := Inv.start hB
  refine WP.seq ?_
  refine WP.region ?_
  refine Ops.y (v := .slice _ _ _) (Y.assign rfl) ?_
  refine Ops.nil ?_
  refine WP.seq ?_
  refine WP.seq ?_
  refine WP.region ?_
  refine Ops.y (v := .slice _ _ _) (Y.move rfl) ?_
  refine Ops.y (v := .bool _) (Y.eqnil Tryz.underlying23 rfl rfl) ?_
  refine Ops.nil ?_
  refine WP.cond rfl (fun h => ?_) (fun h => ?_)
  · refine WP.seq ?_
    refine WP.region ?_
    refine Ops.y (v := .slice _ _ _) (Y.assign rfl) ?_
    refine Ops.nil ?_
    have hx : l.xs = [] := by
      cases hx : l.xs with
      | nil => rfl
      | cons a r =>
        have := (hl.el 0 a (by rw [hx]; rfl)).1
        simp only [this, Option.isNone_some] at h; cases h
    refine WP.ret ?_
    repeat (first | refine thenE_ret ?_ | refine blockE_ret ?_)
    exact retQ.mk (vs := [.slice _ _ _]) rfl ⟨rfl, trivial⟩ I.ext_of (⟨⟨none, 0, []⟩, rfl, hx.symm, .inl rfl, fun _ => rfl⟩)
  refine WP.skip ?_
  refine WP.seq ?_
  refine WP.region ?_
  refine Ops.go (O.mkE (α := Rul) Rul.enc I Tryz.underlying23 Tryz.sizeOf68 ?_)
  intro s5 h5 w I le5 e5 c5 a5 o5
  refine Ops.y (v := .slice _ _ _) (Y.move rfl) ?_
  refine Ops.go (O.appendE (α := Rul) I Tryz.underlying23 et_68 (fun _ => rfl) o5 le5 e5 c5 a5 (hl.el.le le5) rfl rfl (by omega) (by have := hl.small; omega) ?_)
  intro r h2 w I le2 hr o2 r0
  refine Ops.y (v := .slice _ _ _) (Y.assign rfl) ?_
  refine Ops.nil ?_
  refine WP.ret ?_
  repeat (first | refine thenE_ret ?_ | refine blockE_ret ?_)
  exact retQ.mk (vs := [.slice _ _ _]) rfl ⟨rfl, trivial⟩ I.ext_of (⟨r, rfl, hr, o2, r0⟩)
theorem CloneFct_ok (B : Base) (hB : B.ok) (l : Sl Fct) (hl : l.Is 4 Fct.enc B.h) (hb : l.xs.length * 32 ≤ 140737488355328) :
    Fn Tryz.prog 63 [l.val] B (fun v h => ∃ s : Sl Fct, v = s.val ∧ s.xs = l.xs ∧ OwnH 52 4 s Fct.enc B.h h ∧ (s.xs = [] → s.cap = 0)) := by
  refine Fn.of Tryz.func63 rfl Tryz.ntmps63 (by kernel_rfl) (by simp) ?_
  intro e
  have I := Inv.start hB
  refine WP.seq ?_
  refine WP.region ?_
  refine Ops.y (v := .slice _ _ _) (Y.assign rfl) ?_
  refine Ops.nil ?_
  refine WP.seq ?_
  refine WP.seq ?_
  refine WP.region ?_
  refine Ops.y (v := .slice _ _ _) (Y.move rfl) ?_
  refine Ops.y (v := .bool _) (Y.eqnil Tryz.underlying26 rfl rfl) ?_
  refine Ops.nil ?_
  refine WP.cond rfl (fun h => ?_) (fun h => ?_)
  · refine WP.seq ?_
    refine WP.region ?_
    refine Ops.y (v := .slice _ _ _) (Y.assign rfl) ?_
    refine Ops.nil ?_
    have hx : l.xs = [] := by
      cases hx : l.xs with
      | nil => rfl
      | cons a r =>
        have := (hl.el 0 a (by rw [hx]; rfl)).1
        simp only [this, Option.isNone_some] at h; cases h
    refine WP.ret ?_
    repeat (first | refine thenE_ret ?_ | refine blockE_ret ?_)
    exact retQ.mk (vs := [.slice _ _ _]) rfl ⟨rfl, trivial⟩ I.ext_of (⟨⟨none, 0, []⟩, rfl, hx.symm, .inl rfl, fun _ => rfl⟩)
  refine WP.skip ?_
  refine WP.seq ?_
  refine WP.region ?_
  refine Ops.go (O.mkE (α := Fct) Fct.enc I Tryz.underlying26 Tryz.sizeOf52 ?_)
  intro s5 h5 w I le5 e5 c5 a5 o5
  refine Ops.y (v := .slice _ _ _) (Y.move rfl) ?_
  refine Ops.go (O.appendE (α := Fct) I Tryz.underlying26 et_52 (fun _ => rfl) o5 le5 e5 c5 a5 (hl.el.le le5) rfl rfl (by omega) (by have := hl.small; omega) ?_)
  intro r h2 w I le2 hr o2 r0
  refine Ops.y (v := .slice _ _ _) (Y.assign rfl) ?_
  refine Ops.nil ?_
  refine WP.ret ?_
  repeat (first | refine thenE_ret ?_ | refine blockE_ret ?_)
  exact retQ.mk (vs := [.slice _ _ _]) rfl ⟨rfl, trivial⟩ I.ext_of (⟨r, rfl, hr, o2, r0⟩)
end Go.TF
end
section
/- Slices of the call's own: appended to by what is known, made with room, cut, closed up, cleared behind. -/
namespace Go.TF
open Go Go.RowKit

section
variable {P : Program} {e : Env} {w : World} {B : Base} {h : Heap} {M : List SA} {t : TypeId} {pos : String} {af : Array Edge} {g : Option (Nat × Bool)} {d : Option Nat} {K : Value → World → Prop}
theorem Y.caps {x : Operand} {T r : TypeId} {a : Option Addr} {n c : Nat} (hT : Und P T (.slice r)) (hx : ev e x = .slice a n c) :
    Y P ⟨d, .call { callee := .builtin .cap, args := #[x], argTypes := #[T] }, t, pos, af, g⟩ e w (.int .i64 c) := by
  simp [Y, execOp, hx, resolve, invoke, builtin, Builtin.cap_, run_underlying hT, goInt]
theorem Y.slicenil {T el : TypeId} {x : Operand} {lo hi : Option Operand} (hT : Und P T (.slice el)) {k : Nat} (hk : ∀ w, (sizeOf el).run P w = .ok k w) (hx : ev e x = .slice none 0 0)
    (hl : lo = none ∨ ∃ q k, lo = some q ∧ ev e q = .int k 0) (hh : hi = none ∨ ∃ q k, hi = some q ∧ ev e q = .int k 0) : Y P ⟨d, .slice T x lo hi none, t, pos, af, g⟩ e w (.slice none 0 0) := by
  rcases hl with rfl | ⟨q, k, rfl, hq⟩ <;> rcases hh with rfl | ⟨q', k', rfl, hq'⟩ <;>
    simp_all [Y, execOp, Instr.sliceAt, Instr.slice, Instr.sliceBounds, Instr.sliceBound, run_underlying hT, asIntOf]
theorem ElT.info' {el k bytes : Nat} {z : Value} (he : ElT P el k bytes z) : ∃ i, P.info? el = some i ∧ i.zero = some z ∧ i.size = k ∧ i.bytes = bytes := by
  have := he.info
  cases h : P.info? el with
  | none => simp [h] at this
  | some i => simp [h] at this; exact ⟨i, rfl, this.1, this.2.1, this.2.2⟩
/-- Cut behind: fewer elements of what the call owns. -/
theorem Inv.cutSl {el k gg n cap m : Nat} {xs : List Value} (I : Inv B h (ownSl el k (.slice (some ⟨gg, 0, none⟩) n cap) n xs :: M) w) (hm : m ≤ n) : Inv B h (ownSl el k (.slice (some ⟨gg, 0, none⟩) m cap) m (xs.take (m * k)) :: M) w := by
  have hp : w.ownsRow 0 el k (.slice (some ⟨gg, 0, none⟩) n cap) n xs := (I.own _ (List.mem_cons_self ..)).1
  have hfp := (I.own _ (List.mem_cons_self ..)).2 gg (by simp [ownSl, Value.ownBlock])
  refine I.step rfl rfl rfl (Nat.le_refl _) (fun _ _ _ => rfl) ?_ (fun b hb => ?_)
  · rcases hp.2 with ⟨h0, _⟩ | ⟨g', cap', cur, he, hb, hg, hnc, hcm, hcs, ht⟩
    · cases h0
    · injection he with e1 e2 e3; injection e1 with e1; injection e1 with e1; subst e1; subst e3
      have hmk := Nat.mul_le_mul_right k hm
      refine ⟨by rw [List.length_take, hp.1]; omega, .inr ⟨gg, cap, cur, rfl, hb, hg, by omega, hcm, hcs, ?_⟩⟩
      rw [← ht, List.take_take, Nat.min_eq_left hmk]
  · have : b = gg := by simpa [ownSl, Value.ownBlock] using hb
    subst this
    exact ⟨.inl (by simp [ownSl, Value.ownBlock]), hfp.2.1⟩
/-- Cleared behind what is left. -/
theorem O.clearS {T el k bytes gg n cap m o c : Nat} {z : Value} {x : Operand} {xs : List Value} (I : Inv B h (ownSl el k (.slice (some ⟨gg, 0, none⟩) n cap) n xs :: M) w) (hT : Und P T (.slice el)) (he : ElT P el k bytes z) (hz1 : z.cells.all (fun v => v.oneCell') = true) (hx : ev e x = .slice (some ⟨gg, o, none⟩) m c) (hm : 0 < m) (ho : o = n * k) (hmc : n + m ≤ cap)
    (kk : ∀ w', Inv B h (ownSl el k (.slice (some ⟨gg, 0, none⟩) n cap) n xs :: M) w' → K (.tuple #[]) w') :
    Op1 P ⟨d, .call { callee := .builtin .clear, args := #[x], argTypes := #[T] }, t, pos, af, g⟩ e w K := by
  obtain ⟨ii, hi, hz, hsz, hby⟩ := he.info'
  subst hsz; subst ho
  have hp : w.ownsRow 0 el ii.size (.slice (some ⟨gg, 0, none⟩) n cap) n xs := (I.own _ (List.mem_cons_self ..)).1
  have hfp := (I.own _ (List.mem_cons_self ..)).2 gg (by simp [ownSl, Value.ownBlock])
  rcases hp.2 with ⟨h0, _⟩ | ⟨g', cap', cur, he', hb, hg, hnc, hcm, hcs, ht⟩
  · cases h0
  injection he' with e1 e2 e3; injection e1 with e1; injection e1 with e1; subst e1; subst e3
  have hzl : (Builtin.zeroCells z.cells m).toList.length = m * ii.size := by rw [Array.length_toList, size_zeroCells, he.cells]
  have hmk : (n + m) * ii.size ≤ cap * ii.size := Nat.mul_le_mul_right _ hmc
  rw [Nat.add_mul] at hmk
  have hone : ∀ v ∈ (Builtin.zeroCells z.cells m).toList, v.oneCell' = true := fun v hv => by
    simp only [Builtin.zeroCells, Array.toList_map, List.mem_map] at hv
    obtain ⟨q, _, rfl⟩ := hv
    have hlt : q % z.cells.size < z.cells.size := Nat.mod_lt _ (by rw [he.cells]; exact he.pos)
    rw [getElem!_pos z.cells _ hlt]
    rw [Array.all_eq_true] at hz1
    exact hz1 _ hlt
  have hst := run_storeCells_at P gg (n * ii.size) el (Builtin.zeroCells z.cells m).toList 0 cur w hg (by rw [hzl, hcs]; omega) hone
  simp only [Nat.add_zero] at hst
  have hA : (execOp (ev e) ⟨d, .call { callee := .builtin .clear, args := #[x], argTypes := #[T] }, t, pos, af, g⟩).run P w = .ok (.value (.tuple #[])) (w.setRow gg (cur.toList.take (n * ii.size) ++ (Builtin.zeroCells z.cells m).toList ++ cur.toList.drop (n * ii.size + (Builtin.zeroCells z.cells m).toList.length)).toArray) := by
    obtain ⟨m', rfl⟩ : ∃ m', m = m' + 1 := ⟨m - 1, by omega⟩
    simp [execOp, resolve, invoke, builtin, hx, Builtin.clear_, run_underlying hT, zeroValue, typeInfo, hi, hz, hst]
  unfold Op1
  rw [hA]
  refine kk _ (I.step rfl rfl rfl (by simp) (fun b hb hnb => setRow_other w gg b _ (fun e => hnb (by simp [ownSl, Value.ownBlock, e]))) ?_ (fun b hb => ?_))
  · refine ⟨hp.1, .inr ⟨gg, cap, _, rfl, hb, setRow_heap w gg cur _ el _ hg, hnc, hcm, ?_, ?_⟩⟩
    · simp only [List.size_toArray, List.length_append, List.length_take, List.length_drop, hzl, Array.length_toList, hcs]
      omega
    · have hl : (cur.toList.take (n * ii.size)).length = n * ii.size := by rw [ht, hp.1]
      rw [List.append_assoc, List.take_left' hl, ht]
  · have : b = gg := by simpa [ownSl, Value.ownBlock] using hb
    subst this
    exact ⟨.inl (by simp [ownSl, Value.ownBlock]), by simpa using hfp.2.1⟩
end
end Go.TF
end
section
/- Copies into what the call owns; room made behind it; what slices.Insert asks first. -/
namespace Go.TF
open Go Go.RowKit

/-- Laid over what stood there, from place o on. -/
def over (xs : List Value) (o : Nat) (news : List Value) : List Value := xs.take o ++ news ++ xs.drop (o + news.length)
theorem over_len {xs news : List Value} {o : Nat} (h : o + news.length ≤ xs.length) : (over xs o news).length = xs.length := by
  simp only [over, List.length_append, List.length_take, List.length_drop]; omega
theorem over_take (cur news : List Value) (o m : Nat) (h : o + news.length ≤ m) (hm : m ≤ cur.length) : (cur.take o ++ news ++ cur.drop (o + news.length)).take m = over (cur.take m) o news := by
  have hl : (cur.take o ++ news).length = o + news.length := by simp only [List.length_append, List.length_take]; omega
  rw [List.take_append, hl, List.take_of_length_le (by omega)]
  unfold over
  rw [List.take_take, Nat.min_eq_left (by omega), List.drop_take]
theorem flat_take {α : Type} {enc : α → List Value} {k : Nat} (hk : ∀ x, (enc x).length = k) : ∀ (xs : List α) (i : Nat), (xs.flatMap enc).take (i * k) = (xs.take i).flatMap enc
  | [], i => by simp
  | x :: xs, 0 => by simp
  | x :: xs, i + 1 => by
    rw [List.flatMap_cons, List.take_succ_cons, List.flatMap_cons, ← flat_take hk xs i, List.take_append, hk, Nat.add_mul, List.take_of_length_le (by rw [hk]; omega)]
    congr 2; omega
theorem flat_drop {α : Type} {enc : α → List Value} {k : Nat} (hk : ∀ x, (enc x).length = k) : ∀ (xs : List α) (i : Nat), (xs.flatMap enc).drop (i * k) = (xs.drop i).flatMap enc
  | [], i => by simp
  | x :: xs, 0 => by simp
  | x :: xs, i + 1 => by
    rw [List.flatMap_cons, List.drop_succ_cons, ← flat_drop hk xs i, List.drop_append, hk, Nat.add_mul, List.drop_of_length_le (by rw [hk]; omega), List.nil_append]
    congr 1; omega
section
variable {P : Program} {e : Env} {w : World} {B : Base} {h : Heap} {M : List SA} {t : TypeId} {pos : String} {af : Array Edge} {g : Option (Nat × Bool)} {d : Option Nat} {K : Value → World → Prop}
/-- copy: all is read before anything is written. -/
theorem O.copy {T T' el k bytes gg n cap o m c sb so r sc q : Nat} {z : Value} {x y : Operand} {xs news : List Value} (I : Inv B h M w) (hT : Und P T (.slice el)) (he : ElT P el k bytes z) (n0 : Nat) (hn : M[n0]? = some (ownSl el k (.slice (some ⟨gg, 0, none⟩) n cap) n xs))
    (hx : ev e x = .slice (some ⟨gg, o * k, none⟩) m c) (hy : ev e y = .slice (some ⟨sb, so, none⟩) r sc) (hq : Nat.min r m = q) (hom : o + m ≤ n) (hr : Rd w sb so news) (hl : news.length = q * k) (h1 : oneCells news = true)
    (kk : ∀ w', Inv B h (M.set n0 (ownSl el k (.slice (some ⟨gg, 0, none⟩) n cap) n (over xs (o * k) news))) w' → K (.int .i64 q) w') :
    Op1 P ⟨d, .call { callee := .builtin .copy, args := #[x, y], argTypes := #[T, T'] }, t, pos, af, g⟩ e w K := by
  obtain ⟨ii, hi, hz, hsz, hby⟩ := he.info'
  subst hsz
  have hp : w.ownsRow 0 el ii.size (.slice (some ⟨gg, 0, none⟩) n cap) n xs := I.at n0 hn
  have hfp := (I.own _ (List.mem_of_getElem? hn)).2 gg (by simp [ownSl, Value.ownBlock])
  rcases hp.2 with ⟨h0, _⟩ | ⟨g', cap', cur, he', hb, hg, hnc, hcm, hcs, ht⟩
  · cases h0
  injection he' with e1 e2 e3; injection e1 with e1; injection e1 with e1; subst e1; subst e3
  have hqm : q ≤ m := by rw [← hq]; exact Nat.min_le_right _ _
  have hok : o * ii.size + news.length ≤ n * ii.size := by rw [hl, ← Nat.add_mul]; exact Nat.mul_le_mul_right _ (by omega)
  have hnk : n * ii.size ≤ cap * ii.size := Nat.mul_le_mul_right _ hnc
  have hone : ∀ u ∈ news, u.oneCell' = true := fun u hu => by
    simp only [oneCells, List.all_eq_true] at h1
    exact h1 u hu
  have hld := run_loadCells_list (P := P) (w := w) ⟨sb, so, none⟩ news (fun j v hj => by rw [addr_add]; exact hr j v hj)
  have hst := run_storeCells_at P gg (o * ii.size) el news 0 cur w hg (by rw [hcs]; omega) hone
  simp only [Nat.add_zero] at hst
  have hA : (execOp (ev e) ⟨d, .call { callee := .builtin .copy, args := #[x, y], argTypes := #[T, T'] }, t, pos, af, g⟩).run P w = .ok (.value (.int .i64 q)) (w.setRow gg (cur.toList.take (o * ii.size) ++ news ++ cur.toList.drop (o * ii.size + news.length)).toArray) := by
    simp [execOp, resolve, invoke, builtin, hx, hy, Builtin.copy_, run_underlying hT, Builtin.lenOf, Builtin.firstCells, sizeOf, typeInfo, hi, hq, ← hl, hld, hst, goInt]
  unfold Op1
  rw [hA]
  have hcl : cur.toList.length = cap * ii.size := by rw [Array.length_toList, hcs]
  refine kk _ (I.stepAt n0 hn rfl rfl rfl (by simp) (fun b hb hnb => setRow_other w gg b _ (fun e => hnb (by simp [ownSl, Value.ownBlock, e]))) ?_ (fun b hb => ?_))
  · refine ⟨?_, .inr ⟨gg, cap, _, rfl, hb, setRow_heap w gg cur _ el _ hg, hnc, hcm, ?_, ?_⟩⟩
    · rw [over_len (by rw [hp.1]; exact hok), hp.1]
    · simp only [List.size_toArray, List.length_append, List.length_take, List.length_drop, hcl]
      omega
    · rw [over_take _ _ _ _ hok (by rw [hcl]; exact hnk), ht]
  · have : b = gg := by simpa [ownSl, Value.ownBlock] using hb
    subst this
    exact ⟨.inl (by simp [ownSl, Value.ownBlock]), by simpa using hfp.2.1⟩
/-- Seen with some of its spare cells. -/
theorem Inv.widen {el k gg n cap m : Nat} {xs : List Value} (I : Inv B h (ownSl el k (.slice (some ⟨gg, 0, none⟩) n cap) n xs :: M) w) (hm : n + m ≤ cap) :
    ∃ ys, ys.length = m * k ∧ Inv B h (ownSl el k (.slice (some ⟨gg, 0, none⟩) (n + m) cap) (n + m) (xs ++ ys) :: M) w := by
  have hp : w.ownsRow 0 el k (.slice (some ⟨gg, 0, none⟩) n cap) n xs := (I.own _ (List.mem_cons_self ..)).1
  have hfp := (I.own _ (List.mem_cons_self ..)).2 gg (by simp [ownSl, Value.ownBlock])
  rcases hp.2 with ⟨h0, _⟩ | ⟨g', cap', cur, he, hb, hg, hnc, hcm, hcs, ht⟩
  · cases h0
  injection he with e1 e2 e3; injection e1 with e1; injection e1 with e1; subst e1; subst e3
  have hnk : (n + m) * k ≤ cap * k := Nat.mul_le_mul_right _ hm
  rw [Nat.add_mul] at hnk
  have hcl : cur.toList.length = cap * k := by rw [Array.length_toList, hcs]
  have hys : ((cur.toList.drop (n * k)).take (m * k)).length = m * k := by rw [List.length_take, List.length_drop, hcl]; omega
  refine ⟨(cur.toList.drop (n * k)).take (m * k), hys, I.step rfl rfl rfl (Nat.le_refl _) (fun _ _ _ => rfl) ?_ (fun b hb => ?_)⟩
  · refine ⟨by rw [List.length_append, hp.1, hys, Nat.add_mul], .inr ⟨gg, cap, cur, rfl, hb, hg, hm, hcm, hcs, ?_⟩⟩
    rw [← ht, Nat.add_mul, List.take_add]
  · have : b = gg := by simpa [ownSl, Value.ownBlock] using hb
    subst this
    exact ⟨.inl (by simp [ownSl, Value.ownBlock]), hfp.2.1⟩
/-- What is owned holds these cells. -/
theorem Inv.rdOwn {el k gg n cap : Nat} {xs : List Value} (I : Inv B h M w) (n0 : Nat) (hn : M[n0]? = some (ownSl el k (.slice (some ⟨gg, 0, none⟩) n cap) n xs)) (o m : Nat) : Rd w gg o ((xs.drop o).take m) := by
  have hp : w.ownsRow 0 el k (.slice (some ⟨gg, 0, none⟩) n cap) n xs := I.at n0 hn
  intro j v hj
  have := hp.cells (g := gg) rfl (o + j) v (by
    rw [List.getElem?_take] at hj
    split at hj
    · rwa [List.getElem?_drop] at hj
    · cases hj)
  rwa [addr_add, Nat.zero_add] at this
theorem Inv.shapeOwn {el k gg n cap : Nat} {xs : List Value} (I : Inv B h M w) (n0 : Nat) (hn : M[n0]? = some (ownSl el k (.slice (some ⟨gg, 0, none⟩) n cap) n xs)) : w.shape? gg = some (el, cap * k) ∧ n ≤ cap := by
  have hp : w.ownsRow 0 el k (.slice (some ⟨gg, 0, none⟩) n cap) n xs := I.at n0 hn
  rcases hp.2 with ⟨h0, _⟩ | ⟨g', cap', cur, he, hb, hg, hnc, hcm, hcs, ht⟩
  · cases h0
  injection he with e1 e2 e3; injection e1 with e1; injection e1 with e1; subst e1; subst e3
  exact ⟨by simp [World.shape?, hg, hcs], hnc⟩
/-- append(s, make([]T, m)...) where there is no room: a piece of its own, zeros behind. -/
theorem O.appendZ {T Tn el k bytes n m c sb so : Nat} {z : Value} {kn ki : IntKind} {x y : Operand} {olds : List Value} (I : Inv B h M w) (hT : Und P T (.slice el)) (hTn : Und P Tn (.int kn)) (he : ElT P el k bytes z) (hx : ev e x = .slice (some ⟨sb, so, none⟩) n c) (hr : Rd w sb so olds) (hl : olds.length = n * k) (hy : ev e y = .int ki m) (h0 : 0 < m) (hc : c < n + m) (hb : (n + m) * bytes ≤ 140737488355328) (h63 : n + m ≤ 140737488355328)
    (kk : ∀ gg cap w', Inv B h (ownSl el k (.slice (some ⟨gg, 0, none⟩) (n + m) cap) (n + m) (olds ++ (Builtin.zeroCells z.cells m).toList) :: M) w' → gg ≠ sb → K (.slice (some ⟨gg, 0, none⟩) (n + m) cap) w') (hlt : sb < w.heap.size) :
    Op1 P ⟨d, .call { callee := .builtin .append, args := #[x, y], argTypes := #[T, Tn] }, t, pos, af, g⟩ e w K := by
  obtain ⟨i, hi, hz, hsz, hby⟩ := he.info'
  subst hsz; subst hby
  have hold := run_firstCells_some (P := P) w.drew i.size n ⟨sb, so, none⟩ n c olds hl (fun j v hj => by rw [addr_add]; exact hr j v hj)
  have hmb : m * i.bytes ≤ (n + m) * i.bytes := Nat.mul_le_mul_right _ (by omega)
  have hrun := Go.Lib.run_append_grow_zeros (P := P) w T Tn t el i z ki kn hT hTn hi hz (some ⟨sb, so, none⟩) n c olds hold m h0 he.pos hc (by omega) (by omega) (growslice_fits hc hb)
  have hA : (execOp (ev e) ⟨d, .call { callee := .builtin .append, args := #[x, y], argTypes := #[T, Tn] }, t, pos, af, g⟩).run P w = .ok (.value (.slice (some ⟨w.heap.size, 0, none⟩) (n + m) (grownCap w (n + m) c el)))
      (w.drew.alloc (.cells (olds.toArray ++ Builtin.zeroCells z.cells m ++ Builtin.zeroCells z.cells (grownCap w (n + m) c el - (n + m))) el)) := by
    simp [execOp, resolve, invoke, builtin, hx, hy, hrun]
  unfold Op1
  rw [hA]
  have hge := grownCap_ge w (n + m) c el
  have hcm := grownCap_le_maxLen w (n + m) c el (by simp only [maxLen]; omega)
  obtain ⟨cs, hcs⟩ : ∃ cs : Array Value, cs = olds.toArray ++ Builtin.zeroCells z.cells m ++ Builtin.zeroCells z.cells (grownCap w (n + m) c el - (n + m)) := ⟨_, rfl⟩
  rw [← hcs]
  have hsize : cs.toList.length = grownCap w (n + m) c el * i.size := by
    rw [Array.length_toList, hcs]
    simp only [Array.size_append, List.size_toArray, size_zeroCells, he.cells, hl, ← Nat.add_mul]
    congr 1
    omega
  have htk : cs.toList.take ((n + m) * i.size) = olds ++ (Builtin.zeroCells z.cells m).toList := by
    rw [hcs]
    simp only [Array.toList_append]
    refine List.take_left' ?_
    simp only [List.length_append, Array.length_toList, size_zeroCells, he.cells, hl, Nat.add_mul]
  refine kk w.heap.size _ _ (I.gain (A := ownSl el i.size (.slice (some ⟨w.heap.size, 0, none⟩) (n + m) (grownCap w (n + m) c el)) (n + m) (olds ++ (Builtin.zeroCells z.cells m).toList)) ((Grow.drew w).trans (Grow.alloc _ _)) ?_ (fun b hb => by simp [ownSl, Value.ownBlock] at hb; subst hb; simp)) (by omega)
  have := ownsRow_made' w cs.toList el i.size (n + m) (grownCap w (n + m) c el) hsize hge hcm w.drew rfl
  rw [Array.toArray_toList, htk] at this
  exact this
/-- slices.overlaps, of two blocks: no. -/
theorem O.overlaps {f : FuncId} {x y : Operand} {ts : Array TypeId} {T R el k cx cy nx ny bx ox by_ oy : Nat} {tA tB : TypeId} {kA kB : Nat} (hrun : ∀ vs w, (callFunc f vs).run P w = ((Extern.SlicesOverlaps.overlaps #[T, T] #[R] vs).run P w).andThen fun v w' => .ok (.value v) w') (hT : Und P T (.slice el)) (hk : ∀ w, (sizeOf el).run P w = .ok k w)
    (hx : ev e x = .slice (some ⟨bx, ox, none⟩) nx cx) (hy : ev e y = .slice (some ⟨by_, oy, none⟩) ny cy) (hne : bx ≠ by_) (hA : w.shape? bx = some (tA, kA)) (hB : w.shape? by_ = some (tB, kB)) (hkB : kB ≠ 0) (hf : ∀ o, w.frozen? ⟨bx, o, none⟩ = false) :
    Y P ⟨d, .call { callee := .value (.func f), args := #[x, y], argTypes := ts }, t, pos, af, g⟩ e w (.bool false) := by
  have h1 := Go.Lib.run_overlaps_apart (P := P) w T R el hT k hk ⟨bx, ox, none⟩ ⟨by_, oy, none⟩ nx cx ny cy hne tA tB kA kB hA hB hkB (hf ox) (hf kA)
  have hc : ev e (.func f) = .func (.func f) #[] #[] := rfl
  simp [Y, execOp, resolve, hc, Deferred.ofValue, invoke, hx, hy, hrun, h1]
/-- A cut of what begins at its row's start. -/
theorem Y.cutO {T el k b n c l h' : Nat} {x : Operand} {lo hi : Option Operand} (hT : Und P T (.slice el)) (hk : ∀ w, (sizeOf el).run P w = .ok k w) (hx : ev e x = .slice (some ⟨b, 0, none⟩) n c)
    (hl : lo = none ∧ l = 0 ∨ ∃ q k, lo = some q ∧ ev e q = .int k (l : Int)) (hh : hi = none ∧ h' = n ∨ ∃ q k, hi = some q ∧ ev e q = .int k (h' : Int)) (h1 : l ≤ h') (h2 : h' ≤ c) (h3 : l < c) :
    Y P ⟨d, .slice T x lo hi none, t, pos, af, g⟩ e w (.slice (some ⟨b, l * k, none⟩) (h' - l) (c - l)) := by
  refine (Y.slicesl hT hk hx hl hh h1 h2).is ?_
  rw [if_neg (by omega), Nat.zero_add]
/-- One cell of what is owned is stored. -/
theorem O.storeS {T el k bytes gg n cap o : Nat} {z v : Value} {a x : Operand} {xs : List Value} (I : Inv B h M w) (hT : Ty P T 1 false) (he : ElT P el k bytes z) (n0 : Nat) (hn : M[n0]? = some (ownSl el k (.slice (some ⟨gg, 0, none⟩) n cap) n xs))
    (ha : ev e a = .pointer (some ⟨gg, o, none⟩)) (hx : ev e x = v) (hv : v.cells = #[v]) (h1 : v.oneCell' = true) (ho : o < xs.length) (kk : ∀ w', Inv B h (M.set n0 (ownSl el k (.slice (some ⟨gg, 0, none⟩) n cap) n (xs.set o v))) w' → K undef w') :
    Op1 P ⟨d, .store T a x, t, pos, af, g⟩ e w K := by
  obtain ⟨ii, hi, hz, hsz, hby⟩ := he.info'
  subst hsz
  have hp : w.ownsRow 0 el ii.size (.slice (some ⟨gg, 0, none⟩) n cap) n xs := I.at n0 hn
  have hfp := (I.own _ (List.mem_of_getElem? hn)).2 gg (by simp [ownSl, Value.ownBlock])
  rcases hp.2 with ⟨h0, _⟩ | ⟨g', cap', cur, he', hb, hg, hnc, hcm, hcs, ht⟩
  · cases h0
  injection he' with e1 e2 e3; injection e1 with e1; injection e1 with e1; subst e1; subst e3
  have hnk : n * ii.size ≤ cap * ii.size := Nat.mul_le_mul_right _ hnc
  have hxl := hp.1
  have hst := run_storeCells_at P gg o el [v] 0 cur w hg (by rw [hcs]; simp only [List.length_singleton]; omega) (by simpa using h1)
  simp only [Nat.add_zero] at hst
  have hA : (execOp (ev e) ⟨d, .store T a x, t, pos, af, g⟩).run P w = .ok .skip (w.setRow gg (cur.toList.take o ++ [v] ++ cur.toList.drop (o + [v].length)).toArray) := by
    simp [execOp, Instr.storeAt, Instr.sureAddr, ha, hx, storeVar, hv, hT.size, hst]
  unfold Op1
  rw [hA]
  have hcl : cur.toList.length = cap * ii.size := by rw [Array.length_toList, hcs]
  have hset : xs.set o v = over xs o [v] := by
    unfold over
    rw [List.set_eq_take_append_cons_drop, if_pos ho]
    simp
  refine kk _ (I.stepAt n0 hn rfl rfl rfl (by simp) (fun b hb hnb => setRow_other w gg b _ (fun e => hnb (by simp [ownSl, Value.ownBlock, e]))) ?_ (fun b hb => ?_))
  · refine ⟨?_, .inr ⟨gg, cap, _, rfl, hb, setRow_heap w gg cur _ el _ hg, hnc, hcm, ?_, ?_⟩⟩
    · rw [List.length_set, hp.1]
    · simp only [List.size_toArray, List.length_append, List.length_take, List.length_drop, hcl, List.length_singleton]
      omega
    · rw [over_take _ _ _ _ (by simp only [List.length_singleton]; omega) (by rw [hcl]; exact hnk), ht, hset]
  · have : b = gg := by simpa [ownSl, Value.ownBlock] using hb
    subst this
    exact ⟨.inl (by simp [ownSl, Value.ownBlock]), by simpa using hfp.2.1⟩
/-- A slice literal, its whole block told. -/
def LitW (el : TypeId) (cs : List Value) (n : Nat) (v : Value) (h : Heap) : Prop := ∃ b, v = .slice (some ⟨b, 0, none⟩) n n ∧ h b = some (.cells cs.toArray el (0, 0))
theorem LitW.mono {el : TypeId} {cs : List Value} {n : Nat} : MonoS (LitW el cs n) := fun _ _ _ hl hx => by
  obtain ⟨b, h1, h2⟩ := hx
  exact ⟨b, h1, hl _ _ h2⟩
theorem O.mklit {T el k n : Nat} {parts : Array (Nat × Operand)} {z : Value} {cs : List Value} {K : Value → World → Prop} (I : Inv B h M w) (hT : Und P T (.slice el)) (hk : ∀ w, (sizeOf el).run P w = .ok k w) (hz : Zero P el z) (hs : n * k ≤ 16777216) (h0 : n * k ≠ 0)
    (hf : fillL (fun i => some (i * k, k)) ((List.range (n * k)).map fun i => (cellsL z)[i % k]!) (parts.toList.map fun (i, x) => (i, ev e x)) = some cs) (hzc : (cellsL z).length = k)
    (kk : ∀ v h' w', Inv B h' M w' → h.le h' → LitW el cs n v h' → K v w') : Op1 P ⟨d, .buildSlice T n parts, t, pos, af, g⟩ e w K :=
  O.mkbox I hT hk hz hs h0 hf hzc fun b w' I' => by
    have hb := I'.at 0 rfl
    obtain ⟨h', hle, hfp, J⟩ := I'.settle
    exact kk _ h' w' J hle ⟨b, rfl, (hfp b (by simp [TF.box])).trans hb⟩
/-- A quiet call of a function value. -/
theorem QC.callcv {x : Operand} {f : FuncId} {fs cs : List Value} {args : Array Operand} {ts : Array TypeId} {vs : List Value} {r : Value}
    (I : Inv B h M w) (hf : Enters P f) (hx : ev e x = .func (.func f) fs.toArray cs.toArray) (hfn : Fn P f vs ⟨w, h⟩ (fun v _ => v = r)) (ha : fs ++ args.toList.map (ev e) ++ cs = vs) : QC P (Inv B h M) ⟨d, .call { callee := .value x, args := args, argTypes := ts }, t, pos, af, g⟩ e w r := by
  have ha' : fs.toArray ++ args.map (ev e) ++ cs.toArray = vs.toArray := by rw [← ha]; apply Array.ext'; simp
  have : (execOp (ev e) ⟨d, .call { callee := .value x, args := args, argTypes := ts }, t, pos, af, g⟩).run P w = .ok (.enter f vs.toArray) w := by
    simp only [execOp, resolve, hx, Deferred.ofValue]
    simp [invoke, ha', hf]
  unfold QC
  rw [this]
  refine ⟨rfl, Calls.mono hfn ?_⟩
  rintro x w' ⟨v, h', rfl, X, rfl⟩
  exact ⟨rfl, I.grow X.below⟩
end
end Go.TF
end
section
/- Places of facts, their order; which may be; checks of facts. -/
namespace Go.TF
open Go Go.RowKit Go.Proofs
set_option maxRecDepth 20000

@[reducible] def nEnc (n : Int) : List Value := [.int .i64 n]
/-- A variable that is never written again. -/
structure Known (h : Heap) (b : Nat) (cs : List Value) : Prop where
  rd : RdH h b 0 cs
theorem Known.le {h h' : Heap} {b : Nat} {cs : List Value} (k : Known h b cs) (hl : h.le h') : Known h' b cs := ⟨k.rd.le hl⟩
theorem Inv.settleBox {B : Base} {h : Heap} {M : List SA} {w : World} {b : Nat} {cs : List Value} {T : TypeId} (I : Inv B h (box b cs T :: M) w) : ∃ h', h.le h' ∧ Known h' b cs ∧ Inv B h' M w := by
  have hb := I.at 0 rfl
  obtain ⟨h', hle, hfp, J⟩ := I.settle
  refine ⟨h', hle, ⟨fun j v hv => ?_⟩, J⟩
  have : h' b = some (.cells cs.toArray T (0, 0)) := (hfp b (by simp [box])).trans hb
  simp only [Heap.cell, this, Nat.zero_add]
  simpa using hv
theorem isNaN_ok (B : Base) (hB : B.ok) (a : Int) : Fn Tryz.prog 180 [.int .i64 a] B (fun v _ => v = .bool false) := by
  refine Fn.of Tryz.func180 rfl Tryz.ntmps180 (by kernel_rfl) (by simp) ?_
  intro e
  have I := Inv.start hB
  refine WP.seq ?_
  refine WP.region ?_
  refine Ops.y (v := .bool _) (Y.assign rfl) ?_
  refine Ops.nil ?_
  refine WP.seq ?_
  refine WP.region ?_
  refine Ops.y (v := .int .i64 _) (Y.move rfl) ?_
  refine Ops.y (v := .int .i64 _) (Y.move rfl) ?_
  refine Ops.y (v := .bool (decide _)) (Y.nei rfl rfl) ?_
  refine Ops.y (v := .bool _) (Y.assign rfl) ?_
  refine Ops.nil ?_
  refine WP.ret ?_
  repeat (first | refine thenE_ret ?_ | refine blockE_ret ?_)
  exact retQ.mk (vs := [.bool _]) rfl ⟨rfl, trivial⟩ I.ext_of (by simp only [tup]; simp)
theorem Compare_ok (B : Base) (hB : B.ok) (a b : Int) : Fn Tryz.prog 159 [.int .i64 a, .int .i64 b] B (fun v _ => v = .int .i64 (cmpI a b)) := by
  refine Fn.of Tryz.func159 rfl Tryz.ntmps159 (by kernel_rfl) (by simp) ?_
  intro e
  have I := Inv.start hB
  refine WP.seq ?_
  refine WP.region ?_
  refine Ops.y (v := .int .i64 _) (Y.assign rfl) ?_
  refine Ops.nil ?_
  refine WP.seq ?_
  refine WP.region ?_
  refine Ops.y (v := .int .i64 _) (Y.move rfl) ?_
  refine Ops.go (O.callv I Tryz.call180 (isNaN_ok _ I.base_ok a) rfl ?_)
  intro w I
  refine Ops.y (v := .bool _) (Y.assign rfl) ?_
  refine Ops.nil ?_
  refine WP.seq ?_
  refine WP.region ?_
  refine Ops.y (v := .int .i64 _) (Y.move rfl) ?_
  refine Ops.go (O.callv I Tryz.call180 (isNaN_ok _ I.base_ok b) rfl ?_)
  intro w I
  refine Ops.y (v := .bool _) (Y.assign rfl) ?_
  refine Ops.nil ?_
  refine WP.seq ?_
  refine WP.seq ?_
  refine WP.region ?_
  refine Ops.y (v := .bool _) (Y.move rfl) ?_
  refine Ops.nil ?_
  refine WP.cond_f rfl ?_
  refine WP.skip ?_
  refine WP.seq ?_
  refine WP.seq ?_
  refine WP.region ?_
  refine Ops.y (v := .bool _) (Y.move rfl) ?_
  refine Ops.nil ?_
  refine WP.cond_f rfl ?_
  refine WP.skip ?_
  refine WP.seq ?_
  refine WP.seq ?_
  refine WP.region ?_
  refine Ops.y (v := .int .i64 _) (Y.move rfl) ?_
  refine Ops.y (v := .int .i64 _) (Y.move rfl) ?_
  refine Ops.y (v := .bool (decide _)) (Y.lti rfl rfl) ?_
  refine Ops.nil ?_
  refine WP.cond_dec rfl (fun h1 => ?_) (fun h1 => ?_)
  · refine WP.seq ?_
    refine WP.region ?_
    refine Ops.y (v := .int .i64 _) (Y.assign rfl) ?_
    refine Ops.nil ?_
    refine WP.ret ?_
    repeat (first | refine thenE_ret ?_ | refine blockE_ret ?_)
    exact retQ.mk (vs := [.int .i64 _]) rfl ⟨rfl, trivial⟩ I.ext_of (by simp only [tup, cmpI]; rw [if_pos h1])
  refine WP.skip ?_
  refine WP.seq ?_
  refine WP.seq ?_
  refine WP.region ?_
  refine Ops.y (v := .int .i64 _) (Y.move rfl) ?_
  refine Ops.y (v := .int .i64 _) (Y.move rfl) ?_
  refine Ops.y (v := .bool (decide _)) (Y.gti rfl rfl) ?_
  refine Ops.nil ?_
  refine WP.cond_dec rfl (fun h2 => ?_) (fun h2 => ?_)
  · refine WP.seq ?_
    refine WP.region ?_
    refine Ops.y (v := .int .i64 _) (Y.assign rfl) ?_
    refine Ops.nil ?_
    refine WP.ret ?_
    repeat (first | refine thenE_ret ?_ | refine blockE_ret ?_)
    exact retQ.mk (vs := [.int .i64 _]) rfl ⟨rfl, trivial⟩ I.ext_of (by simp only [tup, cmpI]; rw [if_neg h1, if_pos h2])
  refine WP.skip ?_
  refine WP.seq ?_
  refine WP.region ?_
  refine Ops.y (v := .int .i64 _) (Y.assign rfl) ?_
  refine Ops.nil ?_
  refine WP.ret ?_
  repeat (first | refine thenE_ret ?_ | refine blockE_ret ?_)
  exact retQ.mk (vs := [.int .i64 _]) rfl ⟨rfl, trivial⟩ I.ext_of (by simp only [tup, cmpI]; rw [if_neg h1, if_neg h2])
def orC (xs : List Int) : Int := (xs.find? fun n => decide (n ≠ 0)).getD 0
theorem orC_hit {xs : List Int} {k : Nat} (hk : k < xs.length) (h : ∀ j, j < k → ∀ hj : j < xs.length, xs[j] = 0) (hp : xs[k] ≠ 0) : orC xs = xs[k] := by
  have : xs.find? (fun n => decide (n ≠ 0)) = some xs[k] := List.find?_eq_some_iff_getElem.2 ⟨by simpa using hp, k, hk, rfl, fun j hj => by simpa using h j hj (by omega)⟩
  simp only [orC, this, Option.getD_some]
theorem orC_none {xs : List Int} (h : ∀ j, ∀ hj : j < xs.length, xs[j] = 0) : orC xs = 0 := by
  have : xs.find? (fun n => decide (n ≠ 0)) = none := List.find?_eq_none.2 fun x hx => by
    obtain ⟨j, hj, rfl⟩ := List.getElem_of_mem hx
    simpa using h j hj
  simp only [orC, this, Option.getD_none]
theorem cmpOr_ok (B : Base) (hB : B.ok) (l : Sl Int) (hl : l.Is 1 nEnc B.h) : Fn Tryz.prog 158 [l.val] B (fun v _ => v = .int .i64 (orC l.xs)) := by
  have hsm := hl.small
  refine Fn.of Tryz.func158 rfl Tryz.ntmps158 (by kernel_rfl) (by simp) ?_
  intro e
  have I := Inv.start hB
  refine WP.seq ?_
  refine WP.region ?_
  refine Ops.y (v := .int .i64 _) (Y.assign rfl) ?_
  refine Ops.nil ?_
  refine WP.seq ?_
  refine WP.region ?_
  refine Ops.y (v := .int .i64 _) (Y.assign rfl) ?_
  refine Ops.nil ?_
  refine WP.seq ?_
  refine WP.seq ?_
  refine WP.region ?_
  refine Ops.y (v := .slice _ _ _) (Y.move rfl) ?_
  refine Ops.y (v := .int .i64 _) (Y.lens Tryz.underlying45 rfl) ?_
  refine Ops.y (v := .int .i64 _) (Y.move rfl) ?_
  refine Ops.nil ?_
  refine WP.block ?_
  refine WP.loopE (σ := Nat) (fun k => [(3, .int .i64 0), (6, l.val), (7, .int .i64 l.xs.length), (8, .int .i64 k)]) (fun k w => Inv B B.h [] w ∧ k ≤ l.xs.length ∧ ∀ j, j < k → ∀ hj : j < l.xs.length, l.xs[j] = 0) (fun k => l.xs.length - k)
    ⟨0, ⟨rfl, rfl, rfl, rfl, trivial⟩, I, Nat.zero_le _, fun j hj => by omega⟩ ?_
  rintro k e w ⟨I, hk, hn⟩
  refine WP.seq ?_
  refine WP.region ?_
  refine Ops.y (v := .bool (decide _)) (Y.lti rfl rfl) ?_
  refine Ops.nil ?_
  refine WP.seq ?_
  refine WP.cond_dec rfl (fun h => ?_) (fun h => ?_)
  · have hk' : k < l.xs.length := by omega
    have E1 := hl.at hk'
    refine WP.skip ?_
    refine WP.seq ?_
    refine WP.block ?_
    refine WP.seq ?_
    refine WP.region ?_
    refine Ops.y (v := .pointer (some ⟨_, _, none⟩)) (Y.idxEl E1 Tryz.underlying45 Tryz.sizeOf3 rfl rfl (Int.natCast_nonneg _) rfl) ?_
    refine Ops.y (v := .int .i64 _) (Y.loadv ty_3 rfl (I.rd (E1.rd.part 0 1)) rfl rfl) ?_
    refine Ops.y (v := .int .i64 _) (Y.assign rfl) ?_
    refine Ops.nil ?_
    refine WP.seq ?_
    refine WP.region ?_
    refine Ops.y (v := .int .i64 _) (Y.move rfl) ?_
    refine Ops.y (v := .int .i64 _) (Y.move rfl) ?_
    refine Ops.y (v := .bool (decide _)) (Y.nei rfl rfl) ?_
    refine Ops.nil ?_
    refine WP.cond_dec rfl (fun h5 => ?_) (fun h5 => ?_)
    · refine WP.seq ?_
      refine WP.region ?_
      refine Ops.y (v := .int .i64 _) (Y.move rfl) ?_
      refine Ops.y (v := .int .i64 _) (Y.assign rfl) ?_
      refine Ops.nil ?_
      refine WP.ret ?_
      repeat (first | refine thenE_ret ?_ | refine blockE_ret ?_)
      exact retQ.mk (vs := [.int .i64 _]) rfl ⟨rfl, trivial⟩ I.ext_of (by simp only [tup]; rw [orC_hit hk' hn h5])
    refine WP.skip ?_
    refine WP.region ?_
    refine Ops.y (v := .int .i64 _) (Y.addi rfl rfl ⟨by omega, by omega⟩) ?_
    refine Ops.y (v := .int .i64 _) (Y.move rfl) ?_
    refine Ops.nil ?_
    exact ⟨k + 1, ⟨⟨rfl, rfl, rfl, rfl, trivial⟩, I, by omega, fun j hj hj' => by
      rcases Nat.lt_succ_iff_lt_or_eq.1 hj with h' | rfl
      · exact hn j h' hj'
      · exact Decidable.not_not.1 h5⟩, by omega⟩
  refine WP.exit ?_
  refine WP.seq ?_
  refine WP.region ?_
  refine Ops.y (v := .int .i64 _) (Y.move rfl) ?_
  refine Ops.y (v := .int .i64 _) (Y.assign rfl) ?_
  refine Ops.nil ?_
  refine WP.ret ?_
  repeat (first | refine thenE_ret ?_ | refine blockE_ret ?_)
  exact retQ.mk (vs := [.int .i64 _]) rfl ⟨rfl, trivial⟩ I.ext_of (by simp only [tup]; rw [orC_none fun j hj => hn j (by omega) hj])
theorem orC_three (a b c : Int) : orC [a, b, c] = if a ≠ 0 then a else if b ≠ 0 then b else c := by
  unfold orC
  by_cases ha : a = 0
  · by_cases hb : b = 0
    · by_cases hc : c = 0 <;> simp [ha, hb, hc]
    · simp [ha, hb]
  · simp [ha]
theorem order_ok (B : Base) (hB : B.ok) (x y : Fct) : Fn Tryz.prog 107 [x.val, y.val] B (fun v _ => v = .int .i64 (ordF x y)) := by
  refine Fn.of Tryz.func107 rfl Tryz.ntmps107 (by kernel_rfl) (by simp) ?_
  intro e
  have I := Inv.start hB
  refine WP.seq ?_
  refine WP.region ?_
  refine Ops.go (O.box (v := .agg #[_, _, _, _]) I rfl rfl ?_)
  intro b2 w I
  refine Ops.go (O.box (v := .agg #[_, _, _, _]) I rfl rfl ?_)
  intro b3 w I
  refine Ops.y (v := .int .i64 _) (Y.assign rfl) ?_
  refine Ops.nil ?_
  refine WP.seq ?_
  refine WP.regionF mixed I 18 (by kernel_rfl) ?_
  refine OpsF.y_ (v := .pointer (some ⟨_, _, none⟩)) (fun _ => runs_none _) (fun _ w us hl I => Y.fa0 fa_52_0 rfl) ?_
  refine OpsF.y_ (v := .int .i64 _) (fun _ => runs_none _) (fun _ w us hl I => Y.loadv ty_3 rfl (I.rdbox 1 rfl 0 1) rfl rfl) ?_
  refine OpsF.y_ (v := .pointer (some ⟨_, _, none⟩)) (fun _ => runs_none _) (fun _ w us hl I => Y.fa0 fa_52_0 rfl) ?_
  refine OpsF.y_ (v := .int .i64 _) (fun _ => runs_none _) (fun _ w us hl I => Y.loadv ty_3 rfl (I.rdbox 0 rfl 0 1) rfl rfl) ?_
  refine OpsF.c_ (fun _ => runs_none _) (fun _ w us hl I => O.callv I Tryz.call159 (Compare_ok _ I.base_ok _ _) rfl (fun w' I' => ⟨rfl, I'⟩)) ?_
  refine OpsF.y_ (v := .pointer (some ⟨_, _, none⟩)) (fun _ => runs_none _) (fun _ w us hl I => Y.fa fa_52_1 rfl) ?_
  refine OpsF.y_ (v := .int .i64 _) (fun _ => runs_none _) (fun _ w us hl I => Y.loadv ty_3 rfl (I.rdbox 1 rfl 1 1) rfl rfl) ?_
  refine OpsF.y_ (v := .pointer (some ⟨_, _, none⟩)) (fun _ => runs_none _) (fun _ w us hl I => Y.fa fa_52_1 rfl) ?_
  refine OpsF.y_ (v := .int .i64 _) (fun _ => runs_none _) (fun _ w us hl I => Y.loadv ty_3 rfl (I.rdbox 0 rfl 1 1) rfl rfl) ?_
  refine OpsF.c_ (fun _ => runs_none _) (fun _ w us hl I => O.callv I Tryz.call159 (Compare_ok _ I.base_ok _ _) rfl (fun w' I' => ⟨rfl, I'⟩)) ?_
  refine OpsF.y_ (v := .pointer (some ⟨_, _, none⟩)) (fun _ => runs_none _) (fun _ w us hl I => Y.fa fa_52_2 rfl) ?_
  refine OpsF.y_ (v := .int .i64 _) (fun _ => runs_none _) (fun _ w us hl I => Y.loadv ty_3 rfl (I.rdbox 1 rfl 2 1) rfl rfl) ?_
  refine OpsF.y_ (v := .pointer (some ⟨_, _, none⟩)) (fun _ => runs_none _) (fun _ w us hl I => Y.fa fa_52_2 rfl) ?_
  refine OpsF.y_ (v := .int .i64 _) (fun _ => runs_none _) (fun _ w us hl I => Y.loadv ty_3 rfl (I.rdbox 0 rfl 2 1) rfl rfl) ?_
  refine OpsF.c_ (fun _ => runs_none _) (fun _ w us hl I => O.callv I Tryz.call159 (Compare_ok _ I.base_ok _ _) rfl (fun w' I' => ⟨rfl, I'⟩)) ?_
  refine OpsF.x_ (Φ := SlS 1 nEnc [cmpI x.pred y.pred, cmpI x.a y.a, cmpI x.b y.b]) SlS.mono (fun _ => runs_none _) ?_ ?_
  · intro _ w hl I
    exact O.mksl (xs := [cmpI x.pred y.pred, cmpI x.a y.a, cmpI x.b y.b]) (enc := nEnc) I Tryz.underlying45 Tryz.sizeOf3 Tryz.zeroValue3 rfl (Nat.le_of_ble_eq_true rfl) rfl rfl (by decide) (fun _ => rfl) (fun b h w I le sl => ⟨h, le, I, ⟨⟨some ⟨b, 0, none⟩, _, [cmpI x.pred y.pred, cmpI x.a y.a, cmpI x.b y.b]⟩, rfl, rfl, ⟨sl, by simp⟩⟩⟩)
  refine OpsF.d_ (v := .int .i64 (ordF x y)) (fun _ => runs_none _) ?_ ?_
  · intro _ w hl I u20 q20
    obtain ⟨s, rfl, es, hs⟩ := q20 rfl
    exact O.callv I Tryz.call158 (cmpOr_ok _ I.base_ok s hs) rfl (fun w' I' => ⟨congrArg (Value.int .i64) ((congrArg orC es).trans (orC_three _ _ _)), I'⟩)
  refine OpsF.y_ (v := .int .i64 _) (fun _ => runs_none _) (fun _ w us hl I => Y.assign rfl) ?_
  refine OpsF.nil ?_
  intro _ w hl I u20 q20
  refine Ops.nil ?_
  refine WP.ret ?_
  repeat (first | refine thenE_ret ?_ | refine blockE_ret ?_)
  exact retQ.mk (vs := [.int .i64 _]) rfl ⟨rfl, trivial⟩ I.ext_of (rfl)
def mostA (p : Prd) (n : Int) : Int := if p.arity < n then 0 else 4
theorem Fine1_ok (B : Base) (hB : B.ok) (b : Nat) (p : Prd) (hb : Known B.h b p.enc) (n : Int) : Fn Tryz.prog 156 [.int .i64 n, .pointer (some ⟨b, 0, none⟩)] B (fun v _ => v = .int .i64 (mostA p n)) := by
  refine Fn.of Tryz.func156 rfl Tryz.ntmps156 (by kernel_rfl) (by simp) ?_
  intro e
  have I := Inv.start hB
  refine WP.seq ?_
  refine WP.region ?_
  refine Ops.y (v := .int .i64 _) (Y.assign rfl) ?_
  refine Ops.nil ?_
  refine WP.seq ?_
  refine WP.seq ?_
  refine WP.region ?_
  refine Ops.y (v := .pointer (some ⟨_, _, none⟩)) (Y.fa fa_62_1 rfl) ?_
  refine Ops.y (v := .int .i64 _) (Y.loadv ty_3 rfl (I.rd (hb.rd.part 1 1)) rfl rfl) ?_
  refine Ops.y (v := .int .i64 _) (Y.move rfl) ?_
  refine Ops.y (v := .bool (decide _)) (Y.lti rfl rfl) ?_
  refine Ops.nil ?_
  refine WP.cond_dec rfl (fun h => ?_) (fun h => ?_)
  · refine WP.seq ?_
    refine WP.region ?_
    refine Ops.y (v := .int .i64 _) (Y.assign rfl) ?_
    refine Ops.nil ?_
    refine WP.ret ?_
    repeat (first | refine thenE_ret ?_ | refine blockE_ret ?_)
    exact retQ.mk (vs := [.int .i64 _]) rfl ⟨rfl, trivial⟩ I.ext_of (by simp only [tup, mostA]; rw [if_pos h])
  refine WP.skip ?_
  refine WP.seq ?_
  refine WP.region ?_
  refine Ops.y (v := .int .i64 _) (Y.assign rfl) ?_
  refine Ops.nil ?_
  refine WP.ret ?_
  repeat (first | refine thenE_ret ?_ | refine blockE_ret ?_)
  exact retQ.mk (vs := [.int .i64 _]) rfl ⟨rfl, trivial⟩ I.ext_of (by simp only [tup, mostA]; rw [if_neg h])
theorem fine_code {l : List Prd} {x : Fct} (h : 0 ≤ x.pred ∧ x.pred < l.length) :
    factFine l x = decide (0 ≤ x.a ∧ x.a ≤ mostA (predOf l x.pred) 1 ∧ 0 ≤ x.b ∧ x.b ≤ mostA (predOf l x.pred) 2 ∧ checkVal (predOf l x.pred).kind x.v = 0) := by
  rw [Bool.eq_iff_iff, fine_iff, decide_eq_true_eq]
  unfold mostA VOk
  (repeat' split) <;> omega
theorem Fine_ok (B : Base) (hB : B.ok) (l : Sl Prd) (hl : Prds l B.h) (x : Fct) : Fn Tryz.prog 106 [l.val, x.val] B (fun v _ => v = .bool (factFine l.xs x)) := by
  have hsm := hl.small
  refine Fn.of Tryz.func106 rfl Tryz.ntmps106 (by kernel_rfl) (by simp) ?_
  intro e
  have I := Inv.start hB
  refine WP.seq ?_
  refine WP.region ?_
  refine Ops.go (O.box (v := .agg #[_, _, _, _]) I rfl rfl ?_)
  intro b3 w I
  refine Ops.y (v := .bool _) (Y.assign rfl) ?_
  refine Ops.nil ?_
  refine WP.seq ?_
  refine WP.seq ?_
  by_cases o0 : x.pred < 0
  · refine WP.region ?_
    refine Ops.y (v := .pointer (some ⟨_, _, none⟩)) (Y.fa0 fa_52_0 rfl) ?_
    refine Ops.y (v := .int .i64 _) (Y.loadv ty_3 rfl (I.rdbox 0 rfl 0 1) rfl rfl) ?_
    refine Ops.y (v := .bool true) (Y.dec_t (Y.lti rfl rfl) (o0)) ?_
    refine Ops.y (v := .bool _) (Y.move rfl) ?_
    refine Ops.gf rfl ?_
    refine Ops.gf rfl ?_
    refine Ops.gf rfl ?_
    refine Ops.gf rfl ?_
    refine Ops.gf rfl ?_
    refine Ops.y (v := .bool _) (Y.pick_t rfl rfl) ?_
    refine Ops.nil ?_
    refine WP.cond_t rfl ?_
    refine WP.seq ?_
    refine WP.region ?_
    refine Ops.y (v := .bool _) (Y.assign rfl) ?_
    refine Ops.nil ?_
    refine WP.ret ?_
    repeat (first | refine thenE_ret ?_ | refine blockE_ret ?_)
    exact retQ.mk (vs := [.bool _]) rfl ⟨rfl, trivial⟩ I.ext_of (by simp only [tup]; rw [show factFine l.xs x = false from by rw [Bool.eq_false_iff]; intro hh; have := (fine_iff.1 hh).1; omega])
  by_cases o1 : (l.xs.length : Int) ≤ x.pred
  · refine WP.region ?_
    refine Ops.y (v := .pointer (some ⟨_, _, none⟩)) (Y.fa0 fa_52_0 rfl) ?_
    refine Ops.y (v := .int .i64 _) (Y.loadv ty_3 rfl (I.rdbox 0 rfl 0 1) rfl rfl) ?_
    refine Ops.y (v := .bool false) (Y.dec_f (Y.lti rfl rfl) (o0)) ?_
    refine Ops.y (v := .bool _) (Y.move rfl) ?_
    refine Ops.ygt rfl (v := .pointer (some ⟨_, _, none⟩)) (Y.fa0 fa_52_0 rfl) ?_
    refine Ops.ygt rfl (v := .int .i64 _) (Y.loadv ty_3 rfl (I.rdbox 0 rfl 0 1) rfl rfl) ?_
    refine Ops.ygt rfl (v := .slice _ _ _) (Y.move rfl) ?_
    refine Ops.ygt rfl (v := .int .i64 _) (Y.lens Tryz.underlying22 rfl) ?_
    refine Ops.ygt rfl (v := .bool true) (Y.dec_t (Y.gei rfl rfl) (o1)) ?_
    refine Ops.y (v := .bool _) (Y.pick_f rfl rfl) ?_
    refine Ops.nil ?_
    refine WP.cond_t rfl ?_
    refine WP.seq ?_
    refine WP.region ?_
    refine Ops.y (v := .bool _) (Y.assign rfl) ?_
    refine Ops.nil ?_
    refine WP.ret ?_
    repeat (first | refine thenE_ret ?_ | refine blockE_ret ?_)
    exact retQ.mk (vs := [.bool _]) rfl ⟨rfl, trivial⟩ I.ext_of (by simp only [tup]; rw [show factFine l.xs x = false from by rw [Bool.eq_false_iff]; intro hh; have := (fine_iff.1 hh).1; omega])
  refine WP.region ?_
  refine Ops.y (v := .pointer (some ⟨_, _, none⟩)) (Y.fa0 fa_52_0 rfl) ?_
  refine Ops.y (v := .int .i64 _) (Y.loadv ty_3 rfl (I.rdbox 0 rfl 0 1) rfl rfl) ?_
  refine Ops.y (v := .bool false) (Y.dec_f (Y.lti rfl rfl) (o0)) ?_
  refine Ops.y (v := .bool _) (Y.move rfl) ?_
  refine Ops.ygt rfl (v := .pointer (some ⟨_, _, none⟩)) (Y.fa0 fa_52_0 rfl) ?_
  refine Ops.ygt rfl (v := .int .i64 _) (Y.loadv ty_3 rfl (I.rdbox 0 rfl 0 1) rfl rfl) ?_
  refine Ops.ygt rfl (v := .slice _ _ _) (Y.move rfl) ?_
  refine Ops.ygt rfl (v := .int .i64 _) (Y.lens Tryz.underlying22 rfl) ?_
  refine Ops.ygt rfl (v := .bool false) (Y.dec_f (Y.gei rfl rfl) (o1)) ?_
  refine Ops.y (v := .bool _) (Y.pick_f rfl rfl) ?_
  refine Ops.nil ?_
  refine WP.cond_f rfl ?_
  have hk : x.pred.toNat < l.xs.length := by omega
  have h01 : 0 ≤ x.pred ∧ x.pred < l.xs.length := by omega
  have E1 := hl.at hk
  have hpo : l.xs[x.pred.toNat] = predOf l.xs x.pred := (predOf_getE h01.1 h01.2).symm
  refine WP.skip ?_
  refine WP.seq ?_
  refine WP.region ?_
  refine Ops.y (v := .slice _ _ _) (Y.move rfl) ?_
  refine Ops.y (v := .pointer (some ⟨_, _, none⟩)) (Y.fa0 fa_52_0 rfl) ?_
  refine Ops.y (v := .int .i64 _) (Y.loadv ty_3 rfl (I.rdbox 0 rfl 0 1) rfl rfl) ?_
  refine Ops.y (v := .pointer (some ⟨_, _, none⟩)) (Y.idxEl E1 Tryz.underlying22 Tryz.sizeOf62 rfl rfl h01.1 rfl) ?_
  refine Ops.y (v := .agg #[_, _, _]) (Y.loadv ty_62 rfl (I.rd (E1.rd.part 0 3)) rfl rfl) ?_
  refine Ops.go (O.alloc I Tryz.zeroValue62 rfl ?_)
  intro b5 w I
  refine Ops.go (O.store (v := .agg #[_, _, _]) I ty_62 0 rfl rfl rfl rfl rfl rfl (Nat.le_of_ble_eq_true rfl) rfl ?_)
  intro w I
  refine Ops.nil ?_
  rw [hpo] at I
  obtain ⟨h5, le5, hb5, I⟩ := I.settleBox
  refine WP.seq ?_
  refine WP.region ?_
  refine Ops.y (v := .func _ _ _) (Y.mkfunc rfl rfl) ?_
  refine Ops.y (v := .func _ _ _) (Y.assign rfl) ?_
  refine Ops.nil ?_
  by_cases a0 : 0 ≤ x.a
  case neg =>
    refine WP.seq ?_
    refine WP.regionQ mixed I (by kernel_rfl) ?_
    refine OpsQ.y (v := .pointer (some ⟨_, _, none⟩)) (fun w I => Y.fa fa_52_1 rfl) ?_
    refine OpsQ.y (v := .int .i64 _) (fun w I => Y.loadv ty_3 rfl (I.rdbox 0 rfl 1 1) rfl rfl) ?_
    refine OpsQ.y (v := .bool false) (fun w I => Y.dec_f (Y.gei rfl rfl) (a0)) ?_
    refine OpsQ.y (v := .bool _) (fun w I => Y.move rfl) ?_
    refine OpsQ.gf rfl ?_
    refine OpsQ.gf rfl ?_
    refine OpsQ.gf rfl ?_
    refine OpsQ.gf rfl ?_
    refine OpsQ.gf rfl ?_
    refine OpsQ.y (v := .bool _) (fun w I => Y.pick_f rfl rfl) ?_
    refine OpsQ.y (v := .bool _) (fun w I => Y.move rfl) ?_
    refine OpsQ.gf rfl ?_
    refine OpsQ.gf rfl ?_
    refine OpsQ.gf rfl ?_
    refine OpsQ.y (v := .bool _) (fun w I => Y.pick_f rfl rfl) ?_
    refine OpsQ.y (v := .bool _) (fun w I => Y.move rfl) ?_
    refine OpsQ.gf rfl ?_
    refine OpsQ.gf rfl ?_
    refine OpsQ.gf rfl ?_
    refine OpsQ.gf rfl ?_
    refine OpsQ.gf rfl ?_
    refine OpsQ.y (v := .bool _) (fun w I => Y.pick_f rfl rfl) ?_
    refine OpsQ.y (v := .bool _) (fun w I => Y.move rfl) ?_
    refine OpsQ.gf rfl ?_
    refine OpsQ.gf rfl ?_
    refine OpsQ.gf rfl ?_
    refine OpsQ.gf rfl ?_
    refine OpsQ.gf rfl ?_
    refine OpsQ.gf rfl ?_
    refine OpsQ.y (v := .bool _) (fun w I => Y.pick_f rfl rfl) ?_
    refine OpsQ.y (v := .bool _) (fun w I => Y.assign rfl) ?_
    refine OpsQ.nil ?_
    intro w I
    refine WP.ret ?_
    repeat (first | refine thenE_ret ?_ | refine blockE_ret ?_)
    exact retQ.mk (vs := [.bool _]) rfl ⟨rfl, trivial⟩ I.ext_of (by simp only [tup]; rw [fine_code h01, decide_eq_false (fun hh => a0 hh.1)])
  by_cases a1 : x.a ≤ mostA (predOf l.xs x.pred) 1
  case neg =>
    refine WP.seq ?_
    refine WP.regionQ mixed I (by kernel_rfl) ?_
    refine OpsQ.y (v := .pointer (some ⟨_, _, none⟩)) (fun w I => Y.fa fa_52_1 rfl) ?_
    refine OpsQ.y (v := .int .i64 _) (fun w I => Y.loadv ty_3 rfl (I.rdbox 0 rfl 1 1) rfl rfl) ?_
    refine OpsQ.y (v := .bool true) (fun w I => Y.dec_t (Y.gei rfl rfl) (a0)) ?_
    refine OpsQ.y (v := .bool _) (fun w I => Y.move rfl) ?_
    refine OpsQ.ygt rfl (v := .pointer (some ⟨_, _, none⟩)) (fun w I => Y.fa fa_52_1 rfl) ?_
    refine OpsQ.ygt rfl (v := .int .i64 _) (fun w I => Y.loadv ty_3 rfl (I.rdbox 0 rfl 1 1) rfl rfl) ?_
    refine OpsQ.ygt rfl (v := .func _ _ _) (fun w I => Y.move rfl) ?_
    refine OpsQ.cgt rfl (fun w I => QC.callcv I Tryz.call156 (fs := []) (cs := [.pointer (some ⟨b5, 0, none⟩)]) rfl (Fine1_ok _ I.base_ok b5 _ hb5 1) rfl) ?_
    refine OpsQ.ygt rfl (v := .bool false) (fun w I => Y.dec_f (Y.lei rfl rfl) (a1)) ?_
    refine OpsQ.y (v := .bool _) (fun w I => Y.pick_t rfl rfl) ?_
    refine OpsQ.y (v := .bool _) (fun w I => Y.move rfl) ?_
    refine OpsQ.gf rfl ?_
    refine OpsQ.gf rfl ?_
    refine OpsQ.gf rfl ?_
    refine OpsQ.y (v := .bool _) (fun w I => Y.pick_f rfl rfl) ?_
    refine OpsQ.y (v := .bool _) (fun w I => Y.move rfl) ?_
    refine OpsQ.gf rfl ?_
    refine OpsQ.gf rfl ?_
    refine OpsQ.gf rfl ?_
    refine OpsQ.gf rfl ?_
    refine OpsQ.gf rfl ?_
    refine OpsQ.y (v := .bool _) (fun w I => Y.pick_f rfl rfl) ?_
    refine OpsQ.y (v := .bool _) (fun w I => Y.move rfl) ?_
    refine OpsQ.gf rfl ?_
    refine OpsQ.gf rfl ?_
    refine OpsQ.gf rfl ?_
    refine OpsQ.gf rfl ?_
    refine OpsQ.gf rfl ?_
    refine OpsQ.gf rfl ?_
    refine OpsQ.y (v := .bool _) (fun w I => Y.pick_f rfl rfl) ?_
    refine OpsQ.y (v := .bool _) (fun w I => Y.assign rfl) ?_
    refine OpsQ.nil ?_
    intro w I
    refine WP.ret ?_
    repeat (first | refine thenE_ret ?_ | refine blockE_ret ?_)
    exact retQ.mk (vs := [.bool _]) rfl ⟨rfl, trivial⟩ I.ext_of (by simp only [tup]; rw [fine_code h01, decide_eq_false (fun hh => a1 hh.2.1)])
  by_cases b0 : 0 ≤ x.b
  case neg =>
    refine WP.seq ?_
    refine WP.regionQ mixed I (by kernel_rfl) ?_
    refine OpsQ.y (v := .pointer (some ⟨_, _, none⟩)) (fun w I => Y.fa fa_52_1 rfl) ?_
    refine OpsQ.y (v := .int .i64 _) (fun w I => Y.loadv ty_3 rfl (I.rdbox 0 rfl 1 1) rfl rfl) ?_
    refine OpsQ.y (v := .bool true) (fun w I => Y.dec_t (Y.gei rfl rfl) (a0)) ?_
    refine OpsQ.y (v := .bool _) (fun w I => Y.move rfl) ?_
    refine OpsQ.ygt rfl (v := .pointer (some ⟨_, _, none⟩)) (fun w I => Y.fa fa_52_1 rfl) ?_
    refine OpsQ.ygt rfl (v := .int .i64 _) (fun w I => Y.loadv ty_3 rfl (I.rdbox 0 rfl 1 1) rfl rfl) ?_
    refine OpsQ.ygt rfl (v := .func _ _ _) (fun w I => Y.move rfl) ?_
    refine OpsQ.cgt rfl (fun w I => QC.callcv I Tryz.call156 (fs := []) (cs := [.pointer (some ⟨b5, 0, none⟩)]) rfl (Fine1_ok _ I.base_ok b5 _ hb5 1) rfl) ?_
    refine OpsQ.ygt rfl (v := .bool true) (fun w I => Y.dec_t (Y.lei rfl rfl) (a1)) ?_
    refine OpsQ.y (v := .bool _) (fun w I => Y.pick_t rfl rfl) ?_
    refine OpsQ.y (v := .bool _) (fun w I => Y.move rfl) ?_
    refine OpsQ.ygt rfl (v := .pointer (some ⟨_, _, none⟩)) (fun w I => Y.fa fa_52_2 rfl) ?_
    refine OpsQ.ygt rfl (v := .int .i64 _) (fun w I => Y.loadv ty_3 rfl (I.rdbox 0 rfl 2 1) rfl rfl) ?_
    refine OpsQ.ygt rfl (v := .bool false) (fun w I => Y.dec_f (Y.gei rfl rfl) (b0)) ?_
    refine OpsQ.y (v := .bool _) (fun w I => Y.pick_t rfl rfl) ?_
    refine OpsQ.y (v := .bool _) (fun w I => Y.move rfl) ?_
    refine OpsQ.gf rfl ?_
    refine OpsQ.gf rfl ?_
    refine OpsQ.gf rfl ?_
    refine OpsQ.gf rfl ?_
    refine OpsQ.gf rfl ?_
    refine OpsQ.y (v := .bool _) (fun w I => Y.pick_f rfl rfl) ?_
    refine OpsQ.y (v := .bool _) (fun w I => Y.move rfl) ?_
    refine OpsQ.gf rfl ?_
    refine OpsQ.gf rfl ?_
    refine OpsQ.gf rfl ?_
    refine OpsQ.gf rfl ?_
    refine OpsQ.gf rfl ?_
    refine OpsQ.gf rfl ?_
    refine OpsQ.y (v := .bool _) (fun w I => Y.pick_f rfl rfl) ?_
    refine OpsQ.y (v := .bool _) (fun w I => Y.assign rfl) ?_
    refine OpsQ.nil ?_
    intro w I
    refine WP.ret ?_
    repeat (first | refine thenE_ret ?_ | refine blockE_ret ?_)
    exact retQ.mk (vs := [.bool _]) rfl ⟨rfl, trivial⟩ I.ext_of (by simp only [tup]; rw [fine_code h01, decide_eq_false (fun hh => b0 hh.2.2.1)])
  by_cases b1 : x.b ≤ mostA (predOf l.xs x.pred) 2
  case neg =>
    refine WP.seq ?_
    refine WP.regionQ mixed I (by kernel_rfl) ?_
    refine OpsQ.y (v := .pointer (some ⟨_, _, none⟩)) (fun w I => Y.fa fa_52_1 rfl) ?_
    refine OpsQ.y (v := .int .i64 _) (fun w I => Y.loadv ty_3 rfl (I.rdbox 0 rfl 1 1) rfl rfl) ?_
    refine OpsQ.y (v := .bool true) (fun w I => Y.dec_t (Y.gei rfl rfl) (a0)) ?_
    refine OpsQ.y (v := .bool _) (fun w I => Y.move rfl) ?_
    refine OpsQ.ygt rfl (v := .pointer (some ⟨_, _, none⟩)) (fun w I => Y.fa fa_52_1 rfl) ?_
    refine OpsQ.ygt rfl (v := .int .i64 _) (fun w I => Y.loadv ty_3 rfl (I.rdbox 0 rfl 1 1) rfl rfl) ?_
    refine OpsQ.ygt rfl (v := .func _ _ _) (fun w I => Y.move rfl) ?_
    refine OpsQ.cgt rfl (fun w I => QC.callcv I Tryz.call156 (fs := []) (cs := [.pointer (some ⟨b5, 0, none⟩)]) rfl (Fine1_ok _ I.base_ok b5 _ hb5 1) rfl) ?_
    refine OpsQ.ygt rfl (v := .bool true) (fun w I => Y.dec_t (Y.lei rfl rfl) (a1)) ?_
    refine OpsQ.y (v := .bool _) (fun w I => Y.pick_t rfl rfl) ?_
    refine OpsQ.y (v := .bool _) (fun w I => Y.move rfl) ?_
    refine OpsQ.ygt rfl (v := .pointer (some ⟨_, _, none⟩)) (fun w I => Y.fa fa_52_2 rfl) ?_
    refine OpsQ.ygt rfl (v := .int .i64 _) (fun w I => Y.loadv ty_3 rfl (I.rdbox 0 rfl 2 1) rfl rfl) ?_
    refine OpsQ.ygt rfl (v := .bool true) (fun w I => Y.dec_t (Y.gei rfl rfl) (b0)) ?_
    refine OpsQ.y (v := .bool _) (fun w I => Y.pick_t rfl rfl) ?_
    refine OpsQ.y (v := .bool _) (fun w I => Y.move rfl) ?_
    refine OpsQ.ygt rfl (v := .pointer (some ⟨_, _, none⟩)) (fun w I => Y.fa fa_52_2 rfl) ?_
    refine OpsQ.ygt rfl (v := .int .i64 _) (fun w I => Y.loadv ty_3 rfl (I.rdbox 0 rfl 2 1) rfl rfl) ?_
    refine OpsQ.ygt rfl (v := .func _ _ _) (fun w I => Y.move rfl) ?_
    refine OpsQ.cgt rfl (fun w I => QC.callcv I Tryz.call156 (fs := []) (cs := [.pointer (some ⟨b5, 0, none⟩)]) rfl (Fine1_ok _ I.base_ok b5 _ hb5 2) rfl) ?_
    refine OpsQ.ygt rfl (v := .bool false) (fun w I => Y.dec_f (Y.lei rfl rfl) (b1)) ?_
    refine OpsQ.y (v := .bool _) (fun w I => Y.pick_t rfl rfl) ?_
    refine OpsQ.y (v := .bool _) (fun w I => Y.move rfl) ?_
    refine OpsQ.gf rfl ?_
    refine OpsQ.gf rfl ?_
    refine OpsQ.gf rfl ?_
    refine OpsQ.gf rfl ?_
    refine OpsQ.gf rfl ?_
    refine OpsQ.gf rfl ?_
    refine OpsQ.y (v := .bool _) (fun w I => Y.pick_f rfl rfl) ?_
    refine OpsQ.y (v := .bool _) (fun w I => Y.assign rfl) ?_
    refine OpsQ.nil ?_
    intro w I
    refine WP.ret ?_
    repeat (first | refine thenE_ret ?_ | refine blockE_ret ?_)
    exact retQ.mk (vs := [.bool _]) rfl ⟨rfl, trivial⟩ I.ext_of (by simp only [tup]; rw [fine_code h01, decide_eq_false (fun hh => b1 hh.2.2.2.1)])
  refine WP.seq ?_
  refine WP.regionQ mixed I (by kernel_rfl) ?_
  refine OpsQ.y (v := .pointer (some ⟨_, _, none⟩)) (fun w I => Y.fa fa_52_1 rfl) ?_
  refine OpsQ.y (v := .int .i64 _) (fun w I => Y.loadv ty_3 rfl (I.rdbox 0 rfl 1 1) rfl rfl) ?_
  refine OpsQ.y (v := .bool true) (fun w I => Y.dec_t (Y.gei rfl rfl) (a0)) ?_
  refine OpsQ.y (v := .bool _) (fun w I => Y.move rfl) ?_
  refine OpsQ.ygt rfl (v := .pointer (some ⟨_, _, none⟩)) (fun w I => Y.fa fa_52_1 rfl) ?_
  refine OpsQ.ygt rfl (v := .int .i64 _) (fun w I => Y.loadv ty_3 rfl (I.rdbox 0 rfl 1 1) rfl rfl) ?_
  refine OpsQ.ygt rfl (v := .func _ _ _) (fun w I => Y.move rfl) ?_
  refine OpsQ.cgt rfl (fun w I => QC.callcv I Tryz.call156 (fs := []) (cs := [.pointer (some ⟨b5, 0, none⟩)]) rfl (Fine1_ok _ I.base_ok b5 _ hb5 1) rfl) ?_
  refine OpsQ.ygt rfl (v := .bool true) (fun w I => Y.dec_t (Y.lei rfl rfl) (a1)) ?_
  refine OpsQ.y (v := .bool _) (fun w I => Y.pick_t rfl rfl) ?_
  refine OpsQ.y (v := .bool _) (fun w I => Y.move rfl) ?_
  refine OpsQ.ygt rfl (v := .pointer (some ⟨_, _, none⟩)) (fun w I => Y.fa fa_52_2 rfl) ?_
  refine OpsQ.ygt rfl (v := .int .i64 _) (fun w I => Y.loadv ty_3 rfl (I.rdbox 0 rfl 2 1) rfl rfl) ?_
  refine OpsQ.ygt rfl (v := .bool true) (fun w I => Y.dec_t (Y.gei rfl rfl) (b0)) ?_
  refine OpsQ.y (v := .bool _) (fun w I => Y.pick_t rfl rfl) ?_
  refine OpsQ.y (v := .bool _) (fun w I => Y.move rfl) ?_
  refine OpsQ.ygt rfl (v := .pointer (some ⟨_, _, none⟩)) (fun w I => Y.fa fa_52_2 rfl) ?_
  refine OpsQ.ygt rfl (v := .int .i64 _) (fun w I => Y.loadv ty_3 rfl (I.rdbox 0 rfl 2 1) rfl rfl) ?_
  refine OpsQ.ygt rfl (v := .func _ _ _) (fun w I => Y.move rfl) ?_
  refine OpsQ.cgt rfl (fun w I => QC.callcv I Tryz.call156 (fs := []) (cs := [.pointer (some ⟨b5, 0, none⟩)]) rfl (Fine1_ok _ I.base_ok b5 _ hb5 2) rfl) ?_
  refine OpsQ.ygt rfl (v := .bool true) (fun w I => Y.dec_t (Y.lei rfl rfl) (b1)) ?_
  refine OpsQ.y (v := .bool _) (fun w I => Y.pick_t rfl rfl) ?_
  refine OpsQ.y (v := .bool _) (fun w I => Y.move rfl) ?_
  refine OpsQ.ygt rfl (v := .pointer (some ⟨_, _, none⟩)) (fun w I => Y.fa fa_62_2 rfl) ?_
  refine OpsQ.ygt rfl (v := .int .i64 _) (fun w I => Y.loadv ty_3 rfl (I.rd (hb5.rd.part 2 1)) rfl rfl) ?_
  refine OpsQ.ygt rfl (v := .pointer (some ⟨_, _, none⟩)) (fun w I => Y.fa fa_52_3 rfl) ?_
  refine OpsQ.ygt rfl (v := .int .i64 _) (fun w I => Y.loadv ty_3 rfl (I.rdbox 0 rfl 3 1) rfl rfl) ?_
  refine OpsQ.cgt rfl (fun w I => QC.callv I Tryz.call157 (Check_ok _ I.base_ok _ _) rfl) ?_
  refine OpsQ.ygt rfl (v := .bool (decide _)) (fun w I => Y.eqi rfl rfl) ?_
  refine OpsQ.y (v := .bool _) (fun w I => Y.pick_t rfl rfl) ?_
  refine OpsQ.y (v := .bool _) (fun w I => Y.assign rfl) ?_
  refine OpsQ.nil ?_
  intro w I
  refine WP.ret ?_
  repeat (first | refine thenE_ret ?_ | refine blockE_ret ?_)
  exact retQ.mk (vs := [.bool _]) rfl ⟨rfl, trivial⟩ I.ext_of (by simp only [tup]; rw [fine_code h01]; congr 1; rw [decide_eq_decide]; exact ⟨fun hh => ⟨a0, a1, b0, b1, hh⟩, fun hh => hh.2.2.2.2⟩)
theorem Check1_ok (B : Base) (hB : B.ok) (x : Prd) : Fn Tryz.prog 105 [x.val] B (fun v _ => v = .bool (!predFine x)) := by
  refine Fn.of Tryz.func105 rfl Tryz.ntmps105 (by kernel_rfl) (by simp) ?_
  intro e
  have I := Inv.start hB
  refine WP.seq ?_
  refine WP.region ?_
  refine Ops.go (O.box (v := .agg #[_, _, _]) I rfl rfl ?_)
  intro b1 w I
  refine Ops.y (v := .bool _) (Y.assign rfl) ?_
  refine Ops.nil ?_
  refine WP.seq ?_
  by_cases o0 : x.kind < 0
  · refine WP.region ?_
    refine Ops.y (v := .pointer (some ⟨_, _, none⟩)) (Y.fa fa_62_2 rfl) ?_
    refine Ops.y (v := .int .i64 _) (Y.loadv ty_3 rfl (I.rdbox 0 rfl 2 1) rfl rfl) ?_
    refine Ops.y (v := .bool true) (Y.dec_t (Y.lti rfl rfl) (o0)) ?_
    refine Ops.y (v := .bool _) (Y.move rfl) ?_
    refine Ops.gf rfl ?_
    refine Ops.gf rfl ?_
    refine Ops.gf rfl ?_
    refine Ops.y (v := .bool _) (Y.pick_t rfl rfl) ?_
    refine Ops.y (v := .bool _) (Y.move rfl) ?_
    refine Ops.gf rfl ?_
    refine Ops.gf rfl ?_
    refine Ops.gf rfl ?_
    refine Ops.y (v := .bool _) (Y.pick_t rfl rfl) ?_
    refine Ops.y (v := .bool _) (Y.move rfl) ?_
    refine Ops.gf rfl ?_
    refine Ops.gf rfl ?_
    refine Ops.gf rfl ?_
    refine Ops.y (v := .bool _) (Y.pick_t rfl rfl) ?_
    refine Ops.y (v := .bool _) (Y.assign rfl) ?_
    refine Ops.nil ?_
    refine WP.ret ?_
    repeat (first | refine thenE_ret ?_ | refine blockE_ret ?_)
    exact retQ.mk (vs := [.bool _]) rfl ⟨rfl, trivial⟩ I.ext_of (by simp only [tup]; rw [show predFine x = false from by unfold predFine; rw [decide_eq_false (by omega)]]; rfl)
  by_cases o1 : 3 < x.kind
  · refine WP.region ?_
    refine Ops.y (v := .pointer (some ⟨_, _, none⟩)) (Y.fa fa_62_2 rfl) ?_
    refine Ops.y (v := .int .i64 _) (Y.loadv ty_3 rfl (I.rdbox 0 rfl 2 1) rfl rfl) ?_
    refine Ops.y (v := .bool false) (Y.dec_f (Y.lti rfl rfl) (o0)) ?_
    refine Ops.y (v := .bool _) (Y.move rfl) ?_
    refine Ops.ygt rfl (v := .pointer (some ⟨_, _, none⟩)) (Y.fa fa_62_2 rfl) ?_
    refine Ops.ygt rfl (v := .int .i64 _) (Y.loadv ty_3 rfl (I.rdbox 0 rfl 2 1) rfl rfl) ?_
    refine Ops.ygt rfl (v := .bool true) (Y.dec_t (Y.gti rfl rfl) (o1)) ?_
    refine Ops.y (v := .bool _) (Y.pick_f rfl rfl) ?_
    refine Ops.y (v := .bool _) (Y.move rfl) ?_
    refine Ops.gf rfl ?_
    refine Ops.gf rfl ?_
    refine Ops.gf rfl ?_
    refine Ops.y (v := .bool _) (Y.pick_t rfl rfl) ?_
    refine Ops.y (v := .bool _) (Y.move rfl) ?_
    refine Ops.gf rfl ?_
    refine Ops.gf rfl ?_
    refine Ops.gf rfl ?_
    refine Ops.y (v := .bool _) (Y.pick_t rfl rfl) ?_
    refine Ops.y (v := .bool _) (Y.assign rfl) ?_
    refine Ops.nil ?_
    refine WP.ret ?_
    repeat (first | refine thenE_ret ?_ | refine blockE_ret ?_)
    exact retQ.mk (vs := [.bool _]) rfl ⟨rfl, trivial⟩ I.ext_of (by simp only [tup]; rw [show predFine x = false from by unfold predFine; rw [decide_eq_false (by omega)]]; rfl)
  by_cases o2 : x.arity < 0
  · refine WP.region ?_
    refine Ops.y (v := .pointer (some ⟨_, _, none⟩)) (Y.fa fa_62_2 rfl) ?_
    refine Ops.y (v := .int .i64 _) (Y.loadv ty_3 rfl (I.rdbox 0 rfl 2 1) rfl rfl) ?_
    refine Ops.y (v := .bool false) (Y.dec_f (Y.lti rfl rfl) (o0)) ?_
    refine Ops.y (v := .bool _) (Y.move rfl) ?_
    refine Ops.ygt rfl (v := .pointer (some ⟨_, _, none⟩)) (Y.fa fa_62_2 rfl) ?_
    refine Ops.ygt rfl (v := .int .i64 _) (Y.loadv ty_3 rfl (I.rdbox 0 rfl 2 1) rfl rfl) ?_
    refine Ops.ygt rfl (v := .bool false) (Y.dec_f (Y.gti rfl rfl) (o1)) ?_
    refine Ops.y (v := .bool _) (Y.pick_f rfl rfl) ?_
    refine Ops.y (v := .bool _) (Y.move rfl) ?_
    refine Ops.ygt rfl (v := .pointer (some ⟨_, _, none⟩)) (Y.fa fa_62_1 rfl) ?_
    refine Ops.ygt rfl (v := .int .i64 _) (Y.loadv ty_3 rfl (I.rdbox 0 rfl 1 1) rfl rfl) ?_
    refine Ops.ygt rfl (v := .bool true) (Y.dec_t (Y.lti rfl rfl) (o2)) ?_
    refine Ops.y (v := .bool _) (Y.pick_f rfl rfl) ?_
    refine Ops.y (v := .bool _) (Y.move rfl) ?_
    refine Ops.gf rfl ?_
    refine Ops.gf rfl ?_
    refine Ops.gf rfl ?_
    refine Ops.y (v := .bool _) (Y.pick_t rfl rfl) ?_
    refine Ops.y (v := .bool _) (Y.assign rfl) ?_
    refine Ops.nil ?_
    refine WP.ret ?_
    repeat (first | refine thenE_ret ?_ | refine blockE_ret ?_)
    exact retQ.mk (vs := [.bool _]) rfl ⟨rfl, trivial⟩ I.ext_of (by simp only [tup]; rw [show predFine x = false from by unfold predFine; rw [decide_eq_false (by omega)]]; rfl)
  refine WP.region ?_
  refine Ops.y (v := .pointer (some ⟨_, _, none⟩)) (Y.fa fa_62_2 rfl) ?_
  refine Ops.y (v := .int .i64 _) (Y.loadv ty_3 rfl (I.rdbox 0 rfl 2 1) rfl rfl) ?_
  refine Ops.y (v := .bool false) (Y.dec_f (Y.lti rfl rfl) (o0)) ?_
  refine Ops.y (v := .bool _) (Y.move rfl) ?_
  refine Ops.ygt rfl (v := .pointer (some ⟨_, _, none⟩)) (Y.fa fa_62_2 rfl) ?_
  refine Ops.ygt rfl (v := .int .i64 _) (Y.loadv ty_3 rfl (I.rdbox 0 rfl 2 1) rfl rfl) ?_
  refine Ops.ygt rfl (v := .bool false) (Y.dec_f (Y.gti rfl rfl) (o1)) ?_
  refine Ops.y (v := .bool _) (Y.pick_f rfl rfl) ?_
  refine Ops.y (v := .bool _) (Y.move rfl) ?_
  refine Ops.ygt rfl (v := .pointer (some ⟨_, _, none⟩)) (Y.fa fa_62_1 rfl) ?_
  refine Ops.ygt rfl (v := .int .i64 _) (Y.loadv ty_3 rfl (I.rdbox 0 rfl 1 1) rfl rfl) ?_
  refine Ops.ygt rfl (v := .bool false) (Y.dec_f (Y.lti rfl rfl) (o2)) ?_
  refine Ops.y (v := .bool _) (Y.pick_f rfl rfl) ?_
  refine Ops.y (v := .bool _) (Y.move rfl) ?_
  refine Ops.ygt rfl (v := .pointer (some ⟨_, _, none⟩)) (Y.fa fa_62_1 rfl) ?_
  refine Ops.ygt rfl (v := .int .i64 _) (Y.loadv ty_3 rfl (I.rdbox 0 rfl 1 1) rfl rfl) ?_
  refine Ops.ygt rfl (v := .bool (decide _)) (Y.gti rfl rfl) ?_
  refine Ops.y (v := .bool _) (Y.pick_f rfl rfl) ?_
  refine Ops.y (v := .bool _) (Y.assign rfl) ?_
  refine Ops.nil ?_
  refine WP.ret ?_
  repeat (first | refine thenE_ret ?_ | refine blockE_ret ?_)
  exact retQ.mk (vs := [.bool _]) rfl ⟨rfl, trivial⟩ I.ext_of (by simp only [tup, predFine]; congr 1; rw [← decide_not, decide_eq_decide]; omega)
theorem factsB_good {l : List Prd} {f : List Fct} (h : ∀ k, (hk : k < f.length) → factFine l f[k] = true ∧ (0 < k → placeF f[k - 1] < placeF f[k])) : factsB l f = true := by
  unfold factsB
  rw [Bool.and_eq_true, List.all_eq_true, sorted_iff]
  refine ⟨fun x hx => ?_, sorted_of fun i hi => ?_⟩
  · obtain ⟨j, hj, rfl⟩ := List.getElem_of_mem hx
    exact (h j hj).1
  · have := (h (i + 1) hi).2 (by omega)
    simpa using this
theorem factsB_bad {l : List Prd} {f : List Fct} {k : Nat} (hk : k < f.length) (h : factFine l f[k] = false ∨ 0 < k ∧ ¬ placeF f[k - 1] < placeF f[k]) : factsB l f = false := by
  rw [Bool.eq_false_iff]
  intro hh
  unfold factsB at hh
  rw [Bool.and_eq_true, List.all_eq_true, sorted_iff] at hh
  rcases h with h | ⟨h0, h⟩
  · rw [hh.1 _ (List.getElem_mem hk)] at h; cases h
  · exact h (hh.2.get (by omega) hk)
set_option maxHeartbeats 1000000 in
theorem BCheck_ok (B : Base) (hB : B.ok) (l : Sl Prd) (hl : Prds l B.h) (f : Sl Fct) (hf : Fcts f B.h) : Fn Tryz.prog 45 [l.val, f.val] B (fun v _ => v = .int .i64 (checkFacts l.xs f.xs)) := by
  have hsm := hl.small
  have hsf := hf.small
  refine Fn.of Tryz.func45 rfl Tryz.ntmps45 (by kernel_rfl) (by simp) ?_
  intro e
  have I := Inv.start hB
  refine WP.seq ?_
  refine WP.region ?_
  refine Ops.y (v := .int .i64 _) (Y.assign rfl) ?_
  refine Ops.nil ?_
  by_cases o0 : 5 < (l.xs.length : Int)
  · refine WP.seq ?_
    refine WP.seq ?_
    refine WP.region ?_
    refine Ops.y (v := .slice _ _ _) (Y.move rfl) ?_
    refine Ops.y (v := .int .i64 _) (Y.lens Tryz.underlying22 rfl) ?_
    refine Ops.y (v := .bool true) (Y.dec_t (Y.gti rfl rfl) (o0)) ?_
    refine Ops.y (v := .bool _) (Y.move rfl) ?_
    refine Ops.gf rfl ?_
    refine Ops.gf rfl ?_
    refine Ops.y (v := .bool _) (Y.pick_t rfl rfl) ?_
    refine Ops.nil ?_
    refine WP.cond_t rfl ?_
    refine WP.seq ?_
    refine WP.region ?_
    refine Ops.y (v := .int .i64 _) (Y.assign rfl) ?_
    refine Ops.nil ?_
    refine WP.ret ?_
    repeat (first | refine thenE_ret ?_ | refine blockE_ret ?_)
    exact retQ.mk (vs := [.int .i64 _]) rfl ⟨rfl, trivial⟩ I.ext_of (by simp only [tup, checkFacts]; rw [show predsBad l.xs = true from by unfold predsBad; rw [decide_eq_true (show 5 < l.xs.length by omega), Bool.true_or]]; rfl)
  refine WP.seq ?_
  refine WP.seq ?_
  refine WP.region ?_
  refine Ops.y (v := .slice _ _ _) (Y.move rfl) ?_
  refine Ops.y (v := .int .i64 _) (Y.lens Tryz.underlying22 rfl) ?_
  refine Ops.y (v := .bool false) (Y.dec_f (Y.gti rfl rfl) (o0)) ?_
  refine Ops.y (v := .bool _) (Y.move rfl) ?_
  refine Ops.ygt rfl (v := .slice _ _ _) (Y.move rfl) ?_
  refine Ops.gt rfl (O.callv I Tryz.call104 (ContainsFuncPrd_ok _ I.base_ok l hl 105 Tryz.call105 [] [] (fun p => !predFine p) (fun B' hB' _ x _ => Check1_ok B' hB' x)) rfl ?_)
  intro w I
  refine Ops.y (v := .bool _) (Y.pick_f rfl rfl) ?_
  refine Ops.nil ?_
  refine WP.cond rfl (fun hb => ?_) (fun hb => ?_)
  · refine WP.seq ?_
    refine WP.region ?_
    refine Ops.y (v := .int .i64 _) (Y.assign rfl) ?_
    refine Ops.nil ?_
    refine WP.ret ?_
    repeat (first | refine thenE_ret ?_ | refine blockE_ret ?_)
    exact retQ.mk (vs := [.int .i64 _]) rfl ⟨rfl, trivial⟩ I.ext_of (by simp only [tup, checkFacts]; rw [show predsBad l.xs = true from by unfold predsBad; rw [show l.xs.all predFine = false from by rw [List.all_eq_false]; rw [List.any_eq_true] at hb; simpa using hb]; simp]; rfl)
  have hlen : l.xs.length ≤ 5 := by omega
  have hpb : predsBad l.xs = false := by
    unfold predsBad
    rw [decide_eq_false (by omega), Bool.false_or, Bool.not_eq_false', List.all_eq_true]
    rw [List.any_eq_false] at hb
    intro x hx; simpa using hb x hx
  refine WP.skip ?_
  refine WP.seq ?_
  refine WP.seq ?_
  refine WP.region ?_
  refine Ops.y (v := .slice _ _ _) (Y.move rfl) ?_
  refine Ops.y (v := .int .i64 _) (Y.lens Tryz.underlying26 rfl) ?_
  refine Ops.y (v := .int .i64 _) (Y.move rfl) ?_
  refine Ops.nil ?_
  refine WP.block ?_
  refine WP.loopE (σ := Nat) (fun k => [(0, l.val), (1, f.val), (14, f.val), (15, .int .i64 f.xs.length), (16, .int .i64 k)]) (fun k w => Inv B B.h [] w ∧ k ≤ f.xs.length ∧ ∀ j, j < k → ∀ hj : j < f.xs.length, factFine l.xs f.xs[j] = true ∧ (0 < j → placeF f.xs[j - 1] < placeF f.xs[j])) (fun k => f.xs.length - k)
    ⟨0, ⟨rfl, rfl, rfl, rfl, rfl, trivial⟩, I, Nat.zero_le _, fun j hj => by omega⟩ ?_
  rintro k e w ⟨I, hk, hn⟩
  refine WP.seq ?_
  refine WP.region ?_
  refine Ops.y (v := .bool (decide _)) (Y.lti rfl rfl) ?_
  refine Ops.nil ?_
  refine WP.seq ?_
  refine WP.cond_dec rfl (fun h => ?_) (fun h => ?_)
  · have hk' : k < f.xs.length := by omega
    have E1 := hf.at hk'
    refine WP.skip ?_
    refine WP.seq ?_
    refine WP.block ?_
    refine WP.seq ?_
    refine WP.region ?_
    refine Ops.y (v := .int .i64 _) (Y.move rfl) ?_
    refine Ops.y (v := .pointer (some ⟨_, _, none⟩)) (Y.idxEl E1 Tryz.underlying26 Tryz.sizeOf52 rfl rfl (Int.natCast_nonneg _) rfl) ?_
    refine Ops.y (v := .agg #[_, _, _, _]) (Y.loadv ty_52 rfl (I.rd (E1.rd.part 0 4)) rfl rfl) ?_
    refine Ops.go (O.alloc I Tryz.zeroValue52 rfl ?_)
    intro b6 w I
    refine Ops.y (v := .int .i64 _) (Y.assign rfl) ?_
    refine Ops.go (O.store (v := .agg #[_, _, _, _]) I ty_52 0 rfl rfl rfl rfl rfl rfl (Nat.le_of_ble_eq_true rfl) rfl ?_)
    intro w I
    refine Ops.nil ?_
    cases hff : factFine l.xs f.xs[k]
    · refine WP.seq ?_
      refine WP.regionQ mixed I (by kernel_rfl) ?_
      refine OpsQ.y (v := .slice _ _ _) (fun w I => Y.move rfl) ?_
      refine OpsQ.y (v := .agg #[_, _, _, _]) (fun w I => Y.loadv ty_52 rfl (I.rdbox 0 rfl 0 4) rfl rfl) ?_
      refine OpsQ.c (fun w I => QC.callv I Tryz.call106 (Fine_ok _ I.base_ok l hl _) rfl) ?_
      refine OpsQ.y (v := .bool true) (fun w I => Y.b (Y.not rfl) ((by rw [hff]; rfl))) ?_
      refine OpsQ.y (v := .bool _) (fun w I => Y.move rfl) ?_
      refine OpsQ.gf rfl ?_
      refine OpsQ.gf rfl ?_
      refine OpsQ.gf rfl ?_
      refine OpsQ.gf rfl ?_
      refine OpsQ.gf rfl ?_
      refine OpsQ.gf rfl ?_
      refine OpsQ.gf rfl ?_
      refine OpsQ.gf rfl ?_
      refine OpsQ.gf rfl ?_
      refine OpsQ.gf rfl ?_
      refine OpsQ.gf rfl ?_
      refine OpsQ.gf rfl ?_
      refine OpsQ.y (v := .bool _) (fun w I => Y.pick_t rfl rfl) ?_
      refine OpsQ.nil ?_
      intro w I
      refine WP.cond_t rfl ?_
      refine WP.seq ?_
      refine WP.region ?_
      refine Ops.y (v := .int .i64 _) (Y.assign rfl) ?_
      refine Ops.nil ?_
      refine WP.ret ?_
      repeat (first | refine thenE_ret ?_ | refine blockE_ret ?_)
      exact retQ.mk (vs := [.int .i64 _]) rfl ⟨rfl, trivial⟩ I.ext_of (by simp only [tup, checkFacts, hpb, factsB_bad hk' (Or.inl hff)]; rfl)
    by_cases h0 : 0 < (k : Int)
    · have E0 := hf.at (i := k - 1) (by omega)
      have p0 := fine_pf hlen (hn (k - 1) (by omega) (by omega)).1
      have p1 := fine_pf hlen hff
      refine WP.seq ?_
      refine WP.regionQ mixed I (by kernel_rfl) ?_
      refine OpsQ.y (v := .slice _ _ _) (fun w I => Y.move rfl) ?_
      refine OpsQ.y (v := .agg #[_, _, _, _]) (fun w I => Y.loadv ty_52 rfl (I.rdbox 0 rfl 0 4) rfl rfl) ?_
      refine OpsQ.c (fun w I => QC.callv I Tryz.call106 (Fine_ok _ I.base_ok l hl _) rfl) ?_
      refine OpsQ.y (v := .bool false) (fun w I => Y.b (Y.not rfl) ((by rw [hff]; rfl))) ?_
      refine OpsQ.y (v := .bool _) (fun w I => Y.move rfl) ?_
      refine OpsQ.ygt rfl (v := .int .i64 _) (fun w I => Y.move rfl) ?_
      refine OpsQ.ygt rfl (v := .bool true) (fun w I => Y.dec_t (Y.gti rfl rfl) (h0)) ?_
      refine OpsQ.ygt rfl (v := .bool _) (fun w I => Y.move rfl) ?_
      refine OpsQ.ygt rfl (v := .slice _ _ _) (fun w I => Y.move rfl) ?_
      refine OpsQ.ygt rfl (v := .int .i64 _) (fun w I => Y.move rfl) ?_
      refine OpsQ.ygt rfl (v := .int .i64 _) (fun w I => Y.subi rfl rfl ⟨by omega, by omega⟩) ?_
      refine OpsQ.ygt rfl (v := .pointer (some ⟨_, _, none⟩)) (fun w I => Y.idxEl E0 Tryz.underlying26 Tryz.sizeOf52 rfl rfl (by omega) (by omega)) ?_
      refine OpsQ.ygt rfl (v := .agg #[_, _, _, _]) (fun w I => Y.loadv ty_52 rfl (I.rd (E0.rd.part 0 4)) rfl rfl) ?_
      refine OpsQ.ygt rfl (v := .agg #[_, _, _, _]) (fun w I => Y.loadv ty_52 rfl (I.rdbox 0 rfl 0 4) rfl rfl) ?_
      refine OpsQ.cgt rfl (fun w I => QC.callv I Tryz.call107 (order_ok _ I.base_ok _ _) rfl) ?_
      refine OpsQ.ygt rfl (v := .bool (decide _)) (fun w I => Y.gei rfl rfl) ?_
      refine OpsQ.ygt rfl (v := .bool _) (fun w I => Y.pick_t rfl rfl) ?_
      refine OpsQ.y (v := .bool _) (fun w I => Y.pick_f rfl rfl) ?_
      refine OpsQ.nil ?_
      intro w I
      refine WP.cond_dec rfl (fun h6 => ?_) (fun h6 => ?_)
      · refine WP.seq ?_
        refine WP.region ?_
        refine Ops.y (v := .int .i64 _) (Y.assign rfl) ?_
        refine Ops.nil ?_
        refine WP.ret ?_
        repeat (first | refine thenE_ret ?_ | refine blockE_ret ?_)
        exact retQ.mk (vs := [.int .i64 _]) rfl ⟨rfl, trivial⟩ I.ext_of (by simp only [tup, checkFacts, hpb, factsB_bad hk' (Or.inr ⟨by omega, fun hlt => by have := (ordF_neg p0 p1).2 hlt; omega⟩)]; rfl)
      refine WP.skip ?_
      refine WP.region ?_
      refine Ops.y (v := .int .i64 _) (Y.addi rfl rfl ⟨by omega, by omega⟩) ?_
      refine Ops.y (v := .int .i64 _) (Y.move rfl) ?_
      refine Ops.nil ?_
      exact ⟨k + 1, ⟨⟨rfl, rfl, rfl, rfl, rfl, trivial⟩, I.drop, by omega, fun j hj hj' => by
        rcases Nat.lt_succ_iff_lt_or_eq.1 hj with h' | rfl
        · exact hn j h' hj'
        · exact ⟨hff, fun _ => (ordF_neg p0 p1).1 (by omega)⟩⟩, by omega⟩
    · refine WP.seq ?_
      refine WP.regionQ mixed I (by kernel_rfl) ?_
      refine OpsQ.y (v := .slice _ _ _) (fun w I => Y.move rfl) ?_
      refine OpsQ.y (v := .agg #[_, _, _, _]) (fun w I => Y.loadv ty_52 rfl (I.rdbox 0 rfl 0 4) rfl rfl) ?_
      refine OpsQ.c (fun w I => QC.callv I Tryz.call106 (Fine_ok _ I.base_ok l hl _) rfl) ?_
      refine OpsQ.y (v := .bool false) (fun w I => Y.b (Y.not rfl) ((by rw [hff]; rfl))) ?_
      refine OpsQ.y (v := .bool _) (fun w I => Y.move rfl) ?_
      refine OpsQ.ygt rfl (v := .int .i64 _) (fun w I => Y.move rfl) ?_
      refine OpsQ.ygt rfl (v := .bool false) (fun w I => Y.dec_f (Y.gti rfl rfl) (h0)) ?_
      refine OpsQ.ygt rfl (v := .bool _) (fun w I => Y.move rfl) ?_
      refine OpsQ.gf rfl ?_
      refine OpsQ.gf rfl ?_
      refine OpsQ.gf rfl ?_
      refine OpsQ.gf rfl ?_
      refine OpsQ.gf rfl ?_
      refine OpsQ.gf rfl ?_
      refine OpsQ.gf rfl ?_
      refine OpsQ.gf rfl ?_
      refine OpsQ.ygt rfl (v := .bool _) (fun w I => Y.pick_f rfl rfl) ?_
      refine OpsQ.y (v := .bool _) (fun w I => Y.pick_f rfl rfl) ?_
      refine OpsQ.nil ?_
      intro w I
      refine WP.cond_f rfl ?_
      refine WP.skip ?_
      refine WP.region ?_
      refine Ops.y (v := .int .i64 _) (Y.addi rfl rfl ⟨by omega, by omega⟩) ?_
      refine Ops.y (v := .int .i64 _) (Y.move rfl) ?_
      refine Ops.nil ?_
      exact ⟨k + 1, ⟨⟨rfl, rfl, rfl, rfl, rfl, trivial⟩, I.drop, by omega, fun j hj hj' => by
        rcases Nat.lt_succ_iff_lt_or_eq.1 hj with h' | rfl
        · exact hn j h' hj'
        · exact ⟨hff, fun h2 => by omega⟩⟩, by omega⟩
  refine WP.exit ?_
  refine WP.seq ?_
  refine WP.region ?_
  refine Ops.y (v := .int .i64 _) (Y.assign rfl) ?_
  refine Ops.nil ?_
  refine WP.ret ?_
  repeat (first | refine thenE_ret ?_ | refine blockE_ret ?_)
  exact retQ.mk (vs := [.int .i64 _]) rfl ⟨rfl, trivial⟩ I.ext_of (by simp only [tup, checkFacts, hpb, factsB_good fun j hj => hn j (by omega) hj]; rfl)
end Go.TF
end
section
/- Finding a fact; being under. -/
namespace Go.TF
open Go Go.RowKit Go.Proofs
set_option maxRecDepth 20000

theorem Bsf_ok (B : Base) (hB : B.ok) (f : Sl Fct) (hf : Fcts f B.h) (hp : ∀ y ∈ f.xs, PF y) (hs : SrtF f.xs) (x : Fct) (hx : PF x) :
    Fn Tryz.prog 139 [f.val, x.val, .func (.func 107) #[] #[]] B (fun v _ => v = .tuple #[.int .i64 (posF f.xs x : Nat), .bool (isF f.xs x)]) := by
  have hsf := hf.small
  refine Fn.of Tryz.func139 rfl Tryz.ntmps139 (by kernel_rfl) (by simp) ?_
  intro e
  have I := Inv.start hB
  refine WP.seq ?_
  refine WP.region ?_
  refine Ops.go (O.box (v := .agg #[_, _, _, _]) I rfl rfl ?_)
  intro b4 w I
  refine Ops.y (v := .int .i64 _) (Y.assign rfl) ?_
  refine Ops.y (v := .bool _) (Y.assign rfl) ?_
  refine Ops.nil ?_
  refine WP.seq ?_
  refine WP.region ?_
  refine Ops.y (v := .slice _ _ _) (Y.move rfl) ?_
  refine Ops.y (v := .int .i64 _) (Y.lens Tryz.underlying26 rfl) ?_
  refine Ops.y (v := .int .i64 _) (Y.assign rfl) ?_
  refine Ops.nil ?_
  refine WP.seq ?_
  refine WP.region ?_
  refine Ops.y (v := .int .i64 _) (Y.move rfl) ?_
  refine Ops.y (v := .int .i64 _) (Y.assign rfl) ?_
  refine Ops.y (v := .int .i64 _) (Y.assign rfl) ?_
  refine Ops.nil ?_
  refine WP.seq ?_
  refine WP.block ?_
  refine WP.loopE (σ := Nat × Nat) (fun s => [(0, f.val), (2, .func (.func 107) #[] #[]), (4, .pointer (some ⟨b4, 0, none⟩)), (8, .int .i64 f.xs.length), (9, .int .i64 s.1), (10, .int .i64 s.2)])
    (fun s w => Inv B B.h [box b4 x.enc 52] w ∧ s.1 ≤ s.2 ∧ s.2 ≤ f.xs.length ∧ (∀ m, (h : m < f.xs.length) → m < s.1 → placeF f.xs[m] < placeF x) ∧ (∀ m, (h : m < f.xs.length) → s.2 ≤ m → ¬ placeF f.xs[m] < placeF x)) (fun s => s.2 - s.1)
    ⟨(0, f.xs.length), ⟨rfl, rfl, rfl, rfl, rfl, rfl, trivial⟩, I, Nat.zero_le _, Nat.le_refl _, fun m h hm => absurd hm (Nat.not_lt_zero _), fun m h hm => absurd h (Nat.not_lt.2 hm)⟩ ?_
  rintro ⟨i, j⟩ e w ⟨I, hij, hjn, hlo, hhi⟩
  dsimp only at I hij hjn hlo hhi ⊢
  refine WP.seq ?_
  refine WP.seq ?_
  refine WP.region ?_
  refine Ops.y (v := .int .i64 _) (Y.move rfl) ?_
  refine Ops.y (v := .int .i64 _) (Y.move rfl) ?_
  refine Ops.y (v := .bool (decide _)) (Y.lti rfl rfl) ?_
  refine Ops.nil ?_
  refine WP.cond_dec rfl (fun h => ?_) (fun h => ?_)
  · have hm : (i + j) / 2 < f.xs.length := by omega
    have E1 := hf.at hm
    have pm := hp _ (List.getElem_mem hm)
    refine WP.skip ?_
    refine WP.block ?_
    refine WP.seq ?_
    refine WP.region ?_
    refine Ops.y (v := .int .i64 _) (Y.move rfl) ?_
    refine Ops.y (v := .int .i64 _) (Y.move rfl) ?_
    refine Ops.y (v := .int .i64 _) (Y.addi rfl rfl ⟨by omega, by omega⟩) ?_
    refine Ops.y (v := .int .u64 _) (Y.conv (by rw [Tryz.underlying3]; rfl) Tryz.underlying207 (wrap_u64 (by omega) (by omega)) rfl) ?_
    refine Ops.y (v := .int .u64 _) (Y.half (by decide) rfl rfl) ?_
    refine Ops.y (v := .int .i64 _) (Y.conv (by rw [Tryz.underlying207]; rfl) Tryz.underlying3 (wrap_i64 ⟨by omega, by omega⟩) rfl) ?_
    refine Ops.y (v := .int .i64 _) (Y.assign rfl) ?_
    refine Ops.nil ?_
    refine WP.seq ?_
    refine WP.regionQ mixed I (by kernel_rfl) ?_
    refine OpsQ.y (v := .func _ _ _) (fun w I => Y.move rfl) ?_
    refine OpsQ.y (v := .slice _ _ _) (fun w I => Y.move rfl) ?_
    refine OpsQ.y (v := .int .i64 _) (fun w I => Y.move rfl) ?_
    refine OpsQ.y (v := .pointer (some ⟨_, _, none⟩)) (fun w I => Y.idxEl E1 Tryz.underlying26 Tryz.sizeOf52 rfl rfl (by omega) (by omega)) ?_
    refine OpsQ.y (v := .agg #[_, _, _, _]) (fun w I => Y.loadv ty_52 rfl (I.rd (E1.rd.part 0 4)) rfl rfl) ?_
    refine OpsQ.y (v := .agg #[_, _, _, _]) (fun w I => Y.loadv ty_52 rfl (I.rdbox 0 rfl 0 4) rfl rfl) ?_
    refine OpsQ.c (fun w I => QC.callcv I Tryz.call107 (fs := []) (cs := []) rfl (order_ok _ I.base_ok _ _) rfl) ?_
    refine OpsQ.y (v := .bool (decide _)) (fun w I => Y.lti rfl rfl) ?_
    refine OpsQ.nil ?_
    intro w I
    refine WP.cond_dec rfl (fun h5 => ?_) (fun h5 => ?_)
    · have hlt := (ordF_neg pm hx).1 h5
      refine WP.region ?_
      refine Ops.y (v := .int .i64 _) (Y.move rfl) ?_
      refine Ops.y (v := .int .i64 _) (Y.addi rfl rfl ⟨by omega, by omega⟩) ?_
      refine Ops.y (v := .int .i64 _) (Y.assign rfl) ?_
      refine Ops.nil ?_
      exact ⟨((i + j) / 2 + 1, j), ⟨⟨rfl, rfl, rfl, rfl, by simp only [E, upd]; congr 1, rfl, trivial⟩, I, by omega, hjn, fun m h hm' => by
        rcases Nat.lt_or_ge m ((i + j) / 2) with h' | h'
        · exact Int.lt_trans (hs.get h' hm) hlt
        · obtain rfl : m = (i + j) / 2 := by omega
          exact hlt, hhi⟩, by omega⟩
    have hge : ¬ placeF f.xs[(i + j) / 2] < placeF x := fun hh => h5 ((ordF_neg pm hx).2 hh)
    refine WP.region ?_
    refine Ops.y (v := .int .i64 _) (Y.move rfl) ?_
    refine Ops.y (v := .int .i64 _) (Y.assign rfl) ?_
    refine Ops.nil ?_
    exact ⟨(i, (i + j) / 2), ⟨⟨rfl, rfl, rfl, rfl, rfl, by simp only [E, upd]; congr 1, trivial⟩, I, by omega, by omega, hlo, fun m h hm' => by
        rcases Nat.lt_or_ge ((i + j) / 2) m with h' | h'
        · have := hs.get h' h; omega
        · obtain rfl : m = (i + j) / 2 := by omega
          exact hge⟩, by omega⟩
  obtain rfl : j = i := by omega
  have hpos : posF f.xs x = j := posF_of hjn (fun m h hm => hlo m h hm) (fun h => hhi j h (Nat.le_refl _))
  have hiff := isF_iff (x := x) hs
  by_cases o1 : (j : Int) < (f.xs.length : Int)
  · have E1 := hf.at (i := j) (by omega)
    have pm := hp f.xs[j] (List.getElem_mem _)
    refine WP.exit ?_
    refine WP.seq ?_
    refine WP.regionQ mixed I (by kernel_rfl) ?_
    refine OpsQ.y (v := .int .i64 _) (fun w I => Y.move rfl) ?_
    refine OpsQ.y (v := .int .i64 _) (fun w I => Y.move rfl) ?_
    refine OpsQ.y (v := .int .i64 _) (fun w I => Y.move rfl) ?_
    refine OpsQ.y (v := .bool true) (fun w I => Y.dec_t (Y.lti rfl rfl) (o1)) ?_
    refine OpsQ.y (v := .bool _) (fun w I => Y.move rfl) ?_
    refine OpsQ.ygt rfl (v := .func _ _ _) (fun w I => Y.move rfl) ?_
    refine OpsQ.ygt rfl (v := .slice _ _ _) (fun w I => Y.move rfl) ?_
    refine OpsQ.ygt rfl (v := .int .i64 _) (fun w I => Y.move rfl) ?_
    refine OpsQ.ygt rfl (v := .pointer (some ⟨_, _, none⟩)) (fun w I => Y.idxEl E1 Tryz.underlying26 Tryz.sizeOf52 rfl rfl (Int.natCast_nonneg _) rfl) ?_
    refine OpsQ.ygt rfl (v := .agg #[_, _, _, _]) (fun w I => Y.loadv ty_52 rfl (I.rd (E1.rd.part 0 4)) rfl rfl) ?_
    refine OpsQ.ygt rfl (v := .agg #[_, _, _, _]) (fun w I => Y.loadv ty_52 rfl (I.rdbox 0 rfl 0 4) rfl rfl) ?_
    refine OpsQ.cgt rfl (fun w I => QC.callcv I Tryz.call107 (fs := []) (cs := []) rfl (order_ok _ I.base_ok _ _) rfl) ?_
    refine OpsQ.ygt rfl (v := .bool (decide _)) (fun w I => Y.eqi rfl rfl) ?_
    refine OpsQ.y (v := .bool _) (fun w I => Y.pick_t rfl rfl) ?_
    refine OpsQ.y (v := .int .i64 _) (fun w I => Y.assign rfl) ?_
    refine OpsQ.y (v := .bool _) (fun w I => Y.assign rfl) ?_
    refine OpsQ.nil ?_
    intro w I
    have hb : isF f.xs x = decide (ordF f.xs[j] x = 0) := by
      rw [Bool.eq_iff_iff, hiff, decide_eq_true_eq, ordF_zero pm hx]; simp only [hpos]; exact ⟨fun ⟨_, hh⟩ => hh, fun hh => ⟨by omega, hh⟩⟩
    refine WP.ret ?_
    repeat (first | refine thenE_ret ?_ | refine blockE_ret ?_)
    exact retQ.mk (vs := [.int .i64 _, .bool _]) rfl ⟨rfl, rfl, trivial⟩ I.ext_of (by simp only [tup]; rw [hpos, hb])
  · refine WP.exit ?_
    refine WP.seq ?_
    refine WP.regionQ mixed I (by kernel_rfl) ?_
    refine OpsQ.y (v := .int .i64 _) (fun w I => Y.move rfl) ?_
    refine OpsQ.y (v := .int .i64 _) (fun w I => Y.move rfl) ?_
    refine OpsQ.y (v := .int .i64 _) (fun w I => Y.move rfl) ?_
    refine OpsQ.y (v := .bool false) (fun w I => Y.dec_f (Y.lti rfl rfl) (o1)) ?_
    refine OpsQ.y (v := .bool _) (fun w I => Y.move rfl) ?_
    refine OpsQ.gf rfl ?_
    refine OpsQ.gf rfl ?_
    refine OpsQ.gf rfl ?_
    refine OpsQ.gf rfl ?_
    refine OpsQ.gf rfl ?_
    refine OpsQ.gf rfl ?_
    refine OpsQ.gf rfl ?_
    refine OpsQ.gf rfl ?_
    refine OpsQ.y (v := .bool _) (fun w I => Y.pick_f rfl rfl) ?_
    refine OpsQ.y (v := .int .i64 _) (fun w I => Y.assign rfl) ?_
    refine OpsQ.y (v := .bool _) (fun w I => Y.assign rfl) ?_
    refine OpsQ.nil ?_
    intro w I
    have hb : isF f.xs x = false := by
      rw [Bool.eq_false_iff]; intro hh; obtain ⟨hh, _⟩ := hiff.1 hh; omega
    refine WP.ret ?_
    repeat (first | refine thenE_ret ?_ | refine blockE_ret ?_)
    exact retQ.mk (vs := [.int .i64 _, .bool _]) rfl ⟨rfl, rfl, trivial⟩ I.ext_of (by simp only [tup]; rw [hpos, hb])
theorem Seek_ok (B : Base) (hB : B.ok) (f : Sl Fct) (hf : Fcts f B.h) (hp : ∀ y ∈ f.xs, PF y) (hs : SrtF f.xs) (x : Fct) (hx : PF x) : Fn Tryz.prog 70 [f.val, x.val] B (fun v _ => v = .tuple #[.int .i64 (posF f.xs x : Nat), .bool (isF f.xs x)]) := by
  refine Fn.of Tryz.func70 rfl Tryz.ntmps70 (by kernel_rfl) (by simp) ?_
  intro e
  have I := Inv.start hB
  refine WP.seq ?_
  refine WP.region ?_
  refine Ops.go (O.box (v := .agg #[_, _, _, _]) I rfl rfl ?_)
  intro b3 w I
  refine Ops.y (v := .int .i64 _) (Y.assign rfl) ?_
  refine Ops.y (v := .bool _) (Y.assign rfl) ?_
  refine Ops.nil ?_
  refine WP.seq ?_
  refine WP.region ?_
  refine Ops.y (v := .slice _ _ _) (Y.move rfl) ?_
  refine Ops.y (v := .agg #[_, _, _, _]) (Y.loadv ty_52 rfl (I.rdbox 0 rfl 0 4) rfl rfl) ?_
  refine Ops.go (O.callv I Tryz.call139 (Bsf_ok _ I.base_ok f hf hp hs x hx) rfl ?_)
  intro w I
  refine Ops.y (v := .int .i64 _) (Y.extract rfl rfl) ?_
  refine Ops.y (v := .bool _) (Y.extract rfl rfl) ?_
  refine Ops.y (v := .int .i64 _) (Y.assign rfl) ?_
  refine Ops.y (v := .bool _) (Y.assign rfl) ?_
  refine Ops.nil ?_
  refine WP.ret ?_
  repeat (first | refine thenE_ret ?_ | refine blockE_ret ?_)
  exact retQ.mk (vs := [.int .i64 _, .bool _]) rfl ⟨rfl, rfl, trivial⟩ I.ext_of (rfl)
/-! ### Being under -/
def upF (l : List Prd) (g : List Fct) (x : Fct) : Bool := (lkF g (placeF x)).isSome && decide (joinV (predOf l x.pred).kind x.v ((lkF g (placeF x)).getD 0) = (lkF g (placeF x)).getD 0)
theorem fine_kind {l : List Prd} {x : Fct} (h : factFine l x = true) : 0 ≤ (predOf l x.pred).kind ∧ (predOf l x.pred).kind ≤ 3 := by
  have := vOk_iff.1 (fine_iff.1 h).2.2.2.2.2; omega
set_option maxHeartbeats 1000000 in
theorem Below1_ok (B : Base) (hB : B.ok) (l : Sl Prd) (hl : Prds l B.h) (g : Sl Fct) (hg : Fcts g B.h) (bl bg : Nat) (kl : Known B.h bl [l.val]) (kg : Known B.h bg [g.val]) (ok : FOk l.xs g.xs) (x : Fct) (hx : factFine l.xs x = true) :
    Fn Tryz.prog 154 [x.val, .pointer (some ⟨bg, 0, none⟩), .pointer (some ⟨bl, 0, none⟩)] B (fun v _ => v = .bool (!upF l.xs g.xs x)) := by
  have px := fine_pf ok.len hx
  have hiff := isF_iff (x := x) ok.srt
  have h01 := (fine_iff.1 hx).1
  have hk : x.pred.toNat < l.xs.length := by omega
  have E2 := hl.at hk
  have hpo : l.xs[x.pred.toNat] = predOf l.xs x.pred := (predOf_getE h01.1 h01.2).symm
  have hkd := fine_kind hx
  rw [← hpo] at hkd
  refine Fn.of Tryz.func154 rfl Tryz.ntmps154 (by kernel_rfl) (by simp) ?_
  intro e
  have I := Inv.start hB
  refine WP.seq ?_
  refine WP.region ?_
  refine Ops.go (O.box (v := .agg #[_, _, _, _]) I rfl rfl ?_)
  intro b3 w I
  refine Ops.y (v := .bool _) (Y.assign rfl) ?_
  refine Ops.nil ?_
  refine WP.seq ?_
  refine WP.region ?_
  refine Ops.y (v := .slice _ _ _) (Y.loadv ty_26 rfl (I.rd (kg.rd.part 0 1)) rfl rfl) ?_
  refine Ops.y (v := .agg #[_, _, _, _]) (Y.loadv ty_52 rfl (I.rdbox 0 rfl 0 4) rfl rfl) ?_
  refine Ops.go (O.callv I Tryz.call70 (Seek_ok _ I.base_ok g hg ok.pf ok.srt x px) rfl ?_)
  intro w I
  refine Ops.y (v := .tuple #[_, _]) (Y.move rfl) ?_
  refine Ops.y (v := .int .i64 _) (Y.extract rfl rfl) ?_
  refine Ops.y (v := .bool _) (Y.extract rfl rfl) ?_
  refine Ops.y (v := .int .i64 _) (Y.assign rfl) ?_
  refine Ops.y (v := .bool _) (Y.assign rfl) ?_
  refine Ops.nil ?_
  cases hi : isF g.xs x
  · refine WP.seq ?_
    refine WP.regionQ mixed I (by kernel_rfl) ?_
    refine OpsQ.y (v := .bool _) (fun w I => Y.move rfl) ?_
    refine OpsQ.y (v := .bool true) (fun w I => Y.b (Y.not rfl) ((by first | rfl | (rw [hi]; rfl)))) ?_
    refine OpsQ.y (v := .bool _) (fun w I => Y.move rfl) ?_
    refine OpsQ.gf rfl ?_
    refine OpsQ.gf rfl ?_
    refine OpsQ.gf rfl ?_
    refine OpsQ.gf rfl ?_
    refine OpsQ.gf rfl ?_
    refine OpsQ.gf rfl ?_
    refine OpsQ.gf rfl ?_
    refine OpsQ.gf rfl ?_
    refine OpsQ.gf rfl ?_
    refine OpsQ.gf rfl ?_
    refine OpsQ.gf rfl ?_
    refine OpsQ.gf rfl ?_
    refine OpsQ.gf rfl ?_
    refine OpsQ.gf rfl ?_
    refine OpsQ.gf rfl ?_
    refine OpsQ.gf rfl ?_
    refine OpsQ.gf rfl ?_
    refine OpsQ.gf rfl ?_
    refine OpsQ.gf rfl ?_
    refine OpsQ.gf rfl ?_
    refine OpsQ.y (v := .bool _) (fun w I => Y.pick_t rfl rfl) ?_
    refine OpsQ.y (v := .bool _) (fun w I => Y.assign rfl) ?_
    refine OpsQ.nil ?_
    intro w I
    refine WP.ret ?_
    repeat (first | refine thenE_ret ?_ | refine blockE_ret ?_)
    exact retQ.mk (vs := [.bool _]) rfl ⟨rfl, trivial⟩ I.ext_of (by simp only [tup, upF]; unfold isF at hi; rw [hi]; rfl)
  · obtain ⟨hlt, he⟩ := hiff.1 hi
    have E1 := hg.at hlt
    have hlk := lkF_pos ok.srt hlt he
    refine WP.seq ?_
    refine WP.regionQ mixed I (by kernel_rfl) ?_
    refine OpsQ.y (v := .bool _) (fun w I => Y.move rfl) ?_
    refine OpsQ.y (v := .bool false) (fun w I => Y.b (Y.not rfl) ((by first | rfl | (rw [hi]; rfl)))) ?_
    refine OpsQ.y (v := .bool _) (fun w I => Y.move rfl) ?_
    refine OpsQ.ygt rfl (v := .slice _ _ _) (fun w I => Y.loadv ty_22 rfl (I.rd (kl.rd.part 0 1)) rfl rfl) ?_
    refine OpsQ.ygt rfl (v := .pointer (some ⟨_, _, none⟩)) (fun w I => Y.fa0 fa_52_0 rfl) ?_
    refine OpsQ.ygt rfl (v := .int .i64 _) (fun w I => Y.loadv ty_3 rfl (I.rdbox 0 rfl 0 1) rfl rfl) ?_
    refine OpsQ.ygt rfl (v := .pointer (some ⟨_, _, none⟩)) (fun w I => Y.idxEl E2 Tryz.underlying22 Tryz.sizeOf62 rfl rfl h01.1 rfl) ?_
    refine OpsQ.ygt rfl (v := .pointer (some ⟨_, _, none⟩)) (fun w I => Y.fa fa_62_2 rfl) ?_
    refine OpsQ.ygt rfl (v := .int .i64 _) (fun w I => Y.loadv ty_3 rfl (I.rd (E2.rd.part 2 1)) rfl rfl) ?_
    refine OpsQ.ygt rfl (v := .pointer (some ⟨_, _, none⟩)) (fun w I => Y.fa fa_52_3 rfl) ?_
    refine OpsQ.ygt rfl (v := .int .i64 _) (fun w I => Y.loadv ty_3 rfl (I.rdbox 0 rfl 3 1) rfl rfl) ?_
    refine OpsQ.ygt rfl (v := .slice _ _ _) (fun w I => Y.loadv ty_26 rfl (I.rd (kg.rd.part 0 1)) rfl rfl) ?_
    refine OpsQ.ygt rfl (v := .int .i64 _) (fun w I => Y.move rfl) ?_
    refine OpsQ.ygt rfl (v := .pointer (some ⟨_, _, none⟩)) (fun w I => Y.idxEl E1 Tryz.underlying26 Tryz.sizeOf52 rfl rfl (Int.natCast_nonneg _) rfl) ?_
    refine OpsQ.ygt rfl (v := .pointer (some ⟨_, _, none⟩)) (fun w I => Y.fa fa_52_3 rfl) ?_
    refine OpsQ.ygt rfl (v := .int .i64 _) (fun w I => Y.loadv ty_3 rfl (I.rd (E1.rd.part 3 1)) rfl rfl) ?_
    refine OpsQ.cgt rfl (fun w I => QC.callv I Tryz.call137 (Joined_ok _ I.base_ok _ _ _ hkd) rfl) ?_
    refine OpsQ.ygt rfl (v := .slice _ _ _) (fun w I => Y.loadv ty_26 rfl (I.rd (kg.rd.part 0 1)) rfl rfl) ?_
    refine OpsQ.ygt rfl (v := .int .i64 _) (fun w I => Y.move rfl) ?_
    refine OpsQ.ygt rfl (v := .pointer (some ⟨_, _, none⟩)) (fun w I => Y.idxEl E1 Tryz.underlying26 Tryz.sizeOf52 rfl rfl (Int.natCast_nonneg _) rfl) ?_
    refine OpsQ.ygt rfl (v := .pointer (some ⟨_, _, none⟩)) (fun w I => Y.fa fa_52_3 rfl) ?_
    refine OpsQ.ygt rfl (v := .int .i64 _) (fun w I => Y.loadv ty_3 rfl (I.rd (E1.rd.part 3 1)) rfl rfl) ?_
    refine OpsQ.ygt rfl (v := .bool (decide _)) (fun w I => Y.nei rfl rfl) ?_
    refine OpsQ.y (v := .bool _) (fun w I => Y.pick_f rfl rfl) ?_
    refine OpsQ.y (v := .bool _) (fun w I => Y.assign rfl) ?_
    refine OpsQ.nil ?_
    intro w I
    refine WP.ret ?_
    repeat (first | refine thenE_ret ?_ | refine blockE_ret ?_)
    exact retQ.mk (vs := [.bool _]) rfl ⟨rfl, trivial⟩ I.ext_of (by simp only [tup, upF, hlk, ← hpo]; simp)
theorem not_any_not {α : Type} (p : α → Bool) (xs : List α) : (!(xs.any fun x => !p x)) = xs.all p := by
  induction xs with
  | nil => rfl
  | cons x r ih => rw [List.any_cons, List.all_cons, ← ih]; cases p x <;> simp
theorem Below_ok (B : Base) (hB : B.ok) (l : Sl Prd) (hl : Prds l B.h) (f g : Sl Fct) (hf : Fcts f B.h) (hg : Fcts g B.h) (okf : FOk l.xs f.xs) (ok : FOk l.xs g.xs) : Fn Tryz.prog 103 [l.val, f.val, g.val] B (fun v _ => v = .bool (underF l.xs f.xs g.xs)) := by
  refine Fn.of Tryz.func103 rfl Tryz.ntmps103 (by kernel_rfl) (by simp) ?_
  intro e
  have I := Inv.start hB
  refine WP.seq ?_
  refine WP.region ?_
  refine Ops.go (O.box (v := .slice _ _ _) I rfl rfl ?_)
  intro b3 w I
  refine Ops.go (O.box (v := .slice _ _ _) I rfl rfl ?_)
  intro b5 w I
  refine Ops.y (v := .bool _) (Y.assign rfl) ?_
  refine Ops.nil ?_
  obtain ⟨h5, le5, k5, I⟩ := I.settleBox
  obtain ⟨h3, le3, k3, I⟩ := I.settleBox
  have gl := le5.trans le3
  have k5 := k5.le le3
  refine WP.seq ?_
  refine WP.region ?_
  refine Ops.y (v := .slice _ _ _) (Y.move rfl) ?_
  refine Ops.y (v := .func _ _ _) (Y.mkfunc rfl rfl) ?_
  refine Ops.go (O.callv I Tryz.call153 (ContainsFuncFct_ok _ I.base_ok f (hf.le gl) 154 Tryz.call154 [] [.pointer (some ⟨b5, 0, none⟩), .pointer (some ⟨b3, 0, none⟩)] (fun x => !upF l.xs g.xs x) (fun B' hB' hle x hx => Below1_ok B' hB' l ((hl.le gl).le hle) g ((hg.le gl).le hle) b3 b5 (k3.le hle) (k5.le hle) ok x (okf.fine x hx))) rfl ?_)
  intro w I
  refine Ops.y (v := .bool _) (Y.not rfl) ?_
  refine Ops.y (v := .bool _) (Y.assign rfl) ?_
  refine Ops.nil ?_
  refine WP.ret ?_
  repeat (first | refine thenE_ret ?_ | refine blockE_ret ?_)
  exact retQ.mk (vs := [.bool _]) rfl ⟨rfl, trivial⟩ I.ext_of (by simp only [tup]; rw [not_any_not]; rfl)
@[reducible] def sEnc (s : Sl Fct) : List Value := [s.val]
theorem Under_ok (B : Base) (hB : B.ok) (l : Sl Prd) (hl : Prds l B.h) (f g : Sl Fct) (hf : Fcts f B.h) (hg : Fcts g B.h) : Fn Tryz.prog 50 [l.val, f.val, g.val] B (fun v _ => v = vBE (underOf l.xs f.xs g.xs)) := by
  refine Fn.of Tryz.func50 rfl Tryz.ntmps50 (by kernel_rfl) (by simp) ?_
  intro e
  have I := Inv.start hB
  refine WP.seq ?_
  refine WP.region ?_
  refine Ops.y (v := .bool _) (Y.assign rfl) ?_
  refine Ops.y (v := .int .i64 _) (Y.assign rfl) ?_
  refine Ops.nil ?_
  refine WP.seq ?_
  refine WP.seq ?_
  refine WP.region ?_
  refine Ops.y (v := .slice _ _ _) (Y.move rfl) ?_
  refine Ops.y (v := .slice _ _ _) (Y.move rfl) ?_
  refine Ops.go (O.mksl (xs := [f, g]) (enc := sEnc) I Tryz.underlying60 Tryz.sizeOf26 Tryz.zeroValue26 rfl (Nat.le_of_ble_eq_true rfl) rfl rfl (by decide) (fun _ => rfl) ?_)
  intro b13 h13 w I le13 sl13
  refine Ops.y (v := .int .i64 _) (Y.lens Tryz.underlying60 rfl) ?_
  refine Ops.y (v := .int .i64 _) (Y.move rfl) ?_
  refine Ops.nil ?_
  have hl' := hl.le le13
  have hf' := hf.le le13
  have hg' := hg.le le13
  refine WP.block ?_
  refine WP.loopE (σ := Nat) (fun k => [(0, l.val), (1, f.val), (2, g.val), (13, .slice (some ⟨b13, 0, none⟩) 2 2), (14, .int .i64 2), (15, .int .i64 k)]) (fun k w => Inv B h13 [] w ∧ k ≤ 2 ∧ (0 < k → checkFacts l.xs f.xs = 0) ∧ (1 < k → checkFacts l.xs g.xs = 0)) (fun k => 2 - k)
    ⟨0, ⟨rfl, rfl, rfl, rfl, rfl, rfl, trivial⟩, I, Nat.zero_le _, fun j => by omega, fun j => by omega⟩ ?_
  rintro k e w ⟨I, hk, hn0, hn1⟩
  refine WP.seq ?_
  refine WP.region ?_
  refine Ops.y (v := .bool (decide _)) (Y.lti rfl rfl) ?_
  refine Ops.nil ?_
  refine WP.seq ?_
  refine WP.cond_dec rfl (fun h => ?_) (fun h => ?_)
  · have hk' : k < 2 := by omega
    obtain ⟨X, hxx, hX, hbad, hgood⟩ : ∃ X : Sl Fct, [f, g][k]? = some X ∧ Fcts X h13 ∧ (checkFacts l.xs X.xs ≠ 0 → underOf l.xs f.xs g.xs = (false, checkFacts l.xs X.xs)) ∧ (checkFacts l.xs X.xs = 0 → (0 < k + 1 → checkFacts l.xs f.xs = 0) ∧ (1 < k + 1 → checkFacts l.xs g.xs = 0)) := by
      rcases (show k = 0 ∨ k = 1 by omega) with rfl | rfl
      · exact ⟨f, rfl, hf', fun hh => by unfold underOf; rw [if_pos hh], fun hh => ⟨fun _ => hh, fun h2 => by omega⟩⟩
      · exact ⟨g, rfl, hg', fun hh => by unfold underOf; rw [if_neg (by simpa using hn0 (by omega)), if_pos hh], fun hh => ⟨fun _ => hn0 (by omega), fun _ => hh⟩⟩
    have E1 := sl13.el hxx
    refine WP.skip ?_
    refine WP.seq ?_
    refine WP.block ?_
    refine WP.seq ?_
    refine WP.region ?_
    refine Ops.y (v := .pointer (some ⟨_, _, none⟩)) (Y.idxEl E1 Tryz.underlying60 Tryz.sizeOf26 rfl rfl (Int.natCast_nonneg _) rfl) ?_
    refine Ops.y (v := .slice _ _ _) (Y.loadv ty_26 rfl (I.rd (E1.rd.part 0 1)) rfl rfl) ?_
    refine Ops.y (v := .slice _ _ _) (Y.assign rfl) ?_
    refine Ops.nil ?_
    refine WP.seq ?_
    refine WP.region ?_
    refine Ops.y (v := .slice _ _ _) (Y.move rfl) ?_
    refine Ops.y (v := .slice _ _ _) (Y.move rfl) ?_
    refine Ops.go (O.callv I Tryz.call45 (BCheck_ok _ I.base_ok l hl' X hX) rfl ?_)
    intro w I
    refine Ops.y (v := .int .i64 _) (Y.assign rfl) ?_
    refine Ops.nil ?_
    refine WP.seq ?_
    refine WP.region ?_
    refine Ops.y (v := .int .i64 _) (Y.move rfl) ?_
    refine Ops.y (v := .bool (decide _)) (Y.nei rfl rfl) ?_
    refine Ops.nil ?_
    refine WP.cond_dec rfl (fun h5 => ?_) (fun h5 => ?_)
    · refine WP.seq ?_
      refine WP.region ?_
      refine Ops.y (v := .int .i64 _) (Y.move rfl) ?_
      refine Ops.y (v := .bool _) (Y.assign rfl) ?_
      refine Ops.y (v := .int .i64 _) (Y.assign rfl) ?_
      refine Ops.nil ?_
      refine WP.ret ?_
      repeat (first | refine thenE_ret ?_ | refine blockE_ret ?_)
      exact retQ.mk (vs := [.bool _, .int .i64 _]) rfl ⟨rfl, rfl, trivial⟩ I.ext_of (by simp only [tup, hbad h5]; rfl)
    obtain ⟨g0, g1⟩ := hgood (Decidable.not_not.1 h5)
    refine WP.skip ?_
    refine WP.region ?_
    refine Ops.y (v := .int .i64 _) (Y.addi rfl rfl ⟨by omega, by omega⟩) ?_
    refine Ops.y (v := .int .i64 _) (Y.move rfl) ?_
    refine Ops.nil ?_
    exact ⟨k + 1, ⟨⟨rfl, rfl, rfl, rfl, rfl, rfl, trivial⟩, I, by omega, g0, g1⟩, by omega⟩
  have c0 := hn0 (by omega)
  have c1 := hn1 (by omega)
  refine WP.exit ?_
  refine WP.seq ?_
  refine WP.region ?_
  refine Ops.y (v := .slice _ _ _) (Y.move rfl) ?_
  refine Ops.y (v := .slice _ _ _) (Y.move rfl) ?_
  refine Ops.y (v := .slice _ _ _) (Y.move rfl) ?_
  refine Ops.go (O.callv I Tryz.call103 (Below_ok _ I.base_ok l hl' f g hf' hg' (checkFacts_ok.1 c0) (checkFacts_ok.1 c1)) rfl ?_)
  intro w I
  refine Ops.y (v := .bool _) (Y.assign rfl) ?_
  refine Ops.y (v := .int .i64 _) (Y.assign rfl) ?_
  refine Ops.nil ?_
  refine WP.ret ?_
  repeat (first | refine thenE_ret ?_ | refine blockE_ret ?_)
  exact retQ.mk (vs := [.bool _, .int .i64 _]) rfl ⟨rfl, rfl, trivial⟩ I.ext_of (by simp only [tup, underOf]; rw [if_neg (by simpa using c0), if_neg (by simpa using c1)]; rfl)
theorem SameFacts_ok (B : Base) (hB : B.ok) (a b : Sl Fct) (ha : Fcts a B.h) (hb : Fcts b B.h) : Fn Tryz.prog 21 [a.val, b.val] B (fun v _ => v = .bool (decide (a.xs = b.xs))) := by
  have hsa := ha.small
  have hsb := hb.small
  refine Fn.of Tryz.func21 rfl Tryz.ntmps21 (by kernel_rfl) (by simp) ?_
  intro e
  have I := Inv.start hB
  refine WP.seq ?_
  refine WP.region ?_
  refine Ops.y (v := .bool _) (Y.assign rfl) ?_
  refine Ops.nil ?_
  refine WP.seq ?_
  refine WP.seq ?_
  refine WP.region ?_
  refine Ops.y (v := .slice _ _ _) (Y.move rfl) ?_
  refine Ops.y (v := .int .i64 _) (Y.lens Tryz.underlying26 rfl) ?_
  refine Ops.y (v := .slice _ _ _) (Y.move rfl) ?_
  refine Ops.y (v := .int .i64 _) (Y.lens Tryz.underlying26 rfl) ?_
  refine Ops.y (v := .bool (decide _)) (Y.nei rfl rfl) ?_
  refine Ops.nil ?_
  refine WP.cond_dec rfl (fun h1 => ?_) (fun h1 => ?_)
  · refine WP.seq ?_
    refine WP.region ?_
    refine Ops.y (v := .bool _) (Y.assign rfl) ?_
    refine Ops.nil ?_
    refine WP.ret ?_
    repeat (first | refine thenE_ret ?_ | refine blockE_ret ?_)
    exact retQ.mk (vs := [.bool _]) rfl ⟨rfl, trivial⟩ I.ext_of (by simp only [tup]; rw [decide_eq_false (fun e => h1 (by rw [e]))])
  refine WP.skip ?_
  refine WP.seq ?_
  refine WP.seq ?_
  refine WP.region ?_
  refine Ops.y (v := .int .i64 _) (Y.assign rfl) ?_
  refine Ops.nil ?_
  refine WP.block ?_
  refine WP.loopE (σ := Nat) (fun k => [(0, a.val), (1, b.val), (5, .int .i64 k)]) (fun k w => Inv B B.h [] w ∧ k ≤ a.xs.length ∧ ∀ j, j < k → a.xs[j]? = b.xs[j]?) (fun k => a.xs.length - k)
    ⟨0, ⟨rfl, rfl, rfl, trivial⟩, I, Nat.zero_le _, fun j hj => by omega⟩ ?_
  rintro k e w ⟨I, hk, hn⟩
  refine WP.seq ?_
  refine WP.seq ?_
  refine WP.region ?_
  refine Ops.y (v := .int .i64 _) (Y.move rfl) ?_
  refine Ops.y (v := .slice _ _ _) (Y.move rfl) ?_
  refine Ops.y (v := .int .i64 _) (Y.lens Tryz.underlying26 rfl) ?_
  refine Ops.y (v := .bool (decide _)) (Y.lti rfl rfl) ?_
  refine Ops.nil ?_
  refine WP.cond_dec rfl (fun h4 => ?_) (fun h4 => ?_)
  · have hk' : k < a.xs.length := by omega
    have hkb : k < b.xs.length := by omega
    have E1 := ha.at hk'
    have E2 := hb.at hkb
    refine WP.skip ?_
    refine WP.seq ?_
    refine WP.block ?_
    refine WP.seq ?_
    refine WP.regionQ mixed I (by kernel_rfl) ?_
    refine OpsQ.y (v := .slice _ _ _) (fun w I => Y.move rfl) ?_
    refine OpsQ.y (v := .int .i64 _) (fun w I => Y.move rfl) ?_
    refine OpsQ.y (v := .pointer (some ⟨_, _, none⟩)) (fun w I => Y.idxEl E1 Tryz.underlying26 Tryz.sizeOf52 rfl rfl (Int.natCast_nonneg _) rfl) ?_
    refine OpsQ.y (v := .agg #[_, _, _, _]) (fun w I => Y.loadv ty_52 rfl (I.rd (E1.rd.part 0 4)) rfl rfl) ?_
    refine OpsQ.y (v := .slice _ _ _) (fun w I => Y.move rfl) ?_
    refine OpsQ.y (v := .int .i64 _) (fun w I => Y.move rfl) ?_
    refine OpsQ.y (v := .pointer (some ⟨_, _, none⟩)) (fun w I => Y.idxEl E2 Tryz.underlying26 Tryz.sizeOf52 rfl rfl (Int.natCast_nonneg _) rfl) ?_
    refine OpsQ.y (v := .agg #[_, _, _, _]) (fun w I => Y.loadv ty_52 rfl (I.rd (E2.rd.part 0 4)) rfl rfl) ?_
    refine OpsQ.y (v := .bool _) (fun w I => Y.nest Tryz.eqGuardType52 (eq_52 _ _ _ _ _ _ _ _) rfl rfl) ?_
    refine OpsQ.nil ?_
    intro w I
    refine WP.cond rfl (fun h6 => ?_) (fun h6 => ?_)
    · refine WP.seq ?_
      refine WP.region ?_
      refine Ops.y (v := .bool _) (Y.assign rfl) ?_
      refine Ops.nil ?_
      have hne : a.xs ≠ b.xs := fun e => by
        have he : a.xs[k] = b.xs[k] := by simp only [e]
        simp [he] at h6
      refine WP.ret ?_
      repeat (first | refine thenE_ret ?_ | refine blockE_ret ?_)
      exact retQ.mk (vs := [.bool _]) rfl ⟨rfl, trivial⟩ I.ext_of (by simp only [tup]; rw [decide_eq_false hne])
    refine WP.skip ?_
    refine WP.region ?_
    refine Ops.y (v := .int .i64 _) (Y.move rfl) ?_
    refine Ops.y (v := .int .i64 _) (Y.addi rfl rfl ⟨by omega, by omega⟩) ?_
    refine Ops.y (v := .int .i64 _) (Y.assign rfl) ?_
    refine Ops.nil ?_
    exact ⟨k + 1, ⟨⟨rfl, rfl, rfl, trivial⟩, I, hk', fun j hj => by
      rcases Nat.lt_succ_iff_lt_or_eq.1 hj with h' | rfl
      · exact hn j h'
      · rw [List.getElem?_eq_getElem hk', List.getElem?_eq_getElem hkb]
        congr 1
        simp only [Bool.not_eq_false', Bool.and_eq_true, beq_iff_eq] at h6
        obtain ⟨e1, e2, e3, e4, _⟩ := h6
        generalize a.xs[j] = u at *
        generalize b.xs[j] = v at *
        cases u; cases v; simp_all⟩, by omega⟩
  have hab : a.xs = b.xs := List.ext_getElem? fun j => by
    rcases Nat.lt_or_ge j k with h' | h'
    · exact hn j h'
    · rw [List.getElem?_eq_none (by omega), List.getElem?_eq_none (by omega)]
  refine WP.exit ?_
  refine WP.seq ?_
  refine WP.region ?_
  refine Ops.y (v := .bool _) (Y.assign rfl) ?_
  refine Ops.nil ?_
  refine WP.ret ?_
  repeat (first | refine thenE_ret ?_ | refine blockE_ret ?_)
  exact retQ.mk (vs := [.bool _]) rfl ⟨rfl, trivial⟩ I.ext_of (by simp only [tup]; rw [decide_eq_true hab])
end Go.TF
end
