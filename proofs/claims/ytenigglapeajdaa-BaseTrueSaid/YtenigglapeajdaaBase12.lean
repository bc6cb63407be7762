/- Maps from string to int that the call makes. -/
import Derived.Test.YtenigglapeajdaaBase11
namespace Go.TF
open Go Go.RowKit

theorem beq_bytes (a b : ByteArray) : (a == b) = decide (a = b) := by
  rw [beq_toListBytes, ByteArray.toList_eq, ByteArray.toList_eq]
  by_cases h : a = b
  · subst h; simp
  · rw [decide_eq_false h, beq_eq_false_iff_ne]
    intro e
    exact h (by obtain ⟨⟨x⟩⟩ := a; obtain ⟨⟨y⟩⟩ := b; simp at e; subst e; rfl)
def sV (p : ByteArray × Int) : Value × Value := (.string p.1, .int .i64 p.2)
def EntsS (ents : List MapEntry) (es : List (ByteArray × Int)) : Prop := ents.map (fun e => (e.key, e.val)) = es.map sV
def slook : List (ByteArray × Int) → ByteArray → Option Int
  | [], _ => none
  | (k, v) :: r, x => if x = k then some v else slook r x
def sset : List (ByteArray × Int) → ByteArray → Int → List (ByteArray × Int)
  | [], x, v => [(x, v)]
  | (k, w) :: r, x, v => if x = k then (x, v) :: r else (k, w) :: sset r x v
theorem slook_sset (es : List (ByteArray × Int)) (x y : ByteArray) (v : Int) : slook (sset es x v) y = if y = x then some v else slook es y := by
  induction es with
  | nil => simp [sset, slook]
  | cons p r ih =>
    obtain ⟨k, w⟩ := p
    simp only [sset]
    split
    · rename_i h; subst h; simp only [slook]; split <;> simp_all
    · rename_i h; simp only [slook, ih]; split <;> split <;> simp_all
theorem findNowS_none {x : ByteArray} : ∀ (ents : List MapEntry) (es : List (ByteArray × Int)) (i : Nat), EntsS ents es → slook es x = none → Instr.findNow .string (.string x) ents i = some none
  | [], _, _, _, _ => rfl
  | e :: r, [], _, h, _ => by simp [EntsS] at h
  | e :: r, (a, b) :: s, i, h, hl => by
    simp only [EntsS, List.map_cons, List.cons.injEq] at h
    simp only [slook] at hl
    split at hl
    · cases hl
    · rename_i hx
      have h1 : e.key = .string a := (Prod.mk.inj h.1).1
      have : (x == a) = false := by rw [beq_bytes]; simpa using hx
      simp only [Instr.findNow, h1, Instr.sameNow, this]
      exact findNowS_none r s (i + 1) h.2 hl
theorem findNowS_some {x : ByteArray} {v : Int} : ∀ (ents : List MapEntry) (es : List (ByteArray × Int)) (i : Nat), EntsS ents es → slook es x = some v →
    ∃ j, j < ents.length ∧ Instr.findNow .string (.string x) ents i = some (some (i + j, .int .i64 v)) ∧ ((ents[j]?).map (·.key)) = some (.string x) ∧ ∀ v', EntsS (ents.modify j fun e => { e with key := .string x, val := .int .i64 v' }) (sset es x v')
  | [], [], _, _, hl => by simp [slook] at hl
  | [], _ :: _, _, h, _ => by simp [EntsS] at h
  | e :: r, [], _, h, _ => by simp [EntsS] at h
  | e :: r, (a, b) :: s, i, h, hl => by
    simp only [EntsS, List.map_cons, List.cons.injEq] at h
    have h1 : e.key = .string a := (Prod.mk.inj h.1).1
    have h2 : e.val = .int .i64 b := (Prod.mk.inj h.1).2
    simp only [slook] at hl
    split at hl
    · rename_i hx
      subst hx
      cases hl
      refine ⟨0, by simp, by simp [Instr.findNow, h1, Instr.sameNow, h2, beq_bytes], by simp [h1], fun v' => ?_⟩
      simp [EntsS, sset, sV]
      exact h.2
    · rename_i hx
      obtain ⟨j, hj, hf, hk, hm⟩ := findNowS_some r s (i + 1) h.2 hl
      refine ⟨j + 1, by simpa using hj, ?_, by simpa using hk, fun v' => ?_⟩
      · have : (x == a) = false := by rw [beq_bytes]; simpa using hx
        simp only [Instr.findNow, h1, Instr.sameNow, this, hf]
        rw [show i + (j + 1) = i + 1 + j by omega]
      · simp only [EntsS, List.modify_succ_cons, sset, if_neg hx, List.map_cons, List.cons.injEq]
        exact ⟨h.1, hm v'⟩
theorem checkKey_str {P : Program} {w : World} {em : Bool} {n : Nat} {T : TypeId} {x : ByteArray} (hT : Und P T .string) : (Instr.checkKey em (n + 1) T (.string x)).run P w = .ok () w := by
  simp [Instr.checkKey, run_underlying hT]

structure SMap (ents : List MapEntry) (clock : Nat) (es : List (ByteArray × Int)) : Prop where
  is : EntsS ents es
  nodup : (ents.map (·.born)).Nodup
  lt : ∀ e ∈ ents, e.born < clock
def smap (b : Nat) (es : List (ByteArray × Int)) : SA where
  fp := [b]
  P := fun w => ∃ ents clock, w.heap[b]? = some (.map ents.toArray clock) ∧ SMap ents clock es
  loc := by
    intro w w' h hp
    obtain ⟨ents, clock, h1, h2⟩ := hp
    exact ⟨ents, clock, (h b (by simp)).trans h1, h2⟩
section
variable {P : Program} {e : Env} {w : World} {B : Base} {h : Heap} {M : List SA} {t : TypeId} {pos : String} {af : Array Edge} {g : Option (Nat × Bool)} {d : Option Nat} {K : Value → World → Prop}
theorem O.mkmaps {T : TypeId} (I : Inv B h M w) (k : ∀ b w', Inv B h (smap b [] :: M) w' → K (.map (some b)) w') : Op1 P ⟨d, .makeMap T none, t, pos, af, g⟩ e w K := by
  have : (execOp (ev e) ⟨d, .makeMap T none, t, pos, af, g⟩).run P w = .ok (.value (.map (some w.heap.size))) (w.alloc (.map #[] 0)) := by
    simp [execOp, Instr.makeMap]
  unfold Op1
  rw [this]
  refine k _ _ (I.gain (Grow.alloc w _) ⟨[], 0, heap_alloc_new w _, rfl, List.Pairwise.nil, fun _ h => by cases h⟩ (fun b hb => ?_))
  simp [smap] at hb; subst hb; simp
theorem lookupS_run {T Kt Vt : TypeId} {m : Nat} {ents : List MapEntry} {clock : Nat} {es : List (ByteArray × Int)} {x : ByteArray} (hT : Und P T (.map Kt Vt)) (hK : Und P Kt .string) (hz : Zero P Vt (.int .i64 0)) (hm : w.heap[m]? = some (.map ents.toArray clock)) (hi : EntsS ents es) :
    (Instr.lookup T (.map (some m)) (.string x) false).run P w = .ok (.int .i64 ((slook es x).getD 0)) w := by
  have hg : (getObj m).run P w = .ok (.map ents.toArray clock) w := getObj_run hm (by intro c t f h; cases h)
  have hck : ∀ em, (Instr.checkKey em 10000 Kt (.string x)).run P w = .ok () w := fun em => checkKey_str (n := 9999) hK
  cases hl : slook es x with
  | none =>
    have hf := findNowS_none ents es 0 hi hl
    simp [Instr.lookup, run_underlying hT, hg, hck, Instr.findKey, run_underlying hK, hf, hz w]
  | some v =>
    obtain ⟨j, _, hf, _⟩ := findNowS_some ents es 0 hi hl
    simp [Instr.lookup, run_underlying hT, hg, hck, Instr.findKey, run_underlying hK, hf]
theorem Y.lookups {T Kt Vt : TypeId} {b : Nat} {es : List (ByteArray × Int)} {x y : Operand} {i : ByteArray} (I : Inv B h M w) (hT : Und P T (.map Kt Vt)) (hK : Und P Kt .string) (hz : Zero P Vt (.int .i64 0)) (n : Nat) (hn : M[n]? = some (smap b es)) (hx : ev e x = .map (some b)) (hy : ev e y = .string i) :
    Y P ⟨d, .lookup T x y false, t, pos, af, g⟩ e w (.int .i64 ((slook es i).getD 0)) := by
  obtain ⟨ents, clock, h1, h2⟩ := I.at n hn
  simp [Y, execOp, hx, hy, lookupS_run hT hK hz h1 h2.is]
theorem O.mapsets {T Kt Vt : TypeId} {b : Nat} {es : List (ByteArray × Int)} {x y z : Operand} {i : ByteArray} {v : Int} (I : Inv B h M w) (hT : Und P T (.map Kt Vt)) (hK : Und P Kt .string) (n : Nat) (hn : M[n]? = some (smap b es)) (hx : ev e x = .map (some b)) (hy : ev e y = .string i) (hz : ev e z = .int .i64 v)
    (k : ∀ w', Inv B h (M.set n (smap b (sset es i v))) w' → K undef w') : Op1 P ⟨d, .mapUpdate T x y z, t, pos, af, g⟩ e w K := by
  obtain ⟨ents, clock, h1, h2⟩ := I.at n hn
  have hg : (getObj b).run P w = .ok (.map ents.toArray clock) w := getObj_run h1 (by intro c t f h; cases h)
  have hck : ∀ em, (Instr.checkKey em 10000 Kt (.string i)).run P w = .ok () w := fun em => checkKey_str (n := 9999) hK
  have hset : ∀ o, (Go.setObj b o).run P w = .ok () { w with heap := w.heap.setIfInBounds b o } := fun o => setObj_run h1 (by intro c t f h; cases h)
  cases hl : slook es i with
  | none =>
    have hf := findNowS_none ents es 0 h2.is hl
    have hrun : (execOp (ev e) ⟨d, .mapUpdate T x y z, t, pos, af, g⟩).run P w = .ok .skip { w with heap := w.heap.setIfInBounds b (.map (ents ++ [({ key := .string i, val := .int .i64 v, born := clock } : MapEntry)]).toArray (clock + 1)) } := by
      simp [execOp, hx, hy, hz, Instr.mapUpdate, run_underlying hT, hg, hck, Instr.findKey, run_underlying hK, hf, hset]
    unfold Op1
    rw [hrun]
    refine k _ (I.setObj n hn rfl rfl fun w' hw' => ⟨_, _, hw', ?_, ?_, ?_⟩)
    · have : sset es i v = es ++ [(i, v)] := by
        clear hf h1 h2 hg hset hn k
        induction es with
        | nil => rfl
        | cons p r ih =>
          obtain ⟨a, c⟩ := p
          simp only [slook] at hl
          split at hl
          · cases hl
          · rename_i hne; simp [sset, hne, ih hl]
      rw [this]
      unfold EntsS
      rw [List.map_append, List.map_append, h2.is]; rfl
    · rw [List.map_append, List.nodup_append]
      refine ⟨h2.nodup, by simp, fun a ha c hc => ?_⟩
      simp at hc; subst hc
      obtain ⟨q, hq, rfl⟩ := List.mem_map.1 ha
      have := h2.lt q hq; omega
    · intro q hq
      rcases List.mem_append.1 hq with hq | hq
      · have := h2.lt q hq; omega
      · simp at hq; subst hq; simp
  | some v0 =>
    obtain ⟨j, hj, hf, hk, hm⟩ := findNowS_some ents es 0 h2.is hl
    have hrun : (execOp (ev e) ⟨d, .mapUpdate T x y z, t, pos, af, g⟩).run P w = .ok .skip { w with heap := w.heap.setIfInBounds b (.map (ents.modify j fun e => { e with key := .string i, val := .int .i64 v }).toArray clock) } := by
      have hk' : ents[j]?.map (·.key) = some (.string i) := hk
      cases hgt : ents[j]? with
      | none => simp [hgt] at hk'
      | some q =>
        simp only [hgt, Option.map_some, Option.some.injEq] at hk'
        simp [execOp, hx, hy, hz, Instr.mapUpdate, run_underlying hT, hg, hck, Instr.findKey, run_underlying hK, hf, hset, hgt, hk', Instr.keyThatStays, Instr.sameBits, beq_bytes]
    unfold Op1
    rw [hrun]
    refine k _ (I.setObj n hn rfl rfl fun w' hw' => ⟨_, _, hw', hm v, ?_, ?_⟩)
    · have : (ents.modify j fun e => { e with key := .string i, val := .int .i64 v }).map (·.born) = ents.map (·.born) := by
        apply List.ext_getElem?
        intro q
        simp only [List.getElem?_map, List.getElem?_modify]
        cases ents[q]? <;> simp
        split <;> rfl
      rw [this]; exact h2.nodup
    · intro q hq
      obtain ⟨p, hp⟩ := List.mem_iff_getElem?.1 hq
      rw [List.getElem?_modify] at hp
      cases hgp : ents[p]? with
      | none => simp [hgp] at hp
      | some c =>
        have := h2.lt c (List.mem_of_getElem? hgp)
        simp only [hgp] at hp
        cases hp; split <;> exact this
/-- Calls that turn what the caller owns. -/
theorem O.callcs {x : Operand} {f : FuncId} {fs cs : List Value} {args : Array Operand} {ts : Array TypeId} {vs : List Value} {R : Ending → World → Prop} (hf : Enters P f)
    (hx : ev e x = .func (.func f) fs.toArray cs.toArray) (hc : Calls P f vs.toArray w R) (ha : fs ++ args.toList.map (ev e) ++ cs = vs) (k : ∀ ed w', R ed w' → ∃ v, ed = .returned v ∧ K v w') :
    Op1 P ⟨d, .call { callee := .value x, args := args, argTypes := ts }, t, pos, af, g⟩ e w K := by
  have ha' : fs.toArray ++ args.map (ev e) ++ cs.toArray = vs.toArray := by rw [← ha]; apply Array.ext'; simp
  have : (execOp (ev e) ⟨d, .call { callee := .value x, args := args, argTypes := ts }, t, pos, af, g⟩).run P w = .ok (.enter f vs.toArray) w := by
    simp only [execOp, resolve, hx, Deferred.ofValue]
    simp [invoke, ha', hf]
  unfold Op1
  rw [this]
  refine Calls.mono hc ?_
  rintro ed w' h
  obtain ⟨v, rfl, hk⟩ := k ed w' h
  exact hk
theorem O.calls {f : FuncId} {args : Array Operand} {ts : Array TypeId} {vs : List Value} {R : Ending → World → Prop} (hf : Enters P f) (hc : Calls P f vs.toArray w R)
    (ha : args.toList.map (ev e) = vs) (k : ∀ ed w', R ed w' → ∃ v, ed = .returned v ∧ K v w') : Op1 P ⟨d, .call { callee := .value (.func f), args := args, argTypes := ts }, t, pos, af, g⟩ e w K := by
  have ha' : args.map (ev e) = vs.toArray := by rw [← ha]; apply Array.ext'; simp
  have : (execOp (ev e) ⟨d, .call { callee := .value (.func f), args := args, argTypes := ts }, t, pos, af, g⟩).run P w = .ok (.enter f vs.toArray) w := by
    simp [execOp, resolve, ev, Deferred.ofValue, invoke, ha', hf]
  unfold Op1
  rw [this]
  refine Calls.mono hc ?_
  rintro ed w' h
  obtain ⟨v, rfl, hk⟩ := k ed w' h
  exact hk
end
/-! ### Slices known for good, appended to -/
theorem flat_at {α : Type} {enc : α → List Value} {k : Nat} (hk : ∀ x, (enc x).length = k) (hk0 : 0 < k) : ∀ (xs : List α) (j : Nat) (v : Value), (xs.flatMap enc)[j]? = some v → ∃ x, xs[j / k]? = some x ∧ (enc x)[j % k]? = some v
  | [], j, v, h => by simp at h
  | x :: xs, j, v, h => by
    simp only [List.flatMap_cons] at h
    by_cases hj : j < k
    · rw [List.getElem?_append_left (by rw [hk]; exact hj)] at h
      exact ⟨x, by rw [Nat.div_eq_of_lt hj]; rfl, by rw [Nat.mod_eq_of_lt hj]; exact h⟩
    · rw [List.getElem?_append_right (by rw [hk]; omega), hk] at h
      obtain ⟨y, h1, h2⟩ := flat_at hk hk0 xs (j - k) v h
      have e1 : j / k = (j - k) / k + 1 := by rw [Nat.div_eq_sub_div hk0 (by omega)]
      have e2 : j % k = (j - k) % k := by rw [Nat.mod_eq_sub_mod (by omega)]
      exact ⟨y, by rw [e1]; exact h1, by rw [e2]; exact h2⟩
theorem flat_get {α : Type} {enc : α → List Value} {k : Nat} (hk : ∀ x, (enc x).length = k) : ∀ (xs : List α) (i j : Nat) (x : α) (v : Value), xs[i]? = some x → (enc x)[j]? = some v → (xs.flatMap enc)[i * k + j]? = some v
  | [], i, j, x, v, h, _ => by simp at h
  | y :: ys, i, j, x, v, h, hv => by
    have hj : j < k := by have := (List.getElem?_eq_some_iff.1 hv).1; rw [hk] at this; exact this
    simp only [List.flatMap_cons]
    cases i with
    | zero =>
      simp at h; subst h
      rw [List.getElem?_append_left (by rw [hk]; omega)]
      simpa using hv
    | succ i =>
      rw [List.getElem?_append_right (by rw [hk, Nat.add_mul]; omega), hk, show (i + 1) * k + j - k = i * k + j by rw [Nat.add_mul]; omega]
      exact flat_get hk ys i j x v (by simpa using h) hv
theorem flat_len {α : Type} {enc : α → List Value} {k : Nat} (hk : ∀ x, (enc x).length = k) (xs : List α) : (xs.flatMap enc).length = xs.length * k := by
  induction xs with
  | nil => simp
  | cons y ys ih => simp only [List.flatMap_cons, List.length_append, hk, ih, List.length_cons, Nat.add_mul]; omega
/-- A row of cells that is known for good holds a slice. -/
theorem rowIn {α : Type} {enc : α → List Value} {k b c : Nat} {xs : List α} {cs : Array Value} {T : TypeId} {f : Nat × Nat} {h : Heap} (hk : ∀ x, (enc x).length = k) (hb : h b = some (.cells cs T f)) (hp : ∀ (j : Nat) (v : Value), (xs.flatMap enc)[j]? = some v → cs[j]? = some v) : (⟨some ⟨b, 0, none⟩, c, xs⟩ : Sl α).In k enc h := fun i x hx =>
  ⟨rfl, fun j v hv => by
    simp only [Heap.cell, Sl.blk, Sl.off, Option.getD_some, hb, Nat.zero_add]
    exact hp _ _ (flat_get hk xs i j x v hx hv)⟩
theorem Sl.In.flat {α : Type} {s : Sl α} {k : Nat} {enc : α → List Value} {h : Heap} (hs : s.In k enc h) (hk : ∀ x, (enc x).length = k) (hk0 : 0 < k) : RdH h s.blk s.off (s.xs.flatMap enc) := fun j v hv => by
  obtain ⟨x, h1, h2⟩ := flat_at hk hk0 s.xs j v hv
  have := (hs _ _ h1).2 _ _ h2
  rw [Nat.add_assoc, Nat.mul_comm, Nat.div_add_mod] at this
  exact this
section
variable {P : Program} {e : Env} {w : World} {B : Base} {h : Heap} {M : List SA} {t : TypeId} {pos : String} {af : Array Edge} {g : Option (Nat × Bool)} {d : Option Nat} {K : Value → World → Prop}
theorem O.appendG {α : Type} {T el k bytes : Nat} {z : Value} {x y : Operand} {s u : Sl α} {enc : α → List Value} (I : Inv B h M w) (hT : Und P T (.slice el)) (he : ElT P el k bytes z) (hk : ∀ x, (enc x).length = k) (hs : s.In k enc h) (hu : u.In k enc h) (hsa : s.at_ = some ⟨s.blk, s.off, none⟩) (hua : u.at_ = some ⟨u.blk, u.off, none⟩)
    (hfull : s.cap = s.xs.length) (hu0 : 0 < u.xs.length) (hx : ev e x = s.val) (hy : ev e y = u.val) (hb : (s.xs.length + u.xs.length) * bytes ≤ 140737488355328) (h63 : s.xs.length + u.xs.length ≤ 140737488355328)
    (kk : ∀ b c h' w', h.le h' → Inv B h' M w' → (⟨some ⟨b, 0, none⟩, c, s.xs ++ u.xs⟩ : Sl α).In k enc h' → (s.xs ++ u.xs).length ≤ c → K (.slice (some ⟨b, 0, none⟩) (s.xs ++ u.xs).length c) w') :
    Op1 P ⟨d, .call { callee := .builtin .append, args := #[x, y], argTypes := #[T, T] }, t, pos, af, g⟩ e w K := by
  obtain ⟨i, hi, hz, hsz, hby⟩ : ∃ i, P.info? el = some i ∧ i.zero = some z ∧ i.size = k ∧ i.bytes = bytes := by
    have := he.info
    cases h : P.info? el with
    | none => simp [h] at this
    | some i => simp [h] at this; exact ⟨i, rfl, this.1, this.2.1, this.2.2⟩
  have holds : ∀ j v, (s.xs.flatMap enc)[j]? = some v → w.cell? ((⟨s.blk, s.off, none⟩ : Addr).add j) = some v := fun j v hv => by rw [addr_add]; exact I.rd (hs.flat hk he.pos) j v hv
  have hnews : ∀ j v, (u.xs.flatMap enc)[j]? = some v → w.cell? ((⟨u.blk, u.off, none⟩ : Addr).add j) = some v := fun j v hv => by rw [addr_add]; exact I.rd (hu.flat hk he.pos) j v hv
  have hrun := run_append_grow (P := P) w T t el i z hT hi hz ⟨s.blk, s.off, none⟩ s.xs.length s.cap (s.xs.flatMap enc) (by rw [flat_len hk, hsz]) holds ⟨u.blk, u.off, none⟩ u.xs.length u.cap (u.xs.flatMap enc) (by rw [flat_len hk, hsz]) hnews (by omega) (by omega) (growslice_fits (by omega) (by rw [hby]; exact hb))
  have hA : (execOp (ev e) ⟨d, .call { callee := .builtin .append, args := #[x, y], argTypes := #[T, T] }, t, pos, af, g⟩).run P w = .ok (.value (.slice (some ⟨w.heap.size, 0, none⟩) (s.xs.length + u.xs.length) (grownCap w (s.xs.length + u.xs.length) s.cap el)))
      (w.drew.alloc (.cells ((s.xs.flatMap enc).toArray ++ (u.xs.flatMap enc).toArray ++ Builtin.zeroCells z.cells (grownCap w (s.xs.length + u.xs.length) s.cap el - (s.xs.length + u.xs.length))) el)) := by
    simp only [Sl.val, hsa] at hx
    simp only [Sl.val, hua] at hy
    simp [execOp, resolve, invoke, builtin, hx, hy, hrun]
  unfold Op1
  rw [hA]
  have hge := grownCap_ge w (s.xs.length + u.xs.length) s.cap el
  obtain ⟨cs, hcs⟩ : ∃ cs : Array Value, cs = (s.xs.flatMap enc).toArray ++ (u.xs.flatMap enc).toArray ++ Builtin.zeroCells z.cells (grownCap w (s.xs.length + u.xs.length) s.cap el - (s.xs.length + u.xs.length)) := ⟨_, rfl⟩
  rw [← hcs]
  have hnew := heap_alloc_new w.drew (.cells cs el)
  have J := I.gain (A := ⟨[w.heap.size], fun w' => w'.heap[w.heap.size]? = some (.cells cs el (0, 0)), fun _ _ hh hp => (hh _ (by simp)).trans hp⟩) (w' := w.drew.alloc (.cells cs el)) ((Grow.drew w).trans (Grow.alloc _ _)) hnew (fun b hb => by simp at hb; subst hb; simp)
  obtain ⟨h', hle, hfp, J'⟩ := J.settle
  have hb' : h' w.heap.size = some (.cells cs el (0, 0)) := (hfp _ (by simp)).trans hnew
  have := kk w.heap.size (grownCap w (s.xs.length + u.xs.length) s.cap el) h' _ hle J' (rowIn hk hb' fun j v hv => ?_) (by simpa using hge)
  · simpa using this
  · rw [List.flatMap_append] at hv
    rw [hcs, Array.getElem?_append_left (by have := (List.getElem?_eq_some_iff.1 hv).1; simpa using this)]
    simpa using hv
end
end Go.TF
