/- A queue of the call's own: a slice that is read in front, cut there, and appended to behind; conversions of pieces; string ranges. -/
import Derived.Test.YtenigglapeajdaaBase10
import Derived.Laws.AppendOwn
import Derived.Laws.RangeAny
namespace Go.TF
open Go Go.RowKit

/-- A piece told otherwise. -/
theorem Inv.conv {B : Base} {h : Heap} {M : List SA} {w : World} (I : Inv B h M w) (n : Nat) {A A' : SA} (hn : M[n]? = some A) (hf : ∀ b ∈ A'.fp, b ∈ A.fp) (hP : A.P w → A'.P w) : Inv B h (M.set n A') w :=
  I.stepAt n hn rfl rfl rfl (Nat.le_refl _) (fun _ _ _ => rfl) (hP (I.at n hn)) (fun b hb => by
    have hA := (I.own A (List.mem_of_getElem? hn)).2 b (hf b hb)
    exact ⟨.inl (hf b hb), hA.2.1⟩)
/-- Elements of one cell each, from o on, in block g, room for c. -/
def ownQ (e : TypeId) (g o c : Nat) (xs : List Value) : SA where
  fp := [g]
  P := fun w => ∃ cur : Array Value, w.heap[g]? = some (.cells cur e (0, 0)) ∧ xs.length ≤ c ∧ o + c ≤ cur.size ∧ (cur.toList.drop o).take xs.length = xs
  loc := fun w w' h hp => by
    obtain ⟨cur, h1, h2⟩ := hp
    exact ⟨cur, (h g (by simp)).trans h1, h2⟩
section
variable {P : Program} {e : Env} {w : World} {B : Base} {h : Heap} {M : List SA} {d : Option Nat} {t : TypeId} {pos : String} {af : Array Edge} {g : Option (Nat × Bool)} {K : Value → World → Prop}
theorem Inv.rdQ {T gb o c : Nat} {xs : List Value} {v : Value} (I : Inv B h M w) (n : Nat) (hn : M[n]? = some (ownQ T gb o c xs)) {i : Nat} (hi : xs[i]? = some v) : Rd w gb (o + i) [v] := fun j u e => by
  obtain ⟨cur, h1, _, h3, h4⟩ := I.at n hn
  cases j with
  | zero =>
    simp at e; subst e
    have hil := (List.getElem?_eq_some_iff.1 hi).1
    have h5 := congrArg (fun l : List Value => l[i]?) h4
    simp only [List.getElem?_take, if_pos hil, List.getElem?_drop, hi] at h5
    simp only [World.cell?, Nat.add_zero, h1, Option.isSome_none, Bool.false_eq_true, if_false]
    simpa using h5
  | succ j => simp at e
theorem Inv.toQ {T b : Nat} {xs : List Value} (I : Inv B h M w) (n : Nat) (hn : M[n]? = some (box b xs T)) : Inv B h (M.set n (ownQ T b 0 xs.length xs)) w :=
  I.conv n hn (fun b hb => hb) fun hp => ⟨xs.toArray, hp, Nat.le_refl _, by simp, by simp⟩
theorem Inv.popQ {T gb o c : Nat} {x : Value} {xs : List Value} (I : Inv B h M w) (n : Nat) (hn : M[n]? = some (ownQ T gb o c (x :: xs))) : Inv B h (M.set n (ownQ T gb (if c = 1 then o else o + 1) (c - 1) xs)) w :=
  I.conv n hn (fun b hb => hb) fun ⟨cur, h1, h2, h3, h4⟩ => by
    simp only [List.length_cons] at h2 h4
    refine ⟨cur, h1, by omega, by split <;> omega, ?_⟩
    by_cases hc : c = 1
    · have : xs = [] := List.eq_nil_of_length_eq_zero (by omega)
      subst this; simp
    · rw [if_neg hc]
      have h6 : cur.toList.drop (o + 1) = (cur.toList.drop o).tail := by rw [List.tail_drop]
      rw [h6]
      cases hcd : cur.toList.drop o with
      | nil => rw [hcd] at h4; simp at h4
      | cons y ys => rw [hcd] at h4; simp at h4; simpa using h4.2
theorem Y.cutQ {T el o c n gb : Nat} {x : Operand} {lo : Option Operand} {q : Operand} {k : IntKind} (hT : Und P T (.slice el)) (hk : ∀ w, (sizeOf el).run P w = .ok 1 w) (hx : ev e x = .slice (some ⟨gb, o, none⟩) (n + 1) c) (hc : n + 1 ≤ c) (hl : lo = some q) (hq : ev e q = .int k 1) :
    Y P ⟨d, .slice T x lo none none, t, pos, af, g⟩ e w (.slice (some ⟨gb, if c = 1 then o else o + 1, none⟩) n (c - 1)) := by
  refine (Y.slicesl (l := 1) (h := n + 1) hT hk hx (.inr ⟨q, k, hl, hq⟩) (.inl ⟨rfl, rfl⟩) (by omega) hc).is ?_
  simp only [Nat.add_sub_cancel, Nat.mul_one]
  split <;> rfl
theorem O.mkbox {T el k n : Nat} {parts : Array (Nat × Operand)} {z : Value} {cs : List Value} (I : Inv B h M w) (hT : Und P T (.slice el)) (hk : ∀ w, (sizeOf el).run P w = .ok k w) (hz : Zero P el z) (hs : n * k ≤ 16777216) (h0 : n * k ≠ 0)
    (hf : fillL (fun i => some (i * k, k)) ((List.range (n * k)).map fun i => (cellsL z)[i % k]!) (parts.toList.map fun (i, x) => (i, ev e x)) = some cs) (hzc : (cellsL z).length = k)
    (kk : ∀ b w', Inv B h (TF.box b cs el :: M) w' → K (.slice (some ⟨b, 0, none⟩) n n) w') :
    Op1 P ⟨d, .buildSlice T n parts, t, pos, af, g⟩ e w K := by
  have h3 : (parts.map fun (i, x) => (i, ev e x)).toList = parts.toList.map fun (i, x) => (i, ev e x) := by simp
  have h4 := fill_eq (fun i => some (i * k, k)) (parts.toList.map fun (i, x) => (i, ev e x)) ((List.range (n * k)).map fun i => (cellsL z)[i % k]!)
  rw [hf] at h4
  have hrun : (execOp (ev e) ⟨d, .buildSlice T n parts, t, pos, af, g⟩).run P w = .ok (.value (.slice (some ⟨w.heap.size, 0, none⟩) n n)) (w.alloc (.cells cs.toArray el)) := by
    have hs' : ¬ (n * k > 2 ^ 24) := by simp; omega
    simp only [execOp, Instr.buildSlice, Sem.run_bind, run_underlying hT, Result.andThen_ok, hk w, h3, if_neg hs', if_neg h0, hz w]
    have h5 : (Array.map (fun x => z.cells[x % z.cells.size]!) (Array.range (n * k))) = ((List.range (n * k)).map fun i => (cellsL z)[i % k]!).toArray := by
      apply Array.ext'
      simp [cells_eq z, hzc]
    simp only [Sem.run_pure, Result.andThen_ok]
    rw [h5, h4]
    simp [newRow]
  unfold Op1
  rw [hrun]
  exact kk _ _ (I.gain (A := TF.box w.heap.size cs el) (Grow.alloc w _) (heap_alloc_new w _) (fun b hb => by simp [TF.box] at hb; subst hb; simp))
theorem O.appendQ {T el bytes gb o c b ob cb : Nat} {z v : Value} {x y : Operand} {xs : List Value} (I : Inv B h M w) (hT : Und P T (.slice el)) (he : ElT P el 1 bytes z) (n0 : Nat) (hn : M[n0]? = some (ownQ el gb o c xs)) (hx : ev e x = .slice (some ⟨gb, o, none⟩) xs.length c) (hy : ev e y = .slice (some ⟨b, ob, none⟩) 1 cb)
    (hr : Rd w b ob [v]) (h1 : v.oneCell' = true) (hb : (xs.length + 1) * bytes ≤ 140737488355328) (h63 : xs.length + 1 ≤ 140737488355328)
    (kk : ∀ g' o' c' w', Inv B h (M.set n0 (ownQ el g' o' c' (xs ++ [v]))) w' → K (.slice (some ⟨g', o', none⟩) (xs.length + 1) c') w') :
    Op1 P ⟨d, .call { callee := .builtin .append, args := #[x, y], argTypes := #[T, T] }, t, pos, af, g⟩ e w K := by
  obtain ⟨i, hi, hz, hs, hby⟩ : ∃ i, P.info? el = some i ∧ i.zero = some z ∧ i.size = 1 ∧ i.bytes = bytes := by
    have := he.info
    cases h : P.info? el with
    | none => simp [h] at this
    | some i => simp [h] at this; exact ⟨i, rfl, this.1, this.2.1, this.2.2⟩
  obtain ⟨cur, q1, q2, q3, q4⟩ := I.at n0 hn
  have hnews : ∀ j u, ([v] : List Value)[j]? = some u → w.cell? ((⟨b, ob, none⟩ : Addr).add j) = some u := fun j u hu => by rw [addr_add]; exact hr j u hu
  have hA : ∀ (v' : Value) (w' : World), (Builtin.append_ #[T, T] t #[.slice (some ⟨gb, o, none⟩) xs.length c, .slice (some ⟨b, ob, none⟩) 1 cb]).run P w = .ok v' w' →
      (execOp (ev e) ⟨d, .call { callee := .builtin .append, args := #[x, y], argTypes := #[T, T] }, t, pos, af, g⟩).run P w = .ok (.value v') w' := fun v' w' hr => by
    simp [execOp, resolve, invoke, builtin, hx, hy, hr]
  by_cases hroom : xs.length + 1 ≤ c
  · have hrun : (Builtin.append_ #[T, T] t #[.slice (some ⟨gb, o, none⟩) xs.length c, .slice (some ⟨b, ob, none⟩) 1 cb]).run P w = .ok (.slice (some ⟨gb, o, none⟩) (xs.length + 1) c) (w.setRow gb (cur.toList.take (o + xs.length) ++ [v] ++ cur.toList.drop (o + xs.length + 1)).toArray) := by
      have hf := run_firstCells_some (P := P) w i.size 1 ⟨b, ob, none⟩ 1 cb [v] (by simp [hs]) hnews
      have hst := run_storeCells_at P gb (o + xs.length * i.size) el [v] 0 cur w q1 (by rw [hs]; simp; omega) (by simpa using h1)
      rw [hs] at hst
      simp only [Nat.add_zero, Nat.mul_one, List.length_cons, List.length_nil] at hst
      simp [Builtin.append_, run_underlying hT, sizeOf, typeInfo, hi, Builtin.lenOf, hroom, hs] at hf ⊢
      simp [hf, addr_add]
      simp at hst
      simp [hst]
    unfold Op1
    rw [hA _ _ hrun]
    refine kk gb o c _ (I.stepAt n0 hn rfl rfl rfl (by simp) (fun k _ hk => setRow_other w gb k _ (fun e => hk (by simp [ownQ, e]))) ⟨_, setRow_heap w gb cur _ el _ q1, by simpa using hroom, by simp; omega, ?_⟩ (fun k hk => ⟨.inl hk, by simp [ownQ] at hk; subst hk; simpa using (Array.getElem?_eq_some_iff.1 q1).1⟩))
    simp only [List.length_append, List.length_cons, List.length_nil]
    have hlo : (cur.toList.take (o + xs.length)).drop o = xs := by
      rw [List.drop_take, show o + xs.length - o = xs.length by omega]; exact q4
    have hol : o ≤ (cur.toList.take (o + xs.length)).length := by simp; omega
    rw [List.append_assoc, List.drop_append_of_le_length hol, hlo, ← List.append_assoc, List.take_left' (by simp)]
  · have holds : ∀ j u, xs[j]? = some u → w.cell? ((⟨gb, o, none⟩ : Addr).add j) = some u := fun j u hu => by
      rw [addr_add]; exact I.rdQ n0 hn hu 0 u rfl
    have hrun := run_append_grow (P := P) w T t el i z hT hi hz ⟨gb, o, none⟩ xs.length c xs (by simp [hs]) holds ⟨b, ob, none⟩ 1 cb [v] (by simp [hs]) hnews (by omega) (by omega) (growslice_fits (by omega) (by rw [hby]; exact hb))
    unfold Op1
    rw [hA _ _ hrun]
    have hge := grownCap_ge w (xs.length + 1) c el
    have hnew := heap_alloc_new w.drew (.cells (xs.toArray ++ #[v] ++ Builtin.zeroCells z.cells (grownCap w (xs.length + 1) c el - (xs.length + 1))) el)
    refine kk w.heap.size 0 _ _ (I.stepAt n0 hn rfl rfl rfl (by simp) (fun k hk _ => heap_alloc_old w.drew _ hk) ⟨_, hnew, by simpa using hge, ?_, ?_⟩ (fun k hk => ⟨.inr (by simp [ownQ] at hk; omega), by simp [ownQ] at hk; subst hk; simp⟩))
    · simp [size_zeroCells, he.cells]; omega
    · simp only [Array.toList_append, List.drop_zero]
      rw [List.take_left' (by simp)]
end

/-! ### Ranges over strings -/
def sit (b : Nat) (s : ByteArray) (i : Nat) : SA where
  fp := [b]
  P := fun w => w.heap[b]? = some (.stringIter s i)
  loc := fun _ _ h hp => (h b (by simp)).trans hp
section
variable {P : Program} {e : Env} {w : World} {B : Base} {h : Heap} {M : List SA} {d : Option Nat} {t : TypeId} {pos : String} {af : Array Edge} {g : Option (Nat × Bool)} {K : Value → World → Prop}
theorem O.ranges {T : Nat} {x : Operand} {s : ByteArray} (I : Inv B h M w) (hT : Und P T .string) (hx : ev e x = .string s) (kk : ∀ b w', Inv B h (sit b s 0 :: M) w' → K (.pointer (some ⟨b, 0, none⟩)) w') :
    Op1 P ⟨d, .range T x, t, pos, af, g⟩ e w K := by
  have : (execOp (ev e) ⟨d, .range T x, t, pos, af, g⟩).run P w = .ok (.value (.pointer (some ⟨w.heap.size, 0, none⟩))) (w.iter s 0) := by
    simp [execOp, hx, run_range_string w T s hT]
  unfold Op1
  rw [this]
  exact kk _ _ (I.gain (A := sit w.heap.size s 0) (Grow.alloc w _) (World.iter_heap w s 0) (fun b hb => by simp [sit] at hb; subst hb; simp [World.iter]))
theorem O.nexts {x : Operand} {b i : Nat} {s : ByteArray} (I : Inv B h M w) (n : Nat) (hn : M[n]? = some (sit b s i)) (hx : ev e x = .pointer (some ⟨b, 0, none⟩))
    (k0 : ¬ i < s.size → K (.tuple #[.bool false]) w)
    (k1 : i < s.size → ∀ w', Inv B h (M.set n (sit b s (i + (Utf8.decode s i).2))) w' → K (.tuple #[.bool true, .int .i64 i, .int .i32 (Utf8.decode s i).1]) w') :
    Op1 P ⟨d, .next x true, t, pos, af, g⟩ e w K := by
  have hb : w.heap[b]? = some (.stringIter s i) := I.at n hn
  have hg : (getObj b).run P w = .ok (.stringIter s i) w := getObj_run hb (by intro c t f h; cases h)
  have hset := fun o => setObj_run (P := P) (o' := o) hb (by intro c t f h; cases h)
  unfold Op1
  by_cases hlt : i < s.size
  · have hrun : (execOp (ev e) ⟨d, .next x true, t, pos, af, g⟩).run P w = .ok (.value (.tuple #[.bool true, .int .i64 i, .int .i32 (Utf8.decode s i).1])) { w with heap := w.heap.setIfInBounds b (.stringIter s (i + (Utf8.decode s i).2)) } := by
      simp [execOp, hx, Instr.next, hg, hlt, hset, goInt]
    rw [hrun]
    exact k1 hlt _ (I.setObj n hn rfl rfl fun w' hw' => hw')
  · have hrun : (execOp (ev e) ⟨d, .next x true, t, pos, af, g⟩).run P w = .ok (.value (.tuple #[.bool false])) w := by
      simp [execOp, hx, Instr.next, hg, hlt]
    rw [hrun]
    exact k0 hlt
end
end Go.TF
