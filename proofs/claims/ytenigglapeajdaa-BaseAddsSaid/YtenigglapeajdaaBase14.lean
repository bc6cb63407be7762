/- Slices of the call's own: appended to by what is known, made with room, cut, closed up, cleared behind. -/
import Derived.Test.YtenigglapeajdaaBase13
import Derived.Lib.AppendZeros
namespace Go.TF
open Go Go.RowKit

section
variable {P : Program} {e : Env} {w : World} {B : Base} {h : Heap} {M : List SA} {t : TypeId} {pos : String} {af : Array Edge} {g : Option (Nat × Bool)} {d : Option Nat} {K : Value → World → Prop}
theorem Y.caps {x : Operand} {T r : TypeId} {a : Option Addr} {n c : Nat} (hT : Und P T (.slice r)) (hx : ev e x = .slice a n c) :
    Y P ⟨d, .call { callee := .builtin .cap, args := #[x], argTypes := #[T] }, t, pos, af, g⟩ e w (.int .i64 c) := by
  simp [Y, execOp, hx, resolve, invoke, builtin, Builtin.cap_, run_underlying hT, goInt]
theorem Y.slicenil {T el : TypeId} {x : Operand} {lo hi : Option Operand} (hT : Und P T (.slice el)) {k : Nat} (hk : ∀ w, (sizeOf el).run P w = .ok k w) (hx : ev e x = .slice none 0 0)
    (hl : lo = none ∨ ∃ q k, lo = some q ∧ ev e q = .int k 0) (hh : hi = none ∨ ∃ q k, hi = some q ∧ ev e q = .int k 0) : Y P ⟨d, .slice T x lo hi none, t, pos, af, g⟩ e w (.slice none 0 0) := by
  rcases hl with rfl | ⟨q, k, rfl, hq⟩ <;> rcases hh with rfl | ⟨q', k', rfl, hq'⟩ <;>
    simp_all [Y, execOp, Instr.sliceAt, Instr.slice, Instr.sliceBounds, Instr.sliceBound, run_underlying hT, asIntOf]
theorem run_append_nilnil {T ty el size : Nat} (hT : P.underlying T = some (.slice el)) (hs : (sizeOf el).run P w = .ok size w) (c : Nat) (a : Option Addr) (c' : Nat) :
    (Builtin.append_ #[T, T] ty #[.slice none 0 c, .slice a 0 c']).run P w = .ok (.slice none 0 c) w := by
  cases a <;> simp [Builtin.append_, run_underlying hT, hs, Builtin.lenOf, Builtin.firstCells, loadCells, loadCellsFrom]
theorem ElT.info' {el k bytes : Nat} {z : Value} (he : ElT P el k bytes z) : ∃ i, P.info? el = some i ∧ i.zero = some z ∧ i.size = k ∧ i.bytes = bytes := by
  have := he.info
  cases h : P.info? el with
  | none => simp [h] at this
  | some i => simp [h] at this; exact ⟨i, rfl, this.1, this.2.1, this.2.2⟩
/-- A known slice, whatever its length, behind what the call owns. -/
theorem O.appendL {α : Type} {T el k bytes n : Nat} {z v : Value} {x y : Operand} {xs : List Value} {u : Sl α} {enc : α → List Value} (I : Inv B h M w) (hT : Und P T (.slice el)) (he : ElT P el k bytes z) (n0 : Nat) (hn : M[n0]? = some (ownSl el k v n xs)) (hk : ∀ x, (enc x).length = k) (h1 : ∀ x, oneCells (enc x) = true) (hu : u.In k enc h)
    (hx : ev e x = v) (hy : ev e y = u.val) (hb : (n + u.xs.length) * bytes ≤ 140737488355328) (h63 : n + u.xs.length ≤ 140737488355328)
    (kk : ∀ v' w', Inv B h (M.set n0 (ownSl el k v' (n + u.xs.length) (xs ++ u.xs.flatMap enc))) w' → K v' w') :
    Op1 P ⟨d, .call { callee := .builtin .append, args := #[x, y], argTypes := #[T, T] }, t, pos, af, g⟩ e w K := by
  by_cases hnil : u.xs = []
  · obtain ⟨i, hi, hz, hsz, hby⟩ := he.info'
    have hs : (sizeOf el).run P w = .ok k w := by simp [sizeOf, typeInfo, hi, hsz]
    have hrun : (Builtin.append_ #[T, T] t #[v, u.val]).run P w = .ok v w := by
      simp only [Sl.val, hnil, List.length_nil]
      rcases (I.at n0 hn).2 with ⟨rfl, h0⟩ | ⟨gg, cap, cur, rfl, _, _, hnc, _⟩
      · exact run_append_nilnil hT hs 0 u.at_ u.cap
      · exact run_append_empty hT hs _ _ _ hnc u.at_ u.cap
    have hA : (execOp (ev e) ⟨d, .call { callee := .builtin .append, args := #[x, y], argTypes := #[T, T] }, t, pos, af, g⟩).run P w = .ok (.value v) w := by
      simp [execOp, resolve, invoke, builtin, hx, hy, hrun]
    unfold Op1
    rw [hA]
    refine kk v w ?_
    rw [hnil]
    have hM : M.set n0 (ownSl el k v n xs) = M := by
      obtain ⟨hlt, he⟩ := List.getElem?_eq_some_iff.1 hn
      rw [← he]; exact List.set_getElem_self _
    simpa [hM] using I
  · have hpos : 0 < u.xs.length := List.length_pos_iff.2 hnil
    have hua := (hu 0 u.xs[0] (List.getElem?_eq_getElem hpos)).1
    have hy' : ev e y = .slice (some ⟨u.blk, u.off, none⟩) u.xs.length u.cap := by rw [hy]; simp only [Sl.val]; rw [← hua]
    refine O.append I hT he n0 hn hx hy' (I.rd (hu.flat hk he.pos)) (flat_len hk _) ?_ hpos hb h63 fun gg cap w' I' => kk _ w' I'
    simp only [oneCells, List.all_flatMap]
    rw [List.all_eq_true]
    intro x _
    exact h1 x
/-- Room for n elements, nothing in it yet. -/
theorem O.growZ {T Tn el k bytes n : Nat} {z : Value} {kn ki : IntKind} {x y : Operand} (I : Inv B h M w) (hT : Und P T (.slice el)) (hTn : Und P Tn (.int kn)) (he : ElT P el k bytes z) (hx : ev e x = .slice none 0 0) (hy : ev e y = .int ki n) (h0 : 0 < n) (hb : n * bytes ≤ 140737488355328) (h63 : n ≤ 140737488355328)
    (kk : ∀ gg cap xs w', Inv B h (ownSl el k (.slice (some ⟨gg, 0, none⟩) n cap) n xs :: M) w' → K (.slice (some ⟨gg, 0, none⟩) n cap) w') :
    Op1 P ⟨d, .call { callee := .builtin .append, args := #[x, y], argTypes := #[T, Tn] }, t, pos, af, g⟩ e w K := by
  obtain ⟨i, hi, hz, hsz, hby⟩ := he.info'
  subst hsz; subst hby
  have hrun := Go.Lib.run_append_nil_zeros (P := P) w T Tn t el i z ki kn hT hTn hi hz n h0 he.pos (by omega) (by omega)
  have hA : (execOp (ev e) ⟨d, .call { callee := .builtin .append, args := #[x, y], argTypes := #[T, Tn] }, t, pos, af, g⟩).run P w = .ok (.value (.slice (some ⟨w.heap.size, 0, none⟩) n (grownCap w n 0 el)))
      (w.drew.alloc (.cells (Builtin.zeroCells z.cells n ++ Builtin.zeroCells z.cells (grownCap w n 0 el - n)) el)) := by
    simp [execOp, resolve, invoke, builtin, hx, hy, hrun]
  unfold Op1
  rw [hA]
  have hge := grownCap_ge w n 0 el
  have hcm := grownCap_le_maxLen w n 0 el (by simp only [maxLen]; omega)
  have hsize : (Builtin.zeroCells z.cells n ++ Builtin.zeroCells z.cells (grownCap w n 0 el - n)).size = grownCap w n 0 el * i.size := by
    simp only [Array.size_append, size_zeroCells, he.cells, ← Nat.add_mul]
    congr 1
    omega
  refine kk w.heap.size _ _ _ (I.gain (A := ownSl el i.size (.slice (some ⟨w.heap.size, 0, none⟩) n (grownCap w n 0 el)) n ((Builtin.zeroCells z.cells n ++ Builtin.zeroCells z.cells (grownCap w n 0 el - n)).toList.take (n * i.size))) ((Grow.drew w).trans (Grow.alloc _ _)) ?_ (fun b hb => by simp [ownSl, Value.ownBlock] at hb; subst hb; simp))
  have := ownsRow_made' w (Builtin.zeroCells z.cells n ++ Builtin.zeroCells z.cells (grownCap w n 0 el - n)).toList el i.size n (grownCap w n 0 el) (by simpa using hsize) hge hcm w.drew rfl
  rw [Array.toArray_toList] at this
  exact this
/-- Cut behind: fewer elements of what the call owns. -/
theorem Inv.cutSl {el k gg n cap m : Nat} {xs : List Value} (I : Inv B h (ownSl el k (.slice (some ⟨gg, 0, none⟩) n cap) n xs :: M) w) (hm : m ≤ n) : Inv B h (ownSl el k (.slice (some ⟨gg, 0, none⟩) m cap) m (xs.take (m * k)) :: M) w := by
  have hp : w.ownsRow 0 el k (.slice (some ⟨gg, 0, none⟩) n cap) n xs := (I.own _ (List.mem_cons_self ..)).1
  have hfp := (I.own _ (List.mem_cons_self ..)).2 gg (by simp [ownSl, Value.ownBlock])
  refine I.step rfl rfl rfl (Nat.le_refl _) (fun _ _ _ => rfl) ?_ (fun b hb => ?_)
  · rcases hp.2 with ⟨h0, _⟩ | ⟨g', cap', cur, he, hb, hg, hnc, hcm, hcs, ht⟩
    · cases h0
    · injection he with e1 e2 e3; injection e1 with e1; injection e1 with e1; subst e1; subst e3
      have hmk := Nat.mul_le_mul_right k hm
      refine ⟨by rw [List.length_take, hp.1]; omega, .inr ⟨gg, cap, cur, rfl, hb, hg, by omega, hcm, hcs, ?_⟩⟩
      rw [← ht, List.take_take, Nat.min_eq_left hmk]
  · have : b = gg := by simpa [ownSl, Value.ownBlock] using hb
    subst this
    exact ⟨.inl (by simp [ownSl, Value.ownBlock]), hfp.2.1⟩
/-- Closed up: what stands from j on goes to i on. -/
theorem O.closeUp {T el k bytes gg n cap i j c o : Nat} {z : Value} {x y : Operand} {xs : List Value} (I : Inv B h (ownSl el k (.slice (some ⟨gg, 0, none⟩) n cap) n xs :: M) w) (hT : Und P T (.slice el)) (he : ElT P el k bytes z) (h1 : oneCells xs = true) (hij : i ≤ j) (hjn : j ≤ n)
    (hx : ev e x = .slice (some ⟨gg, 0, none⟩) i cap) (hy : ev e y = .slice (some ⟨gg, o, none⟩) (n - j) c) (ho : o = j * k ∨ n = j)
    (kk : ∀ w', Inv B h (ownSl el k (.slice (some ⟨gg, 0, none⟩) (i + (n - j)) cap) (i + (n - j)) (xs.take (i * k) ++ xs.drop (j * k)) :: M) w' → K (.slice (some ⟨gg, 0, none⟩) (i + (n - j)) cap) w') :
    Op1 P ⟨d, .call { callee := .builtin .append, args := #[x, y], argTypes := #[T, T] }, t, pos, af, g⟩ e w K := by
  obtain ⟨ii, hi, hz, hsz, hby⟩ := he.info'
  subst hsz
  have hp : w.ownsRow 0 el ii.size (.slice (some ⟨gg, 0, none⟩) n cap) n xs := (I.own _ (List.mem_cons_self ..)).1
  have hfp := (I.own _ (List.mem_cons_self ..)).2 gg (by simp [ownSl, Value.ownBlock])
  rcases hp.2 with ⟨h0, _⟩ | ⟨g', cap', cur, he', hb, hg, hnc, hcm, hcs, ht⟩
  · cases h0
  injection he' with e1 e2 e3; injection e1 with e1; injection e1 with e1; subst e1; subst e3
  have hjk : j * ii.size ≤ n * ii.size := Nat.mul_le_mul_right _ hjn
  have hik : i * ii.size ≤ j * ii.size := Nat.mul_le_mul_right _ hij
  have hnk : n * ii.size ≤ cap * ii.size := Nat.mul_le_mul_right _ hnc
  have hl : (xs.drop (j * ii.size)).length = (n - j) * ii.size := by rw [List.length_drop, hp.1, Nat.sub_mul]
  have hnews : ∀ q u, (xs.drop (j * ii.size))[q]? = some u → w.cell? ((⟨gg, o, none⟩ : Addr).add q) = some u := fun q u hq => by
    rw [List.getElem?_drop] at hq
    have hlt := (List.getElem?_eq_some_iff.1 hq).1
    rw [hp.1] at hlt
    rcases ho with rfl | rfl
    · rw [addr_add]
      simp only [World.cell?, hg]
      rw [← ht, List.getElem?_take] at hq
      rw [if_pos (by omega)] at hq
      simpa using hq
    · omega
  have hone : ∀ u ∈ xs.drop (j * ii.size), u.oneCell' = true := fun u hu => by
    simp only [oneCells, List.all_eq_true] at h1
    exact h1 u (List.mem_of_mem_drop hu)
  have hroom : i + (n - j) ≤ cap := by omega
  have hfit : i * ii.size + (xs.drop (j * ii.size)).length ≤ cur.size := by rw [hl, hcs, ← Nat.add_mul]; exact Nat.mul_le_mul_right _ hroom
  have hr := run_append_room (P := P) w T t el ii hT hi gg i cap cur hg ⟨gg, o, none⟩ (n - j) c (xs.drop (j * ii.size)) hl hnews hone hroom hfit
  have hA : (execOp (ev e) ⟨d, .call { callee := .builtin .append, args := #[x, y], argTypes := #[T, T] }, t, pos, af, g⟩).run P w = .ok (.value (.slice (some ⟨gg, 0, none⟩) (i + (n - j)) cap)) (w.setRow gg (cur.toList.take (i * ii.size) ++ xs.drop (j * ii.size) ++ cur.toList.drop (i * ii.size + (xs.drop (j * ii.size)).length)).toArray) := by
    simp only [execOp, resolve, invoke, builtin, Sem.run_bind, Sem.run_pure, Result.andThen_ok, List.map_toArray, List.map_cons, List.map_nil, hx, hy, hr]
  unfold Op1
  rw [hA]
  have htk : cur.toList.take (i * ii.size) = xs.take (i * ii.size) := by rw [← ht, List.take_take, Nat.min_eq_left (by omega)]
  have hlen : (xs.take (i * ii.size) ++ xs.drop (j * ii.size)).length = (i + (n - j)) * ii.size := by
    rw [List.length_append, hl, List.length_take, hp.1, Nat.add_mul, Nat.min_eq_left (by omega)]
  refine kk _ (I.step rfl rfl rfl (by simp) (fun b hb hnb => setRow_other w gg b _ (fun e => hnb (by simp [ownSl, Value.ownBlock, e]))) ?_ (fun b hb => ?_))
  · refine ⟨hlen, .inr ⟨gg, cap, _, rfl, hb, setRow_heap w gg cur _ el _ hg, hroom, hcm, ?_, ?_⟩⟩
    · simp only [List.size_toArray, List.length_append, List.length_take, List.length_drop, Array.length_toList, hp.1] at hfit hlen ⊢
      rw [hcs] at hfit ⊢
      omega
    · rw [htk, ← hlen]
      exact List.take_left
  · have : b = gg := by simpa [ownSl, Value.ownBlock] using hb
    subst this
    exact ⟨.inl (by simp [ownSl, Value.ownBlock]), by simpa using hfp.2.1⟩
/-- Cleared behind what is left. -/
theorem O.clearS {T el k bytes gg n cap m o c : Nat} {z : Value} {x : Operand} {xs : List Value} (I : Inv B h (ownSl el k (.slice (some ⟨gg, 0, none⟩) n cap) n xs :: M) w) (hT : Und P T (.slice el)) (he : ElT P el k bytes z) (hz1 : z.cells.all (fun v => v.oneCell') = true) (hx : ev e x = .slice (some ⟨gg, o, none⟩) m c) (hm : 0 < m) (ho : o = n * k) (hmc : n + m ≤ cap)
    (kk : ∀ w', Inv B h (ownSl el k (.slice (some ⟨gg, 0, none⟩) n cap) n xs :: M) w' → K (.tuple #[]) w') :
    Op1 P ⟨d, .call { callee := .builtin .clear, args := #[x], argTypes := #[T] }, t, pos, af, g⟩ e w K := by
  obtain ⟨ii, hi, hz, hsz, hby⟩ := he.info'
  subst hsz; subst ho
  have hp : w.ownsRow 0 el ii.size (.slice (some ⟨gg, 0, none⟩) n cap) n xs := (I.own _ (List.mem_cons_self ..)).1
  have hfp := (I.own _ (List.mem_cons_self ..)).2 gg (by simp [ownSl, Value.ownBlock])
  rcases hp.2 with ⟨h0, _⟩ | ⟨g', cap', cur, he', hb, hg, hnc, hcm, hcs, ht⟩
  · cases h0
  injection he' with e1 e2 e3; injection e1 with e1; injection e1 with e1; subst e1; subst e3
  have hzl : (Builtin.zeroCells z.cells m).toList.length = m * ii.size := by rw [Array.length_toList, size_zeroCells, he.cells]
  have hmk : (n + m) * ii.size ≤ cap * ii.size := Nat.mul_le_mul_right _ hmc
  rw [Nat.add_mul] at hmk
  have hone : ∀ v ∈ (Builtin.zeroCells z.cells m).toList, v.oneCell' = true := fun v hv => by
    simp only [Builtin.zeroCells, Array.toList_map, List.mem_map] at hv
    obtain ⟨q, _, rfl⟩ := hv
    have hlt : q % z.cells.size < z.cells.size := Nat.mod_lt _ (by rw [he.cells]; exact he.pos)
    rw [getElem!_pos z.cells _ hlt]
    rw [Array.all_eq_true] at hz1
    exact hz1 _ hlt
  have hst := run_storeCells_at P gg (n * ii.size) el (Builtin.zeroCells z.cells m).toList 0 cur w hg (by rw [hzl, hcs]; omega) hone
  simp only [Nat.add_zero] at hst
  have hA : (execOp (ev e) ⟨d, .call { callee := .builtin .clear, args := #[x], argTypes := #[T] }, t, pos, af, g⟩).run P w = .ok (.value (.tuple #[])) (w.setRow gg (cur.toList.take (n * ii.size) ++ (Builtin.zeroCells z.cells m).toList ++ cur.toList.drop (n * ii.size + (Builtin.zeroCells z.cells m).toList.length)).toArray) := by
    obtain ⟨m', rfl⟩ : ∃ m', m = m' + 1 := ⟨m - 1, by omega⟩
    simp [execOp, resolve, invoke, builtin, hx, Builtin.clear_, run_underlying hT, zeroValue, typeInfo, hi, hz, hst]
  unfold Op1
  rw [hA]
  refine kk _ (I.step rfl rfl rfl (by simp) (fun b hb hnb => setRow_other w gg b _ (fun e => hnb (by simp [ownSl, Value.ownBlock, e]))) ?_ (fun b hb => ?_))
  · refine ⟨hp.1, .inr ⟨gg, cap, _, rfl, hb, setRow_heap w gg cur _ el _ hg, hnc, hcm, ?_, ?_⟩⟩
    · simp only [List.size_toArray, List.length_append, List.length_take, List.length_drop, hzl, Array.length_toList, hcs]
      omega
    · have hl : (cur.toList.take (n * ii.size)).length = n * ii.size := by rw [ht, hp.1]
      rw [List.append_assoc, List.take_left' hl, ht]
  · have : b = gg := by simpa [ownSl, Value.ownBlock] using hb
    subst this
    exact ⟨.inl (by simp [ownSl, Value.ownBlock]), by simpa using hfp.2.1⟩
end
end Go.TF
