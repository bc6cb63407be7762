/- Copies into what the call owns; room made behind it; what slices.Insert asks first. -/
import Derived.Test.YtenigglapeajdaaBase14
import Derived.Lib.AppendZerosOnto
import Derived.Lib.Overlaps
namespace Go.TF
open Go Go.RowKit

/-- Laid over what stood there, from place o on. -/
def over (xs : List Value) (o : Nat) (news : List Value) : List Value := xs.take o ++ news ++ xs.drop (o + news.length)
theorem over_len {xs news : List Value} {o : Nat} (h : o + news.length ≤ xs.length) : (over xs o news).length = xs.length := by
  simp only [over, List.length_append, List.length_take, List.length_drop]; omega
theorem over_take (cur news : List Value) (o m : Nat) (h : o + news.length ≤ m) (hm : m ≤ cur.length) : (cur.take o ++ news ++ cur.drop (o + news.length)).take m = over (cur.take m) o news := by
  have hl : (cur.take o ++ news).length = o + news.length := by simp only [List.length_append, List.length_take]; omega
  rw [List.take_append, hl, List.take_of_length_le (by omega)]
  unfold over
  rw [List.take_take, Nat.min_eq_left (by omega), List.drop_take]
section
variable {P : Program} {e : Env} {w : World} {B : Base} {h : Heap} {M : List SA} {t : TypeId} {pos : String} {af : Array Edge} {g : Option (Nat × Bool)} {d : Option Nat} {K : Value → World → Prop}
/-- copy: all is read before anything is written. -/
theorem O.copy {T T' el k bytes gg n cap o m c sb so r sc q : Nat} {z : Value} {x y : Operand} {xs news : List Value} (I : Inv B h M w) (hT : Und P T (.slice el)) (he : ElT P el k bytes z) (n0 : Nat) (hn : M[n0]? = some (ownSl el k (.slice (some ⟨gg, 0, none⟩) n cap) n xs))
    (hx : ev e x = .slice (some ⟨gg, o * k, none⟩) m c) (hy : ev e y = .slice (some ⟨sb, so, none⟩) r sc) (hq : Nat.min r m = q) (hom : o + m ≤ n) (hr : Rd w sb so news) (hl : news.length = q * k) (h1 : oneCells news = true)
    (kk : ∀ w', Inv B h (M.set n0 (ownSl el k (.slice (some ⟨gg, 0, none⟩) n cap) n (over xs (o * k) news))) w' → K (.int .i64 q) w') :
    Op1 P ⟨d, .call { callee := .builtin .copy, args := #[x, y], argTypes := #[T, T'] }, t, pos, af, g⟩ e w K := by
  obtain ⟨ii, hi, hz, hsz, hby⟩ := he.info'
  subst hsz
  have hp : w.ownsRow 0 el ii.size (.slice (some ⟨gg, 0, none⟩) n cap) n xs := I.at n0 hn
  have hfp := (I.own _ (List.mem_of_getElem? hn)).2 gg (by simp [ownSl, Value.ownBlock])
  rcases hp.2 with ⟨h0, _⟩ | ⟨g', cap', cur, he', hb, hg, hnc, hcm, hcs, ht⟩
  · cases h0
  injection he' with e1 e2 e3; injection e1 with e1; injection e1 with e1; subst e1; subst e3
  have hqm : q ≤ m := by rw [← hq]; exact Nat.min_le_right _ _
  have hok : o * ii.size + news.length ≤ n * ii.size := by rw [hl, ← Nat.add_mul]; exact Nat.mul_le_mul_right _ (by omega)
  have hnk : n * ii.size ≤ cap * ii.size := Nat.mul_le_mul_right _ hnc
  have hone : ∀ u ∈ news, u.oneCell' = true := fun u hu => by
    simp only [oneCells, List.all_eq_true] at h1
    exact h1 u hu
  have hld := run_loadCells_list (P := P) (w := w) ⟨sb, so, none⟩ news (fun j v hj => by rw [addr_add]; exact hr j v hj)
  have hst := run_storeCells_at P gg (o * ii.size) el news 0 cur w hg (by rw [hcs]; omega) hone
  simp only [Nat.add_zero] at hst
  have hA : (execOp (ev e) ⟨d, .call { callee := .builtin .copy, args := #[x, y], argTypes := #[T, T'] }, t, pos, af, g⟩).run P w = .ok (.value (.int .i64 q)) (w.setRow gg (cur.toList.take (o * ii.size) ++ news ++ cur.toList.drop (o * ii.size + news.length)).toArray) := by
    simp [execOp, resolve, invoke, builtin, hx, hy, Builtin.copy_, run_underlying hT, Builtin.lenOf, Builtin.firstCells, sizeOf, typeInfo, hi, hq, ← hl, hld, hst, goInt]
  unfold Op1
  rw [hA]
  have hcl : cur.toList.length = cap * ii.size := by rw [Array.length_toList, hcs]
  refine kk _ (I.stepAt n0 hn rfl rfl rfl (by simp) (fun b hb hnb => setRow_other w gg b _ (fun e => hnb (by simp [ownSl, Value.ownBlock, e]))) ?_ (fun b hb => ?_))
  · refine ⟨?_, .inr ⟨gg, cap, _, rfl, hb, setRow_heap w gg cur _ el _ hg, hnc, hcm, ?_, ?_⟩⟩
    · rw [over_len (by rw [hp.1]; exact hok), hp.1]
    · simp only [List.size_toArray, List.length_append, List.length_take, List.length_drop, hcl]
      omega
    · rw [over_take _ _ _ _ hok (by rw [hcl]; exact hnk), ht]
  · have : b = gg := by simpa [ownSl, Value.ownBlock] using hb
    subst this
    exact ⟨.inl (by simp [ownSl, Value.ownBlock]), by simpa using hfp.2.1⟩
/-- Seen with some of its spare cells. -/
theorem Inv.widen {el k gg n cap m : Nat} {xs : List Value} (I : Inv B h (ownSl el k (.slice (some ⟨gg, 0, none⟩) n cap) n xs :: M) w) (hm : n + m ≤ cap) :
    ∃ ys, ys.length = m * k ∧ Inv B h (ownSl el k (.slice (some ⟨gg, 0, none⟩) (n + m) cap) (n + m) (xs ++ ys) :: M) w := by
  have hp : w.ownsRow 0 el k (.slice (some ⟨gg, 0, none⟩) n cap) n xs := (I.own _ (List.mem_cons_self ..)).1
  have hfp := (I.own _ (List.mem_cons_self ..)).2 gg (by simp [ownSl, Value.ownBlock])
  rcases hp.2 with ⟨h0, _⟩ | ⟨g', cap', cur, he, hb, hg, hnc, hcm, hcs, ht⟩
  · cases h0
  injection he with e1 e2 e3; injection e1 with e1; injection e1 with e1; subst e1; subst e3
  have hnk : (n + m) * k ≤ cap * k := Nat.mul_le_mul_right _ hm
  rw [Nat.add_mul] at hnk
  have hcl : cur.toList.length = cap * k := by rw [Array.length_toList, hcs]
  have hys : ((cur.toList.drop (n * k)).take (m * k)).length = m * k := by rw [List.length_take, List.length_drop, hcl]; omega
  refine ⟨(cur.toList.drop (n * k)).take (m * k), hys, I.step rfl rfl rfl (Nat.le_refl _) (fun _ _ _ => rfl) ?_ (fun b hb => ?_)⟩
  · refine ⟨by rw [List.length_append, hp.1, hys, Nat.add_mul], .inr ⟨gg, cap, cur, rfl, hb, hg, hm, hcm, hcs, ?_⟩⟩
    rw [← ht, Nat.add_mul, List.take_add]
  · have : b = gg := by simpa [ownSl, Value.ownBlock] using hb
    subst this
    exact ⟨.inl (by simp [ownSl, Value.ownBlock]), hfp.2.1⟩
/-- What is owned holds these cells. -/
theorem Inv.rdOwn {el k gg n cap : Nat} {xs : List Value} (I : Inv B h M w) (n0 : Nat) (hn : M[n0]? = some (ownSl el k (.slice (some ⟨gg, 0, none⟩) n cap) n xs)) (o m : Nat) : Rd w gg o ((xs.drop o).take m) := by
  have hp : w.ownsRow 0 el k (.slice (some ⟨gg, 0, none⟩) n cap) n xs := I.at n0 hn
  intro j v hj
  have := hp.cells (g := gg) rfl (o + j) v (by
    rw [List.getElem?_take] at hj
    split at hj
    · rwa [List.getElem?_drop] at hj
    · cases hj)
  rwa [addr_add, Nat.zero_add] at this
theorem Inv.shapeOwn {el k gg n cap : Nat} {xs : List Value} (I : Inv B h M w) (n0 : Nat) (hn : M[n0]? = some (ownSl el k (.slice (some ⟨gg, 0, none⟩) n cap) n xs)) : w.shape? gg = some (el, cap * k) ∧ n ≤ cap := by
  have hp : w.ownsRow 0 el k (.slice (some ⟨gg, 0, none⟩) n cap) n xs := I.at n0 hn
  rcases hp.2 with ⟨h0, _⟩ | ⟨g', cap', cur, he, hb, hg, hnc, hcm, hcs, ht⟩
  · cases h0
  injection he with e1 e2 e3; injection e1 with e1; injection e1 with e1; subst e1; subst e3
  exact ⟨by simp [World.shape?, hg, hcs], hnc⟩
/-- append(s, make([]T, m)...) where there is no room: a piece of its own, zeros behind. -/
theorem O.appendZ {T Tn el k bytes n m c sb so : Nat} {z : Value} {kn ki : IntKind} {x y : Operand} {olds : List Value} (I : Inv B h M w) (hT : Und P T (.slice el)) (hTn : Und P Tn (.int kn)) (he : ElT P el k bytes z) (hx : ev e x = .slice (some ⟨sb, so, none⟩) n c) (hr : Rd w sb so olds) (hl : olds.length = n * k) (hy : ev e y = .int ki m) (h0 : 0 < m) (hc : c < n + m) (hb : (n + m) * bytes ≤ 140737488355328) (h63 : n + m ≤ 140737488355328)
    (kk : ∀ gg cap w', Inv B h (ownSl el k (.slice (some ⟨gg, 0, none⟩) (n + m) cap) (n + m) (olds ++ (Builtin.zeroCells z.cells m).toList) :: M) w' → gg ≠ sb → K (.slice (some ⟨gg, 0, none⟩) (n + m) cap) w') (hlt : sb < w.heap.size) :
    Op1 P ⟨d, .call { callee := .builtin .append, args := #[x, y], argTypes := #[T, Tn] }, t, pos, af, g⟩ e w K := by
  obtain ⟨i, hi, hz, hsz, hby⟩ := he.info'
  subst hsz; subst hby
  have hold := run_firstCells_some (P := P) w.drew i.size n ⟨sb, so, none⟩ n c olds hl (fun j v hj => by rw [addr_add]; exact hr j v hj)
  have hmb : m * i.bytes ≤ (n + m) * i.bytes := Nat.mul_le_mul_right _ (by omega)
  have hrun := Go.Lib.run_append_grow_zeros (P := P) w T Tn t el i z ki kn hT hTn hi hz (some ⟨sb, so, none⟩) n c olds hold m h0 he.pos hc (by omega) (by omega) (growslice_fits hc hb)
  have hA : (execOp (ev e) ⟨d, .call { callee := .builtin .append, args := #[x, y], argTypes := #[T, Tn] }, t, pos, af, g⟩).run P w = .ok (.value (.slice (some ⟨w.heap.size, 0, none⟩) (n + m) (grownCap w (n + m) c el)))
      (w.drew.alloc (.cells (olds.toArray ++ Builtin.zeroCells z.cells m ++ Builtin.zeroCells z.cells (grownCap w (n + m) c el - (n + m))) el)) := by
    simp [execOp, resolve, invoke, builtin, hx, hy, hrun]
  unfold Op1
  rw [hA]
  have hge := grownCap_ge w (n + m) c el
  have hcm := grownCap_le_maxLen w (n + m) c el (by simp only [maxLen]; omega)
  obtain ⟨cs, hcs⟩ : ∃ cs : Array Value, cs = olds.toArray ++ Builtin.zeroCells z.cells m ++ Builtin.zeroCells z.cells (grownCap w (n + m) c el - (n + m)) := ⟨_, rfl⟩
  rw [← hcs]
  have hsize : cs.toList.length = grownCap w (n + m) c el * i.size := by
    rw [Array.length_toList, hcs]
    simp only [Array.size_append, List.size_toArray, size_zeroCells, he.cells, hl, ← Nat.add_mul]
    congr 1
    omega
  have htk : cs.toList.take ((n + m) * i.size) = olds ++ (Builtin.zeroCells z.cells m).toList := by
    rw [hcs]
    simp only [Array.toList_append]
    refine List.take_left' ?_
    simp only [List.length_append, Array.length_toList, size_zeroCells, he.cells, hl, Nat.add_mul]
  refine kk w.heap.size _ _ (I.gain (A := ownSl el i.size (.slice (some ⟨w.heap.size, 0, none⟩) (n + m) (grownCap w (n + m) c el)) (n + m) (olds ++ (Builtin.zeroCells z.cells m).toList)) ((Grow.drew w).trans (Grow.alloc _ _)) ?_ (fun b hb => by simp [ownSl, Value.ownBlock] at hb; subst hb; simp)) (by omega)
  have := ownsRow_made' w cs.toList el i.size (n + m) (grownCap w (n + m) c el) hsize hge hcm w.drew rfl
  rw [Array.toArray_toList, htk] at this
  exact this
/-- slices.overlaps, of two blocks: no. -/
theorem O.overlaps {f : FuncId} {x y : Operand} {ts : Array TypeId} {T R el k cx cy nx ny bx ox by_ oy : Nat} {tA tB : TypeId} {kA kB : Nat} (hrun : ∀ vs w, (callFunc f vs).run P w = ((Extern.SlicesOverlaps.overlaps #[T, T] #[R] vs).run P w).andThen fun v w' => .ok (.value v) w') (hT : Und P T (.slice el)) (hk : ∀ w, (sizeOf el).run P w = .ok k w)
    (hx : ev e x = .slice (some ⟨bx, ox, none⟩) nx cx) (hy : ev e y = .slice (some ⟨by_, oy, none⟩) ny cy) (hne : bx ≠ by_) (hA : w.shape? bx = some (tA, kA)) (hB : w.shape? by_ = some (tB, kB)) (hkB : kB ≠ 0) (hf : ∀ o, w.frozen? ⟨bx, o, none⟩ = false) :
    Y P ⟨d, .call { callee := .value (.func f), args := #[x, y], argTypes := ts }, t, pos, af, g⟩ e w (.bool false) := by
  have h1 := Go.Lib.run_overlaps_apart (P := P) w T R el hT k hk ⟨bx, ox, none⟩ ⟨by_, oy, none⟩ nx cx ny cy hne tA tB kA kB hA hB hkB (hf ox) (hf kA)
  have hc : ev e (.func f) = .func (.func f) #[] #[] := rfl
  simp [Y, execOp, resolve, hc, Deferred.ofValue, invoke, hx, hy, hrun, h1]
/-- A cut of what begins at its row's start. -/
theorem Y.cutO {T el k b n c l h' : Nat} {x : Operand} {lo hi : Option Operand} (hT : Und P T (.slice el)) (hk : ∀ w, (sizeOf el).run P w = .ok k w) (hx : ev e x = .slice (some ⟨b, 0, none⟩) n c)
    (hl : lo = none ∧ l = 0 ∨ ∃ q k, lo = some q ∧ ev e q = .int k (l : Int)) (hh : hi = none ∧ h' = n ∨ ∃ q k, hi = some q ∧ ev e q = .int k (h' : Int)) (h1 : l ≤ h') (h2 : h' ≤ c) (h3 : l < c) :
    Y P ⟨d, .slice T x lo hi none, t, pos, af, g⟩ e w (.slice (some ⟨b, l * k, none⟩) (h' - l) (c - l)) := by
  refine (Y.slicesl hT hk hx hl hh h1 h2).is ?_
  rw [if_neg (by omega), Nat.zero_add]
/-- One cell of what is owned is stored. -/
theorem O.storeS {T el k bytes gg n cap o : Nat} {z v : Value} {a x : Operand} {xs : List Value} (I : Inv B h M w) (hT : Ty P T 1 false) (he : ElT P el k bytes z) (n0 : Nat) (hn : M[n0]? = some (ownSl el k (.slice (some ⟨gg, 0, none⟩) n cap) n xs))
    (ha : ev e a = .pointer (some ⟨gg, o, none⟩)) (hx : ev e x = v) (hv : v.cells = #[v]) (h1 : v.oneCell' = true) (ho : o < xs.length) (kk : ∀ w', Inv B h (M.set n0 (ownSl el k (.slice (some ⟨gg, 0, none⟩) n cap) n (xs.set o v))) w' → K undef w') :
    Op1 P ⟨d, .store T a x, t, pos, af, g⟩ e w K := by
  obtain ⟨ii, hi, hz, hsz, hby⟩ := he.info'
  subst hsz
  have hp : w.ownsRow 0 el ii.size (.slice (some ⟨gg, 0, none⟩) n cap) n xs := I.at n0 hn
  have hfp := (I.own _ (List.mem_of_getElem? hn)).2 gg (by simp [ownSl, Value.ownBlock])
  rcases hp.2 with ⟨h0, _⟩ | ⟨g', cap', cur, he', hb, hg, hnc, hcm, hcs, ht⟩
  · cases h0
  injection he' with e1 e2 e3; injection e1 with e1; injection e1 with e1; subst e1; subst e3
  have hnk : n * ii.size ≤ cap * ii.size := Nat.mul_le_mul_right _ hnc
  have hxl := hp.1
  have hst := run_storeCells_at P gg o el [v] 0 cur w hg (by rw [hcs]; simp only [List.length_singleton]; omega) (by simpa using h1)
  simp only [Nat.add_zero] at hst
  have hA : (execOp (ev e) ⟨d, .store T a x, t, pos, af, g⟩).run P w = .ok .skip (w.setRow gg (cur.toList.take o ++ [v] ++ cur.toList.drop (o + [v].length)).toArray) := by
    simp [execOp, Instr.storeAt, Instr.sureAddr, ha, hx, storeVar, hv, hT.size, hst]
  unfold Op1
  rw [hA]
  have hcl : cur.toList.length = cap * ii.size := by rw [Array.length_toList, hcs]
  have hset : xs.set o v = over xs o [v] := by
    unfold over
    rw [List.set_eq_take_append_cons_drop, if_pos ho]
    simp
  refine kk _ (I.stepAt n0 hn rfl rfl rfl (by simp) (fun b hb hnb => setRow_other w gg b _ (fun e => hnb (by simp [ownSl, Value.ownBlock, e]))) ?_ (fun b hb => ?_))
  · refine ⟨?_, .inr ⟨gg, cap, _, rfl, hb, setRow_heap w gg cur _ el _ hg, hnc, hcm, ?_, ?_⟩⟩
    · rw [List.length_set, hp.1]
    · simp only [List.size_toArray, List.length_append, List.length_take, List.length_drop, hcl, List.length_singleton]
      omega
    · rw [over_take _ _ _ _ (by simp only [List.length_singleton]; omega) (by rw [hcl]; exact hnk), ht, hset]
  · have : b = gg := by simpa [ownSl, Value.ownBlock] using hb
    subst this
    exact ⟨.inl (by simp [ownSl, Value.ownBlock]), by simpa using hfp.2.1⟩
/-- A slice literal, its whole block told. -/
def LitW (el : TypeId) (cs : List Value) (n : Nat) (v : Value) (h : Heap) : Prop := ∃ b, v = .slice (some ⟨b, 0, none⟩) n n ∧ h b = some (.cells cs.toArray el (0, 0))
theorem LitW.mono {el : TypeId} {cs : List Value} {n : Nat} : MonoS (LitW el cs n) := fun _ _ _ hl hx => by
  obtain ⟨b, h1, h2⟩ := hx
  exact ⟨b, h1, hl _ _ h2⟩
theorem O.mklit {T el k n : Nat} {parts : Array (Nat × Operand)} {z : Value} {cs : List Value} {K : Value → World → Prop} (I : Inv B h M w) (hT : Und P T (.slice el)) (hk : ∀ w, (sizeOf el).run P w = .ok k w) (hz : Zero P el z) (hs : n * k ≤ 16777216) (h0 : n * k ≠ 0)
    (hf : fillL (fun i => some (i * k, k)) ((List.range (n * k)).map fun i => (cellsL z)[i % k]!) (parts.toList.map fun (i, x) => (i, ev e x)) = some cs) (hzc : (cellsL z).length = k)
    (kk : ∀ v h' w', Inv B h' M w' → h.le h' → LitW el cs n v h' → K v w') : Op1 P ⟨d, .buildSlice T n parts, t, pos, af, g⟩ e w K :=
  O.mkbox I hT hk hz hs h0 hf hzc fun b w' I' => by
    have hb := I'.at 0 rfl
    obtain ⟨h', hle, hfp, J⟩ := I'.settle
    exact kk _ h' w' J hle ⟨b, rfl, (hfp b (by simp [TF.box])).trans hb⟩
/-- A quiet call of a function value. -/
theorem QC.callcv {x : Operand} {f : FuncId} {fs cs : List Value} {args : Array Operand} {ts : Array TypeId} {vs : List Value} {r : Value}
    (I : Inv B h M w) (hf : Enters P f) (hx : ev e x = .func (.func f) fs.toArray cs.toArray) (hfn : Fn P f vs ⟨w, h⟩ (fun v _ => v = r)) (ha : fs ++ args.toList.map (ev e) ++ cs = vs) : QC P (Inv B h M) ⟨d, .call { callee := .value x, args := args, argTypes := ts }, t, pos, af, g⟩ e w r := by
  have ha' : fs.toArray ++ args.map (ev e) ++ cs.toArray = vs.toArray := by rw [← ha]; apply Array.ext'; simp
  have : (execOp (ev e) ⟨d, .call { callee := .value x, args := args, argTypes := ts }, t, pos, af, g⟩).run P w = .ok (.enter f vs.toArray) w := by
    simp only [execOp, resolve, hx, Deferred.ofValue]
    simp [invoke, ha', hf]
  unfold QC
  rw [this]
  refine ⟨rfl, Calls.mono hfn ?_⟩
  rintro x w' ⟨v, h', rfl, X, rfl⟩
  exact ⟨rfl, I.grow X.below⟩
end
end Go.TF
