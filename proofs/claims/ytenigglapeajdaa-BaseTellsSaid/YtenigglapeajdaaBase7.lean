/- Slices that the call appends to; maps of the call's own; maps gone through. -/
import Derived.Test.YtenigglapeajdaaBase6
import Derived.OwnWalk
namespace Go.TF
open Go Go.RowKit

/-- A contract that hands pieces of memory on. -/
def FnM (P : Program) (f : FuncId) (args : List Value) (B : Base) (Post : Value → Heap → List SA → Prop) : Prop :=
  Calls P f args.toArray B.w fun x w' => ∃ v h' M', x = .returned v ∧ Inv B h' M' w' ∧ Post v h' M'
theorem Inv.calledM {B : Base} {h h' : Heap} {M M' : List SA} {w w' : World} (I : Inv B h M w) (X : Inv ⟨w, h⟩ h' M' w') : Inv B h' (M' ++ M) w' := by
  have J := I.called X.ext_of
  refine ⟨J.below, J.ext, J.new, J.imm, fun A hA => ?_, List.pairwise_append.2 ⟨X.apart, J.apart, fun A hA C hC b hb hb' => ?_⟩⟩
  · rcases List.mem_append.1 hA with hA | hA
    · obtain ⟨h1, h2⟩ := X.own A hA
      refine ⟨h1, fun b hb => ?_⟩
      obtain ⟨k1, k2, k3⟩ := h2 b hb
      exact ⟨Nat.le_trans I.below.size k1, k2, k3⟩
    · exact J.own A hA
  · have h1 := ((X.own A hA).2 b hb).1
    have h2 := ((I.own C hC).2 b hb').2.1
    simp only at h1
    omega

/-- A slice that the call owns and may append to: n elements of k cells each, the cells xs. -/
def ownSl (e : TypeId) (k : Nat) (v : Value) (n : Nat) (xs : List Value) : SA where
  fp := v.ownBlock.toList
  P := fun w => w.ownsRow 0 e k v n xs
  loc := fun w w' h hp => by
    refine ⟨hp.1, ?_⟩
    rcases hp.2 with h1 | ⟨g, cap, cur, rfl, h2, h3, h4⟩
    · exact .inl h1
    · exact .inr ⟨g, cap, cur, rfl, h2, (h g (by simp [Value.ownBlock])).trans h3, h4⟩
structure ElT (P : Program) (e : TypeId) (k bytes : Nat) (z : Value) : Prop where
  info : (P.info? e).map (fun i => (i.zero, i.size, i.bytes)) = some (some z, k, bytes)
  cells : z.cells.size = k
  pos : 0 < k
theorem Inv.nilSl {B : Base} {h : Heap} {M : List SA} {w : World} (I : Inv B h M w) (e : TypeId) (k : Nat) : Inv B h (ownSl e k (.slice none 0 0) 0 [] :: M) w :=
  I.gain (Grow.refl w) (World.ownsRow_nil w 0 e k) (fun b hb => by simp [ownSl, Value.ownBlock] at hb)
theorem ownsRow_made' (w : World) (cells : List Value) (e : TypeId) (k n c : Nat) (hl : cells.length = c * k) (hn : n ≤ c) (hc : c ≤ maxLen) (d : World) (hd : d.heap = w.heap) :
    (d.alloc (.cells cells.toArray e)).ownsRow 0 e k (.slice (some ⟨w.heap.size, 0, none⟩) n c) n (cells.take (n * k)) := by
  refine ⟨by rw [List.length_take, hl]; exact Nat.min_eq_left (Nat.mul_le_mul_right k hn), .inr ⟨w.heap.size, c, cells.toArray, rfl, Nat.zero_le _, ?_, hn, hc, by simpa using hl, by simp⟩⟩
  rw [← hd]; exact heap_alloc_new d _
/-- append: the cells of m elements behind. -/
theorem run_append_own' {P : Program} {w : World} {T ty e : TypeId} {k bytes : Nat} {z : Value} (ht : P.underlying T = some (.slice e)) (he : ElT P e k bytes z) {v : Value} {n : Nat} {xs : List Value} (hown : w.ownsRow 0 e k v n xs)
    {a : Addr} {m c : Nat} {news : List Value} (hl : news.length = m * k) (hnews : ∀ j u, news[j]? = some u → w.cell? (a.add j) = some u) (h1 : oneCells news = true) (hm : 0 < m) (hbytes : (n + m) * bytes ≤ 140737488355328) (h63 : n + m ≤ 140737488355328) :
    ∃ v' w', (Builtin.append_ #[T, T] ty #[v, .slice (some a) m c]).run P w = .ok v' w' ∧ w'.ownsRow 0 e k v' (n + m) (xs ++ news) ∧ w.grownBy w' v.ownBlock ∧ (v'.ownBlock = v.ownBlock ∨ v'.ownBlock = some w.heap.size) ∧ (∃ g cap, v' = .slice (some ⟨g, 0, none⟩) (n + m) cap) := by
  obtain ⟨i, hi, hz, hs, hb⟩ : ∃ i, P.info? e = some i ∧ i.zero = some z ∧ i.size = k ∧ i.bytes = bytes := by
    have := he.info
    cases h : P.info? e with
    | none => simp [h] at this
    | some i => simp [h] at this; exact ⟨i, rfl, this.1, this.2.1, this.2.2⟩
  subst hs; subst hb
  have hmx : n + m ≤ maxLen := by simp only [maxLen]; omega
  have hone : ∀ u ∈ news, u.oneCell' = true := by simpa [oneCells] using h1
  have mk : ∀ (old : Nat) (row : Option Nat),
      (w.drew.alloc (.cells (xs.toArray ++ news.toArray ++ Builtin.zeroCells z.cells (grownCap w (n + m) old e - (n + m))) e)).ownsRow 0 e i.size (.slice (some ⟨w.heap.size, 0, none⟩) (n + m) (grownCap w (n + m) old e)) (n + m) (xs ++ news) ∧
      w.grownBy (w.drew.alloc (.cells (xs.toArray ++ news.toArray ++ Builtin.zeroCells z.cells (grownCap w (n + m) old e - (n + m))) e)) row := by
    intro old row
    have hge := grownCap_ge w (n + m) old e
    have hcm := grownCap_le_maxLen w (n + m) old e hmx
    have hlen : (xs ++ news).length = (n + m) * i.size := by rw [List.length_append, hown.1, hl, Nat.add_mul]
    refine ⟨⟨hlen, .inr ⟨w.heap.size, _, _, rfl, Nat.zero_le _, heap_alloc_new w.drew _, hge, hcm, ?_, ?_⟩⟩, ⟨rfl, rfl, rfl, by simp, fun q hq _ => Below.heap_alloc w.drew _ q hq⟩⟩
    · simp only [Array.size_append, List.size_toArray, size_zeroCells, he.cells, hown.1, hl, ← Nat.add_mul]
      congr 1
      omega
    · simp only [Array.toList_append]
      rw [← hlen]
      exact List.take_left
  rcases hown.2 with ⟨rfl, rfl⟩ | ⟨g, cap, cur, rfl, hbg, hg, hnc, hcm, hcs, htake⟩
  · have hx : xs = [] := List.eq_nil_of_length_eq_zero (by simpa using hown.1)
    subst hx
    have hr := run_append_nil (P := P) w T ty e i z ht hi hz a m c news hl hnews hm (by omega) (by simp only [Nat.zero_add] at hbytes; omega)
    have hgr := mk 0 (Value.ownBlock (.slice none 0 0))
    simp only [Nat.zero_add, List.nil_append, Array.empty_append] at hgr ⊢
    exact ⟨_, _, hr, hgr.1, hgr.2, .inr rfl, _, _, rfl⟩
  · by_cases hroom : n + m ≤ cap
    · have hfit : n * i.size + news.length ≤ cur.size := by rw [hl, hcs, ← Nat.add_mul]; exact Nat.mul_le_mul_right _ hroom
      have hr := run_append_room (P := P) w T ty e i ht hi g n cap cur hg a m c news hl hnews hone hroom hfit
      have hlen : (xs ++ news).length = (n + m) * i.size := by rw [List.length_append, hown.1, hl, Nat.add_mul]
      refine ⟨_, _, hr, ⟨hlen, .inr ⟨g, cap, _, rfl, hbg, setRow_heap w g cur _ e _ hg, hroom, hcm, ?_, ?_⟩⟩, ⟨rfl, rfl, rfl, by simp, fun k _ hk => setRow_other w g k _ (fun e => hk (by simp [Value.ownBlock, e]))⟩, .inl rfl, _, _, rfl⟩
      · simp only [List.size_toArray, List.length_append, List.length_take, List.length_drop, Array.length_toList]
        omega
      · rw [htake, ← hlen]
        exact List.take_left
    · have holds : ∀ j u, xs[j]? = some u → w.cell? ((⟨g, 0, none⟩ : Addr).add j) = some u := hown.cells (g := g) rfl
      have hr := run_append_grow (P := P) w T ty e i z ht hi hz ⟨g, 0, none⟩ n cap xs hown.1 holds a m c news hl hnews (by omega) (by omega) (growslice_fits (by omega) hbytes)
      have hgr := mk cap (Value.ownBlock (.slice (some ⟨g, 0, none⟩) n cap))
      exact ⟨_, _, hr, hgr.1, hgr.2, .inr rfl, _, _, rfl⟩
theorem Inv.appendAt {B : Base} {h : Heap} {M : List SA} {w w' : World} (I : Inv B h M w) {e : TypeId} {k n n' : Nat} {v v' : Value} {xs xs' : List Value} (n0 : Nat) (hn : M[n0]? = some (ownSl e k v n xs)) (h1 : w'.ownsRow 0 e k v' n' xs') (h2 : w.grownBy w' v.ownBlock) (h3 : v'.ownBlock = v.ownBlock ∨ v'.ownBlock = some w.heap.size) :
    Inv B h (M.set n0 (ownSl e k v' n' xs')) w' := by
  refine I.stepAt n0 hn h2.os h2.tape h2.output h2.size (fun b hb hnb => h2.block b hb (fun e => hnb ?_)) h1 (fun b hb => ?_)
  · simp [ownSl, ← e]
  · have hb' : v'.ownBlock = some b := by simpa [ownSl] using hb
    have hlt := (h1.lt b hb').2
    rcases h3 with h3 | h3
    · exact ⟨.inl (by simp [ownSl, ← h3, hb']), hlt⟩
    · rw [hb'] at h3; cases h3; exact ⟨.inr (Nat.le_refl _), hlt⟩
/-- An owned slice is never written again: it is known for good. -/
theorem Inv.settleSl {α : Type} {B : Base} {h : Heap} {M : List SA} {w : World} {e : TypeId} {k : Nat} {enc : α → List Value} {v : Value} {n : Nat} {xs : List α} (I : Inv B h (ownSl e k v n (xs.flatMap enc) :: M) w) (hk : ∀ x, (enc x).length = k) (hn : n = xs.length) :
    ∃ h' s, h.le h' ∧ Sl.val s = v ∧ s.xs = xs ∧ Sl.In s k enc h' ∧ Inv B h' M w := by
  subst hn
  have hp : w.ownsRow 0 e k v xs.length (xs.flatMap enc) := (I.own _ (List.mem_cons_self ..)).1
  obtain ⟨h', hle, hfp, I'⟩ := I.settle
  rcases hp.2 with ⟨rfl, h0⟩ | ⟨g, cap, cur, rfl, _, hg, hnc, hcm, hcs, htake⟩
  · have : xs = [] := List.eq_nil_of_length_eq_zero h0
    subst this
    exact ⟨h', ⟨none, 0, []⟩, hle, rfl, rfl, fun i x hx => by simp at hx, I'⟩
  · refine ⟨h', ⟨some ⟨g, 0, none⟩, cap, xs⟩, hle, rfl, rfl, fun i x hx => ⟨rfl, fun j u hu => ?_⟩, I'⟩
    have hb : h' g = some (.cells cur e (0, 0)) := by rw [hfp g (by simp [ownSl, Value.ownBlock])]; exact hg
    have hfm : (xs.flatMap enc)[i * k + j]? = some u := by
      clear hcs htake hp I I' hfp hb hg
      have hj : j < k := by have := (List.getElem?_eq_some_iff.1 hu).1; rw [hk] at this; exact this
      induction xs generalizing i with
      | nil => simp at hx
      | cons y ys ih =>
        simp only [List.flatMap_cons]
        cases i with
        | zero =>
          simp at hx; subst hx
          rw [List.getElem?_append_left (by rw [hk]; omega)]
          simpa using hu
        | succ i =>
          rw [List.getElem?_append_right (by rw [hk, Nat.add_mul]; omega), hk]
          rw [show (i + 1) * k + j - k = i * k + j by rw [Nat.add_mul]; omega]
          exact ih (by simp at hnc; omega) i (by simpa using hx)
    simp only [Heap.cell, Sl.blk, Sl.off, Option.getD_some, hb]
    rw [← htake, List.getElem?_take] at hfm
    split at hfm
    · simpa using hfm
    · cases hfm

section
variable {P : Program} {e : Env} {w : World} {B : Base} {h : Heap} {M : List SA} {t : TypeId} {pos : String} {af : Array Edge} {g : Option (Nat × Bool)} {d : Option Nat} {K : Value → World → Prop}
theorem O.append {T el k bytes n m c b o : Nat} {z v : Value} {x y : Operand} {xs news : List Value} (I : Inv B h M w) (hT : Und P T (.slice el)) (he : ElT P el k bytes z) (n0 : Nat) (hn : M[n0]? = some (ownSl el k v n xs)) (hx : ev e x = v) (hy : ev e y = .slice (some ⟨b, o, none⟩) m c)
    (hr : Rd w b o news) (hl : news.length = m * k) (h1 : oneCells news = true) (hm : 0 < m) (hb : (n + m) * bytes ≤ 140737488355328) (h63 : n + m ≤ 140737488355328)
    (kk : ∀ g cap w', Inv B h (M.set n0 (ownSl el k (.slice (some ⟨g, 0, none⟩) (n + m) cap) (n + m) (xs ++ news))) w' → K (.slice (some ⟨g, 0, none⟩) (n + m) cap) w') :
    Op1 P ⟨d, .call { callee := .builtin .append, args := #[x, y], argTypes := #[T, T] }, t, pos, af, g⟩ e w K := by
  obtain ⟨v', w', h2, h3, h4, h5, g', cap, rfl⟩ := run_append_own' (P := P) (ty := t) hT he (I.at n0 hn) (a := ⟨b, o, none⟩) (c := c) hl (fun j u hu => by rw [addr_add]; exact hr j u hu) h1 hm hb h63
  have : (execOp (ev e) ⟨d, .call { callee := .builtin .append, args := #[x, y], argTypes := #[T, T] }, t, pos, af, g⟩).run P w = .ok (.value (.slice (some ⟨g', 0, none⟩) (n + m) cap)) w' := by
    simp [execOp, resolve, invoke, builtin, hx, hy, h2]
  unfold Op1
  rw [this]
  exact kk g' cap w' (I.appendAt n0 hn h3 h4 h5)
/-- A slice literal: its elements are known for good at once. -/
theorem O.mksl {α : Type} {T el k n : Nat} {parts : Array (Nat × Operand)} {z : Value} (xs : List α) (enc : α → List Value) (I : Inv B h M w) (hT : Und P T (.slice el)) (hk : ∀ w, (sizeOf el).run P w = .ok k w) (hz : Zero P el z) (hn : xs.length = n) (hs : n * k ≤ 16777216)
    (hf : fillL (fun i => some (i * k, k)) ((List.range (n * k)).map fun i => (cellsL z)[i % k]!) (parts.toList.map fun (i, x) => (i, ev e x)) = some (xs.flatMap enc)) (hzc : (cellsL z).length = k) (hk0 : 0 < k) (hek : ∀ x, (enc x).length = k)
    (kk : ∀ b h' w', Inv B h' M w' → h.le h' → Sl.In ⟨some ⟨b, 0, none⟩, n, xs⟩ k enc h' → K (.slice (some ⟨b, 0, none⟩) n n) w') :
    Op1 P ⟨d, .buildSlice T n parts, t, pos, af, g⟩ e w K := by
  have h3 : (parts.map fun (i, x) => (i, ev e x)).toList = parts.toList.map fun (i, x) => (i, ev e x) := by simp
  have h4 := fill_eq (fun i => some (i * k, k)) (parts.toList.map fun (i, x) => (i, ev e x)) ((List.range (n * k)).map fun i => (cellsL z)[i % k]!)
  rw [hf] at h4
  have hlen : (xs.flatMap enc).length = n * k := by
    subst hn
    clear hf h4 hs kk
    induction xs with
    | nil => simp
    | cons y ys ih =>
      have e1 : (List.flatMap enc ys).length = ys.length * k := ih
      simp only [List.flatMap_cons, List.length_append, hek, e1, List.length_cons, Nat.add_mul]; omega
  have hrun : (execOp (ev e) ⟨d, .buildSlice T n parts, t, pos, af, g⟩).run P w = .ok (.value (.slice (some ⟨w.heap.size, 0, none⟩) n n)) (w.alloc (.cells (xs.flatMap enc).toArray el)) := by
    have hs' : ¬ (n * k > 2 ^ 24) := by simp; omega
    by_cases h0 : n * k = 0
    · have hn0 : n = 0 := by rcases Nat.mul_eq_zero.1 h0 with h | h <;> omega
      subst hn0
      have hd : ¬ ((0 : Nat) > 2 ^ 24) := by decide
      simp only [execOp, Instr.buildSlice, Sem.run_bind, run_underlying hT, Result.andThen_ok, hk w, Nat.zero_mul, h3, if_neg hd, if_true, Sem.run_pure]
      simp only [Nat.zero_mul, List.range_zero, List.map_nil] at h4
      have h5 : (Array.map (fun x => (#[] : Array Value)[x % (#[] : Array Value).size]!) (Array.range 0)) = ([] : List Value).toArray := by simp
      rw [h5, h4]
      simp [newRow]
    · simp only [execOp, Instr.buildSlice, Sem.run_bind, run_underlying hT, Result.andThen_ok, hk w, h3, if_neg hs', if_neg h0, hz w]
      have h5 : (Array.map (fun x => z.cells[x % z.cells.size]!) (Array.range (n * k))) = ((List.range (n * k)).map fun i => (cellsL z)[i % k]!).toArray := by
        apply Array.ext'
        simp [cells_eq z, hzc]
      simp only [Sem.run_pure, Result.andThen_ok]
      rw [h5, h4]
      simp [newRow]
  unfold Op1
  rw [hrun]
  have J := I.gain (A := TF.box w.heap.size (xs.flatMap enc) el) (Grow.alloc w _) (heap_alloc_new w _) (fun b hb => by simp [TF.box] at hb; subst hb; simp)
  obtain ⟨h', hle, hfp, J'⟩ := J.settle
  refine kk _ h' _ J' hle (fun i x hx => ⟨rfl, fun j u hu => ?_⟩)
  have hb : h' w.heap.size = some (.cells (xs.flatMap enc).toArray el (0, 0)) := by rw [hfp _ (by simp [TF.box])]; exact heap_alloc_new w _
  simp only [Heap.cell, Sl.blk, Sl.off, Option.getD_some, hb]
  have hj : j < k := by have := (List.getElem?_eq_some_iff.1 hu).1; rw [hek] at this; exact this
  have key : ∀ (xs : List α) (i : Nat), xs[i]? = some x → (xs.flatMap enc)[i * k + j]? = some u := by
    intro xs
    induction xs with
    | nil => intro i hx; simp at hx
    | cons y ys ih =>
      intro i hx
      simp only [List.flatMap_cons]
      cases i with
      | zero =>
        simp at hx; subst hx
        rw [List.getElem?_append_left (by rw [hek]; omega)]
        simpa using hu
      | succ i =>
        rw [List.getElem?_append_right (by rw [hek, Nat.add_mul]; omega), hek]
        rw [show (i + 1) * k + j - k = i * k + j by rw [Nat.add_mul]; omega]
        exact ih i (by simpa using hx)
  simpa using key xs i hx
theorem O.callM {f : FuncId} {args : Array Operand} {ts : Array TypeId} {vs : List Value} {Post : Value → Heap → List SA → Prop} (I : Inv B h M w) (hf : Enters P f) (hfn : FnM P f vs ⟨w, h⟩ Post)
    (ha : args.toList.map (ev e) = vs) (k : ∀ v h' M' w', Inv B h' (M' ++ M) w' → h.le h' → Post v h' M' → K v w') : Op1 P ⟨d, .call { callee := .value (.func f), args := args, argTypes := ts }, t, pos, af, g⟩ e w K := by
  have ha' : args.map (ev e) = vs.toArray := by rw [← ha]; apply Array.ext'; simp
  have : (execOp (ev e) ⟨d, .call { callee := .value (.func f), args := args, argTypes := ts }, t, pos, af, g⟩).run P w = .ok (.enter f vs.toArray) w := by
    simp [execOp, resolve, ev, Deferred.ofValue, invoke, ha', hf]
  unfold Op1
  rw [this]
  refine Calls.mono hfn ?_
  rintro x w' ⟨v, h', M', rfl, X, hp⟩
  exact k v h' M' w' (I.calledM X) X.ext hp
end
/-- What a function owes at its end, pieces handed on. -/
def retM (P : Program) (fn : Func) (B : Base) (Post : Value → Heap → List SA → Prop) : Exit → Env → World → Prop
  | .ret, e, w | .normal, e, w => ∃ vs h' M', RV P e w fn.results.toList vs ∧ Inv B h' M' w ∧ Post (tup vs) h' M'
  | _, _, _ => False
theorem retM.mk {P : Program} {fn : Func} {B : Base} {Post : Value → Heap → List SA → Prop} {e : Env} {w : World} {rs : List ResultVar} {vs : List Value} {h : Heap} {M : List SA} (hr : fn.results.toList = rs) (hv : RV P e w rs vs) (X : Inv B h M w) (hp : Post (tup vs) h M) :
    retM P fn B Post .ret e w := ⟨vs, h, M, by rw [hr]; exact hv, X, hp⟩
theorem retM.fin {P : Program} {fn : Func} {B : Base} {Post : Value → Heap → List SA → Prop} {e : Env} {w : World} {rs : List ResultVar} {vs : List Value} {h : Heap} {M : List SA} (hr : fn.results.toList = rs) (hv : RV P e w rs vs) (X : Inv B h M w) (hp : Post (tup vs) h M) :
    retM P fn B Post .normal e w := ⟨vs, h, M, by rw [hr]; exact hv, X, hp⟩
theorem FnM.of {P : Program} {f : FuncId} {fn : Func} {c : Code} {N : Nat} {args : List Value} {B : Base} {Post : Value → Heap → List SA → Prop} (hf : P.funcs[f]? = some fn) (hb : fn.body = some c) (hN : fn.ntmps = N) (hs : slotsOk N c = true)
    (hl : args.length ≤ N) (h : ∀ e, WP P N [] c (E e (argsE 0 args)) B.w (retM P fn B Post)) : FnM P f args B Post := by
  refine calls_of_wp hf hb ?_
  subst hN
  refine wp_mono (h _ hs { tmps := args.toArray ++ Array.replicate (fn.ntmps - args.toArray.size) undef, defers := [] } (by simp; omega) rfl (E_self (has_args args 0 fun j v hv => ?_)).symm) ?_
  · have hj := (List.getElem?_eq_some_iff.1 hv).1
    have hg : args[j] = v := (List.getElem?_eq_some_iff.1 hv).2
    simp [env, Array.getD_eq_getD_getElem?, Array.getElem?_append, hj, hg]
  · rintro x a' w' ⟨_, g2, g3⟩
    cases x <;> simp only [retM] at g3 <;> first | exact g3.elim | skip
    all_goals
      obtain ⟨vs, h', M', hv, X, hp⟩ := g3
      exact ⟨g2, _, results_run rfl hv, _, _, _, rfl, X, hp⟩
end Go.TF
