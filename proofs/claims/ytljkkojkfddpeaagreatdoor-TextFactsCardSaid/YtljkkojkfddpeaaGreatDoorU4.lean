/- Texts SpTxt3 Str1 Base21 Base27 SlFuncs Txp1 Prog1 Prog2 Prog3 Lat Prog4 Lat2. -/
import Derived.Test.YtljkkojkfddpeaaGreatDoorU3
import Derived.Lib.LaidTab
import Derived.Test.YtljkkojkfddpeaaGreatDoorU2
import Derived.WideLaws
import Derived.Laws.Runes
section
/- What was written of a right program is read as it was, by the program and by the document: plain. -/
namespace Go.TF
open Go

theorem nok_of {p : Prg} (h : checkProg p = 0) : NOk p.preds.xs := by
  obtain ⟨h1, h2⟩ := chk_names h
  refine ⟨fun x hx => ?_, h2⟩
  have := h1 x hx
  unfold isName at this
  simp only [Bool.and_eq_true, decide_eq_true_eq] at this
  exact ⟨this.2, fun e => by have := tx_len x.name; rw [e] at this; simp at this; omega⟩
section
variable {l : List Prd} (nk : NOk l)
theorem digOf {c : UInt8} (h : digB c = false) {n : Nat} (hn : n < 100) : c ∉ dgL n := dg_not hn h
section
variable {r : Rul} (ok : ROk l r)
include ok
theorem ROk.src_lt : r.src.toNat < 100 := by have := ok.src; have := ok.len; omega
theorem ROk.n_lt : r.n.toNat < 100 := by have := ok.n; omega
theorem srcL_not {c : UInt8} (h : digB c = false) (h1 : c ≠ 35) (h2 : c ≠ 43) : c ∉ srcL r := by
  unfold srcL
  split
  · simp only [List.mem_append, not_or, List.mem_singleton]
    exact ⟨h1, digOf h ok.src_lt, h2⟩
  · simp
theorem valL_not {c : UInt8} (h : digB c = false) (h1 : c ≠ 35) (h2 : c ≠ 43) (h3 : c ∉ ([32, 61, 32] : Bs)) : c ∉ valL l r := by
  unfold valL
  split
  · simp only [List.mem_append, not_or]
    exact ⟨h3, srcL_not ok h h1 h2, digOf h ok.n_lt⟩
  · simp
theorem valR_ok : valR (srcL r ++ dgL r.n.toNat) = some (r.src, r.n) := by
  have h0 := ok.src
  have h1 := ok.n
  unfold valR srcL
  split
  · rename_i hs
    have e1 : [35] ++ (dgL r.src.toNat ++ [43]) ++ dgL r.n.toNat = ([35] ++ dgL r.src.toNat) ++ ([43] ++ dgL r.n.toNat) := by simp
    have hn : (43 : UInt8) ∉ [35] ++ dgL r.src.toNat := by
      simp only [List.mem_append, not_or, List.mem_singleton]
      exact ⟨by decide, digOf (by decide) ok.src_lt⟩
    rw [e1, cut1 hn, if_pos rfl]
    simp only
    rw [pre_app, if_neg (by simp), trimP_app, num_dg ok.src_lt, num_dg ok.n_lt]
    simp only [Option.some.injEq, Prod.mk.injEq]
    omega
  · rename_i hs
    rw [List.nil_append, cut_miss (List.mem_singleton.2 rfl) (digOf (by decide) ok.n_lt), if_neg (by simp), num_dg ok.n_lt]
    simp only [Option.map_some, Option.some.injEq, Prod.mk.injEq]
    omega
include nk
theorem cut_head : Lib.cut (atomL l r.head ++ valL l r) [32, 61, 32] = if (predOf l r.head.pred).kind ≠ 0 then (atomL l r.head, srcL r ++ dgL r.n.toNat, true) else (atomL l r.head, [], false) := by
  have ao := aok_of ok.preds ok.head
  have hn : (61 : UInt8) ∉ atomL l r.head := atomL_not' nk ao (by decide) (by decide) (by decide)
  unfold valL
  split
  · exact cut2 hn (by decide)
  · rw [List.append_nil]; exact cut_miss (c := 61) (by simp) hn
theorem hdR_ok : hdR (atomL l r.head ++ valL l r) = (atomL l r.head, some (r.src, r.n)) := by
  unfold hdR
  rw [cut_head nk ok]
  split
  · rw [if_pos rfl, valR_ok ok]
  · rename_i hk
    have := ok.plain (Decidable.not_not.1 hk)
    rw [if_neg (by simp), this.1, this.2]
theorem cut_rule : Lib.cut (atomL l r.head ++ (valL l r ++ bodyL l r.body.xs)) [32, 58, 45, 32] = if r.body.xs = [] then (atomL l r.head ++ valL l r, [], false) else (atomL l r.head ++ valL l r, joinT [44, 32] (r.body.xs.map (litL l)), true) := by
  have ao := aok_of ok.preds ok.head
  have hn : (58 : UInt8) ∉ atomL l r.head ++ valL l r := by
    simp only [List.mem_append, not_or]
    exact ⟨atomL_not' nk ao (by decide) (by decide) (by decide), valL_not ok (by decide) (by decide) (by decide) (by decide)⟩
  rw [← List.append_assoc]
  unfold bodyL
  split
  · rw [List.append_nil]; exact cut_miss (c := 58) (by simp) hn
  · exact cut2 hn (by decide)
theorem ruleR_ok : ruleR l (atomL l r.head ++ (valL l r ++ bodyL l r.body.xs)) = some r.er := by
  have ao := aok_of ok.preds ok.head
  have ab := fun x hx => aok_of ok.preds (ok.body x hx)
  unfold ruleR
  rw [cut_rule nk ok]
  by_cases hb : r.body.xs = []
  · rw [if_pos hb]
    simp only [hdR_ok nk ok, atomR_ok nk ao, Bool.false_eq_true, if_false]
    unfold mkR Rul.er
    rw [hb]; rfl
  · rw [if_neg hb]
    simp only [hdR_ok nk ok, atomR_ok nk ao, if_true]
    rw [split_join2 (by decide) (by simpa using hb) fun x hx => ?_, litsR_ok nk ab]
    · rfl
    · obtain ⟨y, hy, rfl⟩ := List.mem_map.1 hx
      exact litL_not nk (ab y hy) (by decide) (by decide) (by decide) (by decide)
theorem ruleL_ok (p : List Rul) : lineR (l, p) (ruleL l r) = some (l, p ++ [r.er]) := by
  unfold lineR ruleL
  rw [suf_app, if_neg (by simp), if_neg (by simp), trimS_app, ruleR_ok nk ok]
  rfl
theorem ruleL_nl : (10 : UInt8) ∉ ruleL l r := by
  have ao := aok_of ok.preds ok.head
  have ab := fun x hx => aok_of ok.preds (ok.body x hx)
  unfold ruleL
  simp only [List.mem_append, not_or, List.mem_singleton]
  refine ⟨⟨atomL_not nk ao (by decide) (by decide) (by decide), valL_not ok (by decide) (by decide) (by decide) (by decide), ?_⟩, by decide⟩
  unfold bodyL
  split
  · simp
  · simp only [List.mem_append, not_or]
    refine ⟨by decide, join_not (by decide) fun x hx => ?_⟩
    obtain ⟨y, hy, rfl⟩ := List.mem_map.1 hx
    exact litL_not nk (ab y hy) (by decide) (by decide) (by decide) (by decide)
end
section
variable {x : Prd} (hx : x ∈ l) (hf : predFine x = true)
include nk hx hf
theorem predR_ok : predR (tx x.name ++ ([32] ++ (dgL x.arity.toNat ++ ([32] ++ dgL x.kind.toNat)))) = some x := by
  unfold predFine at hf
  obtain ⟨a0, a2, d0, d3⟩ := of_decide_eq_true hf
  have e : tx x.name ++ ([32] ++ (dgL x.arity.toNat ++ ([32] ++ dgL x.kind.toNat))) = joinT [32] [tx x.name, dgL x.arity.toNat, dgL x.kind.toNat] := rfl
  unfold predR
  rw [e, split_join1 (by simp) fun y hy => ?_]
  · simp only [num_dg (show x.arity.toNat < 100 by omega), num_dg (show x.kind.toNat < 100 by omega), mk_tx]
    obtain ⟨n, a, k⟩ := x
    simp only [Option.some.injEq, Prd.mk.injEq, true_and]
    simp only at a0 d0
    omega
  · simp only [List.mem_cons, List.not_mem_nil, or_false] at hy
    rcases hy with rfl | rfl | rfl
    · exact nk.not hx (by decide)
    · exact digOf (by decide) (by omega)
    · exact digOf (by decide) (by omega)
theorem predL_no {c : UInt8} (h1 : lowB c = false) (h2 : digB c = false) (h3 : c ≠ 32) : c ∉ predL x := by
  unfold predFine at hf
  obtain ⟨a0, a2, d0, d3⟩ := of_decide_eq_true hf
  unfold predL
  simp only [List.mem_append, not_or, List.mem_singleton]
  refine ⟨?_, nk.not hx h1, h3, digOf h2 (by omega), h3, digOf h2 (by omega)⟩
  unfold predW
  simp only [List.mem_cons, List.not_mem_nil, or_false, not_or]
  refine ⟨?_, ?_, ?_, ?_, h3⟩ <;> (rintro rfl; cases h1)
theorem predL_ok (p : List Prd) : lineR (p, []) (predL x) = some (p ++ [x], []) := by
  unfold lineR
  rw [suf_no (predL_no nk hx hf (by decide) (by decide) (by decide))]
  unfold predL
  rw [pre_app, if_pos ⟨rfl, rfl⟩, trimP_app, predR_ok nk hx hf]
  rfl
end
end
/-! ### Lines -/
/-- The lines of a text, as strings.Lines has them. -/
def linesS : Nat → Bs → List Bs
  | 0, _ => []
  | f + 1, s => if s = [] then [] else if 0 ≤ Lib.index s [10] then s.take ((Lib.index s [10]).toNat + 1) :: linesS f (s.drop ((Lib.index s [10]).toNat + 1)) else [s]
theorem linesS_flat : ∀ {l : List Bs} {f : Nat}, (∀ x ∈ l, (10 : UInt8) ∉ x) → l.length ≤ f → linesS f (l.flatMap (· ++ [10])) = l.map (· ++ [10])
  | [], 0, _, _ => rfl
  | [], f + 1, _, _ => by simp [linesS]
  | _ :: _, 0, _, h => by simp at h
  | x :: r, f + 1, h, hl => by
    have hi : Lib.index (x ++ ([10] ++ r.flatMap (· ++ [10]))) [10] = x.length := first_at (k := 0) rfl (h x (by simp)) fun j hj => by omega
    have e : (x :: r).flatMap (· ++ [10]) = x ++ ([10] ++ r.flatMap (· ++ [10])) := by simp [List.flatMap_cons]
    rw [e, linesS, if_neg (by simp), hi, if_pos (by omega)]
    have e1 : (x ++ ([10] ++ r.flatMap (· ++ [10]))).take ((x.length : Int).toNat + 1) = x ++ [10] := by
      rw [Int.toNat_natCast, List.take_append]
      simp [List.take_of_length_le (Nat.le_succ x.length)]
    have e2 : (x ++ ([10] ++ r.flatMap (· ++ [10]))).drop ((x.length : Int).toNat + 1) = r.flatMap (· ++ [10]) := by
      rw [Int.toNat_natCast, List.drop_append]
      simp
    rw [e1, e2, linesS_flat (fun y hy => h y (List.mem_cons_of_mem _ hy)) (by simp at hl; omega)]
    rfl
theorem linesT_len : ∀ {l : List Bs}, l.length ≤ (l.flatMap (· ++ [10])).length
  | [] => Nat.le_refl _
  | x :: r => by
    have := linesT_len (l := r)
    simp only [List.flatMap_cons, List.length_append, List.length_cons, List.length_nil]
    omega
/-- All that is read of a text: none: it is broken. -/
def readR (s : Bs) : Option St := readL ((linesS s.length s).map fun l => Lib.trimSuffix l [10]) ([], [])
section
variable {p : Prg} (h : checkProg p = 0)
include h
theorem linesP_nl : ∀ x ∈ linesP p, (10 : UInt8) ∉ x := fun x hx => by
  have nk := nok_of h
  rcases List.mem_append.1 hx with hx | hx
  · obtain ⟨y, hy, rfl⟩ := List.mem_map.1 hx
    exact predL_no nk hy (chk_preds h y hy) (by decide) (by decide) (by decide)
  · obtain ⟨y, hy, rfl⟩ := List.mem_map.1 hx
    exact ruleL_nl nk (chk_rok h y hy)
theorem readL_rules : ∀ {rs : List Rul}, (∀ r ∈ rs, r ∈ p.rules.xs) → ∀ d, readL (rs.map (ruleL p.preds.xs)) (p.preds.xs, d) = some (p.preds.xs, d ++ rs.map Rul.er)
  | [], _, d => by simp [readL]
  | r :: rs, hr, d => by
    simp only [List.map_cons, readL]
    rw [ruleL_ok (nok_of h) (chk_rok h r (hr r (by simp)))]
    simp only
    rw [readL_rules (fun x hx => hr x (List.mem_cons_of_mem _ hx))]
    simp
theorem readL_preds : ∀ {qs : List Prd}, (∀ x ∈ qs, x ∈ p.preds.xs) → ∀ d t, readL (qs.map predL ++ t) (d, []) = readL t (d ++ qs, [])
  | [], _, d, t => by simp
  | x :: qs, hq, d, t => by
    simp only [List.map_cons, List.cons_append, readL]
    rw [predL_ok (nok_of h) (hq x (by simp)) (chk_preds h x (hq x (by simp)))]
    simp only
    rw [readL_preds (fun y hy => hq y (List.mem_cons_of_mem _ hy))]
    simp
theorem readR_ok : readR (progL p) = some (p.preds.xs, p.rules.xs.map Rul.er) := by
  unfold readR progL
  rw [linesS_flat (linesP_nl h) linesT_len, List.map_map]
  have e : (linesP p).map ((fun l => Lib.trimSuffix l [10]) ∘ fun x => x ++ [10]) = linesP p := by
    conv => rhs; rw [← List.map_id (linesP p)]
    refine List.map_congr_left fun x _ => ?_
    simp [trimS_app]
  rw [e]
  unfold linesP
  rw [readL_preds h (fun _ hx => hx), List.nil_append, readL_rules h (fun _ hx => hx), List.nil_append]
end
end Go.TF
end
section
/- Calls of the library on texts, as contracts. -/
namespace Go.TF
open Go Go.RowKit Go.Proofs Go.Shelf
set_option maxRecDepth 20000

/-- What the package's variables hold. -/
structure Vars (h : Heap) : Prop where
  len : ∃ m, h.cell 0 0 = some (.int .i64 m)
  syn : ∃ te pe, h.cell 2 0 = some (.iface te pe)
  rng : ∃ te pe, h.cell 3 0 = some (.iface te pe)
  tab : ∃ T f, h 1 = some (.cells (Lib.pow10Tab.map fun z => Value.int .u64 z).toArray T f)
theorem Vars.le {h h' : Heap} (V : Vars h) (hl : h.le h') : Vars h' :=
  ⟨V.len.imp fun _ e => hl.cell e, V.syn.imp fun _ ⟨b, e⟩ => ⟨b, hl.cell e⟩, V.rng.imp fun _ ⟨b, e⟩ => ⟨b, hl.cell e⟩, V.tab.imp fun _ ⟨f, e⟩ => ⟨f, hl _ _ e⟩⟩
abbrev mk (l : Bs) : ByteArray := ⟨l.toArray⟩
@[reducible] def sEn (s : ByteArray) : List Value := [.string s]
abbrev Strs (l : Sl ByteArray) (h : Heap) : Prop := l.Is 1 sEn h
theorem Ext.of {B : Base} (hB : B.ok) {w : World} (g : Grow B.w w) : Ext B w B.h := (Inv.start hB).grow g
theorem Grow.drewN (w : World) (n : Nat) : Grow w (w.drewN n) := ⟨rfl, rfl, rfl, Nat.le_refl _, fun _ _ => rfl⟩
theorem Grow.bytesW (w : World) (e : TypeId) (s : ByteArray) : Grow w (Lib.bytesWorld w e s) := ⟨rfl, rfl, rfl, by rw [Lib.bytesWorld_size]; omega, fun j hj => Lib.bytesWorld_at_old w e s j hj⟩
theorem cell_ok {B : Base} (hB : B.ok) {b o : Nat} {v : Value} (h : B.h.cell b o = some v) : B.w.cell? ⟨b, o, none⟩ = some v := (Inv.start hB).cell h
theorem dec_dg : ∀ n : Fin 100, Lib.decDigits n.val = dgL n.val := by decide +kernel
theorem join_inter (sep : Bs) : ∀ l : List Bs, Lib.join l sep = joinT sep l
  | [] => by simp [Lib.join, joinT, List.intercalate]
  | [x] => by simp [Lib.join, joinT, List.intercalate]
  | x :: y :: r => by
    have ih := join_inter sep (y :: r)
    unfold Lib.join List.intercalate at ih ⊢
    rw [joinT, ← ih]
    simp [List.intersperse]
section
variable (B : Base) (hB : B.ok)
include hB
theorem CutPre_ok (s p : ByteArray) : Fn Tryz.prog 69 [.string s, .string p] B (fun v _ => v = .tuple #[.string (mk (Lib.trimPrefix (tx s) (tx p))), .bool (Lib.hasPrefix (tx s) (tx p))]) :=
  (Tryz.strings_CutPrefix s p B.w).mono (by rintro x w ⟨rfl, rfl⟩; exact ⟨_, _, rfl, Ext.of hB (Grow.refl _), rfl⟩)
theorem CutSuf_ok (s p : ByteArray) (hs : s.size ≤ 140737488355328) : Fn Tryz.prog 72 [.string s, .string p] B (fun v _ => v = .tuple #[.string (mk (Lib.trimSuffix (tx s) (tx p))), .bool (Lib.hasSuffix (tx s) (tx p))]) :=
  (Tryz.strings_CutSuffix s p B.w (by omega)).mono (by rintro x w ⟨rfl, rfl⟩; exact ⟨_, _, rfl, Ext.of hB (Grow.refl _), rfl⟩)
theorem HasSuf_ok (s p : ByteArray) (hs : s.size ≤ 140737488355328) : Fn Tryz.prog 38 [.string s, .string p] B (fun v _ => v = .bool (Lib.hasSuffix (tx s) (tx p))) :=
  (Tryz.strings_HasSuffix s p B.w (by omega)).mono (by rintro x w ⟨rfl, rfl⟩; exact ⟨_, _, rfl, Ext.of hB (Grow.refl _), rfl⟩)
theorem TrimSuf_ok (s p : ByteArray) (hs : s.size ≤ 140737488355328) : Fn Tryz.prog 31 [.string s, .string p] B (fun v _ => v = .string (mk (Lib.trimSuffix (tx s) (tx p)))) :=
  (Tryz.strings_TrimSuffix s p B.w (by omega)).mono (by rintro x w ⟨rfl, rfl⟩; exact ⟨_, _, rfl, Ext.of hB (Grow.refl _), rfl⟩)
theorem Cut_ok (V : Vars B.h) (s p : ByteArray) (hs : s.size < 4294967281) : Fn Tryz.prog 73 [.string s, .string p] B (fun v _ => v = .tuple #[.string (mk (Lib.cut (tx s) (tx p)).1), .string (mk (Lib.cut (tx s) (tx p)).2.1), .bool (Lib.cut (tx s) (tx p)).2.2]) := by
  obtain ⟨m, hm⟩ := V.len
  exact (Tryz.strings_Cut s p m B.w hs (cell_ok hB hm)).mono (by rintro x w ⟨rfl, n, rfl⟩; exact ⟨_, _, rfl, Ext.of hB (Grow.drewN _ n), rfl⟩)
theorem Index_ok (V : Vars B.h) (s p : ByteArray) (hs : s.size < 4294967281) : Fn Tryz.prog 86 [.string s, .string p] B (fun v _ => v = .int .i64 (Lib.index (tx s) (tx p))) := by
  obtain ⟨m, hm⟩ := V.len
  exact (Tryz.strings_Index s p m B.w hs (cell_ok hB hm)).mono (by rintro x w ⟨rfl, rfl⟩; exact ⟨_, _, rfl, Ext.of hB (Grow.refl _), rfl⟩)
theorem Split_ok (V : Vars B.h) (s p : ByteArray) (hs : s.size < 4294967281) (hp : 1 ≤ p.size) : Fn Tryz.prog 70 [.string s, .string p] B (fun v h => ∃ l : Sl ByteArray, v = l.val ∧ Strs l h ∧ l.xs.map tx = Lib.split (tx s) (tx p)) := by
  obtain ⟨m, hm⟩ := V.len
  refine (Tryz.strings_Split s p m B.w hs (cell_ok hB hm) hp).mono ?_
  rintro x w ⟨rfl, rfl⟩
  have hlen := Lib.splitB_all p hp 0 _ s rfl
  have hle := Lib.countB_le p hp s.size s (Nat.le_refl _)
  obtain ⟨l, hl⟩ : ∃ l, l = Lib.splitB p 0 (Lib.countB s p) s := ⟨_, rfl⟩
  rw [← hl] at hlen ⊢
  obtain ⟨h', gl, he, I⟩ := ((Inv.start hB).alloc (l.map Value.string) 9).settle
  have hb := he B.w.heap.size (by simp [box])
  rw [World.alloc_heap_new] at hb
  refine ⟨_, h', rfl, I, ⟨some ⟨B.w.heap.size, 0, none⟩, Lib.countB s p + 1, l⟩, by rw [Sl.val, hlen], ⟨fun i y hy => ⟨rfl, fun j v hj => ?_⟩, by dsimp only; omega⟩, ?_⟩
  · have : j = 0 ∧ v = .string y := by
      cases j with
      | zero => simpa [sEn] using hj.symm
      | succ j => simp [sEn] at hj
    obtain ⟨rfl, rfl⟩ := this
    unfold Heap.cell
    simp only [Sl.blk, Sl.off, Option.getD_some, hb]
    simpa using hy
  · dsimp only
    rw [hl, Lib.splitB_data]; rfl
theorem IdxByte_ok (s : ByteArray) (c : Int) : Fn Tryz.prog 68 [.string s, .int .u8 c] B (fun v _ => v = .int .i64 (Lib.indexByte (tx s) c.toNat.toUInt8)) :=
  (Tryz.strings_IndexByte s c B.w).mono (by rintro x w ⟨rfl, rfl⟩; exact ⟨_, _, rfl, Ext.of hB (Grow.refl _), rfl⟩)
theorem Itoa_ok (n : Nat) (hn : n < 100) : Fn Tryz.prog 24 [.int .i64 n] B (fun v _ => v = .string (mk (dgL n))) := by
  have := dec_dg ⟨n, hn⟩
  simp only at this
  rw [← this]
  exact (Tryz.strconv_Itoa_small n hn B.w).mono (by rintro x w ⟨rfl, rfl⟩; exact ⟨_, _, rfl, Ext.of hB (Grow.refl _), rfl⟩)
/-- strconv.Atoi: a number, and no error; or an error. -/
theorem Atoi_ok (V : Vars B.h) (s : ByteArray) (hs : s.size ≤ 140737488355328) : Fn Tryz.prog 127 [.string s] B (fun v _ => (∃ n, numR (tx s) = some n ∧ v = .tuple #[.int .i64 n, .nilIface]) ∨ (numR (tx s) = none ∧ ∃ n te pe, v = .tuple #[.int .i64 n, .iface te pe])) := by
  obtain ⟨t1, p1, h1⟩ := V.syn
  obtain ⟨t2, p2, h2⟩ := V.rng
  obtain ⟨ee, hee⟩ : ∃ ee, Lib.atoiAll (tx s) = ee := ⟨_, rfl⟩
  rcases ee with v | _ | _
  · have he := hee
    refine (Tryz.strconv_Atoi_ok s (by omega) v he B.w).mono ?_
    rintro x w ⟨rfl, hw⟩
    refine ⟨_, _, rfl, Ext.of hB ?_, .inl ⟨v, by unfold numR; rw [he], rfl⟩⟩
    rcases hw with rfl | ⟨t, rfl⟩
    · exact Grow.refl _
    · exact Grow.bytesW _ _ _
  · have he := hee
    refine (Any.strconv_Atoi_syntax Tryz.laysC172 s (by omega) he _ B.w (cell_ok hB h1) (.inr ⟨_, _, rfl⟩)).mono ?_
    rintro x w ⟨N, rfl, _, _, hw⟩
    exact ⟨_, _, rfl, Ext.of hB hw, .inr ⟨by unfold numR; rw [he], _, _, _, rfl⟩⟩
  · have he := hee
    refine (Tryz.strconv_Atoi_range s (by omega) he _ B.w (cell_ok hB h2) (.inr ⟨_, _, rfl⟩)).mono ?_
    rintro x w ⟨N, rfl, _, _, hw⟩
    exact ⟨_, _, rfl, Ext.of hB hw, .inr ⟨by unfold numR; rw [he], _, _, _, rfl⟩⟩
theorem SJoin_ok (l : Sl ByteArray) (hl : Strs l B.h) (hc : l.xs.length ≤ l.cap) (p : ByteArray) (hlen : (joinT (tx p) (l.xs.map tx)).length ≤ 140737488355328) : Fn Tryz.prog 26 [l.val, .string p] B (fun v _ => v = .string (mk (joinT (tx p) (l.xs.map tx)))) := by
  cases hx : l.xs with
  | nil =>
    have := Tryz.strings_Join_none l.at_ l.cap p B.w
    unfold Sl.val
    rw [hx]
    exact this.mono (by rintro x w ⟨rfl, rfl⟩; exact ⟨_, _, rfl, Ext.of hB (Grow.refl _), rfl⟩)
  | cons y r =>
    obtain ⟨ha, hr⟩ := hl.el 0 y (by rw [hx]; rfl)
    have hcell : ∀ j x, l.xs[j]? = some x → B.w.cell? ⟨l.blk, l.off + j, none⟩ = some (.string x) := fun j x hj => by
      have := (hl.el j x hj).2 0 (.string x) rfl
      exact cell_ok hB (by simpa using this)
    have hblk : l.blk < B.w.heap.size := World.block_lt_of_cell? B.w ⟨l.blk, l.off + 0, none⟩ (hcell 0 y (by rw [hx]; rfl))
    have := Tryz.strings_Join l.blk l.off l.cap l.xs p B.w hcell hblk hl.small hc (by rw [join_inter]; exact hlen)
    rw [join_inter] at this
    unfold Sl.val
    rw [ha, ← hx]
    exact this.mono (by rintro x w ⟨rfl, hw⟩; exact ⟨_, _, rfl, Ext.of hB hw, rfl⟩)
end
end Go.TF
end
section
/- A region in which a literal is made and appended to what the call owns, while what is loaded may be loaded ahead or behind. -/
namespace Go.TF
open Go Go.RowKit

structure ApS where
  h : Heap
  o7 : Option (Nat × Nat)
def pcA (T k n m : Nat) (v : Value) (xs x : List Value) (o7 : Option (Nat × Nat)) : SA := match o7 with
  | none => ownSl T k v n xs
  | some y => ownSl T k (.slice (some ⟨y.1, 0, none⟩) (n + m) y.2) (n + m) (xs ++ x)
structure JAp (B : Base) (M : List SA) (T k n m : Nat) (v : Value) (xs x : List Value) (i7 : Nat) (D : Nat → Bool) (s : ApS) (w : World) : Prop where
  h7 : s.o7.isSome = D i7
  inv : Inv B s.h (pcA T k n m v xs x s.o7 :: M) w
structure RAp (s s' : ApS) : Prop where
  h : s.h.le s'.h
  h7 : ∀ y, s.o7 = some y → s'.o7 = some y
theorem RAp.pre : Pre RAp := ⟨fun _ => ⟨Heap.le.refl _, fun _ h => h⟩, fun _ _ _ h k => ⟨h.h.trans k.h, fun y e => k.h7 y (h.h7 y e)⟩⟩
def AtAp (N : Nat) (u : Value) (s : ApS) : Prop := ∃ g c, u = .slice (some ⟨g, 0, none⟩) N c ∧ s.o7 = some (g, c)
theorem AtAp.mono {N : Nat} : MonoG RAp (AtAp N) := fun _ _ _ r ⟨g, c, h1, h2⟩ => ⟨g, c, h1, r.h7 _ h2⟩
def KnA (Φ : Sp) (u : Value) (s : ApS) : Prop := Φ u s.h
theorem KnA.mono {Φ : Sp} (hm : MonoS Φ) : MonoG RAp (KnA Φ) := fun _ _ _ r h => hm _ _ _ r.h h
section
variable {P : Program} {o : Oper} {e : Env} {B : Base} {M : List SA} {T k n m : Nat} {v : Value} {xs x : List Value} {i7 i : Nat} {D : Nat → Bool} {s : ApS} {w : World}
theorem JAp.base (j : JAp B M T k n m v xs x i7 D s w) : Inv B s.h M w := j.inv.drop
theorem JAp.set (h : i7 ≠ i) : ∀ D s w, JAp B M T k n m v xs x i7 D s w → JAp B M T k n m v xs x i7 (setD D i) s w := fun D s w j => ⟨by rw [show setD D i i7 = D i7 by simp [setD, h]]; exact j.h7, j.inv⟩
/-- What makes known more, and turns nothing. -/
theorem JAp.know {Φ : Sp} (j : JAp B M T k n m v xs x i7 D s w) (h : i7 ≠ i) (hop : ∀ N, Inv B s.h N w → Op1 P o e w fun u w' => ∃ h', s.h.le h' ∧ Inv B h' N w' ∧ Φ u h') :
    Op1 P o e w fun u w' => ∃ s', RAp s s' ∧ JAp B M T k n m v xs x i7 (setD D i) s' w' ∧ KnA Φ u s' :=
  (hop _ j.inv).mono fun u w' ⟨h', hl, I, hu⟩ => ⟨⟨h', s.o7⟩, ⟨hl, fun _ e => e⟩, ⟨by rw [show setD D i i7 = D i7 by simp [setD, h]]; exact j.h7, I⟩, hu⟩
theorem JAp.app (j : JAp B M T k n m v xs x i7 D s w) (hD : D i7 = false) (hop : Inv B s.h (ownSl T k v n xs :: M) w → Op1 P o e w fun u w' => ∃ g c, u = .slice (some ⟨g, 0, none⟩) (n + m) c ∧ Inv B s.h (ownSl T k (.slice (some ⟨g, 0, none⟩) (n + m) c) (n + m) (xs ++ x) :: M) w') :
    Op1 P o e w fun u w' => ∃ s', RAp s s' ∧ JAp B M T k n m v xs x i7 (setD D i7) s' w' ∧ AtAp (n + m) u s' := by
  have h7 : s.o7 = none := by have := j.h7; rw [hD] at this; cases h : s.o7 <;> simp_all
  have I := j.inv
  rw [h7] at I
  exact (hop I).mono fun u w' ⟨g, c, e, I⟩ => ⟨⟨s.h, some (g, c)⟩, ⟨Heap.le.refl _, fun y e => (by rw [h7] at e; cases e)⟩, ⟨by simp [setD], I⟩, g, c, e, rfl⟩
end
def EqV (v0 : Value) : Sp := fun v _ => v = v0
theorem EqV.mono {v0 : Value} : MonoS (EqV v0) := fun _ _ _ _ h => h
abbrev KnAp (Φ : Sp) := KnA Φ
theorem KnAp.mono {Φ : Sp} (hm : MonoS Φ) : MonoG RAp (KnAp Φ) := KnA.mono hm
end Go.TF
end
section
/- A few more operations: an error held against nil, a number as text, a panic. -/
namespace Go.TF
open Go Go.RowKit

section
variable {P : Program} {e : Env} {w : World} {t : TypeId} {pos : String} {af : Array Edge} {g : Option (Nat × Bool)} {d : Option Nat}
theorem Y.eqnilT {x : Operand} {T T' : TypeId} (hT : P.underlying T = some (.interface (P.methodsAt T))) (hx : ev e x = .nilIface) : Y P ⟨d, .binOp .eql T x (.const .nilIface) T', t, pos, af, g⟩ e w (.bool true) := by
  have hy : ev e (.const .nilIface) = .nilIface := rfl
  simp only [Y, execOp, hx, hy, eqGuard_nil_constR]
  simp [run_eql_nil_nil w T hT]
theorem Y.eqnilF {x : Operand} {T T' te : TypeId} {pe : Value} (hT : P.underlying T = some (.interface (P.methodsAt T))) (hx : ev e x = .iface te pe) : Y P ⟨d, .binOp .eql T x (.const .nilIface) T', t, pos, af, g⟩ e w (.bool false) := by
  have hy : ev e (.const .nilIface) = .nilIface := rfl
  simp [Y, execOp, hx, hy, eqGuard, run_eql_held_nil w T te pe hT]
/-- A small number as a text of one byte. -/
theorem Y.runes {x : Operand} {S T : TypeId} {k : IntKind} {n : Nat} (hS : (P.underlying S).isSome = true) (hT : Und P T .string) (hx : ev e x = .int k (n : Int)) (hn : n < 128) : Y P ⟨d, .convert S T x, t, pos, af, g⟩ e w (.string ⟨#[UInt8.ofNat n]⟩) := by
  have h1 : Utf8.encode (n : Int) = ⟨#[UInt8.ofNat n]⟩ := by
    have hv : Utf8.valid (n : Int) = true := by simp [Utf8.valid]; omega
    unfold Utf8.encode
    rw [hv]
    simp [hn]
  simp [Y, execOp, hx, run_convert_int_string w S T k n hS hT, h1]
theorem O.panic {X : PX} {x : Operand} {T : TypeId} {v : Value} {K : Value → World → Prop} (hx : ev e x = .iface T v) (k : X [{ v := .iface T v, recovered := false }] w) : Op1P P X ⟨d, .panic x, t, pos, af, g⟩ e w K := by
  have : (execOp (ev e) ⟨d, .panic x, t, pos, af, g⟩).run P w = .halt (.panic (.iface T v)) w := by
    simp [execOp, hx, Instr.panic]
  unfold Op1P
  rw [this]
  exact k
end
theorem i32_of {n : Int} (h0 : 0 ≤ n) (h1 : n < 2147483648) : IntKind.i32.wrap n = n := by
  have h64 : IntKind.i32.bits = 32 := rfl
  have hs : IntKind.i32.signed = true := rfl
  unfold IntKind.wrap
  simp only [h64, hs, Bool.true_and, Nat.add_one_sub_one]
  simp only [show (2 ^ 32 : Int) = 4294967296 from rfl, show (2 ^ (32 - 1) : Int) = 2147483648 from rfl, ge_iff_le, decide_eq_true_eq]
  split <;> omega
theorem JAp.knowP {P : Program} {X : PX} {o : Oper} {e : Env} {B : Base} {M : List SA} {T k n m : Nat} {v : Value} {xs x : List Value} {i7 i : Nat} {D : Nat → Bool} {s : ApS} {w : World} {Φ : Sp} (j : JAp B M T k n m v xs x i7 D s w) (h : i7 ≠ i) (hop : ∀ N, N = pcA T k n m v xs x s.o7 :: M → Inv B s.h N w → Op1P P X o e w fun u w' => ∃ h', s.h.le h' ∧ Inv B h' N w' ∧ Φ u h') :
    Op1P P X o e w fun u w' => ∃ s', RAp s s' ∧ JAp B M T k n m v xs x i7 (setD D i) s' w' ∧ KnA Φ u s' :=
  (hop _ rfl j.inv).mono fun u w' ⟨h', hl, I, hu⟩ => ⟨⟨h', s.o7⟩, ⟨hl, fun _ e => e⟩, ⟨by rw [show setD D i i7 = D i7 by simp [setD, h]]; exact j.h7, I⟩, hu⟩
/-- A call that may panic; what the panic tells is for the caller to say. -/
theorem O.callpX {P : Program} {X : PX} {e : Env} {w : World} {B : Base} {h : Heap} {M : List SA} {t : TypeId} {pos : String} {af : Array Edge} {g : Option (Nat × Bool)} {C : List PanicEntry} {d : Option Nat} {f : FuncId} {args : Array Operand} {ts : Array TypeId} {vs : List Value} {Pan : Prop} {Post : Value → Heap → Prop} {K : Value → World → Prop} (I : Inv B h M w) (hf : Enters P f) (hfn : FnP P f vs ⟨w, h⟩ C Pan Post)
    (ha : args.toList.map (ev e) = vs) (kx : ∀ w', Grow w w' → Pan → X C w') (k : ∀ v h' w', Inv B h' M w' → h.le h' → Post v h' → K v w') : Op1P P X ⟨d, .call { callee := .value (.func f), args := args, argTypes := ts }, t, pos, af, g⟩ e w K := by
  have ha' : args.map (ev e) = vs.toArray := by rw [← ha]; apply Array.ext'; simp
  have : (execOp (ev e) ⟨d, .call { callee := .value (.func f), args := args, argTypes := ts }, t, pos, af, g⟩).run P w = .ok (.enter f vs.toArray) w := by
    simp [execOp, resolve, ev, Deferred.ofValue, invoke, ha', hf]
  unfold Op1P
  rw [this]
  refine Calls.mono hfn ?_
  rintro x w' (⟨v, h', rfl, X, hp⟩ | ⟨ch, rfl, rfl, h2, h3⟩)
  · exact k v h' w' (I.called X) X.ext hp
  · exact kx w' h2 h3
/-- A call of a function that turns what the caller owns, or panics. -/
theorem O.callsP {P : Program} {X : PX} {e : Env} {w : World} {t : TypeId} {pos : String} {af : Array Edge} {g : Option (Nat × Bool)} {d : Option Nat} {K : Value → World → Prop} {f : FuncId} {args : Array Operand} {ts : Array TypeId} {vs : List Value} {R : Ending → World → Prop} (hf : Enters P f) (hc : Calls P f vs.toArray w R)
    (ha : args.toList.map (ev e) = vs) (k : ∀ ed w', R ed w' → (∃ v, ed = .returned v ∧ K v w') ∨ ∃ ch, ed = .panicked ch ∧ X ch w') : Op1P P X ⟨d, .call { callee := .value (.func f), args := args, argTypes := ts }, t, pos, af, g⟩ e w K := by
  have ha' : args.map (ev e) = vs.toArray := by rw [← ha]; apply Array.ext'; simp
  have : (execOp (ev e) ⟨d, .call { callee := .value (.func f), args := args, argTypes := ts }, t, pos, af, g⟩).run P w = .ok (.enter f vs.toArray) w := by
    simp [execOp, resolve, ev, Deferred.ofValue, invoke, ha', hf]
  unfold Op1P
  rw [this]
  refine Calls.mono hc ?_
  rintro ed w' h
  rcases k ed w' h with ⟨v, rfl, hk⟩ | ⟨ch, rfl, hk⟩
  · exact hk
  · exact hk
/-- What a function owes at its end that turns what the caller owns, or panics. -/
def callQP (P : Program) (fn : Func) (R : Ending → World → Prop) : Exit → Env → World → Prop
  | .ret, e, w | .normal, e, w => ∃ vs, RV P e w fn.results.toList vs ∧ R (.returned (tup vs)) w
  | .panic ch, _, w => R (.panicked ch) w
  | _, _, _ => False
theorem Calls.ofWPP {P : Program} {f : FuncId} {fn : Func} {c : Code} {N : Nat} {args : List Value} {w : World} {R : Ending → World → Prop} (hf : P.funcs[f]? = some fn) (hb : fn.body = some c) (hN : fn.ntmps = N) (hs : slotsOk N c = true)
    (hl : args.length ≤ N) (h : ∀ e, WP P N [] c (E e (argsE 0 args)) w (callQP P fn R)) : Calls P f args.toArray w R := by
  refine calls_of_wp hf hb ?_
  subst hN
  refine wp_mono (h _ hs { tmps := args.toArray ++ Array.replicate (fn.ntmps - args.toArray.size) undef, defers := [] } (by simp; omega) rfl (E_self (has_args args 0 fun j v hv => ?_)).symm) ?_
  · have hj := (List.getElem?_eq_some_iff.1 hv).1
    have hg : args[j] = v := (List.getElem?_eq_some_iff.1 hv).2
    simp [env, Array.getD_eq_getD_getElem?, Array.getElem?_append, hj, hg]
  · rintro x a' w' ⟨_, g2, g3⟩
    cases x <;> simp only [callQP] at g3 <;> first | exact g3.elim | skip
    · obtain ⟨vs, hv, hr⟩ := g3
      exact ⟨g2, _, results_run rfl hv, hr⟩
    · obtain ⟨vs, hv, hr⟩ := g3
      exact ⟨g2, _, results_run rfl hv, hr⟩
    · exact ⟨g2, g3⟩
/-- What was made behind h1 stays known where a slice that was known in h1 is written again. -/
theorem OwnH.keep {α β : Type} {el k el2 k2 : Nat} {s : Sl α} {u : Sl β} {enc : α → List Value} {enc2 : β → List Value} {h0 h1 h h' : Heap} (o : OwnH el k s enc h1 h) (ou : OwnH el2 k2 u enc2 h0 h1) (kp : ∀ b x, h b = some x → h' b = some x ∨ u.at_ = some ⟨b, 0, none⟩) : OwnH el k s enc h1 h' := by
  rcases o with o | ⟨g, cur, q1, q2, q3, q4⟩
  · exact .inl o
  · refine .inr ⟨g, cur, q1, q2, ?_, q4⟩
    rcases kp g _ q3 with h3 | h3
    · exact h3
    · exfalso
      rcases ou with rfl | ⟨g2, cur2, r1, _, r3, _⟩
      · simp at h3
      · rw [r1] at h3
        injection h3 with h3
        injection h3 with h3
        subst h3
        rw [r3] at q2; cases q2
/-- A slice of the call's own is as long as its room at most. -/
theorem ownSl_cap {w : World} {T k n c : Nat} {a : Option Addr} {xs : List Value} (h : w.ownsRow 0 T k (.slice a n c) n xs) : n ≤ c := by
  rcases h.2 with ⟨h1, h2⟩ | ⟨g, cap, cur, hv, _, _, hnc, _⟩
  · omega
  · injection hv with _ _ h3; omega
end Go.TF
end
section
/- slices.IndexFunc, ContainsFunc at this program's types, at a predicate that keeps nothing. -/
namespace Go.TF
open Go Go.RowKit Go.Proofs
set_option maxRecDepth 10000

/-- A function value that answers p at each element, whatever the world, and keeps nothing. -/
def PredFn {α : Type} (P : Program) (f : FuncId) (fs cs : List Value) (h : Heap) (val : α → Value) (xs : List α) (p : α → Bool) : Prop :=
  ∀ B' : Base, B'.ok → h.le B'.h → ∀ x ∈ xs, Fn P f (fs ++ [val x] ++ cs) B' (fun v _ => v = .bool (p x))
def idxOf {α : Type} (p : α → Bool) (xs : List α) : Int := match xs.findIdx? p with | some i => (i : Int) | none => -1
theorem idxOf_none {α : Type} {p : α → Bool} {xs : List α} (h : ∀ x ∈ xs, p x = false) : idxOf p xs = -1 := by
  have : xs.findIdx? p = none := by rw [List.findIdx?_eq_none_iff]; intro x hx; simpa using h x hx
  simp [idxOf, this]
theorem idxOf_some {α : Type} {p : α → Bool} {xs : List α} {k : Nat} (hk : k < xs.length) (h : ∀ j (hj : j < k), p (xs[j]'(by omega)) = false) (hp : p xs[k] = true) : idxOf p xs = k := by
  have : xs.findIdx? p = some k := by
    rw [List.findIdx?_eq_some_iff_getElem]
    exact ⟨hk, hp, fun j hj => by simp [h j hj]⟩
  simp [idxOf, this]
theorem idxOf_any {α : Type} (p : α → Bool) (xs : List α) : decide (0 ≤ idxOf p xs) = xs.any p := by
  unfold idxOf
  cases h : xs.findIdx? p with
  | none =>
    rw [List.findIdx?_eq_none_iff] at h
    have : xs.any p = false := by rw [List.any_eq_false]; intro x hx; simp [h x hx]
    simp [this]
  | some i =>
    rw [List.findIdx?_eq_some_iff_getElem] at h
    obtain ⟨hi, hp, _⟩ := h
    have : xs.any p = true := List.any_eq_true.2 ⟨_, List.getElem_mem hi, hp⟩
    simp [this]
theorem IndexFuncTrm_ok (B : Base) (hB : B.ok) (l : Sl Trm) (hl : l.Is 2 Trm.enc B.h) (f : FuncId) (ent : Enters Tryz.prog f) (fs cs : List Value) (p : Trm → Bool) (hp : PredFn Tryz.prog f fs cs B.h Trm.val l.xs p) :
    Fn Tryz.prog 226 [l.val, .func (.func f) fs.toArray cs.toArray] B (fun v _ => v = .int .i64 (idxOf p l.xs)) := by
  refine Fn.of Tryz.func226 rfl Tryz.ntmps226 (by kernel_rfl) (by simp) ?_
  intro e
  have I := Inv.start hB
  refine WP.seq ?_
  refine WP.region ?_
  refine Ops.y (v := .int .i64 _) (Y.assign rfl) ?_
  refine Ops.nil ?_
  refine WP.seq ?_
  refine WP.seq ?_
  refine WP.region ?_
  refine Ops.y (v := .slice _ _ _) (Y.move rfl) ?_
  refine Ops.y (v := .int .i64 _) (Y.lens Tryz.underlying59 rfl) ?_
  refine Ops.y (v := .int .i64 _) (Y.move rfl) ?_
  refine Ops.nil ?_
  refine WP.block ?_
  refine WP.loopE (σ := Nat) (fun k => [(0, l.val), (1, .func (.func f) fs.toArray cs.toArray), (7, .int .i64 l.xs.length), (8, .int .i64 k)]) (fun k w => Inv B B.h [] w ∧ k ≤ l.xs.length ∧ ∀ j (hj : j < k) (hj' : j < l.xs.length), p l.xs[j] = false) (fun k => l.xs.length - k)
    ⟨0, ⟨rfl, rfl, rfl, rfl, trivial⟩, I, Nat.zero_le _, fun j hj => (by omega)⟩ ?_
  rintro k e w ⟨I, hk, hn⟩
  have hsm := hl.small
  refine WP.seq ?_
  refine WP.region ?_
  refine Ops.y (v := .bool (decide _)) (Y.lti rfl rfl) ?_
  refine Ops.nil ?_
  refine WP.seq ?_
  refine WP.cond_dec rfl (fun h => ?_) (fun h => ?_)
  · have hk' : k < l.xs.length := by omega
    have E1 := hl.at hk'
    refine WP.skip ?_
    refine WP.seq ?_
    refine WP.block ?_
    refine WP.seq ?_
    refine WP.region ?_
    refine Ops.y (v := .int .i64 _) (Y.move rfl) ?_
    refine Ops.y (v := .int .i64 _) (Y.assign rfl) ?_
    refine Ops.nil ?_
    refine WP.seq ?_
    refine WP.region ?_
    refine Ops.y (v := .func _ _ _) (Y.move rfl) ?_
    refine Ops.y (v := .slice _ _ _) (Y.move rfl) ?_
    refine Ops.y (v := .int .i64 _) (Y.move rfl) ?_
    refine Ops.y (v := .pointer (some ⟨_, _, none⟩)) (Y.idxEl E1 Tryz.underlying59 Tryz.sizeOf109 rfl rfl (Int.natCast_nonneg _) rfl) ?_
    refine Ops.y (v := .agg #[_, _]) (Y.loadv ty_109 rfl (I.rd (E1.rd.part 0 2)) rfl rfl) ?_
    refine Ops.go (O.callcv I ent rfl (hp ⟨w, B.h⟩ I.base_ok (Heap.le.refl _) l.xs[k] (List.getElem_mem hk')) rfl ?_)
    intro w I
    refine Ops.nil ?_
    refine WP.cond rfl (fun hb => ?_) (fun hb => ?_)
    · refine WP.seq ?_
      refine WP.region ?_
      refine Ops.y (v := .int .i64 _) (Y.move rfl) ?_
      refine Ops.y (v := .int .i64 _) (Y.assign rfl) ?_
      refine Ops.nil ?_
      refine WP.ret ?_
      repeat (first | refine thenE_ret ?_ | refine blockE_ret ?_)
      exact retQ.mk (vs := [.int .i64 _]) rfl ⟨rfl, trivial⟩ I.ext_of (by simp only [tup]; rw [idxOf_some hk' (fun j hj => hn j hj (by omega)) hb])
    refine WP.skip ?_
    refine WP.region ?_
    refine Ops.y (v := .int .i64 _) (Y.addi rfl rfl ⟨by omega, by omega⟩) ?_
    refine Ops.y (v := .int .i64 _) (Y.move rfl) ?_
    refine Ops.nil ?_
    exact ⟨k + 1, ⟨⟨rfl, rfl, rfl, rfl, trivial⟩, I, by omega, fun j hj hj' => by
      rcases Nat.lt_succ_iff_lt_or_eq.1 hj with h' | h'
      · exact hn j h' hj'
      · subst h'; exact hb⟩, by omega⟩
  refine WP.exit ?_
  refine WP.seq ?_
  refine WP.region ?_
  refine Ops.y (v := .int .i64 _) (Y.assign rfl) ?_
  refine Ops.nil ?_
  refine WP.ret ?_
  repeat (first | refine thenE_ret ?_ | refine blockE_ret ?_)
  exact retQ.mk (vs := [.int .i64 _]) rfl ⟨rfl, trivial⟩ I.ext_of (by simp only [tup]; rw [idxOf_none]; intro x hx; obtain ⟨j, hj, rfl⟩ := List.getElem_of_mem hx; exact hn j (by omega) hj)
theorem ContainsFuncTrm_ok (B : Base) (hB : B.ok) (l : Sl Trm) (hl : l.Is 2 Trm.enc B.h) (f : FuncId) (ent : Enters Tryz.prog f) (fs cs : List Value) (p : Trm → Bool) (hp : PredFn Tryz.prog f fs cs B.h Trm.val l.xs p) :
    Fn Tryz.prog 199 [l.val, .func (.func f) fs.toArray cs.toArray] B (fun v _ => v = .bool (l.xs.any p)) := by
  refine Fn.of Tryz.func199 rfl Tryz.ntmps199 (by kernel_rfl) (by simp) ?_
  intro e
  have I := Inv.start hB
  refine WP.seq ?_
  refine WP.region ?_
  refine Ops.y (v := .bool _) (Y.assign rfl) ?_
  refine Ops.nil ?_
  refine WP.seq ?_
  refine WP.region ?_
  refine Ops.y (v := .slice _ _ _) (Y.move rfl) ?_
  refine Ops.y (v := .func _ _ _) (Y.move rfl) ?_
  refine Ops.go (O.callv I Tryz.call226 (IndexFuncTrm_ok _ I.base_ok l hl f ent fs cs p hp) rfl ?_)
  intro w I
  refine Ops.y (v := .bool (decide _)) (Y.gei rfl rfl) ?_
  refine Ops.y (v := .bool _) (Y.assign rfl) ?_
  refine Ops.nil ?_
  refine WP.ret ?_
  repeat (first | refine thenE_ret ?_ | refine blockE_ret ?_)
  exact retQ.mk (vs := [.bool _]) rfl ⟨rfl, trivial⟩ I.ext_of (by simp only [tup]; rw [idxOf_any])
theorem IndexFuncPrd_ok (B : Base) (hB : B.ok) (l : Sl Prd) (hl : l.Is 3 Prd.enc B.h) (f : FuncId) (ent : Enters Tryz.prog f) (fs cs : List Value) (p : Prd → Bool) (hp : PredFn Tryz.prog f fs cs B.h Prd.val l.xs p) :
    Fn Tryz.prog 114 [l.val, .func (.func f) fs.toArray cs.toArray] B (fun v _ => v = .int .i64 (idxOf p l.xs)) := by
  refine Fn.of Tryz.func114 rfl Tryz.ntmps114 (by kernel_rfl) (by simp) ?_
  intro e
  have I := Inv.start hB
  refine WP.seq ?_
  refine WP.region ?_
  refine Ops.y (v := .int .i64 _) (Y.assign rfl) ?_
  refine Ops.nil ?_
  refine WP.seq ?_
  refine WP.seq ?_
  refine WP.region ?_
  refine Ops.y (v := .slice _ _ _) (Y.move rfl) ?_
  refine Ops.y (v := .int .i64 _) (Y.lens Tryz.underlying22 rfl) ?_
  refine Ops.y (v := .int .i64 _) (Y.move rfl) ?_
  refine Ops.nil ?_
  refine WP.block ?_
  refine WP.loopE (σ := Nat) (fun k => [(0, l.val), (1, .func (.func f) fs.toArray cs.toArray), (7, .int .i64 l.xs.length), (8, .int .i64 k)]) (fun k w => Inv B B.h [] w ∧ k ≤ l.xs.length ∧ ∀ j (hj : j < k) (hj' : j < l.xs.length), p l.xs[j] = false) (fun k => l.xs.length - k)
    ⟨0, ⟨rfl, rfl, rfl, rfl, trivial⟩, I, Nat.zero_le _, fun j hj => (by omega)⟩ ?_
  rintro k e w ⟨I, hk, hn⟩
  have hsm := hl.small
  refine WP.seq ?_
  refine WP.region ?_
  refine Ops.y (v := .bool (decide _)) (Y.lti rfl rfl) ?_
  refine Ops.nil ?_
  refine WP.seq ?_
  refine WP.cond_dec rfl (fun h => ?_) (fun h => ?_)
  · have hk' : k < l.xs.length := by omega
    have E1 := hl.at hk'
    refine WP.skip ?_
    refine WP.seq ?_
    refine WP.block ?_
    refine WP.seq ?_
    refine WP.region ?_
    refine Ops.y (v := .int .i64 _) (Y.move rfl) ?_
    refine Ops.y (v := .int .i64 _) (Y.assign rfl) ?_
    refine Ops.nil ?_
    refine WP.seq ?_
    refine WP.region ?_
    refine Ops.y (v := .func _ _ _) (Y.move rfl) ?_
    refine Ops.y (v := .slice _ _ _) (Y.move rfl) ?_
    refine Ops.y (v := .int .i64 _) (Y.move rfl) ?_
    refine Ops.y (v := .pointer (some ⟨_, _, none⟩)) (Y.idxEl E1 Tryz.underlying22 Tryz.sizeOf53 rfl rfl (Int.natCast_nonneg _) rfl) ?_
    refine Ops.y (v := .agg #[_, _, _]) (Y.loadv ty_53 rfl (I.rd (E1.rd.part 0 3)) rfl rfl) ?_
    refine Ops.go (O.callcv I ent rfl (hp ⟨w, B.h⟩ I.base_ok (Heap.le.refl _) l.xs[k] (List.getElem_mem hk')) rfl ?_)
    intro w I
    refine Ops.nil ?_
    refine WP.cond rfl (fun hb => ?_) (fun hb => ?_)
    · refine WP.seq ?_
      refine WP.region ?_
      refine Ops.y (v := .int .i64 _) (Y.move rfl) ?_
      refine Ops.y (v := .int .i64 _) (Y.assign rfl) ?_
      refine Ops.nil ?_
      refine WP.ret ?_
      repeat (first | refine thenE_ret ?_ | refine blockE_ret ?_)
      exact retQ.mk (vs := [.int .i64 _]) rfl ⟨rfl, trivial⟩ I.ext_of (by simp only [tup]; rw [idxOf_some hk' (fun j hj => hn j hj (by omega)) hb])
    refine WP.skip ?_
    refine WP.region ?_
    refine Ops.y (v := .int .i64 _) (Y.addi rfl rfl ⟨by omega, by omega⟩) ?_
    refine Ops.y (v := .int .i64 _) (Y.move rfl) ?_
    refine Ops.nil ?_
    exact ⟨k + 1, ⟨⟨rfl, rfl, rfl, rfl, trivial⟩, I, by omega, fun j hj hj' => by
      rcases Nat.lt_succ_iff_lt_or_eq.1 hj with h' | h'
      · exact hn j h' hj'
      · subst h'; exact hb⟩, by omega⟩
  refine WP.exit ?_
  refine WP.seq ?_
  refine WP.region ?_
  refine Ops.y (v := .int .i64 _) (Y.assign rfl) ?_
  refine Ops.nil ?_
  refine WP.ret ?_
  repeat (first | refine thenE_ret ?_ | refine blockE_ret ?_)
  exact retQ.mk (vs := [.int .i64 _]) rfl ⟨rfl, trivial⟩ I.ext_of (by simp only [tup]; rw [idxOf_none]; intro x hx; obtain ⟨j, hj, rfl⟩ := List.getElem_of_mem hx; exact hn j (by omega) hj)
theorem ContainsFuncPrd_ok (B : Base) (hB : B.ok) (l : Sl Prd) (hl : l.Is 3 Prd.enc B.h) (f : FuncId) (ent : Enters Tryz.prog f) (fs cs : List Value) (p : Prd → Bool) (hp : PredFn Tryz.prog f fs cs B.h Prd.val l.xs p) :
    Fn Tryz.prog 55 [l.val, .func (.func f) fs.toArray cs.toArray] B (fun v _ => v = .bool (l.xs.any p)) := by
  refine Fn.of Tryz.func55 rfl Tryz.ntmps55 (by kernel_rfl) (by simp) ?_
  intro e
  have I := Inv.start hB
  refine WP.seq ?_
  refine WP.region ?_
  refine Ops.y (v := .bool _) (Y.assign rfl) ?_
  refine Ops.nil ?_
  refine WP.seq ?_
  refine WP.region ?_
  refine Ops.y (v := .slice _ _ _) (Y.move rfl) ?_
  refine Ops.y (v := .func _ _ _) (Y.move rfl) ?_
  refine Ops.go (O.callv I Tryz.call114 (IndexFuncPrd_ok _ I.base_ok l hl f ent fs cs p hp) rfl ?_)
  intro w I
  refine Ops.y (v := .bool (decide _)) (Y.gei rfl rfl) ?_
  refine Ops.y (v := .bool _) (Y.assign rfl) ?_
  refine Ops.nil ?_
  refine WP.ret ?_
  repeat (first | refine thenE_ret ?_ | refine blockE_ret ?_)
  exact retQ.mk (vs := [.bool _]) rfl ⟨rfl, trivial⟩ I.ext_of (by simp only [tup]; rw [idxOf_any])
end Go.TF
end
section
/- Package text: must, num, term, Atom: walked. -/
namespace Go.TF
open Go Go.RowKit Go.Proofs
set_option maxRecDepth 20000

/-- The panic that says that a text is broken. -/
abbrev brk : List PanicEntry := [{ v := .iface 119 (.agg #[]), recovered := false }]
theorem must_ok (B : Base) (hB : B.ok) (b : Bool) : FnP Tryz.prog 32 [.bool b] B brk (b = false) (fun v _ => b = true ∧ v = .tuple #[]) := by
  refine FnP.of Tryz.func32 rfl Tryz.ntmps32 (by kernel_rfl) (by simp) ?_
  intro e
  have I := Inv.start hB
  refine WP.seq ?_
  refine WP.region ?_
  refine Ops.y (v := .bool _) (Y.move rfl) ?_
  refine Ops.y (v := .bool _) (Y.not rfl) ?_
  refine Ops.nil ?_
  refine WP.cond rfl (fun h => ?_) (fun h => ?_)
  · refine WP.regionP _ (fun _ _ _ h => h) ?_
    refine OpsP.y (v := .agg #[]) (Y.build pl_119 Tryz.zeroValue119 rfl rfl) ?_
    refine OpsP.y (v := .iface _ _) (Y.iface Tryz.underlying119 (by intro ms h; cases h) rfl) ?_
    refine OpsP.p (O.panic rfl ?_)
    exact ⟨rfl, I.below, by simpa using h⟩
  refine WP.skip ?_
  exact retP.fin (vs := []) rfl trivial I.ext_of ⟨by simpa using h, rfl⟩
theorem num_ok (B : Base) (hB : B.ok) (V : Vars B.h) (s : ByteArray) (hs : s.size ≤ 140737488355328) : FnP Tryz.prog 71 [.string s] B brk (numR (tx s) = none) (fun v _ => ∃ n, numR (tx s) = some n ∧ v = .int .i64 n) := by
  cases hn : numR (tx s) with
  | some n =>
    have ha : Fn Tryz.prog 127 [.string s] B (fun v _ => v = .tuple #[.int .i64 n, .nilIface]) := (Atoi_ok B hB V s hs).mono fun v h' _ hv => by
      rcases hv with ⟨m, h1, h2⟩ | ⟨h1, _⟩
      · rw [hn] at h1; cases h1; exact h2
      · rw [hn] at h1; cases h1
    refine FnP.of Tryz.func71 rfl Tryz.ntmps71 (by kernel_rfl) (by simp) ?_
    intro e
    have I := Inv.start hB
    refine WP.seq ?_
    refine WP.region ?_
    refine Ops.y (v := .int .i64 _) (Y.assign rfl) ?_
    refine Ops.nil ?_
    refine WP.seq ?_
    refine WP.region ?_
    refine Ops.y (v := .string _) (Y.move rfl) ?_
    refine Ops.go (O.callv I Tryz.call127 (ha) rfl ?_)
    intro w I
    refine Ops.y (v := .tuple #[_, _]) (Y.move rfl) ?_
    refine Ops.y (v := .int .i64 _) (Y.extract rfl rfl) ?_
    refine Ops.y (v := .nilIface) (Y.extract rfl rfl) ?_
    refine Ops.y (v := .int .i64 _) (Y.assign rfl) ?_
    refine Ops.y (v := _) (Y.assign rfl) ?_
    refine Ops.nil ?_
    refine WP.seq ?_
    refine WP.regionP _ (fun _ _ _ h => h) ?_
    refine OpsP.y (v := _) (Y.move rfl) ?_
    refine OpsP.y (v := .bool true) (Y.eqnilT Tryz.underlying55 rfl) ?_
    refine OpsP.p (O.callp I Tryz.call32 (must_ok _ I.base_ok true) rfl (fun h => by cases h) ?_)
    rintro _ h w I hle ⟨_, rfl⟩
    refine OpsP.nil ?_
    refine WP.seq ?_
    refine WP.region ?_
    refine Ops.y (v := .int .i64 _) (Y.move rfl) ?_
    refine Ops.y (v := .int .i64 _) (Y.assign rfl) ?_
    refine Ops.nil ?_
    refine WP.ret ?_
    repeat (first | refine thenE_ret ?_ | refine blockE_ret ?_)
    exact retP.mk (vs := [.int .i64 _]) rfl ⟨rfl, trivial⟩ I.ext_of (⟨n, rfl, rfl⟩)
  | none =>
    have ha : Fn Tryz.prog 127 [.string s] B (fun v _ => ∃ n te pe, v = .tuple #[.int .i64 n, .iface te pe]) := (Atoi_ok B hB V s hs).mono fun v h' _ hv => by
      rcases hv with ⟨m, h1, h2⟩ | ⟨_, h1⟩
      · rw [hn] at h1; cases h1
      · exact h1
    refine FnP.of Tryz.func71 rfl Tryz.ntmps71 (by kernel_rfl) (by simp) ?_
    intro e
    have I := Inv.start hB
    refine WP.seq ?_
    refine WP.region ?_
    refine Ops.y (v := .int .i64 _) (Y.assign rfl) ?_
    refine Ops.nil ?_
    refine WP.seq ?_
    refine WP.region ?_
    refine Ops.y (v := .string _) (Y.move rfl) ?_
    refine Ops.go (O.call I Tryz.call127 (ha) rfl ?_)
    rintro _ h w I hle ⟨n, te, pe, rfl⟩
    refine Ops.y (v := .tuple #[_, _]) (Y.move rfl) ?_
    refine Ops.y (v := .int .i64 _) (Y.extract rfl rfl) ?_
    refine Ops.y (v := .iface _ _) (Y.extract rfl rfl) ?_
    refine Ops.y (v := .int .i64 _) (Y.assign rfl) ?_
    refine Ops.y (v := _) (Y.assign rfl) ?_
    refine Ops.nil ?_
    refine WP.seq ?_
    refine WP.regionP _ (fun _ _ _ h => h) ?_
    refine OpsP.y (v := _) (Y.move rfl) ?_
    refine OpsP.y (v := .bool false) (Y.eqnilF Tryz.underlying55 rfl) ?_
    refine OpsP.p (O.callp I Tryz.call32 (must_ok _ I.base_ok false) rfl (fun _ => rfl) ?_)
    rintro _ h w I hle ⟨h, _⟩
    refine OpsP.nil ?_
    cases h
theorem tTerm_ok (B : Base) (hB : B.ok) (t : Trm) (ht : termOk t = true) : Fn Tryz.prog 65 [t.val] B (fun v _ => v = .string (mk (termL t))) := by
  have hb : 0 ≤ t.n ∧ t.n ≤ 4 := by
    unfold termOk at ht
    split at ht <;> (have := of_decide_eq_true ht; omega)
  refine Fn.of Tryz.func65 rfl Tryz.ntmps65 (by kernel_rfl) (by simp) ?_
  intro e
  have I := Inv.start hB
  refine WP.seq ?_
  refine WP.region ?_
  refine Ops.go (O.box (v := .agg #[_, _]) I rfl rfl ?_)
  intro b1 w I
  refine Ops.y (v := .string _) (Y.assign rfl) ?_
  refine Ops.nil ?_
  refine WP.seq ?_
  refine WP.seq ?_
  refine WP.region ?_
  refine Ops.y (v := .pointer (some ⟨_, _, none⟩)) (Y.fa0 fa_109_0 rfl) ?_
  refine Ops.y (v := .bool _) (Y.loadv ty_4 rfl (I.rdbox 0 rfl 0 1) rfl rfl) ?_
  refine Ops.nil ?_
  refine WP.cond rfl (fun h1 => ?_) (fun h1 => ?_)
  · have hv : t.var = true := h1
    obtain ⟨c, hc⟩ : ∃ c : Nat, 65 + t.n = c := ⟨(65 + t.n).toNat, by omega⟩
    have hT : termL t = [UInt8.ofNat c] := by unfold termL; rw [if_pos hv, hc]; rfl
    refine WP.seq ?_
    refine WP.region ?_
    refine Ops.y (v := .pointer (some ⟨_, _, none⟩)) (Y.fa fa_109_1 rfl) ?_
    refine Ops.y (v := .int .i64 _) (Y.loadv ty_3 rfl (I.rdbox 0 rfl 1 1) rfl rfl) ?_
    refine Ops.y (v := .int .i64 _) (Y.addi rfl rfl ⟨by omega, by omega⟩) ?_
    refine Ops.y (v := .int .i32 _) (Y.conv (by rw [Tryz.underlying3]; rfl) Tryz.underlying21 ((i32_of (by omega) (by omega))) rfl) ?_
    refine Ops.y (v := .string ⟨#[UInt8.ofNat c]⟩) (Y.runes (by rw [Tryz.underlying21]; rfl) Tryz.underlying9 (by rw [← hc]; rfl) (by omega)) ?_
    refine Ops.y (v := .string _) (Y.assign rfl) ?_
    refine Ops.nil ?_
    refine WP.ret ?_
    repeat (first | refine thenE_ret ?_ | refine blockE_ret ?_)
    exact retQ.mk (vs := [.string _]) rfl ⟨rfl, trivial⟩ I.ext_of (by rw [hT]; rfl)
  · have hv : t.var = false := by simpa using h1
    obtain ⟨c, hc⟩ : ∃ c : Nat, t.n = c := ⟨t.n.toNat, by omega⟩
    have hT : termL t = dgL c := by unfold termL; rw [if_neg (by rw [hv]; decide), hc]; rfl
    refine WP.skip ?_
    refine WP.seq ?_
    refine WP.region ?_
    refine Ops.y (v := .pointer (some ⟨_, _, none⟩)) (Y.fa fa_109_1 rfl) ?_
    refine Ops.y (v := .int .i64 _) (Y.loadv ty_3 rfl (I.rdbox 0 rfl 1 1) rfl rfl) ?_
    refine Ops.go (O.callv I Tryz.call24 (hc ▸ Itoa_ok _ I.base_ok c (by omega)) rfl ?_)
    intro w I
    refine Ops.y (v := .string _) (Y.assign rfl) ?_
    refine Ops.nil ?_
    refine WP.ret ?_
    repeat (first | refine thenE_ret ?_ | refine blockE_ret ?_)
    exact retQ.mk (vs := [.string _]) rfl ⟨rfl, trivial⟩ I.ext_of (by rw [hT]; rfl)
theorem args_size {ts : List Trm} (h : ∀ t ∈ ts, termOk t = true) : ∀ x ∈ (ts.map termL), x.length = 1 := fun x hx => by
  obtain ⟨t, ht, rfl⟩ := List.mem_map.1 hx
  obtain ⟨c, hc, _⟩ := termL_one (h t ht)
  rw [hc]; rfl
theorem join_len {sep : Bs} {n : Nat} : ∀ {l : List Bs}, (∀ x ∈ l, x.length ≤ n) → (joinT sep l).length ≤ l.length * (n + sep.length)
  | [], _ => by simp [joinT]
  | [x], h => by
    have := h x (by simp)
    simp [joinT]; omega
  | x :: y :: r, h => by
    have ih := join_len (sep := sep) (l := y :: r) fun z hz => h z (List.mem_cons_of_mem _ hz)
    have := h x (by simp)
    rw [joinT]
    simp only [List.length_append, List.length_cons, Nat.add_mul, Nat.one_mul] at ih ⊢
    omega
theorem mk_size (a : Bs) : (mk a).size = a.length := (tx_len (mk a)).symm
theorem atomL_len {l : List Prd} {a : Atm} (ao : AOk l a) : (atomL l a).length ≤ (predOf l a.pred).name.size + 8 := by
  have hl := ao.len
  have hj := join_len (sep := [44]) (n := 1) (l := a.args.xs.map termL) fun x hx => Nat.le_of_eq (args_size (fun t ht => AOk.termOk ao ht) x hx)
  unfold atomL argsL
  rw [List.length_append, tx_len]
  split
  · simp
  · simp only [List.length_append, List.length_cons, List.length_nil, List.length_map] at hj ⊢
    omega
set_option maxHeartbeats 4000000 in
theorem TAtom_ok (B : Base) (hB : B.ok) (l : Sl Prd) (hl : Prds l B.h) (a : Atm) (ha : a.In B.h) (ao : AOk l.xs a) (hnm : (predOf l.xs a.pred).name.size ≤ 140737488355328) : Fn Tryz.prog 25 [l.val, a.val] B (fun v _ => v = .string (mk (atomL l.xs a))) := by
  have h2 := ao.len
  have Ep := hl.el.el (predOf_get ao.pred.1 ao.pred.2)
  refine Fn.of Tryz.func25 rfl Tryz.ntmps25 (by kernel_rfl) (by simp) ?_
  intro e
  have I := Inv.start hB
  refine WP.seq ?_
  refine WP.region ?_
  refine Ops.go (O.box (v := .agg #[_, _]) I rfl rfl ?_)
  intro b3 w I
  refine Ops.y (v := .string _) (Y.assign rfl) ?_
  refine Ops.nil ?_
  refine WP.seq ?_
  refine WP.region ?_
  refine Ops.y (v := .slice _ _ _) (Y.move rfl) ?_
  refine Ops.y (v := .pointer (some ⟨_, _, none⟩)) (Y.fa0 fa_61_0 rfl) ?_
  refine Ops.y (v := .int .i64 _) (Y.loadv ty_3 rfl (I.rdbox 0 rfl 0 1) rfl rfl) ?_
  refine Ops.y (v := .pointer (some ⟨_, _, none⟩)) (Y.idxEl Ep Tryz.underlying22 Tryz.sizeOf53 rfl rfl ao.pred.1 rfl) ?_
  refine Ops.y (v := .pointer (some ⟨_, _, none⟩)) (Y.fa0 fa_53_0 rfl) ?_
  refine Ops.y (v := .string _) (Y.loadv ty_9 rfl (I.rd (Ep.rd.part 0 1)) rfl rfl) ?_
  refine Ops.y (v := .string _) (Y.assign rfl) ?_
  refine Ops.nil ?_
  refine WP.seq ?_
  refine WP.seq ?_
  refine WP.region ?_
  refine Ops.y (v := .pointer (some ⟨_, _, none⟩)) (Y.fa fa_61_1 rfl) ?_
  refine Ops.y (v := .slice _ _ _) (Y.loadv ty_59 rfl (I.rdbox 0 rfl 1 1) rfl rfl) ?_
  refine Ops.y (v := .int .i64 _) (Y.lens Tryz.underlying59 rfl) ?_
  refine Ops.y (v := .bool (decide _)) (Y.eqi rfl rfl) ?_
  refine Ops.nil ?_
  refine WP.cond_dec rfl (fun h2 => ?_) (fun h2 => ?_)
  · have h0 : a.args.xs = [] := List.length_eq_zero_iff.1 (by omega)
    refine WP.seq ?_
    refine WP.region ?_
    refine Ops.y (v := .string _) (Y.move rfl) ?_
    refine Ops.y (v := .string _) (Y.assign rfl) ?_
    refine Ops.nil ?_
    refine WP.ret ?_
    repeat (first | refine thenE_ret ?_ | refine blockE_ret ?_)
    exact retQ.mk (vs := [.string _]) rfl ⟨rfl, trivial⟩ I.ext_of (by simp only [tup]; unfold atomL argsL; rw [if_pos h0, List.append_nil])
  have h0 : a.args.xs ≠ [] := fun e => h2 (by rw [e]; rfl)
  refine WP.skip ?_
  refine WP.seq ?_
  refine WP.region ?_
  refine Ops.y (v := .slice _ _ _) (Y.assign rfl) ?_
  refine Ops.nil ?_
  refine WP.seq ?_
  refine WP.seq ?_
  refine WP.region ?_
  refine Ops.y (v := .pointer (some ⟨_, _, none⟩)) (Y.fa fa_61_1 rfl) ?_
  refine Ops.y (v := .slice _ _ _) (Y.loadv ty_59 rfl (I.rdbox 0 rfl 1 1) rfl rfl) ?_
  refine Ops.y (v := .int .i64 _) (Y.lens Tryz.underlying59 rfl) ?_
  refine Ops.y (v := .int .i64 _) (Y.move rfl) ?_
  refine Ops.nil ?_
  refine WP.block ?_
  refine WP.loopE (σ := Nat × Option Addr × Nat × Heap) (fun s => [(3, .pointer (some ⟨b3, 0, none⟩)), (5, .string (predOf l.xs a.pred).name), (6, .slice s.2.1 s.1 s.2.2.1), (21, a.args.val), (22, .int .i64 a.args.xs.length), (23, .int .i64 s.1)])
    (fun s w => Inv B s.2.2.2 [ownSl 9 1 (.slice s.2.1 s.1 s.2.2.1) s.1 (((a.args.xs.take s.1).map fun t => mk (termL t)).flatMap sEn), box b3 a.enc 61] w ∧ s.1 ≤ a.args.xs.length ∧ B.h.le s.2.2.2) (fun s => a.args.xs.length - s.1)
    ⟨(0, none, 0, B.h), ⟨rfl, rfl, rfl, rfl, rfl, rfl, trivial⟩, I.nilSl 9 1, Nat.zero_le _, Heap.le.refl _⟩ ?_
  rintro ⟨k, q, c, hh⟩ e w ⟨I, hk, gl⟩
  dsimp only at I hk gl ⊢
  refine WP.seq ?_
  refine WP.region ?_
  refine Ops.y (v := .bool (decide _)) (Y.lti rfl rfl) ?_
  refine Ops.nil ?_
  refine WP.seq ?_
  refine WP.cond_dec rfl (fun h6 => ?_) (fun h6 => ?_)
  · have hk' : k < a.args.xs.length := by omega
    have E := Sl.Is.at (Atm.In.le ha gl) hk'
    have ht := AOk.termOk ao (List.getElem_mem hk')
    obtain ⟨t, hte⟩ : ∃ t, a.args.xs[k] = t := ⟨_, rfl⟩
    have hnx : a.args.xs.take (k + 1) = a.args.xs.take k ++ [t] := by rw [List.take_add_one, List.getElem?_eq_getElem hk', hte]; rfl
    rw [hte] at E ht
    refine WP.skip ?_
    refine WP.seq ?_
    refine WP.block ?_
    refine WP.seq ?_
    refine WP.region ?_
    refine Ops.y (v := .pointer (some ⟨_, _, none⟩)) (Y.idxEl E Tryz.underlying59 Tryz.sizeOf109 rfl rfl (Int.natCast_nonneg _) rfl) ?_
    refine Ops.y (v := .agg #[_, _]) (Y.loadv ty_109 rfl (I.rd (E.rd.part 0 2)) rfl rfl) ?_
    refine Ops.go (O.alloc I Tryz.zeroValue109 rfl ?_)
    intro b8 w I
    refine Ops.go (O.store (v := .agg #[_, _]) I ty_109 0 rfl rfl rfl rfl rfl rfl (Nat.le_of_ble_eq_true rfl) rfl ?_)
    intro w I
    refine Ops.nil ?_
    refine WP.region ?_
    refine Ops.y (v := .slice _ _ _) (Y.move rfl) ?_
    refine Ops.y (v := .agg #[_, _]) (Y.loadv ty_109 rfl (I.rdbox 0 rfl 0 2) rfl rfl) ?_
    refine Ops.go (O.callv I Tryz.call65 (tTerm_ok _ I.base_ok t ht) rfl ?_)
    intro w I
    refine Ops.go (O.mksl (xs := [mk (termL t)]) (enc := sEn) I Tryz.underlying66 Tryz.sizeOf9 Tryz.zeroValue9 rfl (Nat.le_of_ble_eq_true rfl) rfl rfl (by decide) (fun _ => rfl) ?_)
    intro b30 h30 w I le30 sl30
    refine Ops.go (O.append I Tryz.underlying66 et_9 1 rfl rfl rfl (I.rd (sl30 0 _ rfl).2) rfl rfl (by decide) (by omega) (by omega) ?_)
    intro b31 c31 w I
    refine Ops.y (v := .slice _ _ _) (Y.assign rfl) ?_
    refine Ops.nil ?_
    refine WP.region ?_
    refine Ops.y (v := .int .i64 _) (Y.addi rfl rfl ⟨by omega, by omega⟩) ?_
    refine Ops.y (v := .int .i64 _) (Y.move rfl) ?_
    refine Ops.nil ?_
    refine ⟨(k + 1, some ⟨b31, 0, none⟩, c31, h30), ⟨⟨rfl, rfl, rfl, rfl, rfl, rfl, trivial⟩, ?_, by dsimp only; omega, gl.trans le30⟩, by dsimp only; omega⟩
    dsimp only
    rw [hnx, List.map_append, List.flatMap_append]
    exact I.drop
  obtain rfl : k = a.args.xs.length := by omega
  rw [List.take_length] at I
  have hcap := ownSl_cap (I.at 0 rfl)
  obtain ⟨h10, s, le10, hv, hx, is, J⟩ := I.settleSl (fun _ => rfl) (by simp)
  clear I
  obtain ⟨sa, sc, sx⟩ := s
  dsimp only at hx
  subst hx
  have hv' := hv
  unfold Sl.val at hv'
  dsimp only at hv'
  injection hv' with e1 e2 e3
  subst e1; subst e3
  have I := J
  have hlen : (a.args.xs.map fun t => mk (termL t)).map tx = a.args.xs.map termL := by rw [List.map_map]; rfl
  have hj := join_len (sep := [44]) (n := 1) (l := a.args.xs.map termL) fun x hx => Nat.le_of_eq (args_size (fun t ht => AOk.termOk ao ht) x hx)
  simp only [List.length_map, List.length_cons, List.length_nil] at hj
  have hjo := SJoin_ok ⟨w, h10⟩ I.base_ok ⟨sa, sc, a.args.xs.map fun t => mk (termL t)⟩ ⟨is, by simp; omega⟩ (by simpa using hcap) ⟨#[44]⟩ (by rw [hlen]; show (joinT [44] _).length ≤ _; omega)
  rw [hlen] at hjo
  unfold Sl.val at hjo
  simp only [List.length_map] at hjo
  have z1 : ((predOf l.xs a.pred).name ++ ⟨#[40]⟩ : ByteArray).size = (predOf l.xs a.pred).name.size + 1 := by rw [ByteArray.size_append]; rfl
  have z2 : (mk (joinT (tx ⟨#[44]⟩) (a.args.xs.map termL))).size ≤ 4 := by rw [mk_size]; show (joinT [44] _).length ≤ _; omega
  refine WP.exit ?_
  refine WP.seq ?_
  refine WP.region ?_
  refine Ops.y (v := .string _) (Y.move rfl) ?_
  refine Ops.y (v := .string _) (Y.adds rfl rfl (by show _ + 1 ≤ _; omega)) ?_
  refine Ops.y (v := .slice _ _ _) (Y.move rfl) ?_
  refine Ops.go (O.callv I Tryz.call26 (hjo) rfl ?_)
  intro w I
  refine Ops.y (v := .string _) (Y.adds rfl rfl (by omega)) ?_
  refine Ops.y (v := .string _) (Y.adds rfl rfl (by rw [ByteArray.size_append]; show _ + _ + 1 ≤ _; omega)) ?_
  refine Ops.y (v := .string _) (Y.assign rfl) ?_
  refine Ops.nil ?_
  refine WP.ret ?_
  repeat (first | refine thenE_ret ?_ | refine blockE_ret ?_)
  exact retQ.mk (vs := [.string _]) rfl ⟨rfl, trivial⟩ I.ext_of (by simp only [tup]; unfold atomL argsL; rw [if_neg h0]; refine congrArg Value.string (tx_inj.1 ?_); rw [tx_app, tx_app, tx_app, List.append_assoc, List.append_assoc])
end Go.TF
end
section
/- uses: the iterator; its contract. -/
namespace Go.TF
open Go Go.RowKit Go.Proofs
set_option maxRecDepth 20000

/-- A program as it lies in a box that is never written again. -/
def PBox (h : Heap) (b : Nat) (p : Prg) : Prop := h b = some (.cells [p.preds.val, p.rules.val].toArray 25 (0, 0))
theorem uses_ok (B : Base) (hB : B.ok) (p : Prg) : Fn Tryz.prog 120 [p.val] B (fun v h' => ∃ b, v = .func (.func 162) #[] #[.pointer (some ⟨b, 0, none⟩)] ∧ PBox h' b p) := by
  refine Fn.of Tryz.func120 rfl Tryz.ntmps120 (by kernel_rfl) (by simp) ?_
  intro e
  have I := Inv.start hB
  refine WP.seq ?_
  refine WP.region ?_
  refine Ops.go (O.box (v := .agg #[_, _]) I rfl rfl ?_)
  intro b1 w I
  refine Ops.y (v := .nilFunc) (Y.assign rfl) ?_
  refine Ops.nil ?_
  refine WP.seq ?_
  refine WP.region ?_
  refine Ops.y (v := .func _ _ _) (Y.mkfunc rfl rfl) ?_
  refine Ops.y (v := .func _ _ _) (Y.assign rfl) ?_
  refine Ops.nil ?_
  have hb0 := I.at 0 rfl
  obtain ⟨h1, le1, hb, I⟩ := I.settle
  refine WP.ret ?_
  repeat (first | refine thenE_ret ?_ | refine blockE_ret ?_)
  exact retQ.mk (vs := [.func _ _ _]) rfl ⟨rfl, trivial⟩ I.ext_of (⟨b1, rfl, (hb b1 (by simp [box])).trans hb0⟩)
theorem usesL_take {rs : List Rul} {n : Nat} (hn : n < rs.length) : usesL (rs.take (n + 1)) = usesL (rs.take n) ++ rs[n].body.xs.map fun x => (rs[n].head.pred, x) := by
  rw [List.take_succ_eq_append_getElem hn]
  unfold usesL
  rw [List.flatMap_append]
  simp only [List.flatMap_cons, List.flatMap_nil, List.append_nil]
theorem usesL_split (rs : List Rul) (n : Nat) : usesL rs = usesL (rs.take n) ++ usesL (rs.drop n) := by
  have := congrArg usesL (List.take_append_drop n rs)
  unfold usesL at this ⊢
  rw [List.flatMap_append] at this
  exact this.symm
theorem usesL_get {rs : List Rul} {n : Nat} (hn : n < rs.length) {k : Nat} (hk : k < rs[n].body.xs.length) : (usesL rs)[(usesL (rs.take n)).length + k]? = some (rs[n].head.pred, rs[n].body.xs[k]) := by
  rw [usesL_split rs (n + 1), usesL_take hn, List.append_assoc, List.getElem?_append_right (by omega), List.getElem?_append_left (by simp; omega)]
  simp [hk]
def cEnc (c : Int × Ltl) : List Value := [.int .i64 c.1, c.2.val]
set_option maxHeartbeats 2000000 in
theorem uses1_iter (p : Prg) (bp : Nat) (h : Heap) (hb : PBox h bp p) (hr : Ruls p.rules h) : Iter Tryz.prog 162 [.pointer (some ⟨bp, 0, none⟩)] cEnc (usesL p.rules.xs) h := by
  intro l J Jx hg W hle j0 hok hext hround
  have hsm := hr.is.small
  refine Calls.ofWP (args := [.func (.yield l) #[] #[], .pointer (some ⟨bp, 0, none⟩)]) Tryz.func162 rfl Tryz.ntmps162 (by kernel_rfl) (by simp) ?_
  intro e
  have I := Inv.start (hok _ _ _ j0)
  refine WP.seq ?_
  refine WP.region ?_
  refine Ops.y (v := .pointer (some ⟨_, _, none⟩)) (Y.fa fa_25_1 rfl) ?_
  refine Ops.y (v := .slice _ _ _) (Y.loadv ty_23 rfl (I.rd ((rdHb hb 1 1).le hle)) rfl rfl) ?_
  refine Ops.y (v := .int .i64 _) (Y.lens Tryz.underlying23 rfl) ?_
  refine Ops.y (v := .int .i64 _) (Y.move rfl) ?_
  refine Ops.nil ?_
  refine WP.block ?_
  refine WP.loopE (σ := Nat) (fun n => [(0, .func (.yield l) #[] #[]), (1, .pointer (some ⟨bp, 0, none⟩)), (8, p.rules.val), (9, .int .i64 p.rules.xs.length), (10, .int .i64 n)])
    (fun n w => n ≤ p.rules.xs.length ∧ ∃ h1, hg.le h1 ∧ J h1 (usesL (p.rules.xs.take n)).length w) (fun n => p.rules.xs.length - n)
    ⟨0, ⟨rfl, rfl, rfl, rfl, rfl, trivial⟩, Nat.zero_le _, hg, Heap.le.refl _, j0⟩ ?_
  rintro n e w ⟨hn, h1, gl1, j1⟩
  have I := Inv.start (hok _ _ _ j1)
  refine WP.seq ?_
  refine WP.region ?_
  refine Ops.y (v := .bool (decide _)) (Y.lti rfl rfl) ?_
  refine Ops.nil ?_
  refine WP.seq ?_
  refine WP.cond_dec rfl (fun hc => ?_) (fun hc => ?_)
  · have hn' : n < p.rules.xs.length := by omega
    have E1 := (hr.is.le (hle.trans gl1)).at hn'
    have hbd := (hr.each _ (List.getElem_mem hn')).body.le (hle.trans gl1)
    have hbs := hbd.is.small
    refine WP.skip ?_
    refine WP.seq ?_
    refine WP.block ?_
    refine WP.seq ?_
    refine WP.region ?_
    refine Ops.y (v := .pointer (some ⟨_, _, none⟩)) (Y.idxEl E1 Tryz.underlying23 Tryz.sizeOf64 rfl rfl (Int.natCast_nonneg _) rfl) ?_
    refine Ops.y (v := .agg #[_, _, _, _, _]) (Y.loadv ty_64 rfl (I.rd (E1.rd.part 0 5)) rfl rfl) ?_
    refine Ops.go (O.alloc I Tryz.zeroValue64 rfl ?_)
    intro b4 w I
    refine Ops.go (O.store (v := .agg #[_, _, _, _, _]) I ty_64 0 rfl rfl rfl rfl rfl rfl (Nat.le_of_ble_eq_true rfl) rfl ?_)
    intro w I
    refine Ops.nil ?_
    refine WP.seq ?_
    refine WP.region ?_
    refine Ops.y (v := .pointer (some ⟨_, _, none⟩)) (Y.fa fa_64_3 rfl) ?_
    refine Ops.y (v := .slice _ _ _) (Y.loadv ty_62 rfl (I.rdbox 0 rfl 4 1) rfl rfl) ?_
    refine Ops.y (v := .int .i64 _) (Y.lens Tryz.underlying62 rfl) ?_
    refine Ops.y (v := .int .i64 _) (Y.move rfl) ?_
    refine Ops.nil ?_
    have hb4 := I.at 0 rfl
    obtain ⟨h2, le2, hh4, I⟩ := I.settle
    have hb4 := (hh4 b4 (by simp [box])).trans hb4
    refine WP.block ?_
    refine WP.loopE (σ := Nat) (fun k => [(0, .func (.yield l) #[] #[]), (1, .pointer (some ⟨bp, 0, none⟩)), (8, p.rules.val), (9, .int .i64 p.rules.xs.length), (10, .int .i64 n), (4, .pointer (some ⟨b4, 0, none⟩)), (15, p.rules.xs[n].body.val), (16, .int .i64 p.rules.xs[n].body.xs.length), (17, .int .i64 k)])
      (fun k w => k ≤ p.rules.xs[n].body.xs.length ∧ ∃ h3, h2.le h3 ∧ J h3 ((usesL (p.rules.xs.take n)).length + k) w) (fun k => p.rules.xs[n].body.xs.length - k)
      ⟨0, ⟨rfl, rfl, rfl, rfl, rfl, rfl, rfl, rfl, rfl, trivial⟩, Nat.zero_le _, h2, Heap.le.refl _, hext _ _ _ _ _ j1 I⟩ ?_
    rintro k e w ⟨hk, h3, gl3, j3⟩
    have I := Inv.start (hok _ _ _ j3)
    refine WP.seq ?_
    refine WP.region ?_
    refine Ops.y (v := .bool (decide _)) (Y.lti rfl rfl) ?_
    refine Ops.nil ?_
    refine WP.seq ?_
    refine WP.cond_dec rfl (fun hd => ?_) (fun hd => ?_)
    · have hk' : k < p.rules.xs[n].body.xs.length := by omega
      have E2 := (hbd.is.le (le2.trans gl3)).at hk'
      refine WP.skip ?_
      refine WP.seq ?_
      refine WP.block ?_
      refine WP.seq ?_
      refine WP.region ?_
      refine Ops.y (v := .pointer (some ⟨_, _, none⟩)) (Y.idxEl E2 Tryz.underlying62 Tryz.sizeOf68 rfl rfl (Int.natCast_nonneg _) rfl) ?_
      refine Ops.y (v := .agg #[_, _, _]) (Y.loadv ty_68 rfl (I.rd (E2.rd.part 0 3)) rfl rfl) ?_
      refine Ops.go (O.alloc I Tryz.zeroValue68 rfl ?_)
      intro b6 w I
      refine Ops.go (O.store (v := .agg #[_, _, _]) I ty_68 0 rfl rfl rfl rfl rfl rfl (Nat.le_of_ble_eq_true rfl) rfl ?_)
      intro w I
      refine Ops.nil ?_
      refine WP.seq ?_
      refine WP.regionX (by kernel_rfl) ?_
      refine OpsX.y (v := .func _ _ _) (Y.move rfl) ?_
      refine OpsX.y (v := .pointer (some ⟨_, _, none⟩)) (Y.fa0 fa_64_0 rfl) ?_
      refine OpsX.y (v := .pointer (some ⟨_, _, none⟩)) (Y.fa0 fa_61_0 rfl) ?_
      refine OpsX.y (v := .int .i64 _) (Y.loadv ty_3 rfl (I.rd ((rdHb hb4 0 1).le gl3)) rfl rfl) ?_
      refine OpsX.y (v := .agg #[_, _, _]) (Y.loadv ty_68 rfl (I.rdbox 0 rfl 0 3) rfl rfl) ?_
      refine OpsX.yield rfl rfl (hround h3 _ _ _ (gl1.trans (le2.trans gl3)) (usesL_get hn' hk') (hext _ _ _ _ _ j3 I.ext_of)) ?_
      rintro ed w (⟨rfl, h4, gl4, j4⟩ | ⟨rfl, jx⟩)
      · refine ⟨_, rfl, ?_⟩
        refine OpsX.y (v := .bool _) (Y.not rfl) ?_
        refine OpsX.nil ?_
        refine WP.cond_f rfl ?_
        refine WP.skip ?_
        refine WP.region ?_
        refine Ops.y (v := .int .i64 _) (Y.addi rfl rfl ⟨by omega, by omega⟩) ?_
        refine Ops.y (v := .int .i64 _) (Y.move rfl) ?_
        refine Ops.nil ?_
        exact ⟨k + 1, ⟨⟨rfl, rfl, rfl, rfl, rfl, rfl, rfl, rfl, rfl, trivial⟩, by omega, h4, gl3.trans gl4, j4⟩, by omega⟩
      · refine ⟨_, rfl, ?_⟩
        refine OpsX.y (v := .bool _) (Y.not rfl) ?_
        refine OpsX.nil ?_
        refine WP.cond_t rfl ?_
        refine WP.ret ?_
        repeat (first | refine thenE_ret ?_ | refine blockE_ret ?_)
        exact ⟨.inl rfl, [], trivial, ⟨_, rfl⟩, .inr jx⟩
    refine WP.exit ?_
    refine WP.region ?_
    refine Ops.y (v := .int .i64 _) (Y.addi rfl rfl ⟨by omega, by omega⟩) ?_
    refine Ops.y (v := .int .i64 _) (Y.move rfl) ?_
    refine Ops.nil ?_
    have hk2 : k = p.rules.xs[n].body.xs.length := by omega
    exact ⟨n + 1, ⟨⟨rfl, rfl, rfl, rfl, rfl, trivial⟩, by omega, h3, gl1.trans (le2.trans gl3), by rw [usesL_take hn', List.length_append, List.length_map, ← hk2]; exact j3⟩, by omega⟩
  refine WP.exit ?_
  have hn2 : n = p.rules.xs.length := by omega
  rw [hn2, List.take_length] at j1
  exact ⟨.inr rfl, [], trivial, ⟨_, rfl⟩, .inl ⟨h1, gl1, j1⟩⟩
end Go.TF
end
section
/- Levels: the strata, raised from 0 until all hold. -/
namespace Go.TF
open Go Go.RowKit Go.Proofs
set_option maxRecDepth 20000

@[reducible] def iEnc (n : Int) : List Value := [.int .i64 n]
@[reducible] def vI (n : Int) : Value := .int .i64 n
@[reducible] def vB (n : Bool) : Value := .bool n
/-- What Levels and strata hand back. -/
def LevP (cs : List (Int × Ltl)) (n : Nat) (v : Value) (h : Heap) : Prop :=
  (∃ s : Sl Int, StrataR cs n (some s.xs) ∧ s.Is 1 iEnc h ∧ v = .tuple #[s.val, .bool true]) ∨ (StrataR cs n none ∧ v = .tuple #[.slice none 0 0, .bool false])
theorem boxIs {b : Nat} {L : List Int} {T : TypeId} {h : Heap} {c : Nat} (hb : h b = some (.cells (L.map vI).toArray T (0, 0))) (hs : L.length ≤ 140737488355328) : (⟨some ⟨b, 0, none⟩, c, L⟩ : Sl Int).Is 1 iEnc h :=
  ⟨fun i x hx => ⟨rfl, fun j v hv => by
    cases j with
    | zero => simp at hv; subst hv; simp only [Heap.cell, Sl.blk, Sl.off, Option.getD_some, hb]; simp [hx]
    | succ j => simp at hv⟩, hs⟩
theorem lv_some {L : List Int} {n : Nat} (hl : L.length = n) {i : Int} (h0 : 0 ≤ i) (h1 : i < n) : L[i.toNat]? = some (lv L i) := by
  have : i.toNat < L.length := by omega
  simp [lv, List.getD_eq_getElem?_getD, this]
structure LevS where
  bo : Nat
  b4 : Nat
  L : List Int
  ms : List Nat
def LevU (s : LevS) (b3 b2 b1 : Nat) (p : Prg) (L : List Int) : List SA := [box s.b4 [.slice (some ⟨s.bo, 0, none⟩) p.preds.xs.length p.preds.xs.length] 78, box s.bo (L.map vI) 3, box b3 [.bool false] 4, box b2 [.slice none 0 0] 78, box b1 p.enc 25]
structure LevJ (B : Base) (b3 b2 b1 : Nat) (p : Prg) (cs : List (Int × Ltl)) (s : LevS) (w : World) : Prop where
  inv : ∃ h1, B.h.le h1 ∧ Inv B h1 (LevU s b3 b2 b1 p s.L ++ s.ms.map markSA) w
  good : Good cs p.preds.xs.length s.L
  lt : ∀ i : Int, 0 ≤ i → i < p.preds.xs.length → lv s.L i < p.preds.xs.length
def LevJx (cs : List (Int × Ltl)) (n : Nat) (L : List Int) (j : Jmp) (L' : List Int) : Prop :=
  match j with
  | .ret => L' = L ∧ StrataR cs n none
  | .goto t => t = 0 ∧ ∃ c ∈ cs, L' = L.set c.1.toNat (lst L c) ∧ lv L c.1 < lst L c ∧ lst L c < n
  | .exit _ => False
set_option maxHeartbeats 4000000 in
theorem Levels_ok (B : Base) (hB : B.ok) (p : Prg) (hp : p.In B.h) (hr : InR (usesL p.rules.xs) p.preds.xs.length) (hn5 : p.preds.xs.length ≤ 5) : Fn Tryz.prog 62 [p.val] B (fun v h => LevP (usesL p.rules.xs) p.preds.xs.length v h) := by
  refine Fn.ofD Tryz.func62 rfl Tryz.ntmps62 (by kernel_rfl) (by simp) ?_
  intro e
  have I := Inv.start hB
  refine WPD.seq ?_
  refine WPD.region ?_
  refine Ops.go (O.box (v := .agg #[_, _]) I rfl rfl ?_)
  intro b1 w I
  refine Ops.go (O.alloc I Tryz.zeroValue78 rfl ?_)
  intro b2 w I
  refine Ops.go (O.alloc I Tryz.zeroValue4 rfl ?_)
  intro b3 w I
  refine Ops.nil ?_
  refine WPD.scopeL (σ := LevS) 0 (fun s => [(1, .pointer (some ⟨b1, 0, none⟩)), (2, .pointer (some ⟨b2, 0, none⟩)), (3, .pointer (some ⟨b3, 0, none⟩)), (4, .pointer (some ⟨s.b4, 0, none⟩))]) (fun s => s.ms.map mark)
    (LevJ B b3 b2 b1 p (usesL p.rules.xs)) (fun s => pot p.preds.xs.length s.L) rfl (by kernel_rfl) ?_ ?_
  · refine WPD.region ?_
    refine Ops.y (v := .pointer (some ⟨_, _, none⟩)) (Y.fa0 fa_25_0 rfl) ?_
    refine Ops.y (v := .slice _ _ _) (Y.loadv ty_22 rfl (I.rdbox 2 rfl 0 1) rfl rfl) ?_
    refine Ops.y (v := .int .i64 _) (Y.lens Tryz.underlying22 rfl) ?_
    refine Ops.go (O.make1 (n := p.preds.xs.length) (zc := (vI 0)) I Tryz.underlying78 et_3 rfl rfl rfl (by omega) (by omega) ?_)
    intro b11 w I
    refine Ops.go (O.alloc I Tryz.zeroValue78 rfl ?_)
    intro b4 w I
    refine Ops.go (O.store (v := .slice _ _ _) I ty_78 0 rfl rfl rfl rfl rfl rfl (Nat.le_of_ble_eq_true rfl) rfl ?_)
    intro w I
    refine Ops.nil ?_
    refine ⟨⟨b11, b4, List.replicate p.preds.xs.length 0, []⟩, ⟨rfl, rfl, rfl, rfl, trivial⟩, rfl, ⟨⟨B.h, Heap.le.refl _, ?_⟩, Good.zero _ _, fun i h0 h1 => by rw [lv_zero]; omega⟩⟩
    simp only [List.map_nil, List.append_nil, LevU, List.map_replicate]
    exact I
  · rintro ⟨bo, b4, L, ms⟩ e w ⟨⟨h1, gl1, I⟩, g, hlt⟩
    dsimp only at I g hlt ⊢
    refine WPD.seq ?_
    refine WPD.seq ?_
    refine WPD.region ?_
    refine Ops.y (v := .agg #[_, _]) (Y.loadv ty_25 rfl (I.rdbox 4 rfl 0 2) rfl rfl) ?_
    refine Ops.go (O.call I Tryz.call120 (uses_ok _ I.base_ok p) rfl ?_)
    rintro _ h2 w I le2 ⟨bp, rfl, hbp⟩
    refine Ops.nil ?_
    refine WPD.block ?_
    refine WPD.rangeFunc (σ := List Int) (LevU ⟨bo, b4, L, ms⟩ b3 b2 b1 p) (fun k L' => L' = L ∧ ∀ j, j < k → ∀ c, (usesL p.rules.xs)[j]? = some c → SatC L c) (LevJx (usesL p.rules.xs) p.preds.xs.length L) L I ⟨rfl, fun j hj => by omega⟩ rfl Tryz.call162
      (uses1_iter p bp h2 hbp (hp.rules.le (gl1.trans le2))) (fun _ => rfl) (by kernel_rfl) (by kernel_rfl) (by kernel_rfl) ?_ ?_ ?_
    · rintro l r ms' hg k c L' W hx gl I ⟨hL, hsat⟩
      obtain rfl : L = L' := hL.symm
      have hc := List.mem_of_getElem? hx
      have hh := hr.h c hc
      have hb := hr.b c hc
      have hlb := hlt _ hb.1 hb.2
      have hpb := g.pos c.2.atom.pred
      have hng := ng_le c.2
      have hlst : lst L c = lv L c.2.atom.pred + ng c.2 := rfl
      refine WPI.seq ?_
      refine WPI.region (by kernel_rfl) ?_
      refine Ops.y (v := .int .i64 _) (Y.assign rfl) ?_
      refine Ops.nil ?_
      refine WPI.region (by kernel_rfl) ?_
      refine Ops.go (O.alloc I Tryz.zeroValue68 rfl ?_)
      intro b6 w I
      refine Ops.go (O.store (v := .agg #[_, _, _]) I ty_68 0 rfl rfl rfl rfl rfl rfl (Nat.le_of_ble_eq_true rfl) rfl ?_)
      intro w I
      refine Ops.nil ?_
      refine ⟨hg, [box b6 c.2.enc 68], Heap.le.refl _, I, fun r' W2 I => ?_⟩
      refine WPI.block ?_
      refine WPI.seq ?_
      refine WPI.region (by kernel_rfl) ?_
      refine Ops.y (v := .slice _ _ _) (Y.loadv ty_78 rfl (I.rdbox 1 rfl 0 1) rfl rfl) ?_
      refine Ops.y (v := .pointer (some ⟨_, _, none⟩)) (Y.fa fa_68_1 rfl) ?_
      refine Ops.y (v := .pointer (some ⟨_, _, none⟩)) (Y.fa0 fa_61_0 rfl) ?_
      refine Ops.y (v := .int .i64 _) (Y.loadv ty_3 rfl (I.rdbox 0 rfl 1 1) rfl rfl) ?_
      refine Ops.y (v := .pointer (some ⟨_, _, none⟩)) (Y.idx Tryz.underlying78 Tryz.sizeOf3 rfl rfl hb.1 hb.2) ?_
      refine Ops.y (v := .int .i64 _) (Y.loadv ty_3 rfl (I.rdL 2 rfl (by omega) (lv_some g.len hb.1 hb.2)) rfl rfl) ?_
      refine Ops.y (v := .int .i64 _) (Y.assign rfl) ?_
      refine Ops.nil ?_
      refine WPI.seq ?_
      refine WPI.cutL (σ := Unit) (fun _ => [(1, .pointer (some ⟨b1, 0, none⟩)), (2, .pointer (some ⟨b2, 0, none⟩)), (3, .pointer (some ⟨b3, 0, none⟩)), (4, .pointer (some ⟨b4, 0, none⟩)), (5, .int .i64 c.1), (6, .pointer (some ⟨b6, 0, none⟩)), (7, .int .i64 (lst L c))])
        (fun _ w => Inv B hg ([box b6 c.2.enc 68] ++ (LevU ⟨bo, b4, L, ms⟩ b3 b2 b1 p L ++ (loopSA l r' :: ms'.map markSA))) w) ?_ ?_
      · refine WPI.seq ?_
        refine WPI.region (by kernel_rfl) ?_
        refine Ops.y (v := .pointer (some ⟨_, _, none⟩)) (Y.fa0 fa_68_0 rfl) ?_
        refine Ops.y (v := .bool _) (Y.loadv ty_4 rfl (I.rdbox 0 rfl 0 1) rfl rfl) ?_
        refine Ops.nil ?_
        refine WPI.cond rfl (fun hneg => ?_) (fun hneg => ?_)
        · refine WPI.region (by kernel_rfl) ?_
          refine Ops.y (v := .int .i64 _) (Y.move rfl) ?_
          refine Ops.y (v := .int .i64 _) (Y.addi rfl rfl ⟨by omega, by omega⟩) ?_
          refine Ops.y (v := .int .i64 _) (Y.assign rfl) ?_
          refine Ops.nil ?_
          exact ⟨(), ⟨rfl, rfl, rfl, rfl, rfl, rfl, by simp only [lst, ng, hneg]; rfl, trivial⟩, I⟩
        · refine WPI.skip ?_
          exact ⟨(), ⟨rfl, rfl, rfl, rfl, rfl, rfl, by simp only [lst, ng, hneg, Bool.false_eq_true, if_false, Int.add_zero]; rfl, trivial⟩, I⟩
      rintro _ e W2 I
      refine WPI.seq ?_
      refine WPI.seq ?_
      refine WPI.region (by kernel_rfl) ?_
      refine Ops.y (v := .int .i64 _) (Y.move rfl) ?_
      refine Ops.y (v := .slice _ _ _) (Y.loadv ty_78 rfl (I.rdbox 1 rfl 0 1) rfl rfl) ?_
      refine Ops.y (v := .int .i64 _) (Y.move rfl) ?_
      refine Ops.y (v := .pointer (some ⟨_, _, none⟩)) (Y.idx Tryz.underlying78 Tryz.sizeOf3 rfl rfl hh.1 hh.2) ?_
      refine Ops.y (v := .int .i64 _) (Y.loadv ty_3 rfl (I.rdL 2 rfl (by omega) (lv_some g.len hh.1 hh.2)) rfl rfl) ?_
      refine Ops.y (v := .bool (decide _)) (Y.lei rfl rfl) ?_
      refine Ops.nil ?_
      refine WPI.cond_dec rfl (fun h8 => ?_) (fun h8 => ?_)
      · refine WPI.exit ?_
        exact ⟨hg, L, [box b6 c.2.enc 68], Heap.le.refl _, I, rfl, fun j hj c' hc' => by
          rcases Nat.lt_succ_iff_lt_or_eq.1 hj with h' | rfl
          · exact hsat j h' c' hc'
          · rw [hx] at hc'; cases hc'; exact h8⟩
      refine WPI.skip ?_
      refine WPI.seq ?_
      refine WPI.seq ?_
      refine WPI.region (by kernel_rfl) ?_
      refine Ops.y (v := .int .i64 _) (Y.move rfl) ?_
      refine Ops.y (v := .pointer (some ⟨_, _, none⟩)) (Y.fa0 fa_25_0 rfl) ?_
      refine Ops.y (v := .slice _ _ _) (Y.loadv ty_22 rfl (I.rdbox 5 rfl 0 1) rfl rfl) ?_
      refine Ops.y (v := .int .i64 _) (Y.lens Tryz.underlying22 rfl) ?_
      refine Ops.y (v := .bool (decide _)) (Y.gei rfl rfl) ?_
      refine Ops.nil ?_
      refine WPI.cond_dec rfl (fun h9 => ?_) (fun h9 => ?_)
      · refine WPI.seq ?_
        refine WPI.region (by kernel_rfl) ?_
        refine Ops.go (O.store (v := .slice _ _ _) I ty_78 4 rfl rfl rfl rfl rfl rfl (Nat.le_of_ble_eq_true rfl) rfl ?_)
        intro w I
        refine Ops.go (O.store (v := .bool _) I ty_4 3 rfl rfl rfl rfl rfl rfl (Nat.le_of_ble_eq_true rfl) rfl ?_)
        intro w I
        refine Ops.nil ?_
        refine WPI.ret ?_
        repeat (first | refine thenE_ret ?_ | refine blockE_ret ?_)
        exact ⟨hg, L, [box b6 c.2.enc 68], Heap.le.refl _, I, rfl, g.fail hr hc h9⟩
      refine WPI.skip ?_
      refine WPI.seq ?_
      refine WPI.region (by kernel_rfl) ?_
      refine Ops.y (v := .slice _ _ _) (Y.loadv ty_78 rfl (I.rdbox 1 rfl 0 1) rfl rfl) ?_
      refine Ops.y (v := .int .i64 _) (Y.move rfl) ?_
      refine Ops.y (v := .int .i64 _) (Y.move rfl) ?_
      refine Ops.y (v := .pointer (some ⟨_, _, none⟩)) (Y.idx Tryz.underlying78 Tryz.sizeOf3 rfl rfl hh.1 hh.2) ?_
      refine Ops.go (O.store1 I ty_3 2 rfl rfl (i := c.1.toNat) (by omega) (by rw [g.len]; omega) rfl rfl rfl ?_)
      intro w I
      refine Ops.nil ?_
      refine WPI.goto ?_
      exact ⟨hg, L.set c.1.toNat (lst L c), [box b6 c.2.enc 68], Heap.le.refl _, I, rfl, c, hc, rfl, by omega, by omega⟩
    · rintro D h3 L' W gl I ⟨hL, hsat⟩
      obtain rfl : L = L' := hL.symm
      refine WPD.seq ?_
      refine WPD.region ?_
      refine Ops.y (v := .slice _ _ _) (Y.loadv ty_78 rfl (I.rdbox 0 rfl 0 1) rfl rfl) ?_
      refine Ops.go (O.store (v := .slice _ _ _) I ty_78 3 rfl rfl rfl rfl rfl rfl (Nat.le_of_ble_eq_true rfl) rfl ?_)
      intro w I
      refine Ops.go (O.store (v := .bool _) I ty_4 2 rfl rfl rfl rfl rfl rfl (Nat.le_of_ble_eq_true rfl) rfl ?_)
      intro w I
      refine Ops.nil ?_
      refine WPD.ret ?_
      repeat (first | refine thenD_ret ?_ | refine blockD_ret ?_)
      have hbo := I.at 1 rfl
      obtain ⟨h4, le4, hb4, I⟩ := (I.front 1 rfl).settle
      have hs : ∀ c ∈ usesL p.rules.xs, SatC L c := fun c hc => by
        obtain ⟨j, hj, rfl⟩ := List.getElem_of_mem hc
        exact hsat j hj _ (List.getElem?_eq_getElem hj)
      show doneQ _ _ _ _ _ _ _ _
      exact ⟨.inl rfl, D :: ms, [box b4 [.slice (some ⟨bo, 0, none⟩) p.preds.xs.length p.preds.xs.length] 78, box b3 [.bool true] 4, box b2 [.slice (some ⟨bo, 0, none⟩) p.preds.xs.length p.preds.xs.length] 78, box b1 p.enc 25], h4,
        [.slice (some ⟨bo, 0, none⟩) p.preds.xs.length p.preds.xs.length, .bool true], rfl, I, fun w2 I2 => ⟨⟨b2, 0, 1, false, _, rfl, ty_78, I2.rdbox 2 rfl 0 1, rfl, rfl⟩, ⟨b3, 0, 1, false, _, rfl, ty_4, I2.rdbox 1 rfl 0 1, rfl, rfl⟩, trivial⟩,
        .inl ⟨⟨some ⟨bo, 0, none⟩, p.preds.xs.length, L⟩, g.done hs, boxIs ((hb4 bo (by simp [box])).trans hbo) (by rw [g.len]; omega), by simp [tup, Sl.val, g.len]⟩⟩
    · rintro D c h3 L' W gl I hx
      cases c with
      | ret =>
        obtain ⟨hL, hno⟩ := hx
        obtain rfl : L = L' := hL.symm
        refine blockD_ret (thenD_ret ?_)
        show doneQ _ _ _ _ _ _ _ _
        exact ⟨.inl rfl, D :: ms, LevU ⟨bo, b4, L, ms⟩ b3 b2 b1 p L, h3, [.slice none 0 0, .bool false], rfl, I, fun w2 I2 => ⟨⟨b2, 0, 1, false, _, rfl, ty_78, I2.rdbox 3 rfl 0 1, rfl, rfl⟩, ⟨b3, 0, 1, false, _, rfl, ty_4, I2.rdbox 2 rfl 0 1, rfl, rfl⟩, trivial⟩, .inr ⟨hno, rfl⟩⟩
      | goto t =>
        obtain ⟨rfl, c, hc, rfl, k1, k2⟩ := hx
        have hh := hr.h c hc
        exact (show (0 = 0 ∧ _) from ⟨rfl, ⟨bo, b4, L.set c.1.toNat (lst L c), D :: ms⟩, ⟨⟨rfl, rfl, rfl, rfl, trivial⟩, rfl, ⟨⟨h3, (gl1.trans le2).trans gl, I⟩, g.raise hr hc, fun i h0 h1 => by
          rw [lv_set hh.1 (by rw [g.len]; exact hh.2) _ _ h0]; split
          · exact k2
          · exact hlt i h0 h1⟩⟩, pot_set_lt hh.1 (by rw [g.len]; exact hh.2) k1 (hlt _ hh.1 hh.2)⟩)
      | exit id => exact hx.elim
end Go.TF
end
section
/- strata, of the document: the same strata. -/
namespace Go.TF
open Go Go.RowKit Go.Proofs
set_option maxRecDepth 20000

theorem usesL_take' {rs : List Rul} {m : Nat} (hm : m < rs.length) : usesL (rs.take (m + 1)) = usesL (rs.take m) ++ (rs[m].body.xs.take rs[m].body.xs.length).map fun x => (rs[m].head.pred, x) := by
  rw [List.take_length]; exact usesL_take hm
theorem usesL_mem {rs : List Rul} {m : Nat} (hm : m < rs.length) {k : Nat} (hk : k < rs[m].body.xs.length) : (rs[m].head.pred, rs[m].body.xs[k]) ∈ usesL rs := List.mem_of_getElem? (usesL_get hm hk)
theorem map_take {α β : Type} (f : α → β) {l : List α} {k : Nat} (hk : k < l.length) : (l.take (k + 1)).map f = (l.take k).map f ++ [f l[k]] := by
  rw [List.take_succ_eq_append_getElem hk, List.map_append]; rfl
set_option maxHeartbeats 4000000 in
theorem strata_ok (B : Base) (hB : B.ok) (p : Prg) (hp : p.In B.h) (hr : InR (usesL p.rules.xs) p.preds.xs.length) (hn5 : p.preds.xs.length ≤ 5) (hr8 : p.rules.xs.length ≤ 8) (hb3 : ∀ r ∈ p.rules.xs, r.body.xs.length ≤ 3) :
    Fn Tryz.prog 44 [p.val] B (fun v h => LevP (usesL p.rules.xs) p.preds.xs.length v h) := by
  obtain ⟨sq, hsq⟩ : ∃ sq : Int, sq = (p.preds.xs.length : Int) * p.preds.xs.length := ⟨_, rfl⟩
  have hsq0 : 0 ≤ sq ∧ sq ≤ 25 := by
    rw [hsq]
    have h5 : (p.preds.xs.length : Int) ≤ 5 := by omega
    exact ⟨Int.mul_nonneg (by omega) (by omega), by have := Int.mul_le_mul h5 h5 (by omega) (by omega); omega⟩
  have hsqN : ((p.preds.xs.length * p.preds.xs.length : Nat) : Int) = sq := by rw [hsq]; exact Int.natCast_mul _ _
  refine Fn.of Tryz.func44 rfl Tryz.ntmps44 (by kernel_rfl) (by simp) ?_
  intro e
  have I := Inv.start hB
  refine WP.seq ?_
  refine WP.region ?_
  refine Ops.go (O.box (v := .agg #[_, _]) I rfl rfl ?_)
  intro b1 w I
  refine Ops.y (v := .slice _ _ _) (Y.assign rfl) ?_
  refine Ops.y (v := .bool _) (Y.assign rfl) ?_
  refine Ops.nil ?_
  refine WP.seq ?_
  refine WP.region ?_
  refine Ops.y (v := .pointer (some ⟨_, _, none⟩)) (Y.fa0 fa_25_0 rfl) ?_
  refine Ops.y (v := .slice _ _ _) (Y.loadv ty_22 rfl (I.rdbox 0 rfl 0 1) rfl rfl) ?_
  refine Ops.y (v := .int .i64 _) (Y.lens Tryz.underlying22 rfl) ?_
  refine Ops.go (O.make1 (n := p.preds.xs.length) (zc := (vI 0)) I Tryz.underlying78 et_3 rfl rfl rfl (by omega) (by omega) ?_)
  intro b14 w I
  refine Ops.y (v := .slice _ _ _) (Y.assign rfl) ?_
  refine Ops.nil ?_
  refine WP.seq ?_
  refine WP.seq ?_
  refine WP.region ?_
  refine Ops.y (v := .int .i64 _) (Y.assign rfl) ?_
  refine Ops.nil ?_
  rw [← List.map_replicate (f := vI)] at I
  refine WP.block ?_
  refine WP.loopE (σ := Nat × List Int) (fun s => [(1, .pointer (some ⟨b1, 0, none⟩)), (2, .slice none 0 0), (3, .bool false), (4, .slice (some ⟨b14, 0, none⟩) p.preds.xs.length p.preds.xs.length), (5, .int .i64 s.1)])
    (fun s w => Inv B B.h [box b14 (s.2.map vI) 3, box b1 p.enc 25] w ∧ Good (usesL p.rules.xs) p.preds.xs.length s.2 ∧ (∀ i, lv s.2 i ≤ 24 * s.1) ∧ ((∃ M, Sol (usesL p.rules.xs) p.preds.xs.length M) → pot p.preds.xs.length s.2 + s.1 ≤ p.preds.xs.length * p.preds.xs.length) ∧ s.1 ≤ sq + 2)
    (fun s => (sq + 3 - s.1).toNat) ⟨(0, List.replicate p.preds.xs.length 0), ⟨rfl, rfl, rfl, rfl, rfl, trivial⟩, I, Good.zero _ _, fun i => by rw [lv_zero]; omega, fun _ => by rw [pot_zero]; omega, by omega⟩ ?_
  rintro ⟨rd, L⟩ e w ⟨I, g, hbd, hpot, hrd⟩
  dsimp only at I g hbd hpot hrd ⊢
  refine WP.seq ?_
  refine WP.seq ?_
  refine WP.region ?_
  refine Ops.y (v := .int .i64 _) (Y.move rfl) ?_
  refine Ops.y (v := .pointer (some ⟨_, _, none⟩)) (Y.fa0 fa_25_0 rfl) ?_
  refine Ops.y (v := .slice _ _ _) (Y.loadv ty_22 rfl (I.rdbox 1 rfl 0 1) rfl rfl) ?_
  refine Ops.y (v := .int .i64 _) (Y.lens Tryz.underlying22 rfl) ?_
  refine Ops.y (v := .pointer (some ⟨_, _, none⟩)) (Y.fa0 fa_25_0 rfl) ?_
  refine Ops.y (v := .slice _ _ _) (Y.loadv ty_22 rfl (I.rdbox 1 rfl 0 1) rfl rfl) ?_
  refine Ops.y (v := .int .i64 _) (Y.lens Tryz.underlying22 rfl) ?_
  refine Ops.y (v := .int .i64 _) (Y.muli rfl rfl (by rw [← hsq]; exact ⟨by omega, by omega⟩)) ?_
  refine Ops.y (v := .int .i64 _) (Y.addi rfl rfl (by rw [← hsq]; exact ⟨by omega, by omega⟩)) ?_
  refine Ops.y (v := .bool (decide _)) (Y.lei rfl rfl) ?_
  refine Ops.nil ?_
  refine WP.cond_dec rfl (fun h3 => ?_) (fun h3 => ?_)
  · rw [← hsq] at h3
    refine WP.skip ?_
    refine WP.seq ?_
    refine WP.block ?_
    refine WP.seq ?_
    refine WP.region ?_
    refine Ops.y (v := .bool _) (Y.assign rfl) ?_
    refine Ops.nil ?_
    refine WP.seq ?_
    refine WP.seq ?_
    refine WP.region ?_
    refine Ops.y (v := .int .i64 _) (Y.assign rfl) ?_
    refine Ops.nil ?_
    refine WP.block ?_
    refine WP.loopE (σ := Nat × Bool × List Int) (fun s => [(1, .pointer (some ⟨b1, 0, none⟩)), (2, .slice none 0 0), (3, .bool false), (4, .slice (some ⟨b14, 0, none⟩) p.preds.xs.length p.preds.xs.length), (5, .int .i64 rd), (6, .bool s.2.1), (7, .int .i64 s.1)])
      (fun s w => Inv B B.h [box b14 (s.2.2.map vI) 3, box b1 p.enc 25] w ∧ s.1 ≤ p.rules.xs.length ∧ Pass (usesL p.rules.xs) p.preds.xs.length L s.2.1 s.2.2 (usesL (p.rules.xs.take s.1)) ∧ ∀ i, lv s.2.2 i ≤ 24 * rd + 3 * s.1)
      (fun s => p.rules.xs.length - s.1) ⟨(0, true, L), ⟨rfl, rfl, rfl, rfl, rfl, rfl, rfl, trivial⟩, I, Nat.zero_le _, Pass.start g, fun i => by have := hbd i; dsimp only; omega⟩ ?_
    rintro ⟨m, same, L1⟩ e w ⟨I, hm, pa, hb1⟩
    dsimp only at I hm pa hb1 ⊢
    refine WP.seq ?_
    refine WP.seq ?_
    refine WP.region ?_
    refine Ops.y (v := .int .i64 _) (Y.move rfl) ?_
    refine Ops.y (v := .pointer (some ⟨_, _, none⟩)) (Y.fa fa_25_1 rfl) ?_
    refine Ops.y (v := .slice _ _ _) (Y.loadv ty_23 rfl (I.rdbox 1 rfl 1 1) rfl rfl) ?_
    refine Ops.y (v := .int .i64 _) (Y.lens Tryz.underlying23 rfl) ?_
    refine Ops.y (v := .bool (decide _)) (Y.lti rfl rfl) ?_
    refine Ops.nil ?_
    refine WP.cond_dec rfl (fun h7 => ?_) (fun h7 => ?_)
    · have hm' : m < p.rules.xs.length := by omega
      have E1 := hp.rules.is.at hm'
      have hbd2 := (hp.rules.each _ (List.getElem_mem hm')).body
      have hb3' := hb3 _ (List.getElem_mem hm')
      refine WP.skip ?_
      refine WP.seq ?_
      refine WP.block ?_
      refine WP.seq ?_
      refine WP.region ?_
      refine Ops.y (v := .pointer (some ⟨_, _, none⟩)) (Y.fa fa_25_1 rfl) ?_
      refine Ops.y (v := .slice _ _ _) (Y.loadv ty_23 rfl (I.rdbox 1 rfl 1 1) rfl rfl) ?_
      refine Ops.y (v := .int .i64 _) (Y.move rfl) ?_
      refine Ops.y (v := .pointer (some ⟨_, _, none⟩)) (Y.idxEl E1 Tryz.underlying23 Tryz.sizeOf64 rfl rfl (Int.natCast_nonneg _) rfl) ?_
      refine Ops.y (v := .agg #[_, _, _, _, _]) (Y.loadv ty_64 rfl (I.rd (E1.rd.part 0 5)) rfl rfl) ?_
      refine Ops.go (O.alloc I Tryz.zeroValue64 rfl ?_)
      intro b8 w I
      refine Ops.go (O.store (v := .agg #[_, _, _, _, _]) I ty_64 0 rfl rfl rfl rfl rfl rfl (Nat.le_of_ble_eq_true rfl) rfl ?_)
      intro w I
      refine Ops.nil ?_
      refine WP.seq ?_
      refine WP.region ?_
      refine Ops.y (v := .int .i64 _) (Y.assign rfl) ?_
      refine Ops.nil ?_
      refine WP.block ?_
      refine WP.loopE (σ := Nat × Bool × List Int) (fun s => [(1, .pointer (some ⟨b1, 0, none⟩)), (2, .slice none 0 0), (3, .bool false), (4, .slice (some ⟨b14, 0, none⟩) p.preds.xs.length p.preds.xs.length), (5, .int .i64 rd), (6, .bool s.2.1), (7, .int .i64 m), (8, .pointer (some ⟨b8, 0, none⟩)), (9, .int .i64 s.1)])
        (fun s w => Inv B B.h [box b8 p.rules.xs[m].enc 64, box b14 (s.2.2.map vI) 3, box b1 p.enc 25] w ∧ s.1 ≤ p.rules.xs[m].body.xs.length ∧ Pass (usesL p.rules.xs) p.preds.xs.length L s.2.1 s.2.2 (usesL (p.rules.xs.take m) ++ (p.rules.xs[m].body.xs.take s.1).map fun x => (p.rules.xs[m].head.pred, x)) ∧ ∀ i, lv s.2.2 i ≤ 24 * rd + 3 * m + s.1)
        (fun s => p.rules.xs[m].body.xs.length - s.1) ⟨(0, same, L1), ⟨rfl, rfl, rfl, rfl, rfl, rfl, rfl, rfl, rfl, trivial⟩, I, Nat.zero_le _, by simpa using pa, fun i => by have := hb1 i; dsimp only; omega⟩ ?_
      rintro ⟨k, same2, L2⟩ e w ⟨I, hk, pa2, hb2⟩
      dsimp only at I hk pa2 hb2 ⊢
      refine WP.seq ?_
      refine WP.seq ?_
      refine WP.region ?_
      refine Ops.y (v := .int .i64 _) (Y.move rfl) ?_
      refine Ops.y (v := .pointer (some ⟨_, _, none⟩)) (Y.fa fa_64_3 rfl) ?_
      refine Ops.y (v := .slice _ _ _) (Y.loadv ty_62 rfl (I.rdbox 0 rfl 4 1) rfl rfl) ?_
      refine Ops.y (v := .int .i64 _) (Y.lens Tryz.underlying62 rfl) ?_
      refine Ops.y (v := .bool (decide _)) (Y.lti rfl rfl) ?_
      refine Ops.nil ?_
      refine WP.cond_dec rfl (fun h11 => ?_) (fun h11 => ?_)
      · have hk' : k < p.rules.xs[m].body.xs.length := by omega
        have E2 := hbd2.is.at hk'
        have hmem := usesL_mem hm' hk'
        have hh := hr.h _ hmem
        have hb := hr.b _ hmem
        dsimp only at hh hb
        have g2 := pa2.good
        have hlb := hb2 p.rules.xs[m].body.xs[k].atom.pred
        have hpb := g2.pos p.rules.xs[m].body.xs[k].atom.pred
        have hng := ng_le p.rules.xs[m].body.xs[k]
        have hlst : lst L2 (p.rules.xs[m].head.pred, p.rules.xs[m].body.xs[k]) = lv L2 p.rules.xs[m].body.xs[k].atom.pred + ng p.rules.xs[m].body.xs[k] := rfl
        refine WP.skip ?_
        refine WP.seq ?_
        refine WP.block ?_
        refine WP.seq ?_
        refine WP.region ?_
        refine Ops.y (v := .slice _ _ _) (Y.move rfl) ?_
        refine Ops.y (v := .pointer (some ⟨_, _, none⟩)) (Y.fa fa_64_3 rfl) ?_
        refine Ops.y (v := .slice _ _ _) (Y.loadv ty_62 rfl (I.rdbox 0 rfl 4 1) rfl rfl) ?_
        refine Ops.y (v := .int .i64 _) (Y.move rfl) ?_
        refine Ops.y (v := .pointer (some ⟨_, _, none⟩)) (Y.idxEl E2 Tryz.underlying62 Tryz.sizeOf68 rfl rfl (Int.natCast_nonneg _) rfl) ?_
        refine Ops.y (v := .pointer (some ⟨_, _, none⟩)) (Y.fa fa_68_1 rfl) ?_
        refine Ops.y (v := .pointer (some ⟨_, _, none⟩)) (Y.fa0 fa_61_0 rfl) ?_
        refine Ops.y (v := .int .i64 _) (Y.loadv ty_3 rfl (I.rd (E2.rd.part 1 1)) rfl rfl) ?_
        refine Ops.y (v := .pointer (some ⟨_, _, none⟩)) (Y.idx Tryz.underlying78 Tryz.sizeOf3 rfl rfl hb.1 hb.2) ?_
        refine Ops.y (v := .int .i64 _) (Y.loadv ty_3 rfl (I.rdL 1 rfl (by omega) (lv_some g2.len hb.1 hb.2)) rfl rfl) ?_
        refine Ops.y (v := .int .i64 _) (Y.assign rfl) ?_
        refine Ops.nil ?_
        refine WP.seq ?_
        refine WP.cutL (σ := Unit) (fun _ => [(1, .pointer (some ⟨b1, 0, none⟩)), (2, .slice none 0 0), (3, .bool false), (4, .slice (some ⟨b14, 0, none⟩) p.preds.xs.length p.preds.xs.length), (5, .int .i64 rd), (6, .bool same2), (7, .int .i64 m), (8, .pointer (some ⟨b8, 0, none⟩)), (9, .int .i64 k), (10, .int .i64 (lst L2 (p.rules.xs[m].head.pred, p.rules.xs[m].body.xs[k])))])
          (fun _ w => Inv B B.h [box b8 p.rules.xs[m].enc 64, box b14 (L2.map vI) 3, box b1 p.enc 25] w) ?_ ?_
        · refine WP.seq ?_
          refine WP.region ?_
          refine Ops.y (v := .pointer (some ⟨_, _, none⟩)) (Y.fa fa_64_3 rfl) ?_
          refine Ops.y (v := .slice _ _ _) (Y.loadv ty_62 rfl (I.rdbox 0 rfl 4 1) rfl rfl) ?_
          refine Ops.y (v := .int .i64 _) (Y.move rfl) ?_
          refine Ops.y (v := .pointer (some ⟨_, _, none⟩)) (Y.idxEl E2 Tryz.underlying62 Tryz.sizeOf68 rfl rfl (Int.natCast_nonneg _) rfl) ?_
          refine Ops.y (v := .pointer (some ⟨_, _, none⟩)) (Y.fa0 fa_68_0 rfl) ?_
          refine Ops.y (v := .bool _) (Y.loadv ty_4 rfl (I.rd (E2.rd.part 0 1)) rfl rfl) ?_
          refine Ops.nil ?_
          refine WP.cond rfl (fun hneg => ?_) (fun hneg => ?_)
          · refine WP.region ?_
            refine Ops.y (v := .int .i64 _) (Y.move rfl) ?_
            refine Ops.y (v := .int .i64 _) (Y.addi rfl rfl ⟨by omega, by omega⟩) ?_
            refine Ops.y (v := .int .i64 _) (Y.assign rfl) ?_
            refine Ops.nil ?_
            exact ⟨(), ⟨rfl, rfl, rfl, rfl, rfl, rfl, rfl, rfl, rfl, by simp only [lst, ng, hneg]; rfl, trivial⟩, I⟩
          · refine WP.skip ?_
            exact ⟨(), ⟨rfl, rfl, rfl, rfl, rfl, rfl, rfl, rfl, rfl, by simp only [lst, ng, hneg, Bool.false_eq_true, if_false, Int.add_zero]; rfl, trivial⟩, I⟩
        rintro _ e w I
        refine WP.seq ?_
        refine WP.region ?_
        refine Ops.y (v := .slice _ _ _) (Y.move rfl) ?_
        refine Ops.y (v := .pointer (some ⟨_, _, none⟩)) (Y.fa0 fa_64_0 rfl) ?_
        refine Ops.y (v := .pointer (some ⟨_, _, none⟩)) (Y.fa0 fa_61_0 rfl) ?_
        refine Ops.y (v := .int .i64 _) (Y.loadv ty_3 rfl (I.rdbox 0 rfl 0 1) rfl rfl) ?_
        refine Ops.y (v := .pointer (some ⟨_, _, none⟩)) (Y.idx Tryz.underlying78 Tryz.sizeOf3 rfl rfl hh.1 hh.2) ?_
        refine Ops.y (v := .int .i64 _) (Y.loadv ty_3 rfl (I.rdL 1 rfl (by omega) (lv_some g2.len hh.1 hh.2)) rfl rfl) ?_
        refine Ops.y (v := .int .i64 _) (Y.move rfl) ?_
        refine Ops.y (v := .bool (decide _)) (Y.lti rfl rfl) ?_
        refine Ops.nil ?_
        refine WP.cond_dec rfl (fun h16 => ?_) (fun h16 => ?_)
        · refine WP.seq ?_
          refine WP.region ?_
          refine Ops.y (v := .slice _ _ _) (Y.move rfl) ?_
          refine Ops.y (v := .pointer (some ⟨_, _, none⟩)) (Y.fa0 fa_64_0 rfl) ?_
          refine Ops.y (v := .pointer (some ⟨_, _, none⟩)) (Y.fa0 fa_61_0 rfl) ?_
          refine Ops.y (v := .int .i64 _) (Y.loadv ty_3 rfl (I.rdbox 0 rfl 0 1) rfl rfl) ?_
          refine Ops.y (v := .int .i64 _) (Y.move rfl) ?_
          refine Ops.y (v := .pointer (some ⟨_, _, none⟩)) (Y.idx Tryz.underlying78 Tryz.sizeOf3 rfl rfl hh.1 hh.2) ?_
          refine Ops.go (O.store1 I ty_3 1 rfl rfl (i := p.rules.xs[m].head.pred.toNat) (by omega) (by rw [g2.len]; omega) rfl rfl rfl ?_)
          intro w I
          refine Ops.nil ?_
          refine WP.region ?_
          refine Ops.y (v := .bool _) (Y.assign rfl) ?_
          refine Ops.nil ?_
          refine WP.region ?_
          refine Ops.y (v := .int .i64 _) (Y.move rfl) ?_
          refine Ops.y (v := .int .i64 _) (Y.addi rfl rfl ⟨by omega, by omega⟩) ?_
          refine Ops.y (v := .int .i64 _) (Y.assign rfl) ?_
          refine Ops.nil ?_
          exact ⟨(k + 1, false, L2.set p.rules.xs[m].head.pred.toNat (lst L2 (p.rules.xs[m].head.pred, p.rules.xs[m].body.xs[k]))), ⟨⟨rfl, rfl, rfl, rfl, rfl, rfl, rfl, rfl, rfl, trivial⟩, I, hk', by rw [map_take _ hk', ← List.append_assoc]; exact pa2.raise hr hmem h16, fun i => by have := bound_raise hr g2.len hb2 hmem i; dsimp only at this ⊢; omega⟩, by dsimp only; omega⟩
        · refine WP.skip ?_
          refine WP.region ?_
          refine Ops.y (v := .int .i64 _) (Y.move rfl) ?_
          refine Ops.y (v := .int .i64 _) (Y.addi rfl rfl ⟨by omega, by omega⟩) ?_
          refine Ops.y (v := .int .i64 _) (Y.assign rfl) ?_
          refine Ops.nil ?_
          exact ⟨(k + 1, same2, L2), ⟨⟨rfl, rfl, rfl, rfl, rfl, rfl, rfl, rfl, rfl, trivial⟩, I, hk', by rw [map_take _ hk', ← List.append_assoc]; exact pa2.keep h16, fun i => by have := hb2 i; dsimp only at this ⊢; omega⟩, by dsimp only; omega⟩
      · refine WP.exit ?_
        refine WP.region ?_
        refine Ops.y (v := .int .i64 _) (Y.move rfl) ?_
        refine Ops.y (v := .int .i64 _) (Y.addi rfl rfl ⟨by omega, by omega⟩) ?_
        refine Ops.y (v := .int .i64 _) (Y.assign rfl) ?_
        refine Ops.nil ?_
        have hke : k = p.rules.xs[m].body.xs.length := by omega
        exact ⟨(m + 1, same2, L2), ⟨⟨rfl, rfl, rfl, rfl, rfl, rfl, rfl, trivial⟩, I.drop, hm', by rw [usesL_take' hm', ← hke]; exact pa2, fun i => by have := hb2 i; dsimp only at this ⊢; omega⟩, by dsimp only; omega⟩
    · have hme : m = p.rules.xs.length := by omega
      rw [hme, List.take_length] at pa
      refine WP.exit ?_
      refine WP.seq ?_
      refine WP.region ?_
      refine Ops.y (v := .bool _) (Y.move rfl) ?_
      refine Ops.nil ?_
      refine WP.cond rfl (fun hs => ?_) (fun hs => ?_)
      · refine WP.seq ?_
        refine WP.region ?_
        refine Ops.y (v := .slice _ _ _) (Y.move rfl) ?_
        refine Ops.y (v := .slice _ _ _) (Y.assign rfl) ?_
        refine Ops.y (v := .bool _) (Y.assign rfl) ?_
        refine Ops.nil ?_
        obtain ⟨hL, hsat⟩ := pa.t hs
        have hbo := I.at 0 rfl
        obtain ⟨h4, le4, hb4, I⟩ := I.settle
        refine WP.ret ?_
        repeat (first | refine thenE_ret ?_ | refine blockE_ret ?_)
        exact retQ.mk (vs := [.slice _ _ _, .bool _]) rfl ⟨rfl, rfl, trivial⟩ I.ext_of (.inl ⟨⟨some ⟨b14, 0, none⟩, p.preds.xs.length, L1⟩, pa.good.done (by rw [hL]; exact hsat), boxIs ((hb4 b14 (by simp [box])).trans hbo) (by rw [pa.good.len]; omega), by simp [tup, Sl.val, pa.good.len]⟩)
      · refine WP.skip ?_
        refine WP.region ?_
        refine Ops.y (v := .int .i64 _) (Y.move rfl) ?_
        refine Ops.y (v := .int .i64 _) (Y.addi rfl rfl ⟨by omega, by omega⟩) ?_
        refine Ops.y (v := .int .i64 _) (Y.assign rfl) ?_
        refine Ops.nil ?_
        refine ⟨(rd + 1, L1), ⟨⟨rfl, rfl, rfl, rfl, rfl, trivial⟩, I, pa.good, fun i => by have := hb1 i; dsimp only at this ⊢; omega, fun hsol => by have h5 := pa.f hs hsol; have h6 := hpot hsol; dsimp only; omega, by dsimp only; omega⟩, by dsimp only; omega⟩
  · rw [← hsq] at h3
    refine WP.exit ?_
    refine WP.seq ?_
    refine WP.region ?_
    refine Ops.y (v := .slice _ _ _) (Y.assign rfl) ?_
    refine Ops.y (v := .bool _) (Y.assign rfl) ?_
    refine Ops.nil ?_
    refine WP.ret ?_
    repeat (first | refine thenE_ret ?_ | refine blockE_ret ?_)
    exact retQ.mk (vs := [.slice _ _ _, .bool _]) rfl ⟨rfl, rfl, trivial⟩ I.ext_of (.inr ⟨fun M hM => by have := hpot ⟨M, hM⟩; omega, rfl⟩)
end Go.TF
end
section
/- The contracts of package lat and of the references beside it: each call returns what the plain functions compute. -/
namespace Go.TF
open Go Go.RowKit Go.Proofs
set_option maxHeartbeats 1000000
set_option maxRecDepth 10000

theorem within_ok (B : Base) (hB : B.ok) (n lo hi : Int) : Fn Tryz.prog 42 [.int .i64 n, .int .i64 lo, .int .i64 hi] B (fun v _ => v = .bool (decide (within n lo hi))) := by
  by_cases h1 : lo ≤ n
  · refine Fn.of Tryz.func42 rfl Tryz.ntmps42 (by kernel_rfl) (by simp) ?_
    intro e
    have I := Inv.start hB
    refine WP.seq ?_
    refine WP.region ?_
    refine Ops.y (v := .bool _) (Y.assign rfl) ?_
    refine Ops.nil ?_
    refine WP.seq ?_
    refine WP.region ?_
    refine Ops.y (v := .int .i64 _) (Y.move rfl) ?_
    refine Ops.y (v := .int .i64 _) (Y.move rfl) ?_
    refine Ops.y (v := .bool true) (Y.dec_t (Y.gei rfl rfl) (h1)) ?_
    refine Ops.y (v := .bool _) (Y.move rfl) ?_
    refine Ops.ygt rfl (v := .int .i64 _) (Y.move rfl) ?_
    refine Ops.ygt rfl (v := .int .i64 _) (Y.move rfl) ?_
    refine Ops.ygt rfl (v := .bool (decide _)) (Y.lei rfl rfl) ?_
    refine Ops.y (v := .bool _) (Y.pick_t rfl rfl) ?_
    refine Ops.y (v := .bool _) (Y.assign rfl) ?_
    refine Ops.nil ?_
    refine WP.ret ?_
    repeat (first | refine thenE_ret ?_ | refine blockE_ret ?_)
    exact retQ.mk (vs := [.bool _]) rfl ⟨rfl, trivial⟩ I.ext_of (by simp [tup, within, h1])
  · refine Fn.of Tryz.func42 rfl Tryz.ntmps42 (by kernel_rfl) (by simp) ?_
    intro e
    have I := Inv.start hB
    refine WP.seq ?_
    refine WP.region ?_
    refine Ops.y (v := .bool _) (Y.assign rfl) ?_
    refine Ops.nil ?_
    refine WP.seq ?_
    refine WP.region ?_
    refine Ops.y (v := .int .i64 _) (Y.move rfl) ?_
    refine Ops.y (v := .int .i64 _) (Y.move rfl) ?_
    refine Ops.y (v := .bool false) (Y.dec_f (Y.gei rfl rfl) (h1)) ?_
    refine Ops.y (v := .bool _) (Y.move rfl) ?_
    refine Ops.gf rfl ?_
    refine Ops.gf rfl ?_
    refine Ops.gf rfl ?_
    refine Ops.y (v := .bool _) (Y.pick_f rfl rfl) ?_
    refine Ops.y (v := .bool _) (Y.assign rfl) ?_
    refine Ops.nil ?_
    refine WP.ret ?_
    repeat (first | refine thenE_ret ?_ | refine blockE_ret ?_)
    exact retQ.mk (vs := [.bool _]) rfl ⟨rfl, trivial⟩ I.ext_of (by simp [tup, within, h1])
theorem Check_ok (B : Base) (hB : B.ok) (kind v : Int) : Fn Tryz.prog 156 [.int .i64 kind, .int .i64 v] B (fun r _ => r = .int .i64 (checkVal kind v)) := by
  refine Fn.of Tryz.func156 rfl Tryz.ntmps156 (by kernel_rfl) (by simp) ?_
  intro e
  have I := Inv.start hB
  refine WP.seq ?_
  refine WP.region ?_
  refine Ops.y (v := .int .i64 _) (Y.assign rfl) ?_
  refine Ops.nil ?_
  refine WP.seq ?_
  refine WP.region ?_
  refine Ops.y (v := .int .i64 _) (Y.assign rfl) ?_
  refine Ops.nil ?_
  refine WP.seq ?_
  refine WP.seq ?_
  refine WP.region ?_
  refine Ops.y (v := .int .i64 _) (Y.move rfl) ?_
  refine Ops.nil ?_
  refine WP.cutK (σ := Unit) (fun _ => [(1, .int .i64 v), (5, .int .i64 (if kind = 0 then 0 else 15))]) (fun _ w' => Inv B B.h [] w' ∧ 0 ≤ kind ∧ kind ≤ 3) ?_ ?_
  · refine WP.block ?_
    refine WP.seq ?_
    refine WP.region ?_
    refine Ops.y (v := .bool (decide _)) (Y.eqi rfl rfl) ?_
    refine Ops.y (v := .bool _) (Y.assign rfl) ?_
    refine Ops.nil ?_
    refine WP.cond_dec rfl (fun h0 => ?_) (fun h0 => ?_)
    · refine WP.region ?_
      refine Ops.y (v := .int .i64 _) (Y.assign rfl) ?_
      refine Ops.nil ?_
      exact ⟨(), ⟨rfl, by show Value.int .i64 0 = _; simp [h0], trivial⟩, I, by omega, by omega⟩
    have hz : (if kind = 0 then (0 : Int) else 15) = 15 := by simp [h0]
    refine WP.seq ?_
    refine WP.seq ?_
    refine WP.region ?_
    refine Ops.y (v := .bool (decide _)) (Y.eqi rfl rfl) ?_
    refine Ops.y (v := .bool _) (Y.assign rfl) ?_
    refine Ops.nil ?_
    refine WP.cond_dec rfl (fun h1 => ?_) (fun h1 => ?_)
    · refine WP.skip ?_
      refine WP.cond_decT rfl (h1) ?_
      refine WP.skip ?_
      exact ⟨(), ⟨rfl, by rw [hz]; rfl, trivial⟩, I, by omega, by omega⟩
    refine WP.seq ?_
    refine WP.region ?_
    refine Ops.y (v := .bool (decide _)) (Y.eqi rfl rfl) ?_
    refine Ops.y (v := .bool _) (Y.assign rfl) ?_
    refine Ops.nil ?_
    refine WP.cond_dec rfl (fun h2 => ?_) (fun h2 => ?_)
    · refine WP.skip ?_
      refine WP.cond_decT rfl (h2) ?_
      refine WP.skip ?_
      exact ⟨(), ⟨rfl, by rw [hz]; rfl, trivial⟩, I, by omega, by omega⟩
    refine WP.region ?_
    refine Ops.y (v := .bool (decide _)) (Y.eqi rfl rfl) ?_
    refine Ops.y (v := .bool _) (Y.assign rfl) ?_
    refine Ops.nil ?_
    refine WP.cond_dec rfl (fun h3 => ?_) (fun h3 => ?_)
    · refine WP.skip ?_
      exact ⟨(), ⟨rfl, by rw [hz]; rfl, trivial⟩, I, by omega, by omega⟩
    refine WP.seq ?_
    refine WP.region ?_
    refine Ops.y (v := .int .i64 _) (Y.assign rfl) ?_
    refine Ops.nil ?_
    refine WP.ret ?_
    repeat (first | refine thenE_ret ?_ | refine blockE_ret ?_)
    exact retQ.mk (vs := [.int .i64 _]) rfl ⟨rfl, trivial⟩ I.ext_of (by simp [tup, checkVal]; omega)
  rintro _ e w ⟨I, hk0, hk3⟩
  by_cases hv : v < 0
  · refine WP.seq ?_
    refine WP.seq ?_
    refine WP.region ?_
    refine Ops.y (v := .int .i64 _) (Y.move rfl) ?_
    refine Ops.y (v := .bool true) (Y.dec_t (Y.lti rfl rfl) (hv)) ?_
    refine Ops.y (v := .bool _) (Y.move rfl) ?_
    refine Ops.gf rfl ?_
    refine Ops.gf rfl ?_
    refine Ops.gf rfl ?_
    refine Ops.y (v := .bool _) (Y.pick_t rfl rfl) ?_
    refine Ops.nil ?_
    refine WP.cond_t rfl ?_
    refine WP.seq ?_
    refine WP.region ?_
    refine Ops.y (v := .int .i64 _) (Y.assign rfl) ?_
    refine Ops.nil ?_
    refine WP.ret ?_
    repeat (first | refine thenE_ret ?_ | refine blockE_ret ?_)
    exact retQ.mk (vs := [.int .i64 _]) rfl ⟨rfl, trivial⟩ I.ext_of (by simp [tup, checkVal]; omega)
  refine WP.seq ?_
  refine WP.seq ?_
  refine WP.region ?_
  refine Ops.y (v := .int .i64 _) (Y.move rfl) ?_
  refine Ops.y (v := .bool false) (Y.dec_f (Y.lti rfl rfl) (hv)) ?_
  refine Ops.y (v := .bool _) (Y.move rfl) ?_
  refine Ops.ygt rfl (v := .int .i64 _) (Y.move rfl) ?_
  refine Ops.ygt rfl (v := .int .i64 _) (Y.move rfl) ?_
  refine Ops.ygt rfl (v := .bool (decide _)) (Y.gti rfl rfl) ?_
  refine Ops.y (v := .bool _) (Y.pick_f rfl rfl) ?_
  refine Ops.nil ?_
  refine WP.cond_dec rfl (fun h2 => ?_) (fun h2 => ?_)
  · refine WP.seq ?_
    refine WP.region ?_
    refine Ops.y (v := .int .i64 _) (Y.assign rfl) ?_
    refine Ops.nil ?_
    refine WP.ret ?_
    repeat (first | refine thenE_ret ?_ | refine blockE_ret ?_)
    exact retQ.mk (vs := [.int .i64 _]) rfl ⟨rfl, trivial⟩ I.ext_of (by simp only [tup, checkVal]; split at h2 <;> simp <;> omega)
  refine WP.skip ?_
  refine WP.seq ?_
  refine WP.region ?_
  refine Ops.y (v := .int .i64 _) (Y.assign rfl) ?_
  refine Ops.nil ?_
  refine WP.ret ?_
  repeat (first | refine thenE_ret ?_ | refine blockE_ret ?_)
  exact retQ.mk (vs := [.int .i64 _]) rfl ⟨rfl, trivial⟩ I.ext_of (by simp only [tup, checkVal]; split at h2 <;> simp <;> omega)
theorem CheckVal_ok (B : Base) (hB : B.ok) (kind v : Int) : Fn Tryz.prog 159 [.int .i64 kind, .int .i64 v] B (fun r _ => r = .int .i64 (checkVal kind v)) := by
  refine Fn.of Tryz.func159 rfl Tryz.ntmps159 (by kernel_rfl) (by simp) ?_
  intro e
  have I := Inv.start hB
  refine WP.seq ?_
  refine WP.region ?_
  refine Ops.y (v := .int .i64 _) (Y.assign rfl) ?_
  refine Ops.nil ?_
  refine WP.seq ?_
  refine WP.seq ?_
  refine WP.region ?_
  refine Ops.y (v := .int .i64 _) (Y.move rfl) ?_
  refine Ops.go (O.callv I Tryz.call42 (within_ok _ I.base_ok _ _ _) rfl ?_)
  intro w I
  refine Ops.y (v := .bool (decide _)) (Y.notd rfl) ?_
  refine Ops.nil ?_
  refine WP.cond_dec rfl (fun h1 => ?_) (fun h1 => ?_)
  · refine WP.seq ?_
    refine WP.region ?_
    refine Ops.y (v := .int .i64 _) (Y.assign rfl) ?_
    refine Ops.nil ?_
    refine WP.ret ?_
    repeat (first | refine thenE_ret ?_ | refine blockE_ret ?_)
    exact retQ.mk (vs := [.int .i64 _]) rfl ⟨rfl, trivial⟩ I.ext_of (by simp only [tup, checkVal, within] at *; rw [if_pos (by omega)])
  simp only [within] at h1
  by_cases h2 : kind = 0
  · by_cases h3 : v = 0
    · refine WP.skip ?_
      refine WP.seq ?_
      refine WP.seq ?_
      refine WP.region ?_
      refine Ops.y (v := .int .i64 _) (Y.move rfl) ?_
      refine Ops.y (v := .bool true) (Y.dec_t (Y.eqi rfl rfl) (h2)) ?_
      refine Ops.y (v := .bool _) (Y.move rfl) ?_
      refine Ops.ygt rfl (v := .int .i64 _) (Y.move rfl) ?_
      refine Ops.ygt rfl (v := .bool false) (Y.dec_f (Y.nei rfl rfl) ((by simpa using h3))) ?_
      refine Ops.y (v := .bool _) (Y.pick_t rfl rfl) ?_
      refine Ops.y (v := .bool _) (Y.move rfl) ?_
      refine Ops.ygt rfl (v := .int .i64 _) (Y.move rfl) ?_
      refine Ops.gt rfl (O.callv I Tryz.call42 (within_ok _ I.base_ok _ _ _) rfl ?_)
      intro w I
      refine Ops.ygt rfl (v := .bool (decide _)) (Y.notd rfl) ?_
      refine Ops.y (v := .bool _) (Y.pick_f rfl rfl) ?_
      refine Ops.nil ?_
      refine WP.cond_dec rfl (fun h4 => ?_) (fun h4 => ?_)
      · refine WP.seq ?_
        refine WP.region ?_
        refine Ops.y (v := .int .i64 _) (Y.assign rfl) ?_
        refine Ops.nil ?_
        refine WP.ret ?_
        repeat (first | refine thenE_ret ?_ | refine blockE_ret ?_)
        exact retQ.mk (vs := [.int .i64 _]) rfl ⟨rfl, trivial⟩ I.ext_of (by simp only [tup, checkVal, within] at *; omega)
      refine WP.skip ?_
      refine WP.seq ?_
      refine WP.region ?_
      refine Ops.y (v := .int .i64 _) (Y.assign rfl) ?_
      refine Ops.nil ?_
      refine WP.ret ?_
      repeat (first | refine thenE_ret ?_ | refine blockE_ret ?_)
      exact retQ.mk (vs := [.int .i64 _]) rfl ⟨rfl, trivial⟩ I.ext_of (by simp only [tup, checkVal, within] at *; rw [if_neg (by omega), if_neg (by omega)])
    · refine WP.skip ?_
      refine WP.seq ?_
      refine WP.seq ?_
      refine WP.region ?_
      refine Ops.y (v := .int .i64 _) (Y.move rfl) ?_
      refine Ops.y (v := .bool true) (Y.dec_t (Y.eqi rfl rfl) (h2)) ?_
      refine Ops.y (v := .bool _) (Y.move rfl) ?_
      refine Ops.ygt rfl (v := .int .i64 _) (Y.move rfl) ?_
      refine Ops.ygt rfl (v := .bool true) (Y.dec_t (Y.nei rfl rfl) (h3)) ?_
      refine Ops.y (v := .bool _) (Y.pick_t rfl rfl) ?_
      refine Ops.y (v := .bool _) (Y.move rfl) ?_
      refine Ops.gf rfl ?_
      refine Ops.gf rfl ?_
      refine Ops.gf rfl ?_
      refine Ops.y (v := .bool _) (Y.pick_t rfl rfl) ?_
      refine Ops.nil ?_
      refine WP.cond_t rfl ?_
      refine WP.seq ?_
      refine WP.region ?_
      refine Ops.y (v := .int .i64 _) (Y.assign rfl) ?_
      refine Ops.nil ?_
      refine WP.ret ?_
      repeat (first | refine thenE_ret ?_ | refine blockE_ret ?_)
      exact retQ.mk (vs := [.int .i64 _]) rfl ⟨rfl, trivial⟩ I.ext_of (by simp only [tup, checkVal]; rw [if_neg (by omega), if_pos (by omega)])
  · refine WP.skip ?_
    refine WP.seq ?_
    refine WP.seq ?_
    refine WP.region ?_
    refine Ops.y (v := .int .i64 _) (Y.move rfl) ?_
    refine Ops.y (v := .bool false) (Y.dec_f (Y.eqi rfl rfl) (h2)) ?_
    refine Ops.y (v := .bool _) (Y.move rfl) ?_
    refine Ops.gf rfl ?_
    refine Ops.gf rfl ?_
    refine Ops.y (v := .bool _) (Y.pick_f rfl rfl) ?_
    refine Ops.y (v := .bool _) (Y.move rfl) ?_
    refine Ops.ygt rfl (v := .int .i64 _) (Y.move rfl) ?_
    refine Ops.gt rfl (O.callv I Tryz.call42 (within_ok _ I.base_ok _ _ _) rfl ?_)
    intro w I
    refine Ops.ygt rfl (v := .bool (decide _)) (Y.notd rfl) ?_
    refine Ops.y (v := .bool _) (Y.pick_f rfl rfl) ?_
    refine Ops.nil ?_
    refine WP.cond_dec rfl (fun h4 => ?_) (fun h4 => ?_)
    · refine WP.seq ?_
      refine WP.region ?_
      refine Ops.y (v := .int .i64 _) (Y.assign rfl) ?_
      refine Ops.nil ?_
      refine WP.ret ?_
      repeat (first | refine thenE_ret ?_ | refine blockE_ret ?_)
      exact retQ.mk (vs := [.int .i64 _]) rfl ⟨rfl, trivial⟩ I.ext_of (by simp only [tup, checkVal, within] at *; rw [if_neg (by omega), if_pos (by omega)])
    refine WP.skip ?_
    refine WP.seq ?_
    refine WP.region ?_
    refine Ops.y (v := .int .i64 _) (Y.assign rfl) ?_
    refine Ops.nil ?_
    refine WP.ret ?_
    repeat (first | refine thenE_ret ?_ | refine blockE_ret ?_)
    exact retQ.mk (vs := [.int .i64 _]) rfl ⟨rfl, trivial⟩ I.ext_of (by simp only [tup, checkVal, within] at *; rw [if_neg (by omega), if_neg (by omega)])
end Go.TF
end
section
/- Names; sameness of lists; predicates that programs are checked by. -/
namespace Go.TF
open Go Go.RowKit Go.Proofs
set_option maxRecDepth 20000

theorem bget {s : ByteArray} {k : Nat} (h : k < s.size) : s[((k : Int)).toNat]? = some (s[k]'h) := by simp [h]
theorem low_iff (b : UInt8) : lowB b = true ↔ 97 ≤ b.toNat ∧ b.toNat ≤ 122 := by simp [lowB]
theorem all_low {s : ByteArray} (h : ∀ j, ∀ hj : j < s.size, lowB (s[j]'hj) = true) : s.data.toList.all lowB = true := by
  rw [List.all_eq_true]
  intro b hb
  obtain ⟨j, hj, rfl⟩ := List.getElem_of_mem hb
  exact h j (by simpa using hj)
theorem not_low {s : ByteArray} {j : Nat} (hj : j < s.size) (h : lowB (s[j]'hj) ≠ true) : s.data.toList.all lowB = false := by
  rw [List.all_eq_false]
  exact ⟨s[j]'hj, List.mem_iff_getElem.2 ⟨j, by simpa using hj, rfl⟩, h⟩
theorem IsName_ok (B : Base) (hB : B.ok) (s : ByteArray) (hs : s.size ≤ 140737488355328) : Fn Tryz.prog 41 [.string s] B (fun v _ => v = .bool (isName s)) := by
  refine Fn.of Tryz.func41 rfl Tryz.ntmps41 (by kernel_rfl) (by simp) ?_
  intro e
  have I := Inv.start hB
  refine WP.seq ?_
  refine WP.region ?_
  refine Ops.y (v := .bool _) (Y.assign rfl) ?_
  refine Ops.nil ?_
  refine WP.seq ?_
  refine WP.seq ?_
  refine WP.region ?_
  refine Ops.y (v := .int .i64 _) (Y.assign rfl) ?_
  refine Ops.nil ?_
  refine WP.block ?_
  refine WP.loopE (σ := Nat) (fun k => [(0, .string s), (3, .int .i64 k)]) (fun k w => Inv B B.h [] w ∧ k ≤ s.size ∧ ∀ j, j < k → ∀ hj : j < s.size, lowB (s[j]'hj) = true) (fun k => s.size - k)
    ⟨0, ⟨rfl, rfl, trivial⟩, I, Nat.zero_le _, fun j hj => by omega⟩ ?_
  rintro k e w ⟨I, hk, hn⟩
  refine WP.seq ?_
  refine WP.seq ?_
  refine WP.region ?_
  refine Ops.y (v := .int .i64 _) (Y.move rfl) ?_
  refine Ops.y (v := .string _) (Y.move rfl) ?_
  refine Ops.y (v := .int .i64 _) (Y.lenstr Tryz.underlying9 rfl) ?_
  refine Ops.y (v := .bool (decide _)) (Y.lti rfl rfl) ?_
  refine Ops.nil ?_
  refine WP.cond_dec rfl (fun h => ?_) (fun h => ?_)
  · have hk' : k < s.size := by omega
    refine WP.skip ?_
    refine WP.seq ?_
    refine WP.block ?_
    refine WP.seq ?_
    by_cases o0 : ((s[k]'hk').toNat : Int) < 97
    · refine WP.region ?_
      refine Ops.y (v := .string _) (Y.move rfl) ?_
      refine Ops.y (v := .int .i64 _) (Y.move rfl) ?_
      refine Ops.y (v := .int .u8 _) (Y.idxs Tryz.underlying9 rfl rfl (Int.natCast_nonneg _) (bget hk')) ?_
      refine Ops.y (v := .bool true) (Y.dec_t (Y.lti rfl rfl) (o0)) ?_
      refine Ops.y (v := .bool _) (Y.move rfl) ?_
      refine Ops.gf rfl ?_
      refine Ops.gf rfl ?_
      refine Ops.gf rfl ?_
      refine Ops.gf rfl ?_
      refine Ops.y (v := .bool _) (Y.pick_t rfl rfl) ?_
      refine Ops.nil ?_
      refine WP.cond_t rfl ?_
      refine WP.seq ?_
      refine WP.region ?_
      refine Ops.y (v := .bool _) (Y.assign rfl) ?_
      refine Ops.nil ?_
      refine WP.ret ?_
      repeat (first | refine thenE_ret ?_ | refine blockE_ret ?_)
      exact retQ.mk (vs := [.bool _]) rfl ⟨rfl, trivial⟩ I.ext_of (by simp only [tup, isName]; rw [not_low hk' (fun hl => by have := (low_iff _).1 hl; omega), Bool.and_false])
    by_cases o1 : 122 < ((s[k]'hk').toNat : Int)
    · refine WP.region ?_
      refine Ops.y (v := .string _) (Y.move rfl) ?_
      refine Ops.y (v := .int .i64 _) (Y.move rfl) ?_
      refine Ops.y (v := .int .u8 _) (Y.idxs Tryz.underlying9 rfl rfl (Int.natCast_nonneg _) (bget hk')) ?_
      refine Ops.y (v := .bool false) (Y.dec_f (Y.lti rfl rfl) (o0)) ?_
      refine Ops.y (v := .bool _) (Y.move rfl) ?_
      refine Ops.ygt rfl (v := .string _) (Y.move rfl) ?_
      refine Ops.ygt rfl (v := .int .i64 _) (Y.move rfl) ?_
      refine Ops.ygt rfl (v := .int .u8 _) (Y.idxs Tryz.underlying9 rfl rfl (Int.natCast_nonneg _) (bget hk')) ?_
      refine Ops.ygt rfl (v := .bool true) (Y.dec_t (Y.gti rfl rfl) (o1)) ?_
      refine Ops.y (v := .bool _) (Y.pick_f rfl rfl) ?_
      refine Ops.nil ?_
      refine WP.cond_t rfl ?_
      refine WP.seq ?_
      refine WP.region ?_
      refine Ops.y (v := .bool _) (Y.assign rfl) ?_
      refine Ops.nil ?_
      refine WP.ret ?_
      repeat (first | refine thenE_ret ?_ | refine blockE_ret ?_)
      exact retQ.mk (vs := [.bool _]) rfl ⟨rfl, trivial⟩ I.ext_of (by simp only [tup, isName]; rw [not_low hk' (fun hl => by have := (low_iff _).1 hl; omega), Bool.and_false])
    refine WP.region ?_
    refine Ops.y (v := .string _) (Y.move rfl) ?_
    refine Ops.y (v := .int .i64 _) (Y.move rfl) ?_
    refine Ops.y (v := .int .u8 _) (Y.idxs Tryz.underlying9 rfl rfl (Int.natCast_nonneg _) (bget hk')) ?_
    refine Ops.y (v := .bool false) (Y.dec_f (Y.lti rfl rfl) (o0)) ?_
    refine Ops.y (v := .bool _) (Y.move rfl) ?_
    refine Ops.ygt rfl (v := .string _) (Y.move rfl) ?_
    refine Ops.ygt rfl (v := .int .i64 _) (Y.move rfl) ?_
    refine Ops.ygt rfl (v := .int .u8 _) (Y.idxs Tryz.underlying9 rfl rfl (Int.natCast_nonneg _) (bget hk')) ?_
    refine Ops.ygt rfl (v := .bool false) (Y.dec_f (Y.gti rfl rfl) (o1)) ?_
    refine Ops.y (v := .bool _) (Y.pick_f rfl rfl) ?_
    refine Ops.nil ?_
    refine WP.cond_f rfl ?_
    refine WP.skip ?_
    refine WP.region ?_
    refine Ops.y (v := .int .i64 _) (Y.move rfl) ?_
    refine Ops.y (v := .int .i64 _) (Y.addi rfl rfl ⟨by omega, by omega⟩) ?_
    refine Ops.y (v := .int .i64 _) (Y.assign rfl) ?_
    refine Ops.nil ?_
    exact ⟨k + 1, ⟨⟨rfl, rfl, trivial⟩, I, hk', fun j hj hj' => by
      rcases Nat.lt_succ_iff_lt_or_eq.1 hj with h' | rfl
      · exact hn j h' hj'
      · exact (low_iff _).2 (by omega)⟩, by omega⟩
  refine WP.exit ?_
  refine WP.seq ?_
  refine WP.region ?_
  refine Ops.y (v := .string _) (Y.move rfl) ?_
  refine Ops.y (v := .int .i64 _) (Y.lenstr Tryz.underlying9 rfl) ?_
  refine Ops.go (O.callv I Tryz.call42 (within_ok _ I.base_ok _ _ _) rfl ?_)
  intro w I
  refine Ops.y (v := .bool _) (Y.assign rfl) ?_
  refine Ops.nil ?_
  refine WP.ret ?_
  repeat (first | refine thenE_ret ?_ | refine blockE_ret ?_)
  exact retQ.mk (vs := [.bool _]) rfl ⟨rfl, trivial⟩ I.ext_of (by simp only [tup, isName, within]; rw [all_low (fun j hj => hn j (by omega) hj), Bool.and_true, ← Bool.decide_and]; congr 2; apply propext; omega)
theorem Name1_ok (B : Base) (hB : B.ok) (r : Int) : Fn Tryz.prog 116 [.int .i32 r] B (fun v _ => v = .bool (decide (r < 97 ∨ 122 < r))) := by
  by_cases h : r < 97
  · refine Fn.of Tryz.func116 rfl Tryz.ntmps116 (by kernel_rfl) (by simp) ?_
    intro e
    have I := Inv.start hB
    refine WP.seq ?_
    refine WP.region ?_
    refine Ops.y (v := .bool _) (Y.assign rfl) ?_
    refine Ops.nil ?_
    refine WP.seq ?_
    refine WP.region ?_
    refine Ops.y (v := .int .i32 _) (Y.move rfl) ?_
    refine Ops.y (v := .bool true) (Y.dec_t (Y.lti rfl rfl) (h)) ?_
    refine Ops.y (v := .bool _) (Y.move rfl) ?_
    refine Ops.gf rfl ?_
    refine Ops.gf rfl ?_
    refine Ops.y (v := .bool _) (Y.pick_t rfl rfl) ?_
    refine Ops.y (v := .bool _) (Y.assign rfl) ?_
    refine Ops.nil ?_
    refine WP.ret ?_
    repeat (first | refine thenE_ret ?_ | refine blockE_ret ?_)
    exact retQ.mk (vs := [.bool _]) rfl ⟨rfl, trivial⟩ I.ext_of (by simp only [tup]; rw [decide_eq_true (Or.inl h)])
  · refine Fn.of Tryz.func116 rfl Tryz.ntmps116 (by kernel_rfl) (by simp) ?_
    intro e
    have I := Inv.start hB
    refine WP.seq ?_
    refine WP.region ?_
    refine Ops.y (v := .bool _) (Y.assign rfl) ?_
    refine Ops.nil ?_
    refine WP.seq ?_
    refine WP.region ?_
    refine Ops.y (v := .int .i32 _) (Y.move rfl) ?_
    refine Ops.y (v := .bool false) (Y.dec_f (Y.lti rfl rfl) (h)) ?_
    refine Ops.y (v := .bool _) (Y.move rfl) ?_
    refine Ops.ygt rfl (v := .int .i32 _) (Y.move rfl) ?_
    refine Ops.ygt rfl (v := .bool (decide _)) (Y.gti rfl rfl) ?_
    refine Ops.y (v := .bool _) (Y.pick_f rfl rfl) ?_
    refine Ops.y (v := .bool _) (Y.assign rfl) ?_
    refine Ops.nil ?_
    refine WP.ret ?_
    repeat (first | refine thenE_ret ?_ | refine blockE_ret ?_)
    exact retQ.mk (vs := [.bool _]) rfl ⟨rfl, trivial⟩ I.ext_of (by simp only [tup]; congr 1; rw [decide_eq_decide]; omega)
/-- What indexFunc hands back: not negative, just if a byte is no low letter. -/
def IdxP (s : ByteArray) (v : Value) : Prop := ∃ r : Int, v = .int .i64 r ∧ decide (0 ≤ r) = !(s.data.toList.all lowB)
theorem indexFunc_ok (B : Base) (hB : B.ok) (s : ByteArray) : Fn Tryz.prog 198 [.string s, .func (.func 116) #[] #[], .bool true] B (fun v _ => IdxP s v) := by
  refine Fn.of Tryz.func198 rfl Tryz.ntmps198 (by kernel_rfl) (by simp) ?_
  intro e
  have I := Inv.start hB
  refine WP.seq ?_
  refine WP.region ?_
  refine Ops.y (v := .int .i64 _) (Y.assign rfl) ?_
  refine Ops.nil ?_
  refine WP.seq ?_
  refine WP.seq ?_
  refine WP.region ?_
  refine Ops.y (v := .string _) (Y.move rfl) ?_
  refine Ops.go (O.ranges I Tryz.underlying9 rfl ?_)
  intro b10 w I
  refine Ops.nil ?_
  refine WP.block ?_
  refine WP.loopE (σ := Nat) (fun _ => [(0, .string s), (1, .func (.func 116) #[] #[]), (2, .bool true), (10, .pointer (some ⟨b10, 0, none⟩))]) (fun k w => Inv B B.h [sit b10 s k] w ∧ k ≤ s.size ∧ ∀ j, j < k → ∀ hj : j < s.size, lowB (s[j]'hj) = true) (fun k => s.size - k)
    ⟨0, ⟨rfl, rfl, rfl, rfl, trivial⟩, I, Nat.zero_le _, fun j hj => by omega⟩ ?_
  rintro k e w ⟨I, hk, hn⟩
  refine WP.seq ?_
  refine WP.region ?_
  refine Ops.go (O.nexts I 0 rfl rfl ?_ ?_)
  · intro hend
    refine Ops.y (v := .bool _) (Y.extract rfl rfl) ?_
    refine Ops.nil ?_
    refine WP.seq ?_
    refine WP.cond_f rfl ?_
    refine WP.exit ?_
    refine WP.seq ?_
    refine WP.region ?_
    refine Ops.y (v := .int .i64 _) (Y.assign rfl) ?_
    refine Ops.nil ?_
    refine WP.ret ?_
    repeat (first | refine thenE_ret ?_ | refine blockE_ret ?_)
    exact retQ.mk (vs := [.int .i64 _]) rfl ⟨rfl, trivial⟩ I.ext_of (⟨-1, rfl, by rw [all_low (fun j hj => hn j (by omega) hj)]; rfl⟩)
  · intro hlt w I
    refine Ops.y (v := .bool _) (Y.extract rfl rfl) ?_
    refine Ops.nil ?_
    refine WP.seq ?_
    refine WP.cond_t rfl ?_
    refine WP.skip ?_
    refine WP.block ?_
    refine WP.seq ?_
    refine WP.region ?_
    refine Ops.y (v := .int .i64 _) (Y.extract rfl rfl) ?_
    refine Ops.y (v := .int .i32 _) (Y.extract rfl rfl) ?_
    refine Ops.y (v := .int .i64 _) (Y.assign rfl) ?_
    refine Ops.y (v := .int .i32 _) (Y.assign rfl) ?_
    refine Ops.nil ?_
    by_cases ha : (s[k]'hlt).toNat < 128
    · rw [decode_ascii s k hlt ha] at I ⊢
      by_cases hlow : lowB (s[k]'hlt) = true
      · have hl := (low_iff _).1 hlow
        refine WP.seq ?_
        refine WP.region ?_
        refine Ops.y (v := .func _ _ _) (Y.move rfl) ?_
        refine Ops.y (v := .int .i32 _) (Y.move rfl) ?_
        refine Ops.go (O.callcv I Tryz.call116 (fs := []) (cs := []) rfl (Name1_ok _ I.base_ok _) rfl ?_)
        intro w I
        refine Ops.y (v := .bool _) (Y.move rfl) ?_
        refine Ops.y (v := .bool false) (Y.dec_f (Y.eqb Tryz.underlying4 rfl rfl) ((by rw [decide_eq_false (by omega)]; decide))) ?_
        refine Ops.nil ?_
        refine WP.cond_f rfl ?_
        refine WP.skip ?_
        exact ⟨k + 1, ⟨⟨rfl, rfl, rfl, rfl, trivial⟩, I, hlt, fun j hj hj' => by
          rcases Nat.lt_succ_iff_lt_or_eq.1 hj with h' | rfl
          · exact hn j h' hj'
          · exact hlow⟩, by omega⟩
      · have hl : ¬ (97 ≤ (s[k]'hlt).toNat ∧ (s[k]'hlt).toNat ≤ 122) := fun h => hlow ((low_iff _).2 h)
        refine WP.seq ?_
        refine WP.region ?_
        refine Ops.y (v := .func _ _ _) (Y.move rfl) ?_
        refine Ops.y (v := .int .i32 _) (Y.move rfl) ?_
        refine Ops.go (O.callcv I Tryz.call116 (fs := []) (cs := []) rfl (Name1_ok _ I.base_ok _) rfl ?_)
        intro w I
        refine Ops.y (v := .bool _) (Y.move rfl) ?_
        refine Ops.y (v := .bool true) (Y.dec_t (Y.eqb Tryz.underlying4 rfl rfl) ((by rw [decide_eq_true (by omega)]))) ?_
        refine Ops.nil ?_
        refine WP.cond_t rfl ?_
        refine WP.seq ?_
        refine WP.region ?_
        refine Ops.y (v := .int .i64 _) (Y.move rfl) ?_
        refine Ops.y (v := .int .i64 _) (Y.assign rfl) ?_
        refine Ops.nil ?_
        refine WP.ret ?_
        repeat (first | refine thenE_ret ?_ | refine blockE_ret ?_)
        exact retQ.mk (vs := [.int .i64 _]) rfl ⟨rfl, trivial⟩ I.ext_of (⟨k, rfl, by rw [not_low hlt hlow]; simp⟩)
    · have hd := decode_high s k hlt (by omega)
      refine WP.seq ?_
      refine WP.region ?_
      refine Ops.y (v := .func _ _ _) (Y.move rfl) ?_
      refine Ops.y (v := .int .i32 _) (Y.move rfl) ?_
      refine Ops.go (O.callcv I Tryz.call116 (fs := []) (cs := []) rfl (Name1_ok _ I.base_ok _) rfl ?_)
      intro w I
      refine Ops.y (v := .bool _) (Y.move rfl) ?_
      refine Ops.y (v := .bool true) (Y.dec_t (Y.eqb Tryz.underlying4 rfl rfl) ((by rw [decide_eq_true (by omega)]))) ?_
      refine Ops.nil ?_
      refine WP.cond_t rfl ?_
      refine WP.seq ?_
      refine WP.region ?_
      refine Ops.y (v := .int .i64 _) (Y.move rfl) ?_
      refine Ops.y (v := .int .i64 _) (Y.assign rfl) ?_
      refine Ops.nil ?_
      refine WP.ret ?_
      repeat (first | refine thenE_ret ?_ | refine blockE_ret ?_)
      exact retQ.mk (vs := [.int .i64 _]) rfl ⟨rfl, trivial⟩ I.ext_of (⟨k, rfl, by rw [not_low hlt (fun h => by have := (low_iff _).1 h; omega)]; simp⟩)
theorem SIndexFunc_ok (B : Base) (hB : B.ok) (s : ByteArray) : Fn Tryz.prog 160 [.string s, .func (.func 116) #[] #[]] B (fun v _ => IdxP s v) := by
  refine Fn.of Tryz.func160 rfl Tryz.ntmps160 (by kernel_rfl) (by simp) ?_
  intro e
  have I := Inv.start hB
  refine WP.seq ?_
  refine WP.region ?_
  refine Ops.y (v := .int .i64 _) (Y.assign rfl) ?_
  refine Ops.nil ?_
  refine WP.seq ?_
  refine WP.region ?_
  refine Ops.y (v := .string _) (Y.move rfl) ?_
  refine Ops.y (v := .func _ _ _) (Y.move rfl) ?_
  refine Ops.go (O.call I Tryz.call198 (indexFunc_ok _ I.base_ok s) rfl ?_)
  rintro _ h2 w I le2 ⟨r, rfl, hr⟩
  refine Ops.y (v := .int .i64 _) (Y.assign rfl) ?_
  refine Ops.nil ?_
  refine WP.ret ?_
  repeat (first | refine thenE_ret ?_ | refine blockE_ret ?_)
  exact retQ.mk (vs := [.int .i64 _]) rfl ⟨rfl, trivial⟩ I.ext_of (⟨r, rfl, hr⟩)
theorem SContainsFunc_ok (B : Base) (hB : B.ok) (s : ByteArray) : Fn Tryz.prog 115 [.string s, .func (.func 116) #[] #[]] B (fun v _ => v = .bool !(s.data.toList.all lowB)) := by
  refine Fn.of Tryz.func115 rfl Tryz.ntmps115 (by kernel_rfl) (by simp) ?_
  intro e
  have I := Inv.start hB
  refine WP.seq ?_
  refine WP.region ?_
  refine Ops.y (v := .bool _) (Y.assign rfl) ?_
  refine Ops.nil ?_
  refine WP.seq ?_
  refine WP.region ?_
  refine Ops.y (v := .string _) (Y.move rfl) ?_
  refine Ops.y (v := .func _ _ _) (Y.move rfl) ?_
  refine Ops.go (O.call I Tryz.call160 (SIndexFunc_ok _ I.base_ok s) rfl ?_)
  rintro _ h2 w I le2 ⟨r, rfl, hr⟩
  refine Ops.y (v := .bool (decide _)) (Y.gei rfl rfl) ?_
  refine Ops.y (v := .bool _) (Y.assign rfl) ?_
  refine Ops.nil ?_
  refine WP.ret ?_
  repeat (first | refine thenE_ret ?_ | refine blockE_ret ?_)
  exact retQ.mk (vs := [.bool _]) rfl ⟨rfl, trivial⟩ I.ext_of (by simp only [tup]; rw [hr])
theorem Name_ok (B : Base) (hB : B.ok) (s : ByteArray) (hs : s.size ≤ 140737488355328) : Fn Tryz.prog 57 [.string s] B (fun v _ => v = .bool (isName s)) := by
  by_cases h1 : (0 : Int) < s.size
  · by_cases h2 : (s.size : Int) ≤ 8
    · refine Fn.of Tryz.func57 rfl Tryz.ntmps57 (by kernel_rfl) (by simp) ?_
      intro e
      have I := Inv.start hB
      refine WP.seq ?_
      refine WP.region ?_
      refine Ops.y (v := .bool _) (Y.assign rfl) ?_
      refine Ops.nil ?_
      refine WP.seq ?_
      refine WP.region ?_
      refine Ops.y (v := .string _) (Y.move rfl) ?_
      refine Ops.y (v := .int .i64 _) (Y.lenstr Tryz.underlying9 rfl) ?_
      refine Ops.y (v := .bool true) (Y.dec_t (Y.gti rfl rfl) (h1)) ?_
      refine Ops.y (v := .bool _) (Y.move rfl) ?_
      refine Ops.ygt rfl (v := .string _) (Y.move rfl) ?_
      refine Ops.ygt rfl (v := .int .i64 _) (Y.lenstr Tryz.underlying9 rfl) ?_
      refine Ops.ygt rfl (v := .bool true) (Y.dec_t (Y.lei rfl rfl) (h2)) ?_
      refine Ops.y (v := .bool _) (Y.pick_t rfl rfl) ?_
      refine Ops.y (v := .bool _) (Y.move rfl) ?_
      refine Ops.ygt rfl (v := .string _) (Y.move rfl) ?_
      refine Ops.gt rfl (O.callv I Tryz.call115 (SContainsFunc_ok _ I.base_ok s) rfl ?_)
      intro w I
      refine Ops.ygt rfl (v := .bool _) (Y.not rfl) ?_
      refine Ops.y (v := .bool _) (Y.pick_t rfl rfl) ?_
      refine Ops.y (v := .bool _) (Y.assign rfl) ?_
      refine Ops.nil ?_
      refine WP.ret ?_
      repeat (first | refine thenE_ret ?_ | refine blockE_ret ?_)
      exact retQ.mk (vs := [.bool _]) rfl ⟨rfl, trivial⟩ I.ext_of (by simp only [tup, isName]; rw [decide_eq_true (show 1 ≤ s.size by omega), decide_eq_true (show s.size ≤ 8 by omega)]; simp)
    · refine Fn.of Tryz.func57 rfl Tryz.ntmps57 (by kernel_rfl) (by simp) ?_
      intro e
      have I := Inv.start hB
      refine WP.seq ?_
      refine WP.region ?_
      refine Ops.y (v := .bool _) (Y.assign rfl) ?_
      refine Ops.nil ?_
      refine WP.seq ?_
      refine WP.region ?_
      refine Ops.y (v := .string _) (Y.move rfl) ?_
      refine Ops.y (v := .int .i64 _) (Y.lenstr Tryz.underlying9 rfl) ?_
      refine Ops.y (v := .bool true) (Y.dec_t (Y.gti rfl rfl) (h1)) ?_
      refine Ops.y (v := .bool _) (Y.move rfl) ?_
      refine Ops.ygt rfl (v := .string _) (Y.move rfl) ?_
      refine Ops.ygt rfl (v := .int .i64 _) (Y.lenstr Tryz.underlying9 rfl) ?_
      refine Ops.ygt rfl (v := .bool false) (Y.dec_f (Y.lei rfl rfl) (h2)) ?_
      refine Ops.y (v := .bool _) (Y.pick_t rfl rfl) ?_
      refine Ops.y (v := .bool _) (Y.move rfl) ?_
      refine Ops.gf rfl ?_
      refine Ops.gf rfl ?_
      refine Ops.gf rfl ?_
      refine Ops.y (v := .bool _) (Y.pick_f rfl rfl) ?_
      refine Ops.y (v := .bool _) (Y.assign rfl) ?_
      refine Ops.nil ?_
      refine WP.ret ?_
      repeat (first | refine thenE_ret ?_ | refine blockE_ret ?_)
      exact retQ.mk (vs := [.bool _]) rfl ⟨rfl, trivial⟩ I.ext_of (by simp only [tup, isName]; rw [decide_eq_false (show ¬ s.size ≤ 8 by omega)]; simp)
  · refine Fn.of Tryz.func57 rfl Tryz.ntmps57 (by kernel_rfl) (by simp) ?_
    intro e
    have I := Inv.start hB
    refine WP.seq ?_
    refine WP.region ?_
    refine Ops.y (v := .bool _) (Y.assign rfl) ?_
    refine Ops.nil ?_
    refine WP.seq ?_
    refine WP.region ?_
    refine Ops.y (v := .string _) (Y.move rfl) ?_
    refine Ops.y (v := .int .i64 _) (Y.lenstr Tryz.underlying9 rfl) ?_
    refine Ops.y (v := .bool false) (Y.dec_f (Y.gti rfl rfl) (h1)) ?_
    refine Ops.y (v := .bool _) (Y.move rfl) ?_
    refine Ops.gf rfl ?_
    refine Ops.gf rfl ?_
    refine Ops.gf rfl ?_
    refine Ops.y (v := .bool _) (Y.pick_f rfl rfl) ?_
    refine Ops.y (v := .bool _) (Y.move rfl) ?_
    refine Ops.gf rfl ?_
    refine Ops.gf rfl ?_
    refine Ops.gf rfl ?_
    refine Ops.y (v := .bool _) (Y.pick_f rfl rfl) ?_
    refine Ops.y (v := .bool _) (Y.assign rfl) ?_
    refine Ops.nil ?_
    refine WP.ret ?_
    repeat (first | refine thenE_ret ?_ | refine blockE_ret ?_)
    exact retQ.mk (vs := [.bool _]) rfl ⟨rfl, trivial⟩ I.ext_of (by simp only [tup, isName]; rw [decide_eq_false (show ¬ 1 ≤ s.size by omega)]; simp)
end Go.TF
end
section
/- Join, Lift, Leq and the references: contracts. -/
namespace Go.TF
open Go Go.RowKit Go.Proofs
set_option maxRecDepth 10000
end Go.TF
end
