/- Maps from int to int that the call makes; maps gone through in whatever order. -/
import Derived.Test.YtenigglapeajdaaBase7
namespace Go.TF
open Go Go.RowKit

def iV (p : Int × Int) : Value × Value := (.int .i64 p.1, .int .i64 p.2)
def EntsOf (ents : List MapEntry) (es : List (Int × Int)) : Prop := ents.map (fun e => (e.key, e.val)) = es.map iV
def ilook : List (Int × Int) → Int → Option Int
  | [], _ => none
  | (k, v) :: r, x => if x = k then some v else ilook r x
def iset : List (Int × Int) → Int → Int → List (Int × Int)
  | [], x, v => [(x, v)]
  | (k, w) :: r, x, v => if x = k then (x, v) :: r else (k, w) :: iset r x v
theorem ilook_iset (es : List (Int × Int)) (x y v : Int) : ilook (iset es x v) y = if y = x then some v else ilook es y := by
  induction es with
  | nil => simp [iset, ilook]
  | cons p r ih =>
    obtain ⟨k, w⟩ := p
    simp only [iset]
    split
    · rename_i h; subst h; simp only [ilook]; split <;> simp_all
    · rename_i h; simp only [ilook, ih]; split <;> split <;> simp_all
theorem findNow_none {k : IntKind} {x : Int} : ∀ (ents : List MapEntry) (es : List (Int × Int)) (i : Nat), EntsOf ents es → ilook es x = none → Instr.findNow (.int k) (.int .i64 x) ents i = some none
  | [], _, _, _, _ => rfl
  | e :: r, [], _, h, _ => by simp [EntsOf] at h
  | e :: r, (a, b) :: s, i, h, hl => by
    simp only [EntsOf, List.map_cons, List.cons.injEq] at h
    simp only [ilook] at hl
    split at hl
    · cases hl
    · rename_i hx
      have h1 : e.key = .int .i64 a := (Prod.mk.inj h.1).1
      have : (x == a) = false := by simpa using hx
      simp only [Instr.findNow, h1, Instr.sameNow, if_true, this]
      exact findNow_none r s (i + 1) h.2 hl
theorem findNow_some {k : IntKind} {x v : Int} : ∀ (ents : List MapEntry) (es : List (Int × Int)) (i : Nat), EntsOf ents es → ilook es x = some v →
    ∃ j, j < ents.length ∧ Instr.findNow (.int k) (.int .i64 x) ents i = some (some (i + j, .int .i64 v)) ∧ ((ents[j]?).map (·.key)) = some (.int .i64 x) ∧ ∀ v', EntsOf (ents.modify j fun e => { e with key := .int .i64 x, val := .int .i64 v' }) (iset es x v')
  | [], [], _, _, hl => by simp [ilook] at hl
  | [], _ :: _, _, h, _ => by simp [EntsOf] at h
  | e :: r, [], _, h, _ => by simp [EntsOf] at h
  | e :: r, (a, b) :: s, i, h, hl => by
    simp only [EntsOf, List.map_cons, List.cons.injEq] at h
    have h1 : e.key = .int .i64 a := (Prod.mk.inj h.1).1
    have h2 : e.val = .int .i64 b := (Prod.mk.inj h.1).2
    simp only [ilook] at hl
    split at hl
    · rename_i hx
      subst hx
      cases hl
      refine ⟨0, by simp, by simp [Instr.findNow, h1, Instr.sameNow, h2], by simp [h1], fun v' => ?_⟩
      simp [EntsOf, iset, iV]
      exact h.2
    · rename_i hx
      obtain ⟨j, hj, hf, hk, hm⟩ := findNow_some (k := k) r s (i + 1) h.2 hl
      refine ⟨j + 1, by simpa using hj, ?_, by simpa using hk, fun v' => ?_⟩
      · have : (x == a) = false := by simpa using hx
        simp only [Instr.findNow, h1, Instr.sameNow, if_true, this, hf]
        rw [show i + (j + 1) = i + 1 + j by omega]
      · simp only [EntsOf, List.modify_succ_cons, iset, if_neg hx, List.map_cons, List.cons.injEq]
        exact ⟨h.1, hm v'⟩
theorem checkKey_int {P : Program} {w : World} {em : Bool} {n : Nat} {T : TypeId} {k : IntKind} {x : Int} (hT : Und P T (.int k)) : (Instr.checkKey em (n + 1) T (.int .i64 x)).run P w = .ok () w := by
  simp [Instr.checkKey, run_underlying hT]

structure IMap (ents : List MapEntry) (clock : Nat) (es : List (Int × Int)) : Prop where
  is : EntsOf ents es
  nodup : (ents.map (·.born)).Nodup
  lt : ∀ e ∈ ents, e.born < clock
def imap (b : Nat) (es : List (Int × Int)) : SA where
  fp := [b]
  P := fun w => ∃ ents clock, w.heap[b]? = some (.map ents.toArray clock) ∧ IMap ents clock es
  loc := by
    intro w w' h hp
    obtain ⟨ents, clock, h1, h2⟩ := hp
    exact ⟨ents, clock, (h b (by simp)).trans h1, h2⟩
/-- A map that is known for good. -/
def MapAt (h : Heap) (m : Nat) (ents : List MapEntry) (clock : Nat) : Prop := h m = some (.map ents.toArray clock)
def mit (b m clock : Nat) (done : List Nat) : SA where
  fp := [b]
  P := fun w => w.heap[b]? = some (.mapIter (some m) clock done.toArray clock)
  loc := fun _ _ h hp => (h b (by simp)).trans hp
theorem getObj_run {P : Program} {w : World} {r : Nat} {o : Obj} (h : w.heap[r]? = some o) (hc : ∀ c t f, o ≠ .cells c t f) : (getObj r).run P w = .ok o w := by
  cases o <;> first | exact absurd rfl (hc _ _ _) | simp [getObj, Sem.run, h]
theorem setObj_run {P : Program} {w : World} {r : Nat} {o o' : Obj} (h : w.heap[r]? = some o) (hc : ∀ c t f, o ≠ .cells c t f) : (setObj r o').run P w = .ok () { w with heap := w.heap.setIfInBounds r o' } := by
  cases o <;> first | exact absurd rfl (hc _ _ _) | simp [setObj, Sem.run, h]
theorem Inv.setObj {B : Base} {h : Heap} {M : List SA} {w : World} (I : Inv B h M w) (n : Nat) {A A' : SA} {b : Nat} {o : Obj} (hn : M[n]? = some A) (hA : A.fp = [b]) (hA' : A'.fp = [b]) (hp : ∀ w' : World, w'.heap[b]? = some o → A'.P w') :
    Inv B h (M.set n A') { w with heap := w.heap.setIfInBounds b o } := by
  have hb := ((I.own A (List.mem_of_getElem? hn)).2 b (by simp [hA])).2.1
  refine I.stepAt n hn rfl rfl rfl (by simp) (fun k _ hk => ?_) (hp _ (by simp [hb])) (fun k hk => ?_)
  · simp only [Array.getElem?_setIfInBounds]
    rw [if_neg]; intro e; exact hk (by simp [hA, ← e])
  · rw [hA'] at hk; simp at hk; subst hk; exact ⟨.inl (by simp [hA]), by simpa using hb⟩

section
variable {P : Program} {e : Env} {w : World} {B : Base} {h : Heap} {M : List SA} {t : TypeId} {pos : String} {af : Array Edge} {g : Option (Nat × Bool)} {d : Option Nat} {K : Value → World → Prop}
theorem O.mkmap {T : TypeId} (I : Inv B h M w) (k : ∀ b w', Inv B h (imap b [] :: M) w' → K (.map (some b)) w') : Op1 P ⟨d, .makeMap T none, t, pos, af, g⟩ e w K := by
  have : (execOp (ev e) ⟨d, .makeMap T none, t, pos, af, g⟩).run P w = .ok (.value (.map (some w.heap.size))) (w.alloc (.map #[] 0)) := by
    simp [execOp, Instr.makeMap]
  unfold Op1
  rw [this]
  refine k _ _ (I.gain (Grow.alloc w _) ⟨[], 0, heap_alloc_new w _, rfl, List.Pairwise.nil, fun _ h => by cases h⟩ (fun b hb => ?_))
  simp [imap] at hb; subst hb; simp
theorem lookup_run {T Kt Vt : TypeId} {ik : IntKind} {m : Nat} {ents : List MapEntry} {clock : Nat} {es : List (Int × Int)} {x : Int} (hT : Und P T (.map Kt Vt)) (hK : Und P Kt (.int ik)) (hz : Zero P Vt (.int .i64 0)) (hm : w.heap[m]? = some (.map ents.toArray clock)) (hi : EntsOf ents es) :
    (Instr.lookup T (.map (some m)) (.int .i64 x) false).run P w = .ok (.int .i64 ((ilook es x).getD 0)) w := by
  have hg : (getObj m).run P w = .ok (.map ents.toArray clock) w := getObj_run hm (by intro c t f h; cases h)
  have hck : ∀ em, (Instr.checkKey em 10000 Kt (.int .i64 x)).run P w = .ok () w := fun em => checkKey_int (n := 9999) hK
  cases hl : ilook es x with
  | none =>
    have hf := findNow_none (k := ik) ents es 0 hi hl
    simp [Instr.lookup, run_underlying hT, hg, hck, Instr.findKey, run_underlying hK, hf, hz w]
  | some v =>
    obtain ⟨j, _, hf, _⟩ := findNow_some (k := ik) ents es 0 hi hl
    simp [Instr.lookup, run_underlying hT, hg, hck, Instr.findKey, run_underlying hK, hf]
theorem Y.lookup {T Kt Vt : TypeId} {ik : IntKind} {b : Nat} {es : List (Int × Int)} {x y : Operand} {i : Int} (I : Inv B h M w) (hT : Und P T (.map Kt Vt)) (hK : Und P Kt (.int ik)) (hz : Zero P Vt (.int .i64 0)) (n : Nat) (hn : M[n]? = some (imap b es)) (hx : ev e x = .map (some b)) (hy : ev e y = .int .i64 i) :
    Y P ⟨d, .lookup T x y false, t, pos, af, g⟩ e w (.int .i64 ((ilook es i).getD 0)) := by
  obtain ⟨ents, clock, h1, h2⟩ := I.at n hn
  simp [Y, execOp, hx, hy, lookup_run hT hK hz h1 h2.is]
theorem Y.lookupH {T Kt Vt : TypeId} {ik : IntKind} {b : Nat} {ents : List MapEntry} {clock : Nat} {es : List (Int × Int)} {x y : Operand} {i : Int} (I : Inv B h M w) (hT : Und P T (.map Kt Vt)) (hK : Und P Kt (.int ik)) (hz : Zero P Vt (.int .i64 0)) (hm : MapAt h b ents clock) (hi : IMap ents clock es) (hx : ev e x = .map (some b)) (hy : ev e y = .int .i64 i) :
    Y P ⟨d, .lookup T x y false, t, pos, af, g⟩ e w (.int .i64 ((ilook es i).getD 0)) := by
  simp [Y, execOp, hx, hy, lookup_run hT hK hz (I.imm _ _ hm) hi.is]
theorem O.mapset {T Kt Vt : TypeId} {ik : IntKind} {b : Nat} {es : List (Int × Int)} {x y z : Operand} {i v : Int} (I : Inv B h M w) (hT : Und P T (.map Kt Vt)) (hK : Und P Kt (.int ik)) (n : Nat) (hn : M[n]? = some (imap b es)) (hx : ev e x = .map (some b)) (hy : ev e y = .int .i64 i) (hz : ev e z = .int .i64 v)
    (k : ∀ w', Inv B h (M.set n (imap b (iset es i v))) w' → K undef w') : Op1 P ⟨d, .mapUpdate T x y z, t, pos, af, g⟩ e w K := by
  obtain ⟨ents, clock, h1, h2⟩ := I.at n hn
  have hg : (getObj b).run P w = .ok (.map ents.toArray clock) w := getObj_run h1 (by intro c t f h; cases h)
  have hck : ∀ em, (Instr.checkKey em 10000 Kt (.int .i64 i)).run P w = .ok () w := fun em => checkKey_int (n := 9999) hK
  have hset : ∀ o, (Go.setObj b o).run P w = .ok () { w with heap := w.heap.setIfInBounds b o } := fun o => setObj_run h1 (by intro c t f h; cases h)
  cases hl : ilook es i with
  | none =>
    have hf := findNow_none (k := ik) ents es 0 h2.is hl
    have hrun : (execOp (ev e) ⟨d, .mapUpdate T x y z, t, pos, af, g⟩).run P w = .ok .skip { w with heap := w.heap.setIfInBounds b (.map (ents ++ [({ key := .int .i64 i, val := .int .i64 v, born := clock } : MapEntry)]).toArray (clock + 1)) } := by
      simp [execOp, hx, hy, hz, Instr.mapUpdate, run_underlying hT, hg, hck, Instr.findKey, run_underlying hK, hf, hset]
    unfold Op1
    rw [hrun]
    refine k _ (I.setObj n hn rfl rfl fun w' hw' => ⟨_, _, hw', ?_, ?_, ?_⟩)
    · have : iset es i v = es ++ [(i, v)] := by
        clear hf h1 h2 hg hset hn k
        induction es with
        | nil => rfl
        | cons p r ih =>
          obtain ⟨a, c⟩ := p
          simp only [ilook] at hl
          split at hl
          · cases hl
          · rename_i hne; simp [iset, hne, ih hl]
      rw [this]
      unfold EntsOf
      rw [List.map_append, List.map_append, h2.is]; rfl
    · rw [List.map_append, List.nodup_append]
      refine ⟨h2.nodup, by simp, fun a ha c hc => ?_⟩
      simp at hc; subst hc
      obtain ⟨q, hq, rfl⟩ := List.mem_map.1 ha
      have := h2.lt q hq; omega
    · intro q hq
      rcases List.mem_append.1 hq with hq | hq
      · have := h2.lt q hq; omega
      · simp at hq; subst hq; simp
  | some v0 =>
    obtain ⟨j, hj, hf, hk, hm⟩ := findNow_some (k := ik) ents es 0 h2.is hl
    have hrun : (execOp (ev e) ⟨d, .mapUpdate T x y z, t, pos, af, g⟩).run P w = .ok .skip { w with heap := w.heap.setIfInBounds b (.map (ents.modify j fun e => { e with key := .int .i64 i, val := .int .i64 v }).toArray clock) } := by
      have hk' : ents[j]?.map (·.key) = some (.int .i64 i) := hk
      cases hgt : ents[j]? with
      | none => simp [hgt] at hk'
      | some q =>
        simp only [hgt, Option.map_some, Option.some.injEq] at hk'
        simp [execOp, hx, hy, hz, Instr.mapUpdate, run_underlying hT, hg, hck, Instr.findKey, run_underlying hK, hf, hset, hgt, hk', Instr.keyThatStays, Instr.sameBits]
    unfold Op1
    rw [hrun]
    refine k _ (I.setObj n hn rfl rfl fun w' hw' => ⟨_, _, hw', hm v, ?_, ?_⟩)
    · have : (ents.modify j fun e => { e with key := .int .i64 i, val := .int .i64 v }).map (·.born) = ents.map (·.born) := by
        apply List.ext_getElem?
        intro q
        simp only [List.getElem?_map, List.getElem?_modify]
        cases ents[q]? <;> simp
        split <;> rfl
      rw [this]; exact h2.nodup
    · intro q hq
      obtain ⟨p, hp⟩ := List.mem_iff_getElem?.1 hq
      rw [List.getElem?_modify] at hp
      cases hgp : ents[p]? with
      | none => simp [hgp] at hp
      | some c =>
        have := h2.lt c (List.mem_of_getElem? hgp)
        simp only [hgp] at hp
        cases hp; split <;> exact this
theorem Inv.settleMap {b : Nat} {es : List (Int × Int)} (I : Inv B h (imap b es :: M) w) : ∃ h' ents clock, h.le h' ∧ MapAt h' b ents clock ∧ IMap ents clock es ∧ Inv B h' M w := by
  obtain ⟨ents, clock, h1, h2⟩ : (imap b es).P w := (I.own _ (List.mem_cons_self ..)).1
  obtain ⟨h', hle, hfp, I'⟩ := I.settle
  exact ⟨h', ents, clock, hle, by unfold MapAt; rw [hfp b (by simp [imap])]; exact h1, h2, I'⟩
theorem O.range {T Kt Vt m : Nat} {x : Operand} {ents : List MapEntry} {clock : Nat} (I : Inv B h M w) (hT : Und P T (.map Kt Vt)) (hx : ev e x = .map (some m)) (hm : MapAt h m ents clock)
    (k : ∀ b w', Inv B h (mit b m clock [] :: M) w' → K (.pointer (some ⟨b, 0, none⟩)) w') : Op1 P ⟨d, .range T x, t, pos, af, g⟩ e w K := by
  have hg : (getObj m).run P w = .ok (.map ents.toArray clock) w := getObj_run (I.imm _ _ hm) (by intro c t f h; cases h)
  have : (execOp (ev e) ⟨d, .range T x, t, pos, af, g⟩).run P w = .ok (.value (.pointer (some ⟨w.heap.size, 0, none⟩))) (w.alloc (.mapIter (some m) clock #[] clock)) := by
    simp [execOp, hx, Instr.range, run_underlying hT, hg]
  unfold Op1
  rw [this]
  refine k _ _ (I.gain (Grow.alloc w _) (heap_alloc_new w _) (fun b hb => ?_))
  simp [mit] at hb; subst hb; simp
theorem O.next {x : Operand} {b m clock : Nat} {done : List Nat} {ents : List MapEntry} {es : List (Int × Int)} (I : Inv B h M w) (n : Nat) (hn : M[n]? = some (mit b m clock done)) (hx : ev e x = .pointer (some ⟨b, 0, none⟩)) (hm : MapAt h m ents clock) (hi : IMap ents clock es)
    (k0 : (∀ q ∈ ents, q.born ∈ done) → K (.tuple #[.bool false]) w)
    (k1 : ∀ q w', q ∈ ents → q.born ∉ done → Inv B h (M.set n (mit b m clock (done ++ [q.born]))) w' → K (.tuple #[.bool true, q.key, q.val]) w') : Op1 P ⟨d, .next x false, t, pos, af, g⟩ e w K := by
  have hb : w.heap[b]? = some (.mapIter (some m) clock done.toArray clock) := I.at n hn
  have hgb : (getObj b).run P w = .ok (.mapIter (some m) clock done.toArray clock) w := getObj_run hb (by intro c t f h; cases h)
  have hgm : (getObj m).run P w = .ok (.map ents.toArray clock) w := getObj_run (I.imm _ _ hm) (by intro c t f h; cases h)
  have hall : (!done.toArray.isEmpty && !ents.toArray.isEmpty && ents.toArray.all (fun e => decide (e.born ≥ clock))) = false := by
    cases he : ents with
    | nil => simp
    | cons q r =>
      have := hi.lt q (by simp [he])
      simp; intro _ h'; omega
  have hleft : (ents.toArray.filter fun e => !done.toArray.contains e.born).filter (fun e => decide (e.born < clock)) = (ents.filter fun e => !done.contains e.born).toArray := by
    simp only [List.filter_toArray]
    congr 1
    refine (List.filter_eq_self.2 fun a ha => ?_).trans (by simp)
    have := hi.lt a (List.mem_filter.1 ha).1; simpa using this
  have hnew : (ents.toArray.filter fun e => !done.toArray.contains e.born).filter (fun e => decide (e.born ≥ clock)) = #[] := by
    simp only [List.filter_toArray]
    rw [List.filter_eq_nil_iff.2]
    intro a ha; have := hi.lt a (List.mem_filter.1 ha).1; simp; omega
  cases hl : (ents.filter fun e => !done.contains e.born) with
  | nil =>
    have hrun : (execOp (ev e) ⟨d, .next x false, t, pos, af, g⟩).run P w = .ok (.value (.tuple #[.bool false])) w := by
      simp only [execOp, hx, Instr.next, Sem.run_bind, hgb, Result.andThen_ok, hgm, hall, hleft, hnew, hl]
      simp [Question.forced]
    unfold Op1
    rw [hrun]
    refine k0 fun q hq => ?_
    rw [List.filter_eq_nil_iff] at hl
    have := hl q hq
    simpa using this
  | cons q0 r0 =>
    have hsome : ∀ i, i < (q0 :: r0).length → ∃ q, (q0 :: r0)[i]? = some q ∧ q ∈ ents ∧ q.born ∉ done := by
      intro i hi'
      refine ⟨(q0 :: r0)[i], List.getElem?_eq_getElem hi', ?_⟩
      have : (q0 :: r0)[i] ∈ ents.filter fun e => !done.contains e.born := by rw [hl]; exact List.getElem_mem hi'
      rw [List.mem_filter] at this
      exact ⟨this.1, by simpa using this.2⟩
    have key : ∀ (i : Nat) (wd : World), wd.heap = w.heap → wd.os = w.os → wd.tape = w.tape → wd.output = w.output → ∀ q, (q0 :: r0)[i]? = some q → q ∈ ents → q.born ∉ done →
        K (.tuple #[.bool true, q.key, q.val]) { wd with heap := wd.heap.setIfInBounds b (.mapIter (some m) clock (done ++ [q.born]).toArray clock) } := by
      intro i wd h1 h2 h3 h4 q hq hq1 hq2
      have Id : Inv B h M wd := I.grow ⟨h2, h3, h4, by rw [h1]; exact Nat.le_refl _, fun k _ => by rw [h1]⟩
      exact k1 q _ hq1 hq2 (Id.setObj n hn rfl rfl fun w' hw' => hw')
    have hcand : (if (q0 :: r0).toArray.isEmpty = true then #[none] else #[]) ++ ((q0 :: r0).toArray ++ #[]).map some = (q0 :: r0).toArray.map some := by simp
    unfold Op1
    by_cases hf : (q0 :: r0).length ≤ 1
    · obtain ⟨q, hq, hq1, hq2⟩ := hsome 0 (by simp)
      have hrun : (execOp (ev e) ⟨d, .next x false, t, pos, af, g⟩).run P w = .ok (.value (.tuple #[.bool true, q.key, q.val])) { w with heap := w.heap.setIfInBounds b (.mapIter (some m) clock (done ++ [q.born]).toArray clock) } := by
        have hr0 : r0 = [] := by cases r0 with | nil => rfl | cons _ _ => simp at hf
        subst hr0
        simp at hq; subst hq
        have hset := fun o => setObj_run (P := P) (o' := o) hb (by intro c t f h; cases h)
        simp only [execOp, hx, Instr.next, Sem.run_bind, hgb, Result.andThen_ok, hgm, hall, hleft, hnew, hl, hcand]
        simp [Question.forced, hset]
      rw [hrun]
      exact key 0 w rfl rfl rfl rfl q hq hq1 hq2
    · have hlt := Nat.mod_lt (w.tape w.drawn (.mapNext (q0 :: r0).length)) (show 0 < (q0 :: r0).length by simp)
      obtain ⟨q, hq, hq1, hq2⟩ := hsome _ hlt
      have hrun : (execOp (ev e) ⟨d, .next x false, t, pos, af, g⟩).run P w = .ok (.value (.tuple #[.bool true, q.key, q.val])) { w.drew with heap := w.drew.heap.setIfInBounds b (.mapIter (some m) clock (done ++ [q.born]).toArray clock) } := by
        have hbd : w.drew.heap[b]? = some (.mapIter (some m) clock done.toArray clock) := hb
        have hset := fun o => setObj_run (P := P) (o' := o) hbd (by intro c t f h; cases h)
        have hforced : (Question.mapNext (r0.length + 1)).forced = false := by simp [Question.forced]; simp at hf; omega
        have hq' : ((q0 :: r0).toArray.map some)[(Question.mapNext (r0.length + 1)).cut (w.tape w.drawn (.mapNext (r0.length + 1)))]? = some (some q) := by
          simp only [List.map_toArray, List.getElem?_toArray, List.getElem?_map]
          have : (q0 :: r0)[(Question.mapNext (r0.length + 1)).cut (w.tape w.drawn (.mapNext (r0.length + 1)))]? = some q := hq
          rw [this]; rfl
        simp only [execOp, hx, Instr.next, Sem.run_bind, hgb, Result.andThen_ok, hgm, hall, hleft, hnew, hl, hcand]
        simp only [Bool.false_eq_true, if_false, Sem.run_bind, run_choose, Array.size_map, List.size_toArray, List.length_cons, hforced, Sem.run_pure, Result.andThen_ok, World.drew_eq, hq', hset]
        simp
      rw [hrun]
      exact key _ w.drew rfl rfl rfl rfl q hq hq1 hq2
theorem Y.entry {x : Operand} {b m clock : Nat} {done : List Nat} {ents : List MapEntry} {es : List (Int × Int)} {q : MapEntry} (I : Inv B h M w) (n : Nat) (hn : M[n]? = some (mit b m clock (done ++ [q.born]))) (hx : ev e x = .pointer (some ⟨b, 0, none⟩)) (hm : MapAt h m ents clock) (hi : IMap ents clock es) (hq : q ∈ ents) :
    Y P ⟨d, .entry x, t, pos, af, g⟩ e w (.tuple #[q.key, q.val]) := by
  have hb : w.heap[b]? = some (.mapIter (some m) clock (done ++ [q.born]).toArray clock) := I.at n hn
  have hgb : (getObj b).run P w = .ok (.mapIter (some m) clock (done ++ [q.born]).toArray clock) w := getObj_run hb (by intro c t f h; cases h)
  have hgm : (getObj m).run P w = .ok (.map ents.toArray clock) w := getObj_run (I.imm _ _ hm) (by intro c t f h; cases h)
  have hf : ents.toArray.find? (fun a => a.born == q.born) = some q := by
    rw [List.find?_toArray]
    have hnd := hi.nodup
    clear hgm hm hi hb hgb hn
    induction ents with
    | nil => cases hq
    | cons a r ih =>
      simp only [List.map_cons, List.nodup_cons] at hnd
      rcases List.mem_cons.1 hq with rfl | hq'
      · simp
      · have hne : a.born ≠ q.born := fun e => hnd.1 (by rw [e]; exact List.mem_map_of_mem hq')
        have : (a.born == q.born) = false := by simpa using hne
        rw [List.find?_cons, this]
        exact ih hq' hnd.2
  simp [Y, execOp, hx, Instr.entry, hgb, hgm, hf]
end
end Go.TF
