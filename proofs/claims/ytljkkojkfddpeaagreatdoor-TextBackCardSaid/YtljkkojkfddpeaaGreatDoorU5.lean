/- Texts Txp3 Base29 Txp4 Txp9 Prog1 Prog2 Prog3 Lat Prog4 Lat2. -/
import Derived.Test.YtljkkojkfddpeaaGreatDoorU4
import Derived.Test.YtljkkojkfddpeaaGreatDoorU2
import Derived.RecoverIn
import Derived.Laws.Pointers
import Derived.Tactics2
import Derived.TacticsInMore
import Derived.RegionIn
import Derived.Test.YtljkkojkfddpeaaGreatDoorU3
section
/- Package text: line, which reads a line into a program, or panics: walked. -/
namespace Go.TF
open Go Go.RowKit Go.Proofs
set_option maxRecDepth 20000

section
variable (B : Base) (hB : B.ok)
include hB
theorem CutPre_is (s : ByteArray) (p : Bs) {a : Bs} {b : Bool} (h1 : Lib.trimPrefix (tx s) p = a) (h2 : Lib.hasPrefix (tx s) p = b) : Fn Tryz.prog 69 [.string s, .string (mk p)] B (fun v _ => v = .tuple #[.string (mk a), .bool b]) := by
  subst h1; subst h2; exact CutPre_ok B hB s (mk p)
theorem CutSuf_is (s : ByteArray) (hs : s.size ≤ 140737488355328) (p : Bs) {a : Bs} {b : Bool} (h1 : Lib.trimSuffix (tx s) p = a) (h2 : Lib.hasSuffix (tx s) p = b) : Fn Tryz.prog 72 [.string s, .string (mk p)] B (fun v _ => v = .tuple #[.string (mk a), .bool b]) := by
  subst h1; subst h2; exact CutSuf_ok B hB s (mk p) hs
theorem HasSuf_is (s : ByteArray) (hs : s.size ≤ 140737488355328) (p : Bs) {b : Bool} (h2 : Lib.hasSuffix (tx s) p = b) : Fn Tryz.prog 38 [.string s, .string (mk p)] B (fun v _ => v = .bool b) := by
  subst h2; exact HasSuf_ok B hB s (mk p) hs
theorem Cut_is (V : Vars B.h) (s : ByteArray) (hs : s.size < 4294967281) (p : Bs) {a b : Bs} {c : Bool} (h1 : Lib.cut (tx s) p = (a, b, c)) : Fn Tryz.prog 73 [.string s, .string (mk p)] B (fun v _ => v = .tuple #[.string (mk a), .string (mk b), .bool c]) := by
  have := Cut_ok B hB V s (mk p) hs
  rw [show tx (mk p) = p from rfl, h1] at this
  exact this
end
/-- What the reading of a line leaves: the program's variable at b, the rows of its predicates and rules, what else there is. -/
abbrev linM (b : Nat) (q : Option Addr) (n c : Nat) (q2 : Option Addr) (n2 c2 : Nat) (ps : List Prd) (rs : List Rul) (M : List SA) : List SA :=
  ownSl 53 3 (.slice q n c) n (ps.flatMap Prd.enc) :: ownSl 64 5 (.slice q2 n2 c2) n2 (rs.flatMap Rul.enc) :: box b [.slice q n c, .slice q2 n2 c2] 25 :: M
def LineQ (B : Base) (h : Heap) (M : List SA) (b : Nat) (q : Option Addr) (n c : Nat) (q2 : Option Addr) (n2 c2 : Nat) (ps : List Prd) (rs : List Rul) (s : Bs) : Ending → World → Prop
  | .returned v, w' => v = .tuple #[] ∧ ∃ h' q c q2 c2 ps' rs', h.le h' ∧ Inv B h' (linM b q ps'.length c q2 rs'.length c2 ps' rs' M) w' ∧ lineR (ps, rs.map Rul.er) s = some (ps', rs'.map Rul.er) ∧ (∀ r ∈ rs', r.In h') ∧ (∀ x ∈ ps', x.name.size ≤ 4096) ∧ ps'.length ≤ ps.length + 1 ∧ rs'.length ≤ rs.length + 1
  | .panicked ch, w' => ch = brk ∧ (∃ h', Inv B h' (box b [.slice q n c, .slice q2 n2 c2] 25 :: M) w') ∧ lineR (ps, rs.map Rul.er) s = none
  | _, _ => False
theorem els3 {α : Type} {l : List α} (h : l.length = 3) : ∃ x y z, l = [x, y, z] := by
  match l, h with
  | [x, y, z], _ => exact ⟨x, y, z, rfl⟩
def AtmO (l : List Prd) (s : Bs) (h1 : Heap) : Sp := fun u h => ∃ a : Atm, u = a.val ∧ OwnH 109 2 a.args Trm.enc h1 h ∧ a.args.xs.length ≤ 4098 ∧ atomR l s = some a.er
theorem AtmO.mono {l : List Prd} {s : Bs} {h1 : Heap} : MonoS (AtmO l s h1) := fun _ _ _ hl ⟨a, e, o, n, r⟩ => ⟨a, e, o.le hl, n, r⟩
/-- A literal that was read. -/
def LtlO (l : List Prd) (s : Bs) (h1 : Heap) (cs : List Value) (h : Heap) : Prop := ∃ x : Ltl, cs = x.enc ∧ OwnH 109 2 x.atom.args Trm.enc h1 h ∧ x.atom.args.xs.length ≤ 4098 ∧ litR l s = some x.er
theorem LtlO.mono {l : List Prd} {s : Bs} {h1 : Heap} : MonoP (LtlO l s h1) := fun _ _ _ hl ⟨a, e, o, n, r⟩ => ⟨a, e, o.le hl, n, r⟩
def LtlV (l : List Prd) (s : Bs) (h1 : Heap) : Sp := fun u h => ∃ x : Ltl, u = x.val ∧ OwnH 109 2 x.atom.args Trm.enc h1 h ∧ x.atom.args.xs.length ≤ 4098 ∧ litR l s = some x.er
theorem LtlV.mono {l : List Prd} {s : Bs} {h1 : Heap} : MonoS (LtlV l s h1) := fun _ _ _ hl ⟨a, e, o, n, r⟩ => ⟨a, e, o.le hl, n, r⟩
theorem litsR_bad {l : List Prd} {ws : List Bs} {w : Bs} (hw : w ∈ ws) (h : litR l w = none) : litsR l ws = none := by
  induction ws with
  | nil => cases hw
  | cons x r ih =>
    rcases List.mem_cons.1 hw with rfl | hw
    · simp [litsR, h]
    · simp only [litsR, ih hw]; cases litR l x <;> rfl
theorem litsR_snoc {p : List Prd} {l : List Bs} {w : Bs} {ts : List Ltl} {t : Ltl} (hl : litsR p l = some ts) (h : litR p w = some t) : litsR p (l ++ [w]) = some (ts ++ [t]) := by
  induction l generalizing ts with
  | nil => simp [litsR] at hl; subst hl; simp [litsR, h]
  | cons x r ih =>
    simp only [litsR] at hl
    cases hx : litR p x with
    | none => simp [hx] at hl
    | some y =>
      cases hr : litsR p r with
      | none => simp [hx, hr] at hl
      | some ys =>
        simp [hx, hr] at hl
        subst hl
        simp [litsR, hx, ih hr]
theorem own_trms {a : Atm} {h0 h : Heap} (o : OwnH 109 2 a.args Trm.enc h0 h) (hl : a.args.xs.length ≤ 4098) : a.In h := ⟨o.in fun _ => rfl, by omega⟩
set_option maxHeartbeats 32000000 in
theorem line_v {B : Base} {h : Heap} {M : List SA} {w : World} {b : Nat} {q q2 : Option Addr} {c c2 : Nat} {ps : List Prd} {rs : List Rul} (V : Vars h) (I : Inv B h (linM b q ps.length c q2 rs.length c2 ps rs M) w) (hps : ps.length ≤ 4096) (hrs : rs.length ≤ 4096)
    (hr : ∀ r ∈ rs, r.In h) (hnm : ∀ x ∈ ps, x.name.size ≤ 4096) (hBh : B.h.le h) (s : ByteArray) (hs : s.size ≤ 4096) :
    Calls Tryz.prog 30 [.pointer (some ⟨b, 0, none⟩), .string s].toArray w (LineQ B h M b q ps.length c q2 rs.length c2 ps rs (tx s)) := by
  have htl := tx_len s
  obtain ⟨rest, hrest⟩ : ∃ x, Lib.trimPrefix (tx s) [112, 114, 101, 100, 32] = x := ⟨_, rfl⟩
  obtain ⟨pf, hpf⟩ : ∃ x, Lib.hasPrefix (tx s) [112, 114, 101, 100, 32] = x := ⟨_, rfl⟩
  obtain ⟨sf, hsf⟩ : ∃ x, Lib.hasSuffix (tx s) [46] = x := ⟨_, rfl⟩
  obtain ⟨s1, hs1⟩ : ∃ x, Lib.trimSuffix (tx s) [46] = x := ⟨_, rfl⟩
  have hL : lineR (ps, rs.map Rul.er) (tx s) = if pf = true ∧ sf = false then (predR rest).map fun x => (ps ++ [x], rs.map Rul.er)
      else if sf = false then none else (ruleR ps s1).map fun r => (ps, rs.map Rul.er ++ [r]) := by unfold lineR predW; rw [hpf, hsf, hrest, hs1]
  have hrl : rest.length ≤ s.size := by have := Lib.trimPrefix_le (tx s) [112, 114, 101, 100, 32]; rw [hrest] at this; omega
  have hsl : s1.length ≤ s.size := by have := Lib.trimSuffix_le (tx s) [46]; rw [hs1] at this; omega
  refine Calls.ofWPP (args := [.pointer (some ⟨b, 0, none⟩), .string s]) Tryz.func30 rfl Tryz.ntmps30 (by kernel_rfl) (by simp) ?_
  intro e
  refine WP.seq ?_
  refine WP.seq ?_
  refine WP.region ?_
  refine Ops.y (v := .string _) (Y.move rfl) ?_
  refine Ops.go (O.callv I Tryz.call69 (CutPre_is _ I.base_ok s [112, 114, 101, 100, 32] hrest hpf) rfl ?_)
  intro w I
  refine Ops.y (v := .tuple #[_, _]) (Y.move rfl) ?_
  refine Ops.y (v := .string _) (Y.extract rfl rfl) ?_
  refine Ops.y (v := .bool _) (Y.extract rfl rfl) ?_
  refine Ops.y (v := .string _) (Y.assign rfl) ?_
  refine Ops.y (v := .bool _) (Y.assign rfl) ?_
  refine Ops.nil ?_
  refine WP.seq ?_
  refine WP.cutK (σ := Unit) (fun _ => [(0, .pointer (some ⟨b, 0, none⟩)), (1, .string s), (4, .string (mk rest)), (30, .bool (pf && !sf))])
    (fun _ w => Inv B h (linM b q ps.length c q2 rs.length c2 ps rs M) w) ?_ ?_
  · cases pf with
    | false =>
      refine WP.region ?_
      refine Ops.y (v := .bool _) (Y.move rfl) ?_
      refine Ops.y (v := .bool false) (Y.b (Y.move rfl) (rfl)) ?_
      refine Ops.gf rfl ?_
      refine Ops.gf rfl ?_
      refine Ops.gf rfl ?_
      refine Ops.y (v := .bool _) (Y.pick_f rfl rfl) ?_
      refine Ops.nil ?_
      exact ⟨(), ⟨rfl, rfl, rfl, rfl, trivial⟩, I⟩
    | true =>
      refine WP.region ?_
      refine Ops.y (v := .bool _) (Y.move rfl) ?_
      refine Ops.y (v := .bool true) (Y.b (Y.move rfl) (rfl)) ?_
      refine Ops.ygt rfl (v := .string _) (Y.move rfl) ?_
      refine Ops.gt rfl (O.callv I Tryz.call38 (HasSuf_is _ I.base_ok s (by omega) [46] hsf) rfl ?_)
      intro w I
      refine Ops.ygt rfl (v := .bool _) (Y.not rfl) ?_
      refine Ops.y (v := .bool _) (Y.pick_t rfl rfl) ?_
      refine Ops.nil ?_
      exact ⟨(), ⟨rfl, rfl, rfl, rfl, trivial⟩, I⟩
  rintro _ e w I
  refine WP.cond rfl (fun h30 => ?_) (fun h30 => ?_)
  · have h30' : pf = true ∧ sf = false := by simpa using h30
    rw [if_pos h30'] at hL
    refine WP.seq ?_
    refine WP.region ?_
    refine Ops.y (v := .string _) (Y.move rfl) ?_
    refine Ops.go (O.call I Tryz.call70 (Split_ok _ I.base_ok V (mk rest) ⟨#[32]⟩ (by rw [mk_size]; omega) (Nat.le_refl 1)) rfl ?_)
    rintro _ h1 w I gl1 ⟨ws, rfl, iws, hws⟩
    refine Ops.y (v := .slice _ _ _) (Y.assign rfl) ?_
    refine Ops.nil ?_
    have hws' : ws.xs.map tx = Lib.split rest [32] := hws
    have V1 := V.le gl1
    by_cases h3 : ws.xs.length = 3
    · obtain ⟨x0, x1, x2, hx⟩ := els3 h3
      have hR : predR rest = match numR (tx x1), numR (tx x2) with | some a, some k => some ⟨⟨(tx x0).toArray⟩, a, k⟩ | _, _ => none := by
        unfold predR; rw [← hws', hx] <;> rfl
      have hwl : ∀ x ∈ ws.xs, x.size ≤ 4096 := fun x hx => by
        have := split_len (s := rest) (sep := [32]) (x := tx x) (by rw [← hws']; exact List.mem_map_of_mem hx)
        rw [tx_len] at this; omega
      have hz0 := hwl x0 (by rw [hx]; simp)
      have hz1 := hwl x1 (by rw [hx]; simp)
      have hz2 := hwl x2 (by rw [hx]; simp)
      refine WP.seq ?_
      refine WP.regionP _ (fun _ _ _ h => h) ?_
      refine OpsP.y (v := .slice _ _ _) (Y.move rfl) ?_
      refine OpsP.y (v := .int .i64 _) (Y.lens Tryz.underlying66 rfl) ?_
      refine OpsP.y (v := .bool true) (Y.dec_t (Y.eqi rfl rfl) ((by omega))) ?_
      refine OpsP.p (O.callpX I Tryz.call32 (must_ok _ I.base_ok true) rfl (fun w' g p => by cases p) ?_)
      rintro _ h2 w I gl2 ⟨_, rfl⟩
      refine OpsP.nil ?_
      have E0 := (iws.le gl2).el.el (i := 0) (x := x0) (by rw [hx]; rfl)
      have E1 := (iws.le gl2).el.el (i := 1) (x := x1) (by rw [hx]; rfl)
      have E2 := (iws.le gl2).el.el (i := 2) (x := x2) (by rw [hx]; rfl)
      have V2 := V1.le gl2
      obtain ⟨na, hna⟩ : ∃ n, (numR (tx x1)).getD 0 = n := ⟨_, rfl⟩
      obtain ⟨nk, hnk⟩ : ∃ n, (numR (tx x2)).getD 0 = n := ⟨_, rfl⟩
      have bad1 : numR (tx x1) = none → lineR (ps, rs.map Rul.er) (tx s) = none := fun hh => by rw [hL, hR, hh]; rfl
      have bad2 : numR (tx x2) = none → lineR (ps, rs.map Rul.er) (tx s) = none := fun hh => by rw [hL, hR, hh]; cases numR (tx x1) <;> rfl
      refine WP.seq ?_
      refine WP.regionGP _ (fun _ _ _ h => h) mixed RAp.pre ⟨h2, none⟩ (J := JAp B (ownSl 64 5 (.slice q2 rs.length c2) rs.length (rs.flatMap Rul.enc) :: box b [.slice q ps.length c, .slice q2 rs.length c2] 25 :: M) 53 3 ps.length 1 (.slice q ps.length c) (ps.flatMap Prd.enc) (Prd.enc ⟨x0, na, nk⟩) 18) ⟨rfl, I.drew⟩ 19 (by kernel_rfl) ?_
      refine OpsGP.y_ (v := .pointer (some ⟨_, _, none⟩)) (fun _ => runsG_none _) RAp.pre (JAp.set (by decide)) (fun _ s w us hl hj => have I := hj.base; have hl := hl.h; Y.move rfl) ?_
      refine OpsGP.y_ (v := .pointer (some ⟨_, _, none⟩)) (fun _ => runsG_none _) RAp.pre (JAp.set (by decide)) (fun _ s w us hl hj => have I := hj.base; have hl := hl.h; Y.move rfl) ?_
      refine OpsGP.y_ (v := .pointer (some ⟨_, _, none⟩)) (fun _ => runsG_none _) RAp.pre (JAp.set (by decide)) (fun _ s w us hl hj => have I := hj.base; have hl := hl.h; Y.nilp rfl) ?_
      refine OpsGP.y_ (v := .pointer (some ⟨_, _, none⟩)) (fun _ => runsG_none _) RAp.pre (JAp.set (by decide)) (fun _ s w us hl hj => have I := hj.base; have hl := hl.h; Y.fa0 fa_25_0 rfl) ?_
      refine OpsGP.y_ (v := .slice _ _ _) (fun _ => runsG_none _) RAp.pre (JAp.set (by decide)) (fun _ s w us hl hj => have I := hj.base; have hl := hl.h; Y.loadv ty_22 rfl (I.rdbox 1 rfl 0 1) rfl rfl) ?_
      refine OpsGP.y_ (v := .slice _ _ _) (fun _ => runsG_none _) RAp.pre (JAp.set (by decide)) (fun _ s w us hl hj => have I := hj.base; have hl := hl.h; Y.move rfl) ?_
      refine OpsGP.y_ (v := .pointer (some ⟨_, _, none⟩)) (fun _ => runsG_none _) RAp.pre (JAp.set (by decide)) (fun _ s w us hl hj => have I := hj.base; have hl := hl.h; Y.idxEl E0 Tryz.underlying66 Tryz.sizeOf9 rfl rfl (by decide) rfl) ?_
      refine OpsGP.y_ (v := .string _) (fun _ => runsG_none _) RAp.pre (JAp.set (by decide)) (fun _ s w us hl hj => have I := hj.base; have hl := hl.h; Y.loadv ty_9 rfl (I.rd ((E0.rd.part 0 1).le hl)) rfl rfl) ?_
      refine OpsGP.y_ (v := .slice _ _ _) (fun _ => runsG_none _) RAp.pre (JAp.set (by decide)) (fun _ s w us hl hj => have I := hj.base; have hl := hl.h; Y.move rfl) ?_
      refine OpsGP.y_ (v := .pointer (some ⟨_, _, none⟩)) (fun _ => runsG_none _) RAp.pre (JAp.set (by decide)) (fun _ s w us hl hj => have I := hj.base; have hl := hl.h; Y.idxEl E1 Tryz.underlying66 Tryz.sizeOf9 rfl rfl (by decide) rfl) ?_
      refine OpsGP.y_ (v := .string _) (fun _ => runsG_none _) RAp.pre (JAp.set (by decide)) (fun _ s w us hl hj => have I := hj.base; have hl := hl.h; Y.loadv ty_9 rfl (I.rd ((E1.rd.part 0 1).le hl)) rfl rfl) ?_
      refine OpsGP.x_ (Φ := KnAp (AndV (numR (tx x1) = some na) (.int .i64 na))) (KnAp.mono AndV.mono) (fun _ => runsG_none _) (fun D' z w hDk hl hj => ?_) ?_
      · refine AllG.all fun us => ?_
        refine hj.knowP (by decide) fun N hN I => ?_
        have hl := hl.h
        refine O.callpX I Tryz.call71 (num_ok _ I.base_ok (V2.le hl) x1 (by omega)) rfl (fun w' g p => ⟨rfl, ⟨_, by subst hN; exact (I.grow g).drop.drop⟩, bad1 p⟩) ?_
        rintro _ h1 w I hl' ⟨m, hm, rfl⟩
        exact ⟨_, hl', I, by rw [hm] at hna; subst hna; exact ⟨hm, rfl⟩⟩
      refine OpsGP.y_ (v := .slice _ _ _) (fun _ => runsG_none _) RAp.pre (JAp.set (by decide)) (fun _ s w us hl hj => have I := hj.base; have hl := hl.h; Y.move rfl) ?_
      refine OpsGP.y_ (v := .pointer (some ⟨_, _, none⟩)) (fun _ => runsG_none _) RAp.pre (JAp.set (by decide)) (fun _ s w us hl hj => have I := hj.base; have hl := hl.h; Y.idxEl E2 Tryz.underlying66 Tryz.sizeOf9 rfl rfl (by decide) rfl) ?_
      refine OpsGP.y_ (v := .string _) (fun _ => runsG_none _) RAp.pre (JAp.set (by decide)) (fun _ s w us hl hj => have I := hj.base; have hl := hl.h; Y.loadv ty_9 rfl (I.rd ((E2.rd.part 0 1).le hl)) rfl rfl) ?_
      refine OpsGP.x_ (Φ := KnAp (AndV (numR (tx x2) = some nk) (.int .i64 nk))) (KnAp.mono AndV.mono) (fun _ => runsG_none _) (fun D' z w hDk hl hj => ?_) ?_
      · intro u48 q48
        refine hj.knowP (by decide) fun N hN I => ?_
        have hl := hl.h
        refine O.callpX I Tryz.call71 (num_ok _ I.base_ok (V2.le hl) x2 (by omega)) rfl (fun w' g p => ⟨rfl, ⟨_, by subst hN; exact (I.grow g).drop.drop⟩, bad2 p⟩) ?_
        rintro _ h1 w I hl' ⟨m, hm, rfl⟩
        exact ⟨_, hl', I, by rw [hm] at hnk; subst hnk; exact ⟨hm, rfl⟩⟩
      refine OpsGP.x_ (Φ := KnAp (EqV (.agg #[.string x0, .int .i64 na, .int .i64 nk]))) (KnAp.mono EqV.mono) (fun _ => runsG_none _) (fun D' z w hDk hl hj => ?_) ?_
      · intro u48 q48 u52 q52
        obtain ⟨_, rfl⟩ := q48 rfl
        obtain ⟨_, rfl⟩ := q52 rfl
        refine Op1P.of ?_
        refine hj.know (by decide) fun N I => ?_
        have hl := hl.h
        exact O.yx I (Y.build pl_53 Tryz.zeroValue53 rfl rfl) (rfl)
      refine OpsGP.x_ (Φ := KnA (LitW 53 (Prd.enc ⟨x0, na, nk⟩) 1)) (KnA.mono LitW.mono) (fun _ => runsG_none _) (fun D' z w hDk hl hj => ?_) ?_
      · intro u48 q48 u52 q52 u53 q53
        obtain rfl : u53 = .agg #[.string x0, .int .i64 na, .int .i64 nk] := q53 rfl
        refine Op1P.of ?_
        refine hj.know (by decide) fun N I => ?_
        exact O.mklit (cs := Prd.enc ⟨x0, na, nk⟩) I Tryz.underlying22 Tryz.sizeOf53 Tryz.zeroValue53 (by decide) (by decide) rfl rfl (fun v h w I le sl => ⟨h, le, I, sl⟩)
      refine OpsGP.x_ (Φ := AtAp (ps.length + 1)) AtAp.mono (fun _ => runsG_none _) (fun D' z w hDk hl hj => ?_) ?_
      · intro u48 q48 u52 q52 u53 q53 u54 q54
        obtain ⟨bl, rfl, hbl⟩ := q54 rfl
        refine Op1P.of ?_
        refine hj.app hDk fun I => ?_
        have kb : Known z.h bl (Prd.enc ⟨x0, na, nk⟩) := ⟨fun j v hv => by simp [Heap.cell, hbl, hv]⟩
        refine O.append I Tryz.underlying22 et_53 0 rfl rfl rfl (I.rd kb.rd) rfl rfl (by decide) (by omega) (by omega) ?_
        intro g c w I
        exact ⟨g, c, rfl, I⟩
      refine OpsGP.nil ?_
      intro D z w hD hl hj u48 q48 u52 q52 u53 q53 u54 q54 u55 q55
      obtain ⟨g, c3, rfl, h7⟩ := q55 rfl
      have I := hj.inv
      rw [h7] at I
      obtain ⟨hn1, _⟩ := q48 rfl
      obtain ⟨hn2, _⟩ := q52 rfl
      refine OpsP.y (v := .pointer (some ⟨_, _, none⟩)) (Y.nilp rfl) ?_
      refine OpsP.y (v := .pointer (some ⟨_, _, none⟩)) (Y.fa0 fa_25_0 rfl) ?_
      refine OpsP.go (O.store (v := .slice _ _ _) I ty_22 2 rfl rfl rfl rfl rfl rfl (Nat.le_of_ble_eq_true rfl) rfl ?_)
      intro w I
      refine OpsP.nil ?_
      refine WP.ret ?_
      exact ⟨[], trivial, rfl, z.h, some ⟨g, 0, none⟩, c3, q2, c2, ps ++ [⟨x0, na, nk⟩], rs, (gl1.trans gl2).trans hl.h, by unfold linM; rw [List.length_append, List.flatMap_append, List.flatMap_singleton]; exact I, by rw [hL, hR, hn1, hn2]; simp only [mk_tx]; rfl, fun r hm => (hr r hm).le ((gl1.trans gl2).trans hl.h), fun x hm => by
        rcases List.mem_append.1 hm with hm | hm
        · exact hnm x hm
        · rw [List.mem_singleton] at hm; subst hm; exact hz0, by simp, by omega⟩
    · have bad0 : lineR (ps, rs.map Rul.er) (tx s) = none := by
        rw [hL]
        unfold predR
        rw [← hws']
        split
        · rename_i n a k he
          exact absurd (by have := congrArg List.length he; simpa using this) h3
        · rfl
      refine WP.seq ?_
      refine WP.regionP _ (fun _ _ _ h => h) ?_
      refine OpsP.y (v := .slice _ _ _) (Y.move rfl) ?_
      refine OpsP.y (v := .int .i64 _) (Y.lens Tryz.underlying66 rfl) ?_
      refine OpsP.y (v := .bool false) (Y.dec_f (Y.eqi rfl rfl) ((by omega))) ?_
      refine OpsP.p (O.callpX I Tryz.call32 (must_ok _ I.base_ok false) rfl (fun w' g _ => ⟨rfl, ⟨_, (I.grow g).drop.drop⟩, bad0⟩) ?_)
      rintro _ h2 w I gl2 ⟨hh, _⟩
      refine OpsP.nil ?_
      cases hh
  have h30' : ¬ (pf = true ∧ sf = false) := fun hh => by rw [hh.1, hh.2] at h30; simp at h30
  rw [if_neg h30'] at hL
  refine WP.skip ?_
  refine WP.seq ?_
  refine WP.region ?_
  refine Ops.y (v := .string _) (Y.move rfl) ?_
  refine Ops.go (O.callv I Tryz.call72 (CutSuf_is _ I.base_ok s (by omega) [46] hs1 hsf) rfl ?_)
  intro w I
  refine Ops.y (v := .tuple #[_, _]) (Y.move rfl) ?_
  refine Ops.y (v := .string _) (Y.extract rfl rfl) ?_
  refine Ops.y (v := .bool _) (Y.extract rfl rfl) ?_
  refine Ops.y (v := .string _) (Y.assign rfl) ?_
  refine Ops.y (v := .bool _) (Y.assign rfl) ?_
  refine Ops.nil ?_
  cases sf with
  | false =>
    have bad : lineR (ps, rs.map Rul.er) (tx s) = none := by rw [hL, if_pos rfl]
    refine WP.seq ?_
    refine WP.regionP _ (fun _ _ _ h => h) ?_
    refine OpsP.y (v := .bool _) (Y.move rfl) ?_
    refine OpsP.p (O.callpX I Tryz.call32 (must_ok _ I.base_ok false) rfl (fun w' g _ => ⟨rfl, ⟨_, (I.grow g).drop.drop⟩, bad⟩) ?_)
    rintro _ h2 w I gl2 ⟨hh, _⟩
    refine OpsP.nil ?_
    cases hh
  | true =>
  rw [if_neg (by decide)] at hL
  refine WP.seq ?_
  refine WP.regionP _ (fun _ _ _ h => h) ?_
  refine OpsP.y (v := .bool _) (Y.move rfl) ?_
  refine OpsP.p (O.callpX I Tryz.call32 (must_ok _ I.base_ok true) rfl (fun w' g p => by cases p) ?_)
  rintro _ h1 w I gl1 ⟨_, rfl⟩
  refine OpsP.nil ?_
  have V1 := V.le gl1
  have hcl1 := cut_len s1 [32, 58, 45, 32]
  obtain ⟨hd, bd, has, hcut⟩ : ∃ x y z, Lib.cut s1 [32, 58, 45, 32] = (x, y, z) := ⟨_, _, _, rfl⟩
  have hcl2 := cut_len hd [32, 61, 32]
  obtain ⟨hd1, va, isv, hcut2⟩ : ∃ x y z, Lib.cut hd [32, 61, 32] = (x, y, z) := ⟨_, _, _, rfl⟩
  rw [hcut] at hcl1
  rw [hcut2] at hcl2
  dsimp only at hcl1 hcl2
  have hH : hdR hd = (hd1, if isv = true then valR va else some (-1, 0)) := by unfold hdR; rw [hcut2]
  have hR : ruleR ps s1 = match (if isv = true then valR va else some (-1, 0)) with
      | none => none
      | some v => match atomR ps hd1 with
        | none => none
        | some a => if has = true then (litsR ps (Lib.split bd [44, 32])).map (mkR a v) else some (mkR a v []) := by
    unfold ruleR; rw [hcut]; simp only [hH]; rfl
  have badV : (if isv = true then valR va else some (-1, 0)) = none → lineR (ps, rs.map Rul.er) (tx s) = none := fun hh => by rw [hL, hR, hh]; rfl
  refine WP.seq ?_
  refine WP.region ?_
  refine Ops.y (v := .string _) (Y.move rfl) ?_
  refine Ops.go (O.callv I Tryz.call73 (Cut_is _ I.base_ok V1 (mk s1) (by rw [mk_size]; omega) [32, 58, 45, 32] hcut) rfl ?_)
  intro w I
  refine Ops.y (v := .tuple #[_, _, _]) (Y.move rfl) ?_
  refine Ops.y (v := .string _) (Y.extract rfl rfl) ?_
  refine Ops.y (v := .string _) (Y.extract rfl rfl) ?_
  refine Ops.y (v := .bool _) (Y.extract rfl rfl) ?_
  refine Ops.y (v := .string _) (Y.assign rfl) ?_
  refine Ops.y (v := .string _) (Y.assign rfl) ?_
  refine Ops.y (v := .bool _) (Y.assign rfl) ?_
  refine Ops.nil ?_
  refine WP.seq ?_
  refine WP.region ?_
  refine Ops.y (v := .agg #[.int .i64 _, .slice _ _ _, .int .i64 _, .int .i64 _, .slice _ _ _]) (Y.build pl_64 Tryz.zeroValue64 rfl rfl) ?_
  refine Ops.go (O.alloc I Tryz.zeroValue64 rfl ?_)
  intro b11 w I
  refine Ops.go (O.store (v := .agg #[_, _, _, _, _]) I ty_64 0 rfl rfl rfl rfl rfl rfl (Nat.le_of_ble_eq_true rfl) rfl ?_)
  intro w I
  refine Ops.nil ?_
  refine WP.seq ?_
  refine WP.region ?_
  refine Ops.y (v := .string _) (Y.move rfl) ?_
  refine Ops.go (O.callv I Tryz.call73 (Cut_is _ I.base_ok V1 (mk hd) (by rw [mk_size]; omega) [32, 61, 32] hcut2) rfl ?_)
  intro w I
  refine Ops.y (v := .tuple #[_, _, _]) (Y.move rfl) ?_
  refine Ops.y (v := .string _) (Y.extract rfl rfl) ?_
  refine Ops.y (v := .string _) (Y.extract rfl rfl) ?_
  refine Ops.y (v := .bool _) (Y.extract rfl rfl) ?_
  refine Ops.y (v := .string _) (Y.assign rfl) ?_
  refine Ops.y (v := .string _) (Y.assign rfl) ?_
  refine Ops.y (v := .bool _) (Y.assign rfl) ?_
  refine Ops.nil ?_
  refine WP.seq ?_
  refine WP.seq ?_
  refine WP.region ?_
  refine Ops.y (v := .bool _) (Y.move rfl) ?_
  refine Ops.nil ?_
  refine WP.cutL (σ := (Int × Int) × Heap) (fun _ => [(0, .pointer (some ⟨b, 0, none⟩)), (8, .string (mk hd1)), (9, .string (mk bd)), (10, .bool has), (11, .pointer (some ⟨b11, 0, none⟩))])
    (fun s w => Inv B s.2 (box b11 [.int .i64 0, .slice none 0 0, .int .i64 s.1.1, .int .i64 s.1.2, .slice none 0 0] 64 :: linM b q ps.length c q2 rs.length c2 ps rs M) w ∧ (if isv = true then valR va else some (-1, 0)) = some s.1 ∧ h1.le s.2) ?_ ?_
  · refine WP.cond rfl (fun h10 => ?_) (fun h10 => ?_)
    · have h10' : isv = true := h10
      have hcl3 := cut_len va [43]
      obtain ⟨f0, n0, pl, hcut3⟩ : ∃ x y z, Lib.cut va [43] = (x, y, z) := ⟨_, _, _, rfl⟩
      rw [hcut3] at hcl3
      dsimp only at hcl3
      have hV : valR va = if pl = true then if Lib.hasPrefix f0 [35] = false then none else (match numR (Lib.trimPrefix f0 [35]), numR n0 with | some a, some b => some (a, b) | _, _ => none) else (numR va).map fun n => (-1, n) := by unfold valR; rw [hcut3] <;> rfl
      rw [if_pos h10'] at badV
      refine WP.seq ?_
      refine WP.region ?_
      refine Ops.y (v := .string _) (Y.move rfl) ?_
      refine Ops.go (O.callv I Tryz.call73 (Cut_is _ I.base_ok V1 (mk va) (by rw [mk_size]; omega) [43] hcut3) rfl ?_)
      intro w I
      refine Ops.y (v := .tuple #[_, _, _]) (Y.move rfl) ?_
      refine Ops.y (v := .string _) (Y.extract rfl rfl) ?_
      refine Ops.y (v := .string _) (Y.extract rfl rfl) ?_
      refine Ops.y (v := .bool _) (Y.extract rfl rfl) ?_
      refine Ops.y (v := .string _) (Y.assign rfl) ?_
      refine Ops.y (v := .string _) (Y.assign rfl) ?_
      refine Ops.y (v := .bool _) (Y.assign rfl) ?_
      refine Ops.nil ?_
      refine WP.seq ?_
      refine WP.region ?_
      refine Ops.y (v := .bool _) (Y.move rfl) ?_
      refine Ops.nil ?_
      refine WP.cond rfl (fun h12 => ?_) (fun h12 => ?_)
      · have h12' : pl = true := h12
        rw [if_pos h12'] at hV
        have hfl := Lib.trimPrefix_le f0 [35]
        obtain ⟨f1, hf1⟩ : ∃ x, Lib.trimPrefix f0 [35] = x := ⟨_, rfl⟩
        obtain ⟨hf, hhf⟩ : ∃ x, Lib.hasPrefix f0 [35] = x := ⟨_, rfl⟩
        rw [hf1] at hfl hV
        rw [hhf] at hV
        refine WP.seq ?_
        refine WP.region ?_
        refine Ops.y (v := .string _) (Y.move rfl) ?_
        refine Ops.go (O.callv I Tryz.call69 (CutPre_is _ I.base_ok (mk f0) [35] hf1 hhf) rfl ?_)
        intro w I
        refine Ops.y (v := .tuple #[_, _]) (Y.move rfl) ?_
        refine Ops.y (v := .string _) (Y.extract rfl rfl) ?_
        refine Ops.y (v := .bool _) (Y.extract rfl rfl) ?_
        refine Ops.y (v := .string _) (Y.assign rfl) ?_
        refine Ops.y (v := .bool _) (Y.assign rfl) ?_
        refine Ops.nil ?_
        cases hf with
        | false =>
          have bad := badV (by rw [hV, if_pos rfl])
          refine WP.seq ?_
          refine WP.regionP _ (fun _ _ _ h => h) ?_
          refine OpsP.y (v := .bool _) (Y.move rfl) ?_
          refine OpsP.p (O.callpX I Tryz.call32 (must_ok _ I.base_ok false) rfl (fun w' g _ => ⟨rfl, ⟨_, (I.grow g).drop.drop.drop⟩, bad⟩) ?_)
          rintro _ h2 w I gl2 ⟨hh, _⟩
          refine OpsP.nil ?_
          cases hh
        | true =>
        rw [if_neg (by decide)] at hV
        refine WP.seq ?_
        refine WP.regionP _ (fun _ _ _ h => h) ?_
        refine OpsP.y (v := .bool _) (Y.move rfl) ?_
        refine OpsP.p (O.callpX I Tryz.call32 (must_ok _ I.base_ok true) rfl (fun w' g p => by cases p) ?_)
        rintro _ h2 w I gl2 ⟨_, rfl⟩
        refine OpsP.nil ?_
        refine WP.regionP _ (fun _ _ _ h => h) ?_
        refine OpsP.y (v := .string _) (Y.move rfl) ?_
        refine OpsP.p (O.callpX I Tryz.call71 (num_ok _ I.base_ok (V1.le gl2) (mk f1) (by rw [mk_size]; omega)) rfl (fun w' g p => ⟨rfl, ⟨_, (I.grow g).drop.drop.drop⟩, badV (by rw [hV]; rw [show numR f1 = none from p])⟩) ?_)
        rintro _ h3 w I gl3 ⟨m1, hm1, rfl⟩
        refine OpsP.y (v := .string _) (Y.move rfl) ?_
        refine OpsP.p (O.callpX I Tryz.call71 (num_ok _ I.base_ok (V1.le (gl2.trans gl3)) (mk n0) (by rw [mk_size]; omega)) rfl (fun w' g p => ⟨rfl, ⟨_, (I.grow g).drop.drop.drop⟩, badV (by rw [hV]; rw [show numR n0 = none from p]; cases numR f1 <;> rfl)⟩) ?_)
        rintro _ h4 w I gl4 ⟨m2, hm2, rfl⟩
        refine OpsP.y (v := .pointer (some ⟨_, _, none⟩)) (Y.fa fa_64_1 rfl) ?_
        refine OpsP.go (O.store (v := .int .i64 _) I ty_3 0 rfl rfl rfl rfl rfl rfl (Nat.le_of_ble_eq_true rfl) rfl ?_)
        intro w I
        refine OpsP.y (v := .pointer (some ⟨_, _, none⟩)) (Y.fa fa_64_2 rfl) ?_
        refine OpsP.go (O.store (v := .int .i64 _) I ty_3 0 rfl rfl rfl rfl rfl rfl (Nat.le_of_ble_eq_true rfl) rfl ?_)
        intro w I
        refine OpsP.nil ?_
        exact ⟨((m1, m2), h4), ⟨rfl, rfl, rfl, rfl, rfl, trivial⟩, I, by rw [if_pos h10', hV]; rw [show numR f1 = some m1 from hm1, show numR n0 = some m2 from hm2], (gl2.trans gl3).trans gl4⟩
      · have h12' : ¬ pl = true := by rw [h12]; decide
        rw [if_neg h12'] at hV
        refine WP.regionP _ (fun _ _ _ h => h) ?_
        refine OpsP.y (v := .string _) (Y.move rfl) ?_
        refine OpsP.p (O.callpX I Tryz.call71 (num_ok _ I.base_ok V1 (mk va) (by rw [mk_size]; omega)) rfl (fun w' g p => ⟨rfl, ⟨_, (I.grow g).drop.drop.drop⟩, badV (by rw [hV]; rw [show numR va = none from p]; rfl)⟩) ?_)
        rintro _ h3 w I gl3 ⟨m1, hm1, rfl⟩
        refine OpsP.y (v := .pointer (some ⟨_, _, none⟩)) (Y.fa fa_64_2 rfl) ?_
        refine OpsP.go (O.store (v := .int .i64 _) I ty_3 0 rfl rfl rfl rfl rfl rfl (Nat.le_of_ble_eq_true rfl) rfl ?_)
        intro w I
        refine OpsP.nil ?_
        exact ⟨((-1, m1), h3), ⟨rfl, rfl, rfl, rfl, rfl, trivial⟩, I, by rw [if_pos h10', hV]; rw [show numR va = some m1 from hm1]; rfl, gl3⟩
    · have h10' : ¬ isv = true := by rw [h10]; decide
      refine WP.skip ?_
      exact ⟨((-1, 0), h1), ⟨rfl, rfl, rfl, rfl, rfl, trivial⟩, I, by rw [if_neg h10'], Heap.le.refl _⟩
  rintro ⟨v, h5⟩ e w ⟨I, hv, gl5⟩
  dsimp only at I hv gl5 ⊢
  rw [hv] at hR
  dsimp only at hR
  obtain ⟨h6, sp, le6, hvp, hxp, osp, J⟩ := (I.front 1 rfl).settleO rfl
  clear I
  have I : Inv B h6 (box b11 [.int .i64 0, .slice none 0 0, .int .i64 v.1, .int .i64 v.2, .slice none 0 0] 64 :: ownSl 64 5 (.slice q2 rs.length c2) rs.length (rs.flatMap Rul.enc) :: box b [sp.val, .slice q2 rs.length c2] 25 :: M) w := by rw [hvp]; exact J
  have isp : Prds sp h6 := ⟨osp.in (fun _ => rfl), by rw [hxp]; omega⟩
  have V6 := V1.le (gl5.trans le6)
  have hbx : ∀ {h' : Heap} {w' : World}, Inv B h' (box b [sp.val, .slice q2 rs.length c2] 25 :: M) w' → ∃ h', Inv B h' (box b [.slice q ps.length c, .slice q2 rs.length c2] 25 :: M) w' := fun J => by rw [hvp] at J; exact ⟨_, J⟩
  refine WP.seq ?_
  refine WP.regionP _ (fun _ _ _ h => h) ?_
  refine OpsP.y (v := .pointer (some ⟨_, _, none⟩)) (Y.move rfl) ?_
  refine OpsP.y (v := .pointer (some ⟨_, _, none⟩)) (Y.nilp rfl) ?_
  refine OpsP.y (v := .pointer (some ⟨_, _, none⟩)) (Y.fa0 fa_25_0 rfl) ?_
  refine OpsP.y (v := .slice _ _ _) (Y.loadv ty_22 rfl (I.rdbox 2 rfl 0 1) rfl rfl) ?_
  refine OpsP.y (v := .string _) (Y.move rfl) ?_
  refine OpsP.p (O.callpX I Tryz.call74 (atom_ok _ I.base_ok V6 sp isp (mk hd1) (by rw [mk_size]; omega)) rfl (fun w' g p => ⟨rfl, hbx (I.grow g).drop.drop, by rw [hxp] at p; rw [hL, hR, show atomR ps hd1 = none from p]; rfl⟩) ?_)
  rintro _ h7 w I gl7 ⟨a1, rfl, oa1, la1, ra1⟩
  refine OpsP.y (v := .pointer (some ⟨_, _, none⟩)) (Y.fa0 fa_64_0 rfl) ?_
  refine OpsP.go (O.store (v := .agg #[_, _]) I ty_61 0 rfl rfl rfl rfl rfl rfl (Nat.le_of_ble_eq_true rfl) rfl ?_)
  intro w I
  refine OpsP.nil ?_
  rw [hxp] at ra1
  rw [show atomR ps hd1 = some a1.er from ra1] at hR
  dsimp only at hR
  have V7 := V6.le gl7
  refine WP.seq ?_
  refine WP.seq ?_
  refine WP.region ?_
  refine Ops.y (v := .string _) (Y.move rfl) ?_
  refine Ops.go (O.call I Tryz.call70 (Split_ok _ I.base_ok V7 (mk bd) ⟨#[44, 32]⟩ (by rw [mk_size]; omega) (by decide)) rfl ?_)
  rintro _ h8 w I gl8 ⟨ws, rfl, iws, hws⟩
  refine Ops.y (v := .int .i64 _) (Y.lens Tryz.underlying66 rfl) ?_
  refine Ops.y (v := .int .i64 _) (Y.move rfl) ?_
  refine Ops.nil ?_
  have hws' : ws.xs.map tx = Lib.split bd [44, 32] := hws
  have hwl : ∀ x ∈ ws.xs, x.size ≤ 4096 := fun x hx => by
    have := split_len (s := bd) (sep := [44, 32]) (x := tx x) (by rw [← hws']; exact List.mem_map_of_mem hx)
    rw [tx_len] at this; omega
  have hwsm : ws.xs.length ≤ 4098 := by
    have h1 := split_cnt bd [44, 32]
    rw [← hws', List.length_map] at h1; omega
  have V8 := V7.le gl8
  have isp8 := isp.le (gl7.trans gl8)
  refine WP.cutL (σ := Option Addr × Nat × Nat × Heap × List Ltl) (fun _ => [(0, .pointer (some ⟨b, 0, none⟩)), (11, .pointer (some ⟨b11, 0, none⟩))])
    (fun s w => Inv B s.2.2.2.1 (ownSl 68 3 (.slice s.1 s.2.1 s.2.2.1) s.2.1 (s.2.2.2.2.flatMap Ltl.enc) :: box b11 [.int .i64 a1.pred, a1.args.val, .int .i64 v.1, .int .i64 v.2, .slice s.1 s.2.1 s.2.2.1] 64 :: ownSl 64 5 (.slice q2 rs.length c2) rs.length (rs.flatMap Rul.enc) :: box b [sp.val, .slice q2 rs.length c2] 25 :: M) w ∧ h8.le s.2.2.2.1 ∧ s.2.2.2.2.length = s.2.1 ∧ s.2.1 ≤ 4098 ∧
      (∀ x ∈ s.2.2.2.2, OwnH 109 2 x.atom.args Trm.enc h7 s.2.2.2.1 ∧ x.atom.args.xs.length ≤ 4098) ∧ (if has = true then (litsR ps (Lib.split bd [44, 32])).map (mkR a1.er v) else some (mkR a1.er v [])) = some (mkR a1.er v (s.2.2.2.2.map Ltl.er))) ?_ ?_
  · cases has with
    | false =>
      refine WP.block ?_
      refine WP.loopE (σ := Unit) (fun _ => [(0, .pointer (some ⟨b, 0, none⟩)), (10, .bool false), (11, .pointer (some ⟨b11, 0, none⟩)), (110, ws.val), (111, .int .i64 ws.xs.length), (112, .int .i64 0)])
        (fun _ w => Inv B h8 (box b11 [.int .i64 a1.pred, a1.args.val, .int .i64 v.1, .int .i64 v.2, .slice none 0 0] 64 :: ownSl 64 5 (.slice q2 rs.length c2) rs.length (rs.flatMap Rul.enc) :: box b [sp.val, .slice q2 rs.length c2] 25 :: M) w) (fun _ => 0)
        ⟨(), ⟨rfl, rfl, rfl, rfl, rfl, rfl, trivial⟩, I⟩ ?_
      rintro _ e w I
      refine WP.seq ?_
      refine WP.region ?_
      refine Ops.y (v := .bool (decide _)) (Y.lti rfl rfl) ?_
      refine Ops.nil ?_
      refine WP.seq ?_
      refine WP.cond_dec rfl (fun h19 => ?_) (fun h19 => ?_)
      · have E := iws.at (i := 0) (by omega)
        refine WP.skip ?_
        refine WP.seq ?_
        refine WP.block ?_
        refine WP.seq ?_
        refine WP.region ?_
        refine Ops.y (v := .pointer (some ⟨_, _, none⟩)) (Y.idxEl E Tryz.underlying66 Tryz.sizeOf9 rfl rfl (Int.natCast_nonneg _) rfl) ?_
        refine Ops.y (v := .string _) (Y.loadv ty_9 rfl (I.rd (E.rd.part 0 1)) rfl rfl) ?_
        refine Ops.y (v := .string _) (Y.assign rfl) ?_
        refine Ops.nil ?_
        refine WP.seq ?_
        refine WP.seq ?_
        refine WP.region ?_
        refine Ops.y (v := .bool _) (Y.move rfl) ?_
        refine Ops.y (v := .bool _) (Y.not rfl) ?_
        refine Ops.nil ?_
        refine WP.cond_t rfl ?_
        refine WP.exit ?_
        exact ⟨(none, 0, 0, h8, []), ⟨rfl, rfl, trivial⟩, I.nilSl 68 3, Heap.le.refl _, rfl, Nat.zero_le _, fun x hx => (by cases hx), by rw [if_neg (by decide)]; rfl⟩
      · refine WP.exit ?_
        exact ⟨(none, 0, 0, h8, []), ⟨rfl, rfl, trivial⟩, I.nilSl 68 3, Heap.le.refl _, rfl, Nat.zero_le _, fun x hx => (by cases hx), by rw [if_neg (by decide)]; rfl⟩
    | true =>
      rw [if_pos rfl] at hR
      refine WP.block ?_
      refine WP.loopE (σ := Nat × Option Addr × Nat × Heap × List Ltl) (fun s => [(0, .pointer (some ⟨b, 0, none⟩)), (10, .bool true), (11, .pointer (some ⟨b11, 0, none⟩)), (110, ws.val), (111, .int .i64 ws.xs.length), (112, .int .i64 s.1)])
        (fun s w => Inv B s.2.2.2.1 (ownSl 68 3 (.slice s.2.1 s.1 s.2.2.1) s.1 (s.2.2.2.2.flatMap Ltl.enc) :: box b11 [.int .i64 a1.pred, a1.args.val, .int .i64 v.1, .int .i64 v.2, .slice s.2.1 s.1 s.2.2.1] 64 :: ownSl 64 5 (.slice q2 rs.length c2) rs.length (rs.flatMap Rul.enc) :: box b [sp.val, .slice q2 rs.length c2] 25 :: M) w ∧ s.1 ≤ ws.xs.length ∧ h8.le s.2.2.2.1 ∧ s.2.2.2.2.length = s.1 ∧
          (∀ x ∈ s.2.2.2.2, OwnH 109 2 x.atom.args Trm.enc h7 s.2.2.2.1 ∧ x.atom.args.xs.length ≤ 4098) ∧ litsR ps ((ws.xs.take s.1).map tx) = some (s.2.2.2.2.map Ltl.er)) (fun s => ws.xs.length - s.1)
        ⟨(0, none, 0, h8, []), ⟨rfl, rfl, rfl, rfl, rfl, rfl, trivial⟩, I.nilSl 68 3, Nat.zero_le _, Heap.le.refl _, rfl, fun x hx => (by cases hx), rfl⟩ ?_
      rintro ⟨k, q3, c3, hh, ls⟩ e w ⟨I, hk, gl, hlen, hown, hls⟩
      dsimp only at I hk gl hlen hown hls ⊢
      refine WP.seq ?_
      refine WP.region ?_
      refine Ops.y (v := .bool (decide _)) (Y.lti rfl rfl) ?_
      refine Ops.nil ?_
      refine WP.seq ?_
      refine WP.cond_dec rfl (fun h19 => ?_) (fun h19 => ?_)
      · have hk' : k < ws.xs.length := by omega
        have E := (iws.le gl).at hk'
        obtain ⟨x, hx⟩ : ∃ x, ws.xs[k] = x := ⟨_, rfl⟩
        have hxm : x ∈ ws.xs := hx ▸ List.getElem_mem hk'
        have hxl := hwl x hxm
        have hxt := tx_len x
        have hnx : (ws.xs.take (k + 1)).map tx = (ws.xs.take k).map tx ++ [tx x] := by rw [List.take_add_one, List.getElem?_eq_getElem hk', hx]; simp
        rw [hx] at E
        have htr := Lib.trimPrefix_le (tx x) [33]
        obtain ⟨tr, htr2⟩ : ∃ y, Lib.trimPrefix (tx x) [33] = y := ⟨_, rfl⟩
        obtain ⟨ng, hng⟩ : ∃ y, Lib.hasPrefix (tx x) [33] = y := ⟨_, rfl⟩
        rw [htr2] at htr
        have hlit : litR ps (tx x) = (atomR ps tr).map fun a => ⟨ng, a⟩ := by unfold litR; rw [htr2, hng]
        have badL : atomR ps tr = none → lineR (ps, rs.map Rul.er) (tx s) = none := fun hp => by
          rw [hL, hR, ← hws', litsR_bad (List.mem_map_of_mem hxm) (by rw [hlit, hp]; rfl)]; rfl
        refine WP.skip ?_
        refine WP.seq ?_
        refine WP.block ?_
        refine WP.seq ?_
        refine WP.region ?_
        refine Ops.y (v := .pointer (some ⟨_, _, none⟩)) (Y.idxEl E Tryz.underlying66 Tryz.sizeOf9 rfl rfl (Int.natCast_nonneg _) rfl) ?_
        refine Ops.y (v := .string _) (Y.loadv ty_9 rfl (I.rd (E.rd.part 0 1)) rfl rfl) ?_
        refine Ops.y (v := .string _) (Y.assign rfl) ?_
        refine Ops.nil ?_
        refine WP.seq ?_
        refine WP.seq ?_
        refine WP.region ?_
        refine Ops.y (v := .bool _) (Y.move rfl) ?_
        refine Ops.y (v := .bool _) (Y.not rfl) ?_
        refine Ops.nil ?_
        refine WP.cond_f rfl ?_
        refine WP.skip ?_
        refine WP.seq ?_
        refine WP.region ?_
        refine Ops.y (v := .string _) (Y.move rfl) ?_
        refine Ops.go (O.callv I Tryz.call69 (CutPre_is _ I.base_ok x [33] htr2 hng) rfl ?_)
        intro w I
        refine Ops.y (v := .tuple #[_, _]) (Y.move rfl) ?_
        refine Ops.y (v := .string _) (Y.extract rfl rfl) ?_
        refine Ops.y (v := .bool _) (Y.extract rfl rfl) ?_
        refine Ops.y (v := .string _) (Y.assign rfl) ?_
        refine Ops.y (v := .bool _) (Y.assign rfl) ?_
        refine Ops.nil ?_
        refine WP.regionGP _ (fun _ _ _ h => h) mixed RAq.pre ⟨hh, none⟩ (J := JAq B (box b11 [.int .i64 a1.pred, a1.args.val, .int .i64 v.1, .int .i64 v.2, .slice q3 k c3] 64 :: ownSl 64 5 (.slice q2 rs.length c2) rs.length (rs.flatMap Rul.enc) :: box b [sp.val, .slice q2 rs.length c2] 25 :: M) 68 3 k 1 (.slice q3 k c3) (ls.flatMap Ltl.enc) 11) ⟨rfl, I.drew⟩ 12 (by kernel_rfl) ?_
        refine OpsGP.y_ (v := .pointer (some ⟨_, _, none⟩)) (fun _ => runsG_none _) RAq.pre (JAq.set (by decide)) (fun _ s w us hl hj => have I := hj.base; have hl := hl.h; Y.fa fa_64_3 rfl) ?_
        refine OpsGP.y_ (v := .slice _ _ _) (fun _ => runsG_none _) RAq.pre (JAq.set (by decide)) (fun _ s w us hl hj => have I := hj.base; have hl := hl.h; Y.loadv ty_62 rfl (I.rdbox 0 rfl 4 1) rfl rfl) ?_
        refine OpsGP.y_ (v := .bool _) (fun _ => runsG_none _) RAq.pre (JAq.set (by decide)) (fun _ s w us hl hj => have I := hj.base; have hl := hl.h; Y.move rfl) ?_
        refine OpsGP.y_ (v := .pointer (some ⟨_, _, none⟩)) (fun _ => runsG_none _) RAq.pre (JAq.set (by decide)) (fun _ s w us hl hj => have I := hj.base; have hl := hl.h; Y.move rfl) ?_
        refine OpsGP.y_ (v := .pointer (some ⟨_, _, none⟩)) (fun _ => runsG_none _) RAq.pre (JAq.set (by decide)) (fun _ s w us hl hj => have I := hj.base; have hl := hl.h; Y.nilp rfl) ?_
        refine OpsGP.y_ (v := .pointer (some ⟨_, _, none⟩)) (fun _ => runsG_none _) RAq.pre (JAq.set (by decide)) (fun _ s w us hl hj => have I := hj.base; have hl := hl.h; Y.fa0 fa_25_0 rfl) ?_
        refine OpsGP.y_ (v := .slice _ _ _) (fun _ => runsG_none _) RAq.pre (JAq.set (by decide)) (fun _ s w us hl hj => have I := hj.base; have hl := hl.h; Y.loadv ty_22 rfl (I.rdbox 2 rfl 0 1) rfl rfl) ?_
        refine OpsGP.y_ (v := .string _) (fun _ => runsG_none _) RAq.pre (JAq.set (by decide)) (fun _ s w us hl hj => have I := hj.base; have hl := hl.h; Y.move rfl) ?_
        refine OpsGP.x_ (Φ := KnAq (AtmO sp.xs tr h7)) (KnAq.mono AtmO.mono) (fun _ => runsG_none _) (fun D' z w hDk hl hj => ?_) ?_
        · refine AllG.all fun us => ?_
          refine hj.knowP (by decide) fun N hN I => ?_
          have hl := hl.h
          refine O.callpX I Tryz.call74 (atom_ok _ I.base_ok (V8.le (gl.trans hl)) sp (isp8.le (gl.trans hl)) (mk tr) (by rw [mk_size]; omega)) rfl (fun w' g p => ⟨rfl, by subst hN; exact hbx (I.grow g).drop.drop.drop, badL (by rw [hxp] at p; exact p)⟩) ?_
          rintro _ h1 w I hl' ⟨a, rfl, oa, la, ra⟩
          exact ⟨_, hl', I, ⟨a, rfl, oa.older (gl8.trans (gl.trans hl)), la, ra⟩⟩
        refine OpsGP.x_ (Φ := KnAq (LtlV sp.xs (tx x) h7)) (KnAq.mono LtlV.mono) (fun _ => runsG_none _) (fun D' z w hDk hl hj => ?_) ?_
        · intro u131 q131
          obtain ⟨a, rfl, oa, la, ra⟩ := q131 rfl
          refine Op1P.of ?_
          refine hj.know (by decide) fun N I => ?_
          have hl := hl.h
          exact O.yx I (Y.build pl_68 Tryz.zeroValue68 rfl rfl) (⟨⟨ng, a⟩, rfl, oa, la, by rw [hxp] at ra ⊢; rw [hlit, ra]; rfl⟩)
        refine OpsGP.x_ (Φ := KnAq (LitP 68 (LtlO sp.xs (tx x) h7))) (KnAq.mono (LitP.mono LtlO.mono)) (fun _ => runsG_none _) (fun D' z w hDk hl hj => ?_) ?_
        · intro u131 q131 u132 q132
          obtain ⟨y, rfl, oy, ly, ry⟩ := q132 rfl
          refine Op1P.of ?_
          refine hj.know (by decide) fun N I => ?_
          exact O.mklit (cs := y.enc) I Tryz.underlying62 Tryz.sizeOf68 Tryz.zeroValue68 (by decide) (by decide) rfl rfl (fun v h w I le sl => ⟨h, le, I, y.enc, sl, y, rfl, oy.le le, ly, ry⟩)
        refine OpsGP.x_ (Φ := AtAq (LtlO sp.xs (tx x) h7) (k + 1)) (AtAq.mono LtlO.mono) (fun _ => runsG_none _) (fun D' z w hDk hl hj => ?_) ?_
        · intro u131 q131 u132 q132 u133 q133
          obtain ⟨cs, ⟨bl, rfl, hbl⟩, y, rfl, oy, ly, ry⟩ := q133 rfl
          refine Op1P.of ?_
          refine hj.app hDk fun I => ?_
          have kb : Known z.h bl y.enc := ⟨fun j v hv => by simp [Heap.cell, hbl, hv]⟩
          refine O.append I Tryz.underlying62 et_68 0 rfl rfl rfl (I.rd kb.rd) rfl rfl (by decide) (by omega) (by omega) ?_
          intro g c w I
          exact ⟨g, c, y.enc, rfl, ⟨y, rfl, oy, ly, ry⟩, I⟩
        refine OpsGP.nil ?_
        intro D z w hD hl hj u131 q131 u132 q132 u133 q133 u134 q134
        obtain ⟨g, c4, cs, rfl, h7', y, rfl, oy, ly, ry⟩ := q134 rfl
        have I := hj.inv
        rw [h7'] at I
        refine OpsP.y (v := .pointer (some ⟨_, _, none⟩)) (Y.fa fa_64_3 rfl) ?_
        refine OpsP.go (O.store (v := .slice _ _ _) I ty_62 1 rfl rfl rfl rfl rfl rfl (Nat.le_of_ble_eq_true rfl) rfl ?_)
        intro w I
        refine OpsP.nil ?_
        refine WP.region ?_
        refine Ops.y (v := .int .i64 _) (Y.addi rfl rfl ⟨by omega, by omega⟩) ?_
        refine Ops.y (v := .int .i64 _) (Y.move rfl) ?_
        refine Ops.nil ?_
        rw [hxp] at ry
        refine ⟨(k + 1, some ⟨g, 0, none⟩, c4, z.h, ls ++ [y]), ⟨⟨rfl, rfl, rfl, rfl, rfl, rfl, trivial⟩, ?_, by dsimp only; omega, gl.trans hl.h, by simp [hlen], fun x hx => ?_, by dsimp only; rw [hnx, List.map_append]; exact litsR_snoc hls ry⟩, by dsimp only; omega⟩
        · dsimp only
          rw [List.flatMap_append, List.flatMap_singleton]
          exact I
        · rcases List.mem_append.1 hx with hx | hx
          · exact ⟨(hown x hx).1.le hl.h, (hown x hx).2⟩
          · rw [List.mem_singleton] at hx; subst hx; exact ⟨oy, ly⟩
      obtain rfl : k = ws.xs.length := by omega
      rw [List.take_length] at hls
      refine WP.exit ?_
      exact ⟨(q3, _, c3, hh, ls), ⟨rfl, rfl, trivial⟩, I, gl, hlen, hwsm, hown, by rw [if_pos rfl, ← hws', hls]; rfl⟩
  rintro ⟨q3, n3, c3, hh, ls⟩ e w ⟨I, gl, hlen, hn3, hown, hmk⟩
  dsimp only at I gl hlen hn3 hown hmk ⊢
  rw [hmk] at hR
  obtain ⟨h9, sb, le9, hvb, hxb, osb, J⟩ := I.settleO hlen.symm
  clear I
  have gl9 := gl.trans le9
  have osp9 := osp.le ((gl7.trans gl8).trans gl9)
  have I : Inv B h9 (box b11 [.int .i64 a1.pred, a1.args.val, .int .i64 v.1, .int .i64 v.2, sb.val] 64 :: ownSl 64 5 (.slice q2 rs.length c2) rs.length (rs.flatMap Rul.enc) :: box b [sp.val, .slice q2 rs.length c2] 25 :: M) w := by rw [hvb]; exact J
  obtain ⟨h10, K, mono10, keep10⟩ := I.unsettle osp9 ((hBh.trans gl1).trans gl5)
  clear I J
  have gl10 : h.le h10 := mono10 h (((((gl1.trans gl5).trans le6).trans gl7).trans gl8).trans gl9) (gl1.trans gl5)
  have oa10 := ((oa1.le (gl8.trans gl9)).keep osp keep10)
  have ob10 := ((osb.older ((gl7.trans gl8).trans gl)).keep osp keep10)
  have ol10 : ∀ x ∈ ls, OwnH 109 2 x.atom.args Trm.enc h6 h10 := fun x hx => (((hown x hx).1.le le9).older gl7).keep osp keep10
  obtain ⟨r, hrd⟩ : ∃ r : Rul, r = ⟨a1, v.1, v.2, sb⟩ := ⟨_, rfl⟩
  have hrin : r.In h10 := by
    subst hrd
    exact ⟨own_trms oa10 la1, ⟨ob10.in fun _ => rfl, by show sb.xs.length ≤ _; rw [hxb]; omega⟩, fun x hx => own_trms (ol10 x (by rw [← hxb]; exact hx)) (hown x (by rw [← hxb]; exact hx)).2⟩
  have hrer : r.er = mkR a1.er v (ls.map Ltl.er) := by subst hrd; unfold Rul.er mkR; rw [hxb]
  have I : Inv B h10 (ownSl 64 5 (.slice q2 rs.length c2) rs.length (rs.flatMap Rul.enc) :: ownSl 53 3 (.slice q ps.length c) ps.length (ps.flatMap Prd.enc) :: box b11 r.enc 64 :: box b [.slice q ps.length c, .slice q2 rs.length c2] 25 :: M) w := by
    have J := K.front 2 rfl
    rw [hvp, hxp] at J
    subst hrd
    exact J
  clear K
  refine WP.regionG mixed RAp.pre ⟨h10, none⟩ (J := JAp B (ownSl 53 3 (.slice q ps.length c) ps.length (ps.flatMap Prd.enc) :: box b11 r.enc 64 :: box b [.slice q ps.length c, .slice q2 rs.length c2] 25 :: M) 64 5 rs.length 1 (.slice q2 rs.length c2) (rs.flatMap Rul.enc) r.enc 7) ⟨rfl, I.drew⟩ 8 (by kernel_rfl) ?_
  refine OpsG.y_ (v := .pointer (some ⟨_, _, none⟩)) (fun _ => runsG_none _) RAp.pre (JAp.set (by decide)) (fun _ s w us hl hj => have I := hj.base; have hl := hl.h; Y.move rfl) ?_
  refine OpsG.y_ (v := .pointer (some ⟨_, _, none⟩)) (fun _ => runsG_none _) RAp.pre (JAp.set (by decide)) (fun _ s w us hl hj => have I := hj.base; have hl := hl.h; Y.move rfl) ?_
  refine OpsG.y_ (v := .pointer (some ⟨_, _, none⟩)) (fun _ => runsG_none _) RAp.pre (JAp.set (by decide)) (fun _ s w us hl hj => have I := hj.base; have hl := hl.h; Y.nilp rfl) ?_
  refine OpsG.y_ (v := .pointer (some ⟨_, _, none⟩)) (fun _ => runsG_none _) RAp.pre (JAp.set (by decide)) (fun _ s w us hl hj => have I := hj.base; have hl := hl.h; Y.fa fa_25_1 rfl) ?_
  refine OpsG.y_ (v := .slice _ _ _) (fun _ => runsG_none _) RAp.pre (JAp.set (by decide)) (fun _ s w us hl hj => have I := hj.base; have hl := hl.h; Y.loadv ty_23 rfl (I.rdbox 2 rfl 1 1) rfl rfl) ?_
  refine OpsG.y_ (v := .agg #[_, _, _, _, _]) (fun _ => runsG_none _) RAp.pre (JAp.set (by decide)) (fun _ s w us hl hj => have I := hj.base; have hl := hl.h; Y.loadv ty_64 rfl (I.rdbox 1 rfl 0 5) rfl rfl) ?_
  refine OpsG.x_ (Φ := KnA (LitW 64 r.enc 1)) (KnA.mono LitW.mono) (fun _ => runsG_none _) (fun D' z w hDk hl hj => AllG.all fun us => ?_) ?_
  · refine hj.know (by decide) fun N I => ?_
    exact O.mklit (cs := r.enc) I Tryz.underlying23 Tryz.sizeOf64 Tryz.zeroValue64 (by decide) (by decide) rfl rfl (fun v h w I le sl => ⟨h, le, I, sl⟩)
  refine OpsG.x_ (Φ := AtAp (rs.length + 1)) AtAp.mono (fun _ => runsG_none _) (fun D' z w hDk hl hj => ?_) ?_
  · intro u143 q143
    obtain ⟨bl, rfl, hbl⟩ := q143 rfl
    refine hj.app hDk fun I => ?_
    have kb : Known z.h bl r.enc := ⟨fun j v hv => by simp [Heap.cell, hbl, hv]⟩
    refine O.append I Tryz.underlying23 et_64 0 rfl rfl rfl (I.rd kb.rd) rfl rfl (by decide) (by omega) (by omega) ?_
    intro g c w I
    exact ⟨g, c, rfl, I⟩
  refine OpsG.nil ?_
  intro D z w hD hl hj u143 q143 u144 q144
  obtain ⟨g, c4, rfl, h7'⟩ := q144 rfl
  have I := hj.inv
  rw [h7'] at I
  refine Ops.y (v := .pointer (some ⟨_, _, none⟩)) (Y.nilp rfl) ?_
  refine Ops.y (v := .pointer (some ⟨_, _, none⟩)) (Y.fa fa_25_1 rfl) ?_
  refine Ops.go (O.store (v := .slice _ _ _) I ty_23 3 rfl rfl rfl rfl rfl rfl (Nat.le_of_ble_eq_true rfl) rfl ?_)
  intro w I
  refine Ops.nil ?_
  have I : Inv B z.h (linM b q ps.length c (some ⟨g, 0, none⟩) (rs.length + 1) c4 ps (rs ++ [r]) M) w := by
    have J := ((I.front 1 rfl).weak (List.Sublist.cons_cons _ (List.Sublist.cons_cons _ (List.sublist_cons_self _ _))))
    unfold linM
    rw [List.flatMap_append, List.flatMap_singleton]
    exact J
  exact ⟨[], trivial, rfl, z.h, q, c, some ⟨g, 0, none⟩, c4, ps, rs ++ [r], gl10.trans hl.h, by rw [List.length_append]; exact I, by rw [hL, hR, List.map_append, ← hrer]; rfl, fun y hy => by
    rcases List.mem_append.1 hy with hy | hy
    · exact (hr y hy).le (gl10.trans hl.h)
    · rw [List.mem_singleton] at hy; subst hy; exact hrin.le hl.h, hnm, by omega, by simp⟩
end Go.TF
end
section
/- Ranges over functions whose rounds may panic, under a deferred call that recovers. -/
namespace Go.TF
open Go Go.RowKit

/-! ### A call of yield that may panic -/
def Op1Y (P : Program) (X : PX) (o : Oper) (e : Env) (w : World) (K : Value → World → Prop) : Prop :=
  Op1P P X o e w K ∨ ∃ l f tmps assign body w', (execOp (ev e) o).run P w = .ok (.round l f tmps assign body) w' ∧ RoundIn Fence.wide 0 P l f tmps assign body w' fun | .returned v, w'' => K v w'' | .panicked ch, w'' => X ch w'' | _, _ => False
def OpsY (P : Program) (X : PX) (full : Array Oper) : List Oper → Env → World → (Env → World → Prop) → Prop
  | [], e, w, K => K e w
  | o :: rest, e, w, K => if runs full e o then Op1Y P X o e w (fun v w' => OpsY P X full rest (updo e o.dst v) w' K) else OpsY P X full rest (updo e o.dst undef) w K
theorem uponIn_of_Op1P {P : Program} {X : PX} {F : Fence} {o : Oper} {a : Act} {w : World} {next : Act → World → Prop} {Q : Exit → Act → World → Prop} (hfn : ∀ f, F.fn f) (hdep : F.depth = none) (hal : ∀ f args w R, Calls P f args w R → CallsIn F (0 - 1) P f args w R)
    (hnd : ∀ c, o.op ≠ .defer c) (hX : ∀ ch w', X ch w' → Q (.panic ch) a w') (h : Op1P P X o (env a) w fun v w' => next (a.put o.dst v) w') : o.wpIn F 0 P a w next Q := by
  refine ⟨fun f _ => hfn f, ?_⟩
  rw [Oper.semAt_eq _ _ _ hnd, eval_env]
  unfold Op1P at h
  generalize (execOp (ev (env a)) o).run P w = r at *
  cases r with
  | ok n w' =>
    cases n <;> simp only at h <;> first | exact h.elim | exact h | skip
    refine ⟨(fun hd => by rw [hdep] at hd; cases hd), (hal _ _ _ _ h).mono fun e w'' he => ?_⟩
    cases e <;> first | exact he | exact hX _ _ he | exact he.elim
  | halt x w' => cases x <;> simp only at h <;> first | exact h.elim | exact hX _ _ h
theorem OpsY.sound {P : Program} {X : PX} {ops : Array Oper} {Q : Exit → Act → World → Prop} {N : Nat} {D : List Deferred} (hX : ∀ a ch w', a.tmps.size = N → a.defers = D → X ch w' → Q (.panic ch) a w') (hds : dstsOk N ops.toList = true) (hnd : noDefer ops.toList = true) : ∀ (n k : Nat) (a : Act) (w : World) (K : Env → World → Prop),
    k + n = ops.size → a.tmps.size = N → a.defers = D → (∀ a' w', a'.tmps.size = N → a'.defers = D → K (env a') w' → Q .normal a' w') → OpsY P X ops (ops.toList.drop k) (env a) w K → wpOpsIn Fence.wide 0 P ops Q (List.range' k n) a w
  | 0, k, a, w, K, hk, hs, hd, hK, h => by
    rw [List.drop_eq_nil_of_le (by simp; omega)] at h
    exact hK _ _ hs hd h
  | n + 1, k, a, w, K, hk, hs, hd, hK, h => by
    obtain ⟨o, ho, hdr⟩ := drop_cons hk
    have hmem : o ∈ ops.toList := by have := Array.mem_of_getElem? ho; simpa using this
    have hdo : o.dst.all (· < N) = true := (List.all_eq_true.1 hds) o hmem
    have hno : ∀ c, o.op ≠ .defer c := fun c e => by have := (List.all_eq_true.1 hnd) o hmem; simp [e] at this
    have hput : ∀ v, env (a.put o.dst v) = updo (env a) o.dst v := fun v => env_puto a o.dst v (by rw [hs]; exact hdo)
    rw [hdr] at h
    simp only [List.range'_succ, wpOpsIn, ho, wanted_env]
    simp only [OpsY] at h
    split
    · rename_i hr
      rw [if_pos hr] at h
      have step : ∀ v w', OpsY P X ops (ops.toList.drop (k + 1)) (updo (env a) o.dst v) w' K → wpOpsIn Fence.wide 0 P ops Q (List.range' (k + 1) n) (a.put o.dst v) w' := fun v w' hh =>
        OpsY.sound hX hds hnd n (k + 1) _ _ K (by omega) (by rw [size_put, hs]) (by rw [defers_put, hd]) hK (by rw [hput]; exact hh)
      rcases h with h | ⟨l, f, tmps, assign, body, w', hrun, hround⟩
      · exact uponIn_of_Op1P (fun _ => trivial) rfl (fun _ _ _ _ h => calls_wide _ h) hno (fun ch w' => hX a ch w' hs hd) (h.mono step)
      · refine ⟨fun _ _ => trivial, ?_⟩
        rw [Oper.semAt_eq _ _ _ hno, eval_env, hrun]
        refine ⟨(fun hd => by cases hd), hround.mono fun e w'' he => ?_⟩
        cases e <;> first | exact step _ _ he | exact hX a _ _ hs hd he | exact he.elim
    · rename_i hr
      rw [if_neg hr] at h
      exact ⟨fun _ _ => trivial, OpsY.sound hX hds hnd n (k + 1) _ _ K (by omega) (by rw [size_put, hs]) (by rw [defers_put, hd]) hK (by rw [hput]; exact h)⟩
theorem WP.regionY {P : Program} {N : Nat} {D : List Deferred} {e : Env} {w : World} {Q : Exit → Env → World → Prop} {id : Nat} {ops : Array Oper} (X : PX) (hX : ∀ e ch w', X ch w' → Q (.panic ch) e w') (hnd : noDefer ops.toList = true)
    (h : OpsY P X ops ops.toList e w (fun e' w' => Q .normal e' w')) : WP P N D (.region id ops false) e w Q := by
  intro hs a h1 h2 h3
  subst h3
  refine (wpIn_wide (n := 0)).1 (wpIn_region ?_)
  rw [List.range_eq_range']
  exact OpsY.sound (fun a ch w' g1 g2 g3 => ⟨g1, g2, hX _ _ _ g3⟩) hs hnd _ 0 a w _ (by omega) h1 h2 (fun _ _ g1 g2 g3 => ⟨g1, g2, g3⟩) h
section
variable {P : Program} {X : PX} {full : Array Oper} {rest : List Oper} {e : Env} {w : World} {K : Env → World → Prop}
theorem OpsY.nil (h : K e w) : OpsY P X full [] e w K := h
theorem OpsY.p {d : Option Nat} {op : Op} {t : TypeId} {pos : String} {af : Array Edge} (h : Op1P P X ⟨d, op, t, pos, af, none⟩ e w (fun v w' => OpsY P X full rest (updo e d v) w' K)) :
    OpsY P X full (⟨d, op, t, pos, af, none⟩ :: rest) e w K := by simp only [OpsY, runs, if_true]; exact .inl h
theorem OpsY.go {d : Option Nat} {op : Op} {t : TypeId} {pos : String} {af : Array Edge} (h : Op1 P ⟨d, op, t, pos, af, none⟩ e w (fun v w' => OpsY P X full rest (updo e d v) w' K)) :
    OpsY P X full (⟨d, op, t, pos, af, none⟩ :: rest) e w K := OpsY.p (.of h)
theorem OpsY.y {d : Nat} {op : Op} {t : TypeId} {pos : String} {af : Array Edge} {v : Value} (hy : Y P ⟨some d, op, t, pos, af, none⟩ e w v) (h : OpsY P X full rest (upd e d v) w K) :
    OpsY P X full (⟨some d, op, t, pos, af, none⟩ :: rest) e w K := OpsY.go (by unfold Op1; rw [hy]; exact h)
theorem OpsY.yield {d : Option Nat} {x : Operand} {l : Nat} {args : Array Operand} {ts : Array TypeId} {vs : List Value} {t : TypeId} {pos : String} {af : Array Edge} {R : Ending → World → Prop} (hx : ev e x = .func (.yield l) #[] #[]) (ha : args.toList.map (ev e) = vs)
    (hy : YieldAt Fence.wide 0 P l vs.toArray w R) (k : ∀ ed w', R ed w' → (∃ v, ed = .returned v ∧ OpsY P X full rest (updo e d v) w' K) ∨ ∃ ch, ed = .panicked ch ∧ X ch w') :
    OpsY P X full (⟨d, .call { callee := .value x, args := args, argTypes := ts }, t, pos, af, none⟩ :: rest) e w K := by
  have ha' : args.map (ev e) = vs.toArray := by rw [← ha]; apply Array.ext'; simp
  obtain ⟨fn, tmps, assign, body, hrun, hR⟩ := hy
  simp only [OpsY, runs, if_true]
  refine .inr ⟨l, fn, tmps, assign, body, w, ?_, hR.mono fun ed w' hh => ?_⟩
  · simp only [execOp, resolve, hx, Deferred.ofValue]
    simp [invoke, ha', hrun]
  · rcases k ed w' hh with ⟨v, rfl, hk⟩ | ⟨ch, rfl, hk⟩
    · exact hk
    · exact hk
end

/-! ### A round that may panic -/
def roundPostP (P : Program) (l : Nat) (R : Ending → World → Prop) : Exit → Act → World → Prop
  | .panic ch, a, w => a.defers = [] ∧ R (.panicked ch) w
  | x, a, w => roundPost P l R x a w
theorem roundIn_of_wpInP {P : Program} {l : Nat} {f : FuncId} {tmps : Array Value} {assign body : Code} {w : World} {R : Ending → World → Prop} (hf : ∃ fn, P.funcs[f]? = some fn)
    (h : assign.wpIn (Fence.wide.inRound l) 0 P (Exit.then (fun a₁ w₁ => ∃ w₂, (Instr.beginRound l).run P w₁ = .ok () w₂ ∧ body.wpIn (Fence.wide.inRound l) 0 P (roundPostP P l R) a₁ w₂) (fun _ _ _ => False))
      { tmps := tmps, defers := [] } w) :
    RoundIn Fence.wide 0 P l f tmps assign body w R := by
  have hF : Fence.wide.fn f := trivial
  refine ⟨hF, fun c cs hr => ?_⟩
  let b : Frame := { (default : Frame) with fn := f, kind := .normal, roundOf := some l }
  have hb0 : Frame.round l f tmps assign body .normal = b.atR { tmps := tmps, defers := [] } [.code assign, .beginRound, .code body] := by
    simp [Frame.round, Frame.atR, b]
  have hr' : (Fence.wide.inRound l).room ((c :: cs).length + 1 + 0) := hr
  have hF' : (Fence.wide.inRound l).fn b.fn := hF
  obtain ⟨e, a₁, w₁, hq, harr⟩ := h b [.beginRound, .code body] (c :: cs) rfl hF' hr'
  rw [← hb0] at harr
  cases e with
  | normal =>
    obtain ⟨w₂, hbr, hbody⟩ := hq
    have s1 : StepsIn (Machine.fenced P (Fence.wide.inRound l)) P (lone (b.atR a₁ [.beginRound, .code body]) (c :: cs) w₁) (lone (b.atR a₁ [.code body]) (c :: cs) w₂) :=
      .one (fenced_calm (fr := b.atR a₁ [.beginRound, .code body]) hF' hr' rfl) (stepR_beginRound rfl hbr)
    obtain ⟨e₂, a₂, w₃, hq₂, harr₂⟩ := hbody b [] (c :: cs) rfl hF' hr'
    cases e₂ with
    | normal =>
      obtain ⟨v, w₄, hend, hR⟩ := hq₂
      exact ⟨.returned v, w₄, hR, (StepsIn.trans harr s1).trans (StepsIn.trans harr₂ (.one (fenced_calm (fr := b.atR a₂ []) hF' hr' rfl) (stepR_round_end rfl rfl hend)))⟩
    | ret =>
      obtain ⟨v, w₄, hend, hR⟩ := hq₂
      obtain ⟨k₁, hs⟩ := harr₂.2 rfl
      exact ⟨.returned v, w₄, hR, (StepsIn.trans harr s1).trans (StepsIn.trans hs (.one (fenced_calm (fr := b.atR a₂ (.code .ret :: k₁)) hF' hr' rfl) (stepR_round_ret rfl rfl hend)))⟩
    | exit id =>
      obtain ⟨v, w₄, hend, hR⟩ := hq₂
      obtain ⟨k₁, hk, hs⟩ := harr₂.2 rfl rfl
      exact ⟨.returned v, w₄, hR, (StepsIn.trans harr s1).trans (StepsIn.trans hs (.one (fenced_calm (fr := b.atR a₂ (.code (.exit id) :: k₁)) hF' hr' rfl) (stepR_round_exit rfl rfl hk hend)))⟩
    | goto t =>
      obtain ⟨v, w₄, hend, hR⟩ := hq₂
      obtain ⟨k₁, hk, hs⟩ := harr₂.2 rfl rfl
      exact ⟨.returned v, w₄, hR, (StepsIn.trans harr s1).trans (StepsIn.trans hs (.one (fenced_calm (fr := b.atR a₂ (.code (.goto t) :: k₁)) hF' hr' rfl) (stepR_round_goto rfl rfl hk hend)))⟩
    | panic chain =>
      obtain ⟨hd, hR⟩ := hq₂
      obtain ⟨todo, hs⟩ := harr₂
      have hleave : ({ b.atR a₂ todo with mode := .panicking chain } : Frame).leaving P w₃ (.panicked chain) := ⟨rfl, hd, hf⟩
      exact ⟨.panicked chain, w₃, hR, (StepsIn.trans harr s1).trans (StepsIn.trans hs (.one (fenced_leaving (fr := { b.atR a₂ todo with mode := .panicking chain }) hF' hr' hleave) (step_leave_panicked hleave)))⟩
    | outgrown => exact hq₂.elim
  | exit id => exact hq.elim
  | goto t => exact hq.elim
  | ret => exact hq.elim
  | panic chain => exact hq.elim
  | outgrown => exact hq.elim
theorem WPI.regionP {P : Program} {N l : Nat} {e : Env} {w : World} {Q : Exit → Env → World → Prop} {id : Nat} {ops : Array Oper} (X : PX) (hX : ∀ e ch w', X ch w' → Q (.panic ch) e w') (h : OpsP P X ops ops.toList e w (fun e' w' => Q .normal e' w')) (hnd : noDefer ops.toList = true := by kernel_rfl) : WPI P N l (.region id ops false) e w Q := by
  intro hs a h1 h2 h3
  subst h3
  refine wpIn_region ?_
  rw [List.range_eq_range']
  have key : ∀ (n k : Nat) (a : Act) (w : World), k + n = ops.size → a.tmps.size = N → a.defers = [] → OpsP P X ops (ops.toList.drop k) (env a) w (fun e' w' => Q .normal e' w') →
      wpOpsIn (Fence.wide.inRound l) 0 P ops (fun x a' w' => a'.tmps.size = N ∧ a'.defers = [] ∧ Q x (env a') w') (List.range' k n) a w := by
    intro n
    induction n with
    | zero =>
      intro k a w hk hs1 hd h
      rw [List.drop_eq_nil_of_le (by simp; omega)] at h
      exact ⟨hs1, hd, h⟩
    | succ n ih =>
      intro k a w hk hs1 hd h
      obtain ⟨o, ho, hdr⟩ := drop_cons hk
      have hmem : o ∈ ops.toList := by have := Array.mem_of_getElem? ho; simpa using this
      have hdo : o.dst.all (· < N) = true := (List.all_eq_true.1 hs) o hmem
      have hno : ∀ c, o.op ≠ .defer c := fun c e => by have := (List.all_eq_true.1 hnd) o hmem; simp [e] at this
      have hput : ∀ v, env (a.put o.dst v) = updo (env a) o.dst v := fun v => env_puto a o.dst v (by rw [hs1]; exact hdo)
      rw [hdr] at h
      simp only [List.range'_succ, wpOpsIn, ho, wanted_env]
      simp only [OpsP] at h
      have step : ∀ v w', OpsP P X ops (ops.toList.drop (k + 1)) (updo (env a) o.dst v) w' (fun e' w' => Q .normal e' w') → wpOpsIn (Fence.wide.inRound l) 0 P ops (fun x a' w' => a'.tmps.size = N ∧ a'.defers = [] ∧ Q x (env a') w') (List.range' (k + 1) n) (a.put o.dst v) w' := fun v w' hh =>
        ih (k + 1) _ _ (by omega) (by rw [size_put, hs1]) (by rw [defers_put, hd]) (by rw [hput]; exact hh)
      split
      · rename_i hr
        rw [if_pos hr] at h
        exact uponIn_of_Op1P (fun _ => trivial) rfl (fun _ _ _ _ h => (calls_wide _ h).inRound l) hno (fun ch w' hx => ⟨hs1, hd, hX _ _ _ hx⟩) (h.mono step)
      · rename_i hr
        rw [if_neg hr] at h
        exact ⟨fun _ _ => trivial, step _ _ h⟩
  exact key _ 0 a w (by omega) h1 h2 h

/-! ### Code of one function's activation -/
def wpF (P : Program) (f : FuncId) (c : Code) (Q : Exit → Act → World → Prop) (a : Act) (w : World) : Prop :=
  ∀ (b : Frame) (k : List Item) (cs : List Frame), b.roundOf = none → b.fn = f → ∃ e a' w', Q e a' w' ∧ ArrivesIn (Machine.fenced P Fence.wide) P (lone (b.atR a (.code c :: k)) cs w) b k cs e a' w'
section
variable {P : Program} {f : FuncId} {Q : Exit → Act → World → Prop} {a : Act} {w : World}
theorem wpF_of {c : Code} (h : c.wpIn Fence.wide 0 P Q a w) : wpF P f c Q a w := fun b k cs hr _ => h b k cs hr trivial (room_wide _)
theorem wpF_mono {c : Code} {Q' : Exit → Act → World → Prop} (h : wpF P f c Q a w) (hq : ∀ x a w, Q x a w → Q' x a w) : wpF P f c Q' a w := fun b k cs hr hf =>
  let ⟨e, a', w', q, r⟩ := h b k cs hr hf; ⟨e, a', w', hq _ _ _ q, r⟩
theorem wpF_seq {x y : Code} (h : wpF P f x (Exit.then (wpF P f y Q) Q) a w) : wpF P f (.seq x y) Q a w := by
  intro b k cs hr hf
  have i0 : (lone (b.atR a (.code (.seq x y) :: k)) cs w).fenced P Fence.wide := fenced_wide _ _
  obtain ⟨e, a₁, w₁, hq, harr⟩ := h b (.code y :: k) cs hr hf
  cases e with
  | normal =>
    obtain ⟨e₂, a₂, w₂, hq₂, harr₂⟩ := hq b k cs hr hf
    exact ⟨e₂, a₂, w₂, hq₂, .of_steps (.head i0 stepR_seq harr) harr₂⟩
  | exit id => exact ⟨_, a₁, w₁, hq, .of_steps (.one i0 stepR_seq) (.pass (x := .code y) rfl (fun _ _ => .inl (by simp)) harr)⟩
  | goto l => exact ⟨_, a₁, w₁, hq, .of_steps (.one i0 stepR_seq) (.pass (x := .code y) rfl (fun _ _ => .inl (by simp)) harr)⟩
  | ret => exact ⟨_, a₁, w₁, hq, .of_steps (.one i0 stepR_seq) (.pass (x := .code y) rfl (fun _ _ => .inl (by simp)) harr)⟩
  | panic ch => exact ⟨_, a₁, w₁, hq, .of_steps (.one i0 stepR_seq) (.pass (x := .code y) rfl (fun _ _ => .inl (by simp)) harr)⟩
  | outgrown => exact ⟨_, a₁, w₁, hq, .of_steps (.one i0 stepR_seq) (.pass (x := .code y) rfl (fun _ _ => .inl (by simp)) harr)⟩
theorem wpF_block {id : Nat} {c : Code} (h : wpF P f c (Exit.inBlock id Q) a w) : wpF P f (.block id c) Q a w := by
  intro b k cs hro hb
  have h0 : (lone (b.atR a (.code (.block id c) :: k)) cs w).fenced P Fence.wide := fenced_wide _ _
  obtain ⟨e, a₁, w₁, hq, harr⟩ := h b (.inBlock id :: k) cs hro hb
  cases e with
  | normal => exact ⟨.normal, a₁, w₁, hq, .head h0 stepR_block (StepsIn.trans harr (.one (fenced_wide _ _) stepR_inBlock))⟩
  | exit id' =>
    by_cases hid : id' = id
    · simp only [Exit.inBlock, hid, if_true] at hq
      exact ⟨.normal, a₁, w₁, hq, .head h0 stepR_block (harr.1 k (by simp [exitTo, hid]))⟩
    · simp only [Exit.inBlock, hid, if_false] at hq
      have this : (id == id') = false := by simp; exact fun h => hid h.symm
      have hx : exitTo id' (.inBlock id :: k) = exitTo id' k := by simp [exitTo, this]
      exact ⟨.exit id', a₁, w₁, hq, fun k' hk => .head h0 stepR_block (harr.1 k' (by rw [hx]; exact hk)),
        fun hr' hk => let ⟨k₁, h1, h2⟩ := harr.2 hr' (by rw [hx]; exact hk); ⟨k₁, h1, .head h0 stepR_block h2⟩⟩
  | goto l =>
    have hx : gotoIn l (.inBlock id :: k) = gotoIn l k := by simp [gotoIn]
    exact ⟨_, a₁, w₁, hq, fun k' hk => .head h0 stepR_block (harr.1 k' (by rw [hx]; exact hk)),
      fun hr' hk => let ⟨k₁, h1, h2⟩ := harr.2 hr' (by rw [hx]; exact hk); ⟨k₁, h1, .head h0 stepR_block h2⟩⟩
  | ret => exact ⟨_, a₁, w₁, hq, .of_steps (.one h0 stepR_block) harr⟩
  | panic ch => exact ⟨_, a₁, w₁, hq, .of_steps (.one h0 stepR_block) harr⟩
  | outgrown => exact ⟨_, a₁, w₁, hq, .of_steps (.one h0 stepR_block) harr⟩
theorem wpF_cond {c : Operand} {x y : Code} {t : Bool} (hc : a.eval c = .bool t) (h : wpF P f (if t then x else y) Q a w) : wpF P f (.cond c x y) Q a w :=
  fun b k cs hr hf => let ⟨e, a', w', q, r⟩ := h b k cs hr hf; ⟨e, a', w', q, .of_steps (.one (fenced_wide _ _) (stepR_cond hc)) r⟩
/-- The statement itself: what the kit says of a frame of any function, of a frame of this one. -/
theorem wpF_rangeFunc {g : Operand} {ps : Array Tmp} {assign body : Code}
    (h : ∃ (l : Nat) (mark : List Deferred) (w₁ : World) (d : Deferred) (w₁' : World) (f' : FuncId) (args : Array Value) (w₂ : World),
      (Instr.enterLoop f a.tmps ps assign body none).run P w = .ok (l, mark) w₁ ∧
      (resolve a.eval (rangeCall g l) 0).run P w₁ = .ok d w₁' ∧
      (invoke d.target d.args).run P w₁' = .ok (.enter f' args) w₂ ∧
      CallsIn Fence.wide 0 P f' args w₂ (fun | .returned _, w₃ => ∃ w₄, (Instr.endLoop l).run P w₃ = .ok none w₄ ∧ Q .normal { a with defers := mark ++ a.defers } w₄ | .panicked ch, w₃ => Q (.panic ch) { a with defers := mark ++ a.defers } w₃ | .outgrown, _ => False)) :
    wpF P f (.rangeFunc g ps assign body) Q a w := by
  intro b k cs hro hb
  obtain ⟨l, mark, w₁, d, w₁', f', args, w₂, he, hres, hinv, hF, hcall⟩ := h
  rw [← hro, ← hb] at he
  have h0 : (lone (b.atR a (.code (.rangeFunc g ps assign body) :: k)) cs w).fenced P Fence.wide := fenced_wide _ _
  have henter := stepR_rangeFunc (P := P) (b := b) (a := a) (k := k) (cs := cs) (w := w) he hres hinv
  obtain ⟨e, w₃, fr, hR, hsteps, hfn, hleave⟩ := hcall (b.atR { a with defers := mark ++ a.defers } (.inRangeFunc l :: k) :: cs) (room_wide _)
  cases e with
  | outgrown => exact hR.elim
  | returned v =>
    have hl : (lone fr (b.atR { a with defers := mark ++ a.defers } (.inRangeFunc l :: k) :: cs) w₃).fenced P Fence.wide := fenced_wide _ _
    obtain ⟨w₄, hend, hj⟩ := hR
    refine ⟨.normal, _, w₄, hj, .head h0 henter (StepsIn.trans hsteps (.head hl ?_ (.one (fenced_wide _ _) (stepR_endRangeFunc (k := k) hend))))⟩
    rw [← finish_atR_inRangeFunc l v]; exact step_leave_returned hleave
  | panicked chain =>
    have hl : (lone fr (b.atR { a with defers := mark ++ a.defers } (.inRangeFunc l :: k) :: cs) w₃).fenced P Fence.wide := fenced_wide _ _
    refine ⟨.panic chain, _, w₃, hR, .inRangeFunc l :: k, .head h0 henter (StepsIn.trans hsteps (.one hl ?_))⟩
    rw [← Frame.raise_atR]; exact step_leave_panicked hleave
end
def WPF (P : Program) (f : FuncId) (N : Nat) (D : List Deferred) (c : Code) (e : Env) (w : World) (Q : Exit → Env → World → List Deferred → Prop) : Prop :=
  slotsOk N c = true → ∀ a : Act, a.tmps.size = N → a.defers = D → env a = e → wpF P f c (fun x a' w' => a'.tmps.size = N ∧ Q x (env a') w' a'.defers) a w
section
variable {P : Program} {f : FuncId} {N : Nat} {D : List Deferred} {e : Env} {w : World} {Q : Exit → Env → World → List Deferred → Prop}
theorem WPF.ofD {c : Code} (h : WPD P N D c e w Q) : WPF P f N D c e w Q := fun hs a h1 h2 h3 => wpF_of (wpIn_wide.2 (h hs a h1 h2 h3))
theorem WPF.of {c : Code} (h : WP P N D c e w (fun x e' w' => Q x e' w' D)) : WPF P f N D c e w Q := WPF.ofD (WPD.of h)
theorem WPF.seq {x y : Code} (h : WPF P f N D x e w (thenD (fun e' w' D' => WPF P f N D' y e' w' Q) Q)) : WPF P f N D (.seq x y) e w Q := by
  intro hs a h1 h2 h3
  simp only [slotsOk, Bool.and_eq_true] at hs
  refine wpF_seq (wpF_mono (h hs.1 a h1 h2 h3) ?_)
  rintro x a' w' ⟨g1, g3⟩
  cases x <;> simp only [thenD] at g3 <;> first | exact ⟨g1, g3⟩ | exact g3 hs.2 a' g1 rfl rfl
theorem WPF.block {id : Nat} {c : Code} (h : WPF P f N D c e w (blockD id Q)) : WPF P f N D (.block id c) e w Q := by
  intro hs a h1 h2 h3
  refine wpF_block (wpF_mono (h hs a h1 h2 h3) ?_)
  rintro x a' w' ⟨g1, g3⟩
  cases x <;> simp only [blockD] at g3 <;> simp only [Exit.inBlock] <;> first | exact ⟨g1, g3⟩ | (split at g3 <;> rename_i hi <;> simp only [hi, if_true, if_false] <;> exact ⟨g1, g3⟩)
theorem WPF.cond {c : Operand} {x y : Code} {b : Bool} (hc : ev e c = .bool b) (ht : b = true → WPF P f N D x e w Q) (hf : b = false → WPF P f N D y e w Q) : WPF P f N D (.cond c x y) e w Q := by
  intro hs a h1 h2 h3
  simp only [slotsOk, Bool.and_eq_true] at hs
  have he : a.eval c = .bool b := by rw [eval_env, h3]; exact hc
  refine wpF_cond he ?_
  cases b
  · exact hf rfl hs.2 a h1 h2 h3
  · exact ht rfl hs.1 a h1 h2 h3
theorem WPF.cond_dec {c : Operand} {x y : Code} {p : Prop} [Decidable p] (hc : ev e c = .bool (decide p)) (ht : p → WPF P f N D x e w Q) (hf : ¬ p → WPF P f N D y e w Q) : WPF P f N D (.cond c x y) e w Q :=
  WPF.cond hc (fun h => ht (of_decide_eq_true h)) (fun h => hf (of_decide_eq_false h))
theorem WPF.skip (h : Q .normal e w D) : WPF P f N D .skip e w Q := WPF.ofD (WPD.skip h)
theorem WPF.ret (h : Q .ret e w D) : WPF P f N D .ret e w Q := WPF.ofD (WPD.ret h)
theorem WPF.region {id : Nat} {ops : Array Oper} (h : Ops P ops ops.toList e w (fun e' w' => Q .normal e' w' D)) : WPF P f N D (.region id ops false) e w Q := WPF.of (WP.region h)
theorem WPF.regionP {id : Nat} {ops : Array Oper} (X : PX) (hX : ∀ e ch w', X ch w' → Q (.panic ch) e w' D) (h : OpsP P X ops ops.toList e w (fun e' w' => Q .normal e' w' D)) : WPF P f N D (.region id ops false) e w Q := WPF.of (WP.regionP X hX h)
/-- A statement defer. -/
theorem WPF.deferR {id : Nat} {d1 : Nat} {op1 op2 : Op} {t1 t2 : TypeId} {p1 p2 : String} {a1 a2 : Array Edge} {v : Value} {dd : Deferred} (hy : Y P ⟨some d1, op1, t1, p1, a1, none⟩ e w v)
    (hd : (execOp (ev (upd e d1 v)) ⟨none, op2, t2, p2, a2, none⟩).run P w = .ok (.defer dd) w) (h : Q .normal (upd e d1 v) w (dd :: D)) : WPF P f N D (.region id #[⟨some d1, op1, t1, p1, a1, none⟩, ⟨none, op2, t2, p2, a2, none⟩] false) e w Q := by
  refine WPF.ofD ?_
  intro hs a h1 h2 h3
  subst h3
  refine wp_region_list ?_
  have hd1 : d1 < N := by
    have := hs
    simp [slotsOk, dstsOk] at this
    exact this
  have hput : env (a.put (some d1) v) = upd (env a) d1 v := env_puto a (some d1) v (by rw [h1]; simpa using hd1)
  simp only [wpList, wanted_env, runs, if_true]
  refine .inl ?_
  unfold Oper.wp
  rw [eval_env]
  unfold Y at hy
  rw [hy, Oper.upon_value]
  refine .inl ?_
  rw [eval_env, hput, hd, Oper.upon_defer]
  refine ⟨by rw [size_put]; show (a.put (some d1) v).tmps.size = N; rw [size_put, h1], ?_⟩
  have e1 : env (({ a.put (some d1) v with defers := dd :: (a.put (some d1) v).defers } : Act).put none undef) = upd (env a) d1 v := hput
  have e2 : (({ a.put (some d1) v with defers := dd :: (a.put (some d1) v).defers } : Act).put none undef).defers = dd :: D := by
    show dd :: (a.put (some d1) v).defers = _
    rw [defers_put, h2]
  rw [e1, e2]
  exact h
end
/-! ### A region in the order of the text; what a panic tells may look at the slots -/
def OpsE (P : Program) (X : Env → PX) (full : Array Oper) : List Oper → Env → World → (Env → World → Prop) → Prop
  | [], e, w, K => K e w
  | o :: rest, e, w, K => if runs full e o then Op1P P (X e) o e w (fun v w' => OpsE P X full rest (updo e o.dst v) w' K) else OpsE P X full rest (updo e o.dst undef) w K
theorem OpsE.sound {P : Program} {X : Env → PX} {full : Array Oper} {Q : Exit → Act → World → Prop} {N : Nat} {D : List Deferred} (hX : ∀ a ch w', a.tmps.size = N → a.defers = D → X (env a) ch w' → Q (.panic ch) a w') : ∀ (l : List Oper) (a : Act) (w : World) (K : Env → World → Prop),
    dstsOk N l = true → a.tmps.size = N → a.defers = D → (∀ a' w', a'.tmps.size = N → a'.defers = D → K (env a') w' → Q .normal a' w') → OpsE P X full l (env a) w K → wpList P full Q l a w
  | [], a, w, K, _, hs, hd, hK, h => by simp only [OpsE] at h; exact hK _ _ hs hd h
  | o :: rest, a, w, K, hds, hs, hd, hK, h => by
    simp only [dstsOk, List.all_cons, Bool.and_eq_true] at hds
    have hput : ∀ v, env (a.put o.dst v) = updo (env a) o.dst v := fun v => env_puto a o.dst v (by rw [hs]; exact hds.1)
    simp only [wpList, wanted_env]
    simp only [OpsE] at h
    split
    · rename_i hr
      rw [if_pos hr] at h
      refine .inl (wp_of_Op1P (fun ch w' => hX a ch w' hs hd) (h.mono fun v w' hh => ?_))
      rw [← hput] at hh
      exact OpsE.sound hX rest _ _ K hds.2 (by rw [size_put, hs]) (by rw [defers_put, hd]) hK hh
    · rename_i hr
      rw [if_neg hr] at h
      rw [← hput] at h
      exact OpsE.sound hX rest _ _ K hds.2 (by rw [size_put, hs]) (by rw [defers_put, hd]) hK h
theorem WP.regionE {P : Program} {N : Nat} {D : List Deferred} {e : Env} {w : World} {Q : Exit → Env → World → Prop} {id : Nat} {ops : Array Oper} (X : Env → PX) (hX : ∀ e ch w', X e ch w' → Q (.panic ch) e w') (h : OpsE P X ops ops.toList e w (fun e' w' => Q .normal e' w')) : WP P N D (.region id ops false) e w Q := by
  intro hs a h1 h2 h3
  subst h3
  exact wp_region_list (OpsE.sound (fun a ch w' g1 g2 g3 => ⟨g1, g2, hX _ _ _ g3⟩) _ a w _ hs h1 h2 (fun _ _ g1 g2 g3 => ⟨g1, g2, g3⟩) h)
theorem WPF.regionE {P : Program} {f : FuncId} {N : Nat} {D : List Deferred} {e : Env} {w : World} {Q : Exit → Env → World → List Deferred → Prop} {id : Nat} {ops : Array Oper} (X : Env → PX) (hX : ∀ e ch w', X e ch w' → Q (.panic ch) e w' D) (h : OpsE P X ops ops.toList e w (fun e' w' => Q .normal e' w' D)) : WPF P f N D (.region id ops false) e w Q := WPF.of (WP.regionE X hX h)
section
variable {P : Program} {X : Env → PX} {full : Array Oper} {rest : List Oper} {e : Env} {w : World} {K : Env → World → Prop}
theorem OpsE.nil (h : K e w) : OpsE P X full [] e w K := h
theorem OpsE.p {d : Option Nat} {op : Op} {t : TypeId} {pos : String} {af : Array Edge} (h : Op1P P (X e) ⟨d, op, t, pos, af, none⟩ e w (fun v w' => OpsE P X full rest (updo e d v) w' K)) :
    OpsE P X full (⟨d, op, t, pos, af, none⟩ :: rest) e w K := by simpa [OpsE, runs] using h
theorem OpsE.go {d : Option Nat} {op : Op} {t : TypeId} {pos : String} {af : Array Edge} (h : Op1 P ⟨d, op, t, pos, af, none⟩ e w (fun v w' => OpsE P X full rest (updo e d v) w' K)) :
    OpsE P X full (⟨d, op, t, pos, af, none⟩ :: rest) e w K := OpsE.p (.of h)
theorem OpsE.y {d : Nat} {op : Op} {t : TypeId} {pos : String} {af : Array Edge} {v : Value} (hy : Y P ⟨some d, op, t, pos, af, none⟩ e w v) (h : OpsE P X full rest (upd e d v) w K) :
    OpsE P X full (⟨some d, op, t, pos, af, none⟩ :: rest) e w K := OpsE.go (by unfold Op1; rw [hy]; exact h)
theorem OpsE.gt {d : Option Nat} {op : Op} {t : TypeId} {pos : String} {af : Array Edge} {j : Nat} {b : Bool} (hg : yieldE full e j = some b) (h : Op1 P ⟨d, op, t, pos, af, some (j, b)⟩ e w (fun v w' => OpsE P X full rest (updo e d v) w' K)) :
    OpsE P X full (⟨d, op, t, pos, af, some (j, b)⟩ :: rest) e w K := by
  have h' := Op1P.of (X := X e) h
  simpa [OpsE, runs, hg] using h'
theorem OpsE.ygt {d : Nat} {op : Op} {t : TypeId} {pos : String} {af : Array Edge} {v : Value} {j : Nat} {b : Bool} (hg : yieldE full e j = some b) (hy : Y P ⟨some d, op, t, pos, af, some (j, b)⟩ e w v) (h : OpsE P X full rest (upd e d v) w K) :
    OpsE P X full (⟨some d, op, t, pos, af, some (j, b)⟩ :: rest) e w K := OpsE.gt hg (by unfold Op1; rw [hy]; exact h)
theorem OpsE.gf {d : Option Nat} {op : Op} {t : TypeId} {pos : String} {af : Array Edge} {j : Nat} {b : Bool} (hg : (yieldE full e j == some b) = false) (h : OpsE P X full rest (updo e d undef) w K) :
    OpsE P X full (⟨d, op, t, pos, af, some (j, b)⟩ :: rest) e w K := by simpa [OpsE, runs, hg] using h
end
/-! ### The range -/
/-- An iterator that owns something: it hands xs to yield, one behind the other. -/
def IterP {α : Type} (P : Program) (g : FuncId) (lb : List Value) (encs : α → List Value) (xs : List α) (own : SA) : Prop :=
  ∀ {σ : Type} (l : Nat) (B : Base) (h : Heap) (U : σ → List SA) (Jc : Nat → Heap → σ → Prop) (Xp : PX) (W : World) (s0 : σ), Inv B h (own :: U s0) W → Jc 0 h s0 → (∀ k s hg hg', hg.le hg' → Jc k hg s → Jc k hg' s) →
    (∀ k hg x s X W, xs[k]? = some x → h.le hg → Inv B hg (X ++ U s) W → Jc k hg s → YieldAt Fence.wide 0 P l (encs x).toArray W fun ed W' => (ed = .returned (.bool true) ∧ ∃ h2 s', hg.le h2 ∧ Inv B h2 (X ++ U s') W' ∧ Jc (k + 1) h2 s') ∨ ∃ ch, ed = .panicked ch ∧ Xp ch W') →
    Calls P g (#[.func (.yield l) #[] #[]] ++ lb.toArray) W fun ed W' => ((∃ v, ed = .returned v) ∧ ∃ h2 s', h.le h2 ∧ Inv B h2 (U s') W' ∧ Jc xs.length h2 s') ∨ ∃ ch, ed = .panicked ch ∧ Xp ch W'
def roundQP (B : Base) (hg : Heap) {σ : Type} (X : List SA) (U : σ → List SA) (T : List SA) (Jn : Heap → σ → Prop) (Xp : PX) : Exit → Env → World → Prop
  | .normal, _, W => ∃ h2 s Z, hg.le h2 ∧ Inv B h2 (Z ++ (X ++ (U s ++ T))) W ∧ Jn h2 s
  | .panic ch, _, W => Xp ch W
  | _, _, _ => False
theorem WPF.rangeFunc {α σ : Type} {P : Program} {f : FuncId} {N : Nat} {e : Env} {w : World} {Q : Exit → Env → World → List Deferred → Prop} {D0 : List Deferred} {B : Base} {h : Heap} {g : Operand} {ps : Array Tmp} {assign body : Code} {gf : FuncId} {lb : List Value}
    {encs : α → List Value} {xs : List α} {own : SA} (hfn : ∃ fn, P.funcs[f]? = some fn) (U : σ → List SA) (Jc : Nat → Heap → σ → Prop) (Xp : Nat → PX) (s0 : σ) (I : Inv B h (own :: U s0) w) (j0 : Jc 0 h s0) (mono : ∀ k s hg hg', hg.le hg' → Jc k hg s → Jc k hg' s)
    (hg : ev e g = .func (.func gf) #[] lb.toArray) (eg : Enters P gf) (it : IterP P gf lb encs xs own) (hps : ∀ x, (encs x).length = ps.size) (hpN : ps.toList.all (· < N) = true) (hsa : slotsOk N assign = true) (hsb : slotsOk N body = true)
    (round : ∀ (l D : Nat) (r : Loop) (hg : Heap) (k : Nat) (x : α) (s : σ) (X : List SA) (W : World), xs[k]? = some x → h.le hg → Inv B hg (X ++ (U s ++ [loopSA l r, markSA D])) W → Jc k hg s →
      WPI P N l assign (argE e (ps.toList.zip (encs x))) W (thenE (fun e1 W1 => ∃ h1, hg.le h1 ∧ Inv B h1 (X ++ (U s ++ [loopSA l r, markSA D])) W1 ∧
        ∀ r' W2, Inv B h1 (X ++ (U s ++ [loopSA l r', markSA D])) W2 → WPI P N l body e1 W2 (roundQP B h1 X U [loopSA l r', markSA D] (Jc (k + 1)) (Xp D))) (fun _ _ _ => False)))
    (hdone : ∀ D h2 s W, h.le h2 → Inv B h2 (U s ++ [markSA D]) W → Jc xs.length h2 s → Q .normal e W (mark D :: D0))
    (hpan : ∀ D ch W, Xp D ch W → Q (.panic ch) e W (mark D :: D0)) :
    WPF P f N D0 (.rangeFunc g ps assign body) e w Q := by
  intro _ a h1 h2 h3
  subst h3
  refine wpF_rangeFunc ?_
  obtain ⟨rec, hrec⟩ : ∃ rec : LoopState → Option Code → Loop, rec = fun st pe => { state := st, pending := pe, fn := f, tmps := a.tmps, params := ps, assign, body, defers := w.heap.size } := ⟨_, rfl⟩
  obtain ⟨l, hl⟩ : ∃ l, l = w.heap.size + 1 := ⟨_, rfl⟩
  obtain ⟨W1, hW1⟩ : ∃ W1, (w.alloc (.deferred (some []))).alloc (.loop (rec .ready none)) = W1 := ⟨_, rfl⟩
  have I1 : Inv B h (own :: (U s0 ++ [loopSA l (rec .ready none), markSA w.heap.size])) W1 := by
    have J1 : Inv B h (markSA w.heap.size :: own :: U s0) (w.alloc (.deferred (some []))) := I.gain (Grow.alloc w _) (World.alloc_heap_new w _) (fun b hb => by simp [markSA] at hb; subst hb; simp)
    have J2 : Inv B h (loopSA l (rec .ready none) :: markSA w.heap.size :: own :: U s0) W1 := by
      rw [← hW1]
      refine J1.gain (Grow.alloc _ _) ?_ (fun b hb => ?_)
      · have := World.alloc_heap_new (w.alloc (.deferred (some []))) (.loop (rec .ready none))
        rw [World.size_alloc] at this
        rw [hl]; exact this
      · simp [loopSA] at hb; subst hb; rw [hl]; simp
    refine J2.perm ?_
    show ((own :: U s0) ++ [loopSA l (rec .ready none), markSA w.heap.size]).Perm ([loopSA l (rec .ready none), markSA w.heap.size] ++ (own :: U s0))
    exact List.perm_append_comm
  refine ⟨l, [mark w.heap.size], W1, { target := .fn (.func gf) lb.toArray, args := #[.func (.yield l) #[] #[]] }, W1, gf, #[.func (.yield l) #[] #[]] ++ lb.toArray, W1, ?_, ?_, ?_, ?_⟩
  · rw [← hW1, hrec, hl]; exact run_enterLoop_outer _ _ _ _ _
  · rw [eval_env]
    have hg' : ev (env a) g = .func (.func gf) #[] lb.toArray := hg
    simp only [resolve, hg']
    simp [go_sem]
    rfl
  · simp [invoke, go_sem]; exact eg _ _
  · refine callsIn_wide.2 ?_
    refine (it l B h (fun s => U s ++ [loopSA l (rec .ready none), markSA w.heap.size]) Jc (Xp w.heap.size) W1 s0 I1 j0 mono ?_).mono ?_
    · intro k hg' x s X W hx g1 IW hj
      have IL : Inv B hg' ((X ++ U s) ++ loopSA l (rec .ready none) :: [markSA w.heap.size]) W := by rw [List.append_assoc]; exact IW
      have hy := run_yield (P := P) (args := (encs x).toArray) IL.getLoop (by rw [hrec]; simpa using hps x)
      refine ⟨_, _, _, _, hy, ?_⟩
      rw [hrec]
      refine roundIn_of_wpInP hfn ?_
      have hfold : (ps.zip (encs x).toArray).foldl (fun tmps (t, a) => tmps.setIfInBounds t a) a.tmps = (ps.toList.zip (encs x)).foldl (fun t p => t.setIfInBounds p.1 p.2) a.tmps := by
        rw [← Array.foldl_toList]; simp
      have hE := env_args (N := N) (ps.toList.zip (encs x)) a.tmps h1 (fun p hp => by
        have := (List.all_eq_true.1 hpN) p.1 (List.of_mem_zip hp).1
        simpa using this)
      have henv : env { tmps := a.tmps, defers := [] } = env a := rfl
      rw [henv] at hE
      have hR := round l w.heap.size (rec .ready none) hg' k x s X W hx g1 IW hj hsa { tmps := (ps.toList.zip (encs x)).foldl (fun t p => t.setIfInBounds p.1 p.2) a.tmps, defers := [] } hE.2 rfl hE.1
      simp only [hfold]
      refine wpIn_mono hR ?_
      rintro x1 a1 w1 ⟨k1, k2, k3⟩
      cases x1 <;> simp only [thenE] at k3 <;> first | exact k3.elim | skip
      obtain ⟨hg1, gl1, IX, hb⟩ := k3
      have IX' : Inv B hg1 ((X ++ U s) ++ loopSA l (rec .ready none) :: [markSA w.heap.size]) w1 := by rw [List.append_assoc]; exact IX
      refine ⟨_, run_beginRound IX'.getLoop (by rw [hrec]), ?_⟩
      have I2 := IX'.setLoop { rec .ready none with state := .busy }
      rw [List.append_assoc] at I2
      refine wpIn_mono (hb _ _ I2 hsb a1 k1 k2 rfl) ?_
      rintro x2 a2 w2 ⟨q1, q2, q3⟩
      cases x2 <;> simp only [roundQP] at q3 <;> simp only [roundPostP, roundPost] <;> first | exact q3.elim | skip
      · obtain ⟨h2, s2, Z, gl2, I3, hj2⟩ := q3
        have I3' : Inv B h2 ((X ++ U s2) ++ loopSA l { rec .ready none with state := .busy } :: [markSA w.heap.size]) w2 := by
          rw [List.append_assoc]; exact I3.weak (List.sublist_append_right _ _)
        have hr := run_endRound (P := P) none I3'.getLoop
        have I4 := I3'.setLoop (rec .ready none)
        refine ⟨_, _, hr, .inl ⟨rfl, h2, s2, gl1.trans gl2, ?_, hj2⟩⟩
        rw [List.append_assoc] at I4
        rw [hrec] at I4 ⊢
        exact I4
      · exact ⟨q2, .inr ⟨_, rfl, q3⟩⟩
    · rintro ed W2 (⟨⟨v, rfl⟩, hg', s, gl, I2, hj⟩ | ⟨ch, rfl, hx⟩)
      · refine ⟨_, by have := run_endLoop (P := P) I2.getLoop (by rw [hrec]; simp); rw [hrec] at this; exact this, h1, ?_⟩
        have I3 := (I2.setLoop { rec .ready none with state := .exhausted }).outLoop
        have hq := hdone w.heap.size hg' s _ gl I3 hj
        have hq' : Q .normal (env a) (W2.putObj l (.loop { rec .ready none with state := .exhausted })) (mark w.heap.size :: a.defers) := by rw [h2]; exact hq
        rw [hrec] at hq'
        exact hq'
      · refine ⟨h1, ?_⟩
        have hq := hpan _ _ _ hx
        rw [← h2] at hq
        exact hq
/-! ### The function's end -/
def endF (P : Program) (fn : Func) (R : Ending → World → Prop) : Exit → Env → World → List Deferred → Prop
  | .normal, e, w, D | .ret, e, w, D => ∀ tmps, env { tmps := tmps, defers := [] } = e → LeavesInM Fence.wide 0 P fn tmps R D .returning w
  | .panic ch, e, w, D => ∀ tmps, env { tmps := tmps, defers := [] } = e → LeavesInM Fence.wide 0 P fn tmps R D (.panicking ch) w
  | _, _, _, _ => False
theorem Calls.ofF {P : Program} {f : FuncId} {fn : Func} {c : Code} {N : Nat} {args : List Value} {w : World} {R : Ending → World → Prop} (hf : P.funcs[f]? = some fn) (hb : fn.body = some c) (hN : fn.ntmps = N) (hs : slotsOk N c = true)
    (hl : args.length ≤ N) (h : ∀ e, WPF P f N [] c (E e (argsE 0 args)) w (endF P fn R)) : Calls P f args.toArray w R := by
  refine (callsIn_wide (n := 0)).1 ⟨trivial, fun cs hr => ?_⟩
  subst hN
  let b : Frame := { (default : Frame) with fn := f, kind := .normal, roundOf := none }
  have henter : Frame.enter P f args.toArray .normal = b.atR { tmps := args.toArray ++ Array.replicate (fn.ntmps - args.toArray.size) undef, defers := [] } [.code c] := by
    simp [Frame.enter, Frame.atR, hf, hb, b]
  obtain ⟨e, a', w', ⟨_, hq⟩, harr⟩ := h _ hs { tmps := args.toArray ++ Array.replicate (fn.ntmps - args.toArray.size) undef, defers := [] } (by simp; omega) rfl (E_self (has_args args 0 fun j v hv => by
    have hj := (List.getElem?_eq_some_iff.1 hv).1
    have hg : args[j] = v := (List.getElem?_eq_some_iff.1 hv).2
    simp [env, Array.getD_eq_getD_getElem?, Array.getElem?_append, hj, hg])).symm b [] cs rfl rfl
  rw [← henter] at harr
  cases e with
  | normal =>
    obtain ⟨e', w'', fr', hR, hs, hfn, hl⟩ := leaves_stepsInM a'.defers .returning w' { b.atR a' [] with mode := .returning } cs rfl rfl rfl hf rfl trivial hr (hq a'.tmps rfl)
    exact ⟨e', w'', fr', hR, ComesIn.of_steps (StepsIn.trans harr (.one (fenced_wide _ _) (stepR_end rfl))) hs, hfn, hl⟩
  | ret =>
    obtain ⟨todo, hs₀⟩ := harr.1 rfl
    obtain ⟨e', w'', fr', hR, hs, hfn, hl⟩ := leaves_stepsInM a'.defers .returning w' { b.atR a' todo with mode := .returning } cs rfl rfl rfl hf rfl trivial hr (hq a'.tmps rfl)
    exact ⟨e', w'', fr', hR, ComesIn.of_steps hs₀ hs, hfn, hl⟩
  | panic chain =>
    obtain ⟨todo, hs₀⟩ := harr
    obtain ⟨e', w'', fr', hR, hs, hfn, hl⟩ := leaves_stepsInM a'.defers (.panicking chain) w' { b.atR a' todo with mode := .panicking chain } cs rfl rfl rfl hf rfl trivial hr (hq a'.tmps rfl)
    exact ⟨e', w'', fr', hR, ComesIn.of_steps hs₀ hs, hfn, hl⟩
  | exit id => exact hq.elim
  | goto l => exact hq.elim
  | outgrown => exact hq.elim
end Go.TF
end
section
/- Package text: the lines of a text, as strings.Lines hands them out. -/
namespace Go.TF
open Go Go.RowKit Go.Proofs
set_option maxRecDepth 20000

theorem index_one (c : UInt8) : ∀ s : Bs, Lib.index s [c] = Lib.indexByte s c
  | [] => rfl
  | b :: l => by
    rw [Lib.index, Lib.indexByte, index_one c l]
    have : ([c].isPrefixOf (b :: l)) = (b == c) := by
      show (c == b && true) = (b == c)
      rw [Bool.and_true]
      exact BEq.comm
    rw [this]
theorem indexByte_lt (c : UInt8) : ∀ s : Bs, Lib.indexByte s c < s.length
  | [] => by show (-1 : Int) < 0; omega
  | b :: l => by
    have ih := indexByte_lt c l
    rw [Lib.indexByte]
    simp only [List.length_cons]
    split
    · omega
    · split <;> omega
theorem mk_extract (s : Bs) (i j : Nat) : (mk s).extract i j = mk ((s.take j).drop i) := by
  apply ByteArray.ext
  simp only [ByteArray.data_extract]
  apply Array.ext'
  simp [List.drop_take]
def linesB (s : ByteArray) : List ByteArray := (linesS (tx s).length (tx s)).map mk
abbrev strC (s : ByteArray) : List Value := [.string s]
theorem drop_step {α : Type} {x : α} {l xs : List α} {k : Nat} (h : x :: l = xs.drop k) : xs[k]? = some x ∧ l = xs.drop (k + 1) ∧ k < xs.length := by
  have hk : k < xs.length := by
    rcases Nat.lt_or_ge k xs.length with h1 | h1
    · exact h1
    · rw [List.drop_eq_nil_of_le h1] at h; cases h
  rw [List.drop_eq_getElem_cons hk] at h
  injection h with h1 h2
  exact ⟨by rw [List.getElem?_eq_getElem hk, ← h1], h2, hk⟩
theorem Lines1_it (s : ByteArray) (hs : s.size ≤ 4096) (b : Nat) : IterP Tryz.prog 67 [.pointer (some ⟨b, 0, none⟩)] strC (linesB s) (box b [.string s] 9) := by
  intro σ l B h U Jc Xp W s0 I j0 mono hy
  have hargs : (#[.func (.yield l) #[] #[]] : Array Value) ++ ([.pointer (some ⟨b, 0, none⟩)] : List Value).toArray = [.func (.yield l) #[] #[], .pointer (some ⟨b, 0, none⟩)].toArray := rfl
  rw [hargs]
  refine Calls.ofWPP (args := [.func (.yield l) #[] #[], .pointer (some ⟨b, 0, none⟩)]) Tryz.func67 rfl Tryz.ntmps67 (by kernel_rfl) (by simp) ?_
  intro e
  refine WP.block ?_
  refine WP.loopE (σ := Nat × Bs × Heap × σ) (fun z => [(0, .func (.yield l) #[] #[]), (1, .pointer (some ⟨b, 0, none⟩))])
    (fun z w => z.2.1.length ≤ 4096 ∧ z.1 ≤ (linesB s).length ∧ (∃ f, z.2.1.length ≤ f ∧ (linesS f z.2.1).map mk = (linesB s).drop z.1) ∧ Inv B z.2.2.1 (box b [.string (mk z.2.1)] 9 :: U z.2.2.2) w ∧ h.le z.2.2.1 ∧ Jc z.1 z.2.2.1 z.2.2.2) (fun z => z.2.1.length)
    ⟨(0, tx s, h, s0), ⟨rfl, rfl, trivial⟩, by rw [tx_len]; exact hs, Nat.zero_le _, ⟨_, Nat.le_refl _, rfl⟩, by have e : mk (tx s) = s := mk_tx s; show Inv B h (box b [.string (mk (tx s))] _ :: U s0) W; rw [e]; exact I, Heap.le.refl _, j0⟩ ?_
  rintro ⟨k, rest, hg, s1⟩ e w ⟨hr, hk, ⟨f, hf, hxs⟩, I, gl, hj⟩
  dsimp only at hr hk hf hxs I gl hj ⊢
  have hsz : (mk rest).size = rest.length := mk_size rest
  refine WP.seq ?_
  refine WP.seq ?_
  refine WP.region ?_
  refine Ops.y (v := .string _) (Y.loadv ty_9 rfl (I.rdbox 0 rfl 0 1) rfl rfl) ?_
  refine Ops.y (v := .int .i64 _) (Y.lenstr Tryz.underlying9 rfl) ?_
  refine Ops.y (v := .bool (decide _)) (Y.gti rfl rfl) ?_
  refine Ops.nil ?_
  refine WP.cond_dec rfl (fun h7 => ?_) (fun h7 => ?_)
  · have hne : rest ≠ [] := fun e => by rw [e] at hsz; have h0 : (mk ([] : Bs)).size = 0 := rfl; rw [e] at h7; omega
    obtain ⟨f, rfl⟩ : ∃ g, f = g + 1 := ⟨f - 1, by have : 0 < rest.length := List.length_pos_iff.2 hne; omega⟩
    rw [linesS, if_neg hne] at hxs
    obtain ⟨ix, hix⟩ : ∃ ix, Lib.index rest [10] = ix := ⟨_, rfl⟩
    have hib : Lib.indexByte (tx (mk rest)) (10 : Int).toNat.toUInt8 = ix := by rw [← hix, index_one]; rfl
    rw [hix] at hxs
    refine WP.skip ?_
    refine WP.block ?_
    refine WP.seq ?_
    refine WP.region ?_
    refine Ops.y (v := .string _) (Y.assign rfl) ?_
    refine Ops.nil ?_
    refine WP.seq ?_
    refine WP.seq ?_
    refine WP.region ?_
    refine Ops.y (v := .string _) (Y.loadv ty_9 rfl (I.rdbox 0 rfl 0 1) rfl rfl) ?_
    refine Ops.go (O.callv I Tryz.call68 (hib ▸ IdxByte_ok (B := ⟨w, hg⟩) I.base_ok (mk rest) 10) rfl ?_)
    intro w I
    refine Ops.y (v := .int .i64 _) (Y.assign rfl) ?_
    refine Ops.nil ?_
    refine WP.seq ?_
    refine WP.region ?_
    refine Ops.y (v := .int .i64 _) (Y.move rfl) ?_
    refine Ops.y (v := .bool (decide _)) (Y.gei rfl rfl) ?_
    refine Ops.nil ?_
    refine WP.cutK (σ := Bs × Bs × Heap) (fun z => [(0, .func (.yield l) #[] #[]), (1, .pointer (some ⟨b, 0, none⟩)), (3, .string (mk z.1))])
      (fun z w => z.2.1.length < rest.length ∧ z.2.1.length ≤ f ∧ (mk z.1) :: (linesS f z.2.1).map mk = (linesB s).drop k ∧ hg.le z.2.2 ∧ Inv B z.2.2 (box b [.string (mk z.2.1)] 9 :: U s1) w) ?_ ?_
    · refine WP.cond_dec rfl (fun h11 => ?_) (fun h11 => ?_)
      · have h11' : 0 ≤ ix := h11
        rw [if_pos h11'] at hxs
        have hlt : ix < rest.length := by rw [← hix, index_one]; exact indexByte_lt _ _
        obtain ⟨n, hn⟩ : ∃ n : Nat, ix = n := ⟨ix.toNat, by omega⟩
        subst hn
        refine WP.regionF mixed I 9 (by kernel_rfl) ?_
        refine OpsF.y_ (v := .string _) (fun _ => runs_none _) (fun _ w us hl I => Y.loadv ty_9 rfl (I.rdbox 0 rfl 0 1) rfl rfl) ?_
        refine OpsF.y_ (v := .int .i64 _) (fun _ => runs_none _) (fun _ w us hl I => Y.move rfl) ?_
        refine OpsF.y_ (v := .int .i64 _) (fun _ => runs_none _) (fun _ w us hl I => Y.addi rfl rfl ⟨by omega, by omega⟩) ?_
        refine OpsF.y_ (v := .string _) (fun _ => runs_none _) (fun _ w us hl I => Y.slicestr (l := 0) (h := n + 1) Tryz.underlying9 rfl (.inl ⟨rfl, rfl⟩) (.inr ⟨_, _, rfl, rfl⟩) (by omega) (by rw [hsz]; omega)) ?_
        refine OpsF.y_ (v := .string _) (fun _ => runs_none _) (fun _ w us hl I => Y.loadv ty_9 rfl (I.rdbox 0 rfl 0 1) rfl rfl) ?_
        refine OpsF.y_ (v := .int .i64 _) (fun _ => runs_none _) (fun _ w us hl I => Y.move rfl) ?_
        refine OpsF.y_ (v := .int .i64 _) (fun _ => runs_none _) (fun _ w us hl I => Y.addi rfl rfl ⟨by omega, by omega⟩) ?_
        refine OpsF.y_ (v := .string _) (fun _ => runs_none _) (fun _ w us hl I => Y.slicestr (l := n + 1) (h := (mk rest).size) Tryz.underlying9 rfl (.inr ⟨_, _, rfl, rfl⟩) (.inl ⟨rfl, rfl⟩) (by rw [hsz]; omega) (Nat.le_refl _)) ?_
        refine OpsF.y_ (v := .string _) (fun _ => runs_none _) (fun _ w us hl I => Y.assign rfl) ?_
        refine OpsF.nil ?_
        intro _ w hl I
        try unfold AllL
        refine Ops.go (O.store (v := .string _) I ty_9 0 rfl rfl rfl rfl rfl rfl (Nat.le_of_ble_eq_true rfl) rfl ?_)
        intro w I
        refine Ops.nil ?_
        have e1 : (mk rest).extract 0 (n + 1) = mk (rest.take (n + 1)) := by rw [mk_extract]; rfl
        have e2 : (mk rest).extract (n + 1) (mk rest).size = mk (rest.drop (n + 1)) := by rw [mk_extract, hsz, List.take_of_length_le (Nat.le_refl _)]
        rw [e2] at I
        refine ⟨(rest.take (n + 1), rest.drop (n + 1), _), ⟨rfl, rfl, by rw [← e1]; rfl, trivial⟩, ?_, ?_, ?_, hl, I⟩
        · simp only [List.length_drop]; omega
        · simp only [List.length_drop]; omega
        · simpa using hxs
      · have h11' : ¬ 0 ≤ ix := h11
        rw [if_neg h11'] at hxs
        refine WP.region ?_
        refine Ops.y (v := .string _) (Y.loadv ty_9 rfl (I.rdbox 0 rfl 0 1) rfl rfl) ?_
        refine Ops.y (v := .string _) (Y.assign rfl) ?_
        refine Ops.go (O.store (v := .string _) I ty_9 0 rfl rfl rfl rfl rfl rfl (Nat.le_of_ble_eq_true rfl) rfl ?_)
        intro w I
        refine Ops.nil ?_
        refine ⟨(rest, [], hg), ⟨rfl, rfl, rfl, trivial⟩, ?_, ?_, ?_, Heap.le.refl _, I⟩
        · simp only [List.length_nil]; omega
        · simp
        · cases f <;> simpa [linesS] using hxs
    rintro ⟨x, r2, hg2⟩ e w ⟨hlt, hf2, hx2, gl1, I⟩
    dsimp only at hlt hf2 hx2 gl1 I ⊢
    obtain ⟨hget, hdr, hk1⟩ := drop_step hx2
    refine WP.seq ?_
    refine WP.regionY _ (fun _ _ _ h => h) (by kernel_rfl) ?_
    refine OpsY.y (v := .func _ _ _) (Y.move rfl) ?_
    refine OpsY.y (v := .string _) (Y.move rfl) ?_
    refine OpsY.yield rfl rfl (hy k hg2 (mk x) s1 [box b [.string (mk r2)] 9] w hget (gl.trans gl1) I (mono _ _ _ _ gl1 hj)) ?_
    rintro ed w (⟨rfl, h2, s2, gl2, I, hj2⟩ | ⟨ch, rfl, hx⟩)
    · refine .inl ⟨_, rfl, ?_⟩
      refine OpsY.y (v := .bool false) (Y.b (Y.not rfl) (rfl)) ?_
      refine OpsY.nil ?_
      refine WP.cond_f rfl ?_
      refine WP.skip ?_
      exact ⟨(k + 1, r2, h2, s2), ⟨⟨rfl, rfl, trivial⟩, by dsimp only; omega, by dsimp only; omega, ⟨f, hf2, hdr⟩, I, (gl.trans gl1).trans gl2, hj2⟩, hlt⟩
    · refine .inr ⟨ch, rfl, ?_⟩
      exact .inr ⟨ch, rfl, hx⟩
  obtain rfl : rest = [] := List.length_eq_zero_iff.1 (by omega)
  have hend : k = (linesB s).length := by
    have : (linesS f []).map mk = [] := by cases f <;> simp [linesS]
    rw [this] at hxs
    have := congrArg List.length hxs
    simp only [List.length_nil, List.length_drop] at this
    omega
  subst hend
  refine WP.exit ?_
  exact ⟨[], trivial, .inl ⟨⟨_, rfl⟩, hg, s1, gl, I.drop, hj⟩⟩
end Go.TF
end
section
/- Package text: the deferred call of Read. -/
namespace Go.TF
open Go Go.RowKit Go.Proofs
set_option maxRecDepth 20000

theorem wpSIn_of_WP {P : Program} {N : Nat} {c : Code} {kv : List (Nat × Value)} {w : World} {Q' : Exit → Env → World → Prop} {Q : Exit → Act → List Frame → World → Prop} {a : Act} {cs : List Frame} (hh : Has (env a) kv) (h : ∀ e, WP P N [] c (E e kv) w Q') (hs : slotsOk N c = true) (ha : a.tmps.size = N) (hd : a.defers = [])
    (hq : ∀ x a' w', a'.defers = [] → Q' x (env a') w' → Q x a' cs w') : c.wpSIn Fence.wide 0 P Q a cs w :=
  wpSIn_of_wpIn rfl (wpIn_mono (wpIn_wide.2 (h (env a) hs a ha hd (E_self hh).symm)) fun x a' w' ⟨_, g2, g3⟩ => hq x a' w' g2 g3)
abbrev brkR : List PanicEntry := [{ v := .iface 119 (.agg #[]), recovered := true }]
theorem Read1_ret (b2 b3 : Nat) (w : World) : CallsDIn Fence.wide 0 Tryz.prog 28 #[.pointer (some ⟨b2, 0, none⟩), .pointer (some ⟨b3, 0, none⟩)] .returning w fun ed u w' => (∃ v, ed = .returned v) ∧ u = .returning ∧ w' = w := by
  refine callsDIn_of_wpSIn Tryz.func28 rfl trivial fun c₀ cs hu => ?_
  apply wpSIn_seq
  apply wpSIn_region
  simp [wpOpsSIn, go_sem, recoverD, hu, Tryz.ntmps28, Exit.thenS]
  refine wpSIn_cond (t := false) (by simp [Act.eval, Array.replicate]) ?_
  simp only [Bool.false_eq_true, if_false]
  refine wpSIn_of_wpIn rfl (wpIn_skip ?_)
  cases c₀
  simp_all [bodyPostS, results, Tryz.results28]
theorem Read1_pan {B : Base} {h : Heap} {M : List SA} {w : World} (b2 b3 : Nat) {x y z : Value} (I : Inv B h (box b2 [x, y] 25 :: box b3 [z] 26 :: M) w) :
    CallsDIn Fence.wide 0 Tryz.prog 28 #[.pointer (some ⟨b2, 0, none⟩), .pointer (some ⟨b3, 0, none⟩)] (.panicking brk) w fun ed u w' => (∃ v, ed = .returned v) ∧ u = .panicking brkR ∧ Inv B h (box b2 [.slice none 0 0, .slice none 0 0] 25 :: box b3 [.int .i64 1] 26 :: M) w' := by
  refine callsDIn_of_wpSIn Tryz.func28 rfl trivial fun c₀ cs hu => ?_
  apply wpSIn_seq
  apply wpSIn_region
  simp [wpOpsSIn, go_sem, recoverD, hu, Tryz.ntmps28, Exit.thenS]
  refine wpSIn_cond (t := true) (by simp [Act.eval, Array.replicate]) ?_
  simp only [if_true]
  refine wpSIn_of_WP (N := 5) (kv := [(0, .pointer (some ⟨b2, 0, none⟩)), (1, .pointer (some ⟨b3, 0, none⟩))]) (Q' := fun x _ w' => x = .normal ∧ Inv B h (box b2 [.slice none 0 0, .slice none 0 0] 25 :: box b3 [.int .i64 1] 26 :: M) w') ⟨rfl, rfl, trivial⟩ ?_ rfl (by simp) rfl ?_
  · intro e
    refine WP.region ?_
    refine Ops.y (v := .agg #[.slice _ _ _, .slice _ _ _]) (Y.build pl_25 Tryz.zeroValue25 rfl rfl) ?_
    refine Ops.go (O.store (v := .agg #[_, _]) I ty_25 0 rfl rfl rfl rfl rfl rfl (Nat.le_of_ble_eq_true rfl) rfl ?_)
    intro w I
    refine Ops.go (O.store (v := .int .i64 _) I ty_26 1 rfl rfl rfl rfl rfl rfl (Nat.le_of_ble_eq_true rfl) rfl ?_)
    intro w I
    refine Ops.nil ?_
    exact ⟨rfl, I⟩
  · rintro x a' w' hd ⟨rfl, I⟩
    refine ⟨hd, _, rfl, ?_⟩
    simp [results, Tryz.results28, I]
end Go.TF
end
section
/- uses: the iterator; its contract. -/
namespace Go.TF
open Go Go.RowKit Go.Proofs
set_option maxRecDepth 20000

/-- A program as it lies in a box that is never written again. -/
def PBox (h : Heap) (b : Nat) (p : Prg) : Prop := h b = some (.cells [p.preds.val, p.rules.val].toArray 25 (0, 0))
theorem uses_ok (B : Base) (hB : B.ok) (p : Prg) : Fn Tryz.prog 120 [p.val] B (fun v h' => ∃ b, v = .func (.func 162) #[] #[.pointer (some ⟨b, 0, none⟩)] ∧ PBox h' b p) := by
  refine Fn.of Tryz.func120 rfl Tryz.ntmps120 (by kernel_rfl) (by simp) ?_
  intro e
  have I := Inv.start hB
  refine WP.seq ?_
  refine WP.region ?_
  refine Ops.go (O.box (v := .agg #[_, _]) I rfl rfl ?_)
  intro b1 w I
  refine Ops.y (v := .nilFunc) (Y.assign rfl) ?_
  refine Ops.nil ?_
  refine WP.seq ?_
  refine WP.region ?_
  refine Ops.y (v := .func _ _ _) (Y.mkfunc rfl rfl) ?_
  refine Ops.y (v := .func _ _ _) (Y.assign rfl) ?_
  refine Ops.nil ?_
  have hb0 := I.at 0 rfl
  obtain ⟨h1, le1, hb, I⟩ := I.settle
  refine WP.ret ?_
  repeat (first | refine thenE_ret ?_ | refine blockE_ret ?_)
  exact retQ.mk (vs := [.func _ _ _]) rfl ⟨rfl, trivial⟩ I.ext_of (⟨b1, rfl, (hb b1 (by simp [box])).trans hb0⟩)
theorem usesL_take {rs : List Rul} {n : Nat} (hn : n < rs.length) : usesL (rs.take (n + 1)) = usesL (rs.take n) ++ rs[n].body.xs.map fun x => (rs[n].head.pred, x) := by
  rw [List.take_succ_eq_append_getElem hn]
  unfold usesL
  rw [List.flatMap_append]
  simp only [List.flatMap_cons, List.flatMap_nil, List.append_nil]
theorem usesL_split (rs : List Rul) (n : Nat) : usesL rs = usesL (rs.take n) ++ usesL (rs.drop n) := by
  have := congrArg usesL (List.take_append_drop n rs)
  unfold usesL at this ⊢
  rw [List.flatMap_append] at this
  exact this.symm
theorem usesL_get {rs : List Rul} {n : Nat} (hn : n < rs.length) {k : Nat} (hk : k < rs[n].body.xs.length) : (usesL rs)[(usesL (rs.take n)).length + k]? = some (rs[n].head.pred, rs[n].body.xs[k]) := by
  rw [usesL_split rs (n + 1), usesL_take hn, List.append_assoc, List.getElem?_append_right (by omega), List.getElem?_append_left (by simp; omega)]
  simp [hk]
def cEnc (c : Int × Ltl) : List Value := [.int .i64 c.1, c.2.val]
set_option maxHeartbeats 2000000 in
theorem uses1_iter (p : Prg) (bp : Nat) (h : Heap) (hb : PBox h bp p) (hr : Ruls p.rules h) : Iter Tryz.prog 162 [.pointer (some ⟨bp, 0, none⟩)] cEnc (usesL p.rules.xs) h := by
  intro l J Jx hg W hle j0 hok hext hround
  have hsm := hr.is.small
  refine Calls.ofWP (args := [.func (.yield l) #[] #[], .pointer (some ⟨bp, 0, none⟩)]) Tryz.func162 rfl Tryz.ntmps162 (by kernel_rfl) (by simp) ?_
  intro e
  have I := Inv.start (hok _ _ _ j0)
  refine WP.seq ?_
  refine WP.region ?_
  refine Ops.y (v := .pointer (some ⟨_, _, none⟩)) (Y.fa fa_25_1 rfl) ?_
  refine Ops.y (v := .slice _ _ _) (Y.loadv ty_23 rfl (I.rd ((rdHb hb 1 1).le hle)) rfl rfl) ?_
  refine Ops.y (v := .int .i64 _) (Y.lens Tryz.underlying23 rfl) ?_
  refine Ops.y (v := .int .i64 _) (Y.move rfl) ?_
  refine Ops.nil ?_
  refine WP.block ?_
  refine WP.loopE (σ := Nat) (fun n => [(0, .func (.yield l) #[] #[]), (1, .pointer (some ⟨bp, 0, none⟩)), (8, p.rules.val), (9, .int .i64 p.rules.xs.length), (10, .int .i64 n)])
    (fun n w => n ≤ p.rules.xs.length ∧ ∃ h1, hg.le h1 ∧ J h1 (usesL (p.rules.xs.take n)).length w) (fun n => p.rules.xs.length - n)
    ⟨0, ⟨rfl, rfl, rfl, rfl, rfl, trivial⟩, Nat.zero_le _, hg, Heap.le.refl _, j0⟩ ?_
  rintro n e w ⟨hn, h1, gl1, j1⟩
  have I := Inv.start (hok _ _ _ j1)
  refine WP.seq ?_
  refine WP.region ?_
  refine Ops.y (v := .bool (decide _)) (Y.lti rfl rfl) ?_
  refine Ops.nil ?_
  refine WP.seq ?_
  refine WP.cond_dec rfl (fun hc => ?_) (fun hc => ?_)
  · have hn' : n < p.rules.xs.length := by omega
    have E1 := (hr.is.le (hle.trans gl1)).at hn'
    have hbd := (hr.each _ (List.getElem_mem hn')).body.le (hle.trans gl1)
    have hbs := hbd.is.small
    refine WP.skip ?_
    refine WP.seq ?_
    refine WP.block ?_
    refine WP.seq ?_
    refine WP.region ?_
    refine Ops.y (v := .pointer (some ⟨_, _, none⟩)) (Y.idxEl E1 Tryz.underlying23 Tryz.sizeOf64 rfl rfl (Int.natCast_nonneg _) rfl) ?_
    refine Ops.y (v := .agg #[_, _, _, _, _]) (Y.loadv ty_64 rfl (I.rd (E1.rd.part 0 5)) rfl rfl) ?_
    refine Ops.go (O.alloc I Tryz.zeroValue64 rfl ?_)
    intro b4 w I
    refine Ops.go (O.store (v := .agg #[_, _, _, _, _]) I ty_64 0 rfl rfl rfl rfl rfl rfl (Nat.le_of_ble_eq_true rfl) rfl ?_)
    intro w I
    refine Ops.nil ?_
    refine WP.seq ?_
    refine WP.region ?_
    refine Ops.y (v := .pointer (some ⟨_, _, none⟩)) (Y.fa fa_64_3 rfl) ?_
    refine Ops.y (v := .slice _ _ _) (Y.loadv ty_62 rfl (I.rdbox 0 rfl 4 1) rfl rfl) ?_
    refine Ops.y (v := .int .i64 _) (Y.lens Tryz.underlying62 rfl) ?_
    refine Ops.y (v := .int .i64 _) (Y.move rfl) ?_
    refine Ops.nil ?_
    have hb4 := I.at 0 rfl
    obtain ⟨h2, le2, hh4, I⟩ := I.settle
    have hb4 := (hh4 b4 (by simp [box])).trans hb4
    refine WP.block ?_
    refine WP.loopE (σ := Nat) (fun k => [(0, .func (.yield l) #[] #[]), (1, .pointer (some ⟨bp, 0, none⟩)), (8, p.rules.val), (9, .int .i64 p.rules.xs.length), (10, .int .i64 n), (4, .pointer (some ⟨b4, 0, none⟩)), (15, p.rules.xs[n].body.val), (16, .int .i64 p.rules.xs[n].body.xs.length), (17, .int .i64 k)])
      (fun k w => k ≤ p.rules.xs[n].body.xs.length ∧ ∃ h3, h2.le h3 ∧ J h3 ((usesL (p.rules.xs.take n)).length + k) w) (fun k => p.rules.xs[n].body.xs.length - k)
      ⟨0, ⟨rfl, rfl, rfl, rfl, rfl, rfl, rfl, rfl, rfl, trivial⟩, Nat.zero_le _, h2, Heap.le.refl _, hext _ _ _ _ _ j1 I⟩ ?_
    rintro k e w ⟨hk, h3, gl3, j3⟩
    have I := Inv.start (hok _ _ _ j3)
    refine WP.seq ?_
    refine WP.region ?_
    refine Ops.y (v := .bool (decide _)) (Y.lti rfl rfl) ?_
    refine Ops.nil ?_
    refine WP.seq ?_
    refine WP.cond_dec rfl (fun hd => ?_) (fun hd => ?_)
    · have hk' : k < p.rules.xs[n].body.xs.length := by omega
      have E2 := (hbd.is.le (le2.trans gl3)).at hk'
      refine WP.skip ?_
      refine WP.seq ?_
      refine WP.block ?_
      refine WP.seq ?_
      refine WP.region ?_
      refine Ops.y (v := .pointer (some ⟨_, _, none⟩)) (Y.idxEl E2 Tryz.underlying62 Tryz.sizeOf68 rfl rfl (Int.natCast_nonneg _) rfl) ?_
      refine Ops.y (v := .agg #[_, _, _]) (Y.loadv ty_68 rfl (I.rd (E2.rd.part 0 3)) rfl rfl) ?_
      refine Ops.go (O.alloc I Tryz.zeroValue68 rfl ?_)
      intro b6 w I
      refine Ops.go (O.store (v := .agg #[_, _, _]) I ty_68 0 rfl rfl rfl rfl rfl rfl (Nat.le_of_ble_eq_true rfl) rfl ?_)
      intro w I
      refine Ops.nil ?_
      refine WP.seq ?_
      refine WP.regionX (by kernel_rfl) ?_
      refine OpsX.y (v := .func _ _ _) (Y.move rfl) ?_
      refine OpsX.y (v := .pointer (some ⟨_, _, none⟩)) (Y.fa0 fa_64_0 rfl) ?_
      refine OpsX.y (v := .pointer (some ⟨_, _, none⟩)) (Y.fa0 fa_61_0 rfl) ?_
      refine OpsX.y (v := .int .i64 _) (Y.loadv ty_3 rfl (I.rd ((rdHb hb4 0 1).le gl3)) rfl rfl) ?_
      refine OpsX.y (v := .agg #[_, _, _]) (Y.loadv ty_68 rfl (I.rdbox 0 rfl 0 3) rfl rfl) ?_
      refine OpsX.yield rfl rfl (hround h3 _ _ _ (gl1.trans (le2.trans gl3)) (usesL_get hn' hk') (hext _ _ _ _ _ j3 I.ext_of)) ?_
      rintro ed w (⟨rfl, h4, gl4, j4⟩ | ⟨rfl, jx⟩)
      · refine ⟨_, rfl, ?_⟩
        refine OpsX.y (v := .bool _) (Y.not rfl) ?_
        refine OpsX.nil ?_
        refine WP.cond_f rfl ?_
        refine WP.skip ?_
        refine WP.region ?_
        refine Ops.y (v := .int .i64 _) (Y.addi rfl rfl ⟨by omega, by omega⟩) ?_
        refine Ops.y (v := .int .i64 _) (Y.move rfl) ?_
        refine Ops.nil ?_
        exact ⟨k + 1, ⟨⟨rfl, rfl, rfl, rfl, rfl, rfl, rfl, rfl, rfl, trivial⟩, by omega, h4, gl3.trans gl4, j4⟩, by omega⟩
      · refine ⟨_, rfl, ?_⟩
        refine OpsX.y (v := .bool _) (Y.not rfl) ?_
        refine OpsX.nil ?_
        refine WP.cond_t rfl ?_
        refine WP.ret ?_
        repeat (first | refine thenE_ret ?_ | refine blockE_ret ?_)
        exact ⟨.inl rfl, [], trivial, ⟨_, rfl⟩, .inr jx⟩
    refine WP.exit ?_
    refine WP.region ?_
    refine Ops.y (v := .int .i64 _) (Y.addi rfl rfl ⟨by omega, by omega⟩) ?_
    refine Ops.y (v := .int .i64 _) (Y.move rfl) ?_
    refine Ops.nil ?_
    have hk2 : k = p.rules.xs[n].body.xs.length := by omega
    exact ⟨n + 1, ⟨⟨rfl, rfl, rfl, rfl, rfl, trivial⟩, by omega, h3, gl1.trans (le2.trans gl3), by rw [usesL_take hn', List.length_append, List.length_map, ← hk2]; exact j3⟩, by omega⟩
  refine WP.exit ?_
  have hn2 : n = p.rules.xs.length := by omega
  rw [hn2, List.take_length] at j1
  exact ⟨.inr rfl, [], trivial, ⟨_, rfl⟩, .inl ⟨h1, gl1, j1⟩⟩
end Go.TF
end
section
/- Levels: the strata, raised from 0 until all hold. -/
namespace Go.TF
open Go Go.RowKit Go.Proofs
set_option maxRecDepth 20000

@[reducible] def iEnc (n : Int) : List Value := [.int .i64 n]
@[reducible] def vI (n : Int) : Value := .int .i64 n
@[reducible] def vB (n : Bool) : Value := .bool n
/-- What Levels and strata hand back. -/
def LevP (cs : List (Int × Ltl)) (n : Nat) (v : Value) (h : Heap) : Prop :=
  (∃ s : Sl Int, StrataR cs n (some s.xs) ∧ s.Is 1 iEnc h ∧ v = .tuple #[s.val, .bool true]) ∨ (StrataR cs n none ∧ v = .tuple #[.slice none 0 0, .bool false])
theorem boxIs {b : Nat} {L : List Int} {T : TypeId} {h : Heap} {c : Nat} (hb : h b = some (.cells (L.map vI).toArray T (0, 0))) (hs : L.length ≤ 140737488355328) : (⟨some ⟨b, 0, none⟩, c, L⟩ : Sl Int).Is 1 iEnc h :=
  ⟨fun i x hx => ⟨rfl, fun j v hv => by
    cases j with
    | zero => simp at hv; subst hv; simp only [Heap.cell, Sl.blk, Sl.off, Option.getD_some, hb]; simp [hx]
    | succ j => simp at hv⟩, hs⟩
theorem lv_some {L : List Int} {n : Nat} (hl : L.length = n) {i : Int} (h0 : 0 ≤ i) (h1 : i < n) : L[i.toNat]? = some (lv L i) := by
  have : i.toNat < L.length := by omega
  simp [lv, List.getD_eq_getElem?_getD, this]
structure LevS where
  bo : Nat
  b4 : Nat
  L : List Int
  ms : List Nat
def LevU (s : LevS) (b3 b2 b1 : Nat) (p : Prg) (L : List Int) : List SA := [box s.b4 [.slice (some ⟨s.bo, 0, none⟩) p.preds.xs.length p.preds.xs.length] 78, box s.bo (L.map vI) 3, box b3 [.bool false] 4, box b2 [.slice none 0 0] 78, box b1 p.enc 25]
structure LevJ (B : Base) (b3 b2 b1 : Nat) (p : Prg) (cs : List (Int × Ltl)) (s : LevS) (w : World) : Prop where
  inv : ∃ h1, B.h.le h1 ∧ Inv B h1 (LevU s b3 b2 b1 p s.L ++ s.ms.map markSA) w
  good : Good cs p.preds.xs.length s.L
  lt : ∀ i : Int, 0 ≤ i → i < p.preds.xs.length → lv s.L i < p.preds.xs.length
def LevJx (cs : List (Int × Ltl)) (n : Nat) (L : List Int) (j : Jmp) (L' : List Int) : Prop :=
  match j with
  | .ret => L' = L ∧ StrataR cs n none
  | .goto t => t = 0 ∧ ∃ c ∈ cs, L' = L.set c.1.toNat (lst L c) ∧ lv L c.1 < lst L c ∧ lst L c < n
  | .exit _ => False
set_option maxHeartbeats 4000000 in
theorem Levels_ok (B : Base) (hB : B.ok) (p : Prg) (hp : p.In B.h) (hr : InR (usesL p.rules.xs) p.preds.xs.length) (hn5 : p.preds.xs.length ≤ 5) : Fn Tryz.prog 62 [p.val] B (fun v h => LevP (usesL p.rules.xs) p.preds.xs.length v h) := by
  refine Fn.ofD Tryz.func62 rfl Tryz.ntmps62 (by kernel_rfl) (by simp) ?_
  intro e
  have I := Inv.start hB
  refine WPD.seq ?_
  refine WPD.region ?_
  refine Ops.go (O.box (v := .agg #[_, _]) I rfl rfl ?_)
  intro b1 w I
  refine Ops.go (O.alloc I Tryz.zeroValue78 rfl ?_)
  intro b2 w I
  refine Ops.go (O.alloc I Tryz.zeroValue4 rfl ?_)
  intro b3 w I
  refine Ops.nil ?_
  refine WPD.scopeL (σ := LevS) 0 (fun s => [(1, .pointer (some ⟨b1, 0, none⟩)), (2, .pointer (some ⟨b2, 0, none⟩)), (3, .pointer (some ⟨b3, 0, none⟩)), (4, .pointer (some ⟨s.b4, 0, none⟩))]) (fun s => s.ms.map mark)
    (LevJ B b3 b2 b1 p (usesL p.rules.xs)) (fun s => pot p.preds.xs.length s.L) rfl (by kernel_rfl) ?_ ?_
  · refine WPD.region ?_
    refine Ops.y (v := .pointer (some ⟨_, _, none⟩)) (Y.fa0 fa_25_0 rfl) ?_
    refine Ops.y (v := .slice _ _ _) (Y.loadv ty_22 rfl (I.rdbox 2 rfl 0 1) rfl rfl) ?_
    refine Ops.y (v := .int .i64 _) (Y.lens Tryz.underlying22 rfl) ?_
    refine Ops.go (O.make1 (n := p.preds.xs.length) (zc := (vI 0)) I Tryz.underlying78 et_3 rfl rfl rfl (by omega) (by omega) ?_)
    intro b11 w I
    refine Ops.go (O.alloc I Tryz.zeroValue78 rfl ?_)
    intro b4 w I
    refine Ops.go (O.store (v := .slice _ _ _) I ty_78 0 rfl rfl rfl rfl rfl rfl (Nat.le_of_ble_eq_true rfl) rfl ?_)
    intro w I
    refine Ops.nil ?_
    refine ⟨⟨b11, b4, List.replicate p.preds.xs.length 0, []⟩, ⟨rfl, rfl, rfl, rfl, trivial⟩, rfl, ⟨⟨B.h, Heap.le.refl _, ?_⟩, Good.zero _ _, fun i h0 h1 => by rw [lv_zero]; omega⟩⟩
    simp only [List.map_nil, List.append_nil, LevU, List.map_replicate]
    exact I
  · rintro ⟨bo, b4, L, ms⟩ e w ⟨⟨h1, gl1, I⟩, g, hlt⟩
    dsimp only at I g hlt ⊢
    refine WPD.seq ?_
    refine WPD.seq ?_
    refine WPD.region ?_
    refine Ops.y (v := .agg #[_, _]) (Y.loadv ty_25 rfl (I.rdbox 4 rfl 0 2) rfl rfl) ?_
    refine Ops.go (O.call I Tryz.call120 (uses_ok _ I.base_ok p) rfl ?_)
    rintro _ h2 w I le2 ⟨bp, rfl, hbp⟩
    refine Ops.nil ?_
    refine WPD.block ?_
    refine WPD.rangeFunc (σ := List Int) (LevU ⟨bo, b4, L, ms⟩ b3 b2 b1 p) (fun k L' => L' = L ∧ ∀ j, j < k → ∀ c, (usesL p.rules.xs)[j]? = some c → SatC L c) (LevJx (usesL p.rules.xs) p.preds.xs.length L) L I ⟨rfl, fun j hj => by omega⟩ rfl Tryz.call162
      (uses1_iter p bp h2 hbp (hp.rules.le (gl1.trans le2))) (fun _ => rfl) (by kernel_rfl) (by kernel_rfl) (by kernel_rfl) ?_ ?_ ?_
    · rintro l r ms' hg k c L' W hx gl I ⟨hL, hsat⟩
      obtain rfl : L = L' := hL.symm
      have hc := List.mem_of_getElem? hx
      have hh := hr.h c hc
      have hb := hr.b c hc
      have hlb := hlt _ hb.1 hb.2
      have hpb := g.pos c.2.atom.pred
      have hng := ng_le c.2
      have hlst : lst L c = lv L c.2.atom.pred + ng c.2 := rfl
      refine WPI.seq ?_
      refine WPI.region (by kernel_rfl) ?_
      refine Ops.y (v := .int .i64 _) (Y.assign rfl) ?_
      refine Ops.nil ?_
      refine WPI.region (by kernel_rfl) ?_
      refine Ops.go (O.alloc I Tryz.zeroValue68 rfl ?_)
      intro b6 w I
      refine Ops.go (O.store (v := .agg #[_, _, _]) I ty_68 0 rfl rfl rfl rfl rfl rfl (Nat.le_of_ble_eq_true rfl) rfl ?_)
      intro w I
      refine Ops.nil ?_
      refine ⟨hg, [box b6 c.2.enc 68], Heap.le.refl _, I, fun r' W2 I => ?_⟩
      refine WPI.block ?_
      refine WPI.seq ?_
      refine WPI.region (by kernel_rfl) ?_
      refine Ops.y (v := .slice _ _ _) (Y.loadv ty_78 rfl (I.rdbox 1 rfl 0 1) rfl rfl) ?_
      refine Ops.y (v := .pointer (some ⟨_, _, none⟩)) (Y.fa fa_68_1 rfl) ?_
      refine Ops.y (v := .pointer (some ⟨_, _, none⟩)) (Y.fa0 fa_61_0 rfl) ?_
      refine Ops.y (v := .int .i64 _) (Y.loadv ty_3 rfl (I.rdbox 0 rfl 1 1) rfl rfl) ?_
      refine Ops.y (v := .pointer (some ⟨_, _, none⟩)) (Y.idx Tryz.underlying78 Tryz.sizeOf3 rfl rfl hb.1 hb.2) ?_
      refine Ops.y (v := .int .i64 _) (Y.loadv ty_3 rfl (I.rdL 2 rfl (by omega) (lv_some g.len hb.1 hb.2)) rfl rfl) ?_
      refine Ops.y (v := .int .i64 _) (Y.assign rfl) ?_
      refine Ops.nil ?_
      refine WPI.seq ?_
      refine WPI.cutL (σ := Unit) (fun _ => [(1, .pointer (some ⟨b1, 0, none⟩)), (2, .pointer (some ⟨b2, 0, none⟩)), (3, .pointer (some ⟨b3, 0, none⟩)), (4, .pointer (some ⟨b4, 0, none⟩)), (5, .int .i64 c.1), (6, .pointer (some ⟨b6, 0, none⟩)), (7, .int .i64 (lst L c))])
        (fun _ w => Inv B hg ([box b6 c.2.enc 68] ++ (LevU ⟨bo, b4, L, ms⟩ b3 b2 b1 p L ++ (loopSA l r' :: ms'.map markSA))) w) ?_ ?_
      · refine WPI.seq ?_
        refine WPI.region (by kernel_rfl) ?_
        refine Ops.y (v := .pointer (some ⟨_, _, none⟩)) (Y.fa0 fa_68_0 rfl) ?_
        refine Ops.y (v := .bool _) (Y.loadv ty_4 rfl (I.rdbox 0 rfl 0 1) rfl rfl) ?_
        refine Ops.nil ?_
        refine WPI.cond rfl (fun hneg => ?_) (fun hneg => ?_)
        · refine WPI.region (by kernel_rfl) ?_
          refine Ops.y (v := .int .i64 _) (Y.move rfl) ?_
          refine Ops.y (v := .int .i64 _) (Y.addi rfl rfl ⟨by omega, by omega⟩) ?_
          refine Ops.y (v := .int .i64 _) (Y.assign rfl) ?_
          refine Ops.nil ?_
          exact ⟨(), ⟨rfl, rfl, rfl, rfl, rfl, rfl, by simp only [lst, ng, hneg]; rfl, trivial⟩, I⟩
        · refine WPI.skip ?_
          exact ⟨(), ⟨rfl, rfl, rfl, rfl, rfl, rfl, by simp only [lst, ng, hneg, Bool.false_eq_true, if_false, Int.add_zero]; rfl, trivial⟩, I⟩
      rintro _ e W2 I
      refine WPI.seq ?_
      refine WPI.seq ?_
      refine WPI.region (by kernel_rfl) ?_
      refine Ops.y (v := .int .i64 _) (Y.move rfl) ?_
      refine Ops.y (v := .slice _ _ _) (Y.loadv ty_78 rfl (I.rdbox 1 rfl 0 1) rfl rfl) ?_
      refine Ops.y (v := .int .i64 _) (Y.move rfl) ?_
      refine Ops.y (v := .pointer (some ⟨_, _, none⟩)) (Y.idx Tryz.underlying78 Tryz.sizeOf3 rfl rfl hh.1 hh.2) ?_
      refine Ops.y (v := .int .i64 _) (Y.loadv ty_3 rfl (I.rdL 2 rfl (by omega) (lv_some g.len hh.1 hh.2)) rfl rfl) ?_
      refine Ops.y (v := .bool (decide _)) (Y.lei rfl rfl) ?_
      refine Ops.nil ?_
      refine WPI.cond_dec rfl (fun h8 => ?_) (fun h8 => ?_)
      · refine WPI.exit ?_
        exact ⟨hg, L, [box b6 c.2.enc 68], Heap.le.refl _, I, rfl, fun j hj c' hc' => by
          rcases Nat.lt_succ_iff_lt_or_eq.1 hj with h' | rfl
          · exact hsat j h' c' hc'
          · rw [hx] at hc'; cases hc'; exact h8⟩
      refine WPI.skip ?_
      refine WPI.seq ?_
      refine WPI.seq ?_
      refine WPI.region (by kernel_rfl) ?_
      refine Ops.y (v := .int .i64 _) (Y.move rfl) ?_
      refine Ops.y (v := .pointer (some ⟨_, _, none⟩)) (Y.fa0 fa_25_0 rfl) ?_
      refine Ops.y (v := .slice _ _ _) (Y.loadv ty_22 rfl (I.rdbox 5 rfl 0 1) rfl rfl) ?_
      refine Ops.y (v := .int .i64 _) (Y.lens Tryz.underlying22 rfl) ?_
      refine Ops.y (v := .bool (decide _)) (Y.gei rfl rfl) ?_
      refine Ops.nil ?_
      refine WPI.cond_dec rfl (fun h9 => ?_) (fun h9 => ?_)
      · refine WPI.seq ?_
        refine WPI.region (by kernel_rfl) ?_
        refine Ops.go (O.store (v := .slice _ _ _) I ty_78 4 rfl rfl rfl rfl rfl rfl (Nat.le_of_ble_eq_true rfl) rfl ?_)
        intro w I
        refine Ops.go (O.store (v := .bool _) I ty_4 3 rfl rfl rfl rfl rfl rfl (Nat.le_of_ble_eq_true rfl) rfl ?_)
        intro w I
        refine Ops.nil ?_
        refine WPI.ret ?_
        repeat (first | refine thenE_ret ?_ | refine blockE_ret ?_)
        exact ⟨hg, L, [box b6 c.2.enc 68], Heap.le.refl _, I, rfl, g.fail hr hc h9⟩
      refine WPI.skip ?_
      refine WPI.seq ?_
      refine WPI.region (by kernel_rfl) ?_
      refine Ops.y (v := .slice _ _ _) (Y.loadv ty_78 rfl (I.rdbox 1 rfl 0 1) rfl rfl) ?_
      refine Ops.y (v := .int .i64 _) (Y.move rfl) ?_
      refine Ops.y (v := .int .i64 _) (Y.move rfl) ?_
      refine Ops.y (v := .pointer (some ⟨_, _, none⟩)) (Y.idx Tryz.underlying78 Tryz.sizeOf3 rfl rfl hh.1 hh.2) ?_
      refine Ops.go (O.store1 I ty_3 2 rfl rfl (i := c.1.toNat) (by omega) (by rw [g.len]; omega) rfl rfl rfl ?_)
      intro w I
      refine Ops.nil ?_
      refine WPI.goto ?_
      exact ⟨hg, L.set c.1.toNat (lst L c), [box b6 c.2.enc 68], Heap.le.refl _, I, rfl, c, hc, rfl, by omega, by omega⟩
    · rintro D h3 L' W gl I ⟨hL, hsat⟩
      obtain rfl : L = L' := hL.symm
      refine WPD.seq ?_
      refine WPD.region ?_
      refine Ops.y (v := .slice _ _ _) (Y.loadv ty_78 rfl (I.rdbox 0 rfl 0 1) rfl rfl) ?_
      refine Ops.go (O.store (v := .slice _ _ _) I ty_78 3 rfl rfl rfl rfl rfl rfl (Nat.le_of_ble_eq_true rfl) rfl ?_)
      intro w I
      refine Ops.go (O.store (v := .bool _) I ty_4 2 rfl rfl rfl rfl rfl rfl (Nat.le_of_ble_eq_true rfl) rfl ?_)
      intro w I
      refine Ops.nil ?_
      refine WPD.ret ?_
      repeat (first | refine thenD_ret ?_ | refine blockD_ret ?_)
      have hbo := I.at 1 rfl
      obtain ⟨h4, le4, hb4, I⟩ := (I.front 1 rfl).settle
      have hs : ∀ c ∈ usesL p.rules.xs, SatC L c := fun c hc => by
        obtain ⟨j, hj, rfl⟩ := List.getElem_of_mem hc
        exact hsat j hj _ (List.getElem?_eq_getElem hj)
      show doneQ _ _ _ _ _ _ _ _
      exact ⟨.inl rfl, D :: ms, [box b4 [.slice (some ⟨bo, 0, none⟩) p.preds.xs.length p.preds.xs.length] 78, box b3 [.bool true] 4, box b2 [.slice (some ⟨bo, 0, none⟩) p.preds.xs.length p.preds.xs.length] 78, box b1 p.enc 25], h4,
        [.slice (some ⟨bo, 0, none⟩) p.preds.xs.length p.preds.xs.length, .bool true], rfl, I, fun w2 I2 => ⟨⟨b2, 0, 1, false, _, rfl, ty_78, I2.rdbox 2 rfl 0 1, rfl, rfl⟩, ⟨b3, 0, 1, false, _, rfl, ty_4, I2.rdbox 1 rfl 0 1, rfl, rfl⟩, trivial⟩,
        .inl ⟨⟨some ⟨bo, 0, none⟩, p.preds.xs.length, L⟩, g.done hs, boxIs ((hb4 bo (by simp [box])).trans hbo) (by rw [g.len]; omega), by simp [tup, Sl.val, g.len]⟩⟩
    · rintro D c h3 L' W gl I hx
      cases c with
      | ret =>
        obtain ⟨hL, hno⟩ := hx
        obtain rfl : L = L' := hL.symm
        refine blockD_ret (thenD_ret ?_)
        show doneQ _ _ _ _ _ _ _ _
        exact ⟨.inl rfl, D :: ms, LevU ⟨bo, b4, L, ms⟩ b3 b2 b1 p L, h3, [.slice none 0 0, .bool false], rfl, I, fun w2 I2 => ⟨⟨b2, 0, 1, false, _, rfl, ty_78, I2.rdbox 3 rfl 0 1, rfl, rfl⟩, ⟨b3, 0, 1, false, _, rfl, ty_4, I2.rdbox 2 rfl 0 1, rfl, rfl⟩, trivial⟩, .inr ⟨hno, rfl⟩⟩
      | goto t =>
        obtain ⟨rfl, c, hc, rfl, k1, k2⟩ := hx
        have hh := hr.h c hc
        exact (show (0 = 0 ∧ _) from ⟨rfl, ⟨bo, b4, L.set c.1.toNat (lst L c), D :: ms⟩, ⟨⟨rfl, rfl, rfl, rfl, trivial⟩, rfl, ⟨⟨h3, (gl1.trans le2).trans gl, I⟩, g.raise hr hc, fun i h0 h1 => by
          rw [lv_set hh.1 (by rw [g.len]; exact hh.2) _ _ h0]; split
          · exact k2
          · exact hlt i h0 h1⟩⟩, pot_set_lt hh.1 (by rw [g.len]; exact hh.2) k1 (hlt _ hh.1 hh.2)⟩)
      | exit id => exact hx.elim
end Go.TF
end
section
/- strata, of the document: the same strata. -/
namespace Go.TF
open Go Go.RowKit Go.Proofs
set_option maxRecDepth 20000

end Go.TF
end
section
/- The contracts of package lat and of the references beside it: each call returns what the plain functions compute. -/
namespace Go.TF
open Go Go.RowKit Go.Proofs
set_option maxHeartbeats 1000000
set_option maxRecDepth 10000

theorem orders1_ok (B : Base) (hB : B.ok) (a b : Int) (h : I64 (a + b)) : Fn Tryz.prog 236 [.int .i64 a, .int .i64 b] B (fun v _ => v = .int .i64 (min (a + b) 15)) := by
  obtain ⟨h1, h2⟩ := h
  refine Fn.of Tryz.func236 rfl Tryz.ntmps236 (by kernel_rfl) (by simp) ?_
  intro e
  have I := Inv.start hB
  refine WP.seq ?_
  refine WP.region ?_
  refine Ops.y (v := .int .i64 _) (Y.assign rfl) ?_
  refine Ops.nil ?_
  refine WP.seq ?_
  refine WP.region ?_
  refine Ops.y (v := .int .i64 _) (Y.move rfl) ?_
  refine Ops.y (v := .int .i64 _) (Y.move rfl) ?_
  refine Ops.y (v := .int .i64 _) (Y.addi rfl rfl ⟨by omega, by omega⟩) ?_
  refine Ops.y (v := .int .i64 _) (Y.min2 rfl rfl) ?_
  refine Ops.y (v := .int .i64 _) (Y.assign rfl) ?_
  refine Ops.nil ?_
  refine WP.ret ?_
  repeat (first | refine thenE_ret ?_ | refine blockE_ret ?_)
  exact retQ.mk (vs := [.int .i64 _]) rfl ⟨rfl, trivial⟩ I.ext_of (rfl)
theorem orders2_ok (B : Base) (hB : B.ok) (a b : Int) : Fn Tryz.prog 237 [.int .i64 a, .int .i64 b] B (fun v _ => v = .int .i64 (orI a b)) := by
  refine Fn.of Tryz.func237 rfl Tryz.ntmps237 (by kernel_rfl) (by simp) ?_
  intro e
  have I := Inv.start hB
  refine WP.seq ?_
  refine WP.region ?_
  refine Ops.y (v := .int .i64 _) (Y.assign rfl) ?_
  refine Ops.nil ?_
  refine WP.seq ?_
  refine WP.region ?_
  refine Ops.y (v := .int .i64 _) (Y.move rfl) ?_
  refine Ops.y (v := .int .i64 _) (Y.move rfl) ?_
  refine Ops.y (v := .int .i64 _) (Y.ori rfl rfl) ?_
  refine Ops.y (v := .int .i64 _) (Y.assign rfl) ?_
  refine Ops.nil ?_
  refine WP.ret ?_
  repeat (first | refine thenE_ret ?_ | refine blockE_ret ?_)
  exact retQ.mk (vs := [.int .i64 _]) rfl ⟨rfl, trivial⟩ I.ext_of (rfl)
theorem orders3_ok (B : Base) (hB : B.ok) (a b : Int) : Fn Tryz.prog 238 [.int .i64 a, .int .i64 b] B (fun v _ => v = .int .i64 0) := by
  refine Fn.of Tryz.func238 rfl Tryz.ntmps238 (by kernel_rfl) (by simp) ?_
  intro e
  have I := Inv.start hB
  refine WP.seq ?_
  refine WP.region ?_
  refine Ops.y (v := .int .i64 _) (Y.assign rfl) ?_
  refine Ops.nil ?_
  refine WP.seq ?_
  refine WP.region ?_
  refine Ops.y (v := .int .i64 _) (Y.assign rfl) ?_
  refine Ops.nil ?_
  refine WP.ret ?_
  repeat (first | refine thenE_ret ?_ | refine blockE_ret ?_)
  exact retQ.mk (vs := [.int .i64 _]) rfl ⟨rfl, trivial⟩ I.ext_of (rfl)
theorem orders4_ok (B : Base) (hB : B.ok) (a b : Int) : Fn Tryz.prog 239 [.int .i64 a, .int .i64 b] B (fun v _ => v = .int .i64 (max a b)) := by
  refine Fn.of Tryz.func239 rfl Tryz.ntmps239 (by kernel_rfl) (by simp) ?_
  intro e
  have I := Inv.start hB
  refine WP.seq ?_
  refine WP.region ?_
  refine Ops.y (v := .int .i64 _) (Y.assign rfl) ?_
  refine Ops.nil ?_
  refine WP.seq ?_
  refine WP.region ?_
  refine Ops.y (v := .int .i64 _) (Y.move rfl) ?_
  refine Ops.y (v := .int .i64 _) (Y.move rfl) ?_
  refine Ops.y (v := .int .i64 _) (Y.max2 rfl rfl) ?_
  refine Ops.y (v := .int .i64 _) (Y.assign rfl) ?_
  refine Ops.nil ?_
  refine WP.ret ?_
  repeat (first | refine thenE_ret ?_ | refine blockE_ret ?_)
  exact retQ.mk (vs := [.int .i64 _]) rfl ⟨rfl, trivial⟩ I.ext_of (rfl)
theorem orders5_ok (B : Base) (hB : B.ok) (a b : Int) : Fn Tryz.prog 240 [.int .i64 a, .int .i64 b] B (fun v _ => v = .int .i64 (min a b)) := by
  refine Fn.of Tryz.func240 rfl Tryz.ntmps240 (by kernel_rfl) (by simp) ?_
  intro e
  have I := Inv.start hB
  refine WP.seq ?_
  refine WP.region ?_
  refine Ops.y (v := .int .i64 _) (Y.assign rfl) ?_
  refine Ops.nil ?_
  refine WP.seq ?_
  refine WP.region ?_
  refine Ops.y (v := .int .i64 _) (Y.move rfl) ?_
  refine Ops.y (v := .int .i64 _) (Y.move rfl) ?_
  refine Ops.y (v := .int .i64 _) (Y.min2 rfl rfl) ?_
  refine Ops.y (v := .int .i64 _) (Y.assign rfl) ?_
  refine Ops.nil ?_
  refine WP.ret ?_
  repeat (first | refine thenE_ret ?_ | refine blockE_ret ?_)
  exact retQ.mk (vs := [.int .i64 _]) rfl ⟨rfl, trivial⟩ I.ext_of (rfl)
def fv (f : Nat) : Value := .func (.func f) #[] #[]
theorem orders_ok (B : Base) (hB : B.ok) : Fn Tryz.prog 223 [] B (fun v _ => v = .agg #[fv 238, fv 238, fv 239, fv 236, fv 240, fv 236, fv 237, fv 237]) := by
  refine Fn.of Tryz.func223 rfl Tryz.ntmps223 (by kernel_rfl) (by simp) ?_
  intro e
  have I := Inv.start hB
  refine WP.seq ?_
  refine WP.region ?_
  refine Ops.go (O.alloc I Tryz.zeroValue250 rfl ?_)
  intro b0 w I
  refine Ops.nil ?_
  refine WP.seq ?_
  refine WP.region ?_
  refine Ops.y (v := .func _ _ _) (Y.assign rfl) ?_
  refine Ops.nil ?_
  refine WP.seq ?_
  refine WP.region ?_
  refine Ops.y (v := .func _ _ _) (Y.assign rfl) ?_
  refine Ops.nil ?_
  refine WP.seq ?_
  refine WP.region ?_
  refine Ops.y (v := .func _ _ _) (Y.assign rfl) ?_
  refine Ops.nil ?_
  refine WP.seq ?_
  refine WP.region ?_
  refine Ops.y (v := .func _ _ _) (Y.move rfl) ?_
  refine Ops.y (v := .func _ _ _) (Y.move rfl) ?_
  refine Ops.y (v := .agg #[.func _ _ _, .func _ _ _]) (Y.build pl_249 Tryz.zeroValue249 rfl rfl) ?_
  refine Ops.y (v := .func _ _ _) (Y.move rfl) ?_
  refine Ops.y (v := .agg #[.func _ _ _, .func _ _ _]) (Y.build pl_249 Tryz.zeroValue249 rfl rfl) ?_
  refine Ops.y (v := .func _ _ _) (Y.move rfl) ?_
  refine Ops.y (v := .agg #[.func _ _ _, .func _ _ _]) (Y.build pl_249 Tryz.zeroValue249 rfl rfl) ?_
  refine Ops.y (v := .func _ _ _) (Y.move rfl) ?_
  refine Ops.y (v := .func _ _ _) (Y.move rfl) ?_
  refine Ops.y (v := .agg #[.func _ _ _, .func _ _ _]) (Y.build pl_249 Tryz.zeroValue249 rfl rfl) ?_
  refine Ops.y (v := .agg #[.func _ _ _, .func _ _ _, .func _ _ _, .func _ _ _, .func _ _ _, .func _ _ _, .func _ _ _, .func _ _ _]) (Y.builda Tryz.underlying250 Tryz.zeroValue250 Tryz.sizeOf249 rfl rfl) ?_
  refine Ops.go (O.store (v := .agg #[_, _, _, _, _, _, _, _]) I ty_250 0 rfl rfl rfl rfl rfl rfl (Nat.le_of_ble_eq_true rfl) rfl ?_)
  intro w I
  refine Ops.nil ?_
  refine WP.ret ?_
  repeat (first | refine thenE_ret ?_ | refine blockE_ret ?_)
  exact retQ.mk (vs := [.agg #[_, _, _, _, _, _, _, _]]) rfl ⟨⟨_, _, _, _, _, rfl, ty_250, I.rdbox 0 rfl 0 8, rfl, rfl⟩, trivial⟩ I.ext_of (rfl)
theorem Check_ok (B : Base) (hB : B.ok) (kind v : Int) : Fn Tryz.prog 156 [.int .i64 kind, .int .i64 v] B (fun r _ => r = .int .i64 (checkVal kind v)) := by
  refine Fn.of Tryz.func156 rfl Tryz.ntmps156 (by kernel_rfl) (by simp) ?_
  intro e
  have I := Inv.start hB
  refine WP.seq ?_
  refine WP.region ?_
  refine Ops.y (v := .int .i64 _) (Y.assign rfl) ?_
  refine Ops.nil ?_
  refine WP.seq ?_
  refine WP.region ?_
  refine Ops.y (v := .int .i64 _) (Y.assign rfl) ?_
  refine Ops.nil ?_
  refine WP.seq ?_
  refine WP.seq ?_
  refine WP.region ?_
  refine Ops.y (v := .int .i64 _) (Y.move rfl) ?_
  refine Ops.nil ?_
  refine WP.cutK (σ := Unit) (fun _ => [(1, .int .i64 v), (5, .int .i64 (if kind = 0 then 0 else 15))]) (fun _ w' => Inv B B.h [] w' ∧ 0 ≤ kind ∧ kind ≤ 3) ?_ ?_
  · refine WP.block ?_
    refine WP.seq ?_
    refine WP.region ?_
    refine Ops.y (v := .bool (decide _)) (Y.eqi rfl rfl) ?_
    refine Ops.y (v := .bool _) (Y.assign rfl) ?_
    refine Ops.nil ?_
    refine WP.cond_dec rfl (fun h0 => ?_) (fun h0 => ?_)
    · refine WP.region ?_
      refine Ops.y (v := .int .i64 _) (Y.assign rfl) ?_
      refine Ops.nil ?_
      exact ⟨(), ⟨rfl, by show Value.int .i64 0 = _; simp [h0], trivial⟩, I, by omega, by omega⟩
    have hz : (if kind = 0 then (0 : Int) else 15) = 15 := by simp [h0]
    refine WP.seq ?_
    refine WP.seq ?_
    refine WP.region ?_
    refine Ops.y (v := .bool (decide _)) (Y.eqi rfl rfl) ?_
    refine Ops.y (v := .bool _) (Y.assign rfl) ?_
    refine Ops.nil ?_
    refine WP.cond_dec rfl (fun h1 => ?_) (fun h1 => ?_)
    · refine WP.skip ?_
      refine WP.cond_decT rfl (h1) ?_
      refine WP.skip ?_
      exact ⟨(), ⟨rfl, by rw [hz]; rfl, trivial⟩, I, by omega, by omega⟩
    refine WP.seq ?_
    refine WP.region ?_
    refine Ops.y (v := .bool (decide _)) (Y.eqi rfl rfl) ?_
    refine Ops.y (v := .bool _) (Y.assign rfl) ?_
    refine Ops.nil ?_
    refine WP.cond_dec rfl (fun h2 => ?_) (fun h2 => ?_)
    · refine WP.skip ?_
      refine WP.cond_decT rfl (h2) ?_
      refine WP.skip ?_
      exact ⟨(), ⟨rfl, by rw [hz]; rfl, trivial⟩, I, by omega, by omega⟩
    refine WP.region ?_
    refine Ops.y (v := .bool (decide _)) (Y.eqi rfl rfl) ?_
    refine Ops.y (v := .bool _) (Y.assign rfl) ?_
    refine Ops.nil ?_
    refine WP.cond_dec rfl (fun h3 => ?_) (fun h3 => ?_)
    · refine WP.skip ?_
      exact ⟨(), ⟨rfl, by rw [hz]; rfl, trivial⟩, I, by omega, by omega⟩
    refine WP.seq ?_
    refine WP.region ?_
    refine Ops.y (v := .int .i64 _) (Y.assign rfl) ?_
    refine Ops.nil ?_
    refine WP.ret ?_
    repeat (first | refine thenE_ret ?_ | refine blockE_ret ?_)
    exact retQ.mk (vs := [.int .i64 _]) rfl ⟨rfl, trivial⟩ I.ext_of (by simp [tup, checkVal]; omega)
  rintro _ e w ⟨I, hk0, hk3⟩
  by_cases hv : v < 0
  · refine WP.seq ?_
    refine WP.seq ?_
    refine WP.region ?_
    refine Ops.y (v := .int .i64 _) (Y.move rfl) ?_
    refine Ops.y (v := .bool true) (Y.dec_t (Y.lti rfl rfl) (hv)) ?_
    refine Ops.y (v := .bool _) (Y.move rfl) ?_
    refine Ops.gf rfl ?_
    refine Ops.gf rfl ?_
    refine Ops.gf rfl ?_
    refine Ops.y (v := .bool _) (Y.pick_t rfl rfl) ?_
    refine Ops.nil ?_
    refine WP.cond_t rfl ?_
    refine WP.seq ?_
    refine WP.region ?_
    refine Ops.y (v := .int .i64 _) (Y.assign rfl) ?_
    refine Ops.nil ?_
    refine WP.ret ?_
    repeat (first | refine thenE_ret ?_ | refine blockE_ret ?_)
    exact retQ.mk (vs := [.int .i64 _]) rfl ⟨rfl, trivial⟩ I.ext_of (by simp [tup, checkVal]; omega)
  refine WP.seq ?_
  refine WP.seq ?_
  refine WP.region ?_
  refine Ops.y (v := .int .i64 _) (Y.move rfl) ?_
  refine Ops.y (v := .bool false) (Y.dec_f (Y.lti rfl rfl) (hv)) ?_
  refine Ops.y (v := .bool _) (Y.move rfl) ?_
  refine Ops.ygt rfl (v := .int .i64 _) (Y.move rfl) ?_
  refine Ops.ygt rfl (v := .int .i64 _) (Y.move rfl) ?_
  refine Ops.ygt rfl (v := .bool (decide _)) (Y.gti rfl rfl) ?_
  refine Ops.y (v := .bool _) (Y.pick_f rfl rfl) ?_
  refine Ops.nil ?_
  refine WP.cond_dec rfl (fun h2 => ?_) (fun h2 => ?_)
  · refine WP.seq ?_
    refine WP.region ?_
    refine Ops.y (v := .int .i64 _) (Y.assign rfl) ?_
    refine Ops.nil ?_
    refine WP.ret ?_
    repeat (first | refine thenE_ret ?_ | refine blockE_ret ?_)
    exact retQ.mk (vs := [.int .i64 _]) rfl ⟨rfl, trivial⟩ I.ext_of (by simp only [tup, checkVal]; split at h2 <;> simp <;> omega)
  refine WP.skip ?_
  refine WP.seq ?_
  refine WP.region ?_
  refine Ops.y (v := .int .i64 _) (Y.assign rfl) ?_
  refine Ops.nil ?_
  refine WP.ret ?_
  repeat (first | refine thenE_ret ?_ | refine blockE_ret ?_)
  exact retQ.mk (vs := [.int .i64 _]) rfl ⟨rfl, trivial⟩ I.ext_of (by simp only [tup, checkVal]; split at h2 <;> simp <;> omega)
theorem kinds4 {k : Int} (h : 0 ≤ k ∧ k ≤ 3) : k = 0 ∨ k = 1 ∨ k = 2 ∨ k = 3 := by omega
theorem Joined_ok (B : Base) (hB : B.ok) (kind a b : Int) (hk : 0 ≤ kind ∧ kind ≤ 3) : Fn Tryz.prog 177 [.int .i64 kind, .int .i64 a, .int .i64 b] B (fun r _ => r = .int .i64 (joinV kind a b)) := by
  refine Fn.of Tryz.func177 rfl Tryz.ntmps177 (by kernel_rfl) (by simp) ?_
  intro e
  have I := Inv.start hB
  refine WP.seq ?_
  refine WP.region ?_
  refine Ops.y (v := .int .i64 _) (Y.assign rfl) ?_
  refine Ops.nil ?_
  rcases kinds4 hk with rfl | rfl | rfl | rfl
  · refine WP.seq ?_
    refine WP.region ?_
    refine Ops.go (O.callv I Tryz.call223 (orders_ok _ I.base_ok) rfl ?_)
    intro w I
    refine Ops.y (v := .int .i64 _) (Y.move rfl) ?_
    refine Ops.y (v := .agg #[_, _]) (Y.idxvv Tryz.underlying250 ty_249 rfl rfl (by decide) (by decide) rfl rfl rfl) ?_
    refine Ops.y (v := .func _ _ _) (Y.field fd_249_0 ty_195 rfl rfl rfl rfl) ?_
    refine Ops.y (v := .int .i64 _) (Y.move rfl) ?_
    refine Ops.y (v := .int .i64 _) (Y.move rfl) ?_
    refine Ops.go (O.callc I Tryz.call238 rfl (orders3_ok _ I.base_ok _ _) rfl ?_)
    rintro _ h w I hle rfl
    refine Ops.y (v := .int .i64 _) (Y.assign rfl) ?_
    refine Ops.nil ?_
    refine WP.ret ?_
    repeat (first | refine thenE_ret ?_ | refine blockE_ret ?_)
    exact retQ.mk (vs := [.int .i64 _]) rfl ⟨rfl, trivial⟩ I.ext_of (rfl)
  · refine WP.seq ?_
    refine WP.region ?_
    refine Ops.go (O.callv I Tryz.call223 (orders_ok _ I.base_ok) rfl ?_)
    intro w I
    refine Ops.y (v := .int .i64 _) (Y.move rfl) ?_
    refine Ops.y (v := .agg #[_, _]) (Y.idxvv Tryz.underlying250 ty_249 rfl rfl (by decide) (by decide) rfl rfl rfl) ?_
    refine Ops.y (v := .func _ _ _) (Y.field fd_249_0 ty_195 rfl rfl rfl rfl) ?_
    refine Ops.y (v := .int .i64 _) (Y.move rfl) ?_
    refine Ops.y (v := .int .i64 _) (Y.move rfl) ?_
    refine Ops.go (O.callc I Tryz.call239 rfl (orders4_ok _ I.base_ok _ _) rfl ?_)
    rintro _ h w I hle rfl
    refine Ops.y (v := .int .i64 _) (Y.assign rfl) ?_
    refine Ops.nil ?_
    refine WP.ret ?_
    repeat (first | refine thenE_ret ?_ | refine blockE_ret ?_)
    exact retQ.mk (vs := [.int .i64 _]) rfl ⟨rfl, trivial⟩ I.ext_of (rfl)
  · refine WP.seq ?_
    refine WP.region ?_
    refine Ops.go (O.callv I Tryz.call223 (orders_ok _ I.base_ok) rfl ?_)
    intro w I
    refine Ops.y (v := .int .i64 _) (Y.move rfl) ?_
    refine Ops.y (v := .agg #[_, _]) (Y.idxvv Tryz.underlying250 ty_249 rfl rfl (by decide) (by decide) rfl rfl rfl) ?_
    refine Ops.y (v := .func _ _ _) (Y.field fd_249_0 ty_195 rfl rfl rfl rfl) ?_
    refine Ops.y (v := .int .i64 _) (Y.move rfl) ?_
    refine Ops.y (v := .int .i64 _) (Y.move rfl) ?_
    refine Ops.go (O.callc I Tryz.call240 rfl (orders5_ok _ I.base_ok _ _) rfl ?_)
    rintro _ h w I hle rfl
    refine Ops.y (v := .int .i64 _) (Y.assign rfl) ?_
    refine Ops.nil ?_
    refine WP.ret ?_
    repeat (first | refine thenE_ret ?_ | refine blockE_ret ?_)
    exact retQ.mk (vs := [.int .i64 _]) rfl ⟨rfl, trivial⟩ I.ext_of (rfl)
  · refine WP.seq ?_
    refine WP.region ?_
    refine Ops.go (O.callv I Tryz.call223 (orders_ok _ I.base_ok) rfl ?_)
    intro w I
    refine Ops.y (v := .int .i64 _) (Y.move rfl) ?_
    refine Ops.y (v := .agg #[_, _]) (Y.idxvv Tryz.underlying250 ty_249 rfl rfl (by decide) (by decide) rfl rfl rfl) ?_
    refine Ops.y (v := .func _ _ _) (Y.field fd_249_0 ty_195 rfl rfl rfl rfl) ?_
    refine Ops.y (v := .int .i64 _) (Y.move rfl) ?_
    refine Ops.y (v := .int .i64 _) (Y.move rfl) ?_
    refine Ops.go (O.callc I Tryz.call237 rfl (orders2_ok _ I.base_ok _ _) rfl ?_)
    rintro _ h w I hle rfl
    refine Ops.y (v := .int .i64 _) (Y.assign rfl) ?_
    refine Ops.nil ?_
    refine WP.ret ?_
    repeat (first | refine thenE_ret ?_ | refine blockE_ret ?_)
    exact retQ.mk (vs := [.int .i64 _]) rfl ⟨rfl, trivial⟩ I.ext_of (rfl)
theorem Lifted_ok (B : Base) (hB : B.ok) (kind a b : Int) (hk : 0 ≤ kind ∧ kind ≤ 3) (hr : I64 (a + b)) : Fn Tryz.prog 220 [.int .i64 kind, .int .i64 a, .int .i64 b] B (fun r _ => r = .int .i64 (liftV kind a b)) := by
  refine Fn.of Tryz.func220 rfl Tryz.ntmps220 (by kernel_rfl) (by simp) ?_
  intro e
  have I := Inv.start hB
  refine WP.seq ?_
  refine WP.region ?_
  refine Ops.y (v := .int .i64 _) (Y.assign rfl) ?_
  refine Ops.nil ?_
  rcases kinds4 hk with rfl | rfl | rfl | rfl
  · refine WP.seq ?_
    refine WP.region ?_
    refine Ops.go (O.callv I Tryz.call223 (orders_ok _ I.base_ok) rfl ?_)
    intro w I
    refine Ops.y (v := .int .i64 _) (Y.move rfl) ?_
    refine Ops.y (v := .agg #[_, _]) (Y.idxvv Tryz.underlying250 ty_249 rfl rfl (by decide) (by decide) rfl rfl rfl) ?_
    refine Ops.y (v := .func _ _ _) (Y.field fd_249_1 ty_195 rfl rfl rfl rfl) ?_
    refine Ops.y (v := .int .i64 _) (Y.move rfl) ?_
    refine Ops.y (v := .int .i64 _) (Y.move rfl) ?_
    refine Ops.go (O.callc I Tryz.call238 rfl (orders3_ok _ I.base_ok _ _) rfl ?_)
    rintro _ h w I hle rfl
    refine Ops.y (v := .int .i64 _) (Y.assign rfl) ?_
    refine Ops.nil ?_
    refine WP.ret ?_
    repeat (first | refine thenE_ret ?_ | refine blockE_ret ?_)
    exact retQ.mk (vs := [.int .i64 _]) rfl ⟨rfl, trivial⟩ I.ext_of (rfl)
  · refine WP.seq ?_
    refine WP.region ?_
    refine Ops.go (O.callv I Tryz.call223 (orders_ok _ I.base_ok) rfl ?_)
    intro w I
    refine Ops.y (v := .int .i64 _) (Y.move rfl) ?_
    refine Ops.y (v := .agg #[_, _]) (Y.idxvv Tryz.underlying250 ty_249 rfl rfl (by decide) (by decide) rfl rfl rfl) ?_
    refine Ops.y (v := .func _ _ _) (Y.field fd_249_1 ty_195 rfl rfl rfl rfl) ?_
    refine Ops.y (v := .int .i64 _) (Y.move rfl) ?_
    refine Ops.y (v := .int .i64 _) (Y.move rfl) ?_
    refine Ops.go (O.callc I Tryz.call236 rfl (orders1_ok _ I.base_ok _ _ hr) rfl ?_)
    rintro _ h w I hle rfl
    refine Ops.y (v := .int .i64 _) (Y.assign rfl) ?_
    refine Ops.nil ?_
    refine WP.ret ?_
    repeat (first | refine thenE_ret ?_ | refine blockE_ret ?_)
    exact retQ.mk (vs := [.int .i64 _]) rfl ⟨rfl, trivial⟩ I.ext_of (rfl)
  · refine WP.seq ?_
    refine WP.region ?_
    refine Ops.go (O.callv I Tryz.call223 (orders_ok _ I.base_ok) rfl ?_)
    intro w I
    refine Ops.y (v := .int .i64 _) (Y.move rfl) ?_
    refine Ops.y (v := .agg #[_, _]) (Y.idxvv Tryz.underlying250 ty_249 rfl rfl (by decide) (by decide) rfl rfl rfl) ?_
    refine Ops.y (v := .func _ _ _) (Y.field fd_249_1 ty_195 rfl rfl rfl rfl) ?_
    refine Ops.y (v := .int .i64 _) (Y.move rfl) ?_
    refine Ops.y (v := .int .i64 _) (Y.move rfl) ?_
    refine Ops.go (O.callc I Tryz.call236 rfl (orders1_ok _ I.base_ok _ _ hr) rfl ?_)
    rintro _ h w I hle rfl
    refine Ops.y (v := .int .i64 _) (Y.assign rfl) ?_
    refine Ops.nil ?_
    refine WP.ret ?_
    repeat (first | refine thenE_ret ?_ | refine blockE_ret ?_)
    exact retQ.mk (vs := [.int .i64 _]) rfl ⟨rfl, trivial⟩ I.ext_of (rfl)
  · refine WP.seq ?_
    refine WP.region ?_
    refine Ops.go (O.callv I Tryz.call223 (orders_ok _ I.base_ok) rfl ?_)
    intro w I
    refine Ops.y (v := .int .i64 _) (Y.move rfl) ?_
    refine Ops.y (v := .agg #[_, _]) (Y.idxvv Tryz.underlying250 ty_249 rfl rfl (by decide) (by decide) rfl rfl rfl) ?_
    refine Ops.y (v := .func _ _ _) (Y.field fd_249_1 ty_195 rfl rfl rfl rfl) ?_
    refine Ops.y (v := .int .i64 _) (Y.move rfl) ?_
    refine Ops.y (v := .int .i64 _) (Y.move rfl) ?_
    refine Ops.go (O.callc I Tryz.call237 rfl (orders2_ok _ I.base_ok _ _) rfl ?_)
    rintro _ h w I hle rfl
    refine Ops.y (v := .int .i64 _) (Y.assign rfl) ?_
    refine Ops.nil ?_
    refine WP.ret ?_
    repeat (first | refine thenE_ret ?_ | refine blockE_ret ?_)
    exact retQ.mk (vs := [.int .i64 _]) rfl ⟨rfl, trivial⟩ I.ext_of (rfl)
end Go.TF
end
section
/- Names; sameness of lists; predicates that programs are checked by. -/
namespace Go.TF
open Go Go.RowKit Go.Proofs
set_option maxRecDepth 20000

theorem low_iff (b : UInt8) : lowB b = true ↔ 97 ≤ b.toNat ∧ b.toNat ≤ 122 := by simp [lowB]
theorem all_low {s : ByteArray} (h : ∀ j, ∀ hj : j < s.size, lowB (s[j]'hj) = true) : s.data.toList.all lowB = true := by
  rw [List.all_eq_true]
  intro b hb
  obtain ⟨j, hj, rfl⟩ := List.getElem_of_mem hb
  exact h j (by simpa using hj)
theorem not_low {s : ByteArray} {j : Nat} (hj : j < s.size) (h : lowB (s[j]'hj) ≠ true) : s.data.toList.all lowB = false := by
  rw [List.all_eq_false]
  exact ⟨s[j]'hj, List.mem_iff_getElem.2 ⟨j, by simpa using hj, rfl⟩, h⟩
theorem Name1_ok (B : Base) (hB : B.ok) (r : Int) : Fn Tryz.prog 116 [.int .i32 r] B (fun v _ => v = .bool (decide (r < 97 ∨ 122 < r))) := by
  by_cases h : r < 97
  · refine Fn.of Tryz.func116 rfl Tryz.ntmps116 (by kernel_rfl) (by simp) ?_
    intro e
    have I := Inv.start hB
    refine WP.seq ?_
    refine WP.region ?_
    refine Ops.y (v := .bool _) (Y.assign rfl) ?_
    refine Ops.nil ?_
    refine WP.seq ?_
    refine WP.region ?_
    refine Ops.y (v := .int .i32 _) (Y.move rfl) ?_
    refine Ops.y (v := .bool true) (Y.dec_t (Y.lti rfl rfl) (h)) ?_
    refine Ops.y (v := .bool _) (Y.move rfl) ?_
    refine Ops.gf rfl ?_
    refine Ops.gf rfl ?_
    refine Ops.y (v := .bool _) (Y.pick_t rfl rfl) ?_
    refine Ops.y (v := .bool _) (Y.assign rfl) ?_
    refine Ops.nil ?_
    refine WP.ret ?_
    repeat (first | refine thenE_ret ?_ | refine blockE_ret ?_)
    exact retQ.mk (vs := [.bool _]) rfl ⟨rfl, trivial⟩ I.ext_of (by simp only [tup]; rw [decide_eq_true (Or.inl h)])
  · refine Fn.of Tryz.func116 rfl Tryz.ntmps116 (by kernel_rfl) (by simp) ?_
    intro e
    have I := Inv.start hB
    refine WP.seq ?_
    refine WP.region ?_
    refine Ops.y (v := .bool _) (Y.assign rfl) ?_
    refine Ops.nil ?_
    refine WP.seq ?_
    refine WP.region ?_
    refine Ops.y (v := .int .i32 _) (Y.move rfl) ?_
    refine Ops.y (v := .bool false) (Y.dec_f (Y.lti rfl rfl) (h)) ?_
    refine Ops.y (v := .bool _) (Y.move rfl) ?_
    refine Ops.ygt rfl (v := .int .i32 _) (Y.move rfl) ?_
    refine Ops.ygt rfl (v := .bool (decide _)) (Y.gti rfl rfl) ?_
    refine Ops.y (v := .bool _) (Y.pick_f rfl rfl) ?_
    refine Ops.y (v := .bool _) (Y.assign rfl) ?_
    refine Ops.nil ?_
    refine WP.ret ?_
    repeat (first | refine thenE_ret ?_ | refine blockE_ret ?_)
    exact retQ.mk (vs := [.bool _]) rfl ⟨rfl, trivial⟩ I.ext_of (by simp only [tup]; congr 1; rw [decide_eq_decide]; omega)
/-- What indexFunc hands back: not negative, just if a byte is no low letter. -/
def IdxP (s : ByteArray) (v : Value) : Prop := ∃ r : Int, v = .int .i64 r ∧ decide (0 ≤ r) = !(s.data.toList.all lowB)
theorem indexFunc_ok (B : Base) (hB : B.ok) (s : ByteArray) : Fn Tryz.prog 198 [.string s, .func (.func 116) #[] #[], .bool true] B (fun v _ => IdxP s v) := by
  refine Fn.of Tryz.func198 rfl Tryz.ntmps198 (by kernel_rfl) (by simp) ?_
  intro e
  have I := Inv.start hB
  refine WP.seq ?_
  refine WP.region ?_
  refine Ops.y (v := .int .i64 _) (Y.assign rfl) ?_
  refine Ops.nil ?_
  refine WP.seq ?_
  refine WP.seq ?_
  refine WP.region ?_
  refine Ops.y (v := .string _) (Y.move rfl) ?_
  refine Ops.go (O.ranges I Tryz.underlying9 rfl ?_)
  intro b10 w I
  refine Ops.nil ?_
  refine WP.block ?_
  refine WP.loopE (σ := Nat) (fun _ => [(0, .string s), (1, .func (.func 116) #[] #[]), (2, .bool true), (10, .pointer (some ⟨b10, 0, none⟩))]) (fun k w => Inv B B.h [sit b10 s k] w ∧ k ≤ s.size ∧ ∀ j, j < k → ∀ hj : j < s.size, lowB (s[j]'hj) = true) (fun k => s.size - k)
    ⟨0, ⟨rfl, rfl, rfl, rfl, trivial⟩, I, Nat.zero_le _, fun j hj => by omega⟩ ?_
  rintro k e w ⟨I, hk, hn⟩
  refine WP.seq ?_
  refine WP.region ?_
  refine Ops.go (O.nexts I 0 rfl rfl ?_ ?_)
  · intro hend
    refine Ops.y (v := .bool _) (Y.extract rfl rfl) ?_
    refine Ops.nil ?_
    refine WP.seq ?_
    refine WP.cond_f rfl ?_
    refine WP.exit ?_
    refine WP.seq ?_
    refine WP.region ?_
    refine Ops.y (v := .int .i64 _) (Y.assign rfl) ?_
    refine Ops.nil ?_
    refine WP.ret ?_
    repeat (first | refine thenE_ret ?_ | refine blockE_ret ?_)
    exact retQ.mk (vs := [.int .i64 _]) rfl ⟨rfl, trivial⟩ I.ext_of (⟨-1, rfl, by rw [all_low (fun j hj => hn j (by omega) hj)]; rfl⟩)
  · intro hlt w I
    refine Ops.y (v := .bool _) (Y.extract rfl rfl) ?_
    refine Ops.nil ?_
    refine WP.seq ?_
    refine WP.cond_t rfl ?_
    refine WP.skip ?_
    refine WP.block ?_
    refine WP.seq ?_
    refine WP.region ?_
    refine Ops.y (v := .int .i64 _) (Y.extract rfl rfl) ?_
    refine Ops.y (v := .int .i32 _) (Y.extract rfl rfl) ?_
    refine Ops.y (v := .int .i64 _) (Y.assign rfl) ?_
    refine Ops.y (v := .int .i32 _) (Y.assign rfl) ?_
    refine Ops.nil ?_
    by_cases ha : (s[k]'hlt).toNat < 128
    · rw [decode_ascii s k hlt ha] at I ⊢
      by_cases hlow : lowB (s[k]'hlt) = true
      · have hl := (low_iff _).1 hlow
        refine WP.seq ?_
        refine WP.region ?_
        refine Ops.y (v := .func _ _ _) (Y.move rfl) ?_
        refine Ops.y (v := .int .i32 _) (Y.move rfl) ?_
        refine Ops.go (O.callcv I Tryz.call116 (fs := []) (cs := []) rfl (Name1_ok _ I.base_ok _) rfl ?_)
        intro w I
        refine Ops.y (v := .bool _) (Y.move rfl) ?_
        refine Ops.y (v := .bool false) (Y.dec_f (Y.eqb Tryz.underlying4 rfl rfl) ((by rw [decide_eq_false (by omega)]; decide))) ?_
        refine Ops.nil ?_
        refine WP.cond_f rfl ?_
        refine WP.skip ?_
        exact ⟨k + 1, ⟨⟨rfl, rfl, rfl, rfl, trivial⟩, I, hlt, fun j hj hj' => by
          rcases Nat.lt_succ_iff_lt_or_eq.1 hj with h' | rfl
          · exact hn j h' hj'
          · exact hlow⟩, by omega⟩
      · have hl : ¬ (97 ≤ (s[k]'hlt).toNat ∧ (s[k]'hlt).toNat ≤ 122) := fun h => hlow ((low_iff _).2 h)
        refine WP.seq ?_
        refine WP.region ?_
        refine Ops.y (v := .func _ _ _) (Y.move rfl) ?_
        refine Ops.y (v := .int .i32 _) (Y.move rfl) ?_
        refine Ops.go (O.callcv I Tryz.call116 (fs := []) (cs := []) rfl (Name1_ok _ I.base_ok _) rfl ?_)
        intro w I
        refine Ops.y (v := .bool _) (Y.move rfl) ?_
        refine Ops.y (v := .bool true) (Y.dec_t (Y.eqb Tryz.underlying4 rfl rfl) ((by rw [decide_eq_true (by omega)]))) ?_
        refine Ops.nil ?_
        refine WP.cond_t rfl ?_
        refine WP.seq ?_
        refine WP.region ?_
        refine Ops.y (v := .int .i64 _) (Y.move rfl) ?_
        refine Ops.y (v := .int .i64 _) (Y.assign rfl) ?_
        refine Ops.nil ?_
        refine WP.ret ?_
        repeat (first | refine thenE_ret ?_ | refine blockE_ret ?_)
        exact retQ.mk (vs := [.int .i64 _]) rfl ⟨rfl, trivial⟩ I.ext_of (⟨k, rfl, by rw [not_low hlt hlow]; simp⟩)
    · have hd := decode_high s k hlt (by omega)
      refine WP.seq ?_
      refine WP.region ?_
      refine Ops.y (v := .func _ _ _) (Y.move rfl) ?_
      refine Ops.y (v := .int .i32 _) (Y.move rfl) ?_
      refine Ops.go (O.callcv I Tryz.call116 (fs := []) (cs := []) rfl (Name1_ok _ I.base_ok _) rfl ?_)
      intro w I
      refine Ops.y (v := .bool _) (Y.move rfl) ?_
      refine Ops.y (v := .bool true) (Y.dec_t (Y.eqb Tryz.underlying4 rfl rfl) ((by rw [decide_eq_true (by omega)]))) ?_
      refine Ops.nil ?_
      refine WP.cond_t rfl ?_
      refine WP.seq ?_
      refine WP.region ?_
      refine Ops.y (v := .int .i64 _) (Y.move rfl) ?_
      refine Ops.y (v := .int .i64 _) (Y.assign rfl) ?_
      refine Ops.nil ?_
      refine WP.ret ?_
      repeat (first | refine thenE_ret ?_ | refine blockE_ret ?_)
      exact retQ.mk (vs := [.int .i64 _]) rfl ⟨rfl, trivial⟩ I.ext_of (⟨k, rfl, by rw [not_low hlt (fun h => by have := (low_iff _).1 h; omega)]; simp⟩)
theorem SIndexFunc_ok (B : Base) (hB : B.ok) (s : ByteArray) : Fn Tryz.prog 160 [.string s, .func (.func 116) #[] #[]] B (fun v _ => IdxP s v) := by
  refine Fn.of Tryz.func160 rfl Tryz.ntmps160 (by kernel_rfl) (by simp) ?_
  intro e
  have I := Inv.start hB
  refine WP.seq ?_
  refine WP.region ?_
  refine Ops.y (v := .int .i64 _) (Y.assign rfl) ?_
  refine Ops.nil ?_
  refine WP.seq ?_
  refine WP.region ?_
  refine Ops.y (v := .string _) (Y.move rfl) ?_
  refine Ops.y (v := .func _ _ _) (Y.move rfl) ?_
  refine Ops.go (O.call I Tryz.call198 (indexFunc_ok _ I.base_ok s) rfl ?_)
  rintro _ h2 w I le2 ⟨r, rfl, hr⟩
  refine Ops.y (v := .int .i64 _) (Y.assign rfl) ?_
  refine Ops.nil ?_
  refine WP.ret ?_
  repeat (first | refine thenE_ret ?_ | refine blockE_ret ?_)
  exact retQ.mk (vs := [.int .i64 _]) rfl ⟨rfl, trivial⟩ I.ext_of (⟨r, rfl, hr⟩)
theorem SContainsFunc_ok (B : Base) (hB : B.ok) (s : ByteArray) : Fn Tryz.prog 115 [.string s, .func (.func 116) #[] #[]] B (fun v _ => v = .bool !(s.data.toList.all lowB)) := by
  refine Fn.of Tryz.func115 rfl Tryz.ntmps115 (by kernel_rfl) (by simp) ?_
  intro e
  have I := Inv.start hB
  refine WP.seq ?_
  refine WP.region ?_
  refine Ops.y (v := .bool _) (Y.assign rfl) ?_
  refine Ops.nil ?_
  refine WP.seq ?_
  refine WP.region ?_
  refine Ops.y (v := .string _) (Y.move rfl) ?_
  refine Ops.y (v := .func _ _ _) (Y.move rfl) ?_
  refine Ops.go (O.call I Tryz.call160 (SIndexFunc_ok _ I.base_ok s) rfl ?_)
  rintro _ h2 w I le2 ⟨r, rfl, hr⟩
  refine Ops.y (v := .bool (decide _)) (Y.gei rfl rfl) ?_
  refine Ops.y (v := .bool _) (Y.assign rfl) ?_
  refine Ops.nil ?_
  refine WP.ret ?_
  repeat (first | refine thenE_ret ?_ | refine blockE_ret ?_)
  exact retQ.mk (vs := [.bool _]) rfl ⟨rfl, trivial⟩ I.ext_of (by simp only [tup]; rw [hr])
theorem Name_ok (B : Base) (hB : B.ok) (s : ByteArray) (hs : s.size ≤ 140737488355328) : Fn Tryz.prog 57 [.string s] B (fun v _ => v = .bool (isName s)) := by
  by_cases h1 : (0 : Int) < s.size
  · by_cases h2 : (s.size : Int) ≤ 8
    · refine Fn.of Tryz.func57 rfl Tryz.ntmps57 (by kernel_rfl) (by simp) ?_
      intro e
      have I := Inv.start hB
      refine WP.seq ?_
      refine WP.region ?_
      refine Ops.y (v := .bool _) (Y.assign rfl) ?_
      refine Ops.nil ?_
      refine WP.seq ?_
      refine WP.region ?_
      refine Ops.y (v := .string _) (Y.move rfl) ?_
      refine Ops.y (v := .int .i64 _) (Y.lenstr Tryz.underlying9 rfl) ?_
      refine Ops.y (v := .bool true) (Y.dec_t (Y.gti rfl rfl) (h1)) ?_
      refine Ops.y (v := .bool _) (Y.move rfl) ?_
      refine Ops.ygt rfl (v := .string _) (Y.move rfl) ?_
      refine Ops.ygt rfl (v := .int .i64 _) (Y.lenstr Tryz.underlying9 rfl) ?_
      refine Ops.ygt rfl (v := .bool true) (Y.dec_t (Y.lei rfl rfl) (h2)) ?_
      refine Ops.y (v := .bool _) (Y.pick_t rfl rfl) ?_
      refine Ops.y (v := .bool _) (Y.move rfl) ?_
      refine Ops.ygt rfl (v := .string _) (Y.move rfl) ?_
      refine Ops.gt rfl (O.callv I Tryz.call115 (SContainsFunc_ok _ I.base_ok s) rfl ?_)
      intro w I
      refine Ops.ygt rfl (v := .bool _) (Y.not rfl) ?_
      refine Ops.y (v := .bool _) (Y.pick_t rfl rfl) ?_
      refine Ops.y (v := .bool _) (Y.assign rfl) ?_
      refine Ops.nil ?_
      refine WP.ret ?_
      repeat (first | refine thenE_ret ?_ | refine blockE_ret ?_)
      exact retQ.mk (vs := [.bool _]) rfl ⟨rfl, trivial⟩ I.ext_of (by simp only [tup, isName]; rw [decide_eq_true (show 1 ≤ s.size by omega), decide_eq_true (show s.size ≤ 8 by omega)]; simp)
    · refine Fn.of Tryz.func57 rfl Tryz.ntmps57 (by kernel_rfl) (by simp) ?_
      intro e
      have I := Inv.start hB
      refine WP.seq ?_
      refine WP.region ?_
      refine Ops.y (v := .bool _) (Y.assign rfl) ?_
      refine Ops.nil ?_
      refine WP.seq ?_
      refine WP.region ?_
      refine Ops.y (v := .string _) (Y.move rfl) ?_
      refine Ops.y (v := .int .i64 _) (Y.lenstr Tryz.underlying9 rfl) ?_
      refine Ops.y (v := .bool true) (Y.dec_t (Y.gti rfl rfl) (h1)) ?_
      refine Ops.y (v := .bool _) (Y.move rfl) ?_
      refine Ops.ygt rfl (v := .string _) (Y.move rfl) ?_
      refine Ops.ygt rfl (v := .int .i64 _) (Y.lenstr Tryz.underlying9 rfl) ?_
      refine Ops.ygt rfl (v := .bool false) (Y.dec_f (Y.lei rfl rfl) (h2)) ?_
      refine Ops.y (v := .bool _) (Y.pick_t rfl rfl) ?_
      refine Ops.y (v := .bool _) (Y.move rfl) ?_
      refine Ops.gf rfl ?_
      refine Ops.gf rfl ?_
      refine Ops.gf rfl ?_
      refine Ops.y (v := .bool _) (Y.pick_f rfl rfl) ?_
      refine Ops.y (v := .bool _) (Y.assign rfl) ?_
      refine Ops.nil ?_
      refine WP.ret ?_
      repeat (first | refine thenE_ret ?_ | refine blockE_ret ?_)
      exact retQ.mk (vs := [.bool _]) rfl ⟨rfl, trivial⟩ I.ext_of (by simp only [tup, isName]; rw [decide_eq_false (show ¬ s.size ≤ 8 by omega)]; simp)
  · refine Fn.of Tryz.func57 rfl Tryz.ntmps57 (by kernel_rfl) (by simp) ?_
    intro e
    have I := Inv.start hB
    refine WP.seq ?_
    refine WP.region ?_
    refine Ops.y (v := .bool _) (Y.assign rfl) ?_
    refine Ops.nil ?_
    refine WP.seq ?_
    refine WP.region ?_
    refine Ops.y (v := .string _) (Y.move rfl) ?_
    refine Ops.y (v := .int .i64 _) (Y.lenstr Tryz.underlying9 rfl) ?_
    refine Ops.y (v := .bool false) (Y.dec_f (Y.gti rfl rfl) (h1)) ?_
    refine Ops.y (v := .bool _) (Y.move rfl) ?_
    refine Ops.gf rfl ?_
    refine Ops.gf rfl ?_
    refine Ops.gf rfl ?_
    refine Ops.y (v := .bool _) (Y.pick_f rfl rfl) ?_
    refine Ops.y (v := .bool _) (Y.move rfl) ?_
    refine Ops.gf rfl ?_
    refine Ops.gf rfl ?_
    refine Ops.gf rfl ?_
    refine Ops.y (v := .bool _) (Y.pick_f rfl rfl) ?_
    refine Ops.y (v := .bool _) (Y.assign rfl) ?_
    refine Ops.nil ?_
    refine WP.ret ?_
    repeat (first | refine thenE_ret ?_ | refine blockE_ret ?_)
    exact retQ.mk (vs := [.bool _]) rfl ⟨rfl, trivial⟩ I.ext_of (by simp only [tup, isName]; rw [decide_eq_false (show ¬ 1 ≤ s.size by omega)]; simp)
end Go.TF
end
section
/- Join, Lift, Leq and the references: contracts. -/
namespace Go.TF
open Go Go.RowKit Go.Proofs
set_option maxRecDepth 10000
end Go.TF
end
