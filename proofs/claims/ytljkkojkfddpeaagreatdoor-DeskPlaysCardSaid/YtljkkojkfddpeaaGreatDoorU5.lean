/- Texts Txp4 Txp9 Prog1 Prog2 Prog3 Lat Prog4 Lat2 Rule Rule2 Rule3 Prog5 Prog6 Txp5 Txp6 Txq1 SpRoads Txq2. -/
import Derived.Test.YtljkkojkfddpeaaGreatDoorU4
import Derived.Laws.Pointers
import Derived.Tactics2
import Derived.TacticsInMore
import Derived.RegionIn
set_option maxRecDepth 20000
set_option maxHeartbeats 16000000
set_option linter.unusedVariables false
set_option linter.unusedSimpArgs false
namespace Go.TF
open Go Go.RowKit Go.Proofs Go.Proofs.Tryz
section
theorem JS(c:UInt8):∀s:Bs,Lib.index s [c]=Lib.indexByte s c
 |[]=>rfl
 |b::l=>by
  rw[Lib.index,Lib.indexByte,JS c l];have:([c].isPrefixOf (b::l))=(b == c):=by
   show(c == b && true)=(b == c);rw[Ahy];exact BEq.comm
  rw[this]
theorem Ir(c:UInt8):∀s:Bs,Lib.indexByte s c<s.length
 |[]=>by show(-1:Int)<0;omega
 |b::l=>by
  have ih:=Ir c l;rw[Lib.indexByte];simp only[Ae6];split
  ·omega
  ·split<;>omega
theorem CJ(s:Bs)(i j:Nat):(mk s).extract i j=mk ((s.take j).drop i):=by
 apply ByteArray.ext;simp only[ByteArray.data_extract];apply Array.ext';simp[AhK]
def DZ(s:ByteArray):List ByteArray:=(linesS (tx s).length (tx s)).map mk
abbrev AaA(s:ByteArray):List Value:=[.string s]
theorem Nx{α:Type}{x:α}{l xs:List α}{k:Nat}(h:x::l=xs.drop k):xs[k]?=some x∧l=xs.drop (k+1)∧k<xs.length:=by
 have hk:k<xs.length:=by
  rcases Af4 k xs.length with h1|h1
  ·exact h1
  ·rw[AfV h1] at h;cases h
 rw[AfZ hk] at h;injection h with h1 h2;exact⟨by rw[Ae4 hk,←h1],h2,hk⟩
theorem Ny(s:ByteArray)(hs:s.size≤4096)(b:Nat):ZI prog 67 [Pt b] AaA (DZ s) (box b [.string s] 9):=by
 intro σ l B h U Jc Xp W s0 I j0 mono hy;have hargs:(#[.func (.yield l) #[] #[]]:Array Value)++([Pt b]:List Value).toArray=[.func (.yield l) #[] #[],Pt b].toArray:=rfl;rw[hargs];refine Ady (args:=[.func (.yield l) #[] #[],Pt b]) func67 rfl ntmps67 (by kernel_rfl) (by simp) fun e=>WP.block ?_;refine Abx (σ:=Nat×Bs×Ae×σ) (fun z=>[(0,.func (.yield l) #[] #[]),(1,Pt b)])
  (fun z w=>z.2.1.length≤4096∧z.1≤(DZ s).length∧(∃f,z.2.1.length≤f∧(linesS f z.2.1).map mk=(DZ s).drop z.1)∧Inv B z.2.2.1 (box b [.string (mk z.2.1)] 9::U z.2.2.2) w∧h.le z.2.2.1∧Jc z.1 z.2.2.1 z.2.2.2) (fun z=>z.2.1.length)
  ⟨(0,tx s,h,s0),⟨rfl,rfl,trivial⟩,by rw[BF];exact hs,Afa _,⟨_,Afg _,rfl⟩,by have e:mk (tx s)=s:=M2 s;show Inv B h (box b [.string (mk (tx s))] _::U s0) W;rw[e];exact I,Ae.le.refl _,j0⟩ ?_
 rintro⟨k,rest,hg,s1⟩ e w ⟨hr,hk,⟨f,hf,hxs⟩,I,gl,hj⟩;dsimp only at hr hk hf hxs I gl hj ⊢;have hsz:(mk rest).size=rest.length:=Ar rest;refine Abi<|Sr<|At0 (Ld I HW 0 0 1 rfl rfl rfl)<|Ai (AbF Ah9 rfl)<|Ad (AbL rfl rfl)<|Abh ?_;refine Abl rfl (fun h7=>?_) (fun h7=>?_)
 ·have hne:rest≠[]:=fun e=>by rw[e] at hsz;have h0:(mk ([]:Bs)).size=0:=rfl;rw[e] at h7;omega
  obtain⟨f,rfl⟩:∃g,f=g+1:=⟨f-1,by have:0<rest.length:=Af7.2 hne;omega⟩;rw[linesS,if_neg hne] at hxs;obtain⟨ix,hix⟩:∃ix,Lib.index rest [10]=ix:=⟨_,rfl⟩;have hib:Lib.indexByte (tx (mk rest)) (10:Int).toNat.toUInt8=ix:=by rw[←hix,JS];rfl
  rw[hix] at hxs;refine Abk<|WP.block<|Sr<|At0 Ag<|Abh<|Abi<|Sr<|At0 (Ld I HW 0 0 1 rfl rfl rfl)<|Abj (Abm I call68 (hib▸Rh (B:=⟨w,hg⟩) I.j6 (mk rest) 10) rfl fun w I=>Ai Ag<|Abh<|Sr<|Ai Mv<|Ad (AbZ rfl rfl)<|Abh ?_);refine Acc (σ:=Bs×Bs×Ae) (fun z=>[(0,.func (.yield l) #[] #[]),(1,Pt b),(3,.string (mk z.1))])
   (fun z w=>z.2.1.length<rest.length∧z.2.1.length≤f∧(mk z.1)::(linesS f z.2.1).map mk=(DZ s).drop k∧hg.le z.2.2∧Inv B z.2.2 (box b [.string (mk z.2.1)] 9::U s1) w) ?_ ?_
  ·refine Abl rfl (fun h11=>?_) (fun h11=>?_)
   ·have h11':0≤ix:=h11;rw[if_pos h11'] at hxs;have hlt:ix<rest.length:=by rw[←hix,JS];exact Ir _ _
    obtain⟨n,hn⟩:∃n:Nat,ix=n:=⟨ix.toNat,by omega⟩;subst hn;refine AbM AC I 9 (by kernel_rfl)<|Ft (fun _ w us hl I=>Ld I HW 0 0 1 rfl rfl rfl)<|Fi (fun _ w us hl I=>Mv)<|Fi (fun _ w us hl I=>Dd rfl rfl)<|Ft (fun _ w us hl I=>Acu (l:=0) (h:=n+1) Ah9 rfl (.inl ⟨rfl,rfl⟩) (.inr ⟨_,_,rfl,rfl⟩) (by omega) (by rw[hsz];omega))<|Ft (fun _ w us hl I=>Ld I HW 0 0 1 rfl rfl rfl)<|Fi (fun _ w us hl I=>Mv)<|Fi (fun _ w us hl I=>Dd rfl rfl)<|Ft (fun _ w us hl I=>Acu (l:=n+1) (h:=(mk rest).size) Ah9 rfl (.inr ⟨_,_,rfl,rfl⟩) (.inl ⟨rfl,rfl⟩) (by rw[hsz];omega) (Afg _))<|Ft (fun _ w us hl I=>Ag)<|AbX fun _ w hl I=>?_;try unfold CT
    refine Abj (St0 I HW 0 rfl rfl rfl rfl fun w I=>Abh ?_);have e1:(mk rest).extract 0 (n+1)=mk (rest.take (n+1)):=by rw[CJ];rfl
    have e2:(mk rest).extract (n+1) (mk rest).size=mk (rest.drop (n+1)):=by rw[CJ,hsz,AfW (Afg _)]
    rw[e2] at I;refine⟨(rest.take (n+1),rest.drop (n+1),_),⟨rfl,rfl,by rw[←e1];rfl,trivial⟩,?_,?_,?_,hl,I⟩
    ·simp only[AfD];omega
    ·simp only[AfD];omega
    ·simpa using hxs
   ·have h11':¬0≤ix:=h11;rw[if_neg h11'] at hxs;refine Abg<|At0 (Ld I HW 0 0 1 rfl rfl rfl)<|At0 Ag<|Abj (St0 I HW 0 rfl rfl rfl rfl fun w I=>Abh ?_);refine⟨(rest,[],hg),⟨rfl,rfl,rfl,trivial⟩,?_,?_,?_,Ae.le.refl _,I⟩
    ·simp only[Afc];omega
    ·simp
    ·cases f<;>simpa[linesS] using hxs
  rintro⟨x,r2,hg2⟩ e w ⟨hlt,hf2,hx2,gl1,I⟩;dsimp only at hlt hf2 hx2 gl1 I ⊢;obtain⟨hget,hdr,hk1⟩:=Nx hx2;refine Abi<|Aeg _ (fun _ _ _ h=>h) (by kernel_rfl)<|Aeh (v:=.func _ _ _) Mv<|Aeh (v:=.string _) Mv<|Gq.yield rfl rfl (hy k hg2 (mk x) s1 [box b [.string (mk r2)] 9] w hget (gl.trans gl1) I (mono _ _ _ _ gl1 hj)) ?_;rintro ed w (⟨rfl,h2,s2,gl2,I,hj2⟩|⟨ch,rfl,hx⟩)
  ·refine .inl ⟨_,rfl,?_⟩;exact Aeh (v:=.bool false) (Y.b (Y.not rfl) (rfl))<|AeI<|Abq rfl<|Abk<|⟨(k+1,r2,h2,s2),⟨⟨rfl,rfl,trivial⟩,by dsimp only;omega,by dsimp only;omega,⟨f,hf2,hdr⟩,I,(gl.trans gl1).trans gl2,hj2⟩,hlt⟩
  ·refine .inr ⟨ch,rfl,?_⟩;exact .inr ⟨ch,rfl,hx⟩
 obtain rfl:rest=[]:=Agh.1 (by omega);have hend:k=(DZ s).length:=by
  have:(linesS f []).map mk=[]:=by cases f<;>simp[linesS]
  rw[this] at hxs;have:=congrArg List.length hxs;simp only[Afc,AfD] at this;omega
 subst hend;exact Abz<|⟨[],trivial,.inl ⟨⟨_,rfl⟩,hg,s1,gl,I.drop,hj⟩⟩
end
section
theorem JT{P:Program}{N:Nat}{c:Code}{kv:List (Nat×Value)}{w:World}{Q':Exit→Env→World→Prop}{Q:Exit→Act→List Frame→World→Prop}{a:Act}{cs:List Frame}(hh:Has (env a) kv)(h:∀e,WP P N [] c (E e kv) w Q')(hs:AS N c=true)(ha:a.tmps.size=N)(hd:a.defers=[])
  (hq:∀x a' w',a'.defers=[]→Q' x (env a') w'→Q x a' cs w'):c.wpSIn Fence.wide 0 P Q a cs w:=
 wpSIn_of_wpIn rfl (wpIn_mono (wpIn_wide.2 (h (env a) hs a ha hd (C9 hh).symm)) fun x a' w' ⟨_,g2,g3⟩=>hq x a' w' g2 g3)
abbrev AaU:List PanicEntry:=[{v:=.iface 119 (.agg #[]),recovered:=true}]
theorem S6(b2 b3:Nat)(w:World):CallsDIn Fence.wide 0 prog 28 #[Pt b2,Pt b3] .returning w fun ed u w'=>(∃v,ed=.returned v)∧u=.returning∧w'=w:=by
 refine callsDIn_of_wpSIn func28 rfl trivial fun c₀ cs hu=>?_;apply wpSIn_seq;apply wpSIn_region;simp[wpOpsSIn,go_sem,recoverD,hu,ntmps28,Exit.thenS];refine wpSIn_cond (t:=false) (by simp[Act.eval,Array.replicate]) ?_;simp only[Afy,if_false];refine wpSIn_of_wpIn rfl (wpIn_skip ?_);cases c₀;simp_all [bodyPostS,results,results28]
theorem S7{B:Aq}{h:Ae}{M:List SA}{w:World}(b2 b3:Nat){x y z:Value}(I:Inv B h (box b2 [x,y] 25::box b3 [z] 26::M) w) :
  CallsDIn Fence.wide 0 prog 28 #[Pt b2,Pt b3] (.panicking brk) w fun ed u w'=>(∃v,ed=.returned v)∧u=.panicking AaU∧Inv B h (box b2 [.slice none 0 0,.slice none 0 0] 25::box b3 [.int .i64 1] 26::M) w':=by
 refine callsDIn_of_wpSIn func28 rfl trivial fun c₀ cs hu=>?_;apply wpSIn_seq;apply wpSIn_region;simp[wpOpsSIn,go_sem,recoverD,hu,ntmps28,Exit.thenS];refine wpSIn_cond (t:=true) (by simp[Act.eval,Array.replicate]) ?_;simp only[if_true];refine JT (N:=5) (kv:=[(0,Pt b2),(1,Pt b3)]) (Q':=fun x _ w'=>x=.normal∧Inv B h (box b2 [.slice none 0 0,.slice none 0 0] 25::box b3 [.int .i64 1] 26::M) w') ⟨rfl,rfl,trivial⟩ ?_ rfl (by simp) rfl ?_
 ·intro e;exact Abg<|AbB (v:=.agg #[.slice _ _ _,.slice _ _ _]) (Y.build It Aio rfl rfl)<|Abj (Sx I As 0 rfl rfl rfl rfl fun w I=>Abj (Si I Q7 1 rfl rfl rfl rfl fun w I=>Abh<|⟨rfl,I⟩))
 ·rintro x a' w' hd ⟨rfl,I⟩;refine⟨hd,_,rfl,?_⟩;simp[results,results28,I]
end
section
def Zd(h:Ae)(b:Nat)(p:Prg):Prop:=h b=some (.cells [p.preds.val,p.rules.val].toArray 25 (0,0))
theorem X8(B:Aq)(hB:B.ok)(p:Prg):Fn prog 120 [p.val] B (fun v h'=>∃b,v=.func (.func 162) #[] #[Pt b]∧Zd h' b p):=by
 refine Fo hB func120 rfl ntmps120 fun e I=>Sr<|Abj (O.box (v:=.agg #[_,_]) I rfl rfl fun b1 w I=>AbB (v:=.nilFunc) Ag<|Abh<|Sr<|Af (Acq rfl rfl)<|Af Ag<|Abh ?_);have hb0:=I.at 0 rfl;obtain⟨h1,le1,hb,I⟩:=I.settle;refine Wr ?_;exact Rm (v:=.func _ _ _) rfl rfl I (⟨b1,rfl,(hb b1 (by simp[box])).trans hb0⟩)
theorem H4{rs:List Rul}{n:Nat}(hn:n<rs.length):AX (rs.take (n+1))=AX (rs.take n)++rs[n].body.xs.map fun x=>(rs[n].head.pred,x):=by
 rw[Afi hn];unfold AX;rw[Afm];simp only[AfK,List.flatMap_nil,Aft]
theorem OP(rs:List Rul)(n:Nat):AX rs=AX (rs.take n)++AX (rs.drop n):=by
 have:=congrArg AX (AgG n rs);unfold AX at this ⊢;rw[Afm] at this;exact this.symm
theorem Nz{rs:List Rul}{n:Nat}(hn:n<rs.length){k:Nat}(hk:k<rs[n].body.xs.length):(AX rs)[(AX (rs.take n)).length+k]?=some (rs[n].head.pred,rs[n].body.xs[k]):=by
 rw[OP rs (n+1),H4 hn,Afe,Af5 (by omega),AfU (by simp;omega)];simp[hk]
def Aa5(c:Int×Ltl):List Value:=[.int .i64 c.1,c.2.val]
theorem Rk(p:Prg)(bp:Nat)(h:Ae)(hb:Zd h bp p)(hr:ZB p.rules h):Xd prog 162 [Pt bp] Aa5 (AX p.rules.xs) h:=by
 intro l J Jx hg W hle j0 hok hext hround;have hsm:=hr.is.small;refine AbV (args:=[.func (.yield l) #[] #[],Pt bp]) func162 rfl ntmps162 (by kernel_rfl) (by simp) fun e=>?_;have I:=Ab2 (hok _ _ _ j0);refine Sr<|Ap (Abr AU rfl)<|As0 (Abn Cc rfl (I.rd ((RT hb 1 1).le hle)) rfl rfl)<|Ai (AbA Aic rfl)<|Ai Mv<|Abh<|WP.block ?_;refine Abx (σ:=Nat) (fun n=>[(0,.func (.yield l) #[] #[]),(1,Pt bp),(8,p.rules.val),(9,.int .i64 p.rules.xs.length),(10,.int .i64 n)])
  (fun n w=>n≤p.rules.xs.length∧∃h1,hg.le h1∧J h1 (AX (p.rules.xs.take n)).length w) (fun n=>p.rules.xs.length-n)
  ⟨0,⟨rfl,rfl,rfl,rfl,rfl,trivial⟩,Afa _,hg,Ae.le.refl _,j0⟩ ?_
 rintro n e w ⟨hn,h1,gl1,j1⟩;have I:=Ab2 (hok _ _ _ j1);refine Sr<|Ad (AbC rfl rfl)<|Abh<|Abi ?_;refine Abl rfl (fun hc=>?_) (fun hc=>?_)
 ·have hn':n<p.rules.xs.length:=by omega
  have E1:=(hr.is.le (hle.trans gl1)).at hn';have hbd:=(hr.each _ (Ae5 hn')).body.le (hle.trans gl1);have hbs:=hbd.is.small;refine Abk<|Abi<|WP.block<|Sr<|Ap (Ix E1 Aic Aiv rfl rfl)<|AbB (v:=.agg #[_,_,_,_,_]) (Abn C0 rfl (I.rd (E1.rd.part 0 5)) rfl rfl)<|Abj (O.alloc I Aip rfl fun b4 w I=>Abj (Ab3 (v:=.agg #[_,_,_,_,_]) I C0 0 rfl rfl rfl rfl rfl rfl (Nb rfl) rfl fun w I=>Abh<|Sr<|Ap (Abr AG rfl)<|As0 (Ld I Bi 0 4 1 rfl rfl rfl)<|Ai (AbA Aib rfl)<|Ai Mv<|Abh ?_));have hb4:=I.at 0 rfl;obtain⟨h2,le2,hh4,I⟩:=I.settle;have hb4:=(hh4 b4 (by simp[box])).trans hb4;refine WP.block ?_;refine Abx (σ:=Nat) (fun k=>[(0,.func (.yield l) #[] #[]),(1,Pt bp),(8,p.rules.val),(9,.int .i64 p.rules.xs.length),(10,.int .i64 n),(4,Pt b4),(15,p.rules.xs[n].body.val),(16,.int .i64 p.rules.xs[n].body.xs.length),(17,.int .i64 k)])
   (fun k w=>k≤p.rules.xs[n].body.xs.length∧∃h3,h2.le h3∧J h3 ((AX (p.rules.xs.take n)).length+k) w) (fun k=>p.rules.xs[n].body.xs.length-k)
   ⟨0,⟨rfl,rfl,rfl,rfl,rfl,rfl,rfl,rfl,rfl,trivial⟩,Afa _,h2,Ae.le.refl _,hext _ _ _ _ _ j1 I⟩ ?_
  rintro k e w ⟨hk,h3,gl3,j3⟩;have I:=Ab2 (hok _ _ _ j3);refine Sr<|Ad (AbC rfl rfl)<|Abh<|Abi ?_;refine Abl rfl (fun hd=>?_) (fun hd=>?_)
  ·have hk':k<p.rules.xs[n].body.xs.length:=by omega
   have E2:=(hbd.is.le (le2.trans gl3)).at hk';refine Abk<|Abi<|WP.block<|Sr<|Ap (Ix E2 Aib Ail rfl rfl)<|Ay (Abn EQ rfl (I.rd (E2.rd.part 0 3)) rfl rfl)<|Abj (O.alloc I Aiu rfl fun b6 w I=>Abj (Sy I EQ 0 rfl rfl rfl rfl fun w I=>Abh<|Abi<|AdA (by kernel_rfl)<|AcK (v:=.func _ _ _) Mv<|AcK (v:=.pointer (some ⟨_,_,none⟩)) (Abu Bw rfl)<|AcK (v:=.pointer (some ⟨_,_,none⟩)) (Abu AW rfl)<|AcK (v:=.int .i64 _) (Abn An rfl (I.rd ((RT hb4 0 1).le gl3)) rfl rfl)<|AcK (v:=.agg #[_,_,_]) (Ld I EQ 0 0 3 rfl rfl rfl)<|AdB rfl rfl (hround h3 _ _ _ (gl1.trans (le2.trans gl3)) (Nz hn' hk') (hext _ _ _ _ _ j3 I.j5)) ?_));rintro ed w (⟨rfl,h4,gl4,j4⟩|⟨rfl,jx⟩)
   ·refine⟨_,rfl,?_⟩;refine AcK (v:=.bool _) (Y.not rfl)<|Adh<|Abq rfl<|Abk<|Abg<|Ai (Dd rfl rfl)<|Ai Mv<|Abh ?_;exact⟨k+1,⟨⟨rfl,rfl,rfl,rfl,rfl,rfl,rfl,rfl,rfl,trivial⟩,by omega,h4,gl3.trans gl4,j4⟩,by omega⟩
   ·refine⟨_,rfl,?_⟩;refine AcK (v:=.bool _) (Y.not rfl)<|Adh<|Abw rfl<|Wr ?_;exact⟨.inl rfl,[],trivial,⟨_,rfl⟩,.inr jx⟩
  refine Abz<|Abg<|Ai (Dd rfl rfl)<|Ai Mv<|Abh ?_;have hk2:k=p.rules.xs[n].body.xs.length:=by omega
  exact⟨n+1,⟨⟨rfl,rfl,rfl,rfl,rfl,trivial⟩,by omega,h3,gl1.trans (le2.trans gl3),by rw[H4 hn',Ae2,Afw,←hk2];exact j3⟩,by omega⟩
 refine Abz ?_;have hn2:n=p.rules.xs.length:=by omega
 rw[hn2,Afo] at j1;exact⟨.inr rfl,[],trivial,⟨_,rfl⟩,.inl ⟨h1,gl1,j1⟩⟩
end
section
@[reducible] def KG(n:Int):List Value:=[.int .i64 n]
@[reducible] def vI(n:Int):Value:=.int .i64 n
def AaV(cs:List (Int×Ltl))(n:Nat)(v:Value)(h:Ae):Prop:=
 (∃s:Sl Int,Ju cs n (some s.xs)∧s.Is 1 KG h∧v=.tuple #[s.val,.bool true])∨(Ju cs n none∧v=.tuple #[.slice none 0 0,.bool false])
theorem X9{b:Nat}{L:List Int}{T:TypeId}{h:Ae}{c:Nat}(hb:h b=some (.cells (L.map vI).toArray T (0,0)))(hs:L.length≤140737488355328):(⟨some ⟨b,0,none⟩,c,L⟩:Sl Int).Is 1 KG h:=
 ⟨fun i x hx=>⟨rfl,fun j v hv=>by
  cases j with
  |zero=>simp at hv;subst hv;simp only[Ae.cell,Sl.blk,Sl.off,Aga,hb];simp[hx]
  |succ j=>simp at hv⟩,hs⟩
theorem DG{L:List Int}{n:Nat}(hl:L.length=n){i:Int}(h0:0≤i)(h1:i<n):L[i.toNat]?=some (lv L i):=by
 have:i.toNat<L.length:=by omega
 simp[lv,Ae3,this]
structure AaB where
 bo:Nat
 b4:Nat
 L:List Int
 ms:List Nat
def LevU(s:AaB)(b3 b2 b1:Nat)(p:Prg)(L:List Int):List SA:=[box s.b4 [.slice (some ⟨s.bo,0,none⟩) p.preds.xs.length p.preds.xs.length] 78,box s.bo (L.map vI) 3,box b3 [.bool false] 4,box b2 [.slice none 0 0] 78,box b1 p.enc 25]
structure Aa6(B:Aq)(b3 b2 b1:Nat)(p:Prg)(cs:List (Int×Ltl))(s:AaB)(w:World):Prop where
 inv:∃h1,B.h.le h1∧Inv B h1 (LevU s b3 b2 b1 p s.L++s.ms.map AA) w
 good:Ng cs p.preds.xs.length s.L
 lt:∀i:Int,0≤i→i<p.preds.xs.length→lv s.L i<p.preds.xs.length
def AaC(cs:List (Int×Ltl))(n:Nat)(L:List Int)(j:Jmp)(L':List Int):Prop:=
 match j with
 |.ret=>L'=L∧Ju cs n none
 |.goto t=>t=0∧∃c∈cs,L'=L.set c.1.toNat (lst L c)∧lv L c.1<lst L c∧lst L c<n
 |.exit _=>False
theorem Hk(B:Aq)(hB:B.ok)(p:Prg)(hp:p.In B.h)(hr:InR (AX p.rules.xs) p.preds.xs.length)(hn5:p.preds.xs.length≤5):Fn prog 62 [p.val] B (fun v h=>AaV (AX p.rules.xs) p.preds.xs.length v h):=by
 refine Aed func62 rfl ntmps62 (by kernel_rfl) (by simp) fun e=>?_;have I:=Ab2 hB;refine AbW<|AbN<|Abj (O.box (v:=.agg #[_,_]) I rfl rfl fun b1 w I=>Abj (O.alloc I zeroValue78 rfl fun b2 w I=>Abj (O.alloc I zeroValue4 rfl fun b3 w I=>Abh ?_)));refine Aec (σ:=AaB) 0 (fun s=>[(1,Pt b1),(2,Pt b2),(3,Pt b3),(4,.pointer (some ⟨s.b4,0,none⟩))]) (fun s=>s.ms.map mark)
  (Aa6 B b3 b2 b1 p (AX p.rules.xs)) (fun s=>pot p.preds.xs.length s.L) rfl (by kernel_rfl) ?_ ?_
 ·refine AbN<|Ap (Abu At rfl)<|As0 (Ld I A7 2 0 1 rfl rfl rfl)<|Ai (AbA Aia rfl)<|Abj (AdS (n:=p.preds.xs.length) (zc:=(vI 0)) I Aie Aag rfl rfl rfl (by omega) (by omega) fun b11 w I=>Abj (O.alloc I zeroValue78 rfl fun b4 w I=>Abj (Ss0 I Iu 0 rfl rfl rfl rfl fun w I=>Abh ?_)));refine⟨⟨b11,b4,List.replicate p.preds.xs.length 0,[]⟩,⟨rfl,rfl,rfl,rfl,trivial⟩,rfl,⟨⟨B.h,Ae.le.refl _,?_⟩,Ng.zero _ _,fun i h0 h1=>by rw[LZ];omega⟩⟩;simp only[AgT,Aft,LevU,Aha];exact I
 ·rintro⟨bo,b4,L,ms⟩ e w ⟨⟨h1,gl1,I⟩,g,hlt⟩;dsimp only at I g hlt ⊢;refine AbW<|AbW<|AbN<|Ax (Ld I As 4 0 2 rfl rfl rfl)<|Abj (AbE I call120 (X8 _ I.j6 p) rfl ?_);rintro _ h2 w I le2 ⟨bp,rfl,hbp⟩;refine Abh<|WPD.block ?_;refine AdL (σ:=List Int) (LevU ⟨bo,b4,L,ms⟩ b3 b2 b1 p) (fun k L'=>L'=L∧∀j,j<k→∀c,(AX p.rules.xs)[j]?=some c→SK L c) (AaC (AX p.rules.xs) p.preds.xs.length L) L I ⟨rfl,fun j hj=>by omega⟩ rfl call162
   (Rk p bp h2 hbp (hp.rules.le (gl1.trans le2))) (fun _=>rfl) (by kernel_rfl) (by kernel_rfl) (by kernel_rfl) ?_ ?_ ?_
  ·rintro l r ms' hg k c L' W hx gl I ⟨hL,hsat⟩;obtain rfl:L=L':=hL.symm;have hc:=Afk hx;have hh:=hr.h c hc;have hb:=hr.b c hc;have hlb:=hlt _ hb.1 hb.2;have hpb:=g.pos c.2.atom.pred;have hng:=OH c.2;have hlst:lst L c=lv L c.2.atom.pred+ng c.2:=rfl;refine Acn<|AbU (by kernel_rfl)<|Ai Ag<|Abh<|AbU (by kernel_rfl)<|Abj (O.alloc I Aiu rfl fun b6 w I=>Abj (Sy I EQ 0 rfl rfl rfl rfl fun w I=>Abh ?_));refine⟨hg,[box b6 c.2.enc 68],Ae.le.refl _,I,fun r' W2 I=>?_⟩;refine WPI.block<|Acn<|AbU (by kernel_rfl)<|As0 (Ld I Iu 1 0 1 rfl rfl rfl)<|Ap (Abr Bk rfl)<|Ap (Abu AW rfl)<|Ai (Ld I An 0 1 1 rfl rfl rfl)<|Ap (Acy Aie Aij rfl rfl hb.1 hb.2)<|Ai (Abn An rfl (I.w9 2 rfl (by omega) (DG g.len hb.1 hb.2)) rfl rfl)<|Ai Ag<|Abh<|Acn ?_;refine Aez (σ:=Unit) (fun _=>[(1,Pt b1),(2,Pt b2),(3,Pt b3),(4,Pt b4),(5,.int .i64 c.1),(6,Pt b6),(7,.int .i64 (lst L c))])
    (fun _ w=>Inv B hg ([box b6 c.2.enc 68]++(LevU ⟨bo,b4,L,ms⟩ b3 b2 b1 p L++(AN l r'::ms'.map AA))) w) ?_ ?_
   ·refine Acn<|AbU (by kernel_rfl)<|Ap (Abu BK rfl)<|Ab (Ld I Br 0 0 1 rfl rfl rfl)<|Abh ?_;refine Adj rfl (fun hneg=>?_) (fun hneg=>?_)
    ·refine AbU (by kernel_rfl)<|Ai Mv<|Ai (Dd rfl rfl)<|Ai Ag<|Abh ?_;exact⟨(),⟨rfl,rfl,rfl,rfl,rfl,rfl,by simp only[lst,ng,hneg];rfl,trivial⟩,I⟩
    ·refine Adi ?_;exact⟨(),⟨rfl,rfl,rfl,rfl,rfl,rfl,by simp only[lst,ng,hneg,Afy,if_false,Int.add_zero];rfl,trivial⟩,I⟩
   rintro _ e W2 I;refine Acn<|Acn<|AbU (by kernel_rfl)<|Ai Mv<|As0 (Ld I Iu 1 0 1 rfl rfl rfl)<|Ai Mv<|Ap (Acy Aie Aij rfl rfl hh.1 hh.2)<|Ai (Abn An rfl (I.w9 2 rfl (by omega) (DG g.len hh.1 hh.2)) rfl rfl)<|Ad (AcD rfl rfl)<|Abh ?_;refine Adk rfl (fun h8=>?_) (fun h8=>?_)
   ·refine Aew ?_;exact⟨hg,L,[box b6 c.2.enc 68],Ae.le.refl _,I,rfl,fun j hj c' hc'=>by
     rcases Afd.1 hj with h'|rfl
     ·exact hsat j h' c' hc'
     ·rw[hx] at hc';cases hc';exact h8⟩
   refine Adi<|Acn<|Acn<|AbU (by kernel_rfl)<|Ai Mv<|Ap (Abu At rfl)<|As0 (Ld I A7 5 0 1 rfl rfl rfl)<|Ai (AbA Aia rfl)<|Ad (AbZ rfl rfl)<|Abh ?_;refine Adk rfl (fun h9=>?_) (fun h9=>?_)
   ·refine Acn<|AbU (by kernel_rfl)<|Abj (Ss0 I Iu 4 rfl rfl rfl rfl fun w I=>Abj (Sb I Br 3 rfl rfl rfl rfl fun w I=>Abh<|AeP ?_));repeat (first|refine MT ?_|refine KM ?_)
    exact⟨hg,L,[box b6 c.2.enc 68],Ae.le.refl _,I,rfl,g.fail hr hc h9⟩
   refine Adi<|Acn<|AbU (by kernel_rfl)<|As0 (Ld I Iu 1 0 1 rfl rfl rfl)<|Ai Mv<|Ai Mv<|Ap (Acy Aie Aij rfl rfl hh.1 hh.2)<|Abj (AcQ I An 2 rfl rfl (i:=c.1.toNat) (by omega) (by rw[g.len];omega) rfl rfl rfl fun w I=>Abh<|Aex ?_);exact⟨hg,L.set c.1.toNat (lst L c),[box b6 c.2.enc 68],Ae.le.refl _,I,rfl,c,hc,rfl,by omega,by omega⟩
  ·rintro D h3 L' W gl I ⟨hL,hsat⟩;obtain rfl:L=L':=hL.symm;refine AbW<|AbN<|As0 (Ld I Iu 0 0 1 rfl rfl rfl)<|Abj (Ss0 I Iu 3 rfl rfl rfl rfl fun w I=>Abj (Sb I Br 2 rfl rfl rfl rfl fun w I=>Abh<|Adl ?_));repeat (first|refine BO ?_|refine Bq ?_)
   have hbo:=I.at 1 rfl;obtain⟨h4,le4,hb4,I⟩:=(I.front 1 rfl).settle;have hs:∀c∈AX p.rules.xs,SK L c:=fun c hc=>by
    obtain⟨j,hj,rfl⟩:=Afz hc;exact hsat j hj _ (Ae4 hj)
   show Q6 _ _ _ _ _ _ _ _;exact⟨.inl rfl,D::ms,[box b4 [.slice (some ⟨bo,0,none⟩) p.preds.xs.length p.preds.xs.length] 78,box b3 [.bool true] 4,box b2 [.slice (some ⟨bo,0,none⟩) p.preds.xs.length p.preds.xs.length] 78,box b1 p.enc 25],h4,
    [.slice (some ⟨bo,0,none⟩) p.preds.xs.length p.preds.xs.length,.bool true],rfl,I,fun w2 I2=>⟨⟨b2,0,1,false,_,rfl,Iu,I2.l5 2 rfl 0 1,rfl,rfl⟩,⟨b3,0,1,false,_,rfl,Br,I2.l5 1 rfl 0 1,rfl,rfl⟩,trivial⟩,
    .inl ⟨⟨some ⟨bo,0,none⟩,p.preds.xs.length,L⟩,g.done hs,X9 ((hb4 bo (by simp[box])).trans hbo) (by rw[g.len];omega),by simp[tup,Sl.val,g.len]⟩⟩
  ·rintro D c h3 L' W gl I hx;cases c with
   |ret=>
    obtain⟨hL,hno⟩:=hx;obtain rfl:L=L':=hL.symm;refine Bq (BO ?_);show Q6 _ _ _ _ _ _ _ _;exact⟨.inl rfl,D::ms,LevU ⟨bo,b4,L,ms⟩ b3 b2 b1 p L,h3,[.slice none 0 0,.bool false],rfl,I,fun w2 I2=>⟨⟨b2,0,1,false,_,rfl,Iu,I2.l5 3 rfl 0 1,rfl,rfl⟩,⟨b3,0,1,false,_,rfl,Br,I2.l5 2 rfl 0 1,rfl,rfl⟩,trivial⟩,.inr ⟨hno,rfl⟩⟩
   |goto t=>
    obtain⟨rfl,c,hc,rfl,k1,k2⟩:=hx;have hh:=hr.h c hc;exact(show(0=0∧_) from⟨rfl,⟨bo,b4,L.set c.1.toNat (lst L c),D::ms⟩,⟨⟨rfl,rfl,rfl,rfl,trivial⟩,rfl,⟨⟨h3,(gl1.trans le2).trans gl,I⟩,g.raise hr hc,fun i h0 h1=>by
     rw[Nf hh.1 (by rw[g.len];exact hh.2) _ _ h0];split
     ·exact k2
     ·exact hlt i h0 h1⟩⟩,KY hh.1 (by rw[g.len];exact hh.2) k1 (hlt _ hh.1 hh.2)⟩)
   |exit id=>exact hx.elim
end
section
theorem OQ{rs:List Rul}{m:Nat}(hm:m<rs.length):AX (rs.take (m+1))=AX (rs.take m)++(rs[m].body.xs.take rs[m].body.xs.length).map fun x=>(rs[m].head.pred,x):=by
 rw[Afo];exact H4 hm
theorem S8{rs:List Rul}{m:Nat}(hm:m<rs.length){k:Nat}(hk:k<rs[m].body.xs.length):(rs[m].head.pred,rs[m].body.xs[k])∈AX rs:=Afk (Nz hm hk)
theorem map_take{α β:Type}(f:α→β){l:List α}{k:Nat}(hk:k<l.length):(l.take (k+1)).map f=(l.take k).map f++[f l[k]]:=by
 rw[Afi hk,AfM];rfl
theorem NA(B:Aq)(hB:B.ok)(p:Prg)(hp:p.In B.h)(hr:InR (AX p.rules.xs) p.preds.xs.length)(hn5:p.preds.xs.length≤5)(hr8:p.rules.xs.length≤8)(hb3:∀r∈p.rules.xs,r.body.xs.length≤3) :
  Fn prog 44 [p.val] B (fun v h=>AaV (AX p.rules.xs) p.preds.xs.length v h):=by
 obtain⟨sq,hsq⟩:∃sq:Int,sq=(p.preds.xs.length:Int)*p.preds.xs.length:=⟨_,rfl⟩;have hsq0:0≤sq∧sq≤25:=by
  rw[hsq];have h5:(p.preds.xs.length:Int)≤5:=by omega
  exact⟨Int.mul_nonneg (by omega) (by omega),by have:=Int.mul_le_mul h5 h5 (by omega) (by omega);omega⟩
 have hsqN:((p.preds.xs.length*p.preds.xs.length:Nat):Int)=sq:=by rw[hsq];exact Int.natCast_mul _ _
 refine Fo hB func44 rfl ntmps44 fun e I=>Sr<|Abj (O.box (v:=.agg #[_,_]) I rfl rfl fun b1 w I=>As0 Ag<|Ab Ag<|Abh<|Sr<|Ap (Abu At rfl)<|As0 (Ld I A7 0 0 1 rfl rfl rfl)<|Ai (AbA Aia rfl)<|Abj (AdS (n:=p.preds.xs.length) (zc:=(vI 0)) I Aie Aag rfl rfl rfl (by omega) (by omega) fun b14 w I=>As0 Ag<|Abh<|Abi<|Sr<|Ai Ag<|Abh ?_));rw[←Aha (f:=vI)] at I;refine WP.block ?_;refine Abx (σ:=Nat×List Int) (fun s=>[(1,Pt b1),(2,.slice none 0 0),(3,.bool false),(4,.slice (some ⟨b14,0,none⟩) p.preds.xs.length p.preds.xs.length),(5,.int .i64 s.1)])
  (fun s w=>Inv B B.h [box b14 (s.2.map vI) 3,box b1 p.enc 25] w∧Ng (AX p.rules.xs) p.preds.xs.length s.2∧(∀i,lv s.2 i≤24*s.1)∧((∃M,Sol (AX p.rules.xs) p.preds.xs.length M)→pot p.preds.xs.length s.2+s.1≤p.preds.xs.length*p.preds.xs.length)∧s.1≤sq+2)
  (fun s=>(sq+3-s.1).toNat) ⟨(0,List.replicate p.preds.xs.length 0),⟨rfl,rfl,rfl,rfl,rfl,trivial⟩,I,Ng.zero _ _,fun i=>by rw[LZ];omega,fun _=>by rw[Vn];omega,by omega⟩ ?_
 rintro⟨rd,L⟩ e w ⟨I,g,hbd,hpot,hrd⟩;dsimp only at I g hbd hpot hrd ⊢;refine Abi<|Sr<|Ai Mv<|Ap (Abu At rfl)<|As0 (Ld I A7 1 0 1 rfl rfl rfl)<|Ai (AbA Aia rfl)<|Ap (Abu At rfl)<|As0 (Ld I A7 1 0 1 rfl rfl rfl)<|Ai (AbA Aia rfl)<|Ai (AdQ rfl rfl (by rw[←hsq];exact⟨by omega,by omega⟩))<|Ai (Ad9 rfl rfl (by rw[←hsq];exact⟨by omega,by omega⟩))<|Ad (AcD rfl rfl)<|Abh ?_;refine Abl rfl (fun h3=>?_) (fun h3=>?_)
 ·rw[←hsq] at h3;refine Abk<|Abi<|WP.block<|Sr<|Ab Ag<|Abh<|Abi<|Sr<|Ai Ag<|Abh<|WP.block ?_;refine Abx (σ:=Nat×Bool×List Int) (fun s=>[(1,Pt b1),(2,.slice none 0 0),(3,.bool false),(4,.slice (some ⟨b14,0,none⟩) p.preds.xs.length p.preds.xs.length),(5,.int .i64 rd),(6,.bool s.2.1),(7,.int .i64 s.1)])
   (fun s w=>Inv B B.h [box b14 (s.2.2.map vI) 3,box b1 p.enc 25] w∧s.1≤p.rules.xs.length∧SM (AX p.rules.xs) p.preds.xs.length L s.2.1 s.2.2 (AX (p.rules.xs.take s.1))∧∀i,lv s.2.2 i≤24*rd+3*s.1)
   (fun s=>p.rules.xs.length-s.1) ⟨(0,true,L),⟨rfl,rfl,rfl,rfl,rfl,rfl,rfl,trivial⟩,I,Afa _,Aef g,fun i=>by have:=hbd i;dsimp only;omega⟩ ?_
  rintro⟨m,same,L1⟩ e w ⟨I,hm,pa,hb1⟩;dsimp only at I hm pa hb1 ⊢;refine Abi<|Sr<|Ai Mv<|Ap (Abr AU rfl)<|As0 (Ld I Cc 1 1 1 rfl rfl rfl)<|Ai (AbA Aic rfl)<|Ad (AbC rfl rfl)<|Abh ?_;refine Abl rfl (fun h7=>?_) (fun h7=>?_)
  ·have hm':m<p.rules.xs.length:=by omega
   have E1:=hp.rules.is.at hm';have hbd2:=(hp.rules.each _ (Ae5 hm')).body;have hb3':=hb3 _ (Ae5 hm');refine Abk<|Abi<|WP.block<|Sr<|Ap (Abr AU rfl)<|As0 (Ld I Cc 1 1 1 rfl rfl rfl)<|Ai Mv<|Ap (Ix E1 Aic Aiv rfl rfl)<|AbB (v:=.agg #[_,_,_,_,_]) (Abn C0 rfl (I.rd (E1.rd.part 0 5)) rfl rfl)<|Abj (O.alloc I Aip rfl fun b8 w I=>Abj (Ab3 (v:=.agg #[_,_,_,_,_]) I C0 0 rfl rfl rfl rfl rfl rfl (Nb rfl) rfl fun w I=>Abh<|Sr<|Ai Ag<|Abh<|WP.block ?_));refine Abx (σ:=Nat×Bool×List Int) (fun s=>[(1,Pt b1),(2,.slice none 0 0),(3,.bool false),(4,.slice (some ⟨b14,0,none⟩) p.preds.xs.length p.preds.xs.length),(5,.int .i64 rd),(6,.bool s.2.1),(7,.int .i64 m),(8,Pt b8),(9,.int .i64 s.1)])
    (fun s w=>Inv B B.h [box b8 p.rules.xs[m].enc 64,box b14 (s.2.2.map vI) 3,box b1 p.enc 25] w∧s.1≤p.rules.xs[m].body.xs.length∧SM (AX p.rules.xs) p.preds.xs.length L s.2.1 s.2.2 (AX (p.rules.xs.take m)++(p.rules.xs[m].body.xs.take s.1).map fun x=>(p.rules.xs[m].head.pred,x))∧∀i,lv s.2.2 i≤24*rd+3*m+s.1)
    (fun s=>p.rules.xs[m].body.xs.length-s.1) ⟨(0,same,L1),⟨rfl,rfl,rfl,rfl,rfl,rfl,rfl,rfl,rfl,trivial⟩,I,Afa _,by simpa using pa,fun i=>by have:=hb1 i;dsimp only;omega⟩ ?_
   rintro⟨k,same2,L2⟩ e w ⟨I,hk,pa2,hb2⟩;dsimp only at I hk pa2 hb2 ⊢;refine Abi<|Sr<|Ai Mv<|Ap (Abr AG rfl)<|As0 (Ld I Bi 0 4 1 rfl rfl rfl)<|Ai (AbA Aib rfl)<|Ad (AbC rfl rfl)<|Abh ?_;refine Abl rfl (fun h11=>?_) (fun h11=>?_)
   ·have hk':k<p.rules.xs[m].body.xs.length:=by omega
    have E2:=hbd2.is.at hk';have hmem:=S8 hm' hk';have hh:=hr.h _ hmem;have hb:=hr.b _ hmem;dsimp only at hh hb;have g2:=pa2.good;have hlb:=hb2 p.rules.xs[m].body.xs[k].atom.pred;have hpb:=g2.pos p.rules.xs[m].body.xs[k].atom.pred;have hng:=OH p.rules.xs[m].body.xs[k];have hlst:lst L2 (p.rules.xs[m].head.pred,p.rules.xs[m].body.xs[k])=lv L2 p.rules.xs[m].body.xs[k].atom.pred+ng p.rules.xs[m].body.xs[k]:=rfl;refine Abk<|Abi<|WP.block<|Sr<|As0 Mv<|Ap (Abr AG rfl)<|As0 (Ld I Bi 0 4 1 rfl rfl rfl)<|Ai Mv<|Ap (Ix E2 Aib Ail rfl rfl)<|Ap (Abr Bk rfl)<|Ap (Abu AW rfl)<|Ai (Abn An rfl (I.rd (E2.rd.part 1 1)) rfl rfl)<|Ap (Acy Aie Aij rfl rfl hb.1 hb.2)<|Ai (Abn An rfl (I.w9 1 rfl (by omega) (DG g2.len hb.1 hb.2)) rfl rfl)<|Ai Ag<|Abh<|Abi ?_;refine Ack (σ:=Unit) (fun _=>[(1,Pt b1),(2,.slice none 0 0),(3,.bool false),(4,.slice (some ⟨b14,0,none⟩) p.preds.xs.length p.preds.xs.length),(5,.int .i64 rd),(6,.bool same2),(7,.int .i64 m),(8,Pt b8),(9,.int .i64 k),(10,.int .i64 (lst L2 (p.rules.xs[m].head.pred,p.rules.xs[m].body.xs[k])))])
     (fun _ w=>Inv B B.h [box b8 p.rules.xs[m].enc 64,box b14 (L2.map vI) 3,box b1 p.enc 25] w) ?_ ?_
    ·refine Sr<|Ap (Abr AG rfl)<|As0 (Ld I Bi 0 4 1 rfl rfl rfl)<|Ai Mv<|Ap (Ix E2 Aib Ail rfl rfl)<|Ap (Abu BK rfl)<|Ab (Abn Br rfl (I.rd (E2.rd.part 0 1)) rfl rfl)<|Abh ?_;refine AbG rfl (fun hneg=>?_) (fun hneg=>?_)
     ·refine Abg<|Ai Mv<|Ai (Dd rfl rfl)<|Ai Ag<|Abh ?_;exact⟨(),⟨rfl,rfl,rfl,rfl,rfl,rfl,rfl,rfl,rfl,by simp only[lst,ng,hneg];rfl,trivial⟩,I⟩
     ·refine Abk ?_;exact⟨(),⟨rfl,rfl,rfl,rfl,rfl,rfl,rfl,rfl,rfl,by simp only[lst,ng,hneg,Afy,if_false,Int.add_zero];rfl,trivial⟩,I⟩
    rintro _ e w I;refine Sr<|As0 Mv<|Ap (Abu Bw rfl)<|Ap (Abu AW rfl)<|Ai (Ld I An 0 0 1 rfl rfl rfl)<|Ap (Acy Aie Aij rfl rfl hh.1 hh.2)<|Ai (Abn An rfl (I.w9 1 rfl (by omega) (DG g2.len hh.1 hh.2)) rfl rfl)<|Ai Mv<|Ad (AbC rfl rfl)<|Abh ?_;refine Abl rfl (fun h16=>?_) (fun h16=>?_)
    ·refine Sr<|As0 Mv<|Ap (Abu Bw rfl)<|Ap (Abu AW rfl)<|Ai (Ld I An 0 0 1 rfl rfl rfl)<|Ai Mv<|Ap (Acy Aie Aij rfl rfl hh.1 hh.2)<|Abj (AcQ I An 1 rfl rfl (i:=p.rules.xs[m].head.pred.toNat) (by omega) (by rw[g2.len];omega) rfl rfl rfl fun w I=>Abh<|Abg<|Ab Ag<|Abh<|Abg<|Ai Mv<|Ai (Dd rfl rfl)<|Ai Ag<|Abh ?_);exact⟨(k+1,false,L2.set p.rules.xs[m].head.pred.toNat (lst L2 (p.rules.xs[m].head.pred,p.rules.xs[m].body.xs[k]))),⟨⟨rfl,rfl,rfl,rfl,rfl,rfl,rfl,rfl,rfl,trivial⟩,I,hk',by rw[map_take _ hk',←Afe];exact pa2.raise hr hmem h16,fun i=>by have:=OI hr g2.len hb2 hmem i;dsimp only at this ⊢;omega⟩,by dsimp only;omega⟩
    ·refine Abk<|Abg<|Ai Mv<|Ai (Dd rfl rfl)<|Ai Ag<|Abh ?_;exact⟨(k+1,same2,L2),⟨⟨rfl,rfl,rfl,rfl,rfl,rfl,rfl,rfl,rfl,trivial⟩,I,hk',by rw[map_take _ hk',←Afe];exact pa2.keep h16,fun i=>by have:=hb2 i;dsimp only at this ⊢;omega⟩,by dsimp only;omega⟩
   ·refine Abz<|Abg<|Ai Mv<|Ai (Dd rfl rfl)<|Ai Ag<|Abh ?_;have hke:k=p.rules.xs[m].body.xs.length:=by omega
    exact⟨(m+1,same2,L2),⟨⟨rfl,rfl,rfl,rfl,rfl,rfl,rfl,trivial⟩,I.drop,hm',by rw[OQ hm',←hke];exact pa2,fun i=>by have:=hb2 i;dsimp only at this ⊢;omega⟩,by dsimp only;omega⟩
  ·have hme:m=p.rules.xs.length:=by omega
   rw[hme,Afo] at pa;refine Abz<|Sr<|Ab Mv<|Abh ?_;refine AbG rfl (fun hs=>?_) (fun hs=>?_)
   ·refine Sr<|As0 Mv<|As0 Ag<|Ab Ag<|Abh ?_;obtain⟨hL,hsat⟩:=pa.t hs;have hbo:=I.at 0 rfl;obtain⟨h4,le4,hb4,I⟩:=I.settle;refine Wr ?_;exact BH.mk (vs:=[.slice _ _ _,.bool _]) rfl ⟨rfl,rfl,trivial⟩ I.j5 (.inl ⟨⟨some ⟨b14,0,none⟩,p.preds.xs.length,L1⟩,pa.good.done (by rw[hL];exact hsat),X9 ((hb4 b14 (by simp[box])).trans hbo) (by rw[pa.good.len];omega),by simp[tup,Sl.val,pa.good.len]⟩)
   ·refine Abk<|Abg<|Ai Mv<|Ai (Dd rfl rfl)<|Ai Ag<|Abh ?_;refine⟨(rd+1,L1),⟨⟨rfl,rfl,rfl,rfl,rfl,trivial⟩,I,pa.good,fun i=>by have:=hb1 i;dsimp only at this ⊢;omega,fun hsol=>by have h5:=pa.f hs hsol;have h6:=hpot hsol;dsimp only;omega,by dsimp only;omega⟩,by dsimp only;omega⟩
 ·rw[←hsq] at h3;refine Abz<|Sr<|As0 Ag<|Ab Ag<|Abh<|Wr ?_;exact BH.mk (vs:=[.slice _ _ _,.bool _]) rfl ⟨rfl,rfl,trivial⟩ I.j5 (.inr ⟨fun M hM=>by have:=hpot ⟨M,hM⟩;omega,rfl⟩)
end
section
set_option maxHeartbeats 1000000
set_option maxRecDepth 10000
theorem Lc(B:Aq)(hB:B.ok)(a b:Int)(h:I64 (a+b)):Fn prog 236 [.int .i64 a,.int .i64 b] B (fun v _=>v=.int .i64 (min (a+b) 15)):=by
 obtain⟨h1,h2⟩:=h;refine Fo hB func236 rfl ntmps236 fun e I=>Sr<|Ai Ag<|Abh<|Sr<|Ai Mv<|Ai Mv<|Ai (Dd rfl rfl)<|Ai (Y.min2 rfl rfl)<|Ai Ag<|Abh<|Wr ?_;exact Rm (v:=.int .i64 _) rfl rfl I (rfl)
theorem Lf(B:Aq)(hB:B.ok)(a b:Int):Fn prog 237 [.int .i64 a,.int .i64 b] B (fun v _=>v=.int .i64 (orI a b)):=by
 refine Fo hB func237 rfl ntmps237 fun e I=>Sr<|Ai Ag<|Abh<|Sr<|Ai Mv<|Ai Mv<|Ai (Aev rfl rfl)<|Ai Ag<|Abh<|Wr ?_;exact Rm (v:=.int .i64 _) rfl rfl I (rfl)
theorem Lg(B:Aq)(hB:B.ok)(a b:Int):Fn prog 238 [.int .i64 a,.int .i64 b] B (fun v _=>v=.int .i64 0):=by
 refine Fo hB func238 rfl ntmps238 fun e I=>Sr<|Ai Ag<|Abh<|Sr<|Ai Ag<|Abh<|Wr ?_;exact Rm (v:=.int .i64 _) rfl rfl I (rfl)
theorem Rl(B:Aq)(hB:B.ok)(a b:Int):Fn prog 239 [.int .i64 a,.int .i64 b] B (fun v _=>v=.int .i64 (max a b)):=by
 refine Fo hB func239 rfl ntmps239 fun e I=>Sr<|Ai Ag<|Abh<|Sr<|Ai Mv<|Ai Mv<|Ai (Y.max2 rfl rfl)<|Ai Ag<|Abh<|Wr ?_;exact Rm (v:=.int .i64 _) rfl rfl I (rfl)
theorem Rn(B:Aq)(hB:B.ok)(a b:Int):Fn prog 240 [.int .i64 a,.int .i64 b] B (fun v _=>v=.int .i64 (min a b)):=by
 refine Fo hB func240 rfl ntmps240 fun e I=>Sr<|Ai Ag<|Abh<|Sr<|Ai Mv<|Ai Mv<|Ai (Y.min2 rfl rfl)<|Ai Ag<|Abh<|Wr ?_;exact Rm (v:=.int .i64 _) rfl rfl I (rfl)
def fv(f:Nat):Value:=.func (.func f) #[] #[]
theorem Db(B:Aq)(hB:B.ok):Fn prog 223 [] B (fun v _=>v=.agg #[fv 238,fv 238,fv 239,fv 236,fv 240,fv 236,fv 237,fv 237]):=by
 refine Fo hB func223 rfl ntmps223 fun e I=>Sr<|Abj (O.alloc I zeroValue250 rfl fun b0 w I=>Abh<|Sr<|Af Ag<|Abh<|Sr<|Af Ag<|Abh<|Sr<|Af Ag<|Abh<|Sr<|Af Mv<|Af Mv<|AbB (v:=.agg #[.func _ _ _,.func _ _ _]) (Y.build Pr zeroValue249 rfl rfl)<|Af Mv<|AbB (v:=.agg #[.func _ _ _,.func _ _ _]) (Y.build Pr zeroValue249 rfl rfl)<|Af Mv<|AbB (v:=.agg #[.func _ _ _,.func _ _ _]) (Y.build Pr zeroValue249 rfl rfl)<|Af Mv<|Af Mv<|AbB (v:=.agg #[.func _ _ _,.func _ _ _]) (Y.build Pr zeroValue249 rfl rfl)<|AbB (v:=.agg #[.func _ _ _,.func _ _ _,.func _ _ _,.func _ _ _,.func _ _ _,.func _ _ _,.func _ _ _,.func _ _ _]) (AcW AiD zeroValue250 sizeOf249 rfl rfl)<|Abj (Ab3 (v:=.agg #[_,_,_,_,_,_,_,_]) I Xk 0 rfl rfl rfl rfl rfl rfl (Nb rfl) rfl fun w I=>Abh<|Wr ?_));exact BH.mk (vs:=[.agg #[_,_,_,_,_,_,_,_]]) rfl ⟨⟨_,_,_,_,_,rfl,Xk,I.l5 0 rfl 0 8,rfl,rfl⟩,trivial⟩ I.j5 (rfl)
theorem A2(B:Aq)(hB:B.ok)(n lo hi:Int):Fn prog 42 [.int .i64 n,.int .i64 lo,.int .i64 hi] B (fun v _=>v=.bool (decide (within n lo hi))):=by
 by_cases h1:lo≤n
 ·refine Fo hB func42 rfl ntmps42 fun e I=>Sr<|Ab Ag<|Abh<|Sr<|Ai Mv<|Ai Mv<|AT (Abs (AbZ rfl rfl) (h1))<|Ab Mv<|Gi Mv<|Gi Mv<|Gd (AcD rfl rfl)<|Ab (Abo rfl rfl)<|Ab Ag<|Abh<|Wr ?_;exact Rm (v:=.bool _) rfl rfl I (by simp[tup,within,h1])
 ·refine Fo hB func42 rfl ntmps42 fun e I=>Sr<|Ab Ag<|Abh<|Sr<|Ai Mv<|Ai Mv<|AF (Abt (AbZ rfl rfl) (h1))<|Ab Mv<|Gg<|Gg<|Gg<|Ab (Abp rfl rfl)<|Ab Ag<|Abh<|Wr ?_;exact Rm (v:=.bool _) rfl rfl I (by simp[tup,within,h1])
theorem VI(B:Aq)(hB:B.ok)(kind v:Int):Fn prog 156 [.int .i64 kind,.int .i64 v] B (fun r _=>r=.int .i64 (checkVal kind v)):=by
 refine Fo hB func156 rfl ntmps156 fun e I=>Sr<|Ai Ag<|Abh<|Sr<|Ai Ag<|Abh<|Abi<|Sr<|Ai Mv<|Abh ?_;refine Acc (σ:=Unit) (fun _=>[(1,.int .i64 v),(5,.int .i64 (if kind=0 then 0 else 15))]) (fun _ w'=>Inv B B.h [] w'∧0≤kind∧kind≤3) ?_ ?_
 ·refine WP.block<|Sr<|Ad (AbI rfl rfl)<|Ab Ag<|Abh ?_;refine Abl rfl (fun h0=>?_) (fun h0=>?_)
  ·refine Abg<|Ai Ag<|Abh ?_;exact⟨(),⟨rfl,by show Value.int .i64 0=_;simp[h0],trivial⟩,I,by omega,by omega⟩
  have hz:(if kind=0 then (0:Int) else 15)=15:=by simp[h0]
  refine Abi<|Sr<|Ad (AbI rfl rfl)<|Ab Ag<|Abh ?_;refine Abl rfl (fun h1=>?_) (fun h1=>?_)
  ·refine Abk<|Aco rfl (h1)<|Abk ?_;exact⟨(),⟨rfl,by rw[hz];rfl,trivial⟩,I,by omega,by omega⟩
  refine Sr<|Ad (AbI rfl rfl)<|Ab Ag<|Abh ?_;refine Abl rfl (fun h2=>?_) (fun h2=>?_)
  ·refine Abk<|Aco rfl (h2)<|Abk ?_;exact⟨(),⟨rfl,by rw[hz];rfl,trivial⟩,I,by omega,by omega⟩
  refine Abg<|Ad (AbI rfl rfl)<|Ab Ag<|Abh ?_;refine Abl rfl (fun h3=>?_) (fun h3=>?_)
  ·refine Abk ?_;exact⟨(),⟨rfl,by rw[hz];rfl,trivial⟩,I,by omega,by omega⟩
  refine Sr<|Ai Ag<|Abh<|Wr ?_;exact Rm (v:=.int .i64 _) rfl rfl I (by simp[tup,checkVal];omega)
 rintro _ e w ⟨I,hk0,hk3⟩;by_cases hv:v<0
 ·refine Abi<|Sr<|Ai Mv<|AT (Abs (AbC rfl rfl) (hv))<|Ab Mv<|Gg<|Gg<|Gg<|Ab (Abo rfl rfl)<|Abh<|Abw rfl<|Sr<|Ai Ag<|Abh<|Wr ?_;exact Rm (v:=.int .i64 _) rfl rfl I (by simp[tup,checkVal];omega)
 refine Abi<|Sr<|Ai Mv<|AF (Abt (AbC rfl rfl) (hv))<|Ab Mv<|Gi Mv<|Gi Mv<|Gd (AbL rfl rfl)<|Ab (Abp rfl rfl)<|Abh ?_;refine Abl rfl (fun h2=>?_) (fun h2=>?_)
 ·refine Sr<|Ai Ag<|Abh<|Wr ?_;exact Rm (v:=.int .i64 _) rfl rfl I (by simp only[tup,checkVal];split at h2<;>simp<;>omega)
 refine Abk<|Sr<|Ai Ag<|Abh<|Wr ?_;exact Rm (v:=.int .i64 _) rfl rfl I (by simp only[tup,checkVal];split at h2<;>simp<;>omega)
theorem GM(B:Aq)(hB:B.ok)(kind v:Int):Fn prog 159 [.int .i64 kind,.int .i64 v] B (fun r _=>r=.int .i64 (checkVal kind v)):=by
 refine Fo hB func159 rfl ntmps159 fun e I=>Sr<|Ai Ag<|Abh<|Abi<|Sr<|Ai Mv<|Abj (Abm I call42 (A2 _ I.j6 _ _ _) rfl fun w I=>Ad (Ac3 rfl)<|Abh ?_);refine Abl rfl (fun h1=>?_) (fun h1=>?_)
 ·refine Sr<|Ai Ag<|Abh<|Wr ?_;exact Rm (v:=.int .i64 _) rfl rfl I (by simp only[tup,checkVal,within] at *;rw[if_pos (by omega)])
 simp only[within] at h1;by_cases h2:kind=0
 ·by_cases h3:v=0
  ·refine Abk<|Abi<|Sr<|Ai Mv<|AT (Abs (AbI rfl rfl) (h2))<|Ab Mv<|Gi Mv<|GF (Abt (AbK rfl rfl) ((by simpa using h3)))<|Ab (Abo rfl rfl)<|Ab Mv<|Gi Mv<|Ab8 rfl (Abm I call42 (A2 _ I.j6 _ _ _) rfl fun w I=>Gd (Ac3 rfl)<|Ab (Abp rfl rfl)<|Abh ?_);refine Abl rfl (fun h4=>?_) (fun h4=>?_)
   ·refine Sr<|Ai Ag<|Abh<|Wr ?_;exact Rm (v:=.int .i64 _) rfl rfl I (by simp only[tup,checkVal,within] at *;omega)
   refine Abk<|Sr<|Ai Ag<|Abh<|Wr ?_;exact Rm (v:=.int .i64 _) rfl rfl I (by simp only[tup,checkVal,within] at *;rw[if_neg (by omega),if_neg (by omega)])
  ·refine Abk<|Abi<|Sr<|Ai Mv<|AT (Abs (AbI rfl rfl) (h2))<|Ab Mv<|Gi Mv<|GT (Abs (AbK rfl rfl) (h3))<|Ab (Abo rfl rfl)<|Ab Mv<|Gg<|Gg<|Gg<|Ab (Abo rfl rfl)<|Abh<|Abw rfl<|Sr<|Ai Ag<|Abh<|Wr ?_;exact Rm (v:=.int .i64 _) rfl rfl I (by simp only[tup,checkVal];rw[if_neg (by omega),if_pos (by omega)])
 ·refine Abk<|Abi<|Sr<|Ai Mv<|AF (Abt (AbI rfl rfl) (h2))<|Ab Mv<|Gg<|Gg<|Ab (Abp rfl rfl)<|Ab Mv<|Gi Mv<|Ab8 rfl (Abm I call42 (A2 _ I.j6 _ _ _) rfl fun w I=>Gd (Ac3 rfl)<|Ab (Abp rfl rfl)<|Abh ?_);refine Abl rfl (fun h4=>?_) (fun h4=>?_)
  ·refine Sr<|Ai Ag<|Abh<|Wr ?_;exact Rm (v:=.int .i64 _) rfl rfl I (by simp only[tup,checkVal,within] at *;rw[if_neg (by omega),if_pos (by omega)])
  refine Abk<|Sr<|Ai Ag<|Abh<|Wr ?_;exact Rm (v:=.int .i64 _) rfl rfl I (by simp only[tup,checkVal,within] at *;rw[if_neg (by omega),if_neg (by omega)])
theorem VJ(B:Aq)(hB:B.ok)(kind a b:Int):Fn prog 196 [.int .i64 kind,.int .i64 a,.int .i64 b] B (fun r _=>r=.int .i64 (joinV kind a b)):=by
 by_cases h1:kind=1
 ·by_cases h2:b<a
  ·refine Fo hB func196 rfl ntmps196 fun e I=>Sr<|Ai Ag<|Abh<|Abi<|WP.block<|Abi<|Sr<|Ai Mv<|AT (Abs (AbI rfl rfl) (h1))<|Ab Mv<|Gi Mv<|Gi Mv<|GT (Abs (AbL rfl rfl) (h2))<|Ab (Abo rfl rfl)<|Ab Ag<|Abh<|Abw rfl<|Abk<|Abw rfl<|Sr<|Ai Mv<|Ai Ag<|Abh<|Wr ?_;exact Rm (v:=.int .i64 _) rfl rfl I (by simp only[tup,joinV,h1];simp;omega)
  ·refine Fo hB func196 rfl ntmps196 fun e I=>Sr<|Ai Ag<|Abh<|Abi<|WP.block<|Abi<|Sr<|Ai Mv<|AT (Abs (AbI rfl rfl) (h1))<|Ab Mv<|Gi Mv<|Gi Mv<|GF (Abt (AbL rfl rfl) (h2))<|Ab (Abo rfl rfl)<|Ab Ag<|Abh<|Abq rfl<|Abg<|Ai Mv<|AF (Abt (AbI rfl rfl) ((by omega)))<|Ab Mv<|Gg<|Gg<|Gg<|Ab (Abp rfl rfl)<|Ab Ag<|Abh<|Abq rfl<|Abi<|Sr<|Ai Mv<|Ad (AbI rfl rfl)<|Ab Ag<|Abh<|Aco rfl (h1)<|Abk<|Aco rfl (h1)<|Sr<|Ai Mv<|Ai Ag<|Abh<|Wr ?_;exact Rm (v:=.int .i64 _) rfl rfl I (by simp only[tup,joinV,h1];simp;omega)
 ·by_cases h2:kind=2
  ·by_cases h3:a<b
   ·refine Fo hB func196 rfl ntmps196 fun e I=>Sr<|Ai Ag<|Abh<|Abi<|WP.block<|Abi<|Sr<|Ai Mv<|AF (Abt (AbI rfl rfl) (h1))<|Ab Mv<|Gg<|Gg<|Gg<|Ab (Abp rfl rfl)<|Ab Ag<|Abh<|Abq rfl<|Abg<|Ai Mv<|AT (Abs (AbI rfl rfl) (h2))<|Ab Mv<|Gi Mv<|Gi Mv<|GT (Abs (AbC rfl rfl) (h3))<|Ab (Abo rfl rfl)<|Ab Ag<|Abh<|Abw rfl<|Sr<|Ai Mv<|Ai Ag<|Abh<|Wr ?_;exact Rm (v:=.int .i64 _) rfl rfl I (by simp only[tup,joinV,h2];simp;omega)
   ·refine Fo hB func196 rfl ntmps196 fun e I=>Sr<|Ai Ag<|Abh<|Abi<|WP.block<|Abi<|Sr<|Ai Mv<|AF (Abt (AbI rfl rfl) (h1))<|Ab Mv<|Gg<|Gg<|Gg<|Ab (Abp rfl rfl)<|Ab Ag<|Abh<|Abq rfl<|Abg<|Ai Mv<|AT (Abs (AbI rfl rfl) (h2))<|Ab Mv<|Gi Mv<|Gi Mv<|GF (Abt (AbC rfl rfl) (h3))<|Ab (Abo rfl rfl)<|Ab Ag<|Abh<|Abq rfl<|Abi<|Sr<|Ai Mv<|Ad (AbI rfl rfl)<|Ab Ag<|Abh<|Ach rfl (h1)<|Abg<|Ai Mv<|Ad (AbI rfl rfl)<|Ab Ag<|Abh<|Aco rfl (h2)<|Sr<|Ai Mv<|Ai Ag<|Abh<|Wr ?_;exact Rm (v:=.int .i64 _) rfl rfl I (by simp only[tup,joinV,h2];simp;omega)
  ·refine Fo hB func196 rfl ntmps196 fun e I=>Sr<|Ai Ag<|Abh<|Abi<|WP.block<|Abi<|Sr<|Ai Mv<|AF (Abt (AbI rfl rfl) (h1))<|Ab Mv<|Gg<|Gg<|Gg<|Ab (Abp rfl rfl)<|Ab Ag<|Abh<|Abq rfl<|Abg<|Ai Mv<|AF (Abt (AbI rfl rfl) (h2))<|Ab Mv<|Gg<|Gg<|Gg<|Ab (Abp rfl rfl)<|Ab Ag<|Abh<|Abq rfl<|Abi<|Sr<|Ai Mv<|Ad (AbI rfl rfl)<|Ab Ag<|Abh<|Ach rfl (h1)<|Abg<|Ai Mv<|Ad (AbI rfl rfl)<|Ab Ag<|Abh<|Ach rfl (h2)<|Sr<|Ai Mv<|Ad (AbI rfl rfl)<|Ab Ag<|Abh ?_;refine Abl rfl (fun h3=>?_) (fun h3=>?_)
   ·refine Sr<|Ai Mv<|Ai Mv<|Ai (Aev rfl rfl)<|Ai Ag<|Abh<|Wr ?_;exact Rm (v:=.int .i64 _) rfl rfl I (by simp[tup,joinV,h3])
   refine Abk<|Sr<|Ai Ag<|Abh<|Wr ?_;exact Rm (v:=.int .i64 _) rfl rfl I (by simp[tup,joinV,h1,h2,h3])
theorem VK(B:Aq)(hB:B.ok)(kind a b:Int)(hr:I64 (a+b)):Fn prog 195 [.int .i64 kind,.int .i64 a,.int .i64 b] B (fun r _=>r=.int .i64 (liftV kind a b)):=by
 obtain⟨hr1,hr2⟩:=hr;refine Fo hB func195 rfl ntmps195 fun e I=>Sr<|Ai Ag<|Abh<|Abi<|WP.block<|Sr<|Ai Mv<|Ad (AbI rfl rfl)<|Ab Ag<|Abh ?_;refine Abl rfl (fun h1=>?_) (fun h1=>?_)
 ·refine Sr<|Ai Ag<|Abh<|Wr ?_;exact Rm (v:=.int .i64 _) rfl rfl I (by simp[tup,liftV,h1])
 refine Sr<|Ai Mv<|Ad (AbI rfl rfl)<|Ab Ag<|Abh ?_;refine Abl rfl (fun h2=>?_) (fun h2=>?_)
 ·refine Sr<|Ai Mv<|Ai Mv<|Ai (Aev rfl rfl)<|Ai Ag<|Abh<|Wr ?_;exact Rm (v:=.int .i64 _) rfl rfl I (by simp[tup,liftV,h2])
 refine Sr<|Ai Mv<|Ai Mv<|Ai (Dd rfl rfl)<|Ad (AbL rfl rfl)<|Ab Ag<|Abh ?_;refine Abl rfl (fun h3=>?_) (fun h3=>?_)
 ·refine Sr<|Ai Ag<|Abh<|Wr ?_;exact Rm (v:=.int .i64 _) rfl rfl I (by simp only[tup,liftV,h1,h2];simp;omega)
 refine Abk<|Sr<|Ai Mv<|Ai Mv<|Ai (Dd rfl rfl)<|Ai Ag<|Abh<|Wr ?_;exact Rm (v:=.int .i64 _) rfl rfl I (by simp only[tup,liftV,h1,h2];simp;omega)
theorem Xy{k:Int}(h:0≤k∧k≤3):k=0∨k=1∨k=2∨k=3:=by omega
theorem S9(B:Aq)(hB:B.ok)(kind a b:Int)(hk:0≤kind∧kind≤3):Fn prog 177 [.int .i64 kind,.int .i64 a,.int .i64 b] B (fun r _=>r=.int .i64 (joinV kind a b)):=by
 refine Fo hB func177 rfl ntmps177 fun e I=>Sr<|Ai Ag<|Abh ?_;rcases Xy hk with rfl|rfl|rfl|rfl
 ·refine Sr<|Abj (Abm I call223 (Db _ I.j6) rfl fun w I=>Ai Mv<|Ax (AcG AiD Ip rfl rfl (by decide) (by decide) rfl rfl rfl)<|Af (Y.field II Io rfl rfl rfl rfl)<|Ai Mv<|Ai Mv<|Abj (AcT I call238 rfl (Lg _ I.j6 _ _) rfl ?_));rintro _ h w I hle rfl;refine Ai Ag<|Abh<|Wr ?_;exact Rm (v:=.int .i64 _) rfl rfl I (rfl)
 ·refine Sr<|Abj (Abm I call223 (Db _ I.j6) rfl fun w I=>Ai Mv<|Ax (AcG AiD Ip rfl rfl (by decide) (by decide) rfl rfl rfl)<|Af (Y.field II Io rfl rfl rfl rfl)<|Ai Mv<|Ai Mv<|Abj (AcT I call239 rfl (Rl _ I.j6 _ _) rfl ?_));rintro _ h w I hle rfl;refine Ai Ag<|Abh<|Wr ?_;exact Rm (v:=.int .i64 _) rfl rfl I (rfl)
 ·refine Sr<|Abj (Abm I call223 (Db _ I.j6) rfl fun w I=>Ai Mv<|Ax (AcG AiD Ip rfl rfl (by decide) (by decide) rfl rfl rfl)<|Af (Y.field II Io rfl rfl rfl rfl)<|Ai Mv<|Ai Mv<|Abj (AcT I call240 rfl (Rn _ I.j6 _ _) rfl ?_));rintro _ h w I hle rfl;refine Ai Ag<|Abh<|Wr ?_;exact Rm (v:=.int .i64 _) rfl rfl I (rfl)
 ·refine Sr<|Abj (Abm I call223 (Db _ I.j6) rfl fun w I=>Ai Mv<|Ax (AcG AiD Ip rfl rfl (by decide) (by decide) rfl rfl rfl)<|Af (Y.field II Io rfl rfl rfl rfl)<|Ai Mv<|Ai Mv<|Abj (AcT I call237 rfl (Lf _ I.j6 _ _) rfl ?_));rintro _ h w I hle rfl;refine Ai Ag<|Abh<|Wr ?_;exact Rm (v:=.int .i64 _) rfl rfl I (rfl)
theorem Ta(B:Aq)(hB:B.ok)(kind a b:Int)(hk:0≤kind∧kind≤3)(hr:I64 (a+b)):Fn prog 220 [.int .i64 kind,.int .i64 a,.int .i64 b] B (fun r _=>r=.int .i64 (liftV kind a b)):=by
 refine Fo hB func220 rfl ntmps220 fun e I=>Sr<|Ai Ag<|Abh ?_;rcases Xy hk with rfl|rfl|rfl|rfl
 ·refine Sr<|Abj (Abm I call223 (Db _ I.j6) rfl fun w I=>Ai Mv<|Ax (AcG AiD Ip rfl rfl (by decide) (by decide) rfl rfl rfl)<|Af (Y.field IJ Io rfl rfl rfl rfl)<|Ai Mv<|Ai Mv<|Abj (AcT I call238 rfl (Lg _ I.j6 _ _) rfl ?_));rintro _ h w I hle rfl;refine Ai Ag<|Abh<|Wr ?_;exact Rm (v:=.int .i64 _) rfl rfl I (rfl)
 ·refine Sr<|Abj (Abm I call223 (Db _ I.j6) rfl fun w I=>Ai Mv<|Ax (AcG AiD Ip rfl rfl (by decide) (by decide) rfl rfl rfl)<|Af (Y.field IJ Io rfl rfl rfl rfl)<|Ai Mv<|Ai Mv<|Abj (AcT I call236 rfl (Lc _ I.j6 _ _ hr) rfl ?_));rintro _ h w I hle rfl;refine Ai Ag<|Abh<|Wr ?_;exact Rm (v:=.int .i64 _) rfl rfl I (rfl)
 ·refine Sr<|Abj (Abm I call223 (Db _ I.j6) rfl fun w I=>Ai Mv<|Ax (AcG AiD Ip rfl rfl (by decide) (by decide) rfl rfl rfl)<|Af (Y.field IJ Io rfl rfl rfl rfl)<|Ai Mv<|Ai Mv<|Abj (AcT I call236 rfl (Lc _ I.j6 _ _ hr) rfl ?_));rintro _ h w I hle rfl;refine Ai Ag<|Abh<|Wr ?_;exact Rm (v:=.int .i64 _) rfl rfl I (rfl)
 ·refine Sr<|Abj (Abm I call223 (Db _ I.j6) rfl fun w I=>Ai Mv<|Ax (AcG AiD Ip rfl rfl (by decide) (by decide) rfl rfl rfl)<|Af (Y.field IJ Io rfl rfl rfl rfl)<|Ai Mv<|Ai Mv<|Abj (AcT I call237 rfl (Lf _ I.j6 _ _) rfl ?_));rintro _ h w I hle rfl;refine Ai Ag<|Abh<|Wr ?_;exact Rm (v:=.int .i64 _) rfl rfl I (rfl)
end
section
theorem ZJ{s:ByteArray}{k:Nat}(h:k<s.size):s[((k:Int)).toNat]?=some (s[k]'h):=by simp[h]
theorem H5(b:UInt8):KZ b=true↔97≤b.toNat∧b.toNat≤122:=by simp[KZ]
theorem Tc{s:ByteArray}(h:∀j,∀hj:j<s.size,KZ (s[j]'hj)=true):s.data.toList.all KZ=true:=by
 rw[Aff];intro b hb;obtain⟨j,hj,rfl⟩:=Afz hb;exact h j (by simpa using hj)
theorem L9{s:ByteArray}{j:Nat}(hj:j<s.size)(h:KZ (s[j]'hj)≠true):s.data.toList.all KZ=false:=by
 rw[AgI];exact⟨s[j]'hj,List.mem_iff_getElem.2 ⟨j,by simpa using hj,rfl⟩,h⟩
theorem Td(B:Aq)(hB:B.ok)(s:ByteArray)(hs:s.size≤140737488355328):Fn prog 41 [.string s] B (fun v _=>v=.bool (isName s)):=by
 refine Fo hB func41 rfl ntmps41 fun e I=>Sr<|Ab Ag<|Abh<|Abi<|Sr<|Ai Ag<|Abh<|WP.block ?_;refine Abx (σ:=Nat) (fun k=>[(0,.string s),(3,.int .i64 k)]) (fun k w=>Inv B B.h [] w∧k≤s.size∧∀j,j<k→∀hj:j<s.size,KZ (s[j]'hj)=true) (fun k=>s.size-k)
  ⟨0,⟨rfl,rfl,trivial⟩,I,Afa _,fun j hj=>by omega⟩ ?_
 rintro k e w ⟨I,hk,hn⟩;refine Abi<|Sr<|Ai Mv<|At0 Mv<|Ai (AbF Ah9 rfl)<|Ad (AbC rfl rfl)<|Abh ?_;refine Abl rfl (fun h=>?_) (fun h=>?_)
 ·have hk':k<s.size:=by omega
  refine Abk<|Abi<|WP.block<|Abi ?_;by_cases o0:((s[k]'hk').toNat:Int)<97
  ·refine Abg<|At0 Mv<|Ai Mv<|Aw (Aci Ah9 rfl rfl (AfR _) (ZJ hk'))<|AT (Abs (AbC rfl rfl) (o0))<|Ab Mv<|Gg<|Gg<|Gg<|Gg<|Ab (Abo rfl rfl)<|Abh<|Abw rfl<|Sr<|Ab Ag<|Abh<|Wr ?_;exact Rm (v:=.bool _) rfl rfl I (by simp only[tup,isName];rw[L9 hk' (fun hl=>by have:=(H5 _).1 hl;omega),Agz])
  by_cases o1:122<((s[k]'hk').toNat:Int)
  ·refine Abg<|At0 Mv<|Ai Mv<|Aw (Aci Ah9 rfl rfl (AfR _) (ZJ hk'))<|AF (Abt (AbC rfl rfl) (o0))<|Ab Mv<|Gt Mv<|Gi Mv<|Gw (Aci Ah9 rfl rfl (AfR _) (ZJ hk'))<|GT (Abs (AbL rfl rfl) (o1))<|Ab (Abp rfl rfl)<|Abh<|Abw rfl<|Sr<|Ab Ag<|Abh<|Wr ?_;exact Rm (v:=.bool _) rfl rfl I (by simp only[tup,isName];rw[L9 hk' (fun hl=>by have:=(H5 _).1 hl;omega),Agz])
  refine Abg<|At0 Mv<|Ai Mv<|Aw (Aci Ah9 rfl rfl (AfR _) (ZJ hk'))<|AF (Abt (AbC rfl rfl) (o0))<|Ab Mv<|Gt Mv<|Gi Mv<|Gw (Aci Ah9 rfl rfl (AfR _) (ZJ hk'))<|GF (Abt (AbL rfl rfl) (o1))<|Ab (Abp rfl rfl)<|Abh<|Abq rfl<|Abk<|Abg<|Ai Mv<|Ai (Dd rfl rfl)<|Ai Ag<|Abh ?_;exact⟨k+1,⟨⟨rfl,rfl,trivial⟩,I,hk',fun j hj hj'=>by
   rcases Afd.1 hj with h'|rfl
   ·exact hn j h' hj'
   ·exact(H5 _).2 (by omega)⟩,by omega⟩
 refine Abz<|Sr<|At0 Mv<|Ai (AbF Ah9 rfl)<|Abj (Abm I call42 (A2 _ I.j6 _ _ _) rfl fun w I=>Ab Ag<|Abh<|Wr ?_);exact Rm (v:=.bool _) rfl rfl I (by simp only[tup,isName,within];rw[Tc (fun j hj=>hn j (by omega) hj),Ahy,←Bool.decide_and];congr 2;apply propext;omega)
theorem Ma(B:Aq)(hB:B.ok)(r:Int):Fn prog 116 [.int .i32 r] B (fun v _=>v=.bool (decide (r<97∨122<r))):=by
 by_cases h:r<97
 ·refine Fo hB func116 rfl ntmps116 fun e I=>Sr<|Ab Ag<|Abh<|Sr<|AbB (v:=.int .i32 _) Mv<|AT (Abs (AbC rfl rfl) (h))<|Ab Mv<|Gg<|Gg<|Ab (Abo rfl rfl)<|Ab Ag<|Abh<|Wr ?_;exact Rm (v:=.bool _) rfl rfl I (by simp only[tup];rw[decide_eq_true (Or.inl h)])
 ·refine Fo hB func116 rfl ntmps116 fun e I=>Sr<|Ab Ag<|Abh<|Sr<|AbB (v:=.int .i32 _) Mv<|AF (Abt (AbC rfl rfl) (h))<|Ab Mv<|Acp rfl (v:=.int .i32 _) Mv<|Gd (AbL rfl rfl)<|Ab (Abp rfl rfl)<|Ab Ag<|Abh<|Wr ?_;exact Rm (v:=.bool _) rfl rfl I (by simp only[tup];congr 1;rw[decide_eq_decide];omega)
def AaW(s:ByteArray)(v:Value):Prop:=∃r:Int,v=.int .i64 r∧decide (0≤r)= !(s.data.toList.all KZ)
theorem NB(B:Aq)(hB:B.ok)(s:ByteArray):Fn prog 198 [.string s,.func (.func 116) #[] #[],.bool true] B (fun v _=>AaW s v):=by
 refine Fo hB func198 rfl ntmps198 fun e I=>Sr<|Ai Ag<|Abh<|Abi<|Sr<|At0 Mv<|Abj (AeA I Ah9 rfl fun b10 w I=>Abh<|WP.block ?_);refine Abx (σ:=Nat) (fun _=>[(0,.string s),(1,.func (.func 116) #[] #[]),(2,.bool true),(10,Pt b10)]) (fun k w=>Inv B B.h [sit b10 s k] w∧k≤s.size∧∀j,j<k→∀hj:j<s.size,KZ (s[j]'hj)=true) (fun k=>s.size-k)
  ⟨0,⟨rfl,rfl,rfl,rfl,trivial⟩,I,Afa _,fun j hj=>by omega⟩ ?_
 rintro k e w ⟨I,hk,hn⟩;refine Sr ?_;refine Abj (AeR I 0 rfl rfl ?_ ?_)
 ·intro hend;refine Ab (Y.extract rfl rfl)<|Abh<|Abi<|Abq rfl<|Abz<|Sr<|Ai Ag<|Abh<|Wr ?_;exact Rm (v:=.int .i64 _) rfl rfl I (⟨-1,rfl,by rw[Tc (fun j hj=>hn j (by omega) hj)];rfl⟩)
 ·intro hlt w I;refine Ab (Y.extract rfl rfl)<|Abh<|Abi<|Abw rfl<|Abk<|WP.block<|Sr<|Ai (Y.extract rfl rfl)<|AbB (v:=.int .i32 _) (Y.extract rfl rfl)<|Ai Ag<|AbB (v:=.int .i32 _) Ag<|Abh ?_;by_cases ha:(s[k]'hlt).toNat<128
  ·rw[decode_ascii s k hlt ha] at I ⊢;by_cases hlow:KZ (s[k]'hlt)=true
   ·have hl:=(H5 _).1 hlow;refine Sr<|Af Mv<|AbB (v:=.int .i32 _) Mv<|Abj (Acd I call116 (fs:=[]) (cs:=[]) rfl (Ma _ I.j6 _) rfl fun w I=>Ab Mv<|AF (Abt (AdX AiK rfl rfl) ((by rw[decide_eq_false (by omega)];decide)))<|Abh<|Abq rfl<|Abk ?_);exact⟨k+1,⟨⟨rfl,rfl,rfl,rfl,trivial⟩,I,hlt,fun j hj hj'=>by
     rcases Afd.1 hj with h'|rfl
     ·exact hn j h' hj'
     ·exact hlow⟩,by omega⟩
   ·have hl:¬(97≤(s[k]'hlt).toNat∧(s[k]'hlt).toNat≤122):=fun h=>hlow ((H5 _).2 h);refine Sr<|Af Mv<|AbB (v:=.int .i32 _) Mv<|Abj (Acd I call116 (fs:=[]) (cs:=[]) rfl (Ma _ I.j6 _) rfl fun w I=>Ab Mv<|AT (Abs (AdX AiK rfl rfl) ((by rw[decide_eq_true (by omega)])))<|Abh<|Abw rfl<|Sr<|Ai Mv<|Ai Ag<|Abh<|Wr ?_);exact Rm (v:=.int .i64 _) rfl rfl I (⟨k,rfl,by rw[L9 hlt hlow];simp⟩)
  ·have hd:=decode_high s k hlt (by omega);refine Sr<|Af Mv<|AbB (v:=.int .i32 _) Mv<|Abj (Acd I call116 (fs:=[]) (cs:=[]) rfl (Ma _ I.j6 _) rfl fun w I=>Ab Mv<|AT (Abs (AdX AiK rfl rfl) ((by rw[decide_eq_true (by omega)])))<|Abh<|Abw rfl<|Sr<|Ai Mv<|Ai Ag<|Abh<|Wr ?_);exact Rm (v:=.int .i64 _) rfl rfl I (⟨k,rfl,by rw[L9 hlt (fun h=>by have:=(H5 _).1 h;omega)];simp⟩)
theorem Mb(B:Aq)(hB:B.ok)(s:ByteArray):Fn prog 160 [.string s,.func (.func 116) #[] #[]] B (fun v _=>AaW s v):=by
 refine Fo hB func160 rfl ntmps160 fun e I=>Sr<|Ai Ag<|Abh<|Sr<|At0 Mv<|Af Mv<|Abj (AbE I call198 (NB _ I.j6 s) rfl ?_);rintro _ h2 w I le2 ⟨r,rfl,hr⟩;refine Ai Ag<|Abh<|Wr ?_;exact Rm (v:=.int .i64 _) rfl rfl I (⟨r,rfl,hr⟩)
theorem Iz(B:Aq)(hB:B.ok)(s:ByteArray):Fn prog 115 [.string s,.func (.func 116) #[] #[]] B (fun v _=>v=.bool !(s.data.toList.all KZ)):=by
 refine Fo hB func115 rfl ntmps115 fun e I=>Sr<|Ab Ag<|Abh<|Sr<|At0 Mv<|Af Mv<|Abj (AbE I call160 (Mb _ I.j6 s) rfl ?_);rintro _ h2 w I le2 ⟨r,rfl,hr⟩;refine Ad (AbZ rfl rfl)<|Ab Ag<|Abh<|Wr ?_;exact Rm (v:=.bool _) rfl rfl I (by simp only[tup];rw[hr])
theorem Ya(B:Aq)(hB:B.ok)(s:ByteArray)(hs:s.size≤140737488355328):Fn prog 57 [.string s] B (fun v _=>v=.bool (isName s)):=by
 by_cases h1:(0:Int)<s.size
 ·by_cases h2:(s.size:Int)≤8
  ·refine Fo hB func57 rfl ntmps57 fun e I=>Sr<|Ab Ag<|Abh<|Sr<|At0 Mv<|Ai (AbF Ah9 rfl)<|AT (Abs (AbL rfl rfl) (h1))<|Ab Mv<|Gt Mv<|Gi (AbF Ah9 rfl)<|GT (Abs (AcD rfl rfl) (h2))<|Ab (Abo rfl rfl)<|Ab Mv<|Gt Mv<|Ab8 rfl (Abm I call115 (Iz _ I.j6 s) rfl fun w I=>Gb (Y.not rfl)<|Ab (Abo rfl rfl)<|Ab Ag<|Abh<|Wr ?_);exact Rm (v:=.bool _) rfl rfl I (by simp only[tup,isName];rw[decide_eq_true (show 1≤s.size by omega),decide_eq_true (show s.size≤8 by omega)];simp)
  ·refine Fo hB func57 rfl ntmps57 fun e I=>Sr<|Ab Ag<|Abh<|Sr<|At0 Mv<|Ai (AbF Ah9 rfl)<|AT (Abs (AbL rfl rfl) (h1))<|Ab Mv<|Gt Mv<|Gi (AbF Ah9 rfl)<|GF (Abt (AcD rfl rfl) (h2))<|Ab (Abo rfl rfl)<|Ab Mv<|Gg<|Gg<|Gg<|Ab (Abp rfl rfl)<|Ab Ag<|Abh<|Wr ?_;exact Rm (v:=.bool _) rfl rfl I (by simp only[tup,isName];rw[decide_eq_false (show ¬s.size≤8 by omega)];simp)
 ·refine Fo hB func57 rfl ntmps57 fun e I=>Sr<|Ab Ag<|Abh<|Sr<|At0 Mv<|Ai (AbF Ah9 rfl)<|AF (Abt (AbL rfl rfl) (h1))<|Ab Mv<|Gg<|Gg<|Gg<|Ab (Abp rfl rfl)<|Ab Mv<|Gg<|Gg<|Gg<|Ab (Abp rfl rfl)<|Ab Ag<|Abh<|Wr ?_;exact Rm (v:=.bool _) rfl rfl I (by simp only[tup,isName];rw[decide_eq_false (show ¬1≤s.size by omega)];simp)
end
section
set_option maxRecDepth 10000
end
section
set_option maxRecDepth 10000
theorem Yb(B:Aq)(hB:B.ok)(t:Trm):Fn prog 201 [t.val] B (fun v _=>v=.bool (termOk t)):=by
 refine Fo hB func201 rfl ntmps201 fun e I=>Sr<|Abj (O.box (v:=.agg #[_,_]) I rfl rfl fun b1 w I=>Ab Ag<|Abh<|Abi<|Sr<|Ap (Abu AK rfl)<|Ab (Ld I Br 0 0 1 rfl rfl rfl)<|Abh ?_);by_cases h1:0≤t.n
 ·refine AbG rfl (fun hv=>?_) (fun hv=>?_)
  ·refine Sr<|Ap (Abr AI rfl)<|Ai (Ld I An 0 1 1 rfl rfl rfl)<|AT (Abs (AbZ rfl rfl) (h1))<|Ab Mv<|Gp (Abr AI rfl)<|Gi (Ld I An 0 1 1 rfl rfl rfl)<|Gd (AbC rfl rfl)<|Ab (Abo rfl rfl)<|Ab Ag<|Abh<|Wr ?_;exact Rm (v:=.bool _) rfl rfl I (by simp[tup,termOk,hv,h1])
  refine Abk<|Sr<|Ap (Abr AI rfl)<|Ai (Ld I An 0 1 1 rfl rfl rfl)<|AT (Abs (AbZ rfl rfl) (h1))<|Ab Mv<|Gp (Abr AI rfl)<|Gi (Ld I An 0 1 1 rfl rfl rfl)<|Gd (AcD rfl rfl)<|Ab (Abo rfl rfl)<|Ab Ag<|Abh<|Wr ?_;exact Rm (v:=.bool _) rfl rfl I (by simp[tup,termOk,hv,h1])
 ·refine AbG rfl (fun hv=>?_) (fun hv=>?_)
  ·refine Sr<|Ap (Abr AI rfl)<|Ai (Ld I An 0 1 1 rfl rfl rfl)<|AF (Abt (AbZ rfl rfl) (h1))<|Ab Mv<|Gg<|Gg<|Gg<|Ab (Abp rfl rfl)<|Ab Ag<|Abh<|Wr ?_;exact Rm (v:=.bool _) rfl rfl I (by simp[tup,termOk,hv,h1])
  refine Abk<|Sr<|Ap (Abr AI rfl)<|Ai (Ld I An 0 1 1 rfl rfl rfl)<|AF (Abt (AbZ rfl rfl) (h1))<|Ab Mv<|Gg<|Gg<|Gg<|Ab (Abp rfl rfl)<|Ab Ag<|Abh<|Wr ?_;exact Rm (v:=.bool _) rfl rfl I (by simp[tup,termOk,hv,h1])
theorem VL(B:Aq)(hB:B.ok)(t:Trm):Fn prog 200 [t.val] B (fun v _=>v=.bool !(termOk t)):=by
 refine Fo hB func200 rfl ntmps200 fun e I=>Sr<|Abj (O.box (v:=.agg #[_,_]) I rfl rfl fun b1 w I=>Ab Ag<|Abh<|Sr<|Ax (Ld I BZ 0 0 2 rfl rfl rfl)<|Abj (Abm I call201 (Yb _ I.j6 t) rfl fun w I=>Ab (Y.not rfl)<|Ab Ag<|Abh<|Wr ?_));exact Rm (v:=.bool _) rfl rfl I (rfl)
theorem Yc(B:Aq)(hB:B.ok)(l:Sl Trm)(hl:Xn l B.h):Fn prog 161 [l.val] B (fun v _=>v=.int .i64 (B9 l.xs)):=by
 refine Fo hB func161 rfl ntmps161 fun e I=>Sr<|Ai Ag<|Abh<|Abi<|Sr<|As0 Mv<|Abj (Abm I call199 (Hh _ I.j6 l hl 200 call200 [] [] (fun t=>!termOk t) (fun B' hB' _ t _=>VL B' hB' t)) rfl fun w I=>Abh ?_);refine AbG rfl (fun h=>?_) (fun h=>?_)
 ·refine Sr<|Ai Ag<|Abh<|Wr ?_;exact Rm (v:=.int .i64 _) rfl rfl I (by simp only[tup,B9];rw[if_neg];intro h2;simp only[AfG,Aff] at h h2;obtain⟨x,hx,h3⟩:=h;simp[h2 x hx] at h3)
 refine Abk<|Sr<|Ai Ag<|Abh<|Wr ?_;exact Rm (v:=.int .i64 _) rfl rfl I (by simp only[tup,B9];rw[if_pos];simp only[Agb,Aff] at h ⊢;intro x hx;simpa using h x hx)
theorem NC(B:Aq)(hB:B.ok)(l:Sl Trm)(hl:Xn l B.h):Fn prog 153 [l.val] B (fun v _=>v=.int .i64 (B9 l.xs)):=by
 refine Fo hB func153 rfl ntmps153 fun e I=>Sr<|Ai Ag<|Abh<|Abi<|Sr<|Ai Ag<|Abh<|WP.block ?_;refine Abx (σ:=Nat) (fun k=>[(0,l.val),(3,.int .i64 k)]) (fun k w=>Inv B B.h [] w∧k≤l.xs.length∧∀j (hj:j<k) (hj':j<l.xs.length),termOk l.xs[j]=true) (fun k=>l.xs.length-k)
  ⟨0,⟨rfl,rfl,trivial⟩,I,Afa _,fun j hj=>(by omega)⟩ ?_
 rintro k e w ⟨I,hk,hn⟩;have hsm:=hl.small;refine Abi<|Sr<|Ai Mv<|As0 Mv<|Ai (AbA Aid rfl)<|Ad (AbC rfl rfl)<|Abh ?_;refine Abl rfl (fun h=>?_) (fun h=>?_)
 ·have hk':k<l.xs.length:=by omega
  have E1:=hl.at hk';refine Abk<|Abi<|WP.block<|Sr<|Ai Ag<|Abh<|Abi<|Sr<|As0 Mv<|Ai Mv<|Ap (Ix E1 Aid Aik rfl rfl)<|Ap (Abu AK rfl)<|Ab (Abn Br rfl (I.rd (E1.rd.part 0 1)) rfl rfl)<|Abh ?_;refine Acc (σ:=Unit) (fun _=>[(0,l.val),(3,.int .i64 k),(4,.int .i64 (if l.xs[k].var then 2 else 4))]) (fun _ w=>Inv B B.h [] w) ?_ ?_
  ·refine AbG rfl (fun hv=>?_) (fun hv=>?_)
   ·refine Abg<|Ai Ag<|Abh ?_;exact⟨(),⟨rfl,rfl,by simp[hv];rfl,trivial⟩,I⟩
   refine Abk ?_;exact⟨(),⟨rfl,rfl,by simp[hv];rfl,trivial⟩,I⟩
  rintro _ e w I;refine Sr<|As0 Mv<|Ai Mv<|Ap (Ix E1 Aid Aik rfl rfl)<|Ap (Abr AI rfl)<|Ai (Abn An rfl (I.rd (E1.rd.part 1 1)) rfl rfl)<|Ai Mv<|Abj (Abm I call42 (A2 _ I.j6 _ _ _) rfl fun w I=>Ad (Ac3 rfl)<|Abh ?_);refine Abl rfl (fun hw=>?_) (fun hw=>?_)
  ·refine Sr<|Ai Ag<|Abh<|Wr ?_;exact Rm (v:=.int .i64 _) rfl rfl I (by simp only[tup,B9];rw[if_neg];intro h2;exact hw ((KW _).1 (Aff.1 h2 _ (Ae5 hk'))))
  refine Abk<|Abg<|Ai Mv<|Ai (Dd rfl rfl)<|Ai Ag<|Abh ?_;exact⟨k+1,⟨⟨rfl,rfl,trivial⟩,I,by omega,fun j hj hj'=>by
   rcases Afd.1 hj with h'|h'
   ·exact hn j h' hj'
   ·subst h';exact(KW _).2 (Afh.1 hw)⟩,by omega⟩
 refine Abz<|Sr<|Ai Ag<|Abh<|Wr ?_;exact Rm (v:=.int .i64 _) rfl rfl I (by simp only[tup,B9];rw[if_pos];rw[Aff];intro x hx;obtain⟨j,hj,rfl⟩:=Afz hx;exact hn j (by omega) hj)
theorem H6(B:Aq)(hB:B.ok)(l:Sl Prd)(hl:HQ l B.h)(a:Atm)(ha:a.In B.h):Fn prog 117 [l.val,a.val] B (fun v _=>v=.int .i64 (checkAtom l.xs a)):=by
 refine Fo hB func117 rfl ntmps117 fun e I=>Sr<|Abj (O.box (v:=.agg #[_,_]) I rfl rfl fun b3 w I=>Ai Ag<|Abh ?_);have hsm:=hl.small;by_cases h1:a.pred<0
 ·refine Abi<|Sr<|Ap (Abu AW rfl)<|Ai (Ld I An 0 0 1 rfl rfl rfl)<|AT (Abs (AbC rfl rfl) (h1))<|Ab Mv<|Gg<|Gg<|Gg<|Gg<|Gg<|Ab (Abo rfl rfl)<|Abh<|Abw rfl<|Sr<|Ai Ag<|Abh<|Wr ?_;exact Rm (v:=.int .i64 _) rfl rfl I (by simp[tup,checkAtom,h1])
 refine Abi<|Sr<|Ap (Abu AW rfl)<|Ai (Ld I An 0 0 1 rfl rfl rfl)<|AF (Abt (AbC rfl rfl) (h1))<|Ab Mv<|Gp (Abu AW rfl)<|Gi (Ld I An 0 0 1 rfl rfl rfl)<|Gs Mv<|Gi (AbA Aia rfl)<|Gd (AbZ rfl rfl)<|Ab (Abp rfl rfl)<|Abh ?_;refine Abl rfl (fun h2=>?_) (fun h2=>?_)
 ·refine Sr<|Ai Ag<|Abh<|Wr ?_;exact Rm (v:=.int .i64 _) rfl rfl I (by simp[tup,checkAtom,h2])
 have hp:0≤a.pred:=by omega
 have E1:=hl.at (i:=a.pred.toNat) (by omega);have hE:Al l.xs a.pred=l.xs[a.pred.toNat]'(by omega):=by have:=Cs hp (by omega:a.pred<l.xs.length);rw[Ae4 (by omega)] at this;exact(Option.some.inj this).symm
 refine Abk<|Abi<|Abi<|AbD AC I (by kernel_rfl)<|Qp (fun w I=>Abr Bb rfl)<|Qs (fun w I=>Ld I CN 0 1 1 rfl rfl rfl)<|Qi (fun w I=>AbA Aid rfl)<|Qs (fun w I=>Mv)<|Qp (fun w I=>Abu AW rfl)<|Qi (fun w I=>Ld I An 0 0 1 rfl rfl rfl)<|Qp (fun w I=>AbJ E1 Aia Aim rfl rfl hp rfl)<|Qp (fun w I=>Abr Bp rfl)<|Qi (fun w I=>Abn An rfl (I.rd (E1.rd.part 1 1)) rfl rfl)<|Qd (fun w I=>AbK rfl rfl)<|AbH fun w I=>?_;refine Abl rfl (fun h3=>?_) (fun h3=>?_)
 ·refine Sr<|Ai Ag<|Abh<|Wr ?_;exact Rm (v:=.int .i64 _) rfl rfl I (by simp only[tup,checkAtom,hE];rw[if_neg (by omega),if_pos h3])
 refine Abk<|Sr<|Ap (Abr Bb rfl)<|As0 (Ld I CN 0 1 1 rfl rfl rfl)<|Abj (Abm I call161 (Yc _ I.j6 a.args ha) rfl fun w I=>Ai Ag<|Abh<|Wr ?_);exact Rm (v:=.int .i64 _) rfl rfl I (by simp only[tup,checkAtom,hE];rw[if_neg (by omega),if_neg h3])
theorem CK(B:Aq)(hB:B.ok)(l:Sl Prd)(hl:HQ l B.h)(a:Atm)(ha:a.In B.h):Fn prog 105 [l.val,a.val] B (fun v _=>v=.int .i64 (checkAtom l.xs a)):=by
 have hsm:=hl.small;refine Fo hB func105 rfl ntmps105 fun e I=>Sr<|Abj (O.box (v:=.agg #[_,_]) I rfl rfl fun b3 w I=>Ai Ag<|Abh<|Abi<|Sr<|Ap (Abu AW rfl)<|Ai (Ld I An 0 0 1 rfl rfl rfl)<|As0 Mv<|Ai (AbA Aia rfl)<|Ai (AcA rfl rfl ⟨by omega,by omega⟩)<|Abj (Abm I call42 (A2 _ I.j6 _ _ _) rfl fun w I=>Ad (Ac3 rfl)<|Abh ?_));refine Abl rfl (fun h1=>?_) (fun h1=>?_)
 ·refine Sr<|Ai Ag<|Abh<|Wr ?_;exact Rm (v:=.int .i64 _) rfl rfl I (by simp only[tup,checkAtom,within] at *;rw[if_pos (by omega)])
 have h1':¬(a.pred<0∨(l.xs.length:Int)≤a.pred):=by simp only[within,Afh] at h1;omega
 have hp:0≤a.pred:=by omega
 have E1:=hl.at (i:=a.pred.toNat) (by omega);have hE:Al l.xs a.pred=l.xs[a.pred.toNat]'(by omega):=by have:=Cs hp (by omega:a.pred<l.xs.length);rw[Ae4 (by omega)] at this;exact(Option.some.inj this).symm
 refine Abk<|Abi<|Abi<|AbD AC I (by kernel_rfl)<|Qp (fun w I=>Abr Bb rfl)<|Qs (fun w I=>Ld I CN 0 1 1 rfl rfl rfl)<|Qi (fun w I=>AbA Aid rfl)<|Qs (fun w I=>Mv)<|Qp (fun w I=>Abu AW rfl)<|Qi (fun w I=>Ld I An 0 0 1 rfl rfl rfl)<|Qp (fun w I=>AbJ E1 Aia Aim rfl rfl hp rfl)<|Qp (fun w I=>Abr Bp rfl)<|Qi (fun w I=>Abn An rfl (I.rd (E1.rd.part 1 1)) rfl rfl)<|Qd (fun w I=>AbK rfl rfl)<|AbH fun w I=>?_;refine Abl rfl (fun h3=>?_) (fun h3=>?_)
 ·refine Sr<|Ai Ag<|Abh<|Wr ?_;exact Rm (v:=.int .i64 _) rfl rfl I (by simp only[tup,checkAtom,hE];rw[if_neg h1',if_pos h3])
 refine Abk<|Sr<|Ap (Abr Bb rfl)<|As0 (Ld I CN 0 1 1 rfl rfl rfl)<|Abj (Abm I call153 (NC _ I.j6 a.args ha) rfl fun w I=>Ai Ag<|Abh<|Wr ?_);exact Rm (v:=.int .i64 _) rfl rfl I (by simp only[tup,checkAtom,hE];rw[if_neg h1',if_neg h3])
theorem Cu(B:Aq)(hB:B.ok)(a:Atm)(ha:a.In B.h)(v:Int):Fn prog 106 [a.val,.int .i64 v] B (fun r _=>r=.bool (AL a v)):=by
 have hsm:a.args.xs.length≤140737488355328:=Sl.Is.small ha;refine Fo hB func106 rfl ntmps106 fun e I=>Sr<|Abj (O.box (v:=.agg #[_,_]) I rfl rfl fun b2 w I=>Ab Ag<|Abh<|Abi<|Sr<|Ai Ag<|Abh<|WP.block ?_);refine Abx (σ:=Nat) (fun k=>[(1,.int .i64 v),(2,Pt b2),(5,.int .i64 k)]) (fun k w=>Inv B B.h [box b2 a.enc 61] w∧k≤a.args.xs.length∧∀j (hj:j<k) (hj':j<a.args.xs.length),(a.args.xs[j].var && decide (a.args.xs[j].n=v))=false) (fun k=>a.args.xs.length-k)
  ⟨0,⟨rfl,rfl,rfl,trivial⟩,I,Afa _,fun j hj=>(by omega)⟩ ?_
 rintro k e w ⟨I,hk,hn⟩;refine Abi<|Sr<|Ai Mv<|Ap (Abr Bb rfl)<|As0 (Ld I CN 0 1 1 rfl rfl rfl)<|Ai (AbA Aid rfl)<|Ad (AbC rfl rfl)<|Abh ?_;refine Abl rfl (fun h=>?_) (fun h=>?_)
 ·have hk':k<a.args.xs.length:=by omega
  have E1:=Sl.Is.at ha hk';have step:(a.args.xs[k].var && decide (a.args.xs[k].n=v))=false→∀j (hj:j<k+1) (hj':j<a.args.xs.length),(a.args.xs[j].var && decide (a.args.xs[j].n=v))=false:=fun hb j hj hj'=>by
   rcases Afd.1 hj with h'|h'
   ·exact hn j h' hj'
   ·subst h';exact hb
  by_cases hv:a.args.xs[k].var=true
  ·refine Abk<|Abi<|WP.block<|Sr<|Ap (Abr Bb rfl)<|As0 (Ld I CN 0 1 1 rfl rfl rfl)<|Ai Mv<|Ap (Ix E1 Aid Aik rfl rfl)<|Ap (Abu AK rfl)<|AT (Y.b (Abn Br rfl (I.rd (E1.rd.part 0 1)) rfl rfl) (hv))<|Ab Mv<|Gp (Abr Bb rfl)<|Gs (Ld I CN 0 1 1 rfl rfl rfl)<|Gi Mv<|Gp (Ix E1 Aid Aik rfl rfl)<|Gp (Abr AI rfl)<|Gi (Abn An rfl (I.rd (E1.rd.part 1 1)) rfl rfl)<|Gi Mv<|Gd (AbI rfl rfl)<|Ab (Abo rfl rfl)<|Abh ?_;refine Abl rfl (fun hb=>?_) (fun hb=>?_)
   ·refine Sr<|Ab Ag<|Abh<|Wr ?_;exact Rm (v:=.bool _) rfl rfl I (by simp only[tup,AL];rw[AfG.2 ⟨_,Ae5 hk',by simp[hv,hb]⟩])
   refine Abk<|Abg<|Ai Mv<|Ai (Dd rfl rfl)<|Ai Ag<|Abh ?_;exact⟨k+1,⟨⟨rfl,rfl,rfl,trivial⟩,I,by omega,step (by simp[hb])⟩,by omega⟩
  ·refine Abk<|Abi<|WP.block<|Sr<|Ap (Abr Bb rfl)<|As0 (Ld I CN 0 1 1 rfl rfl rfl)<|Ai Mv<|Ap (Ix E1 Aid Aik rfl rfl)<|Ap (Abu AK rfl)<|AF (Y.b (Abn Br rfl (I.rd (E1.rd.part 0 1)) rfl rfl) ((by simpa using hv)))<|Ab Mv<|Gg<|Gg<|Gg<|Gg<|Gg<|Gg<|Gg<|Gg<|Ab (Abp rfl rfl)<|Abh<|Abq rfl<|Abk<|Abg<|Ai Mv<|Ai (Dd rfl rfl)<|Ai Ag<|Abh ?_;exact⟨k+1,⟨⟨rfl,rfl,rfl,trivial⟩,I,by omega,step (by simp[hv])⟩,by omega⟩
 refine Abz<|Sr<|Ab Ag<|Abh<|Wr ?_;exact Rm (v:=.bool _) rfl rfl I (by simp only[tup,AL];rw[Agb.2];intro x hx;obtain⟨j,hj,rfl⟩:=Afz hx;simpa using hn j (by omega) hj)
theorem Te(B:Aq)(hB:B.ok)(r:Rul)(hr:Y7 r.body B.h)(v:Int):Fn prog 107 [r.val,.int .i64 v] B (fun x _=>x=.bool (CU r v)):=by
 have hsm:=hr.is.small;refine Fo hB func107 rfl ntmps107 fun e I=>Sr<|Abj (O.box (v:=.agg #[_,_,_,_,_]) I rfl rfl fun b2 w I=>Ab Ag<|Abh<|Abi<|Sr<|Ai Ag<|Abh<|WP.block ?_);refine Abx (σ:=Nat) (fun k=>[(1,.int .i64 v),(2,Pt b2),(5,.int .i64 k)]) (fun k w=>Inv B B.h [box b2 r.enc 64] w∧k≤r.body.xs.length∧∀j (hj:j<k) (hj':j<r.body.xs.length),(!r.body.xs[j].neg && AL r.body.xs[j].atom v)=false) (fun k=>r.body.xs.length-k)
  ⟨0,⟨rfl,rfl,rfl,trivial⟩,I,Afa _,fun j hj=>(by omega)⟩ ?_
 rintro k e w ⟨I,hk,hn⟩;refine Abi<|Sr<|Ai Mv<|Ap (Abr AG rfl)<|As0 (Ld I Bi 0 4 1 rfl rfl rfl)<|Ai (AbA Aib rfl)<|Ad (AbC rfl rfl)<|Abh ?_;refine Abl rfl (fun h=>?_) (fun h=>?_)
 ·have hk':k<r.body.xs.length:=by omega
  have E1:=hr.is.at hk';have step:(!r.body.xs[k].neg && AL r.body.xs[k].atom v)=false→∀j (hj:j<k+1) (hj':j<r.body.xs.length),(!r.body.xs[j].neg && AL r.body.xs[j].atom v)=false:=fun hb j hj hj'=>by
   rcases Afd.1 hj with h'|h'
   ·exact hn j h' hj'
   ·subst h';exact hb
  cases hv:r.body.xs[k].neg
  ·refine Abk<|Abi<|WP.block<|Sr<|Ap (Abr AG rfl)<|As0 (Ld I Bi 0 4 1 rfl rfl rfl)<|Ai Mv<|Ap (Ix E1 Aib Ail rfl rfl)<|Ap (Abu BK rfl)<|AF (Y.b (Abn Br rfl (I.rd (E1.rd.part 0 1)) rfl rfl) (hv))<|AT (Y.not (b:=false) rfl)<|Ab Mv<|Gp (Abr AG rfl)<|Gs (Ld I Bi 0 4 1 rfl rfl rfl)<|Gi Mv<|Gp (Ix E1 Aib Ail rfl rfl)<|Gp (Abr Bk rfl)<|Gx (Abn AP rfl (I.rd (E1.rd.part 1 2)) rfl rfl)<|Gi Mv<|Ab8 rfl (Abm I call106 (Cu _ I.j6 r.body.xs[k].atom (hr.each _ (Ae5 hk')) v) rfl fun w I=>Ab (Abo rfl rfl)<|Abh ?_);refine AbG rfl (fun hb=>?_) (fun hb=>?_)
   ·refine Sr<|Ab Ag<|Abh<|Wr ?_;exact Rm (v:=.bool _) rfl rfl I (by simp only[tup,CU];rw[AfG.2 ⟨_,Ae5 hk',by simp[hv,hb]⟩])
   refine Abk<|Abg<|Ai Mv<|Ai (Dd rfl rfl)<|Ai Ag<|Abh ?_;exact⟨k+1,⟨⟨rfl,rfl,rfl,trivial⟩,I,by omega,step (by simp[hb])⟩,by omega⟩
  ·refine Abk<|Abi<|WP.block<|Sr<|Ap (Abr AG rfl)<|As0 (Ld I Bi 0 4 1 rfl rfl rfl)<|Ai Mv<|Ap (Ix E1 Aib Ail rfl rfl)<|Ap (Abu BK rfl)<|AT (Y.b (Abn Br rfl (I.rd (E1.rd.part 0 1)) rfl rfl) (hv))<|AF (Y.not (b:=true) rfl)<|Ab Mv<|Gg<|Gg<|Gg<|Gg<|Gg<|Gg<|Gg<|Gg<|Ab (Abp rfl rfl)<|Abh<|Abq rfl<|Abk<|Abg<|Ai Mv<|Ai (Dd rfl rfl)<|Ai Ag<|Abh ?_;exact⟨k+1,⟨⟨rfl,rfl,rfl,trivial⟩,I,by omega,step (by simp[hv])⟩,by omega⟩
 refine Abz<|Sr<|Ab Ag<|Abh<|Wr ?_;exact Rm (v:=.bool _) rfl rfl I (by simp only[tup,CU];rw[Agb.2];intro x hx;obtain⟨j,hj,rfl⟩:=Afz hx;simpa using hn j (by omega) hj)
end
section
set_option maxRecDepth 10000
theorem Tf(B:Aq)(hB:B.ok)(l:Sl Atm)(hl:l.Is 2 Atm.enc B.h)(he:∀a∈l.xs,a.In B.h)(hn:l.xs.length≤4) :
  FnM prog 119 [l.val] B (fun v _ M=>∃b es,v=.map (some b)∧M=[Ow b es]∧CE es (cntA l.xs)):=by
 refine FnM.of func119 rfl ntmps119 (by kernel_rfl) (by simp) fun e=>?_;have I:=Ab2 hB;refine Sr<|AbB (v:=.map _) Ag<|Abh<|Sr<|Abj (Ael I fun b8 w I=>AbB (v:=.map _) Ag<|Abh<|Abi<|Sr<|As0 Mv<|Ai (AbA Aix rfl)<|Ai Mv<|Abh<|WP.block ?_);refine Abx (σ:=Nat×List (Int×Int)) (fun s=>[(3,.map (some b8)),(9,l.val),(10,.int .i64 l.xs.length),(11,.int .i64 s.1)]) (fun s w=>Inv B B.h [Ow b8 s.2] w∧s.1≤l.xs.length∧CE s.2 (cntA (l.xs.take s.1))) (fun s=>l.xs.length-s.1)
  ⟨(0,[]),⟨rfl,rfl,rfl,rfl,trivial⟩,I,Afa _,Ad0⟩ ?_
 rintro⟨k,es⟩ e w ⟨I,hk,hc⟩;dsimp only at I hk hc ⊢;refine Sr<|Ad (AbC rfl rfl)<|Abh<|Abi ?_;refine Abl rfl (fun h=>?_) (fun h=>?_)
 ·have hk':k<l.xs.length:=by omega
  have E1:=hl.at hk';have ha:=he _ (Ae5 hk');have hsm:l.xs[k].args.xs.length≤140737488355328:=Sl.Is.small ha;refine Abk<|Abi<|WP.block<|Sr<|Ap (Ix E1 Aix sizeOf61 rfl rfl)<|Ax (Abn AP rfl (I.rd (E1.rd.part 0 2)) rfl rfl)<|Abj (O.alloc I Ain rfl fun b5 w I=>Abj (Sx I AP 0 rfl rfl rfl rfl fun w I=>Abh<|Sr<|Ap (Abr Bb rfl)<|As0 (Ld I CN 0 1 1 rfl rfl rfl)<|Ai (AbA Aid rfl)<|Ai Mv<|Abh<|WP.block ?_));refine Abx (σ:=Nat×List (Int×Int)) (fun s=>[(3,.map (some b8)),(9,l.val),(10,.int .i64 l.xs.length),(11,.int .i64 k),(16,l.xs[k].args.val),(17,.int .i64 l.xs[k].args.xs.length),(18,.int .i64 s.1)]) (fun s w=>Inv B B.h [Ow b8 s.2] w∧s.1≤l.xs[k].args.xs.length∧CE s.2 (fun v=>cntA (l.xs.take k) v+Sh (l.xs[k].args.xs.take s.1) v)) (fun s=>l.xs[k].args.xs.length-s.1)
   ⟨(0,es),⟨rfl,rfl,rfl,rfl,rfl,rfl,rfl,trivial⟩,I.drop,Afa _,hc⟩ ?_
  rintro⟨j,es⟩ e w ⟨I,hj,hc⟩;dsimp only at I hj hc ⊢;refine Sr<|Ad (AbC rfl rfl)<|Abh<|Abi ?_;refine Abl rfl (fun h2=>?_) (fun h2=>?_)
  ·have hj':j<l.xs[k].args.xs.length:=by omega
   have E2:=Sl.Is.at ha hj';have hcg:=hc.get l.xs[k].args.xs[j].n;have hb1:=XO (l:=l.xs.take k) (m:=140737488355328) (fun a hm=>Sl.Is.small (he a (AfX hm))) l.xs[k].args.xs[j].n;have hb2:=Sk (l.xs[k].args.xs.take j) l.xs[k].args.xs[j].n;simp only[Afj] at hb1 hb2;have hb3:min k l.xs.length*140737488355328≤4*140737488355328:=AfA _ (by omega);refine Abk<|Abi<|WP.block<|Sr<|Ap (Ix E2 Aid Aik rfl rfl)<|Ax (Abn BZ rfl (I.rd (E2.rd.part 0 2)) rfl rfl)<|Abj (O.alloc I Aig rfl fun b7 w I=>Abj (Sx I BZ 0 rfl rfl rfl rfl fun w I=>Abh<|Sr<|Ap (Abu AK rfl)<|Ab (Ld I Br 0 0 1 rfl rfl rfl)<|Abh ?_));refine Ack (σ:=List (Int×Int)) (fun _=>[(3,.map (some b8)),(9,l.val),(10,.int .i64 l.xs.length),(11,.int .i64 k),(16,l.xs[k].args.val),(17,.int .i64 l.xs[k].args.xs.length),(18,.int .i64 j)]) (fun es w=>Inv B B.h [Ow b8 es] w∧CE es (fun v=>cntA (l.xs.take k) v+Sh (l.xs[k].args.xs.take (j+1)) v)) ?_ ?_
   ·refine AbG rfl (fun hv=>?_) (fun hv=>?_)
    ·refine Abg<|AbB (v:=.map _) Mv<|Ap (Abr AI rfl)<|Ai (Ld I An 0 1 1 rfl rfl rfl)<|Ai (Y.lookup I AiI Ait AiG 1 rfl rfl rfl)<|Ai (Dd rfl rfl)<|Abj (Adz I AiI Ait 1 rfl rfl rfl rfl fun w I=>Abh ?_);exact⟨_,⟨rfl,rfl,rfl,rfl,rfl,rfl,rfl,trivial⟩,I.drop,hc.put _ fun v=>by rw[M7 hj'];simp only[hv,true_and];by_cases e:v=l.xs[k].args.xs[j].n<;>simp[e,Ne.symm]<;>omega⟩
    refine Abk ?_;exact⟨es,⟨rfl,rfl,rfl,rfl,rfl,rfl,rfl,trivial⟩,I.drop,hc.same fun v=>by rw[M7 hj'];simp[hv]⟩
   rintro es e w ⟨I,hc⟩;refine Abg<|Ai (Dd rfl rfl)<|Ai Mv<|Abh ?_;exact⟨(j+1,es),⟨⟨rfl,rfl,rfl,rfl,rfl,rfl,rfl,trivial⟩,I,by dsimp only;omega,hc⟩,by dsimp only;omega⟩
  refine Abz<|Abg<|Ai (Dd rfl rfl)<|Ai Mv<|Abh ?_;have hj0:j=l.xs[k].args.xs.length:=by omega
  exact⟨(k+1,es),⟨⟨rfl,rfl,rfl,rfl,trivial⟩,I,by dsimp only;omega,fun v=>by rw[Sm hk'];have:=hc v;rw[hj0,Afo] at this;exact this⟩,by dsimp only;omega⟩
 refine Abz<|Sr<|AbB (v:=.map _) Mv<|AbB (v:=.map _) Ag<|Abh ?_;have hk0:k=l.xs.length:=by omega
 refine Wr ?_;exact XJ.mk (vs:=[_]) rfl ⟨rfl,trivial⟩ (I) (⟨b8,es,rfl,rfl,by rw[hk0,Afo] at hc;exact hc⟩)
def ZK(b:Sl Ltl)(v:Value)(_:Ae)(M:List SA):Prop:=∃u1 u2,v=.tuple #[u1,u2]∧M=[Ao 61 2 u1 (M8 b.xs).length ((M8 b.xs).flatMap Atm.enc),Ao 61 2 u2 (Gm b.xs).length ((Gm b.xs).flatMap Atm.enc)]
theorem PO(B:Aq)(hB:B.ok)(r:Rul)(hr:Y7 r.body B.h)(hn:r.body.xs.length≤3):FnM prog 118 [r.val] B (ZK r.body):=by
 refine FnM.of func118 rfl ntmps118 (by kernel_rfl) (by simp) fun e=>?_;have I:=Ab2 hB;refine Sr<|Abj (O.box (v:=.agg #[_,_,_,_,_]) I rfl rfl fun b1 w I=>As0 Ag<|As0 Ag<|Abh<|Abi<|Sr<|Ap (Abr AG rfl)<|As0 (Ld I Bi 0 4 1 rfl rfl rfl)<|Ai (AbA Aib rfl)<|Ai Mv<|Abh<|WP.block ?_);have In1:=I.l9 61 2;have In2:=In1.l9 61 2;refine Abx (σ:=Nat×Value×Value×Ae) (fun s=>[(1,Pt b1),(2,s.2.1),(3,s.2.2.1),(7,r.body.val),(8,.int .i64 r.body.xs.length),(9,.int .i64 s.1)])
  (fun s w=>Inv B s.2.2.2 [Ao 61 2 s.2.1 (M8 (r.body.xs.take s.1)).length ((M8 (r.body.xs.take s.1)).flatMap Atm.enc),Ao 61 2 s.2.2.1 (Gm (r.body.xs.take s.1)).length ((Gm (r.body.xs.take s.1)).flatMap Atm.enc)] w∧s.1≤r.body.xs.length∧B.h.le s.2.2.2) (fun s=>r.body.xs.length-s.1)
  ⟨(0,.slice none 0 0,.slice none 0 0,B.h),⟨rfl,rfl,rfl,rfl,rfl,rfl,trivial⟩,In2.weak (by simp[M8,Gm]),Afa _,Ae.le.refl _⟩ ?_
 rintro⟨k,u1,u2,h⟩ e w ⟨I,hk,hle⟩;dsimp only at I hk hle ⊢;refine Sr<|Ad (AbC rfl rfl)<|Abh<|Abi ?_;refine Abl rfl (fun h1=>?_) (fun h1=>?_)
 ·have hk':k<r.body.xs.length:=by omega
  have E1:=(hr.is.at hk').le hle;have l1:=Sn (r.body.xs.take k);have l2:=LU (r.body.xs.take k);simp only[Afj] at l1 l2;refine Abk<|Abi<|WP.block<|Sr<|Ap (Ix E1 Aib Ail rfl rfl)<|Ay (Abn EQ rfl (I.rd (E1.rd.part 0 3)) rfl rfl)<|Abj (O.alloc I Aiu rfl fun b5 w I=>Abj (Sy I EQ 0 rfl rfl rfl rfl fun w I=>Abh<|Sr<|Ap (Abu BK rfl)<|Ab (Ld I Br 0 0 1 rfl rfl rfl)<|Abh ?_));refine AbG rfl (fun hv=>?_) (fun hv=>?_)
  ·refine Abg<|AbB (v:=u1) Mv<|Ap (Abr Bk rfl)<|Ax (Ld I AP 0 1 2 rfl rfl rfl)<|Abj (AbY (xs:=[r.body.xs[k].atom]) (enc:=Atm.enc) I Aix sizeOf61 Ain rfl (Nb rfl) rfl rfl (by decide) (fun _=>rfl) fun b18 h18 w I le18 sl18=>Abj (Ab0 I Aix XM 1 rfl rfl rfl (I.rd (sl18 0 _ rfl).2) rfl rfl (by decide) (by omega) (by omega) fun b19 c19 w I=>As0 Ag<|Abh<|Abg<|Ai (Dd rfl rfl)<|Ai Mv<|Abh ?_));refine⟨(k+1,_,u2,h18),⟨⟨rfl,rfl,rfl,rfl,rfl,rfl,trivial⟩,?_,by dsimp only;omega,hle.trans le18⟩,by dsimp only;omega⟩;have J:=I.drop;simpa[M9 hk',Na hk',hv] using J
  refine Abg<|AbB (v:=u2) Mv<|Ap (Abr Bk rfl)<|Ax (Ld I AP 0 1 2 rfl rfl rfl)<|Abj (AbY (xs:=[r.body.xs[k].atom]) (enc:=Atm.enc) I Aix sizeOf61 Ain rfl (Nb rfl) rfl rfl (by decide) (fun _=>rfl) fun b23 h23 w I le23 sl23=>Abj (Ab0 I Aix XM 2 rfl rfl rfl (I.rd (sl23 0 _ rfl).2) rfl rfl (by decide) (by omega) (by omega) fun b24 c24 w I=>As0 Ag<|Abh<|Abg<|Ai (Dd rfl rfl)<|Ai Mv<|Abh ?_));refine⟨(k+1,u1,_,h23),⟨⟨rfl,rfl,rfl,rfl,rfl,rfl,trivial⟩,?_,by dsimp only;omega,hle.trans le23⟩,by dsimp only;omega⟩;have J:=I.drop;simpa[M9 hk',Na hk',hv] using J
 refine Abz<|Sr<|AbB (v:=u1) Mv<|AbB (v:=u2) Mv<|AbB (v:=u1) Ag<|AbB (v:=u2) Ag<|Abh ?_;have hk0:k=r.body.xs.length:=by omega
 refine Wr ?_;exact XJ.mk (vs:=[u1,u2]) rfl ⟨rfl,rfl,trivial⟩ (I) (⟨_,_,rfl,by rw[hk0,Afo]⟩)
end
section
set_option maxRecDepth 10000
theorem D1{l:List Prd}{a:Atm}(h:checkAtom l a=0):0≤a.pred∧a.pred<l.length:=by
 unfold checkAtom at h;split at h
 ·cases h
 ·omega
theorem PP{l:List Prd}{r:Rul}{v:Int}(h:Bf r v=true)(h0:checkAtom l r.head=0)(h1:bodyErr l r.body.xs=0):(Bf r 0 || Bf r 1 || Bf r 2)=true:=by
 have hv:v=0∨v=1∨v=2:=by
  have:=h;simp only[Bf,Afn,Agl,AfG] at this;rcases this.1 with hs|⟨x,hx,hs⟩
  ·exact Gr h0 hs
  ·exact Gr (C2.1 h1 x hx) hs
 rcases hv with rfl|rfl|rfl<;>simp[h]
theorem Tg{r:Rul}(h:∀v,cntA (M8 r.body.xs++[r.head]) v≠0→cntA (Gm r.body.xs) v≠0):(Bf r 0 || Bf r 1 || Bf r 2)=false:=by
 have:∀v,Bf r v=false:=fun v=>by
  cases hf:Bf r v
  ·rfl
  ·have:=Jp.1 hf;exact absurd this.2 (h v this.1)
 simp[this]
theorem ND{r:Rul}{k:Int}(h0:0≤k)(h1:k<r.body.xs.length):CO r k=r.body.xs[k.toNat]'(by omega):=by
 simp[CO,Ae3,show k.toNat<r.body.xs.length by omega]
theorem BT{l:List Prd}{p:Int}(h0:0≤p)(h1:p<l.length):Al l p=l[p.toNat]'(by omega):=by
 simp[Al,Ae3,show p.toNat<l.length by omega]
theorem Th(B:Aq)(hB:B.ok)(l:Sl Prd)(hl:HQ l B.h)(r:Rul)(hr:r.In B.h):Fn prog 61 [l.val,r.val] B (fun v _=>v=.int .i64 (checkRule l.xs r)):=by
 have hsm:=hl.small;have hsb:=hr.body.is.small;refine Fo hB func61 rfl ntmps61 fun e I=>Sr<|Abj (O.box (v:=.agg #[_,_,_,_,_]) I rfl rfl fun b3 w I=>Ai Ag<|Abh<|Abi<|Sr<|As0 Mv<|Ap (Abu Bw rfl)<|Ax (Ld I AP 0 0 2 rfl rfl rfl)<|Abj (Abm I call117 (H6 _ I.j6 l hl r.head hr.head) rfl fun w I=>Ai Ag<|Abh<|Sr<|Ai Mv<|Ad (AbK rfl rfl)<|Abh ?_));refine Abl rfl (fun h1=>?_) (fun h1=>?_)
 ·refine Sr<|Ai Mv<|Ai Ag<|Abh<|Wr ?_;exact Rm (v:=.int .i64 _) rfl rfl I (by simp only[tup,checkRule];rw[if_pos h1])
 have h1:=Afh.1 h1;have hh:=D1 h1;refine Abk<|Abi<|Sr<|Ap (Abr AG rfl)<|As0 (Ld I Bi 0 4 1 rfl rfl rfl)<|Ai (AbA Aib rfl)<|Ad (AbL rfl rfl)<|Abh ?_;refine Abl rfl (fun h2=>?_) (fun h2=>?_)
 ·refine Sr<|Ai Ag<|Abh<|Wr ?_;exact Rm (v:=.int .i64 _) rfl rfl I (by simp only[tup,checkRule];rw[if_neg (by simp[h1]),if_pos (by omega)])
 refine Abk<|Abi<|Sr<|Ap (Abr AG rfl)<|As0 (Ld I Bi 0 4 1 rfl rfl rfl)<|Ai (AbA Aib rfl)<|Ai Mv<|Abh<|WP.block ?_;refine Abx (σ:=Nat) (fun k=>[(0,l.val),(3,Pt b3),(26,r.body.val),(27,.int .i64 r.body.xs.length),(28,.int .i64 k)]) (fun k w=>Inv B B.h [box b3 r.enc 64] w∧k≤r.body.xs.length∧∀j,j<k→∀hj':j<r.body.xs.length,checkAtom l.xs r.body.xs[j].atom=0) (fun k=>r.body.xs.length-k)
  ⟨0,⟨rfl,rfl,rfl,rfl,rfl,trivial⟩,I,Afa _,fun j hj=>(by omega)⟩ ?_
 rintro k e w ⟨I,hk,hn⟩;refine Sr<|Ad (AbC rfl rfl)<|Abh<|Abi ?_;refine Abl rfl (fun h3=>?_) (fun h3=>?_)
 ·have hk':k<r.body.xs.length:=by omega
  have E1:=hr.body.is.at hk';refine Abk<|Abi<|WP.block<|Sr<|Ap (Ix E1 Aib Ail rfl rfl)<|Ay (Abn EQ rfl (I.rd (E1.rd.part 0 3)) rfl rfl)<|Abj (O.alloc I Aiu rfl fun b7 w I=>Abj (Sy I EQ 0 rfl rfl rfl rfl fun w I=>Abh<|Sr<|As0 Mv<|Ap (Abr Bk rfl)<|Ax (Ld I AP 0 1 2 rfl rfl rfl)<|Abj (Abm I call117 (H6 _ I.j6 l hl r.body.xs[k].atom (hr.body.each _ (Ae5 hk'))) rfl fun w I=>Ai Ag<|Abh<|Sr<|Ai Mv<|Ad (AbK rfl rfl)<|Abh ?_)));refine Abl rfl (fun h4=>?_) (fun h4=>?_)
  ·refine Sr<|Ai Mv<|Ai Ag<|Abh<|Wr ?_;exact Rm (v:=.int .i64 _) rfl rfl I (by simp only[tup,checkRule];rw[if_neg (by simp[h1]),if_neg (by omega),if_pos (by rw[FX hk' hn h4];exact h4),FX hk' hn h4])
  refine Abk<|Abg<|Ai (Dd rfl rfl)<|Ai Mv<|Abh ?_;exact⟨k+1,⟨⟨rfl,rfl,rfl,rfl,rfl,trivial⟩,I.drop,by omega,fun j hj hj'=>by
   rcases Afd.1 hj with h'|h'
   ·exact hn j h' hj'
   ·subst h';exact Afh.1 h4⟩,by omega⟩
 have hb0:bodyErr l.xs r.body.xs=0:=C2.2 fun x hx=>by obtain⟨j,hj,rfl⟩:=Afz hx;exact hn j (by omega) hj
 have hb3:r.body.xs.length≤3:=by omega
 have n1:=Sn r.body.xs;have n2:=LU r.body.xs;clear hn hk h3;refine Abz<|Sr<|AbB (v:=.agg #[_,_,_,_,_]) (Ld I C0 0 0 5 rfl rfl rfl)<|Abj (Ac9 I call118 (PO _ I.j6 r hr.body hb3) rfl ?_);rintro _ h1' _ w I le1 ⟨u1,u2,rfl,rfl⟩;try simp only[AfH,AfC] at I
 refine Au Mv<|AbB (v:=u1) (Y.extract rfl rfl)<|AbB (v:=u2) (Y.extract rfl rfl)<|AbB (v:=u1) Ag<|AbB (v:=u2) Ag<|Abh ?_;have If:=I.front 1 rfl;obtain⟨h2',sI,le2,hv2,hx2,hs2,I2⟩:=If.p8 (fun _=>rfl) rfl;simp only[AhO,List.eraseIdx_zero,List.tail_cons] at I2;clear If;subst hv2;have I:=I2;have le12:=le1.trans le2;have q1:∀a∈sI.xs,a.In h2':=fun a ha=>by
  rw[hx2] at ha;obtain⟨x,hx,_,rfl⟩:=ER.1 ha;exact(hr.body.each x hx).le le12
 refine Sr<|As0 Mv<|Abj (Ac9 I call119 (Tf _ I.j6 sI ⟨hs2,by rw[hx2];omega⟩ q1 (by rw[hx2];omega)) rfl ?_);rintro _ h3' _ w I le3 ⟨bm,es,rfl,rfl,hc⟩;try simp only[AfH,AfC] at I
 refine AbB (v:=.map _) Ag<|Abh<|Abi<|Sr<|AbB (v:=u1) Mv<|Ap (Abu Bw rfl)<|Ax (Ld I AP 2 0 2 rfl rfl rfl)<|Abj (AbY (xs:=[r.head]) (enc:=Atm.enc) I Aix sizeOf61 Ain rfl (Nb rfl) rfl rfl (by decide) (fun _=>rfl) fun b50 h50 w I le50 sl50=>Abj (Ab0 I Aix XM 1 rfl rfl rfl (I.rd (sl50 0 _ rfl).2) rfl rfl (by decide) (by omega) (by omega) fun b51 c51 w I=>?_));have If:=I.front 1 rfl;have e0:(M8 r.body.xs).flatMap Atm.enc++Atm.enc r.head=(M8 r.body.xs++[r.head]).flatMap Atm.enc:=by simp
 rw[e0] at If;obtain⟨h5,sN,le5,hv5,hx5,hs5,I⟩:=If.p8 (fun _=>rfl) (by simp);have le25:B.h.le h5:=le12.trans (le3.trans (le50.trans le5));have V:=Tf _ I.j6 sN ⟨hs5,by rw[hx5,Ae2,Afv];omega⟩ (fun a ha=>by rw[hx5] at ha;rcases Afu.1 ha with ha|ha;(obtain⟨x,hx,_,rfl⟩:=LV.1 ha;exact(hr.body.each x hx).le le25);(rw[Afl.1 ha];exact hr.head.le le25)) (by rw[hx5,Ae2,Afv];omega);rw[hv5] at V;refine Abj (Ac9 I call119 (V) rfl ?_);rintro _ h6 _ w I le6 ⟨bn,en,rfl,rfl,hcn⟩;try simp only[AfH,AfC] at I
 obtain⟨h7,ents,clock,le7,hm7,hi7,I⟩:=I.p9;refine Abj (O.range I AiI rfl hm7 fun b53 w I=>Abh ?_);have hle:B.h.le h7:=le25.trans (le6.trans le7);rw[hx5] at hcn;rw[hx2] at hc;refine WP.block ?_;refine Abx (σ:=List Nat) (fun _=>[(0,l.val),(3,Pt b3),(11,.map (some bm)),(53,Pt b53)]) (fun done w=>Inv B h7 [mit b53 bn clock done,Ow bm es,box b3 r.enc 64] w∧∀q∈ents,q.born∈done→∀v,q.key=.int .i64 v→cntA (Gm r.body.xs) v≠0) (fun done=>(ents.filter fun q=>decide (q.born∉done)).length)
  ⟨[],⟨rfl,rfl,rfl,rfl,trivial⟩,I,fun q _ hq=>by cases hq⟩ ?_
 rintro done e w ⟨I,hd⟩;refine Sr ?_;refine Abj (O.next I 0 rfl rfl hm7 hi7 ?_ ?_)
 ·intro hall;refine Ab (Y.extract rfl rfl)<|Abh<|Abi<|Abq rfl ?_;have hfr:(Bf r 0 || Bf r 1 || Bf r 2)=false:=Tg fun v hv=>by
   have h8:=hcn v;rw[if_neg hv] at h8;obtain⟨q,hq,hk⟩:=Vl hi7 (KB h8);exact hd q hq (hall q hq) v hk
  clear hd hall;have I:=I.drop.drop;refine Abz<|Abi<|Abi ?_;by_cases o0:r.src < -1
  ·refine Abg<|Ap (Abr AV rfl)<|Ai (Ld I An 0 2 1 rfl rfl rfl)<|AT (Abs (AbC rfl rfl) (o0))<|Ab Mv<|Gg<|Gg<|Gg<|Gg<|Gg<|Gg<|Ab (Abo rfl rfl)<|Abh<|Abw rfl<|Sr<|Ai Ag<|Abh<|Wr ?_;exact Rm (v:=.int .i64 _) rfl rfl I (by simp only[tup,checkRule];rw[if_neg (by simp[h1]),if_neg (by omega),if_neg (by simp[hb0]),hfr,if_neg (by simp),if_pos (by omega)])
  by_cases o1:(r.body.xs.length:Int)≤r.src
  ·refine Abg<|Ap (Abr AV rfl)<|Ai (Ld I An 0 2 1 rfl rfl rfl)<|AF (Abt (AbC rfl rfl) (o0))<|Ab Mv<|Gp (Abr AV rfl)<|Gi (Ld I An 0 2 1 rfl rfl rfl)<|Gp (Abr AG rfl)<|Gs (Ld I Bi 0 4 1 rfl rfl rfl)<|Gi (AbA Aib rfl)<|GT (Abs (AbZ rfl rfl) (o1))<|Ab (Abp rfl rfl)<|Abh<|Abw rfl<|Sr<|Ai Ag<|Abh<|Wr ?_;exact Rm (v:=.int .i64 _) rfl rfl I (by simp only[tup,checkRule];rw[if_neg (by simp[h1]),if_neg (by omega),if_neg (by simp[hb0]),hfr,if_neg (by simp),if_pos (by omega)])
  refine Abg<|Ap (Abr AV rfl)<|Ai (Ld I An 0 2 1 rfl rfl rfl)<|AF (Abt (AbC rfl rfl) (o0))<|Ab Mv<|Gp (Abr AV rfl)<|Gi (Ld I An 0 2 1 rfl rfl rfl)<|Gp (Abr AG rfl)<|Gs (Ld I Bi 0 4 1 rfl rfl rfl)<|Gi (AbA Aib rfl)<|GF (Abt (AbZ rfl rfl) (o1))<|Ab (Abp rfl rfl)<|Abh<|Abq rfl ?_;have hle':=hle;have EH:=(hl.at (i:=r.head.pred.toNat) (by omega)).le hle;have eH:=BT hh.1 hh.2;refine Abk<|Sr<|As0 Mv<|Ap (Abu Bw rfl)<|Ap (Abu AW rfl)<|Ai (Ld I An 0 0 1 rfl rfl rfl)<|Ap (AbJ EH Aia Aim rfl rfl hh.1 rfl)<|Ap (Abr A3 rfl)<|Ai (Abn An rfl (I.rd (EH.rd.part 2 1)) rfl rfl)<|Ai Ag<|Abh<|Abi<|WP.block<|Abi ?_;refine Ack (σ:=Unit) (fun _=>[(0,l.val),(3,Pt b3),(13,.int .i64 (Al l.xs r.head.pred).kind),(80,.bool (decide ((Al l.xs r.head.pred).kind=0∧(r.src≠-1∨r.n≠0))))]) (fun _ w=>Inv B h7 [box b3 r.enc 64] w) ?_ ?_
  ·rw[eH];by_cases c1:(l.xs[r.head.pred.toNat]'(by omega)).kind=0
   ·by_cases c2:r.src≠-1
    ·exact Abg<|Ai Mv<|AT (Abs (AbI rfl rfl) (c1))<|Ab Mv<|Gp (Abr AV rfl)<|Gi (Ld I An 0 2 1 rfl rfl rfl)<|GT (Abs (AbK rfl rfl) (c2))<|Gb Mv<|Gg<|Gg<|Gg<|Gb (Abo rfl rfl)<|Ab (Abo rfl rfl)<|Ab Ag<|Abh<|⟨(),⟨rfl,rfl,rfl,bT ⟨c1,.inl c2⟩,trivial⟩,I⟩
    ·by_cases c3:r.n≠0
     ·exact Abg<|Ai Mv<|AT (Abs (AbI rfl rfl) (c1))<|Ab Mv<|Gp (Abr AV rfl)<|Gi (Ld I An 0 2 1 rfl rfl rfl)<|GF (Abt (AbK rfl rfl) (c2))<|Gb Mv<|Gp (Abr BJ rfl)<|Gi (Ld I An 0 3 1 rfl rfl rfl)<|GT (Abs (AbK rfl rfl) (c3))<|Gb (Abp rfl rfl)<|Ab (Abo rfl rfl)<|Ab Ag<|Abh<|⟨(),⟨rfl,rfl,rfl,bT ⟨c1,.inr c3⟩,trivial⟩,I⟩
     ·exact Abg<|Ai Mv<|AT (Abs (AbI rfl rfl) (c1))<|Ab Mv<|Gp (Abr AV rfl)<|Gi (Ld I An 0 2 1 rfl rfl rfl)<|GF (Abt (AbK rfl rfl) (c2))<|Gb Mv<|Gp (Abr BJ rfl)<|Gi (Ld I An 0 3 1 rfl rfl rfl)<|GF (Abt (AbK rfl rfl) (c3))<|Gb (Abp rfl rfl)<|Ab (Abo rfl rfl)<|Ab Ag<|Abh<|⟨(),⟨rfl,rfl,rfl,bF (fun h=>h.2.elim c2 c3),trivial⟩,I⟩
   ·exact Abg<|Ai Mv<|AF (Abt (AbI rfl rfl) (c1))<|Ab Mv<|Gg<|Gg<|Gg<|Gg<|Gg<|Gg<|Gg<|Gg<|Ab (Abp rfl rfl)<|Ab Ag<|Abh<|⟨(),⟨rfl,rfl,rfl,bF (fun h=>c1 h.1),trivial⟩,I⟩
  rintro _ e w I;refine Abl rfl (fun d1=>?_) (fun d1=>?_)
  ·refine Sr<|Ai Ag<|Abh<|Wr ?_;exact Rm (v:=.int .i64 _) rfl rfl I (by simp only[tup,checkRule];rw[if_neg (by simp[h1]),if_neg (by omega),if_neg (by simp[hb0]),hfr,if_neg (by simp),if_neg (by omega),if_pos d1])
  refine Abi ?_;refine Ack (σ:=Unit) (fun _=>[(3,Pt b3),(93,.bool (decide (0≤r.src∧((CO r r.src).neg=true∨(Al l.xs (CO r r.src).atom.pred).kind≠(Al l.xs r.head.pred).kind))))]) (fun _ w=>Inv B h7 [box b3 r.enc 64] w) ?_ ?_
  ·by_cases c1:0≤r.src
   ·have hs1:r.src.toNat<r.body.xs.length:=by omega
    have EB:=(hr.body.is.at hs1).le hle;rw[ND c1 (by omega)];have hap:=D1 (C2.1 hb0 _ (Ae5 hs1));have EP:=(hl.at (i:=(r.body.xs[r.src.toNat]'hs1).atom.pred.toNat) (by omega)).le hle;rw[BT hap.1 hap.2];by_cases c2:(r.body.xs[r.src.toNat]'hs1).neg=true
    ·exact Abg<|Ap (Abr AV rfl)<|Ai (Ld I An 0 2 1 rfl rfl rfl)<|AT (Abs (AbZ rfl rfl) (c1))<|Ab Mv<|Gp (Abr AG rfl)<|Gs (Ld I Bi 0 4 1 rfl rfl rfl)<|Gp (Abr AV rfl)<|Gi (Ld I An 0 2 1 rfl rfl rfl)<|Gp (AbJ EB Aib Ail rfl rfl c1 rfl)<|Gp (Abu BK rfl)<|GT (Y.b (Abn Br rfl (I.rd (EB.rd.part 0 1)) rfl rfl) (c2))<|Gb Mv<|Gg<|Gg<|Gg<|Gg<|Gg<|Gg<|Gg<|Gg<|Gg<|Gg<|Gg<|Gg<|Gg<|Gg<|Gb (Abo rfl rfl)<|Ab (Abo rfl rfl)<|Ab Ag<|Abh<|⟨(),⟨rfl,bT ⟨c1,.inl c2⟩,trivial⟩,I⟩
    ·by_cases c3:(l.xs[(r.body.xs[r.src.toNat]'hs1).atom.pred.toNat]'(by omega)).kind≠(Al l.xs r.head.pred).kind
     ·exact Abg<|Ap (Abr AV rfl)<|Ai (Ld I An 0 2 1 rfl rfl rfl)<|AT (Abs (AbZ rfl rfl) (c1))<|Ab Mv<|Gp (Abr AG rfl)<|Gs (Ld I Bi 0 4 1 rfl rfl rfl)<|Gp (Abr AV rfl)<|Gi (Ld I An 0 2 1 rfl rfl rfl)<|Gp (AbJ EB Aib Ail rfl rfl c1 rfl)<|Gp (Abu BK rfl)<|GF (Y.b (Abn Br rfl (I.rd (EB.rd.part 0 1)) rfl rfl) ((by simpa using c2)))<|Gb Mv<|Gs Mv<|Gp (Abr AG rfl)<|Gs (Ld I Bi 0 4 1 rfl rfl rfl)<|Gp (Abr AV rfl)<|Gi (Ld I An 0 2 1 rfl rfl rfl)<|Gp (AbJ EB Aib Ail rfl rfl c1 rfl)<|Gp (Abr Bk rfl)<|Gp (Abu AW rfl)<|Gi (Abn An rfl (I.rd (EB.rd.part 1 1)) rfl rfl)<|Gp (AbJ EP Aia Aim rfl rfl hap.1 rfl)<|Gp (Abr A3 rfl)<|Gi (Abn An rfl (I.rd (EP.rd.part 2 1)) rfl rfl)<|Gi Mv<|GT (Abs (AbK rfl rfl) (c3))<|Gb (Abp rfl rfl)<|Ab (Abo rfl rfl)<|Ab Ag<|Abh<|⟨(),⟨rfl,bT ⟨c1,.inr c3⟩,trivial⟩,I⟩
     ·exact Abg<|Ap (Abr AV rfl)<|Ai (Ld I An 0 2 1 rfl rfl rfl)<|AT (Abs (AbZ rfl rfl) (c1))<|Ab Mv<|Gp (Abr AG rfl)<|Gs (Ld I Bi 0 4 1 rfl rfl rfl)<|Gp (Abr AV rfl)<|Gi (Ld I An 0 2 1 rfl rfl rfl)<|Gp (AbJ EB Aib Ail rfl rfl c1 rfl)<|Gp (Abu BK rfl)<|GF (Y.b (Abn Br rfl (I.rd (EB.rd.part 0 1)) rfl rfl) ((by simpa using c2)))<|Gb Mv<|Gs Mv<|Gp (Abr AG rfl)<|Gs (Ld I Bi 0 4 1 rfl rfl rfl)<|Gp (Abr AV rfl)<|Gi (Ld I An 0 2 1 rfl rfl rfl)<|Gp (AbJ EB Aib Ail rfl rfl c1 rfl)<|Gp (Abr Bk rfl)<|Gp (Abu AW rfl)<|Gi (Abn An rfl (I.rd (EB.rd.part 1 1)) rfl rfl)<|Gp (AbJ EP Aia Aim rfl rfl hap.1 rfl)<|Gp (Abr A3 rfl)<|Gi (Abn An rfl (I.rd (EP.rd.part 2 1)) rfl rfl)<|Gi Mv<|GF (Abt (AbK rfl rfl) (c3))<|Gb (Abp rfl rfl)<|Ab (Abo rfl rfl)<|Ab Ag<|Abh<|⟨(),⟨rfl,bF (fun h=>h.2.elim c2 c3),trivial⟩,I⟩
   ·exact Abg<|Ap (Abr AV rfl)<|Ai (Ld I An 0 2 1 rfl rfl rfl)<|AF (Abt (AbZ rfl rfl) (c1))<|Ab Mv<|Gg<|Gg<|Gg<|Gg<|Gg<|Gg<|Gg<|Gg<|Gg<|Gg<|Gg<|Gg<|Gg<|Gg<|Gg<|Gg<|Gg<|Gg<|Gg<|Gg<|Gg<|Gg<|Gg<|Ab (Abp rfl rfl)<|Ab Ag<|Abh<|⟨(),⟨rfl,bF (fun h=>c1 h.1),trivial⟩,I⟩
  rintro _ e w I;refine Abl rfl (fun d2=>?_) (fun d2=>?_)
  ·refine Sr<|Ai Ag<|Abh<|Wr ?_;exact Rm (v:=.int .i64 _) rfl rfl I (by simp only[tup,checkRule];rw[if_neg (by simp[h1]),if_neg (by omega),if_neg (by simp[hb0]),hfr,if_neg (by simp),if_neg (by omega),if_neg d1,if_pos d2])
  refine Abi ?_;by_cases o0:r.n<0
  ·refine Abg<|Ap (Abr BJ rfl)<|Ai (Ld I An 0 3 1 rfl rfl rfl)<|AT (Abs (AbC rfl rfl) (o0))<|Ab Mv<|Gg<|Gg<|Gg<|Ab (Abo rfl rfl)<|Ab Ag<|Abh<|Abw rfl<|Sr<|Ai Ag<|Abh<|Wr ?_;exact Rm (v:=.int .i64 _) rfl rfl I (by simp only[tup,checkRule];rw[if_neg (by simp[h1]),if_neg (by omega),if_neg (by simp[hb0]),hfr,if_neg (by simp),if_neg (by omega),if_neg d1,if_neg d2,if_pos (by omega)])
  by_cases o1:15<r.n
  ·refine Abg<|Ap (Abr BJ rfl)<|Ai (Ld I An 0 3 1 rfl rfl rfl)<|AF (Abt (AbC rfl rfl) (o0))<|Ab Mv<|Gp (Abr BJ rfl)<|Gi (Ld I An 0 3 1 rfl rfl rfl)<|GT (Abs (AbL rfl rfl) (o1))<|Ab (Abp rfl rfl)<|Ab Ag<|Abh<|Abw rfl<|Sr<|Ai Ag<|Abh<|Wr ?_;exact Rm (v:=.int .i64 _) rfl rfl I (by simp only[tup,checkRule];rw[if_neg (by simp[h1]),if_neg (by omega),if_neg (by simp[hb0]),hfr,if_neg (by simp),if_neg (by omega),if_neg d1,if_neg d2,if_pos (by omega)])
  refine Abg<|Ap (Abr BJ rfl)<|Ai (Ld I An 0 3 1 rfl rfl rfl)<|AF (Abt (AbC rfl rfl) (o0))<|Ab Mv<|Gp (Abr BJ rfl)<|Gi (Ld I An 0 3 1 rfl rfl rfl)<|GF (Abt (AbL rfl rfl) (o1))<|Ab (Abp rfl rfl)<|Ab Ag<|Abh<|Abq rfl<|Abk<|Sr<|Ai Ag<|Abh<|Wr ?_;exact Rm (v:=.int .i64 _) rfl rfl I (by simp only[tup,checkRule];rw[if_neg (by simp[h1]),if_neg (by omega),if_neg (by simp[hb0]),hfr,if_neg (by simp),if_neg (by omega),if_neg d1,if_neg d2,if_neg (by omega)])
 ·intro q w hq hnd I;refine Ab (Y.extract rfl rfl)<|Abh<|Abi<|Abw rfl ?_;obtain⟨v,x,hvx,hkq,hvq⟩:=XQ hi7 hq;refine Abk<|WP.block<|Sr<|AbB (v:=.tuple #[.int .i64 v,.int .i64 x]) (hkq▸hvq▸Y.entry I 0 rfl rfl hm7 hi7 hq)<|Ai (Y.extract rfl rfl)<|Ai Ag<|Abh<|Sr<|AbB (v:=.map _) Mv<|Ai Mv<|Ai (Y.lookup I AiI Ait AiG 1 rfl rfl rfl)<|Ad (AbI rfl rfl)<|Abh ?_;refine Abl rfl (fun hz=>?_) (fun hz=>?_)
  ·refine Sr<|Ai Ag<|Abh ?_;have hz':cntA (Gm r.body.xs) v=0:=by rw[hc.get v] at hz;omega
   have hnz:cntA (M8 r.body.xs++[r.head]) v≠0:=fun h0=>Sj hvx (by rw[hcn v,if_pos h0]);refine Wr ?_;exact Rm (v:=.int .i64 _) rfl rfl I (by simp only[tup,checkRule];rw[if_neg (by simp[h1]),if_neg (by omega),if_neg (by simp[hb0]),if_pos (PP (Jp.2 ⟨hnz,hz'⟩) h1 hb0)])
  refine Abk ?_;refine⟨done++[q.born],⟨⟨rfl,rfl,rfl,rfl,trivial⟩,I,fun q' hq' hb' v' hv'=>?_⟩,KC hq (by simp) (by simpa using hnd) (fun y _ hy=>by simp at hy ⊢;exact hy.1)⟩;rcases Afu.1 hb' with h8|h8
  ·exact hd q' hq' h8 v' hv'
  ·have:q'=q:=So hi7.nodup hq' hq (Afl.1 h8);subst this;rw[hkq] at hv';cases hv';rw[hc.get v] at hz;omega
end
section
theorem Ti(B:Aq)(hB:B.ok)(x:Prd)(hx:x.name.size≤140737488355328):Fn prog 56 [x.val] B (fun v _=>v=.bool !(isName x.name)):=by
 refine Fo hB func56 rfl ntmps56 fun e I=>Sr<|Abj (O.box (v:=.agg #[_,_,_]) I rfl rfl fun b1 w I=>Ab Ag<|Abh<|Sr<|Ap (Abu Dk rfl)<|At0 (Ld I HW 0 0 1 rfl rfl rfl)<|Abj (Abm I call57 (Ya _ I.j6 x.name hx) rfl fun w I=>Ab (Y.not rfl)<|Ab Ag<|Abh<|Wr ?_));exact Rm (v:=.bool _) rfl rfl I (rfl)
theorem Tj(B:Aq)(hB:B.ok)(x:Prd):Fn prog 59 [x.val] B (fun v _=>v=.bool (CA x)):=by
 by_cases h:x.arity<0
 ·refine Fo hB func59 rfl ntmps59 fun e I=>Sr<|Abj (O.box (v:=.agg #[_,_,_]) I rfl rfl fun b1 w I=>Ab Ag<|Abh<|Sr<|Ap (Abr Bp rfl)<|Ai (Ld I An 0 1 1 rfl rfl rfl)<|AT (Abs (AbC rfl rfl) (h))<|Ab Mv<|Gg<|Gg<|Gg<|Ab (Abo rfl rfl)<|Ab Ag<|Abh<|Wr ?_);exact Rm (v:=.bool _) rfl rfl I (by simp only[tup,CA];rw[decide_eq_true (Or.inl h)])
 ·refine Fo hB func59 rfl ntmps59 fun e I=>Sr<|Abj (O.box (v:=.agg #[_,_,_]) I rfl rfl fun b1 w I=>Ab Ag<|Abh<|Sr<|Ap (Abr Bp rfl)<|Ai (Ld I An 0 1 1 rfl rfl rfl)<|AF (Abt (AbC rfl rfl) (h))<|Ab Mv<|Gp (Abr Bp rfl)<|Gi (Ld I An 0 1 1 rfl rfl rfl)<|Gd (AbL rfl rfl)<|Ab (Abp rfl rfl)<|Ab Ag<|Abh<|Wr ?_);exact Rm (v:=.bool _) rfl rfl I (by simp only[tup,CA];congr 1;rw[decide_eq_decide];omega)
theorem Tk(B:Aq)(hB:B.ok)(x:Prd):Fn prog 60 [x.val] B (fun v _=>v=.bool (badKind x)):=by
 by_cases h:x.kind<0
 ·refine Fo hB func60 rfl ntmps60 fun e I=>Sr<|Abj (O.box (v:=.agg #[_,_,_]) I rfl rfl fun b1 w I=>Ab Ag<|Abh<|Sr<|Ap (Abr A3 rfl)<|Ai (Ld I An 0 2 1 rfl rfl rfl)<|AT (Abs (AbC rfl rfl) (h))<|Ab Mv<|Gg<|Gg<|Gg<|Ab (Abo rfl rfl)<|Ab Ag<|Abh<|Wr ?_);exact Rm (v:=.bool _) rfl rfl I (by simp only[tup,badKind];rw[decide_eq_true (Or.inl h)])
 ·refine Fo hB func60 rfl ntmps60 fun e I=>Sr<|Abj (O.box (v:=.agg #[_,_,_]) I rfl rfl fun b1 w I=>Ab Ag<|Abh<|Sr<|Ap (Abr A3 rfl)<|Ai (Ld I An 0 2 1 rfl rfl rfl)<|AF (Abt (AbC rfl rfl) (h))<|Ab Mv<|Gp (Abr A3 rfl)<|Gi (Ld I An 0 2 1 rfl rfl rfl)<|Gd (AbL rfl rfl)<|Ab (Abp rfl rfl)<|Ab Ag<|Abh<|Wr ?_);exact Rm (v:=.bool _) rfl rfl I (by simp only[tup,badKind];congr 1;rw[decide_eq_decide];omega)
theorem Mc(B:Aq)(hB:B.ok)(p:Prg)(b:Nat)(hb:Zd B.h b p)(hl:HQ p.preds B.h)(f:FuncId)(ent:BE prog f)(fs cs:List Value)(q:Prd→Bool)(hq:Ex prog f fs cs B.h Prd.val p.preds.xs q) :
  Fn prog 54 [.func (.func f) fs.toArray cs.toArray,Pt b] B (fun v _=>v=.bool (p.preds.xs.any q)):=by
 refine Fo hB func54 rfl ntmps54 fun e I=>Sr<|Ab Ag<|Abh<|Sr<|Ap (Abu At rfl)<|As0 (Abn A7 rfl (I.rd (RT hb 0 1)) rfl rfl)<|Af Mv<|Abj (Abm I call55 (DY _ I.j6 p.preds hl f ent fs cs q hq) rfl fun w I=>Ab Ag<|Abh<|Wr ?_);exact Rm (v:=.bool _) rfl rfl I (rfl)
theorem KH(l:Sl Prd)(h0:Ae)(hl:l.Is 3 Prd.enc h0)(f:FuncId)(ent:BE prog f)(fs cs:List Value)(J:Ae→Nat→World→Prop)(q:Nat→Bool)
  (hok:∀hg k W,J hg k W→Aq.ok ⟨W,hg⟩)
  (hp:∀hg k x W,h0.le hg→l.xs[k]?=some x→J hg k W→Calls prog f (fs++[x.val]++cs).toArray W fun ed W'=>ed=.returned (.bool (q k))∧∃hg',hg.le hg'∧J hg' (k+1) W') (hg:Ae) (W:World) (hle:h0.le hg) (j0:J hg 0 W) :
  Calls prog 114 [l.val,.func (.func f) fs.toArray cs.toArray].toArray W (fun ed W'=>∃r:Int,ed=.returned (.int .i64 r)∧decide (0≤r)=(List.range l.xs.length).any q∧∃hg' k,hg.le hg'∧J hg' k W'):=by
 have hsm:=hl.small;refine AbV (args:=[l.val,.func (.func f) fs.toArray cs.toArray]) func114 rfl ntmps114 (by kernel_rfl) (by simp) fun e=>Sr<|Ai Ag<|Abh<|Abi<|Sr<|As0 Mv<|Ai (AbA Aia rfl)<|Ai Mv<|Abh<|WP.block ?_;refine Abx (σ:=Nat) (fun k=>[(0,l.val),(1,.func (.func f) fs.toArray cs.toArray),(7,.int .i64 l.xs.length),(8,.int .i64 k)]) (fun k w=>k≤l.xs.length∧(∀j,j<k→q j=false)∧∃h1,hg.le h1∧J h1 k w) (fun k=>l.xs.length-k)
  ⟨0,⟨rfl,rfl,rfl,rfl,trivial⟩,Afa _,fun j hj=>by omega,hg,Ae.le.refl _,j0⟩ ?_
 rintro k e w ⟨hk,hn,h1,gl1,j1⟩;have I:=Ab2 (hok _ _ _ j1);refine Sr<|Ad (AbC rfl rfl)<|Abh<|Abi ?_;refine Abl rfl (fun h=>?_) (fun h=>?_)
 ·have hk':k<l.xs.length:=by omega
  have E1:=(hl.le (hle.trans gl1)).at hk';refine Abk<|Abi<|WP.block<|Sr<|Ai Mv<|Ai Ag<|Abh<|Sr<|Af Mv<|As0 Mv<|Ai Mv<|Ap (Ix E1 Aia Aim rfl rfl)<|Ay (Abn KA rfl (I.rd (E1.rd.part 0 3)) rfl rfl) ?_;refine Abj (Adm ent rfl (hp h1 k _ _ (hle.trans gl1) (Ae4 hk') j1) rfl ?_);rintro ed w ⟨rfl,h2,gl2,j2⟩;refine⟨_,rfl,?_⟩;refine Abh ?_;refine AbG rfl (fun hb=>?_) (fun hb=>?_)
  ·refine Sr<|Ai Mv<|Ai Ag<|Abh<|Wr ?_;exact⟨.inl rfl,[.int .i64 k],⟨rfl,trivial⟩,k,rfl,by rw[decide_eq_true (AfR _)];exact(AfG.2 ⟨k,Af0.2 hk',hb⟩).symm,h2,k+1,gl1.trans gl2,j2⟩
  refine Abk<|Abg<|Ai (Dd rfl rfl)<|Ai Mv<|Abh ?_;exact⟨k+1,⟨⟨rfl,rfl,rfl,rfl,trivial⟩,hk',fun j hj=>by
   rcases Afd.1 hj with h'|rfl
   ·exact hn j h'
   ·exact hb,h2,gl1.trans gl2,j2⟩,by omega⟩
 refine Abz<|Sr<|Ai Ag<|Abh<|Wr ?_;exact⟨.inl rfl,[.int .i64 (-1)],⟨rfl,trivial⟩,-1,rfl,by
  rw[decide_eq_false (by omega)];symm;rw[Agb];intro j hj;rw[hn j (by have:=Af0.1 hj;omega)];decide,h1,k,gl1,j1⟩
theorem H7(l:Sl Prd)(h0:Ae)(hl:l.Is 3 Prd.enc h0)(f:FuncId)(ent:BE prog f)(fs cs:List Value)(J:Ae→Nat→World→Prop)(q:Nat→Bool)
  (hok:∀hg k W,J hg k W→Aq.ok ⟨W,hg⟩)
  (hp:∀hg k x W,h0.le hg→l.xs[k]?=some x→J hg k W→Calls prog f (fs++[x.val]++cs).toArray W fun ed W'=>ed=.returned (.bool (q k))∧∃hg',hg.le hg'∧J hg' (k+1) W') (hg:Ae) (W:World) (hle:h0.le hg) (j0:J hg 0 W) :
  Calls prog 55 [l.val,.func (.func f) fs.toArray cs.toArray].toArray W (fun ed W'=>ed=.returned (.bool ((List.range l.xs.length).any q))∧∃hg' k,hg.le hg'∧J hg' k W'):=by
 refine AbV (args:=[l.val,.func (.func f) fs.toArray cs.toArray]) func55 rfl ntmps55 (by kernel_rfl) (by simp) fun e=>?_;have I:=Ab2 (hok _ _ _ j0);refine Sr<|Ab Ag<|Abh<|Sr<|As0 Mv<|Af Mv<|Abj (Ace call114 (KH l h0 hl f ent fs cs J q hok hp hg _ hle j0) rfl ?_);rintro ed w ⟨r,rfl,hr,h2,k,gl2,j2⟩;refine⟨_,rfl,?_⟩;refine Ad (AbZ rfl rfl)<|Ab Ag<|Abh<|Wr ?_;exact⟨.inl rfl,[.bool _],⟨rfl,trivial⟩,by rw[←hr];rfl,h2,k,gl2,j2⟩
theorem VM(p:Prg)(b:Nat)(h0:Ae)(hb:Zd h0 b p)(hl:HQ p.preds h0)(f:FuncId)(ent:BE prog f)(fs cs:List Value)(J:Ae→Nat→World→Prop)(q:Nat→Bool)
  (hok:∀hg k W,J hg k W→Aq.ok ⟨W,hg⟩)
  (hp:∀hg k x W,h0.le hg→p.preds.xs[k]?=some x→J hg k W→Calls prog f (fs++[x.val]++cs).toArray W fun ed W'=>ed=.returned (.bool (q k))∧∃hg',hg.le hg'∧J hg' (k+1) W') (hg:Ae) (W:World) (hle:h0.le hg) (j0:J hg 0 W) :
  Calls prog 54 [.func (.func f) fs.toArray cs.toArray,Pt b].toArray W (fun ed W'=>ed=.returned (.bool ((List.range p.preds.xs.length).any q))∧∃hg' k,hg.le hg'∧J hg' k W'):=by
 refine AbV (args:=[.func (.func f) fs.toArray cs.toArray,Pt b]) func54 rfl ntmps54 (by kernel_rfl) (by simp) fun e=>?_;have I:=Ab2 (hok _ _ _ j0);refine Sr<|Ab Ag<|Abh<|Sr<|Ap (Abu At rfl)<|As0 (Abn A7 rfl (I.rd ((RT hb 0 1).le hle)) rfl rfl)<|Af Mv<|Abj (Ace call55 (H7 p.preds h0 hl f ent fs cs J q hok hp hg _ hle j0) rfl ?_);rintro ed w ⟨rfl,h2,k,gl2,j2⟩;refine⟨_,rfl,?_⟩;refine Ab Ag<|Abh<|Wr ?_;exact⟨.inl rfl,[.bool _],⟨rfl,trivial⟩,rfl,h2,k,gl2,j2⟩
theorem VN(B:Aq)(h:Ae)(b4 bm:Nat)(es:List (ByteArray×Int))(W:World)(I:Inv B h [box b4 [.map (some bm)] 107,Xf bm es] W)(x:Prd)(hr:I64 ((Dj es x.name).getD 0+1)) :
  Calls prog 58 [x.val,Pt b4].toArray W (fun ed W'=>ed=.returned (.bool (decide (1<(Dj es x.name).getD 0+1)))∧Inv B h [box b4 [.map (some bm)] 107,Xf bm (sset es x.name ((Dj es x.name).getD 0+1))] W'):=by
 refine AbV (args:=[x.val,Pt b4]) func58 rfl ntmps58 (by kernel_rfl) (by simp) fun e=>Sr<|Abj (O.box (v:=.agg #[_,_,_]) I rfl rfl fun b2 w I=>Ab Ag<|Abh<|Sr<|AbB (v:=.map _) (Ld I Sc 1 0 1 rfl rfl rfl)<|Ap (Abu Dk rfl)<|At0 (Ld I HW 0 0 1 rfl rfl rfl)<|Ai (AdO I underlying107 Ah9 AiG 2 rfl rfl rfl)<|Ai (Ad9 rfl rfl hr)<|Abj (Aeo I underlying107 Ah9 2 rfl rfl rfl rfl fun w I=>Abh<|Sr<|AbB (v:=.map _) (Ld I Sc 1 0 1 rfl rfl rfl)<|Ap (Abu Dk rfl)<|At0 (Ld I HW 0 0 1 rfl rfl rfl)<|Ai (AdO I underlying107 Ah9 AiG 2 rfl rfl rfl)<|Ad (AbL rfl rfl)<|Ab Ag<|Abh<|Wr ?_));have hs:Dj (sset es x.name ((Dj es x.name).getD 0+1)) x.name=some ((Dj es x.name).getD 0+1):=by rw[KS,if_pos rfl]
 exact⟨.inl rfl,[.bool (decide (1<(Dj es x.name).getD 0+1))],⟨by rw[hs];rfl,trivial⟩,rfl,I.drop⟩
end
section
def Yd(B:Aq)(h0:Ae)(l:List Prd)(b4 bm:Nat)(hg:Ae)(k:Nat)(W:World):Prop:=
 h0.le hg∧∃es,Inv B hg [box b4 [.map (some bm)] 107,Xf bm es] W∧∀s,(Dj es s).getD 0=(((l.take k).countP fun y=>decide (y.name=s):Nat):Int)
theorem Tl{l:List Prd}{k:Nat}{x:Prd}(hx:l[k]?=some x):Nh l k=decide ((1:Int)<(((l.take k).countP fun y=>decide (y.name=x.name):Nat):Int)+1):=by
 have hd:(l.getD k default).name=x.name:=by simp[Ae3,hx]
 unfold Nh;rw[hd];by_cases h:(l.take k).any (fun y=>decide (y.name=x.name))=true
 ·rw[h];rw[AfG] at h;have:=AhB.2 h;exact(decide_eq_true (by omega)).symm
 ·have h':(l.take k).any (fun y=>decide (y.name=x.name))=false:=by simpa using h
  rw[h'];have h0:¬0<(l.take k).countP fun y=>decide (y.name=x.name):=fun hp=>h (AfG.2 (AhB.1 hp));exact(decide_eq_false (by omega)).symm
theorem Ro(B:Aq)(h0:Ae)(l:List Prd)(b4 bm:Nat)(h5:l.length≤5)(hg:Ae)(k:Nat)(x:Prd)(W:World)(hx:l[k]?=some x)(j:Yd B h0 l b4 bm hg k W) :
  Calls prog 58 (([]:List Value)++[x.val]++[Pt b4]).toArray W fun ed W'=>ed=.returned (.bool (Nh l k))∧∃hg',hg.le hg'∧Yd B h0 l b4 bm hg' (k+1) W':=by
 obtain⟨gl,es,I,hes⟩:=j;have hk:=(Ae9.1 hx).1;have hle:(l.take k).countP (fun y=>decide (y.name=x.name))≤5:=AfY AgV (by simp;omega);refine(VN B hg b4 bm es W I x (by rw[hes];exact⟨by omega,by omega⟩)).mono ?_;rintro ed W' ⟨rfl,I'⟩;refine⟨by rw[Tl hx,hes],hg,Ae.le.refl _,gl,_,I',fun s=>?_⟩;have hx':l[k]=x:=(Ae9.1 hx).2;rw[KS,Afi hk,List.countP_append,hx'];by_cases e:s=x.name
 ·subst e;simp[hes]
 ·rw[if_neg e,hes];simp[Ne.symm e]
theorem Hl(B:Aq)(hB:B.ok)(p:Prg)(hp:p.In B.h)(hnm:p.Nm):Fn prog 22 [p.val] B (fun v _=>v=.int .i64 (Ac p)):=by
 refine Fo hB func22 rfl ntmps22 fun e I=>Sr<|Abj (O.box (v:=.agg #[_,_]) I rfl rfl fun b1 w I=>Ai Ag<|Abh ?_);have hb1:=I.at 0 rfl;obtain⟨h1,le1,hh1,I⟩:=I.settle;have hb1:Zd h1 b1 p:=(hh1 b1 (by simp[box])).trans hb1;have hp:=hp.le le1;have hsp:=hp.preds.small;have hsr:=hp.rules.is.small;refine Abi<|Abi ?_;by_cases o0:5<(p.preds.xs.length:Int)
 ·refine Abg<|Ap (Abu At rfl)<|As0 (Abn A7 rfl (I.rd (RT hb1 0 1)) rfl rfl)<|Ai (AbA Aia rfl)<|AT (Abs (AbL rfl rfl) (o0))<|Ab Mv<|Gg<|Gg<|Gg<|Gg<|Ab (Abo rfl rfl)<|Abh<|Abw rfl<|Sr<|Ai Ag<|Abh<|Wr ?_;exact Rm (v:=.int .i64 _) rfl rfl I (by simp only[tup,Ac];rw[if_pos (by omega)])
 by_cases o1:8<(p.rules.xs.length:Int)
 ·refine Abg<|Ap (Abu At rfl)<|As0 (Abn A7 rfl (I.rd (RT hb1 0 1)) rfl rfl)<|Ai (AbA Aia rfl)<|AF (Abt (AbL rfl rfl) (o0))<|Ab Mv<|Gp (Abr AU rfl)<|Gs (Abn Cc rfl (I.rd (RT hb1 1 1)) rfl rfl)<|Gi (AbA Aic rfl)<|GT (Abs (AbL rfl rfl) (o1))<|Ab (Abp rfl rfl)<|Abh<|Abw rfl<|Sr<|Ai Ag<|Abh<|Wr ?_;exact Rm (v:=.int .i64 _) rfl rfl I (by simp only[tup,Ac];rw[if_pos (by omega)])
 refine Abg<|Ap (Abu At rfl)<|As0 (Abn A7 rfl (I.rd (RT hb1 0 1)) rfl rfl)<|Ai (AbA Aia rfl)<|AF (Abt (AbL rfl rfl) (o0))<|Ab Mv<|Gp (Abr AU rfl)<|Gs (Abn Cc rfl (I.rd (RT hb1 1 1)) rfl rfl)<|Gi (AbA Aic rfl)<|GF (Abt (AbL rfl rfl) (o1))<|Ab (Abp rfl rfl)<|Abh<|Abq rfl ?_;have c0:¬(5<p.preds.xs.length∨8<p.rules.xs.length):=by omega
 refine Abk<|Sr<|Af (Acq rfl rfl)<|Af Ag<|Abh<|Sr<|Abj (AeB I fun bm w I=>Abj (O.alloc I zeroValue107 rfl fun b4 w I=>Abj (Ab3 (v:=.map _) I Sc 0 rfl rfl rfl rfl rfl rfl (Nb rfl) rfl fun w I=>Abh<|Abi<|WP.block<|Sr<|Af Mv<|Abj (Acd I call54 (fs:=[]) (cs:=[Pt b1]) rfl (Mc _ I.j6 p b1 hb1 hp.preds 56 call56 [] [] (fun x=>!isName x.name) (fun B' hB' _ x hx=>Ti B' hB' x (hnm x hx))) rfl fun w I=>Ab Ag<|Abh ?_))));refine AbG rfl (fun c1=>?_) (fun c1=>?_)
 ·refine Sr<|Ai Ag<|Abh<|Wr ?_;exact Rm (v:=.int .i64 _) rfl rfl I (by simp only[tup,Ac];rw[if_neg c0,if_pos c1])
 refine Sr<|Af Mv<|Af (Acq rfl rfl) ?_;refine Abj (Adm call54 (fs:=[]) (cs:=[Pt b1]) rfl (VM p b1 h1 hb1 hp.preds 58 call58 [] [Pt b4] (Yd B h1 p.preds.xs b4 bm) (Nh p.preds.xs)
  (fun hg k W ⟨_,es,I,_⟩=>I.j6) (fun hg k x W _ hx j=>Ro B h1 p.preds.xs b4 bm (by omega) hg k x W hx j) h1 _ (Ae.le.refl _) ⟨Ae.le.refl _,[],I,fun s=>by simp[Dj]⟩) rfl ?_)
 rintro ed w ⟨rfl,h2,k2,gl2,gl3,es,I,_⟩;refine⟨_,rfl,?_⟩;have hb1:Zd h2 b1 p:=gl2 _ _ hb1;have hp:=hp.le gl2;refine Ab Ag<|Abh ?_;refine AbG rfl (fun c2=>?_) (fun c2=>?_)
 ·refine Sr<|Ai Ag<|Abh<|Wr ?_;exact Rm (v:=.int .i64 _) rfl rfl I (by simp only[tup,Ac];rw[if_neg c0,if_neg (by rw[c1];decide),if_pos (show G8 p.preds.xs=true from c2)])
 refine Sr<|Af Mv<|Abj (Acd I call54 (fs:=[]) (cs:=[Pt b1]) rfl (Mc _ I.j6 p b1 hb1 hp.preds 59 call59 [] [] CA (fun B' hB' _ x _=>Tj B' hB' x)) rfl fun w I=>Ab Ag<|Abh ?_);refine AbG rfl (fun c3=>?_) (fun c3=>?_)
 ·refine Sr<|Ai Ag<|Abh<|Wr ?_;exact Rm (v:=.int .i64 _) rfl rfl I (by simp only[tup,Ac];rw[if_neg c0,if_neg (by rw[c1];decide),if_neg (by unfold G8;rw[c2];decide),if_pos c3])
 refine Sr<|Af Mv<|Abj (Acd I call54 (fs:=[]) (cs:=[Pt b1]) rfl (Mc _ I.j6 p b1 hb1 hp.preds 60 call60 [] [] badKind (fun B' hB' _ x _=>Tk B' hB' x)) rfl fun w I=>Ab Ag<|Abh ?_);refine AbG rfl (fun c4=>?_) (fun c4=>?_)
 ·refine Sr<|Ai Ag<|Abh<|Wr ?_;exact Rm (v:=.int .i64 _) rfl rfl I (by simp only[tup,Ac];rw[if_neg c0,if_neg (by rw[c1];decide),if_neg (by unfold G8;rw[c2];decide),if_neg (by rw[c3];decide),if_pos c4])
 have e4:Ac p=if rulesErr p.preds.xs p.rules.xs≠0 then rulesErr p.preds.xs p.rules.xs else @ite Int (∃M,Sol (AX p.rules.xs) p.preds.xs.length M) (Classical.propDecidable _) 0 8:=by
  unfold Ac;rw[if_neg c0,if_neg (by rw[c1];decide),if_neg (by unfold G8;rw[c2];decide),if_neg (by rw[c3];decide),if_neg (by rw[c4];decide)]
 refine Abk<|Abi<|Sr<|Ap (Abr AU rfl)<|As0 (Abn Cc rfl (I.rd (RT hb1 1 1)) rfl rfl)<|Ai (AbA Aic rfl)<|Ai Mv<|Abh<|WP.block ?_;refine Abx (σ:=Nat) (fun k=>[(1,Pt b1),(36,p.rules.val),(37,.int .i64 p.rules.xs.length),(38,.int .i64 k)]) (fun k w=>Inv B h2 [] w∧k≤p.rules.xs.length∧∀j,j<k→∀hj:j<p.rules.xs.length,checkRule p.preds.xs p.rules.xs[j]=0) (fun k=>p.rules.xs.length-k)
  ⟨0,⟨rfl,rfl,rfl,rfl,trivial⟩,I.clear,Afa _,fun j hj=>by omega⟩ ?_
 rintro k e w ⟨I,hk,hn⟩;refine Sr<|Ad (AbC rfl rfl)<|Abh<|Abi ?_;refine Abl rfl (fun h14=>?_) (fun h14=>?_)
 ·have hk':k<p.rules.xs.length:=by omega
  have E1:=hp.rules.is.at hk';refine Abk<|Abi<|WP.block<|Sr<|Ap (Ix E1 Aic Aiv rfl rfl)<|AbB (v:=.agg #[_,_,_,_,_]) (Abn C0 rfl (I.rd (E1.rd.part 0 5)) rfl rfl)<|Abj (O.alloc I Aip rfl fun b6 w I=>Abj (Ab3 (v:=.agg #[_,_,_,_,_]) I C0 0 rfl rfl rfl rfl rfl rfl (Nb rfl) rfl fun w I=>Abh<|Sr<|Ap (Abu At rfl)<|As0 (Abn A7 rfl (I.rd (RT hb1 0 1)) rfl rfl)<|AbB (v:=.agg #[_,_,_,_,_]) (Ld I C0 0 0 5 rfl rfl rfl)<|Abj (Abm I call61 (Th _ I.j6 p.preds hp.preds p.rules.xs[k] (hp.rules.each _ (Ae5 hk'))) rfl fun w I=>Ai Ag<|Abh<|Sr<|Ai Mv<|Ad (AbK rfl rfl)<|Abh ?_)));refine Abl rfl (fun h17=>?_) (fun h17=>?_)
  ·refine Sr<|Ai Mv<|Ai Ag<|Abh<|Wr ?_;exact Rm (v:=.int .i64 _) rfl rfl I (by simp only[tup,e4];rw[Jv hk' hn h17,if_pos h17])
  refine Abk<|Abg<|Ai (Dd rfl rfl)<|Ai Mv<|Abh ?_;exact⟨k+1,⟨⟨rfl,rfl,rfl,rfl,trivial⟩,I.drop,hk',fun j hj hj'=>by
   rcases Afd.1 hj with h'|rfl
   ·exact hn j h' hj'
   ·exact Afh.1 h17⟩,by omega⟩
 have hr0:rulesErr p.preds.xs p.rules.xs=0:=Bn.2 fun r hr=>by
  obtain⟨j,hj,rfl⟩:=Afz hr;exact hn j (by omega) hj
 have e5:Ac p=@ite Int (∃M,Sol (AX p.rules.xs) p.preds.xs.length M) (Classical.propDecidable _) 0 8:=by rw[e4,if_neg (by rw[hr0];decide)]
 refine Abz<|Abi<|Sr<|Ax (Abn As rfl (I.rd (RT hb1 0 2)) rfl rfl)<|Abj (AbE I call62 (Hk _ I.j6 p hp (Jw hr0) (by omega)) rfl ?_);rintro v52 h3 w I le3 hL;rcases hL with ⟨s,hS,hI,rfl⟩|⟨hno,rfl⟩
 ·refine Au Mv<|As0 (Y.extract rfl rfl)<|Ab (Y.extract rfl rfl)<|As0 Ag<|Ab Ag<|Abh<|Sr<|Ab Mv<|Ab (Y.not rfl)<|Abh<|Abq rfl<|Abk<|Sr<|Ai Ag<|Abh<|Wr ?_;exact Rm (v:=.int .i64 _) rfl rfl I (by simp only[tup,e5];rw[if_pos ⟨_,hS.sol⟩])
 ·refine Au Mv<|As0 (Y.extract rfl rfl)<|Ab (Y.extract rfl rfl)<|As0 Ag<|Ab Ag<|Abh<|Sr<|Ab Mv<|Ab (Y.not rfl)<|Abh<|Abw rfl<|Sr<|Ai Ag<|Abh<|Wr ?_;exact Rm (v:=.int .i64 _) rfl rfl I (by simp only[tup,e5];rw[if_neg (fun ⟨M,hM⟩=>hno M hM)])
end
section
theorem bsz(a:Array UInt8):ByteArray.size ⟨a⟩=a.size:=rfl
theorem txl(a:Array UInt8):tx ⟨a⟩=a.toList:=rfl
theorem JU{B:Aq}{h:Ae}{M:List SA}{w:World}{b:Nat}(I:Inv B h M w){p:Value}{a:Option Addr}{k c:Nat}{l:List UInt8}(n m:Nat)(hnm:n≠m)(hn:M[n]?=some (IK b p (.slice a k c)))(hm:M[m]?=some (MN b (.slice a k c) l))(hp:Xl b p){s:ByteArray}{t:Bs}(ht:tx s=t)(hl:l.length+t.length≤140737488355328) :
  Calls prog 23 [Pt b,.string s].toArray w fun x w'=>x=.returned (.tuple #[.int .i64 s.size,.nilIface])∧∃a' k' c',Inv B h ((M.set m (MN b (.slice a' k' c') (l++t))).set n (IK b ((Pt b)) (.slice a' k' c'))) w':=by
 subst ht;exact Vi I n m hnm hn hm hp s (by rw[BF] at hl;exact hl)
theorem Tm{n:Nat}:∀{L:List Bs},(∀x∈L,x.length≤n)→(L.flatMap (·++[10])).length≤L.length*(n+1)
 |[],_=>by simp
 |x::r,h=>by
  have ih:=Tm fun y hy=>h y (Ae8 _ hy);have:=h x (by simp);simp only[AfK,Ae2,Ae6,Afc,AfP,Ahi] at ih ⊢;omega
theorem FE{n:Nat}(h:n<100):(dgL n).length≤2:=by
 have:∀i:Fin 100,(dgL i.val).length≤2:=by decide
 exact this ⟨n,h⟩
section
variable {p:Prg}(hp0:Ac p=0)
include hp0
theorem D3{x:Prd}(hx:x∈p.preds.xs):x.name.size≤8:=by
 have:=(Nq hp0).1 x hx;unfold isName at this;simp only[Afn,decide_eq_true_eq] at this;exact this.1.2
theorem NE{x:Prd}(hx:x∈p.preds.xs):(Eu x).length≤19:=by
 have h1:=D3 hp0 hx;have h2:=Cd hp0 x hx;unfold AE at h2;have h2:=of_decide_eq_true h2;have d1:=FE (n:=x.arity.toNat) (by omega);have d2:=FE (n:=x.kind.toNat) (by omega);unfold Eu predW;simp only[Ae2,Ae6,Afc,BF];omega
theorem IY{a:Atm}(ao:AOk p.preds.xs a):(A0 p.preds.xs a).length≤16:=by
 have:=JO ao;have:=D3 hp0 (Ba ao.pred);omega
theorem To{x:Ltl}(ao:AOk p.preds.xs x.atom):(Gn p.preds.xs x).length≤17:=by
 have:=IY hp0 ao;unfold Gn;split<;>simp only[Ae2,Ae6,Afc]<;>omega
theorem PQ{r:Rul}(hr:r∈p.rules.xs):(joinT [44,32] (r.body.xs.map (Gn p.preds.xs))).length≤57:=by
 have ro:=BA hp0 r hr;have:=IV (sep:=[44,32]) (n:=17) (l:=r.body.xs.map (Gn p.preds.xs)) fun x hx=>by
  obtain⟨y,hy,rfl⟩:=AfE.1 hx;exact To hp0 (Bc ro.preds (ro.body y hy))
 have:=ro.len;simp only[Afw,Ae6,Afc] at *;omega
theorem Tp{r:Rul}(hr:r∈p.rules.xs):(E9 p.preds.xs r).length≤9:=by
 have ro:=BA hp0 r hr;have d1:=FE (n:=r.n.toNat) (by have:=ro.n;omega);have d2:=FE (n:=r.src.toNat) (by have:=ro.src;have:=ro.len;omega);unfold E9 Nk;split
 ·split<;>simp only[Ae2,Ae6,Afc]<;>omega
 ·simp
theorem NF{r:Rul}(hr:r∈p.rules.xs):(Dn p.preds.xs r).length≤90:=by
 have ro:=BA hp0 r hr;have h1:=IY hp0 (Bc ro.preds ro.head);have h2:=Tp hp0 hr;have h3:=PQ hp0 hr;unfold Dn Dq;split<;>simp only[Ae2,Ae6,Afc] at *<;>omega
theorem VO{x:Bs}(hx:x∈BI p):x.length≤90:=by
 rcases Afu.1 hx with hx|hx
 ·obtain⟨y,hy,rfl⟩:=AfE.1 hx;have:=NE hp0 hy;omega
 ·obtain⟨y,hy,rfl⟩:=AfE.1 hx;exact NF hp0 hy
theorem Tq:(BI p).length≤13:=by
 have:=AB hp0;unfold BI;simp only[Ae2,Afw];omega
theorem JV(k:Nat):(((BI p).take k).flatMap (·++[10])).length≤1183:=by
 have:=Tm (n:=90) (L:=(BI p).take k) fun x hx=>VO hp0 (AfX hx);have h2:=Tq hp0;have h3:((BI p).take k).length≤13:=by rw[Afj];omega
 have:=AfA (90+1) h3;omega
end
end
section
set_option linter.unusedSimpArgs false
noncomputable def JW(p:Prg):Value:=if Ac p=0 then .tuple #[.string (mk (Cz p)),.int .i64 0] else .tuple #[.string ⟨#[]⟩,.int .i64 (Ac p)]
theorem VP{α:Type}{a b:List α}{k:Nat}(hk:k<a.length):(a++b).take (k+1)=(a++b).take k++[a[k]]:=by
 rw[AfS,AfU hk,Ae4 hk];rfl
theorem Tr{α:Type}{a b:List α}{k:Nat}(hk:k<b.length):(a++b).take (a.length+(k+1))=(a++b).take (a.length+k)++[b[k]]:=by
 rw[←Ahw,AfS,Af5 (by omega),AgN,Ae4 hk];rfl
theorem Md(B:Aq)(hB:B.ok)(p:Prg)(hp:p.In B.h)(hnm:p.Nm):Fn prog 7 [p.val] B (fun v _=>v=JW p):=by
 have hl:=hp.preds;have hrs:=hp.rules;refine Fo hB func7 rfl ntmps7 fun e I=>Sr<|Abj (O.box (v:=.agg #[_,_]) I rfl rfl fun b1 w I=>At0 Ag<|Ai Ag<|Abh<|Abi<|Sr<|Ax (Ld I As 0 0 2 rfl rfl rfl)<|Abj (Abm I call22 (Hl _ I.j6 p hp hnm) rfl fun w I=>Ai Ag<|Abh<|Sr<|Ai Mv<|Ad (AbK rfl rfl)<|Abh ?_));refine Abl rfl (fun h2=>?_) (fun h2=>?_)
 ·refine Sr<|Ai Mv<|At0 Ag<|Ai Ag<|Abh<|Wr ?_;exact BH.mk (vs:=[.string _,.int .i64 _]) rfl ⟨rfl,rfl,trivial⟩ I.j5 (by simp only[tup];unfold JW;rw[if_neg h2])
 have hp0:Ac p=0:=Afh.1 h2;have h5:=AB hp0;refine Abk<|Sr<|Abj (O.alloc I zeroValue51 rfl fun b5 w I=>Abh ?_);have I:=I.aa0 5 b5;refine Abi<|Sr<|Ap (Abu At rfl)<|As0 (Ld I A7 2 0 1 rfl rfl rfl)<|Ai (AbA Aia rfl)<|Ai Mv<|Abh<|WP.block ?_;refine Abx (σ:=Nat×Value×Option Addr×Nat×Nat×Ae) (fun z=>[(1,Pt b1),(5,Pt b5),(22,p.preds.val),(23,.int .i64 p.preds.xs.length),(24,.int .i64 z.1)])
  (fun z w=>z.1≤p.preds.xs.length∧Xl b5 z.2.1∧B.h.le z.2.2.2.2.2∧Inv B z.2.2.2.2.2 [MN b5 (.slice z.2.2.1 z.2.2.2.1 z.2.2.2.2.1) (((BI p).take z.1).flatMap (·++[10])),IK b5 z.2.1 (.slice z.2.2.1 z.2.2.2.1 z.2.2.2.2.1),box b1 p.enc 25] w) (fun z=>p.preds.xs.length-z.1)
  ⟨(0,.pointer none,none,0,0,B.h),⟨rfl,rfl,rfl,rfl,rfl,trivial⟩,Afa _,.inl rfl,Ae.le.refl _,I⟩ ?_
 rintro⟨k,pv,a,n,c,hh⟩ e w ⟨hk,hpv,gl,I⟩;dsimp only at hk hpv gl I ⊢;refine Sr<|Ad (AbC rfl rfl)<|Abh<|Abi ?_;refine Abl rfl (fun h6=>?_) (fun h6=>?_)
 ·have hk':k<p.preds.xs.length:=by omega
  have E:=(hl.le gl).at hk';have hmem:p.preds.xs[k]∈p.preds.xs:=Ae5 hk';have hlen:=NE hp0 hmem;have hnl:=D3 hp0 hmem;have hfi:=Cd hp0 _ hmem;have hnx:(BI p).take (k+1)=(BI p).take k++[Eu p.preds.xs[k]]:=by
   unfold BI;rw[VP (by rw[Afw];exact hk'),AhS]
  have hsl:=JV hp0 k;obtain⟨⟨nm,ar,kd⟩,hx⟩:∃x,p.preds.xs[k]=x:=⟨_,rfl⟩;rw[hx] at E hlen hnl hfi hnx;unfold AE at hfi;obtain⟨a0,a2,d0,d3⟩:=of_decide_eq_true hfi;dsimp only at a0 a2 d0 d3 hnl;obtain⟨na,rfl⟩:∃n:Nat,ar=n:=⟨ar.toNat,by omega⟩;obtain⟨nk,rfl⟩:∃n:Nat,kd=n:=⟨kd.toNat,by omega⟩;have dl1:=FE (n:=na) (by omega);have dl2:=FE (n:=nk) (by omega);refine Abk<|Abi<|WP.block<|Sr<|Ap (Ix E Aia Aim rfl rfl)<|Ay (Abn KA rfl (I.rd (E.rd.part 0 3)) rfl rfl)<|Abj (O.alloc I AiB rfl fun b7 w I=>Abj (Sy I KA 0 rfl rfl rfl rfl fun w I=>Abh<|AbM AC I 14 (by kernel_rfl)<|Fp (fun _ w us hl I=>Abu Dk rfl)<|Ft (fun _ w us hl I=>Ld I HW 0 0 1 rfl rfl rfl)<|Ft (fun _ w us hl I=>AbP rfl rfl ((by simp only[Afb,bsz,Afx,Ae6,Afc,Ae2];omega)))<|Ft (fun _ w us hl I=>AbP rfl rfl ((by simp only[Afb,bsz,Afx,Ae6,Afc,Ae2];omega)))<|Fp (fun _ w us hl I=>Abr Bp rfl)<|Fi (fun _ w us hl I=>Ld I An 0 1 1 rfl rfl rfl)<|AcZ (fun _=>Aj _) (fun _ w us hl I=>Abm I call24 (GL _ I.j6 na (by omega)) rfl (fun w' I'=>⟨rfl,I'⟩))<|Ft (fun _ w us hl I=>AbP rfl rfl ((by simp only[Afb,bsz,Afx,Ae6,Afc,Ae2];omega)))<|Ft (fun _ w us hl I=>AbP rfl rfl ((by simp only[Afb,bsz,Afx,Ae6,Afc,Ae2];omega)))<|Fp (fun _ w us hl I=>Abr A3 rfl)<|Fi (fun _ w us hl I=>Ld I An 0 2 1 rfl rfl rfl)<|AcZ (fun _=>Aj _) (fun _ w us hl I=>Abm I call24 (GL _ I.j6 nk (by omega)) rfl (fun w' I'=>⟨rfl,I'⟩))<|Ft (fun _ w us hl I=>AbP rfl rfl ((by simp only[Afb,bsz,Afx,Ae6,Afc,Ae2];omega)))<|Ft (fun _ w us hl I=>AbP rfl rfl ((by simp only[Afb,bsz,Afx,Ae6,Afc,Ae2];omega)))<|AbX fun _ w hl I=>?_));try unfold CT
  refine Abj (Ace call23 (JU I 2 1 (by decide) rfl rfl hpv (t:=Eu ⟨nm,na,nk⟩++[10]) (by simp only[Eu,predW,BD,txl,Afe,Afs,AfH,AfC]) (by rw[Ae2];simp only[Ae6,Afc];omega)) rfl ?_);rintro ed w ⟨rfl,a',k',c',I⟩;refine⟨_,rfl,?_⟩;refine Abh<|Abg<|Ai (Dd rfl rfl)<|Ai Mv<|Abh ?_;refine⟨(k+1,Pt b5,a',k',c',_),⟨⟨rfl,rfl,rfl,rfl,rfl,trivial⟩,by dsimp only;omega,.inr rfl,gl.trans hl,?_⟩,by dsimp only;omega⟩;dsimp only;rw[hnx,Afm,AfT];exact I.drop
 obtain rfl:k=p.preds.xs.length:=by omega
 clear h6;refine Abz<|Abi<|Sr<|Ap (Abr AU rfl)<|As0 (Ld I Cc 2 1 1 rfl rfl rfl)<|Ai (AbA Aic rfl)<|Ai Mv<|Abh<|WP.block ?_;refine Abx (σ:=Nat×Value×Option Addr×Nat×Nat×Ae) (fun z=>[(1,Pt b1),(5,Pt b5),(45,p.rules.val),(46,.int .i64 p.rules.xs.length),(47,.int .i64 z.1)])
  (fun z w=>z.1≤p.rules.xs.length∧Xl b5 z.2.1∧B.h.le z.2.2.2.2.2∧Inv B z.2.2.2.2.2 [MN b5 (.slice z.2.2.1 z.2.2.2.1 z.2.2.2.2.1) (((BI p).take (p.preds.xs.length+z.1)).flatMap (·++[10])),IK b5 z.2.1 (.slice z.2.2.1 z.2.2.2.1 z.2.2.2.2.1),box b1 p.enc 25] w) (fun z=>p.rules.xs.length-z.1)
  ⟨(0,pv,a,n,c,hh),⟨rfl,rfl,rfl,rfl,rfl,trivial⟩,Afa _,hpv,gl,I⟩ ?_
 clear I hpv gl;rintro⟨k,pv,a,n,c,hh⟩ e w ⟨hk,hpv,gl,I⟩;dsimp only at hk hpv gl I ⊢;refine Sr<|Ad (AbC rfl rfl)<|Abh<|Abi ?_;refine Abl rfl (fun h11=>?_) (fun h11=>?_)
 ·have hk':k<p.rules.xs.length:=by omega
  have E:=(hrs.is.le gl).at hk';have hmem:p.rules.xs[k]∈p.rules.xs:=Ae5 hk';have hrin:=hrs.each _ hmem;have ro:=BA hp0 _ hmem;have hlen:=NF hp0 hmem;have hal:=IY hp0 (Bc ro.preds ro.head);have hvl:=Tp hp0 hmem;have hbl:=PQ hp0 hmem;have hnx:(BI p).take (p.preds.xs.length+(k+1))=(BI p).take (p.preds.xs.length+k)++[Dn p.preds.xs p.rules.xs[k]]:=by
   have:=Tr (a:=p.preds.xs.map Eu) (b:=p.rules.xs.map (Dn p.preds.xs)) (k:=k) (by rw[Afw];exact hk');rw[Afw,AhS] at this;exact this
  have hsl:=JV hp0 (p.preds.xs.length+k);obtain⟨r,hr⟩:∃x,p.rules.xs[k]=x:=⟨_,rfl⟩;rw[hr] at E hmem hrin ro hlen hal hvl hbl hnx;have ah:=Bc ro.preds ro.head;have Eh:=(hl.le gl).el.el (Cs ah.pred.1 ah.pred.2);have hnh:(Al p.preds.xs r.head.pred).name.size≤140737488355328:=by have:=D3 hp0 (Ba ah.pred);omega
  obtain⟨nn,hnn⟩:∃n:Nat,r.n=n:=⟨r.n.toNat,by have:=ro.n;omega⟩;have dl1:=FE (n:=nn) (by have:=ro.n;omega);have hbs:=hrin.body.is.small;have hb3:=ro.len;refine Abk<|Abi<|WP.block<|Sr<|Ap (Ix E Aic Aiv rfl rfl)<|AbB (v:=.agg #[_,_,_,_,_]) (Abn C0 rfl (I.rd (E.rd.part 0 5)) rfl rfl)<|Abj (O.alloc I Aip rfl fun b9 w I=>Abj (Ab3 (v:=.agg #[_,_,_,_,_]) I C0 0 rfl rfl rfl rfl rfl rfl (Nb rfl) rfl fun w I=>Abh<|Sr<|Ap (Abu At rfl)<|As0 (Ld I A7 3 0 1 rfl rfl rfl)<|Ap (Abu Bw rfl)<|Ax (Ld I AP 0 0 2 rfl rfl rfl)<|Abj (Abm I call25 (Hj _ I.j6 p.preds (hl.le gl) r.head (hrin.head.le gl) ah hnh) rfl fun w I=>At0 Ag<|Abh<|Abi<|Sr<|Ap (Abr BJ rfl)<|Ai (Ld I An 0 3 1 rfl rfl rfl)<|Abj (Abm I call24 (hnn▸GL _ I.j6 nn (by have:=ro.n;omega)) rfl fun w I=>At0 Ag<|Abh ?_))));refine Acc (σ:=Unit) (fun _=>[(1,Pt b1),(5,Pt b5),(9,Pt b9),(45,p.rules.val),(46,.int .i64 p.rules.xs.length),(47,.int .i64 k),(10,.string (mk (A0 p.preds.xs r.head++E9 p.preds.xs r)))])
   (fun _ w=>Inv B hh [box b9 r.enc 64,MN b5 (.slice a n c) (((BI p).take (p.preds.xs.length+k)).flatMap (·++[10])),IK b5 pv (.slice a n c),box b1 p.enc 25] w) ?_ ?_
  ·refine WP.block<|Sr<|Ap (Abu At rfl)<|As0 (Ld I A7 3 0 1 rfl rfl rfl)<|Ap (Abu Bw rfl)<|Ap (Abu AW rfl)<|Ai (Ld I An 0 0 1 rfl rfl rfl)<|Ap (AbJ Eh Aia Aim rfl rfl ah.pred.1 rfl)<|Ap (Abr A3 rfl)<|Ai (Abn An rfl (I.rd (Eh.rd.part 2 1)) rfl rfl)<|Ad (AbI rfl rfl)<|Ab Ag<|Abh ?_;refine Abl rfl (fun h68=>?_) (fun h68=>?_)
   ·have hV:E9 p.preds.xs r=[]:=by unfold E9;rw[if_neg (fun h=>h h68)]
    rw[hV,Aft];exact Abk<|⟨(),⟨rfl,rfl,rfl,rfl,rfl,rfl,rfl,trivial⟩,I⟩
   ·have hV:E9 p.preds.xs r=[32,61,32]++(Nk r++dgL nn):=by unfold E9;rw[if_pos h68,hnn];rfl
    refine Sr<|Ap (Abr AV rfl)<|Ai (Ld I An 0 2 1 rfl rfl rfl)<|Ad (AbC rfl rfl)<|Ab Ag<|Abh ?_;refine Abl rfl (fun h78=>?_) (fun h78=>?_)
    ·have hS:Nk r=[]:=by unfold Nk;rw[if_neg (by omega)]
     rw[hV,hS];exact Abg<|At0 Mv<|At0 Mv<|At0 (AbP rfl rfl ((by simp only[Afb,bsz,Afx,Ae6,Afc,Ae2];omega)))<|At0 (AbP rfl rfl (by simp only[Afb,Ar];show _+(3+_)≤_;omega))<|At0 Ag<|Abh<|⟨(),⟨rfl,rfl,rfl,rfl,rfl,rfl,congrArg Value.string (Cb.1 (by simp only[DO,BD,txl,Afe,Afs,AfH,AfC])),trivial⟩,I⟩
    ·obtain⟨ss,hss⟩:∃n:Nat,r.src=n:=⟨r.src.toNat,by omega⟩;have hS:Nk r=[35]++(dgL ss++[43]):=by unfold Nk;rw[if_pos (by omega),hss];rfl
     have dl2:=FE (n:=ss) (by have:=ro.src;have:=ro.len;omega);rw[hV,hS];exact Abg<|At0 Mv<|Ap (Abr AV rfl)<|Ai (Ld I An 0 2 1 rfl rfl rfl)<|Abj (Abm I call24 (hss▸GL _ I.j6 ss (by have:=ro.src;have:=ro.len;omega)) rfl fun w I=>At0 (AbP rfl rfl ((by simp only[Afb,bsz,Afx,Ae6,Afc,Ae2];omega)))<|At0 (AbP rfl rfl ((by simp only[Afb,bsz,Afx,Ae6,Afc,Ae2];omega)))<|At0 Mv<|At0 (AbP rfl rfl ((by simp only[Afb,bsz,Afx,Ae6,Afc,Ae2];omega)))<|At0 (AbP rfl rfl ((by simp only[Afb,bsz,Afx,Ae6,Afc,Ae2];omega)))<|At0 Ag<|Abh<|⟨(),⟨rfl,rfl,rfl,rfl,rfl,rfl,congrArg Value.string (Cb.1 (by simp only[DO,BD,txl,Afe,Afs,AfH,AfC])),trivial⟩,I⟩)
  rintro _ e w I;refine Sr<|As0 Ag<|Abh<|Abi<|Sr<|Ap (Abr AG rfl)<|As0 (Ld I Bi 0 4 1 rfl rfl rfl)<|Ai (AbA Aib rfl)<|Ai Mv<|Abh<|WP.block ?_;refine Abx (σ:=Nat×Option Addr×Nat×Ae) (fun z=>[(1,Pt b1),(5,Pt b5),(9,Pt b9),(45,p.rules.val),(46,.int .i64 p.rules.xs.length),(47,.int .i64 k),(10,.string (mk (A0 p.preds.xs r.head++E9 p.preds.xs r))),(12,.slice z.2.1 z.1 z.2.2.1),(87,r.body.val),(88,.int .i64 r.body.xs.length),(89,.int .i64 z.1)])
   (fun z w=>Inv B z.2.2.2 [Ao 9 1 (.slice z.2.1 z.1 z.2.2.1) z.1 (((r.body.xs.take z.1).map fun x=>mk (Gn p.preds.xs x)).flatMap sEn),box b9 r.enc 64,MN b5 (.slice a n c) (((BI p).take (p.preds.xs.length+k)).flatMap (·++[10])),IK b5 pv (.slice a n c),box b1 p.enc 25] w∧z.1≤r.body.xs.length∧hh.le z.2.2.2) (fun z=>r.body.xs.length-z.1)
   ⟨(0,none,0,hh),⟨rfl,rfl,rfl,rfl,rfl,rfl,rfl,rfl,rfl,rfl,rfl,trivial⟩,I.l9 9 1,Afa _,Ae.le.refl _⟩ ?_
  clear I;rintro⟨i,q,c2,h2⟩ e w ⟨I,hi,gl2⟩;dsimp only at I hi gl2 ⊢;refine Sr<|Ad (AbC rfl rfl)<|Abh<|Abi ?_;refine Abl rfl (fun h90=>?_) (fun h90=>?_)
  ·have hi':i<r.body.xs.length:=by omega
   have E2:=(hrin.body.is.le (gl.trans gl2)).at hi';have hm2:r.body.xs[i]∈r.body.xs:=Ae5 hi';have hx2:=hrin.body.each _ hm2;have ao:=Bc ro.preds (ro.body _ hm2);have hll:=To hp0 ao;have hnm2:(Al p.preds.xs r.body.xs[i].atom.pred).name.size≤140737488355328:=by have:=D3 hp0 (Ba ao.pred);omega
   have hnx2:r.body.xs.take (i+1)=r.body.xs.take i++[r.body.xs[i]]:=by rw[AfS,Ae4 hi'];rfl
   obtain⟨x,hx⟩:∃x,r.body.xs[i]=x:=⟨_,rfl⟩;rw[hx] at E2 hm2 hx2 ao hll hnm2 hnx2;refine Abk<|Abi<|WP.block<|Sr<|Ap (Ix E2 Aib Ail rfl rfl)<|Ay (Abn EQ rfl (I.rd (E2.rd.part 0 3)) rfl rfl)<|Abj (O.alloc I Aiu rfl fun b14 w I=>Abj (Sy I EQ 0 rfl rfl rfl rfl fun w I=>Abh<|Sr<|Ap (Abu At rfl)<|As0 (Ld I A7 5 0 1 rfl rfl rfl)<|Ap (Abr Bk rfl)<|Ax (Ld I AP 0 1 2 rfl rfl rfl)<|Abj (Abm I call25 (Hj _ I.j6 p.preds (hl.le (gl.trans gl2)) x.atom (hx2.le (gl.trans gl2)) ao hnm2) rfl fun w I=>At0 Ag<|Abh<|Abi<|Sr<|Ap (Abu BK rfl)<|Ab (Ld I Br 0 0 1 rfl rfl rfl)<|Abh ?_)));refine Acc (σ:=Unit) (fun _=>[(1,Pt b1),(5,Pt b5),(9,Pt b9),(45,p.rules.val),(46,.int .i64 p.rules.xs.length),(47,.int .i64 k),(10,.string (mk (A0 p.preds.xs r.head++E9 p.preds.xs r))),(12,.slice q i c2),(87,r.body.val),(88,.int .i64 r.body.xs.length),(89,.int .i64 i),(15,.string (mk (Gn p.preds.xs x)))])
    (fun _ w=>Inv B h2 [box b14 x.enc 68,Ao 9 1 (.slice q i c2) i (((r.body.xs.take i).map fun x=>mk (Gn p.preds.xs x)).flatMap sEn),box b9 r.enc 64,MN b5 (.slice a n c) (((BI p).take (p.preds.xs.length+k)).flatMap (·++[10])),IK b5 pv (.slice a n c),box b1 p.enc 25] w) ?_ ?_
   ·refine AbG rfl (fun h99=>?_) (fun h99=>?_)
    ·have hng:x.neg=true:=h99;have hL:Gn p.preds.xs x=[33]++A0 p.preds.xs x.atom:=by unfold Gn;rw[if_pos hng]
     rw[hL] at hll ⊢;rw[Ae2] at hll;exact Abg<|At0 Mv<|At0 (AbP rfl rfl ((by simp only[Afb,bsz,Afx,Ae6,Afc,Ae2];omega)))<|At0 Ag<|Abh<|⟨(),⟨rfl,rfl,rfl,rfl,rfl,rfl,rfl,rfl,rfl,rfl,rfl,congrArg Value.string (Cb.1 (by simp only[DO,BD,txl,Afe,Afs,AfH,AfC])),trivial⟩,I⟩
    ·have hng:x.neg=false:=by simpa using h99
     have hL:Gn p.preds.xs x=A0 p.preds.xs x.atom:=by unfold Gn;rw[if_neg (by rw[hng];decide)];rfl
     rw[hL];exact Abk<|⟨(),⟨rfl,rfl,rfl,rfl,rfl,rfl,rfl,rfl,rfl,rfl,rfl,rfl,trivial⟩,I⟩
   rintro _ e w I;refine Abg<|As0 Mv<|At0 Mv<|Abj (AbY (xs:=[mk (Gn p.preds.xs x)]) (enc:=sEn) I Ais AiJ zeroValue9 rfl (Nb rfl) rfl rfl (by decide) (fun _=>rfl) fun b104 h104 w I le104 sl104=>Abj (Ab0 I Ais Aah 1 rfl rfl rfl (I.rd (sl104 0 _ rfl).2) rfl rfl (by decide) (by omega) (by omega) fun b105 c105 w I=>As0 Ag<|Abh<|Abg<|Ai (Dd rfl rfl)<|Ai Mv<|Abh ?_));refine⟨(i+1,some ⟨b105,0,none⟩,c105,h104),⟨⟨rfl,rfl,rfl,rfl,rfl,rfl,rfl,rfl,rfl,rfl,rfl,trivial⟩,?_,by dsimp only;omega,gl2.trans le104⟩,by dsimp only;omega⟩;dsimp only;rw[hnx2,AfM,Afm];exact I.drop
  obtain rfl:i=r.body.xs.length:=by omega
  rw[Afo] at I;have hcap:=FC (I.at 0 rfl);obtain⟨h10,s,le10,hv,hx,is,J⟩:=I.p8 (fun _=>rfl) (by simp);clear I;obtain⟨sa,sc,sx⟩:=s;dsimp only at hx;subst hx;have hv':=hv;unfold Sl.val at hv';dsimp only at hv';injection hv' with e1 e2 e3;subst e1;subst e3;have I:=J;have hlen2:(r.body.xs.map fun x=>mk (Gn p.preds.xs x)).map tx=r.body.xs.map (Gn p.preds.xs):=by rw[AgJ];rfl
  have hjo:=IU ⟨w,h10⟩ I.j6 ⟨sa,sc,r.body.xs.map fun x=>mk (Gn p.preds.xs x)⟩ ⟨is,by simp;omega⟩ (by simpa using hcap) ⟨#[44,32]⟩ (by rw[hlen2];show(joinT [44,32] _).length≤_;omega);rw[hlen2] at hjo;unfold Sl.val at hjo;simp only[Afw] at hjo;have hjt:tx ⟨#[44,32]⟩=[44,32]:=rfl;rw[hjt] at hjo;refine Abz<|Abi<|Sr<|As0 Mv<|Ai (AbA Ais rfl)<|Ad (AbL rfl rfl)<|Abh ?_;refine Acc (σ:=Unit) (fun _=>[(1,Pt b1),(5,Pt b5),(9,Pt b9),(45,p.rules.val),(46,.int .i64 p.rules.xs.length),(47,.int .i64 k),(10,.string (mk (A0 p.preds.xs r.head++(E9 p.preds.xs r++Dq p.preds.xs r.body.xs))))])
   (fun _ w=>Inv B h10 [box b9 r.enc 64,MN b5 (.slice a n c) (((BI p).take (p.preds.xs.length+k)).flatMap (·++[10])),IK b5 pv (.slice a n c),box b1 p.enc 25] w) ?_ ?_
  ·refine Abl rfl (fun h109=>?_) (fun h109=>?_)
   ·have hb0:r.body.xs≠[]:=fun e=>by rw[e] at h109;simp at h109
    have hB2:Dq p.preds.xs r.body.xs=[32,58,45,32]++joinT [44,32] (r.body.xs.map (Gn p.preds.xs)):=by unfold Dq;rw[if_neg hb0]
    rw[hB2];exact Abg<|At0 Mv<|As0 Mv<|Abj (Abm I call26 (hjo) rfl fun w I=>At0 (AbP rfl rfl ((by simp only[Afb,bsz,Afx,Ae6,Afc,Ae2];omega)))<|At0 (AbP rfl rfl ((by simp only[Afb,bsz,Afx,Ae6,Afc,Ae2];omega)))<|At0 Ag<|Abh<|⟨(),⟨rfl,rfl,rfl,rfl,rfl,rfl,congrArg Value.string (Cb.1 (by simp only[DO,BD,txl,Afe,Afs,AfH,AfC])),trivial⟩,I⟩)
   ·have hb0:r.body.xs=[]:=Agh.1 (by omega);have hB2:Dq p.preds.xs r.body.xs=[]:=by unfold Dq;rw[if_pos hb0]
    rw[hB2,Aft];exact Abk<|⟨(),⟨rfl,rfl,rfl,rfl,rfl,rfl,rfl,trivial⟩,I⟩
  rintro _ e w I;have hrl:Dn p.preds.xs r=A0 p.preds.xs r.head++(E9 p.preds.xs r++Dq p.preds.xs r.body.xs)++[46]:=rfl;rw[hrl] at hlen hnx;rw[Ae2,Afv] at hlen;refine Abg<|At0 Mv<|At0 (AbP rfl rfl (by rw[Ar];show _+2≤_;omega))<|Abj (Ace call23 (JU I 2 1 (by decide) rfl rfl hpv (t:=(A0 p.preds.xs r.head++(E9 p.preds.xs r++Dq p.preds.xs r.body.xs)++[46])++[10]) (by simp only[DO,BD,txl,Afe,Afs,AfH,AfC]) (by rw[Ae2,Ae2];simp only[Ae6,Afc];omega)) rfl ?_);rintro ed w ⟨rfl,a',k',c',I⟩;refine⟨_,rfl,?_⟩;refine Abh<|Abg<|Ai (Dd rfl rfl)<|Ai Mv<|Abh ?_;refine⟨(k+1,Pt b5,a',k',c',h10),⟨⟨rfl,rfl,rfl,rfl,rfl,trivial⟩,by dsimp only;omega,.inr rfl,(gl.trans gl2).trans le10,?_⟩,by dsimp only;omega⟩;dsimp only;rw[hnx,Afm,AfT];exact I.drop
 obtain rfl:k=p.rules.xs.length:=by omega
 have hall:(BI p).take (p.preds.xs.length+p.rules.xs.length)=BI p:=AfW (by unfold BI;simp);rw[hall] at I;refine Abz<|Sr<|Abj (Ace call27 (Sg I hB 1 0 rfl rfl hpv) rfl ?_);rintro ed w ⟨rfl,I⟩;refine⟨_,rfl,?_⟩;refine At0 Ag<|Ai Ag<|Abh<|Wr ?_;exact BH.mk (vs:=[.string _,.int .i64 _]) rfl ⟨rfl,rfl,trivial⟩ I.j5 (by simp only[tup];unfold JW;rw[if_pos hp0];rfl)
end
section
def D9(st:St):Prg:=⟨⟨none,0,st.1⟩,⟨none,0,st.2⟩⟩
noncomputable def B4(s:ByteArray):Option St:=if 4096<s.size then none else
 match Rg (tx s) with
 |none=>none
 |some st=>if Ac (D9 st)=0∧Cz (D9 st)=tx s then some st else none
noncomputable def Hm(s:ByteArray):Int:=if 4096<s.size then 2 else if (B4 s).isSome=true then 0 else 1
noncomputable def Me(s:ByteArray):Prg:=D9 ((B4 s).getD ([],[]))
def Mf(s:ByteArray)(v:Value)(h:Ae):Prop:=∃p:Prg,v=.tuple #[p.val,.int .i64 (Hm s)]∧p.In h∧p.Nm∧p.er=Me s
theorem NG{a b:List Bs}:∀{p:St},Fc (a++b) p=match Fc a p with|none=>none|some q=>Fc b q:=by
 induction a with
 |nil=>intro p;rfl
 |cons x r ih=>
  intro p;simp only[AfH,Fc];cases Fa p x with
  |none=>rfl
  |some q=>exact ih
theorem H8:∀{f:Nat} {s:Bs},(linesS f s).length≤f
 |0,_=>Afg _
 |f+1,s=>by
  rw[linesS];split
  ·exact Afa _
  ·split
   ·simp only[Ae6];have:=H8 (f:=f) (s:=s.drop ((Lib.index s [10]).toNat+1));omega
   ·simp
theorem JX:∀{f:Nat} {s x:Bs},x∈linesS f s→x.length≤s.length
 |0,_,_,h=>by cases h
 |f+1,s,x,h=>by
  rw[linesS] at h;split at h
  ·cases h
  ·split at h
   ·rcases Afq.1 h with rfl|h
    ·rw[Afj];omega
    ·have:=JX h;rw[AfD] at this;omega
   ·rw[Afl] at h;subst h;exact Afg _
def dfrR(b2 b3:Nat):Deferred:={target:=.fn (.func 28) #[Pt b2,Pt b3],args:=#[]}
section
variable {B:Aq}{h:Ae}{M:List SA}{w:World}{fn:Func}{tmps:Array Value}{R:Ending→World→Prop}{m b2 b3:Nat}
theorem NH(w:World):(invoke (dfrR b2 b3).target (dfrR b2 b3).args).run prog w=.ok (.enter 28 #[Pt b2,Pt b3]) w:=by
 simp[invoke,dfrR,go_sem]
theorem Ye(I:Inv B h (AA m::M) w)(k:∀w',Inv B h M w'→∃v,(results fn tmps).run prog w'=.ok v w'∧R (.returned v) w'):LeavesInM Fence.wide 0 prog fn tmps R [mark m,dfrR b2 b3] .returning w:=by
 have hD:w.heap[m]?=some (.deferred (some [])):=(I.own _ (Ae7 ..)).1;refine⟨by simp,.inl ⟨m,_,rfl,DT hD,?_⟩⟩;refine⟨by simp,.inr ⟨(fun hd=>by cases hd),.func 28,_,_,_,rfl,NH _,fun _ _=>trivial,?_⟩⟩;refine(S6 b2 b3 _).mono ?_;rintro ed u w' ⟨⟨v,rfl⟩,rfl,rfl⟩;exact k _ I.shut
theorem Yf{x y z:Value}(I:Inv B h (AA m::box b2 [x,y] 25::box b3 [z] 26::M) w)
  (k:∀w',Inv B h (box b2 [.slice none 0 0,.slice none 0 0] 25::box b3 [.int .i64 1] 26::M) w'→∃v,(results fn tmps).run prog w'=.ok v w'∧R (.returned v) w'):LeavesInM Fence.wide 0 prog fn tmps R [mark m,dfrR b2 b3] (.panicking brk) w:=by
 have hD:w.heap[m]?=some (.deferred (some [])):=(I.own _ (Ae7 ..)).1;refine⟨by simp,.inl ⟨m,_,rfl,DT hD,?_⟩⟩;refine⟨by simp,.inr ⟨(fun hd=>by cases hd),.func 28,_,_,_,rfl,NH _,fun _ _=>trivial,?_⟩⟩;refine(S7 b2 b3 I.shut).mono ?_;rintro ed u w' ⟨⟨v,rfl⟩,rfl,I⟩;exact k _ I
end
end
section
theorem Mg{b:Bool}(h:b=false):¬b=true:=by rw[h];decide
def cEr(c:Int×Ltl):Int×Ltl:=(c.1,c.2.er)
theorem IZ(rs:List Rul):AX (rs.map Rul.er)=(AX rs).map cEr:=by
 induction rs with
 |nil=>rfl
 |cons r rs ih=>
  unfold AX at ih ⊢;simp only[AfQ,AfK,AfM,ih];congr 1;simp[Rul.er,cEr,Function.comp_def,Atm.er]
theorem Lh{cs:List (Int×Ltl)}{n:Nat}{L:List Int}:Sol (cs.map cEr) n L↔Sol cs n L:=
 ⟨fun h=>⟨h.len,h.pos,fun c hc=>h.sat (cEr c) (Agp hc)⟩,fun h=>⟨h.len,h.pos,fun c hc=>by obtain⟨d,hd,rfl⟩:=AfE.1 hc;exact h.sat d hd⟩⟩
theorem PR{cs:List (Int×Ltl)}{n:Nat}{L:List Int}(h:DF (cs.map cEr) n L):DF cs n L:=⟨Lh.1 h.sol,fun M hM=>h.least M (Lh.2 hM)⟩
theorem OR(l:List Prd)(rs:List Rul):rulesErr l (rs.map Rul.er)=rulesErr l rs:=by
 induction rs with
 |nil=>rfl
 |cons r rs ih=>simp only[AfQ,rulesErr,Nd,ih]
theorem B6(p:Prg):Ac p.er=Ac p:=by
 have h1:p.er.preds.xs=p.preds.xs:=rfl;have h2:p.er.rules.xs=p.rules.xs.map Rul.er:=rfl;unfold Ac;rw[h1,h2,Afw,OR,IZ];rw[show(∃M,Sol ((AX p.rules.xs).map cEr) p.preds.xs.length M)=(∃M,Sol (AX p.rules.xs) p.preds.xs.length M) from propext ⟨fun ⟨M,h⟩=>⟨M,Lh.1 h⟩,fun ⟨M,h⟩=>⟨M,Lh.2 h⟩⟩]
theorem lv3{a b c:Int}(ha:0≤a)(hb:0≤b)(hc:0≤c)(i:Int):0≤lv [a,b,c] i:=by
 unfold lv;rw[Ae3];match i.toNat with
 |0=>exact ha
 |1=>exact hb
 |2=>exact hc
 |_+3=>exact Ahh 0
theorem GN:DF (AX AM.rules.xs) 3 [0,0,1]:=by
 refine⟨⟨rfl,lv3 (by decide) (by decide) (by decide),?_⟩,fun M hM i=>?_⟩
 ·have:∀c∈AX AM.rules.xs,lst [0,0,1] c≤lv [0,0,1] c.1:=by decide
  exact this
 ·have h2:=hM.sat (2,⟨true,aT 1 [tV 0,tV 0]⟩) (Afk (i:=4) rfl);have h1:=hM.pos 1;have e:lst M (2,⟨true,aT 1 [tV 0,tV 0]⟩)=lv M 1+1:=rfl;unfold SK at h2;rw[e] at h2;dsimp only at h2;have hi:=hM.pos i;have key:lv [0,0,1] i=if i=2 then 1 else 0:=by
   unfold lv;rw[Ae3];by_cases e:i=2
   ·subst e;rfl
   ·rw[if_neg e];have:i.toNat≠2:=by omega
    match h:i.toNat with
    |0=>rfl
    |1=>rfl
    |2=>exact absurd h this
    |_+3=>rfl
  rw[key];split
  ·rename_i e;subst e;omega
  ·exact hi
theorem GO:Ac AM=0:=by
 unfold Ac;rw[if_neg (by decide),if_neg (Mg (show(AM.preds.xs.any fun x=>!isName x.name)=false by kernel_rfl)),if_neg (Mg (show G8 AM.preds.xs=false by kernel_rfl)),if_neg (Mg (show AM.preds.xs.any CA=false by kernel_rfl)),if_neg (Mg (show AM.preds.xs.any badKind=false by kernel_rfl)),if_neg (by rw[show rulesErr AM.preds.xs AM.rules.xs=0 by kernel_rfl];decide)];exact if_pos ⟨_,GN.sol⟩
end
section
theorem VQ(l:List Prd)(r:Rul):Dn l r.er=Dn l r:=by
 unfold Dn E9 Nk Dq;have h1:r.er.body.xs=r.body.xs.map Ltl.er:=rfl;have h2:(r.body.xs.map Ltl.er).map (Gn l)=r.body.xs.map (Gn l):=by rw[AgJ];rfl
 have h3:(r.body.xs.map Ltl.er=[])=(r.body.xs=[]):=by simp
 rw[h1,h2];simp only[h3];rfl
theorem F4(p:Prg):Cz p.er=Cz p:=by
 unfold Cz BI;have h1:p.er.rules.xs=p.rules.xs.map Rul.er:=rfl;have h2:(p.rules.xs.map Rul.er).map (Dn p.er.preds.xs)=p.rules.xs.map (Dn p.preds.xs):=by
  rw[AgJ];exact AgM fun r _=>VQ _ r
 rw[h1,h2];rfl
theorem PS{s:ByteArray}{v:Value}{h:Ae}(hn:B4 s=none)(hv:v=.tuple #[.agg #[.slice none 0 0,.slice none 0 0],.int .i64 (Hm s)]):Mf s v h:=
 ⟨⟨⟨none,0,[]⟩,⟨none,0,[]⟩⟩,hv,⟨nilIs,⟨nilIs,(fun x hx=>by cases hx)⟩⟩,(fun x hx=>by cases hx),by unfold Me;rw[hn];rfl⟩
theorem PT(B:Aq)(hB:B.ok)(s:ByteArray):FnM prog 29 [.string s] B (fun v _ M=>∃b,v=.func (.func 67) #[] #[Pt b]∧M=[box b [.string s] 9]):=by
 refine FnM.of func29 rfl ntmps29 (by kernel_rfl) (by simp) fun e=>?_;have I:=Ab2 hB;refine Sr<|Abj (O.box (v:=.string _) I rfl rfl fun b1 w I=>AbB (v:=.nilFunc) Ag<|Abh<|Sr<|Af (Acq rfl rfl)<|Af Ag<|Abh<|Wr ?_);exact XJ.mk (vs:=[_]) rfl ⟨rfl,trivial⟩ (I) (⟨b1,rfl,rfl⟩)
abbrev RdS:=Option Addr×Nat×Option Addr×Nat×List Prd×List Rul
def rdU(b2 b3:Nat)(z:RdS):List SA:=linM b2 z.1 z.2.2.2.2.1.length z.2.1 z.2.2.1 z.2.2.2.2.2.length z.2.2.2.1 z.2.2.2.2.1 z.2.2.2.2.2 [box b3 [.int .i64 0] 26]
def Dc(s:ByteArray):List Bs:=(linesS (tx s).length (tx s)).map fun l=>Lib.trimSuffix l [10]
structure RdJ(s:ByteArray)(k:Nat)(hg:Ae)(z:RdS):Prop where
 rd:Fc ((Dc s).take k) ([],[])=some (z.2.2.2.2.1,z.2.2.2.2.2.map Rul.er)
 rin:∀r∈z.2.2.2.2.2,r.In hg
 nm:∀x∈z.2.2.2.2.1,x.name.size≤4096
 lp:z.2.2.2.2.1.length≤k
 lr:z.2.2.2.2.2.length≤k
def rdX(B:Aq)(s:ByteArray)(b2 b3 D:Nat):PX:=fun ch W=>ch=brk∧B4 s=none∧∃hg x y,Inv B hg [AA D,box b2 [x,y] 25,box b3 [.int .i64 0] 26] W
theorem PU{s:ByteArray}{k:Nat}{x:ByteArray}(h:(DZ s)[k]?=some x):(Dc s)[k]?=some (Lib.trimSuffix (tx x) [10])∧x.size≤s.size∧k<s.size:=by
 unfold DZ at h;rw[AfI] at h;obtain⟨y,hy,rfl⟩:=Option.map_eq_some_iff.1 h;refine⟨?_,?_,?_⟩
 ·unfold Dc;rw[AfI,hy];rfl
 ·have:=JX (Afk hy);rw[Ar,←BF s];exact this
 ·have h1:=(Ae9.1 hy).1;have h2:=H8 (f:=(tx s).length) (s:=tx s);rw[←BF s];omega
theorem Rp{s:ByteArray}{k:Nat}{z:Bs}{q:St}(hz:(Dc s)[k]?=some z)(h:Fc ((Dc s).take k) ([],[])=some q):Fc ((Dc s).take (k+1)) ([],[])=Fa q z:=by
 rw[AfS,hz,Ahb,NG,h];simp only[Fc];cases Fa q z<;>rfl
theorem Rq{s:ByteArray}{k:Nat}(h:Fc ((Dc s).take k) ([],[])=none):Rg (tx s)=none:=by
 show Fc (Dc s) ([],[])=none;rw[←AgG k (Dc s),NG,h]
theorem Yg(B:Aq)(hB:B.ok)(V:Iq B.h)(s:ByteArray):Fn prog 8 [.string s] B (Mf s):=by
 show Calls _ _ ([.string s]:List Value).toArray B.w _;refine Adv (args:=[.string s]) func8 rfl ntmps8 (by kernel_rfl) (by simp) fun e=>?_;have I:=Ab2 hB;refine AbQ<|AbS<|Abj (O.alloc I Aio rfl fun b2 w I=>Abj (O.alloc I zeroValue26 rfl fun b3 w I=>Abh<|AbQ<|AbQ<|AbS<|At0 Mv<|Ai (AbF Ah9 rfl)<|Ad (AbL rfl rfl)<|Abh ?_));refine Adq rfl (fun h9=>?_) (fun h9=>?_)
 ·have hn:B4 s=none:=by unfold B4;rw[if_pos (by omega)]
  have hE:Hm s=2:=by unfold Hm;rw[if_pos (by omega)]
  refine AbQ<|AbS<|AbB (v:=.agg #[.slice _ _ _,.slice _ _ _]) (Y.build It Aio rfl rfl)<|Abj (Sx I As 1 rfl rfl rfl rfl fun w I=>Abj (Si I Q7 0 rfl rfl rfl rfl fun w I=>Abh<|AcO ?_));repeat (first|refine BO ?_|refine Bq ?_)
  intro tmps he;exact⟨_,A9 (a:={tmps:=tmps,defers:=[]}) rfl (vs:=[.agg #[.slice none 0 0,.slice none 0 0],.int .i64 2]) (by rw[he];exact⟨⟨_,_,_,_,_,rfl,As,I.l5 1 rfl 0 2,rfl,rfl⟩,⟨_,_,_,_,_,rfl,Q7,I.l5 0 rfl 0 1,rfl,rfl⟩,trivial⟩),_,_,rfl,I.j5,PS hn (by rw[hE];rfl)⟩
 have hs:s.size≤4096:=by omega
 refine AcX<|AbQ<|AdI (v:=.func (.func 28) #[] #[Pt b2,Pt b3]) (dd:=dfrR b2 b3) (Acq rfl rfl) (by simp[execOp,resolve,ev,upd,Deferred.ofValue,dfrR])<|AbQ<|AbQ<|AbS<|At0 Mv<|Abj (Ac9 I call29 (PT _ I.j6 s) rfl ?_);rintro _ h1 M1 w I gl1 ⟨bl,rfl,rfl⟩;try simp only[AfH,AfC] at I
 refine Abh ?_;have I:=(((((((I.l9 64 5).l9 53 3).front 3 rfl).front 4 rfl).front 3 rfl).front 3 rfl).front 4 rfl);refine WPF.block ?_;have hpan:∀(e:Env) (D:Nat) (ch:List PanicEntry) (W:World),e 2=(Pt b2)→e 3=(Pt b3)→rdX B s b2 b3 D ch W→Aaz prog f8 (fun x w'=>∃v h',x=.returned v∧Ext B w' h'∧Mf s v h') (.panic ch) e W [mark D,dfrR b2 b3]:=by
  rintro e D ch W e2 e3 ⟨rfl,hn,hg,x,y,I⟩ tmps he;have hE:Hm s=1:=by unfold Hm;rw[if_neg (by omega),hn];rfl
  refine Yf I fun w' I=>?_;exact⟨_,A9 (a:={tmps:=tmps,defers:=[]}) rfl (vs:=[.agg #[.slice none 0 0,.slice none 0 0],.int .i64 1]) (by rw[he];exact⟨⟨_,_,_,_,_,e2,As,I.l5 0 rfl 0 2,rfl,rfl⟩,⟨_,_,_,_,_,e3,Q7,I.l5 1 rfl 0 1,rfl,rfl⟩,trivial⟩),_,_,rfl,I.j5,PS hn (by rw[hE];rfl)⟩
 refine Ada (σ:=RdS) (own:=box bl [.string s] 9) (encs:=AaA) (xs:=DZ s) ⟨_,func8⟩ (rdU b2 b3) (RdJ s) (rdX B s b2 b3) (none,0,none,0,[],[]) I ⟨rfl,(fun _ h=>by cases h),(fun _ h=>by cases h),Afg _,Afg _⟩
  (fun k z hg hg' hl j=>⟨j.rd,fun r hr=>(j.rin r hr).le hl,j.nm,j.lp,j.lr⟩) rfl call67 (Ny s hs bl) (fun _=>rfl) (by kernel_rfl) (by kernel_rfl) (by kernel_rfl) ?_ ?_ (fun D ch W hx=>hpan _ D ch W rfl rfl hx)
 ·rintro l D r hg k x ⟨q,c,q2,c2,ps,rs⟩ X W hx gl I ⟨hrd,hin,hnm,hlp,hlr⟩;dsimp only at hrd hin hnm hlp hlr;obtain⟨hz,hxs,hks⟩:=PU hx;have htl:=Lib.trimSuffix_le (tx x) [10];rw[BF] at htl;have hBh:B.h.le hg:=gl1.trans gl;have hstep:=Rp hz hrd;refine AbU (by kernel_rfl)<|At0 Ag<|Abh ?_;refine⟨hg,Ae.le.refl _,I,fun r' W2 I=>?_⟩;have J:Inv B hg ((rdU b2 b3 (q,c,q2,c2,ps,rs)++[AN l r',AA D])++X) W2:=I.perm AgF;have I:Inv B hg (linM b2 q ps.length c q2 rs.length c2 ps rs ([box b3 [.int .i64 0] 26,AN l r',AA D]++X)) W2:=J;refine WPI.block<|Ad2 _ (fun _ _ _ h=>h)<|Ab5 (v:=.string _) Mv<|AcN (Abm I call31 (K6 _ I.j6 x ⟨#[10]⟩ (by omega)) rfl fun w I=>Bd.p (AeH call30 (ZG (V.le hBh) I (by omega) (by omega) hin hnm hBh (mk (Lib.trimSuffix (tx x) [10])) (by rw[Ar];omega)) rfl ?_));rintro ed w hq;rcases ed with v|ch|_
  ·obtain⟨rfl,h',q',c',q2',c2',ps',rs',gl',I,hl,hin',hnm',hlp',hlr'⟩:=hq;refine .inl ⟨_,rfl,?_⟩;refine Acf ?_;refine⟨h',(q',c',q2',c2',ps',rs'),[],gl',?_,⟨hstep.trans hl,hin',hnm',by dsimp only;omega,by dsimp only;omega⟩⟩;have J:Inv B h' ((rdU b2 b3 (q',c',q2',c2',ps',rs')++[AN l r',AA D])++X) w:=I;show Inv B h' (X++(rdU b2 b3 (q',c',q2',c2',ps',rs')++[AN l r',AA D])) w;exact J.perm AgF
  ·obtain⟨rfl,⟨h',I⟩,hl⟩:=hq;have J:Inv B h' [box b2 [.slice q ps.length c,.slice q2 rs.length c2] 25,box b3 [.int .i64 0] 26,AA D] w:=I.weak (List.Sublist.cons_cons _ (List.Sublist.cons_cons _ (List.Sublist.cons _ (List.Sublist.cons_cons _ (List.nil_sublist _)))));refine .inr ⟨_,rfl,rfl,?_,h',_,_,J.front 2 rfl⟩;unfold B4;rw[if_neg (by omega),Rq (k:=k+1) (hstep.trans hl)]
  ·exact hq.elim
 ·rintro D h2 ⟨q,c,q2,c2,ps,rs⟩ W gl I ⟨hrd,hin,hnm,hlp,hlr⟩;dsimp only at hrd hin hnm hlp hlr;have hcnt:(DZ s).length≤4096:=by
   unfold DZ;rw[Afw];have:=H8 (f:=(tx s).length) (s:=tx s);rw[BF] at this ⊢;omega
  have hR:Rg (tx s)=some (ps,rs.map Rul.er):=by
   rw[AfW (by unfold Dc DZ;simp)] at hrd;exact hrd
  obtain⟨h3,sp,le3,hvp,hxp,isp,I⟩:=I.p8 (fun _=>rfl) rfl;obtain⟨h4,sr,le4,hvr,hxr,isr,I⟩:=I.p8 (fun _=>rfl) rfl;subst hxp;subst hxr;rw[←hvp,←hvr] at I;obtain⟨p,hp⟩:∃p:Prg,p=⟨sp,sr⟩:=⟨_,rfl⟩;have hpin:p.In h4:=by
   subst hp;exact⟨⟨Sl.In.le isp le4,by show sp.xs.length≤_;omega⟩,⟨isr,by show sr.xs.length≤_;omega⟩,fun y hy=>(hin y hy).le (le3.trans le4)⟩
  have hpnm:p.Nm:=fun y hy=>by subst hp;have:=hnm y hy;omega
  have hpe:p.er=D9 (sp.xs,sr.xs.map Rul.er):=by subst hp;rfl
  have hR2:B4 s=if Ac p=0∧Cz p=tx s then some (sp.xs,sr.xs.map Rul.er) else none:=by
   unfold B4;rw[if_neg (by omega),hR];simp only;rw[←hpe,B6,F4]
  have I:Inv B h4 [box b2 p.enc 25,box b3 [.int .i64 0] 26,AA D] W:=by subst hp;exact I
  have hE:∀{st:Option St},B4 s=st→Hm s=if st.isSome=true then 0 else 1:=fun h=>by unfold Hm;rw[if_neg (by omega),h]
  by_cases hc:Ac p=0∧Cz p=tx s
  ·rw[if_pos hc] at hR2;have hS:Fn prog 7 [p.val] ⟨W,h4⟩ (fun v _=>v=.tuple #[.string s,.int .i64 0]):=(Md ⟨W,h4⟩ I.j6 p hpin hpnm).mono fun v h' _ hv=>by
    rw[hv];unfold JW;rw[if_pos hc.1,hc.2,show mk (tx s)=s from M2 s]
   refine AbQ<|AbS<|Ax (Ld I As 0 0 2 rfl rfl rfl)<|Abj (Abm I call7 (hS) rfl fun w I=>Au Mv<|At0 (Y.extract rfl rfl)<|Ai (Y.extract rfl rfl)<|At0 Ag<|Ai Ag<|Abh<|AbQ<|Acz _ (fun _ _ _ h=>h)<|Acg (v:=.int .i64 _) Mv<|Acg (v:=.bool true) (Abs (AbI rfl rfl) (rfl))<|Acg (v:=.bool _) Mv<|Acs rfl (v:=.string _) Mv<|Acs rfl (v:=.string _) Mv<|Acs rfl (v:=.bool true) (Y.is (Ab6 rfl rfl) ((by rw[B3];simp)))<|Acg (v:=.bool _) (Abo rfl rfl)<|Bo.p (Acb I call32 (Cf _ I.j6 true) rfl (fun w' g p=>by cases p) ?_));rintro _ h5 w I hle ⟨_,rfl⟩;refine AcS<|AbQ<|AbS<|Ax (Ld I As 0 0 2 rfl rfl rfl)<|Abj (Sx I As 0 rfl rfl rfl rfl fun w I=>Abj (Si I Q7 1 rfl rfl rfl rfl fun w I=>Abh<|AcO ?_));repeat (first|refine BO ?_|refine Bq ?_)
   intro tmps he;refine Ye (I.front 2 rfl) (fun w' I=>⟨_,A9 (a:={tmps:=tmps,defers:=[]}) rfl (vs:=[p.val,.int .i64 0]) (by rw[he];exact⟨⟨_,_,_,_,_,rfl,As,I.l5 0 rfl 0 2,rfl,rfl⟩,⟨_,_,_,_,_,rfl,Q7,I.l5 1 rfl 0 1,rfl,rfl⟩,trivial⟩),_,_,rfl,I.j5,p,by rw[hE hR2];rfl,hpin.le hle,hpnm,?_⟩);rw[hpe];unfold Me;rw[hR2];rfl
  ·rw[if_neg hc] at hR2;by_cases hc0:Ac p=0
   ·have hne:mk (Cz p)≠s:=fun e=>hc ⟨hc0,by rw[←e]⟩;have hS:Fn prog 7 [p.val] ⟨W,h4⟩ (fun v _=>v=.tuple #[.string (mk (Cz p)),.int .i64 0]):=(Md ⟨W,h4⟩ I.j6 p hpin hpnm).mono fun v h' _ hv=>by
     rw[hv];unfold JW;rw[if_pos hc0]
    refine AbQ<|AbS<|Ax (Ld I As 0 0 2 rfl rfl rfl)<|Abj (Abm I call7 (hS) rfl fun w I=>Au Mv<|At0 (Y.extract rfl rfl)<|Ai (Y.extract rfl rfl)<|At0 Ag<|Ai Ag<|Abh<|AbQ<|Acz _ (fun _ _ _ h=>h)<|Acg (v:=.int .i64 _) Mv<|Acg (v:=.bool true) (Abs (AbI rfl rfl) (rfl))<|Acg (v:=.bool _) Mv<|Acs rfl (v:=.string _) Mv<|Acs rfl (v:=.string _) Mv<|Acs rfl (v:=.bool false) (Y.is (Ab6 rfl rfl) ((by rw[B3,decide_eq_false (fun e=>hne (Cb.1 e))])))<|Acg (v:=.bool _) (Abo rfl rfl)<|Bo.p (Acb I call32 (Cf _ I.j6 false) rfl (fun w' g p=>hpan _ D _ _ rfl rfl ⟨rfl,hR2,_,_,_,(I.grow g).front 2 rfl⟩) ?_));rintro _ h5 w I hle ⟨h,_⟩;refine AcS ?_;cases h
   ·have hS:Fn prog 7 [p.val] ⟨W,h4⟩ (fun v _=>v=.tuple #[.string ⟨#[]⟩,.int .i64 (Ac p)]):=(Md ⟨W,h4⟩ I.j6 p hpin hpnm).mono fun v h' _ hv=>by
     rw[hv];unfold JW;rw[if_neg hc0]
    refine AbQ<|AbS<|Ax (Ld I As 0 0 2 rfl rfl rfl)<|Abj (Abm I call7 (hS) rfl fun w I=>Au Mv<|At0 (Y.extract rfl rfl)<|Ai (Y.extract rfl rfl)<|At0 Ag<|Ai Ag<|Abh<|AbQ<|Acz _ (fun _ _ _ h=>h)<|Acg (v:=.int .i64 _) Mv<|Acg (v:=.bool false) (Abt (AbI rfl rfl) (hc0))<|Acg (v:=.bool _) Mv<|AcU rfl<|AcU rfl<|AcU rfl<|Acg (v:=.bool _) (Abp rfl rfl)<|Bo.p (Acb I call32 (Cf _ I.j6 false) rfl (fun w' g p=>hpan _ D _ _ rfl rfl ⟨rfl,hR2,_,_,_,(I.grow g).front 2 rfl⟩) ?_));rintro _ h5 w I hle ⟨h,_⟩;refine AcS ?_;cases h
end
end Go.TF
