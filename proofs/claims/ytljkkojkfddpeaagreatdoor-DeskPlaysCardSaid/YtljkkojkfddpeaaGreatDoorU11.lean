/- Texts Txr6 Dsr3 SpDesk4 DskLaw Base31 TxtOpen. -/
import Derived.Test.YtljkkojkfddpeaaGreatDoorU10
import Derived.Stop.LaidErr
import Derived.Test.YtljkkojkfddpeaaGreatDoorRows
import Derived.Shelf.Vars
import Derived.MakeChecks
set_option maxRecDepth 20000
set_option maxHeartbeats 16000000
set_option linter.unusedVariables false
set_option linter.unusedSimpArgs false
namespace Go.TF
open Go Go.RowKit Go.Proofs Go.Proofs.Tryz
section
abbrev PfS:=Bs×Option Addr×Nat×Option Addr×Nat×List Prd×List Rul×Ae
def pfM(b4 b2:Nat)(z:PfS):List SA:=linM b4 z.2.1 z.2.2.2.2.2.1.length z.2.2.1 z.2.2.2.1 z.2.2.2.2.2.2.1.length z.2.2.2.2.1 z.2.2.2.2.2.1 z.2.2.2.2.2.2.1 [box b2 [.slice none 0 0,.slice none 0 0] 25]
theorem WY.le{l:List Prd}{t:Bs}{r:Rul}{h0 h h':Ae}(o:WY l t r h0 h)(hl:h.le h'):WY l t r h0 h':=⟨o.ho.le hl,o.hn,o.bo.le hl,o.bn,fun x hx=>⟨(o.lo x hx).1.le hl,(o.lo x hx).2⟩,o.er⟩
theorem WY.older{l:List Prd}{t:Bs}{r:Rul}{h0 h1 h:Ae}(o:WY l t r h0 h)(hl:h1.le h0):WY l t r h1 h:=⟨o.ho.older hl,o.hn,o.bo.older hl,o.bn,fun x hx=>⟨(o.lo x hx).1.older hl,(o.lo x hx).2⟩,o.er⟩
def Aaq(l:List Prd)(t:Bs)(h1:Ae):Sp:=fun u h=>∃r:Rul,u=r.val∧WY l t r h1 h
theorem Aaq.mono{l:List Prd}{t:Bs}{h1:Ae}:Bt (Aaq l t h1):=fun _ _ _ hl ⟨r,e,o⟩=>⟨r,e,o.le hl⟩
def Zl(l:List Prd)(t:Bs)(h1:Ae)(cs:List Value)(h:Ae):Prop:=∃r:Rul,cs=r.enc∧WY l t r h1 h
theorem Zl.mono{l:List Prd}{t:Bs}{h1:Ae}:VG (Zl l t h1):=fun _ _ _ hl ⟨r,e,o⟩=>⟨r,e,o.le hl⟩
structure PfJ(B:Aq)(s:ByteArray)(b4 b2:Nat)(z:PfS)(w:World):Prop where
 inv:Inv B z.2.2.2.2.2.2.2 (pfM b4 b2 z) w
 gl:B.h.le z.2.2.2.2.2.2.2
 rd:∃f,readF f z.1 (z.2.2.2.2.2.1,z.2.2.2.2.2.2.1.map Rul.er)=OM (tx s)∧z.1.length<f
 rin:∀r∈z.2.2.2.2.2.2.1,r.In z.2.2.2.2.2.2.2
 nm:∀x∈z.2.2.2.2.2.1,x.name.size≤4096
 len:z.2.2.2.2.2.1.length+z.2.2.2.2.2.2.1.length+z.1.length≤4096
theorem W0{s a x y:Bs}{b:Bool}(h:Lib.cut s a=(x,y,b))(ha:1≤a.length)(hs:s≠[]):y.length+1≤s.length:=by
 cases b with
 |true=>exact E4 h ha
 |false=>
  unfold Lib.cut at h;split at h
  ·injection h with _ h2;injection h2 with _ h3;cases h3
  ·injection h with _ h2;injection h2 with h2 _;subst h2;exact Af7.2 hs
theorem Ol(B:Aq)(hB:B.ok)(s:ByteArray)(hs:s.size≤4096):Fn prog 18 [.string s] B (fun v h=>∃p:Prg,v=.tuple #[p.val,.bool (B4 s).isSome]∧p.In h∧p.Nm∧p.rules.xs.length≤p.rules.cap∧p.er=Me s):=by
 have hl0:=BF s;refine Fo hB func18 rfl ntmps18 fun e I=>Sr<|Abj (O.alloc I Aio rfl fun b2 w I=>Ab Ag<|Abh<|Sr<|Abj (O.alloc I Aio rfl fun b4 w I=>Abh<|Abi<|Sr<|At0 Mv<|At0 Ag<|Abh ?_));have I:=((I.l9 64 5).l9 53 3);refine WP.block ?_;refine Abx (σ:=PfS) (fun z=>[(0,.string s),(2,Pt b2),(4,Pt b4),(5,.string (mk z.1))]) (PfJ B s b4 b2) (fun z=>z.1.length)
  ⟨(tx s,none,0,none,0,[],[],B.h),⟨rfl,rfl,rfl,by rw[show mk (tx s)=s from M2 s];rfl,trivial⟩,⟨I,Ae.le.refl _,⟨(tx s).length+1,rfl,Ahu _⟩,fun _ h=>(by cases h),fun _ h=>(by cases h),by show 0+0+(tx s).length≤4096;omega⟩⟩ ?_
 clear I;rintro⟨rest,q,c,q2,c2,ps,rs,hh⟩ e w ⟨I,gl,⟨f,hf,hrf⟩,hin,hnm,hln⟩;dsimp only at I gl hf hrf hin hnm hln ⊢;refine Abi<|Sr<|At0 Mv<|Ab (Ac4 rfl rfl)<|Abh ?_;refine AbG rfl (fun h18=>?_) (fun h18=>?_)
 ·have hne:rest≠[]:=by
   rintro rfl;rw[B3] at h18;simp at h18
  obtain⟨f,rfl⟩:∃g,f=g+1:=⟨f-1,by omega⟩;rw[readF,if_neg hne] at hf;obtain⟨ca,hca⟩:∃z,Lib.cut rest [10]=z:=⟨_,rfl⟩;obtain⟨ln,r2,bb⟩:=ca;have hca1:=Cw rest [10];have hca2:=W0 hca (by decide) hne;rw[hca] at hca1 hf;dsimp only at hca1 hf;obtain⟨cb,hcb⟩:∃z,Lib.cut ln [32]=z:=⟨_,rfl⟩;obtain⟨w7,w8,b9⟩:=cb;have hcb1:=Cw ln [32];rw[hcb] at hcb1;dsimp only at hcb1;have hP:D8 ln=(b9 && decide (w7=[112,114,101,100]) && decide (w8≠[]) && decide (w8.head?≠some 58) && decide (w8.head?≠some 61)):=by unfold D8;rw[hcb]
  refine Abk<|WP.block<|Sr<|At0 Ag<|Abh<|Sr<|At0 Mv<|Abj (Abm I call47 (DL _ I.j6 (mk rest) [10] (by rw[Ar];omega) (by decide) hca) rfl fun w I=>Av Mv<|At0 (Y.extract rfl rfl)<|At0 (Y.extract rfl rfl)<|Ab (Y.extract rfl rfl)<|At0 Ag<|At0 Ag<|Abh<|Abi<|Sr<|At0 Mv<|Abj (Abm I call47 (DL _ I.j6 (mk ln) [32] (by rw[Ar];omega) (by decide) hcb) rfl fun w I=>Av Mv<|At0 (Y.extract rfl rfl)<|At0 (Y.extract rfl rfl)<|Ab (Y.extract rfl rfl)<|At0 Ag<|At0 Ag<|Ab Ag<|Abh<|Abi ?_));refine Acc (σ:=Unit) (fun _=>[(0,.string s),(2,Pt b2),(4,Pt b4),(5,.string (mk r2)),(6,.string (mk ln)),(8,.string (mk w8)),(50,.bool (D8 ln))])
   (fun _ w=>Inv B hh (pfM b4 b2 (rest,q,c,q2,c2,ps,rs,hh)) w) ?_ ?_
  ·cases b9 with
   |false=>
    refine Abg<|Ab Mv<|AF (Y.b Mv (rfl))<|Gg<|Gg<|Ab (Abp rfl rfl)<|Ab Mv<|Gg<|Gg<|Gg<|Ab (Abp rfl rfl)<|Ab Mv<|Gg<|Gg<|Gg<|Ab (Abp rfl rfl)<|Ab Mv<|Gg<|Gg<|Gg<|Ab (Abp rfl rfl)<|Abh ?_;exact⟨(),⟨rfl,rfl,rfl,rfl,rfl,rfl,congrArg Value.bool (by rw[hP];rfl),trivial⟩,I⟩
   |true=>
    by_cases h7:w7=[112,114,101,100]
    ·cases w8 with
     |nil=>
      refine Abg<|Ab Mv<|AT (Y.b Mv (rfl))<|Gt Mv<|GT (Y.is (Ab6 rfl rfl) ((by rw[B3];exact congrArg Value.bool (decide_eq_true h7))))<|Ab (Abo rfl rfl)<|Ab Mv<|Gt Mv<|Gi (AbF Ah9 rfl)<|GF (Abt (AbL rfl rfl) ((by show ¬((0:Nat):Int)>0;omega)))<|Ab (Abo rfl rfl)<|Ab Mv<|Gg<|Gg<|Gg<|Ab (Abp rfl rfl)<|Ab Mv<|Gg<|Gg<|Gg<|Ab (Abp rfl rfl)<|Abh ?_;exact⟨(),⟨rfl,rfl,rfl,rfl,rfl,rfl,congrArg Value.bool (by rw[hP];simp),trivial⟩,I⟩
     |cons ch x'=>
      have hg:(mk (ch::x'))[0]?=some ch:=rfl;have hsz:(mk (ch::x')).size=x'.length+1:=Ar _;by_cases h58:ch=58
      ·subst h58;refine Abg<|Ab Mv<|AT (Y.b Mv (rfl))<|Gt Mv<|GT (Y.is (Ab6 rfl rfl) ((by rw[B3];exact congrArg Value.bool (decide_eq_true h7))))<|Ab (Abo rfl rfl)<|Ab Mv<|Gt Mv<|Gi (AbF Ah9 rfl)<|GT (Abs (AbL rfl rfl) ((by rw[hsz];omega)))<|Ab (Abo rfl rfl)<|Ab Mv<|Gt Mv<|Gw (Aci Ah9 rfl rfl (by decide) hg)<|GF (Abt (AbK rfl rfl) ((fun h=>h rfl)))<|Ab (Abo rfl rfl)<|Ab Mv<|Gg<|Gg<|Gg<|Ab (Abp rfl rfl)<|Abh ?_;exact⟨(),⟨rfl,rfl,rfl,rfl,rfl,rfl,congrArg Value.bool (by rw[hP];simp),trivial⟩,I⟩
      ·have n58:(ch.toNat:Int)≠58:=fun e=>h58 (AgX.1 (by show ch.toNat=58;omega));by_cases h61:ch=61
       ·subst h61;refine Abg<|Ab Mv<|AT (Y.b Mv (rfl))<|Gt Mv<|GT (Y.is (Ab6 rfl rfl) ((by rw[B3];exact congrArg Value.bool (decide_eq_true h7))))<|Ab (Abo rfl rfl)<|Ab Mv<|Gt Mv<|Gi (AbF Ah9 rfl)<|GT (Abs (AbL rfl rfl) ((by rw[hsz];omega)))<|Ab (Abo rfl rfl)<|Ab Mv<|Gt Mv<|Gw (Aci Ah9 rfl rfl (by decide) hg)<|GT (Abs (AbK rfl rfl) (n58))<|Ab (Abo rfl rfl)<|Ab Mv<|Gt Mv<|Gw (Aci Ah9 rfl rfl (by decide) hg)<|GF (Abt (AbK rfl rfl) ((fun h=>h rfl)))<|Ab (Abo rfl rfl)<|Abh ?_;exact⟨(),⟨rfl,rfl,rfl,rfl,rfl,rfl,congrArg Value.bool (by rw[hP];simp),trivial⟩,I⟩
       ·have n61:(ch.toNat:Int)≠61:=fun e=>h61 (AgX.1 (by show ch.toNat=61;omega));refine Abg<|Ab Mv<|AT (Y.b Mv (rfl))<|Gt Mv<|GT (Y.is (Ab6 rfl rfl) ((by rw[B3];exact congrArg Value.bool (decide_eq_true h7))))<|Ab (Abo rfl rfl)<|Ab Mv<|Gt Mv<|Gi (AbF Ah9 rfl)<|GT (Abs (AbL rfl rfl) ((by rw[hsz];omega)))<|Ab (Abo rfl rfl)<|Ab Mv<|Gt Mv<|Gw (Aci Ah9 rfl rfl (by decide) hg)<|GT (Abs (AbK rfl rfl) (n58))<|Ab (Abo rfl rfl)<|Ab Mv<|Gt Mv<|Gw (Aci Ah9 rfl rfl (by decide) hg)<|GT (Abs (AbK rfl rfl) (n61))<|Ab (Abo rfl rfl)<|Abh ?_;exact⟨(),⟨rfl,rfl,rfl,rfl,rfl,rfl,congrArg Value.bool (by rw[hP];simp[h7,h58,h61]),trivial⟩,I⟩
    ·refine Abg<|Ab Mv<|AT (Y.b Mv (rfl))<|Gt Mv<|GF (Y.is (Ab6 rfl rfl) ((by rw[B3];exact congrArg Value.bool (decide_eq_false h7))))<|Ab (Abo rfl rfl)<|Ab Mv<|Gg<|Gg<|Gg<|Ab (Abp rfl rfl)<|Ab Mv<|Gg<|Gg<|Gg<|Ab (Abp rfl rfl)<|Ab Mv<|Gg<|Gg<|Gg<|Ab (Abp rfl rfl)<|Abh ?_;exact⟨(),⟨rfl,rfl,rfl,rfl,rfl,rfl,congrArg Value.bool (by rw[hP];simp[h7]),trivial⟩,I⟩
  rintro _ e w I;refine AbG rfl (fun h50=>?_) (fun h50=>?_)
  ·have hp:D8 ln=true:=h50;obtain⟨cc,hcc⟩:∃z,Lib.cut w8 [32]=z:=⟨_,rfl⟩;obtain⟨x10,x11,b12⟩:=cc;have hcc1:=Cw w8 [32];rw[hcc] at hcc1;dsimp only at hcc1;obtain⟨cd,hcd⟩:∃z,Lib.cut x11 [32]=z:=⟨_,rfl⟩;obtain⟨x13,x14,b15⟩:=cd;have hcd1:=Cw x11 [32];rw[hcd] at hcd1;dsimp only at hcd1;obtain⟨pr,hpr⟩:∃z:Prd,z=⟨mk x10,BP x13,BP x14⟩:=⟨_,rfl⟩;have hlF:Iw (ps,rs.map Rul.er) ln=(ps++[pr],rs.map Rul.er):=by
    unfold Iw XY;rw[if_pos hp,hcb];dsimp only;rw[hcc];dsimp only;rw[hcd,hpr]
   rw[hlF] at hf;refine Sr<|At0 Mv<|Abj (Abm I call47 (DL _ I.j6 (mk w8) [32] (by rw[Ar];omega) (by decide) hcc) rfl fun w I=>Av Mv<|At0 (Y.extract rfl rfl)<|At0 (Y.extract rfl rfl)<|Ab (Y.extract rfl rfl)<|At0 Ag<|At0 Ag<|Ab Ag<|Abh<|Sr<|At0 Mv<|Abj (Abm I call47 (DL _ I.j6 (mk x11) [32] (by rw[Ar];omega) (by decide) hcd) rfl fun w I=>Av Mv<|At0 (Y.extract rfl rfl)<|At0 (Y.extract rfl rfl)<|Ab (Y.extract rfl rfl)<|At0 Ag<|At0 Ag<|Ab Ag<|Abh ?_));have I:Inv B hh (Ao 53 3 (.slice q ps.length c) ps.length (ps.flatMap Prd.enc)::[Ao 64 5 (.slice q2 rs.length c2) rs.length (rs.flatMap Rul.enc),box b4 [.slice q ps.length c,.slice q2 rs.length c2] 25,box b2 [.slice none 0 0,.slice none 0 0] 25]) w:=I;refine Abi<|Ab9 AC RAp.pre ⟨hh,none⟩ (J:=JAp B [Ao 64 5 (.slice q2 rs.length c2) rs.length (rs.flatMap Rul.enc),box b4 [.slice q ps.length c,.slice q2 rs.length c2] 25,box b2 [.slice none 0 0,.slice none 0 0] 25] 53 3 ps.length 1 (.slice q ps.length c) (ps.flatMap Prd.enc) (Prd.enc ⟨mk x10,BP x13,BP x14⟩) 9) ⟨rfl,I.drew⟩ 10 (by kernel_rfl)<|Aby (v:=.pointer (some ⟨_,_,none⟩)) (fun _=>Aa _) RAp.pre (JAp.set (by decide)) (fun _ s w us hl hj=>have I:=hj.base;have hl:=hl.h;Abu At rfl)<|Aby (v:=.slice _ _ _) (fun _=>Aa _) RAp.pre (JAp.set (by decide)) (fun _ s w us hl hj=>have I:=hj.base;have hl:=hl.h;Ld I A7 1 0 1 rfl rfl rfl)<|Aby (v:=.string _) (fun _=>Aa _) RAp.pre (JAp.set (by decide)) (fun _ s w us hl hj=>have I:=hj.base;have hl:=hl.h;Mv)<|Aby (v:=.string _) (fun _=>Aa _) RAp.pre (JAp.set (by decide)) (fun _ s w us hl hj=>have I:=hj.base;have hl:=hl.h;Mv) ?_;refine AbT (Φ:=K7 (EqV (.int .i64 (BP x13)))) (K7.mono EqV.mono) (fun _=>Aa _) (fun D' z w hDk hl hj=>?_) ?_
   ·refine FR.all fun us=>hj.know (by decide) fun N I=>?_;have hl:=hl.h;refine AbE I call48 (DK _ I.j6 (mk x13) (by rw[Ar];omega)) rfl ?_;rintro _ h2 w I hl' rfl;exact⟨_,hl',I,rfl⟩
   refine Aby (v:=.string _) (fun _=>Aa _) RAp.pre (JAp.set (by decide)) (fun _ s w us hl hj=>have I:=hj.base;have hl:=hl.h;Mv) ?_;refine AbT (Φ:=K7 (EqV (.int .i64 (BP x14)))) (K7.mono EqV.mono) (fun _=>Aa _) (fun D' z w hDk hl hj=>?_) ?_
   ·intro u67 q67;refine hj.know (by decide) fun N I=>?_;have hl:=hl.h;refine AbE I call48 (DK _ I.j6 (mk x14) (by rw[Ar];omega)) rfl ?_;rintro _ h2 w I hl' rfl;exact⟨_,hl',I,rfl⟩
   refine AbT (Φ:=K7 (EqV (.agg #[.string (mk x10),.int .i64 (BP x13),.int .i64 (BP x14)]))) (K7.mono EqV.mono) (fun _=>Aa _) (fun D' z w hDk hl hj=>?_) ?_
   ·intro u67 q67 u69 q69;obtain⟨⟩:=q67 rfl;obtain⟨⟩:=q69 rfl;refine hj.know (by decide) fun N I=>?_;have hl:=hl.h;exact AcJ I (Y.build Sa AiB rfl rfl) (rfl)
   refine AbT (Φ:=KnA (LK 53 (Prd.enc ⟨mk x10,BP x13,BP x14⟩) 1)) (KnA.mono LK.mono) (fun _=>Aa _) (fun D' z w hDk hl hj=>?_) ?_
   ·intro u67 q67 u69 q69 u70 q70;obtain rfl:u70=.agg #[.string (mk x10),.int .i64 (BP x13),.int .i64 (BP x14)]:=q70 rfl;exact hj.know (by decide) fun N I=>AcM (cs:=Prd.enc ⟨mk x10,BP x13,BP x14⟩) I Aia Aim AiB (by decide) (by decide) rfl rfl (fun v h w I le sl=>⟨h,le,I,sl⟩)
   refine AbT (Φ:=ON (ps.length+1)) ON.mono (fun _=>Aa _) (fun D' z w hDk hl hj=>?_) ?_
   ·intro u67 q67 u69 q69 u70 q70 u71 q71;obtain⟨bl,rfl,hbl⟩:=q71 rfl;refine hj.app hDk fun I=>?_;have kb:Ci z.h bl (Prd.enc ⟨mk x10,BP x13,BP x14⟩):=⟨fun j v hv=>by simp[Ae.cell,hbl,hv]⟩;exact Ab0 I Aia Vg 0 rfl rfl rfl (I.rd kb.rd) rfl rfl (by decide) (by omega) (by omega) fun g c w I=>⟨g,c,rfl,I⟩
   refine Acl fun D z w hD hl hj u67 q67 u69 q69 u70 q70 u71 q71 u72 q72=>?_;obtain⟨g,c4,rfl,h7'⟩:=q72 rfl;have I:=hj.inv;rw[h7'] at I;refine Ap (Abu At rfl)<|Abj (Ss0 I A7 2 rfl rfl rfl rfl fun w I=>Abh<|Abz ?_);refine⟨(r2,some ⟨g,0,none⟩,c4,q2,c2,ps++[pr],rs,z.h),⟨⟨rfl,rfl,rfl,rfl,trivial⟩,⟨?_,gl.trans hl.h,⟨f,hf,by dsimp only;omega⟩,fun r hr=>(hin r hr).le hl.h,fun y hy=>?_,by dsimp only;rw[Ae2,Afv];omega⟩⟩,by dsimp only;omega⟩
   ·subst hpr;simp only[pfM,linM,Ae2,Afv,Afm,AfT];exact I
   ·dsimp only at hy;rcases Afu.1 hy with hy|hy
    ·exact hnm y hy
    ·rw[Afl] at hy;subst hy;subst hpr;rw[Ar];omega
  have hp:¬D8 ln=true:=by simpa using h50
  obtain⟨wl,hwl⟩:∃z,ln.take (ln.length-1)=z:=⟨_,rfl⟩;have hwll:wl.length≤4096:=by rw[←hwl,Afj];omega
  have hlF:Iw (ps,rs.map Rul.er) ln=(ps,rs.map Rul.er++[OL ps wl]):=by unfold Iw;rw[if_neg hp,hwl]
  rw[hlF] at hf;refine Abk<|Abi<|Sr<|At0 Mv<|Ai (AbF Ah9 rfl)<|Ad (AbL rfl rfl)<|Abh ?_;refine Acc (σ:=Unit) (fun _=>[(0,.string s),(2,Pt b2),(4,Pt b4),(5,.string (mk r2)),(6,.string (mk wl))])
   (fun _ w=>Inv B hh (pfM b4 b2 (rest,q,c,q2,c2,ps,rs,hh)) w) ?_ ?_
  ·refine Abl rfl (fun h76=>?_) (fun h76=>?_)
   ·have h76':0<ln.length:=by rw[←Ar ln];omega
    have hsub:(((mk ln).size:Nat):Int)-1=((ln.length-1:Nat):Int):=by rw[Ar];omega
    have e3:(mk ln).extract 0 (ln.length-1)=mk wl:=by rw[CJ,hwl];rfl
    exact Abg<|At0 Mv<|At0 Mv<|Ai (AbF Ah9 rfl)<|Ai (AcA rfl rfl ⟨by rw[Ar];omega,by rw[Ar];omega⟩)<|At0 (Acu (l:=0) (h:=ln.length-1) Ah9 rfl (.inl ⟨rfl,rfl⟩) (.inr ⟨_,_,rfl,congrArg (Value.int .i64) hsub⟩) (Afa _) (by rw[Ar];omega))<|At0 Ag<|Abh<|⟨(),⟨rfl,rfl,rfl,rfl,congrArg Value.string e3,trivial⟩,I⟩
   ·have h0:ln=[]:=Agh.1 (by rw[←Ar ln];omega);have e3:mk ln=mk wl:=by rw[←hwl,h0];rfl
    exact Abk<|⟨(),⟨rfl,rfl,rfl,rfl,congrArg Value.string e3,trivial⟩,I⟩
  rintro _ e w I;obtain⟨h5,sp,le5,hvp,hxp,osp,I⟩:=I.y5 rfl;dsimp only at hvp hxp osp I;rw[←hvp] at I;have isp:HQ sp h5:=⟨osp.in fun _=>rfl,by rw[hxp];omega⟩;have I:Inv B h5 (Ao 64 5 (.slice q2 rs.length c2) rs.length (rs.flatMap Rul.enc)::[box b4 [sp.val,.slice q2 rs.length c2] 25,box b2 [.slice none 0 0,.slice none 0 0] 25]) w:=I;refine Ab9 AC RAq.pre ⟨h5,none⟩ (J:=JAq B [box b4 [sp.val,.slice q2 rs.length c2] 25,box b2 [.slice none 0 0,.slice none 0 0] 25] 64 5 rs.length 1 (.slice q2 rs.length c2) (rs.flatMap Rul.enc) 7) ⟨rfl,I.drew⟩ 8 (by kernel_rfl)<|Aby (v:=.pointer (some ⟨_,_,none⟩)) (fun _=>Aa _) RAq.pre (JAq.set (by decide)) (fun _ s w us hl hj=>have I:=hj.base;have hl:=hl.h;Abr AU rfl)<|Aby (v:=.slice _ _ _) (fun _=>Aa _) RAq.pre (JAq.set (by decide)) (fun _ s w us hl hj=>have I:=hj.base;have hl:=hl.h;Ld I Cc 0 1 1 rfl rfl rfl)<|Aby (v:=.pointer (some ⟨_,_,none⟩)) (fun _=>Aa _) RAq.pre (JAq.set (by decide)) (fun _ s w us hl hj=>have I:=hj.base;have hl:=hl.h;Abu At rfl)<|Aby (v:=.slice _ _ _) (fun _=>Aa _) RAq.pre (JAq.set (by decide)) (fun _ s w us hl hj=>have I:=hj.base;have hl:=hl.h;Ld I A7 0 0 1 rfl rfl rfl)<|Aby (v:=.string _) (fun _=>Aa _) RAq.pre (JAq.set (by decide)) (fun _ s w us hl hj=>have I:=hj.base;have hl:=hl.h;Mv) ?_;refine AbT (Φ:=PM (Aaq sp.xs wl h5)) (PM.mono Aaq.mono) (fun _=>Aa _) (fun D' z w hDk hl hj=>?_) ?_
  ·refine FR.all fun us=>hj.know (by decide) fun N I=>?_;have hl:=hl.h;refine AbE I call49 (Ph _ I.j6 sp (isp.le hl) (mk wl) (by rw[Ar];omega)) rfl ?_;rintro _ h1 w I hl' ⟨r,rfl,or⟩;exact⟨_,hl',I,⟨r,rfl,or.older hl⟩⟩
  refine AbT (Φ:=PM (Zb 64 (Zl sp.xs wl h5))) (PM.mono (Zb.mono Zl.mono)) (fun _=>Aa _) (fun D' z w hDk hl hj=>?_) ?_
  ·intro u87 q87;obtain⟨r,rfl,or⟩:=q87 rfl;exact hj.know (by decide) fun N I=>AcM (cs:=r.enc) I Aic Aiv Aip (by decide) (by decide) rfl rfl (fun v h w I le sl=>⟨h,le,I,r.enc,sl,r,rfl,or.le le⟩)
  refine AbT (Φ:=X6 (Zl sp.xs wl h5) (rs.length+1)) (X6.mono Zl.mono) (fun _=>Aa _) (fun D' z w hDk hl hj=>?_) ?_
  ·intro u87 q87 u88 q88;obtain⟨cs,⟨bl,rfl,hbl⟩,r,rfl,or⟩:=q88 rfl;refine hj.app hDk fun I=>?_;have kb:Ci z.h bl r.enc:=⟨fun j v hv=>by simp[Ae.cell,hbl,hv]⟩;exact Ab0 I Aic OC 0 rfl rfl rfl (I.rd kb.rd) rfl rfl (by decide) (by omega) (by omega) fun g c w I=>⟨g,c,r.enc,rfl,⟨r,rfl,or⟩,I⟩
  refine Acl fun D z w hD hl hj u87 q87 u88 q88 u89 q89=>?_;obtain⟨g,c4,cs,rfl,h7',r,rfl,or⟩:=q89 rfl;have I:=hj.inv;rw[h7'] at I;refine Ap (Abr AU rfl)<|Abj (Ss0 I Cc 1 rfl rfl rfl rfl fun w I=>Abh ?_);have hl:=hl.h;obtain⟨h10,K,mono10,keep10⟩:=I.x9 (osp.le hl) gl;have gl10:hh.le h10:=mono10 hh (le5.trans hl) (Ae.le.refl _);have hrin:r.In h10:=⟨F3 (or.ho.keep osp keep10) or.hn,⟨(or.bo.keep osp keep10).in fun _=>rfl,by have:=or.bn;omega⟩,fun x hx=>F3 ((or.lo x hx).1.keep osp keep10) (or.lo x hx).2⟩;refine⟨(r2,q,c,some ⟨g,0,none⟩,c4,ps,rs++[r],h10),⟨⟨rfl,rfl,rfl,rfl,trivial⟩,⟨?_,gl.trans gl10,⟨f,?_,by dsimp only;omega⟩,fun y hy=>?_,hnm,by dsimp only;rw[Ae2,Afv];omega⟩⟩,by dsimp only;omega⟩
  ·rw[hvp,hxp] at K;simp only[pfM,linM,Ae2,Afv,Afm,AfT];exact K
  ·dsimp only;rw[AfM,AgQ,or.er,hxp];exact hf
  ·dsimp only at hy ⊢;rcases Afu.1 hy with hy|hy
   ·exact(hin y hy).le gl10
   ·rw[Afl] at hy;subst hy;exact hrin
 have he:rest=[]:=by
  rw[B3] at h18;simpa using h18
 subst he;have hA:OM (tx s)=(ps,rs.map Rul.er):=by
  rw[←hf];cases f with
  |zero=>rfl
  |succ f=>rw[readF,if_pos rfl]
 have I:Inv B hh (Ao 53 3 (.slice q ps.length c) ps.length (ps.flatMap Prd.enc)::[Ao 64 5 (.slice q2 rs.length c2) rs.length (rs.flatMap Rul.enc),box b4 [.slice q ps.length c,.slice q2 rs.length c2] 25,box b2 [.slice none 0 0,.slice none 0 0] 25]) w:=I;have hcap0:=FC (I.at 1 rfl);obtain⟨h3,sp,le3,hvp,hxp,isp,I⟩:=I.p8 (fun _=>rfl) rfl;obtain⟨h4,sr,le4,hvr,hxr,isr,I⟩:=I.p8 (fun _=>rfl) rfl;subst hxp;subst hxr;have hcap:sr.xs.length≤sr.cap:=by
  have hv:=hvr;unfold Sl.val at hv;injection hv with _ _ e3;omega
 rw[←hvp,←hvr] at I;obtain⟨p,hp⟩:∃p:Prg,p=⟨sp,sr⟩:=⟨_,rfl⟩;have hpin:p.In h4:=by
  subst hp;exact⟨⟨Sl.In.le isp le4,by show sp.xs.length≤_;omega⟩,⟨isr,by show sr.xs.length≤_;omega⟩,fun y hy=>(hin y hy).le (le3.trans le4)⟩
 have hpcap:p.rules.xs.length≤p.rules.cap:=by subst hp;exact hcap
 have hpnm:p.Nm:=fun y hy=>by subst hp;have:=hnm y hy;omega
 have hpe:p.er=D9 (OM (tx s)):=by rw[hA];subst hp;rfl
 have hD:=YY hs hpe;have I:Inv B h4 [box b4 p.enc 25,box b2 [.slice none 0 0,.slice none 0 0] 25] w:=by subst hp;exact I
 refine Abz<|Abi<|Abi ?_;by_cases hc0:Ac p=0
 ·by_cases hct:Cz p=tx s
  ·rw[if_pos ⟨hc0,hct⟩] at hD;refine Abg<|Ax (Ld I As 0 0 2 rfl rfl rfl)<|Abj (Abm I call16 (De _ I.j6 p hpin hpnm) rfl fun w I=>AF (Abt (AbK rfl rfl) ((fun h=>h hc0)))<|Ab Mv<|Gx (Ld I As 0 0 2 rfl rfl rfl)<|Ab8 rfl (Abm I call17 (Ki _ I.j6 p hpin hpnm hc0) rfl fun w I=>Gt Mv<|GF (Y.is (Ac4 rfl rfl) ((by rw[B3,decide_eq_true (show tx (mk (Cz p))=tx s from hct)];rfl)))<|Ab (Abp rfl rfl)<|Abh<|Abq rfl<|Abk<|Sr<|Ax (Ld I As 0 0 2 rfl rfl rfl)<|Abj (Sx I As 1 rfl rfl rfl rfl fun w I=>Ab Ag<|Abh<|Wr ?_)));exact BH.mk (vs:=[.agg #[_,_],.bool _]) rfl ⟨⟨_,_,_,_,_,rfl,As,I.l5 1 rfl 0 2,rfl,rfl⟩,rfl,trivial⟩ I.j5 (⟨p,by rw[hD];rfl,hpin,hpnm,hpcap,by unfold Me;rw[hD];rfl⟩)
  ·rw[if_neg (fun h=>hct h.2)] at hD;refine Abg<|Ax (Ld I As 0 0 2 rfl rfl rfl)<|Abj (Abm I call16 (De _ I.j6 p hpin hpnm) rfl fun w I=>AF (Abt (AbK rfl rfl) ((fun h=>h hc0)))<|Ab Mv<|Gx (Ld I As 0 0 2 rfl rfl rfl)<|Ab8 rfl (Abm I call17 (Ki _ I.j6 p hpin hpnm hc0) rfl fun w I=>Gt Mv<|GT (Y.is (Ac4 rfl rfl) ((by rw[B3,decide_eq_false (show ¬tx (mk (Cz p))=tx s from hct)];rfl)))<|Ab (Abp rfl rfl)<|Abh<|Abw rfl<|Sr<|AbB (v:=.agg #[.slice _ _ _,.slice _ _ _]) (Y.build It Aio rfl rfl)<|Abj (Sx I As 1 rfl rfl rfl rfl fun w I=>Ab Ag<|Abh<|Wr ?_)));exact BH.mk (vs:=[.agg #[_,_],.bool _]) rfl ⟨⟨_,_,_,_,_,rfl,As,I.l5 1 rfl 0 2,rfl,rfl⟩,rfl,trivial⟩ I.j5 (⟨⟨⟨none,0,[]⟩,⟨none,0,[]⟩⟩,by rw[hD];rfl,⟨nilIs,⟨nilIs,(fun x hx=>by cases hx)⟩⟩,(fun x hx=>by cases hx),Afg 0,by unfold Me;rw[hD];rfl⟩)
 ·rw[if_neg (fun h=>hc0 h.1)] at hD;refine Abg<|Ax (Ld I As 0 0 2 rfl rfl rfl)<|Abj (Abm I call16 (De _ I.j6 p hpin hpnm) rfl fun w I=>AT (Abs (AbK rfl rfl) (hc0))<|Ab Mv<|Gg<|Gg<|Gg<|Gg<|Ab (Abo rfl rfl)<|Abh<|Abw rfl<|Sr<|AbB (v:=.agg #[.slice _ _ _,.slice _ _ _]) (Y.build It Aio rfl rfl)<|Abj (Sx I As 1 rfl rfl rfl rfl fun w I=>Ab Ag<|Abh<|Wr ?_));exact BH.mk (vs:=[.agg #[_,_],.bool _]) rfl ⟨⟨_,_,_,_,_,rfl,As,I.l5 1 rfl 0 2,rfl,rfl⟩,rfl,trivial⟩ I.j5 (⟨⟨⟨none,0,[]⟩,⟨none,0,[]⟩⟩,by rw[hD];rfl,⟨nilIs,⟨nilIs,(fun x hx=>by cases hx)⟩⟩,(fun x hx=>by cases hx),Afg 0,by unfold Me;rw[hD];rfl⟩)
end
section
def GvV(p:Prg)(s:Bs):Sp:=fun v h=>∃q:Prg,v=q.val∧q.In h∧q.Nm∧Ac q=0∧q.rules.xs.length≤q.rules.cap∧∃o,CR p s o q
theorem GvV.mono{p:Prg}{s:Bs}:Bt (GvV p s):=fun _ _ _ hl ⟨q,a,b,c⟩=>⟨q,a,b.le hl,c⟩
def GvC(p:Prg)(s:Bs)(cs:List Value)(h:Ae):Prop:=∃q:Prg,cs=q.enc∧q.In h∧q.Nm∧Ac q=0∧q.rules.xs.length≤q.rules.cap∧∃o,CR p s o q
theorem RS{T:Bs}{i:Nat}{c:UInt8}(hi:T[i]?=some c):(T.take (i+1)).count 10=(T.take i).count 10+if c=10 then 1 else 0:=by
 rw[AfS,hi,Ahb,List.count_append,List.count_singleton];congr 1;by_cases h:c=10
 ·subst h;rfl
 ·rw[if_neg h,if_neg (by simpa using h)]
theorem W5{T:Bs}{c:UInt8}(h:T[T.length-1]?=some c):Lib.hasSuffix T [10]=decide (c=10):=by
 have hne:T≠[]:=fun e=>by subst e;simp at h
 obtain⟨r,d,rfl⟩:∃r d,T=r++[d]:=⟨T.dropLast,T.getLast hne,(List.dropLast_concat_getLast hne).symm⟩;have hd:d=c:=by simpa using h
 subst hd;by_cases h10:d=10
 ·subst h10;rw[LO];rfl
 ·rw[decide_eq_false h10];cases hh:Lib.hasSuffix (r++[d]) [10] with
  |false=>rfl
  |true=>
   exfalso;unfold Lib.hasSuffix at hh;rw[AgC] at hh;obtain⟨q,hq⟩:=hh;have:=(List.append_inj' hq rfl).2;simp at this;exact h10 this.symm
theorem UW(B:Aq)(hB:B.ok)(s t:ByteArray)(ht:t.size≤140737488355328):Fn prog 14 [.string s,.string t] B (fun v _=>∃o e,v=.tuple #[.string (mk o),.int .i64 e]∧FP s t o e):=by
 have htl:=BF t;have hget:∀{i:Nat} {c:UInt8},(tx t)[i]?=some c→t[i]?=some c:=fun {i c} h=>by
  obtain⟨hi,he⟩:=Ae9.1 h;have h2:i<t.size:=by omega
  rw[getElem?_pos t i h2,←he];rfl
 refine Fo hB func14 rfl ntmps14 fun e I=>Sr<|At0 Ag<|Ai Ag<|Abh<|Abi<|Sr<|At0 Mv<|Ai (AbF Ah9 rfl)<|Ad (AbL rfl rfl)<|Abh ?_;refine Abl rfl (fun hs=>?_) (fun hs=>?_)
 ·refine Sr<|At0 Ag<|Ai Ag<|Abh<|Wr ?_;exact BH.mk (vs:=[.string _,.int .i64 _]) rfl ⟨rfl,rfl,trivial⟩ I.j5 (⟨[],2,rfl,by unfold FP;rw[if_pos (by omega)];exact⟨rfl,rfl⟩⟩)
 have hs':¬4096<s.size:=by omega
 refine Abk<|Sr<|At0 Mv<|Abj (AbE I call18 (Ol _ I.j6 s (by omega)) rfl ?_);rintro _ h1 w I le1 ⟨p,rfl,pi,pn,pcap,pe⟩;refine Au Mv<|Ax (Y.extract rfl rfl)<|Ab (Y.extract rfl rfl)<|Abj (O.alloc I Aio rfl fun b6 w I=>Abj (Sx I As 0 rfl rfl rfl rfl fun w I=>Ab Ag<|Abh ?_));cases hk:B4 s with
 |none=>
  refine Abi<|Sr<|Ab Mv<|AT (Y.b (Y.not rfl) (rfl))<|Abh<|Abw rfl<|Sr<|At0 Ag<|Ai Ag<|Abh<|Wr ?_;exact BH.mk (vs:=[.string _,.int .i64 _]) rfl ⟨rfl,rfl,trivial⟩ I.j5 (⟨[],1,rfl,by unfold FP;rw[if_neg hs',hk];exact⟨rfl,rfl⟩⟩)
 |some st=>
  obtain⟨_,hP,hch,_⟩:=Ka hk;rw[hP] at pe;have hc:Ac p=0:=by rw[←B6,pe,hch]
  refine Abi<|Sr<|Ab Mv<|AF (Y.b (Y.not rfl) (rfl))<|Abh<|Abq rfl<|Abk<|Sr<|Ai Ag<|Abh<|Abi<|Sr<|Ai Ag<|Abh<|WP.block ?_;refine Abx (σ:=Nat) (fun i=>[(1,.string t),(6,Pt b6),(8,.int .i64 (((tx t).take i).count 10:Nat)),(9,.int .i64 i)]) (fun i w=>Inv B h1 [box b6 p.enc 25] w∧i≤t.size) (fun i=>t.size-i)
   ⟨0,⟨rfl,rfl,rfl,rfl,trivial⟩,I,Afa _⟩ ?_
  rintro i e w ⟨I,hi⟩;have hcl:((tx t).take i).count 10≤i:=AfY List.count_le_length (by rw[Afj];omega);refine Abi<|Abi ?_;refine Acc (σ:=Unit) (fun _=>[(1,.string t),(6,Pt b6),(8,.int .i64 (((tx t).take i).count 10:Nat)),(9,.int .i64 i),(31,.bool (decide ((i:Int)<t.size∧((((tx t).take i).count 10:Nat):Int)≤40)))]) (fun _ w=>Inv B h1 [box b6 p.enc 25] w) ?_ ?_
  ·by_cases hlt:(i:Int)<t.size
   ·by_cases h40:((((tx t).take i).count 10:Nat):Int)≤40
    ·exact Abg<|Ai Mv<|At0 Mv<|Ai (AbF Ah9 rfl)<|AT (Abs (AbC rfl rfl) (hlt))<|Ab Mv<|Gi Mv<|GT (Abs (AcD rfl rfl) (h40))<|Ab (Abo rfl rfl)<|Abh<|⟨(),⟨rfl,rfl,rfl,rfl,congrArg Value.bool (decide_eq_true ⟨hlt,h40⟩).symm,trivial⟩,I⟩
    ·exact Abg<|Ai Mv<|At0 Mv<|Ai (AbF Ah9 rfl)<|AT (Abs (AbC rfl rfl) (hlt))<|Ab Mv<|Gi Mv<|GF (Abt (AcD rfl rfl) (h40))<|Ab (Abo rfl rfl)<|Abh<|⟨(),⟨rfl,rfl,rfl,rfl,congrArg Value.bool (decide_eq_false fun h=>h40 h.2).symm,trivial⟩,I⟩
   ·exact Abg<|Ai Mv<|At0 Mv<|Ai (AbF Ah9 rfl)<|AF (Abt (AbC rfl rfl) (hlt))<|Ab Mv<|Gg<|Gg<|Ab (Abp rfl rfl)<|Abh<|⟨(),⟨rfl,rfl,rfl,rfl,congrArg Value.bool (decide_eq_false fun h=>hlt h.1).symm,trivial⟩,I⟩
  rintro _ e w I;refine Abl rfl (fun h31=>?_) (fun h31=>?_)
  ·have hi':i<(tx t).length:=by omega
   obtain⟨c,hcq⟩:∃c,(tx t)[i]?=some c:=⟨_,Ae4 hi'⟩;have hct:=RS hcq;have hb:=c.toNat_lt;refine Abk<|Abi<|WP.block<|Abi ?_;by_cases h10:c=10
   ·subst h10;rw[if_pos rfl] at hct;refine Abg<|At0 Mv<|Ai Mv<|Aw (Aci Ah9 rfl rfl (AfR _) (hget hcq))<|AT (Abs (AbI rfl rfl) (rfl))<|Abh<|Abw rfl<|Abg<|Ai Mv<|Ai (Dd rfl rfl)<|Ai Ag<|Abh<|Abg<|Ai Mv<|Ai (Dd rfl rfl)<|Ai Ag<|Abh ?_;exact⟨i+1,⟨⟨rfl,rfl,congrArg (Value.int .i64) (by rw[hct];omega),rfl,trivial⟩,I,by omega⟩,by omega⟩
   ·rw[if_neg h10] at hct;refine Abg<|At0 Mv<|Ai Mv<|Aw (Aci Ah9 rfl rfl (AfR _) (hget hcq))<|AF (Abt (AbI rfl rfl) ((fun h=>h10 (AgX.1 (by show c.toNat=10;omega)))))<|Abh<|Abq rfl<|Abk<|Abg<|Ai Mv<|Ai (Dd rfl rfl)<|Ai Ag<|Abh ?_;exact⟨i+1,⟨⟨rfl,rfl,congrArg (Value.int .i64) (by rw[hct];omega),rfl,trivial⟩,I,by omega⟩,by omega⟩
  have hcle:((tx t).take i).count 10≤(tx t).count 10:=(List.take_sublist i (tx t)).count_le 10;refine Abz<|Abi<|Abi ?_;by_cases h5:4096<t.size
  ·refine Abg<|At0 Mv<|Ai (AbF Ah9 rfl)<|AT (Abs (AbL rfl rfl) ((by omega)))<|Ab Mv<|Gg<|Gg<|Ab (Abo rfl rfl)<|Abh<|Abw rfl<|Sr<|At0 Ag<|Ai Ag<|Abh<|Wr ?_;exact BH.mk (vs:=[.string _,.int .i64 _]) rfl ⟨rfl,rfl,trivial⟩ I.j5 (⟨[],2,rfl,by rw[Ce hs' hk,if_pos (.inl h5)];exact⟨rfl,rfl⟩⟩)
  by_cases h6:40<((tx t).take i).count 10
  ·refine Abg<|At0 Mv<|Ai (AbF Ah9 rfl)<|AF (Abt (AbL rfl rfl) ((by omega)))<|Ab Mv<|Gi Mv<|GT (Abs (AbL rfl rfl) ((by omega)))<|Ab (Abp rfl rfl)<|Abh<|Abw rfl<|Sr<|At0 Ag<|Ai Ag<|Abh<|Wr ?_;exact BH.mk (vs:=[.string _,.int .i64 _]) rfl ⟨rfl,rfl,trivial⟩ I.j5 (⟨[],2,rfl,by rw[Ce hs' hk,if_pos (.inr (by omega))];exact⟨rfl,rfl⟩⟩)
  obtain rfl:i=t.size:=by omega
  rw[AfW (by omega)] at h6;have hn56:¬(4096<t.size∨40<(tx t).count 10):=fun h=>h.elim h5 h6;refine Abg<|At0 Mv<|Ai (AbF Ah9 rfl)<|AF (Abt (AbL rfl rfl) ((by omega)))<|Ab Mv<|Gi Mv<|GF (Abt (AbL rfl rfl) ((by rw[AfW (by omega)];omega)))<|Ab (Abp rfl rfl)<|Abh<|Abq rfl<|Abk<|Abi<|Abi ?_;refine Acc (σ:=Unit) (fun _=>[(1,.string t),(6,Pt b6),(57,.bool (decide (tx t≠[]∧Lib.hasSuffix (tx t) [10]=false)))]) (fun _ w=>Inv B h1 [box b6 p.enc 25] w) ?_ ?_
  ·by_cases h7:tx t=[]
   ·exact Abg<|At0 Mv<|Ai (AbF Ah9 rfl)<|AF (Abt (AbL rfl rfl) ((by have:=congrArg List.length h7;simp only[Afc] at this;omega)))<|Ab Mv<|Gg<|Gg<|Gg<|Gg<|Gg<|Gg<|Ab (Abp rfl rfl)<|Abh<|⟨(),⟨rfl,rfl,congrArg Value.bool (decide_eq_false fun h=>h.1 h7).symm,trivial⟩,I⟩
   ·have hpos:=Af7.2 h7;obtain⟨c,hcq⟩:∃c,(tx t)[(tx t).length-1]?=some c:=⟨_,Ae4 (by omega)⟩;have hb:=c.toNat_lt;have hsf:=W5 hcq;exact Abg<|At0 Mv<|Ai (AbF Ah9 rfl)<|AT (Abs (AbL rfl rfl) ((by omega)))<|Ab Mv<|Gt Mv<|Gt Mv<|Gi (AbF Ah9 rfl)<|Gi (AcA rfl rfl ⟨by omega,by omega⟩)<|Gw (Aci Ah9 rfl rfl (by omega) (hget (by rw[show((t.size:Int)-1).toNat=(tx t).length-1 by omega];exact hcq)))<|Gd (AbK rfl rfl)<|Ab (Abo rfl rfl)<|Abh<|⟨(),⟨rfl,rfl,congrArg Value.bool (decide_eq_decide.2 ⟨fun h=>⟨h7,by rw[hsf];exact decide_eq_false fun e=>h (by rw[e];rfl)⟩,fun h=>fun e=>by have h2:=h.2;rw[hsf] at h2;exact of_decide_eq_false h2 (AgX.1 (by show c.toNat=10;omega))⟩),trivial⟩,I⟩
  rintro _ e w I;refine Abl rfl (fun h7=>?_) (fun h7=>?_)
  ·refine Sr<|At0 Ag<|Ai Ag<|Abh<|Wr ?_;exact BH.mk (vs:=[.string _,.int .i64 _]) rfl ⟨rfl,rfl,trivial⟩ I.j5 (⟨[],1,rfl,by rw[Ce hs' hk,if_neg hn56,if_pos h7];exact⟨rfl,rfl⟩⟩)
  refine Abk<|Sr<|At0 Ag<|Abh<|Sr<|Ai Ag<|Abh<|Abi<|Sr<|Ai Ag<|Abh<|WP.block ?_;refine Abx (σ:=Prg×Bs×Nat×Nat×Nat×Ae) (fun z=>[(1,.string t),(6,Pt b6),(10,.string (mk z.2.1)),(11,.int .i64 z.2.2.2.1),(12,.int .i64 z.2.2.2.2.1)])
   (fun z w=>Inv B z.2.2.2.2.2 [box b6 z.1.enc 25] w∧LnJ (tx t) z.2.2.1 z.2.2.2.1 z.2.2.2.2.1∧O7 (D9 st) (Dc t) z.2.2.1 z.2.1 z.1∧z.1.In z.2.2.2.2.2∧z.1.Nm∧Ac z.1=0∧z.1.rules.xs.length≤z.1.rules.cap∧z.2.1.length≤z.2.2.1*4097∧z.2.2.1≤z.2.2.2.1) (fun z=>t.size-z.2.2.2.2.1)
   ⟨(p,[],0,0,0,h1),⟨rfl,rfl,rfl,rfl,rfl,trivial⟩,I,LnJ.zero _,⟨rfl,by rw[←pe,Aab]⟩,pi,pn,hc,pcap,Afa _,Afg _⟩ ?_
  rintro⟨P,o,k,a,i,hh⟩ e w ⟨I,lj,jr,ji,jn,jc,jcap,jl,jk⟩;dsimp only at I lj jr ji jn jc jcap jl jk ⊢;have hfi:=lj.fi;have hil:=lj.il;refine Abi<|Sr<|Ai Mv<|At0 Mv<|Ai (AbF Ah9 rfl)<|Ad (AbC rfl rfl)<|Abh ?_;refine Abl rfl (fun h61=>?_) (fun h61=>?_)
  ·have hi':i<(tx t).length:=by omega
   obtain⟨c,hcq⟩:∃c,(tx t)[i]?=some c:=⟨_,Ae4 hi'⟩;have hb:=c.toNat_lt;refine Abk<|Abi<|WP.block<|Abi ?_;by_cases h10:c=10
   ·subst h10;obtain⟨hln,lj'⟩:=lj.line hcq;have hz:=AeL hln;obtain⟨ln,hlne⟩:∃ln,((tx t).drop a).take (i-a)=ln:=⟨_,rfl⟩;rw[hlne] at hz;have hex:t.extract a i=mk ln:=by
     rw[show t=mk (tx t) from(M2 t).symm,CJ,←hlne,DO,AhK]
    have hlnl:ln.length≤4096:=by rw[←hlne,Afj];omega
    have hmC:WU (GvC P ln):=fun _ _ _ hl ⟨q,e,q1,q2⟩=>⟨q,e,q1.le hl,q2⟩;refine Abg<|At0 Mv<|Ai Mv<|Aw (Aci Ah9 rfl rfl (AfR _) (hget hcq))<|AT (Abs (AbI rfl rfl) (rfl))<|Abh<|Abw rfl<|Sr<|At0 Ag<|Abh<|Abi<|Ab9 AC RWr.pre ⟨hh,false,none⟩ (J:=JWr B [] b6 25 P.enc (GvC P ln) 0 9) ⟨rfl,rfl,(fun h=>by cases h),(fun _ h=>by cases h),I.drew⟩ 10 (by kernel_rfl) ?_;refine AbT (Φ:=QZ (EqV P.val)) (QZ.mono EqV.mono) (fun _=>Aa _) (fun D' z w hDk hl hj=>?_) ?_
    ·exact FR.all fun us=>hj.look hDk (by decide) (fun I=>Ld I As 0 0 2 rfl rfl rfl)
    refine Aby (v:=.string _) (fun _=>Aa _) RWr.pre (JWr.set (by decide)) (fun _ s w us hl hj=>have I:=hj.base;have hl:=hl.h;Mv)<|Aby (v:=.int .i64 _) (fun _=>Aa _) RWr.pre (JWr.set (by decide)) (fun _ s w us hl hj=>have I:=hj.base;have hl:=hl.h;Mv)<|Aby (v:=.int .i64 _) (fun _=>Aa _) RWr.pre (JWr.set (by decide)) (fun _ s w us hl hj=>have I:=hj.base;have hl:=hl.h;Mv)<|Aby (v:=.string (mk ln)) (fun _=>Aa _) RWr.pre (JWr.set (by decide)) (fun _ s w us hl hj=>have I:=hj.base;have hl:=hl.h;hex▸Acu (l:=a) (h:=i) Ah9 rfl (.inr ⟨_,_,rfl,rfl⟩) (.inr ⟨_,_,rfl,rfl⟩) hfi (by omega)) ?_;refine AbT (Φ:=QZ (GvP P ln)) (QZ.mono GvP.mono) (fun _=>Aa _) (fun D' z w hDk hl hj=>?_) ?_
    ·intro u69 q69;obtain⟨hr,rfl⟩:=q69 rfl;refine hj.know hmC (by decide) hr fun N I=>?_;have hl:=hl.h;refine AbE I call40 (WW _ I.j6 P (ji.le hl) jn jc jcap (mk ln) (by rw[Ar];exact hlnl)) rfl ?_;rintro _ h' w I hl' hx;exact⟨h',hl',I,hx⟩
    refine AbT (Φ:=QZ (GvP P ln)) (QZ.mono GvP.mono) (fun _=>Aa _) (fun D' z w hDk hl hj=>?_) ?_
    ·intro u69 q69 u74 q74;exact hj.pure (by decide) Mv (q74 rfl)
    refine AbT (Φ:=QZ (GvV P ln)) (QZ.mono GvV.mono) (fun _=>Aa _) (fun D' z w hDk hl hj=>?_) ?_
    ·intro u69 q69 u74 q74 u68 q68;obtain⟨hr,o1,q,rfl,q1,q2,q3,q4,q5⟩:=q68 rfl;exact hj.pure (by decide) (Y.extract rfl rfl) ⟨hr,q,rfl,q1,q2,q3,q4,o1,q5⟩
    refine AbT (Φ:=QZ (GoS fun o=>∃q,CR P ln o q)) (QZ.mono GoS.mono) (fun _=>Aa _) (fun D' z w hDk hl hj=>?_) ?_
    ·intro u69 q69 u74 q74 u68 q68 u75 q75;obtain⟨hr,o1,q,rfl,q1,q2,q3,q4,q5⟩:=q68 rfl;exact hj.pure (by decide) (Y.extract rfl rfl) ⟨hr,o1,rfl,q,q5⟩
    refine AdV (fun _=>Aa _) (fun D' z w hDk hl hj=>?_) ?_
    ·intro u69 q69 u74 q74 u68 q68 u75 q75 u76 q76;obtain⟨hr,q,rfl,hq⟩:=q75 rfl;exact hj.put (c:=q.enc) As rfl rfl hDk (by decide) hr rfl rfl rfl rfl ⟨q,rfl,hq⟩
    refine Acl fun D z w hD hl hj u69 q69 u74 q74 u68 q68 u75 q75 u76 q76=>?_;obtain⟨_,o1,rfl,q1,hG1⟩:=q76 rfl;obtain⟨cs,⟨q,rfl,qi,qn,qc,qcap,o2,hG⟩,I⟩:=hj.fin (hD 9 (by omega));obtain rfl:=(N6 rfl hG hG1).1;have h1l:=QS jc hG;have z1:=Ar o;have z2:=Ar o2;refine At0 Ag<|Abh<|Sr<|At0 Mv<|At0 Mv<|At0 (AbP rfl rfl (by omega))<|At0 (AbP rfl rfl (by rw[Afb];show _+_+1≤_;omega))<|At0 Ag<|Abh<|Abg<|Ai Mv<|Ai (Dd rfl rfl)<|Ai Ag<|Abh<|Abg<|Ai Mv<|Ai (Dd rfl rfl)<|Ai Ag<|Abh ?_;refine⟨(q,o++(o2++[10]),k+1,i+1,i+1,_),⟨⟨rfl,rfl,congrArg Value.string (Cb.1 (by rw[BD,BD,DO,DO,DO,Afe]<;>rfl)),rfl,rfl,trivial⟩,I,lj',jr.step hz hG,qi,qn,qc,qcap,by dsimp only;simp only[Ae2,Ae6,Afc];omega,by dsimp only;omega⟩,by dsimp only;omega⟩
   ·refine Abg<|At0 Mv<|Ai Mv<|Aw (Aci Ah9 rfl rfl (AfR _) (hget hcq))<|AF (Abt (AbI rfl rfl) ((fun h=>h10 (AgX.1 (by show c.toNat=10;omega)))))<|Abh<|Abq rfl<|Abk<|Abg<|Ai Mv<|Ai (Dd rfl rfl)<|Ai Ag<|Abh ?_;exact⟨(P,o,k,a,i+1,hh),⟨⟨rfl,rfl,rfl,rfl,rfl,trivial⟩,I,lj.pass hi' (fun h=>h10 (by rw[hcq] at h;injection h)),jr,ji,jn,jc,jcap,jl,jk⟩,by dsimp only;omega⟩
  obtain rfl:i=t.size:=by omega
  have hkd:=(htl▸lj).done h7;have htr:(Dc t).length=(linesS (tx t).length (tx t)).length:=by unfold Dc;rw[Afw]
  rw[show k=(Dc t).length by rw[htr];exact hkd] at jr;refine Abz<|Sr<|At0 Mv<|At0 Ag<|Ai Ag<|Abh<|Wr ?_;exact BH.mk (vs:=[.string _,.int .i64 _]) rfl ⟨rfl,rfl,trivial⟩ I.j5 (⟨o,0,rfl,by rw[Ce hs' hk,if_neg hn56,if_neg h7];exact⟨rfl,P,jr⟩⟩)
end
section
def Zm:Bs:=[109,111,100,101,108,10,97,115,107,32,102,97,114,40,51,44,65,41,10,97,115,107,32,108,111,110,101,40,65,41,10,97,115,107,32,102,97,114,40,65,44,65,41,10,97,115,107,32,102,97,114,40,52,44,65,41,10,97,115,107,32,102,97,114,40,65,41,10,115,116,114,97,116,97,10,114,111,117,110,100,115,10,115,116,101,112,115,10,100,114,111,112,32,51,10,109,111,100,101,108,10,100,114,111,112,32,57,10,120,10]
def Aar:Bs:=[49,55,10,102,97,114,40,51,44,48,41,32,61,32,49,59,32,102,97,114,40,51,44,49,41,32,61,32,50,59,32,102,97,114,40,51,44,50,41,32,61,32,51,10,108,111,110,101,40,51,41,10,102,97,114,40,48,44,48,41,32,61,32,51,59,32,102,97,114,40,49,44,49,41,32,61,32,51,59,32,102,97,114,40,50,44,50,41,32,61,32,51,10,110,111,110,101,10,101,114,114,111,114,32,49,10,48,32,48,32,49,10,52,32,49,10,49,55,32,50,49,10,111,107,10,49,50,10,101,114,114,111,114,32,55,10,101,114,114,111,114,32,49,10]
def YZ:List Bs:=[[109,111,100,101,108],[97,115,107,32,102,97,114,40,51,44,65,41],[97,115,107,32,108,111,110,101,40,65,41],[97,115,107,32,102,97,114,40,65,44,65,41],[97,115,107,32,102,97,114,40,52,44,65,41],[97,115,107,32,102,97,114,40,65,41],[115,116,114,97,116,97],[114,111,117,110,100,115],[115,116,101,112,115],[100,114,111,112,32,51],[109,111,100,101,108],[100,114,111,112,32,57],[120]]
theorem UX:Dc (mk Zm)=YZ:=by kernel_rfl
section
variable {P Q:Prg}{s rest o:Bs}
theorem Kv(hc:Lib.cut s [32]=(wAsk,rest,true))(h:Ot P rest o)(hn:s≠N4∧s≠Kf∧s≠Kg∧s≠N5):CR P s o P:=by
 unfold CR;rw[if_neg hn.1,if_neg hn.2.1,if_neg hn.2.2.1,if_neg hn.2.2.2,hc];dsimp only;rw[if_pos rfl];unfold opR;rw[if_pos rfl];exact⟨h,rfl⟩
theorem Q0(hc:Lib.cut s [32]=(wDrop,rest,true))(h:HI P rest o Q)(hn:s≠N4∧s≠Kf∧s≠Kg∧s≠N5):CR P s o Q:=by
 unfold CR;rw[if_neg hn.1,if_neg hn.2.1,if_neg hn.2.2.1,if_neg hn.2.2.2,hc];dsimp only;rw[if_pos rfl];unfold opR;rw[if_neg (by decide),if_pos rfl];exact h
end
theorem Y0:[101,114,114,111,114,32,49]=EY 1:=by kernel_rfl
def rdQ:Prg:=mkP AM.preds.xs (AM.rules.xs.eraseIdx 3)
def rdQ0:List Fct:=((RU (B2 rdQ [0,0,1] 0) 8 []).getD ([],0)).1
def rdQ1:List Fct:=((RU (B2 rdQ [0,0,1] 1) 8 rdQ0).getD ([],0)).1
theorem W6:RU (B2 rdQ [0,0,1] 0) 8 []=some (rdQ0,4):=by kernel_rfl
theorem W7:RU (B2 rdQ [0,0,1] 1) 8 rdQ0=some (rdQ1,0):=by kernel_rfl
theorem Y1:GB rdQ (Ak rdQ) (Ds (Ak rdQ)) rdQ1 [4,0]:=by
 have hL:DF (AX rdQ.rules.xs) rdQ.preds.xs.length [0,0,1]:=GN;rw[Bl hL,show Ds [0,0,1]=2 by decide];exact⟨rdQ0,[4],0,⟨[],[],4,⟨rfl,rfl⟩,Hq W6,rfl⟩,Hq W7,rfl⟩
section
variable {p:Prg}{h:Ae}(hp:Cl p h)
include hp
theorem Q1{rest o:Bs}{c:Atm}(h1:IC AM.preds.xs rest=some c)(h2:FO AM.preds.xs (rdM.filter (Ia c))=o):Ot p rest o:=by
 unfold Ot;rw[D4 hp,h1];exact⟨rdM,_,Uh hp,h2.symm⟩
theorem AaJ:CR p [109,111,100,101,108] [49,55] p:=by
 unfold CR;rw[if_pos (by decide)];exact⟨rfl,rdM,_,Uh hp,by kernel_rfl⟩
theorem AaK:CR p [97,115,107,32,102,97,114,40,51,44,65,41] [102,97,114,40,51,44,48,41,32,61,32,49,59,32,102,97,114,40,51,44,49,41,32,61,32,50,59,32,102,97,114,40,51,44,50,41,32,61,32,51] p:=Kv (rest:=[102,97,114,40,51,44,65,41]) (by kernel_rfl) (Q1 hp (c:=⟨1,⟨none,0,[⟨false,3⟩,⟨true,0⟩]⟩⟩) (by kernel_rfl) (by kernel_rfl)) ⟨by decide,by decide,by decide,by decide⟩
theorem AaL:CR p [97,115,107,32,108,111,110,101,40,65,41] [108,111,110,101,40,51,41] p:=Kv (rest:=[108,111,110,101,40,65,41]) (by kernel_rfl) (Q1 hp (c:=⟨2,⟨none,0,[⟨true,0⟩]⟩⟩) (by kernel_rfl) (by kernel_rfl)) ⟨by decide,by decide,by decide,by decide⟩
theorem AaM:CR p [97,115,107,32,102,97,114,40,65,44,65,41] [102,97,114,40,48,44,48,41,32,61,32,51,59,32,102,97,114,40,49,44,49,41,32,61,32,51,59,32,102,97,114,40,50,44,50,41,32,61,32,51] p:=Kv (rest:=[102,97,114,40,65,44,65,41]) (by kernel_rfl) (Q1 hp (c:=⟨1,⟨none,0,[⟨true,0⟩,⟨true,0⟩]⟩⟩) (by kernel_rfl) (by kernel_rfl)) ⟨by decide,by decide,by decide,by decide⟩
theorem AaN:CR p [97,115,107,32,102,97,114,40,52,44,65,41] [110,111,110,101] p:=Kv (rest:=[102,97,114,40,52,44,65,41]) (by kernel_rfl) (Q1 hp (c:=⟨1,⟨none,0,[⟨false,4⟩,⟨true,0⟩]⟩⟩) (by kernel_rfl) (by kernel_rfl)) ⟨by decide,by decide,by decide,by decide⟩
theorem AaO:CR p [97,115,107,32,102,97,114,40,65,41] [101,114,114,111,114,32,49] p:=Kv (rest:=[102,97,114,40,65,41]) (by kernel_rfl) (by unfold Ot;rw[D4 hp,show IC AM.preds.xs [102,97,114,40,65,41]=none by kernel_rfl];exact Y0) ⟨by decide,by decide,by decide,by decide⟩
theorem AaP:CR p [115,116,114,97,116,97] [48,32,48,32,49] p:=by
 unfold CR;rw[if_neg (by decide),if_pos (by decide),HC hp];exact⟨rfl,by kernel_rfl⟩
theorem AaQ:CR p [114,111,117,110,100,115] [52,32,49] p:=by
 unfold CR;rw[if_neg (by decide),if_neg (by decide),if_pos (by decide)];exact⟨rfl,rdM,[4,1],Uh hp,by kernel_rfl⟩
theorem AaR:CR p [115,116,101,112,115] [49,55,32,50,49] p:=by
 unfold CR;rw[if_neg (by decide),if_neg (by decide),if_neg (by decide),if_pos (by decide)];exact⟨rfl,rdT.1,rdT.2,rdM,21,YH hp,Z9 hp,by kernel_rfl⟩
theorem AaS:CR p [100,114,111,112,32,51] [111,107] rdQ:=Q0 (rest:=[51]) (by kernel_rfl) (Ik (k:=3) (by kernel_rfl) (by rw[Qq hp];decide) rfl (by rw[D4 hp,HB hp];rfl)) ⟨by decide,by decide,by decide,by decide⟩
omit hp in
theorem Aac:CR rdQ [109,111,100,101,108] [49,50] rdQ:=by
 unfold CR;rw[if_pos (by decide)];exact⟨rfl,rdQ1,_,Y1,by kernel_rfl⟩
omit hp in
theorem Aad:CR rdQ [100,114,111,112,32,57] [101,114,114,111,114,32,55] rdQ:=Q0 (rest:=[57]) (by kernel_rfl) (Ks (k:=9) (by kernel_rfl) (by decide) (by kernel_rfl) rfl) ⟨by decide,by decide,by decide,by decide⟩
omit hp in
theorem Aae:CR rdQ [120] [101,114,114,111,114,32,49] rdQ:=by
 unfold CR;rw[if_neg (by decide),if_neg (by decide),if_neg (by decide),if_neg (by decide),show(Lib.cut [120] [32]).2.2=false by kernel_rfl];exact⟨by kernel_rfl,rfl⟩
theorem Y2:O7 (D9 (AM.preds.xs,AM.rules.xs.map Rul.er)) YZ 13 Aar rdQ:=by
 have r0:O7 (D9 (AM.preds.xs,AM.rules.xs.map Rul.er)) YZ 0 [] p:=⟨rfl,hp.er.trans (by rfl)⟩;have r1:=r0.step rfl (AaJ hp);have r2:=r1.step rfl (AaK hp);have r3:=r2.step rfl (AaL hp);have r4:=r3.step rfl (AaM hp);have r5:=r4.step rfl (AaN hp);have r6:=r5.step rfl (AaO hp);have r7:=r6.step rfl (AaP hp);have r8:=r7.step rfl (AaQ hp);have r9:=r8.step rfl (AaR hp);have r10:=r9.step rfl (AaS hp);have r11:=r10.step rfl Aac;have r12:=r11.step rfl Aad;have r13:=r12.step rfl Aae;exact r13
theorem W8:FP (mk (Cz AM)) (mk Zm) Aar 0:=by
 rw[Ce (by rw[Ar];have:=P7 GO;omega) (OX GO)];rw[if_neg (by rintro(h|h);exact absurd h (by decide);exact absurd h (by decide)),if_neg (by rintro⟨_,h⟩;exact absurd h (by decide))];refine⟨rfl,rdQ,?_⟩;rw[UX];exact Y2 hp
end
end
section
theorem W9:(mk Zm).size≤140737488355328:=by
 have:(mk Zm).size=110:=by kernel_rfl
 omega
theorem Xa{p:Prg}{h:Ae}(hp:Cl p h){s t:ByteArray}{o:Bs}{e:Int}(hs:s=mk (Cz AM))(ht:t=mk Zm)(hr:FP s t o e):o=Aar∧e=0:=by
 have h2:=W8 hp;rw[←hs,←ht] at h2;exact LG hr h2
theorem Y3(B:Aq)(hB:B.ok)(V:Iq B.h){p:Prg}{h:Ae}(hp:Cl p h){s t:ByteArray}(hs:s=mk (Cz AM))(ht:t=mk Zm):Fn prog 13 [.string s,.string t] B (fun v _=>v=.tuple #[.string (mk Aar),.int .i64 0]):=
 (UV B hB V s t (by rw[ht];exact W9)).mono fun v h' _ ⟨o,e,hv,hr⟩=>by
  have hu:=Xa hp hs ht hr;rw[hv,hu.1,hu.2]
theorem Om(B:Aq)(hB:B.ok)(V:Iq B.h):Fn prog 15 [] B (fun v _=>v=.bool true):=by
 refine Fo hB func15 rfl ntmps15 fun e I=>Sr<|Ab Ag<|Abh<|Sr<|Abj (AbE I call35 (VR _ I.j6) rfl ?_);rintro _ h1 w I le1 ⟨p1,rfl,hp1⟩;refine Abj (Abm I call7 (Yp _ I.j6 p1 hp1) rfl fun w I=>Au Mv<|At0 (Y.extract rfl rfl)<|Ai (Y.extract rfl rfl)<|At0 Ag<|Ai Ag<|Abh<|Sr<|At0 Mv<|Abj (Abm I call13 (Y3 _ I.j6 (V.le le1) hp1 rfl rfl) rfl fun w I=>Au Mv<|At0 (Y.extract rfl rfl)<|Ai (Y.extract rfl rfl)<|At0 Ag<|Ai Ag<|Abh<|Sr<|Ai Mv<|AT (Abs (AbI rfl rfl) (rfl))<|Ab Mv<|Gi Mv<|GT (Abs (AbI rfl rfl) (rfl))<|Ab (Abo rfl rfl)<|Ab Mv<|Gt Mv<|GT (Y.is (Ab6 rfl rfl) ((by rw[B3];exact congrArg Value.bool (decide_eq_true rfl))))<|Ab (Abo rfl rfl)<|Ab Ag<|Abh<|Wr ?_));exact Rm (v:=.bool _) rfl rfl I (rfl)
theorem On(B:Aq)(hB:B.ok)(V:Iq B.h)(s t:ByteArray)(ht:t.size≤140737488355328):Fn prog 4 [.string s,.string t] B (fun v _=>v=.bool true):=by
 refine Fo hB func4 rfl ntmps4 fun e I=>Sr<|Ab Ag<|Abh<|Sr<|At0 Mv<|At0 Mv<|Abj (AbE I call13 (UV _ I.j6 V s t ht) rfl ?_);rintro _ h1 w I le1 ⟨o,e1,rfl,r1⟩;refine Au Mv<|At0 (Y.extract rfl rfl)<|Ai (Y.extract rfl rfl)<|At0 Ag<|Ai Ag<|Abh<|Sr<|At0 Mv<|At0 Mv<|Abj (AbE I call14 (UW _ I.j6 s t ht) rfl ?_);rintro _ h2 w I le2 ⟨o2,e2,rfl,r2⟩;refine Au Mv<|At0 (Y.extract rfl rfl)<|Ai (Y.extract rfl rfl)<|At0 Ag<|Ai Ag<|Abh ?_;obtain⟨rfl,rfl⟩:=LG r1 r2;refine Sr<|Abj (Abm I call15 (Om _ I.j6 (V.le (le1.trans le2))) rfl fun w I=>Ab Mv<|Gt Mv<|Gt Mv<|GT (Y.is (Ab6 rfl rfl) ((by rw[B3];simp)))<|Ab (Abo rfl rfl)<|Ab Mv<|Gi Mv<|Gi Mv<|GT (Abs (AbI rfl rfl) (rfl))<|Ab (Abo rfl rfl)<|Ab Ag<|Abh<|Wr ?_);exact Rm (v:=.bool _) rfl rfl I (rfl)
end
section
theorem UY{P:Program}{n:String}{k:IntKind}{zs:List Int}{r:List (String×DataW Unit)}{W:World}{g:Nat}{t e:TypeId}(h:laidMet P ((n,.agg (zs.map fun z=>.lit (.int k z)))::r) W)
  (hg:P.globalNamed n=some g) (ht:(P.globals[g]?).map (·.type)=some t) (hu:P.underlying t=some (.array zs.length e)) (he:P.underlying e=some (.int k)) (hce:P.cellsOf e=1) (hct:P.cellsOf t=zs.length) :
  ∃T f,W.heap[g]?=some (.cells (zs.map fun z=>Value.int k z).toArray T f):=by
 obtain⟨ps,⟨g0,t0,cs,fuel,p,q,hg0,ht0,hv,hd,_,_⟩,_,_⟩:=h;obtain rfl:=Option.some.inj (hg.symm.trans hg0);obtain rfl:=Option.some.inj (ht.symm.trans ht0);obtain⟨xs,m,_,ex,hl,hxl,hel⟩:=DataW.trod_array hu hd;have e3:(xs.map (·.1))=zs.map fun z=>(.lit (.int k z):DataW Unit):=(DataW.agg.inj (Prod.mk.inj ex).1).symm;have key:cs.toList=zs.map fun z=>Value.int k z:=by
  refine Ago fun i=>?_;by_cases hi:i<zs.length
  ·have hE:=hel i hi;rw[hce,Nat.mul_one,Ae4 (by omega)] at hE;obtain⟨z,e1,e2,_⟩:=DataW.trod_int he hE;have e4:(xs.map (·.1))[i]?=(zs.map fun z=>(.lit (.int k z):DataW Unit))[i]?:=by rw[e3]
   rw[AfI,AfI,Ae4 (by omega:i<xs.length),Ae4 hi,e2] at e4;simp only[Agf,Option.some.injEq,DataW.lit.injEq,Lit.int.injEq,true_and] at e4;have h0:((cs.toList.drop i).take 1)[0]?=some (.int k z):=by rw[e1];rfl
   rw[AfI,Ae4 hi,Agf,←e4];simpa using h0
  ·rw[Agj (by omega),Agj (by rw[Afw];omega)]
 unfold World.var? at hv;rw[hg,AhP] at hv;split at hv
 ·rename_i c T f hb;injection hv with hv;subst hv;exact⟨T,f,by rw[hb,←key]⟩
 ·cases hv
end
section
set_option maxRecDepth 100000
open Go.Proofs.YtljkkojkfddpeaaGreatDoor
abbrev Xb:List (String×DataW Unit):=Rows.textFactsRow.laid
theorem Y4{W:World}(hL:laidMetH prog Xb W)(hsh:W.ShapedOpen prog):Iq (Aam W):=by
 rw[MakeChecks.laidMetH_plain _ _ _ (by kernel_rfl)] at hL;have h3:=hL.tail.tail;have h5:=h3.tail.tail;have h6:=h5.tail;obtain⟨m,hm⟩:=cell_of_shapedOpen_int (g:=0) (t:=3) (zero:=#[.int .i64 0]) hsh (of_decide_eq_true (by kernel_rfl)) (by kernel_rfl) rfl (by kernel_rfl) (by kernel_rfl) Ait;refine⟨⟨m,J8 hm⟩,?_,?_,?_⟩
 ·obtain⟨a,s,hv,_⟩:=laid_sentinel (g:=2) (ti:=55) h6 (by kernel_rfl) (by kernel_rfl) AiF (tp:=271) (te:=273) (ts:=9) (fun u h=>typeName_ptr_named (nm:= "errors.errorString") (by kernel_rfl) (by kernel_rfl) (by decide) u h) underlying271 underlying273 rfl rfl Ah9 (by kernel_rfl) (by kernel_rfl);exact⟨_,_,J8 (by simpa using World.var?_cell (g:=2) (by kernel_rfl) hv 0)⟩
 ·obtain⟨a,s,hv,_⟩:=laid_sentinel (g:=3) (ti:=55) h5 (by kernel_rfl) (by kernel_rfl) AiF (tp:=271) (te:=273) (ts:=9) (fun u h=>typeName_ptr_named (nm:= "errors.errorString") (by kernel_rfl) (by kernel_rfl) (by decide) u h) underlying271 underlying273 rfl rfl Ah9 (by kernel_rfl) (by kernel_rfl);exact⟨_,_,J8 (by simpa using World.var?_cell (g:=3) (by kernel_rfl) hv 0)⟩
 ·exact UY (g:=1) (t:=226) (e:=199) (k:=.u64) (zs:=Lib.pow10Tab) h3 (by kernel_rfl) (by kernel_rfl) underlying226 underlying199 (by kernel_rfl) (by kernel_rfl)
end
end Go.TF
