/- Texts Nai1 TxtLaw2 SpAsk SpSum ProgLaw ProgLaw2 Nai2 SpSemi SpTrace Tra1 SpTrace2 SpDesk SpDesk2 Txt1 Txt2 Base30 Txr1 Txr2 Txr3 SpTxt4 Dsk1 Dsr1 Dsk2. -/
import Derived.Test.YtljkkojkfddpeaaGreatDoorU7
import Derived.Lib.ItoaLen
import Derived.Lib.AtoiTie
import Derived.Lib.IndexMore
set_option maxRecDepth 20000
set_option maxHeartbeats 16000000
set_option linter.unusedVariables false
set_option linter.unusedSimpArgs false
namespace Go.TF
open Go Go.RowKit Go.Proofs Go.Proofs.Tryz
section
theorem Lp{L:List Int}{k:Nat}(hk:k<L.length):EV (L.take (k+1))=max (EV (L.take k)) L[k]:=by
 unfold EV;rw[Afi hk,Agq];rfl
theorem CG{L:List Int}(h:∀x∈L,0≤x∧x≤5):EV L≤5:=by
 rcases VZ L with e|e
 ·omega
 ·exact(h _ e).2
theorem GU(L:List Int):((Ds L:Nat):Int)=EV L+1:=by have:=VY L;unfold Ds;omega
theorem CH{p:Prg}{L:List Int}(h:Ac p=0)(hL:DF (AX p.rules.xs) p.preds.xs.length L):∀x∈L,0≤x∧x≤5:=fun x hx=>by
 obtain⟨k1,_,k3,_,_⟩:=AB h;obtain⟨j,hj,rfl⟩:=Afz hx;have hl:=hL.sol.len;have h1:=hL.sol.pos j;have h2:=Wf (Jw k3) hL (i:=(j:Int)) (by omega) (by omega);rw[Px hj] at h1 h2;omega
theorem H9(B:Aq)(hB:B.ok)(s:Sl Int)(hs:s.Is 1 KG B.h)(hb:∀x∈s.xs,0≤x∧x≤5):Fn prog 76 [s.val] B (fun v _=>v=.int .i64 (Ds s.xs:Nat)):=by
 have hsm:=hs.small;refine Fo hB func76 rfl ntmps76 fun e I=>Sr<|Ai Ag<|Abh<|Sr<|Ai Ag<|Abh<|Abi<|Sr<|As0 Mv<|Ai (AbA Aie rfl)<|Ai Mv<|Abh<|WP.block ?_;refine Abx (σ:=Nat) (fun k=>[(3,.int .i64 (EV (s.xs.take k)+1)),(6,s.val),(7,.int .i64 s.xs.length),(8,.int .i64 k)]) (fun k w=>Inv B B.h [] w∧k≤s.xs.length) (fun k=>s.xs.length-k)
  ⟨0,⟨rfl,rfl,rfl,rfl,trivial⟩,I,Afa _⟩ ?_
 rintro k e w ⟨I,hk⟩;refine Sr<|Ad (AbC rfl rfl)<|Abh<|Abi ?_;refine Abl rfl (fun h3=>?_) (fun h3=>?_)
 ·have hk':k<s.xs.length:=by omega
  have E:=hs.at hk';have hx:=hb _ (Ae5 hk');refine Abk<|Abi<|WP.block<|Sr<|Ap (Ix E Aie Aij rfl rfl)<|Ai (Abn An rfl (I.rd (E.rd.part 0 1)) rfl rfl)<|Ai Ag<|Abh<|Abg<|Ai Mv<|Ai Mv<|Ai (Dd rfl rfl)<|Ai (Y.max2 rfl rfl)<|Ai Ag<|Abh<|Abg<|Ai (Dd rfl rfl)<|Ai Mv<|Abh ?_;exact⟨k+1,⟨⟨congrArg (Value.int .i64) (by rw[Lp hk'];omega),rfl,rfl,rfl,trivial⟩,I,by omega⟩,by omega⟩
 obtain rfl:k=s.xs.length:=by omega
 refine Abz<|Sr<|Ai Mv<|Ai Ag<|Abh<|Wr ?_;exact Rm (v:=.int .i64 _) rfl rfl I (by simp only[tup];rw[Afo,GU])
theorem O4(B:Aq)(hB:B.ok)(s:Sl Int)(hs:s.Is 1 KG B.h):Fn prog 146 [s.val] B (fun v _=>v=.int .i64 (EV s.xs)):=by
 have hsm:=hs.small;refine Fo hB func146 rfl ntmps146 fun e I=>Sr<|Ai Ag<|Abh<|Sr<|Ai Ag<|Abh<|Abi<|Sr<|Ai Ag<|Abh<|WP.block ?_;refine Abx (σ:=Nat) (fun k=>[(0,s.val),(3,.int .i64 (EV (s.xs.take k))),(4,.int .i64 k)]) (fun k w=>Inv B B.h [] w∧k≤s.xs.length) (fun k=>s.xs.length-k)
  ⟨0,⟨rfl,rfl,rfl,trivial⟩,I,Afa _⟩ ?_
 rintro k e w ⟨I,hk⟩;refine Abi<|Sr<|Ai Mv<|As0 Mv<|Ai (AbA Aie rfl)<|Ad (AbC rfl rfl)<|Abh ?_;refine Abl rfl (fun h3=>?_) (fun h3=>?_)
 ·have hk':k<s.xs.length:=by omega
  have E:=hs.at hk';refine Abk<|Abi<|WP.block<|Abg<|Ai Mv<|As0 Mv<|Ai Mv<|Ap (Ix E Aie Aij rfl rfl)<|Ai (Abn An rfl (I.rd (E.rd.part 0 1)) rfl rfl)<|Ai (Y.max2 rfl rfl)<|Ai Ag<|Abh<|Abg<|Ai Mv<|Ai (Dd rfl rfl)<|Ai Ag<|Abh ?_;exact⟨k+1,⟨⟨rfl,congrArg (Value.int .i64) (by rw[Lp hk']),rfl,trivial⟩,I,by omega⟩,by omega⟩
 obtain rfl:k=s.xs.length:=by omega
 refine Abz<|Sr<|Ai Mv<|Ai Ag<|Abh<|Wr ?_;exact Rm (v:=.int .i64 _) rfl rfl I (by simp only[tup];rw[Afo])
def AaG(p:Prg)(v:Value)(h:Ae):Prop:=∃(s:Sl Fct) (r:Sl Int),v=.tuple #[s.val,r.val]∧Cv s h∧r.Is 1 KG h∧GB p (Ak p) (Ds (Ak p)) s.xs r.xs
def AaH(h0:Ae)(p:Prg)(v:Value)(h:Ae):Prop:=∃(s:Sl Fct) (r:Sl Int),v=.tuple #[s.val,r.val]∧Cv s h∧r.Is 1 KG h∧GB p (Ak p) (Ds (Ak p)) s.xs r.xs∧Di 83 4 s Fct.enc h0 h
theorem AaH.rec{h0 h:Ae}{p:Prg}{v:Value}(x:AaH h0 p v h):AaG p v h:=by obtain⟨s,r,a,b,c,d,_⟩:=x;exact⟨s,r,a,b,c,d⟩
theorem U3.mono{h0:Ae}{r:List Fct×Bool}:Bt (U3 h0 r):=fun _ _ _ hl ⟨s,a,b,c,d⟩=>⟨s,a,b,c.le hl,d.le hl⟩
def SlO(h0:Ae)(xs:List Fct):Sp:=fun v h=>∃s:Sl Fct,v=s.val∧s.xs=xs∧Cv s h∧Di 83 4 s Fct.enc h0 h
theorem SlO.mono{h0:Ae}{xs:List Fct}:Bt (SlO h0 xs):=fun _ _ _ hl ⟨s,a,b,c,d⟩=>⟨s,a,b,c.le hl,d.le hl⟩
theorem YA{a:List Int}{t:List Int}{x y:Int}{k:Nat}(h:a.length=k):(a++x::t).set k y=a++y::t:=by subst h;simp
theorem YB{a:List Int}{t:List Int}{x:Int}{k:Nat}(h:a.length=k):(a++x::t)[k]?=some x:=by subst h;simp
theorem Rz(B:Aq)(hB:B.ok)(p:Prg)(hp:p.In B.h)(hpr:Ac p=0):Fn prog 33 [p.val] B (AaH B.h p):=by
 obtain⟨k1,k2,k3,_,_⟩:=AB hpr;have rk:=BA hpr;have ok0:=Ea hpr;refine Fo hB func33 rfl ntmps33 fun e I=>Sr<|Abj (O.box (v:=.agg #[_,_]) I rfl rfl fun b1 w I=>As0 Ag<|As0 Ag<|Abh<|Sr<|Ax (Ld I As 0 0 2 rfl rfl rfl)<|Abj (AbE I call62 (Hk _ I.j6 p hp (Jw k3) k1) rfl ?_));rintro v13 h1 w I le1 hL;rcases hL with ⟨s,hS,hI,rfl⟩|⟨hno,rfl⟩;rotate_left;exact absurd (BC hpr).sol (hno _);refine Au Mv<|As0 (Y.extract rfl rfl)<|Ab (Y.extract rfl rfl)<|As0 Ag<|Ab Ag<|Abh ?_;have hS:DF (AX p.rules.xs) p.preds.xs.length s.xs:=hS;have eM:=Bl hS;have hb5:=CH hpr hS;have hN5:=CG hb5;have hNe:=GU s.xs;obtain⟨N,hN⟩:∃N,Ds s.xs=N:=⟨_,rfl⟩;refine Sr<|As0 Ag<|Abh<|Sr<|As0 Mv<|Abj (Abm I call76 (hN▸H9 _ I.j6 s hI hb5) rfl fun w I=>Abj (AdS (n:=N) (zc:=(vI 0)) I Aie Aag rfl rfl rfl (by omega) (by omega) fun b18 w I=>As0 Ag<|Abh ?_));rw[←Aha (f:=vI)] at I;refine Abi<|Sr<|As0 Mv<|Ai (AbA Aie rfl)<|Ai Mv<|Abh<|WP.block ?_;refine Abx (σ:=Nat×Sl Fct×List Int×Ae) (fun s'=>[(1,Pt b1),(4,s.val),(6,s'.2.1.val),(7,.slice (some ⟨b18,0,none⟩) N N),(20,.int .i64 N),(21,.int .i64 s'.1)])
  (fun s' w=>Inv B s'.2.2.2 [box b18 ((s'.2.2.1++List.replicate (N-s'.1) 0).map vI) 3,box b1 p.enc 25] w∧s'.1≤N∧h1.le s'.2.2.2∧GB p s.xs s'.1 s'.2.1.xs s'.2.2.1∧Cv s'.2.1 s'.2.2.2∧Di 83 4 s'.2.1 Fct.enc B.h s'.2.2.2) (fun s'=>N-s'.1)
  ⟨(0,⟨none,0,[]⟩,[],h1),⟨rfl,rfl,rfl,rfl,rfl,rfl,trivial⟩,I,Afa _,Ae.le.refl _,⟨rfl,rfl⟩,fnil,.inl rfl⟩ ?_
 rintro⟨k,f,r0,hh⟩ e w ⟨I,hk,gl,hm,hf,ho⟩;dsimp only at I hk gl hm hf ho ⊢;have hrl:=hm.len;refine Sr<|Ad (AbC rfl rfl)<|Abh<|Abi ?_;refine Abl rfl (fun h5=>?_) (fun h5=>?_)
 ·have hk':k<N:=by omega
  have j0:=Ms rk hS.sol ok0 hm;refine Abk<|Abi<|WP.block<|Sr<|Ai Mv<|Ai Ag<|Abh ?_;rw[show N-k=(N-k-1)+1 by omega,List.replicate_succ] at I;refine WP.block ?_;refine Abx (σ:=Nat×Sl Fct×Ae) (fun s'=>[(1,Pt b1),(4,s.val),(6,s'.2.1.val),(7,.slice (some ⟨b18,0,none⟩) N N),(8,.int .i64 k),(20,.int .i64 N),(21,.int .i64 k)])
   (fun s' w=>Inv B s'.2.2 [box b18 ((r0++(s'.1:Int)::List.replicate (N-k-1) 0).map vI) 3,box b1 p.enc 25] w∧h1.le s'.2.2∧FOk p.preds.xs s'.2.1.xs∧TP (B2 p s.xs k) f.xs s'.1 s'.2.1.xs∧Cv s'.2.1 s'.2.2∧s'.1≤Ec p.preds.xs s'.2.1.xs∧Di 83 4 s'.2.1 Fct.enc B.h s'.2.2) (fun s'=>2001-Ec p.preds.xs s'.2.1.xs)
   ⟨(0,f,hh),⟨rfl,rfl,rfl,rfl,rfl,rfl,rfl,trivial⟩,I,gl,j0.fok,TP.zero,hf,Afa _,ho⟩ ?_
  rintro⟨m,u,h2⟩ e w ⟨I,gl2,okf,cb,hu,hmp,hou⟩;dsimp only at I gl2 okf cb hu hmp hou ⊢;have hp2:=hp.le (le1.trans gl2);have hI2:=hI.le gl2;have hpl:=B1 p.preds.xs u.xs;have tf:=Bj (q:=ofQ p s.xs k) rk okf;obtain⟨tr,htr⟩:∃t,CV p.preds.xs u.xs (BM p.preds.xs u.xs p.rules.xs (ofQ p s.xs k))=t:=⟨_,rfl⟩;have htT:B2 p s.xs k u.xs=tr:=htr;refine WP.block<|Abi<|AbM AC I 12 (by kernel_rfl)<|Fx (fun _ w us hl I=>Ld I As 1 0 2 rfl rfl rfl)<|Fs (fun _ w us hl I=>Mv)<|Fx (fun _ w us hl I=>Ld I As 1 0 2 rfl rfl rfl)<|Fs (fun _ w us hl I=>Mv)<|Fi (fun _ w us hl I=>Mv) ?_;refine AbR (Φ:=Zf p s.xs k) Zf.mono (fun _=>Aj _) ?_ ?_
  ·intro _ w hl I;try unfold CT
   refine AbE I call78 (T4 _ I.j6 p s k) rfl ?_;rintro _ h5 w I hl' ⟨b4,b3,b5,rfl,k4,k3',k5⟩;exact⟨_,hl',I,⟨_,rfl,O1 p s k b4 b3 b5 k4 k3' k5 ((hp2.le hl).le hl') ((hI2.le hl).le hl') hS.sol.len (F7 k3)⟩⟩
  refine AbR (Φ:=U3 B.h tr) U3.mono (fun _=>Aj _) ?_ ?_
  ·intro _ w hl I u30 q30;obtain⟨cs,rfl,hoc⟩:=q30 rfl;try unfold CT
   refine AbE I call77 (htr▸Wc _ I.j6 p (hp2.le hl) hpr u (hu.le hl) okf 133 cs _ hoc) rfl ?_;rintro _ h6 w I hl' ⟨s9,a9,b9,c9,d9⟩;exact⟨_,hl',I,⟨s9,a9,b9,c9,d9.older (((le1.trans gl2).trans hl))⟩⟩
  refine AbR (Φ:=U3 B.h tr) U3.mono (fun _=>Aj _) ?_ ?_
  ·intro _ w hl I u30 q30 u31 q31;exact AcJ I Mv (q31 rfl)
  refine AbR (Φ:=SlO B.h tr.1) SlO.mono (fun _=>Aj _) ?_ ?_
  ·intro _ w hl I u30 q30 u31 q31 u24 q24;obtain⟨s6,rfl,e6,i6,o6⟩:=q24 rfl;exact AcJ I (Y.extract rfl rfl) (⟨s6,rfl,e6,i6,o6⟩)
  refine AcE (v:=.bool tr.2) (fun _=>Aj _) ?_ ?_
  ·intro _ w hl I u30 q30 u31 q31 u24 q24 u32 q32;obtain⟨s6,rfl,e6,i6,o6⟩:=q24 rfl;exact AeD I (Y.extract rfl rfl) (rfl)
  refine AbR (Φ:=SlO B.h tr.1) SlO.mono (fun _=>Aj _) ?_ ?_
  ·intro _ w hl I u30 q30 u31 q31 u24 q24 u32 q32;exact AcJ I Ag (q32 rfl)
  refine Fb (fun _ w us hl I=>Ag)<|AbX fun _ w hl I u30 q30 u31 q31 u24 q24 u32 q32 u9 q9=>Abh ?_;obtain⟨s6,rfl,hs6,is6,os6⟩:=q9 rfl;have hf6:Cv s6 _:=is6;have okg:FOk p.preds.xs s6.xs:=by rw[hs6,←htr];exact CW okf tf
  refine Abi<|Sr<|Ab Mv<|Ab (Y.not rfl)<|Abh ?_;refine AbG rfl (fun h8=>?_) (fun h8=>?_)
  ·have h8:tr.2=false:=by simpa using h8
   refine Abz<|Abg<|Ai (Dd rfl rfl)<|Ai Mv<|Abh ?_;exact⟨(k+1,u,r0++[(m:Int)],_),⟨⟨rfl,rfl,rfl,rfl,rfl,rfl,trivial⟩,by rw[Afe,Ahm,show N-(k+1)=N-k-1 by omega];exact I,by dsimp only;omega,gl2.trans hl,⟨f.xs,r0,m,hm,cb.done (by rw[htT];exact h8),rfl⟩,hu.le hl,hou.le hl⟩,by dsimp only;omega⟩
  have h8:tr.2=true:=by simpa using h8
  have hne:s6.xs≠u.xs:=by
   have:=I5 okf tf;rw[htr,h8] at this;rw[hs6];exact of_decide_eq_true this.symm
  have hlt:=GR okf okg (by rw[hs6,←htr];exact Dx okf tf) hne;have hpl2:=B1 p.preds.xs s6.xs;refine Abk<|Sr<|As0 Mv<|As0 Ag<|Abh<|Abg<|As0 Mv<|Ai Mv<|Ap (Acy Aie Aij rfl rfl (by omega) (by omega))<|Ai (Abn An rfl (I.w9 0 rfl (by omega) (YB hrl)) rfl rfl)<|Ai (Dd rfl rfl)<|Ap (Acy Aie Aij rfl rfl (by omega) (by omega))<|Abj (AcQ I An 0 rfl rfl (i:=k) (v:=(m:Int)+1) (by omega) (by simp;omega) rfl rfl rfl fun w I=>Abh ?_);rw[YA hrl] at I;exact⟨(m+1,s6,_),⟨⟨rfl,rfl,rfl,rfl,rfl,rfl,rfl,trivial⟩,I,gl2.trans hl,okg,by have:=cb.next (by rw[htT];exact h8);rw[htT,←hs6] at this;exact this,is6,by dsimp only;omega,os6⟩,by dsimp only;omega⟩
 obtain rfl:k=N:=by omega
 rw[AhZ,List.replicate_zero,Aft] at I;have hbo:=I.at 0 rfl;obtain⟨h4,le4,hb4,I⟩:=(I.front 0 rfl).settle;refine Abz<|Sr<|As0 Mv<|As0 Mv<|As0 Ag<|As0 Ag<|Abh<|Wr ?_;exact BH.mk (vs:=[.slice _ _ _,.slice _ _ _]) rfl ⟨rfl,rfl,trivial⟩ I.j5 (⟨f,⟨some ⟨b18,0,none⟩,k,r0⟩,by simp only[tup,Sl.val,hrl],hf.le le4,X9 ((hb4 b18 (by simp[box])).trans hbo) (by rw[hrl];omega),by rw[eM,hN];exact hm,ho.le le4⟩)
theorem NU(B:Aq)(hB:B.ok)(p:Prg)(hp:p.In B.h)(hpr:Ac p=0):Fn prog 33 [p.val] B (AaG p):=(Rz B hB p hp hpr).mono fun _ _ _ h=>h.rec
theorem QD(B:Aq)(hB:B.ok)(p:Prg)(hp:p.In B.h)(hpr:Ac p=0):Fn prog 145 [p.val] B (AaG p):=by
 obtain⟨k1,k2,k3,_,_⟩:=AB hpr;have rk:=BA hpr;have ok0:=Ea hpr;have hS:=BC hpr;have hb5:=CH hpr hS;have hN5:=CG hb5;have hNe:=GU (Ak p);obtain⟨N,hN⟩:∃N,Ds (Ak p)=N:=⟨_,rfl⟩;refine Fo hB func145 rfl ntmps145 fun e I=>Sr<|Abj (O.box (v:=.agg #[_,_]) I rfl rfl fun b1 w I=>As0 Ag<|As0 Ag<|Abh<|Sr<|As0 Ag<|Abh<|Sr<|As0 Ag<|Abh<|Abi<|Sr<|Ai Ag<|Abh<|WP.block ?_);refine Abx (σ:=Nat×Sl Fct×List Int×Value×Ae) (fun s'=>[(1,Pt b1),(4,s'.2.1.val),(5,s'.2.2.2.1),(6,.int .i64 s'.1)])
  (fun s' w=>Inv B s'.2.2.2.2 [Ao 3 1 s'.2.2.2.1 s'.2.2.1.length (s'.2.2.1.flatMap KG),box b1 p.enc 25] w∧s'.1≤N∧B.h.le s'.2.2.2.2∧GB p (Ak p) s'.1 s'.2.1.xs s'.2.2.1∧Cv s'.2.1 s'.2.2.2.2) (fun s'=>N-s'.1)
  ⟨(0,⟨none,0,[]⟩,[],.slice none 0 0,B.h),⟨rfl,rfl,rfl,rfl,trivial⟩,I.l9 3 1,Afa _,Ae.le.refl _,⟨rfl,rfl⟩,fnil⟩ ?_
 rintro⟨k,f,r0,va,hh⟩ e w ⟨I,hk,gl,hm,hf⟩;dsimp only at I hk gl hm hf ⊢;have hrl:=hm.len;refine Abi<|Sr<|Ai Mv<|Ax (Ld I As 1 0 2 rfl rfl rfl)<|Abj (AbE I call97 (C6 _ I.j6 p (hp.le gl) hpr) rfl ?_);rintro _ h1 w I le1 ⟨s,hS',hI,rfl⟩;refine Abj (Abm I call146 (Bl hS'▸O4 _ I.j6 s hI) rfl fun w I=>Ad (AcD rfl rfl)<|Abh ?_);refine Abl rfl (fun h4=>?_) (fun h4=>?_)
 ·have h4:(k:Int)≤EV (Ak p):=h4;have hk':k<N:=by omega
  have j0:=Ms rk hS.sol ok0 hm;refine Abk<|Abi<|WP.block<|Sr<|Ai Ag<|Abh<|Abi<|WP.block ?_;refine Abx (σ:=Nat×Sl Fct×Ae) (fun s'=>[(1,Pt b1),(4,s'.2.1.val),(5,va),(6,.int .i64 k),(7,.int .i64 s'.1)])
   (fun s' w=>Inv B s'.2.2 [Ao 3 1 va r0.length (r0.flatMap KG),box b1 p.enc 25] w∧h1.le s'.2.2∧FOk p.preds.xs s'.2.1.xs∧TP (B2 p (Ak p) k) f.xs s'.1 s'.2.1.xs∧Cv s'.2.1 s'.2.2∧s'.1≤Ec p.preds.xs s'.2.1.xs) (fun s'=>2001-Ec p.preds.xs s'.2.1.xs)
   ⟨(0,f,h1),⟨rfl,rfl,rfl,rfl,rfl,trivial⟩,I,Ae.le.refl _,j0.fok,TP.zero,hf.le le1,Afa _⟩ ?_
  rintro⟨m,u,h2⟩ e w ⟨I,gl2,okf,cb,hu,hmp⟩;dsimp only at I gl2 okf cb hu hmp ⊢;have hp2:=hp.le ((gl.trans le1).trans gl2);have hpl:=B1 p.preds.xs u.xs;have tf:=Bj (q:=ofQ p (Ak p) k) rk okf;obtain⟨tr,htr⟩:∃t,CV p.preds.xs u.xs (BM p.preds.xs u.xs p.rules.xs (ofQ p (Ak p) k))=t:=⟨_,rfl⟩;have htT:B2 p (Ak p) k u.xs=tr:=htr;refine WP.block<|Sr<|Ax (Ld I As 1 0 2 rfl rfl rfl)<|As0 Mv<|Ai Mv<|Abj (AbE I call192 (htr▸T6 _ I.j6 p hp2 hpr u hu okf k) rfl ?_);rintro _ h3 w I le3 ⟨s6,rfl,hs6,is6⟩;refine Au Mv<|As0 (Y.extract rfl rfl)<|Ab (Y.extract rfl rfl)<|As0 Ag<|Ab Ag<|Abh ?_;have okg:FOk p.preds.xs s6.xs:=by rw[hs6,←htr];exact CW okf tf
  refine Abi<|Sr<|Ab Mv<|Ab (Y.not rfl)<|Abh ?_;refine AbG rfl (fun h8=>?_) (fun h8=>?_)
  ·have h8:tr.2=false:=by simpa using h8
   refine Abz<|Abg<|AbB (v:=va) Mv<|Ai Mv<|Abj (AbY (xs:=[(m:Int)]) (enc:=KG) I Aie Aij AiG rfl (Nb rfl) rfl rfl (by decide) (fun _=>rfl) fun b31 h31 w I le31 sl31=>Abj (Ab0 I Aie Aag 0 rfl rfl rfl (I.rd (sl31 0 _ rfl).2) rfl rfl (by decide) ((by omega)) (by omega) fun b32 c32 w I=>As0 Ag<|Abh<|Abg<|Ai Mv<|Ai (Dd rfl rfl)<|Ai Ag<|Abh ?_));refine⟨(k+1,u,r0++[(m:Int)],.slice (some ⟨b32,0,none⟩) (r0.length+1) c32,h31),⟨⟨rfl,rfl,rfl,rfl,trivial⟩,?_,by dsimp only;omega,((gl.trans le1).trans gl2).trans (le3.trans le31),⟨f.xs,r0,m,hm,cb.done (by rw[htT];exact h8),rfl⟩,(hu.le le3).le le31⟩,by dsimp only;omega⟩;dsimp only;rw[Ae2,Afv,Afm];exact I
  have h8:tr.2=true:=by simpa using h8
  have hne:s6.xs≠u.xs:=by
   have:=I5 okf tf;rw[htr,h8] at this;rw[hs6];exact of_decide_eq_true this.symm
  have hlt:=GR okf okg (by rw[hs6,←htr];exact Dx okf tf) hne;have hpl2:=B1 p.preds.xs s6.xs;refine Abk<|Sr<|As0 Mv<|As0 Ag<|Abh<|Abg<|Ai Mv<|Ai (Dd rfl rfl)<|Ai Ag<|Abh ?_;exact⟨(m+1,s6,h3),⟨⟨rfl,rfl,rfl,rfl,rfl,trivial⟩,I,gl2.trans le3,okg,by have:=cb.next (by rw[htT];exact h8);rw[htT,←hs6] at this;exact this,is6,by dsimp only;omega⟩,by dsimp only;omega⟩
 have h4:¬(k:Int)≤EV (Ak p):=h4;obtain rfl:k=N:=by omega
 obtain⟨h5,r,le5,rfl,hr0,ir,I⟩:=I.p8 (fun _=>rfl) rfl;refine Abz<|Sr<|As0 Mv<|As0 Mv<|As0 Ag<|As0 Ag<|Abh<|Wr ?_;exact BH.mk (vs:=[.slice _ _ _,.slice _ _ _]) rfl ⟨rfl,rfl,trivial⟩ I.j5 (⟨f,r,rfl,(hf.le le1).le le5,⟨ir,by rw[hr0];omega⟩,by rw[hN,hr0];exact hm⟩)
def YC(p:Prg)(v:Value)(h:Ae):Prop:=∃(s:Sl Fct) (rs:List Int),v=s.val∧Cv s h∧GB p (Ak p) (Ds (Ak p)) s.xs rs
def ZW(p:Prg)(v:Value)(h:Ae):Prop:=∃(r:Sl Int) (f:List Fct),v=r.val∧r.Is 1 KG h∧GB p (Ak p) (Ds (Ak p)) f r.xs
theorem YC.mono{p:Prg}:Bt (YC p):=fun _ _ _ hl ⟨s,r,a,b,c⟩=>⟨s,r,a,b.le hl,c⟩
theorem ZW.mono{p:Prg}:Bt (ZW p):=fun _ _ _ hl ⟨s,r,a,b,c⟩=>⟨s,r,a,b.le hl,c⟩
theorem Lq(B:Aq)(hB:B.ok)(p:Prg)(hp:p.In B.h)(hpr:Ac p=0):Fn prog 95 [p.val] B (YC p):=by
 refine Fo hB func95 rfl ntmps95 fun e I=>Sr<|Abj (O.box (v:=.agg #[_,_]) I rfl rfl fun b1 w I=>As0 Ag<|Abh<|Sr<|Ax (Ld I As 0 0 2 rfl rfl rfl)<|Abj (AbE I call145 (QD _ I.j6 p hp hpr) rfl ?_));rintro _ h3 w I le3 ⟨s,r,rfl,hs,hr,hm⟩;refine Au Mv<|As0 (Y.extract rfl rfl)<|As0 (Y.extract rfl rfl)<|As0 Ag<|As0 Ag<|Abh<|Sr<|As0 Mv<|As0 Ag<|Abh<|Wr ?_;exact Rm (v:=.slice _ _ _) rfl rfl I (⟨s,r.xs,rfl,hs,hm⟩)
theorem O5(B:Aq)(hB:B.ok)(p:Prg)(hp:p.In B.h)(hpr:Ac p=0):Fn prog 98 [p.val] B (ZW p):=by
 refine Fo hB func98 rfl ntmps98 fun e I=>Sr<|Abj (O.box (v:=.agg #[_,_]) I rfl rfl fun b1 w I=>As0 Ag<|Abh<|Sr<|Ax (Ld I As 0 0 2 rfl rfl rfl)<|Abj (AbE I call145 (QD _ I.j6 p hp hpr) rfl ?_));rintro _ h3 w I le3 ⟨s,r,rfl,hs,hr,hm⟩;refine Au Mv<|As0 (Y.extract rfl rfl)<|As0 (Y.extract rfl rfl)<|As0 Ag<|As0 Ag<|Abh<|Sr<|As0 Mv<|As0 Ag<|Abh<|Wr ?_;exact Rm (v:=.slice _ _ _) rfl rfl I (⟨r,s.xs,rfl,hr,hm⟩)
end
section
theorem QE(p:Prg)(M:List Int)(st:Int):B2 p.er M st=B2 p M st:=by
 funext f;unfold B2;have h1:p.er.rules.xs=p.rules.xs.map Rul.er:=rfl;have h2:p.er.preds.xs=p.preds.xs:=rfl;rw[h1,h2,Mr];have:BM p.preds.xs f p.rules.xs (ofQ p.er M st)=BM p.preds.xs f p.rules.xs (ofQ p M st):=GS fun n hn=>by
  unfold ofQ;rw[h1,Ae3,Ae3,AfI];cases p.rules.xs[n]?<;>rfl
 rw[this]
theorem Lr{p q:Prg}{M:List Int}(h:∀st,B2 p M st=B2 q M st):∀{k:Nat} {f:List Fct} {rs:List Int},GB p M k f rs→GB q M k f rs
 |0,_,_,hm=>hm
 |k+1,_,_,⟨f0,r0,n,a,b,c⟩=>⟨f0,r0,n,Lr h a,by rw[←h];exact b,c⟩
theorem NV{cs:List (Int×Ltl)}{n:Nat}{L:List Int}:DF (cs.map cEr) n L↔DF cs n L:=⟨PR,fun h=>⟨Lh.2 h.sol,fun M hM=>h.least M (Lh.1 hM)⟩⟩
theorem Ga{p q:Prg}(he:p.er=q.er):Ak p=Ak q:=by
 have hr:p.rules.xs.map Rul.er=q.rules.xs.map Rul.er:=by have:=congrArg (fun z:Prg=>z.rules.xs) he;exact this
 have hl:p.preds.xs=q.preds.xs:=by have:=congrArg (fun z:Prg=>z.preds.xs) he;exact this
 have key:∀L,DF (AX p.rules.xs) p.preds.xs.length L↔DF (AX q.rules.xs) q.preds.xs.length L:=fun L=>by
  rw[←NV,←IZ,hr,IZ,NV,hl]
 by_cases h:∃M,DF (AX p.rules.xs) p.preds.xs.length M
 ·obtain⟨M,hM⟩:=h;rw[Bl hM,Bl ((key M).1 hM)]
 ·have h2:¬∃M,DF (AX q.rules.xs) q.preds.xs.length M:=fun ⟨M,hM⟩=>h ⟨M,(key M).2 hM⟩;unfold Ak;rw[dif_neg h,dif_neg h2]
theorem Ka{s:ByteArray}{st:St}(h:B4 s=some st):Hm s=0∧Me s=D9 st∧Ac (D9 st)=0∧Cz (D9 st)=tx s:=by
 refine⟨?_,by unfold Me;rw[h];rfl,?_⟩
 ·unfold Hm;rw[h];unfold B4 at h;split at h
  ·cases h
  ·rename_i hs;rw[if_neg hs];rfl
 ·unfold B4 at h;split at h
  ·cases h
  ·split at h
   ·cases h
   ·split at h
    ·rename_i hc;injection h with h;subst h;exact hc
    ·cases h
end
section
def xv(x:Fct)(k:Nat):Int:=if k=1 then x.b else x.a
def NW(ts:List Trm)(x:Fct):Nat→Int→Option Int
 |0,_=>none
 |k+1,n=>if (ts.getD k default).var=true∧(ts.getD k default).n=n then some (xv x k) else NW ts x k n
def RW(ts:List Trm)(x:Fct)(k:Nat):Bool:=if (ts.getD k default).var=true then decide ((NW ts x k (ts.getD k default).n).getD (xv x k)=xv x k) else decide ((ts.getD k default).n=xv x k)
def RX(ts:List Trm)(x:Fct):Nat→Bool
 |0=>true
 |k+1=>RX ts x k && RW ts x k
def Ia(a:Atm)(x:Fct):Bool:=decide (a.pred=x.pred) && RX a.args.xs x a.args.xs.length
theorem Uc{ts:List Trm}{x:Fct}{k:Nat}(h:RW ts x k=false):∀{n:Nat},k<n→RX ts x n=false
 |0,hn=>by omega
 |n+1,hn=>by
  rw[RX];rcases Afd.1 hn with hn|rfl
  ·rw[Uc h hn,AgO]
  ·rw[h,Agz]
theorem XD{ts:List Trm}{x:Fct}(ha:0≤x.a)(hb:0≤x.b):∀{k:Nat} {n v:Int},NW ts x k n=some v→0≤v
 |0,_,_,h=>by cases h
 |k+1,n,v,h=>by
  rw[NW] at h;split at h
  ·injection h with h;rw[←h];unfold xv;split
   ·exact hb
   ·exact ha
  ·exact XD ha hb h
theorem QG{ts:List Trm}{x:Fct}{k:Nat}{t:Trm}(ht:ts.getD k default=t)(hv:t.var=false):RW ts x k=decide (t.n=xv x k)∧∀n,NW ts x (k+1) n=NW ts x k n:=by
 unfold RW;rw[ht,if_neg (by rw[hv];decide)];exact⟨rfl,fun n=>by rw[NW,ht,if_neg (fun h=>by rw[hv] at h;cases h.1)]⟩
theorem QH{ts:List Trm}{x:Fct}{k:Nat}{t:Trm}(ht:ts.getD k default=t)(hv:t.var=true):RW ts x k=decide ((NW ts x k t.n).getD (xv x k)=xv x k)∧∀n,NW ts x (k+1) n=if n=t.n then some (xv x k) else NW ts x k n:=by
 unfold RW;rw[ht,if_pos hv];refine⟨rfl,fun n=>?_⟩;rw[NW,ht];by_cases h:n=t.n
 ·rw[if_pos h,if_pos ⟨hv,h.symm⟩]
 ·rw[if_neg h,if_neg (fun h2=>h h2.2.symm)]
theorem Mu{a:Atm}{x:Fct}{k:Nat}(hk:k<a.args.xs.length)(h:RW a.args.xs x k=false):Ia a x=false:=by unfold Ia;rw[Uc h hk,Agz]
noncomputable def DH(p:Prg)(f:List Fct)(a:Atm):List Fct×Int:=if TD p f≠0 then ([],TD p f) else if checkAtom p.preds.xs a≠0 then ([],checkAtom p.preds.xs a) else (f.filter (Ia a),0)
theorem FL{l:List Prd}{f:List Fct}(okf:FOk l f)(q:Fct→Bool):FOk l (f.filter q)∧A8 l (f.filter q) f=true:=
 ⟨⟨okf.len,okf.preds,fun x hx=>okf.fine x (AfN.1 hx).1,okf.srt.sublist AhE⟩,F9.2 fun y hy=>F9.1 (FZ okf) y (AfN.1 hy).1⟩
end
section
def mkP(l:List Prd)(rs:List Rul):Prg:=⟨⟨none,0,l⟩,⟨none,0,rs⟩⟩
noncomputable def AQ(p:Prg)(n:Int):(List Prd×List Rul)×Int:=
 if Ac p≠0 then (([],[]),Ac p) else if n<0∨(p.rules.xs.length:Int)≤n then (([],[]),7) else ((p.preds.xs,p.rules.xs.eraseIdx n.toNat),0)
theorem NX{p:Prg}{n:Int}(h:(AQ p n).2=0):Ac p=0∧(0≤n∧n<p.rules.xs.length)∧(AQ p n).1=(p.preds.xs,p.rules.xs.eraseIdx n.toNat):=by
 unfold AQ at h ⊢;split at h
 ·rename_i h1;exact absurd h h1
 rename_i h1;rw[if_neg h1];split at h
 ·cases h
 rename_i h2;rw[if_neg h2];exact⟨Afh.1 h1,by omega,rfl⟩
theorem HD{rs:List Rul}{n:Nat}:(rs.eraseIdx n).length≤rs.length∧∀r,r∈rs.eraseIdx n→r∈rs:=⟨List.length_eraseIdx_le ..,fun _ h=>List.mem_of_mem_eraseIdx h⟩
theorem Kb{p q:Prg}{n:Nat}(h:Ac p=0)(h1:q.preds.xs=p.preds.xs)(h2:q.rules.xs=p.rules.xs.eraseIdx n):Ac q=0∧∀r,r∈q.rules.xs→r∈p.rules.xs:=by
 have hs:∀r,r∈q.rules.xs→r∈p.rules.xs:=by rw[h2];exact HD.2
 have h8:p.rules.xs.length≤8:=(AB h).2.1;exact⟨Mt h1 (by rw[h2];exact AfY HD.1 h8) hs h,hs⟩
end
section
end
section
end
section
def rdM0:List Fct:=((RU (B2 AM [0,0,1] 0) 8 []).getD ([],0)).1
def rdM:List Fct:=((RU (B2 AM [0,0,1] 1) 8 rdM0).getD ([],0)).1
theorem Wg:RU (B2 AM [0,0,1] 0) 8 []=some (rdM0,4):=by kernel_rfl
theorem YD:RU (B2 AM [0,0,1] 1) 8 rdM0=some (rdM,1):=by kernel_rfl
section
variable {p:Prg}{h:Ae}(hp:Cl p h)
include hp
theorem Ud(st:Int)(n:Nat)(hn:n<7):ofQ p [0,0,1] st n=ofQ AM [0,0,1] st n:=by
 have h1:(p.rules.xs.map Rul.er).getD n default=AM.rules.xs.getD n default:=by rw[HB hp]
 have h2:n<p.rules.xs.length:=by rw[Qq hp];exact hn
 rw[Ae3,AfI,Ae4 h2] at h1;unfold ofQ;rw[←h1,Ae3,Ae4 h2];rfl
theorem Ue(st:Int)(f:List Fct):BM p.preds.xs f p.rules.xs (ofQ p [0,0,1] st)=BM AM.preds.xs f AM.rules.xs (ofQ AM [0,0,1] st):=by
 rw[D4 hp,←HB hp,Mr];exact GS fun n hn=>Ud hp st n (by rw[Qq hp] at hn;exact hn)
theorem Uf(st:Int):B2 p [0,0,1] st=B2 AM [0,0,1] st:=by
 funext f;unfold B2;rw[Ue hp,D4 hp]
theorem Ug(n:Nat):(p.rules.xs.getD n default).er=AM.rules.xs.getD n default:=by
 rw[←HB hp,Ae3,Ae3,AfI];cases p.rules.xs[n]?<;>rfl
theorem Uh:GB p (Ak p) (Ds (Ak p)) rdM [4,1]:=by
 rw[HC hp,show Ds [0,0,1]=2 by decide];refine⟨rdM0,[4],1,⟨[],[],4,⟨rfl,rfl⟩,?_,rfl⟩,?_,rfl⟩
 ·rw[Uf hp];exact Hq Wg
 ·rw[Uf hp];exact Hq YD
end
end
section
theorem Ui{l:List Prd}{f g:List Fct}{r:Rul}{x:Vrs}(ok:ROk l r)(hlit:∀t∈r.body.xs,lkF f (Ah (groundF t.atom x))=lkF g (Ah (groundF t.atom x))):Bv f r x=Bv g r x∧CP l f r x=CP l g r x:=by
 constructor
 ·unfold Bv;rw[AgH,Aff,Aff];have key:∀t∈r.body.xs,GK f x t=GK g x t:=fun t ht=>by unfold GK isF;rw[hlit t ht]
  exact⟨fun h t ht=>(key t ht)▸h t ht,fun h t ht=>(key t ht).symm▸h t ht⟩
 ·unfold CP Jy;by_cases h0:0≤r.src
  ·rw[if_pos h0,if_pos h0,hlit _ (Jz ⟨h0,ok.src.2⟩)]
  ·rw[if_neg h0,if_neg h0]
def MQ(p:Prg)(M:List Int)(st:Int)(fr:List Fct)(s:Stp):Bool:=(p.rules.xs.getD s.rule.toNat default).body.xs.any fun x=>!x.neg && decide (lv M x.atom.pred=st) && isF fr (groundF x.atom s.vars)
def BR(f g:List Fct):List Fct:=g.filter fun x=>decide (lkF f (Ah x)≠some x.v)
def DP(p:Prg)(M:List Int)(st:Int)(b:Bool)(fr:List Fct)(t:Stp×Fct):Bool:=b || MQ p M st fr t.1
def CY(p:Prg)(M:List Int)(st:Int)(b:Bool)(fr f:List Fct):List (Stp×Fct):=(BM p.preds.xs f p.rules.xs (ofQ p M st)).filter (DP p M st b fr)
def EW(p:Prg)(M:List Int)(st:Int)(b:Bool)(fr f:List Fct):List Fct:=(CV p.preds.xs f (CY p M st b fr f)).1
inductive NY(p:Prg)(M:List Int)(st:Int):Bool→List Fct→List Fct→List Fct→Nat→Prop
 |stop {b:Bool} {fr f g:List Fct} {n:Nat} (hg:EW p M st b fr f=g) (hn:(CY p M st b fr f).length=n) (h:BR f g=[]):NY p M st b fr f g n
 |step {b:Bool} {fr f g r:List Fct} {n m:Nat} (hg:EW p M st b fr f=g) (hn:(CY p M st b fr f).length=n) (h:BR f g≠[]) (c:NY p M st false (BR f g) g r m):NY p M st b fr f r (n+m)
theorem NY.uniq{p:Prg}{M:List Int}{st:Int}{b:Bool}{fr f r:List Fct}{n:Nat}(h:NY p M st b fr f r n):∀{r':List Fct} {n':Nat},NY p M st b fr f r' n'→r'=r∧n'=n:=by
 induction h with
 |stop hg hn h=>
  intro r' n' h';cases h' with
  |stop hg' hn' h'=>exact⟨hg'.symm.trans hg,hn'.symm.trans hn⟩
  |step hg' hn' h' c'=>exact absurd (hg.symm.trans hg'▸h) h'
 |step hg hn h c ih=>
  intro r' n' h';cases h' with
  |stop hg' hn' h'=>exact absurd (hg'.symm.trans hg▸h') h
  |step hg' hn' h' c'=>
   have e:=hg'.symm.trans hg;subst e;obtain⟨rfl,rfl⟩:=ih c';exact⟨rfl,by rw[←hn,←hn']⟩
def IB(p:Prg)(M:List Int)(st:Int)(f0:List Fct)(k:Nat)(b:Bool)(fr f:List Fct):Prop:=∀r n,NY p M st b fr f r n→NY p M st true [] f0 r (k+n)
theorem IB.zero{p:Prg}{M:List Int}{st:Int}{f:List Fct}:IB p M st f 0 true [] f:=fun r n h=>by rw[Agg];exact h
theorem IB.next{p:Prg}{M:List Int}{st:Int}{f0 fr f g:List Fct}{k n:Nat}{b:Bool}(h:IB p M st f0 k b fr f)(hg:EW p M st b fr f=g)(hn:(CY p M st b fr f).length=n)(hf:BR f g≠[]):IB p M st f0 (k+n) false (BR f g) g:=fun r m c=>by
 rw[Ahw];exact h r (n+m) (.step hg hn hf c)
theorem IB.done{p:Prg}{M:List Int}{st:Int}{f0 fr f g:List Fct}{k n:Nat}{b:Bool}(h:IB p M st f0 k b fr f)(hg:EW p M st b fr f=g)(hn:(CY p M st b fr f).length=n)(hf:BR f g=[]):NY p M st true [] f0 g (k+n):=h g n (.stop hg hn hf)
def Oq(p:Prg)(M:List Int):Nat→List Fct→Nat→Prop
 |0,f,c=>f=[]∧c=0
 |k+1,f,c=>∃f0 c0 c1,Oq p M k f0 c0∧NY p M k true [] f0 f c1∧c=c0+c1
theorem Oq.uniq{p:Prg}{M:List Int}:∀{k:Nat} {f f':List Fct} {c c':Nat},Oq p M k f c→Oq p M k f' c'→f'=f∧c'=c
 |0,_,_,_,_,⟨h1,h2⟩,⟨h3,h4⟩=>⟨h3.trans h1.symm,h4.trans h2.symm⟩
 |k+1,_,_,_,_,⟨f0,r0,n,a,b,c⟩,⟨f0',r0',n',a',b',c'⟩=>by
  obtain⟨rfl,rfl⟩:=Oq.uniq a a';obtain⟨rfl,rfl⟩:=b.uniq b';exact⟨rfl,c'.trans c.symm⟩
theorem Kc{l:List Prd}{f g:List Fct}(okf:FOk l f)(okg:FOk l g)(hu:A8 l f g=true)(h:BR f g=[]):g=f:=by
 refine F0 okg okf (A1.2 fun x hx=>?_) hu;have:¬(lkF f (Ah x)≠some x.v):=fun hne=>by
  have hm:x∈BR f g:=AfN.2 ⟨hx,decide_eq_true hne⟩;rw[h] at hm;cases hm
 exact⟨x.v,Afh.1 this,Ej (Da (okg.fine x hx))⟩
theorem Ib{l:List Prd}{f:List Fct}(okf:FOk l f):BR f f=[]:=by
 unfold BR;rw[Ahd];intro x hx;simp[Es okf.srt hx]
structure ZX(p:Prg)(M:List Int)(st:Int)(b:Bool)(fr f:List Fct):Prop where
 fok:FOk p.preds.xs f
 was:b=false→∃f',FOk p.preds.xs f'∧D5 M (·≠st) f' f∧fr=BR f' f∧∀t∈BM p.preds.xs f' p.rules.xs (ofQ p M st),A8 p.preds.xs [t.2] f=true
section
variable {p:Prg}{M:List Int}(rk:∀r∈p.rules.xs,ROk p.preds.xs r)(hM:Sol (AX p.rules.xs) p.preds.xs.length M)
include rk hM
theorem Uj{st:Int}{b:Bool}{fr f:List Fct}(j:ZX p M st b fr f){t:Stp×Fct}(ht:t∈BM p.preds.xs f p.rules.xs (ofQ p M st))(hq:DP p M st b fr t=false):A8 p.preds.xs [t.2] f=true:=by
 unfold DP at hq;rw[Agx] at hq;obtain⟨hb,hn⟩:=hq;obtain⟨f',okf',hs,hfr,hu⟩:=j.was hb;obtain⟨n,r,hr,hqn,hst,he⟩:=Dr.1 ht;have hrm:=Afk hr;obtain⟨e1,hv,hh⟩:=Cn hst;have hlev:=(J9 hr).1 hqn;unfold MQ at hn;rw[e1,Afs,Ae3,hr,Aga,Agb] at hn;have hlit:∀u∈r.body.xs,lkF f (Ah (groundF u.atom t.1.vars))=lkF f' (Ah (groundF u.atom t.1.vars)):=fun u hu=>by
  have ao:=Bc (rk r hrm).preds ((rk r hrm).body u hu);have pf:=ao.pf (rk r hrm).five hv 0;by_cases hl:lv M u.atom.pred=st
  ·have hlv:=T8 hM hrm hu;have hng:=ZV u;have hneg:u.neg=false:=by
    cases h:u.neg
    ·rfl
    ·have:ng u=1:=by unfold ng;rw[h];rfl
     omega
   have h1:=hn u hu;rw[hneg,decide_eq_true hl] at h1;have h1:isF fr (groundF u.atom t.1.vars)=false:=by simpa using h1
   have h2:=Aff.1 hh u hu;unfold GK at h2;rw[hneg,decide_eq_true_eq] at h2;have h2:isF f (groundF u.atom t.1.vars)=true:=by simpa using h2
   unfold isF at h1 h2;cases hlk:lkF f (Ah (groundF u.atom t.1.vars)) with
   |none=>rw[hlk] at h2;cases h2
   |some v=>
    obtain⟨y,hy,ey,rfl⟩:=DB hlk;have hno:lkF fr (Ah (groundF u.atom t.1.vars))=none:=by
     cases h:lkF fr (Ah (groundF u.atom t.1.vars)) with
     |none=>rfl
     |some _=>rw[h] at h1;cases h1
    have hny:=DV.1 hno y;rw[←ey];by_cases hc:lkF f' (Ah y)=some y.v
    ·exact hc.symm
    ·exact absurd ey (hny (by rw[hfr];exact AfN.2 ⟨hy,decide_eq_true hc⟩))
  ·exact(hs _ pf hl).symm
 obtain⟨k1,k2⟩:=Ui (rk r hrm) hlit;have ht':t∈BM p.preds.xs f' p.rules.xs (ofQ p M st):=by
  refine Dr.2 ⟨n,r,hr,hqn,?_,by rw[he,k2]⟩;unfold A6 at hst ⊢;obtain⟨v,hv1,hv2⟩:=AfE.1 hst;obtain⟨w1,w2⟩:=AfN.1 hv1;refine AfE.2 ⟨v,AfN.2 ⟨w1,?_⟩,hv2⟩;have:t.1.vars=v:=by rw[←hv2]
  rw[this] at k1;rw[←k1];exact w2
 exact hu t ht'
theorem NZ{st:Int}{b:Bool}{fr f:List Fct}(j:ZX p M st b fr f):EW p M st b fr f=(B2 p M st f).1:=by
 have tf:=Bj (q:=ofQ p M st) rk j.fok;have sf:∀t∈CY p M st b fr f,factFine p.preds.xs t.2=true:=fun t ht=>tf t (AfN.1 ht).1;have r1:=Ho (CY p M st b fr f) (f,false) j.fok sf;have r2:=Ho (BM p.preds.xs f p.rules.xs (ofQ p M st)) (f,false) j.fok tf;refine F0 r1.fok r2.fok (J4 r2.fok _ (f,false) j.fok sf r2.up fun t ht=>r2.each t (AfN.1 ht).1) (J4 r1.fok _ (f,false) j.fok tf r1.up fun t ht=>?_);cases hq:DP p M st b fr t
 ·exact DE (OF j.fok.len j.fok.preds (tf t ht)) j.fok r1.fok (Uj rk hM j ht hq) r1.up
 ·exact r1.each t (AfN.2 ⟨ht,hq⟩)
omit hM in
theorem Uk{st:Int}{b:Bool}{fr f:List Fct}(j:ZX p M st b fr f):ZX p M st false (BR f (B2 p M st f).1) (B2 p M st f).1:=by
 have tf:=Bj (q:=ofQ p M st) rk j.fok;have r2:=Ho (BM p.preds.xs f p.rules.xs (ofQ p M st)) (f,false) j.fok tf;exact⟨r2.fok,fun _=>⟨f,j.fok,fun y hy hl=>(O2 hy hl _ (f,false) j.fok tf (O3 (p:=p) (M:=M) (f:=f) (s:=st))).symm,rfl,r2.each⟩⟩
end
end
section
abbrev TrS:=List Fct×List Stp
def HE(l:List Prd)(s:TrS)(x:Stp)(y:Fct):TrS:=if (Dw (Al l y.pred).kind s.1 y).2=true then ((Dw (Al l y.pred).kind s.1 y).1,s.2++[x]) else s
def Dg(l:List Prd)(r:Rul)(s:TrS)(x:Stp):TrS:=HE l s x (CP l s.1 r x.vars)
def trL(l:List Prd)(r:Rul)(xs:List Stp)(s:TrS):TrS:=xs.foldl (Dg l r) s
def EE(p:Prg)(n:Nat)(s:TrS):TrS:=trL p.preds.xs (p.rules.xs.getD n default) (A6 s.1 n (p.rules.xs.getD n default)) s
def trK(p:Prg)(q:Nat→Bool)(s:TrS):Nat→TrS
 |0=>s
 |k+1=>if q k=true then EE p k (trK p q s k) else trK p q s k
abbrev CL(p:Prg)(q:Nat→Bool)(s:TrS):TrS:=trK p q s p.rules.xs.length
theorem QI{l:List Prd}{r:Rul}{xs:List Stp}{s:TrS}{k:Nat}(hk:k<xs.length):trL l r (xs.take (k+1)) s=Dg l r (trL l r (xs.take k) s) xs[k]:=by
 unfold trL;rw[Afi hk,Agq];rfl
theorem Ls{l:List Prd}{s:TrS}{x:Stp}{y:Fct}:s.2.length≤(HE l s x y).2.length:=by
 unfold HE;split
 ·simp
 ·exact Afg _
theorem RA{l:List Prd}{s:TrS}{x:Stp}{y:Fct}(h:(HE l s x y).2.length=s.2.length):HE l s x y=s∧(Dw (Al l y.pred).kind s.1 y).2=false:=by
 unfold HE at h ⊢;split at h
 ·simp at h
 ·rename_i hc;exact⟨if_neg hc,by simpa using hc⟩
theorem Gc{l:List Prd}{r:Rul}:∀(xs:List Stp) (s:TrS),s.2.length≤(trL l r xs s).2.length
 |[],_=>Afg _
 |x::xs,s=>AfY Ls (Gc xs (Dg l r s x))
theorem QJ{l:List Prd}{r:Rul}:∀(xs:List Stp) (s:TrS),(trL l r xs s).2.length=s.2.length→trL l r xs s=s∧∀x∈xs,(Dw (Al l r.head.pred).kind s.1 (CP l s.1 r x.vars)).2=false
 |[],s,_=>⟨rfl,fun x hx=>by simp at hx⟩
 |x::xs,s,h=>by
  have h1:s.2.length≤(Dg l r s x).2.length:=Ls;have h2:=Gc (l:=l) (r:=r) xs (Dg l r s x);have h3:(trL l r xs (Dg l r s x)).2.length=s.2.length:=h;obtain⟨e,hc⟩:=RA (l:=l) (s:=s) (x:=x) (y:=CP l s.1 r x.vars) (show(Dg l r s x).2.length=_ by omega);have e:Dg l r s x=s:=e;have h4:trL l r (x::xs) s=trL l r xs s:=congrArg (trL l r xs) e;rw[h4] at h ⊢;obtain⟨i1,i2⟩:=QJ xs s h;refine⟨i1,fun y hy=>?_⟩;rcases Afq.1 hy with rfl|hy
  ·exact hc
  ·exact i2 y hy
theorem I7{p:Prg}{q:Nat→Bool}{s:TrS}:∀k,s.2.length≤(trK p q s k).2.length
 |0=>Afg _
 |k+1=>by
  have ih:=I7 (p:=p) (q:=q) (s:=s) k;rw[trK];split
  ·exact AfY ih (Gc _ _)
  ·exact ih
theorem QK{p:Prg}{q:Nat→Bool}{s:TrS}:∀k,(trK p q s k).2.length=s.2.length→trK p q s k=s∧∀n,n<k→q n=true→∀x∈A6 s.1 n (p.rules.xs.getD n default),(Dw (Al p.preds.xs (p.rules.xs.getD n default).head.pred).kind s.1 (CP p.preds.xs s.1 (p.rules.xs.getD n default) x.vars)).2=false
 |0,_=>⟨rfl,fun n hn=>by omega⟩
 |k+1,h=>by
  have ih:=QK (p:=p) (q:=q) (s:=s) k;have hm:=I7 (p:=p) (q:=q) (s:=s) k;rw[trK] at h ⊢;split at h
  ·rename_i hq;have h1:(trK p q s k).2.length≤(EE p k (trK p q s k)).2.length:=Gc _ _;obtain⟨e,i2⟩:=ih (by omega);rw[e] at h ⊢;obtain⟨e2,i3⟩:=QJ _ s h;rw[if_pos hq];refine⟨e2,fun n hn hqn=>?_⟩;rcases Afd.1 hn with hlt|rfl
   ·exact i2 n hlt hqn
   ·exact i3
  ·rename_i hq;obtain⟨e,i2⟩:=ih h;rw[if_neg hq];refine⟨e,fun n hn hqn=>?_⟩;rcases Afd.1 hn with hlt|rfl
   ·exact i2 n hlt hqn
   ·exact absurd hqn hq
inductive RB(T:TrS→TrS):TrS→TrS→Prop
 |stop {s g:TrS} (hg:T s=g) (h:g.2.length=s.2.length):RB T s g
 |step {s g r:TrS} (hg:T s=g) (h:g.2.length≠s.2.length) (c:RB T g r):RB T s r
theorem RB.uniq{T:TrS→TrS}{s r:TrS}(h:RB T s r):∀{r':TrS},RB T s r'→r'=r:=by
 induction h with
 |stop hg h=>
  intro r' h';cases h' with
  |stop hg' h'=>exact hg'.symm.trans hg
  |step hg' h' c'=>exact absurd (hg'.symm.trans hg▸h) h'
 |step hg h c ih=>
  intro r' h';cases h' with
  |stop hg' h'=>exact absurd (hg'.symm.trans hg▸h') h
  |step hg' h' c'=>exact ih (hg'.symm.trans hg▸c')
def Ul(T:TrS→TrS)(s0 s:TrS):Prop:=∀r,RB T s r→RB T s0 r
theorem Ul.next{T:TrS→TrS}{s0 s g:TrS}(h:Ul T s0 s)(hg:T s=g)(hl:g.2.length≠s.2.length):Ul T s0 g:=fun r c=>h r (.step hg hl c)
def Lu(p:Prg)(M:List Int):Nat→TrS→Prop
 |0,s=>s=([],[])
 |k+1,s=>∃s0,Lu p M k s0∧RB (CL p (ofQ p M k)) s0 s
theorem Lu.uniq{p:Prg}{M:List Int}:∀{k:Nat} {s s':TrS},Lu p M k s→Lu p M k s'→s'=s
 |0,_,_,h1,h2=>h2.trans h1.symm
 |k+1,_,_,⟨s0,a,b⟩,⟨s0',a',b'⟩=>by
  obtain rfl:=Lu.uniq a a';exact b.uniq b'
structure Mw(p:Prg)(M:List Int)(st:Int)(f:List Fct)(n:Nat)(r:Rul)(x:Stp):Prop where
 rule:p.rules.xs[n]?=some r
 lev:lv M r.head.pred=st
 num:x.rule=n
 vs:KE x.vars
 std:L0 r x.vars=true
 holds:Bv f r x.vars=true
inductive C1(p:Prg)(M:List Int)(st:Int)(s0:TrS):TrS→Prop
 |refl:C1 p M st s0 s0
 |next {s:TrS} {n:Nat} {r:Rul} {x:Stp} (h:C1 p M st s0 s) (hf:Mw p M st s.1 n r x):C1 p M st s0 (Dg p.preds.xs r s x)
theorem C1.trans{p:Prg}{M:List Int}{st:Int}{s0 s1 s2:TrS}(h:C1 p M st s0 s1)(h2:C1 p M st s1 s2):C1 p M st s0 s2:=by
 induction h2 with
 |refl=>exact h
 |next _ hf ih=>exact ih.next hf
structure TG(p:Prg)(M:List Int)(st:Int)(f0 f:List Fct):Prop where
 fok:FOk p.preds.xs f
 up:A8 p.preds.xs f0 f=true
 off:D5 M (·≠st) f0 f
theorem Wh{M:List Int}{st:Int}{f g:List Fct}(h:D5 M (·≠st) f g):D5 M (· < st) f g:=fun y hy hl=>h y hy (by omega)
def Wi(p:Prg)(M:List Int)(st:Int)(b:List Fct):Prop:=∀t∈BM p.preds.xs b p.rules.xs (ofQ p M st),A8 p.preds.xs [t.2] b=true
section
variable {p:Prg}{M:List Int}(rk:∀r∈p.rules.xs,ROk p.preds.xs r)(hM:Sol (AX p.rules.xs) p.preds.xs.length M)
theorem GV{st:Int}{f:List Fct}{n:Nat}{r:Rul}{x:Stp}(hr:p.rules.xs[n]?=some r)(hl:lv M r.head.pred=st)(hx:x∈A6 f n r):Mw p M st f n r x:=by
 obtain⟨h1,h2,h3⟩:=Cn hx;unfold A6 at hx;obtain⟨v,hv,e⟩:=AfE.1 hx;obtain⟨_,w2⟩:=AfN.1 hv;rw[Afn] at w2;exact⟨hr,hl,h1,h2,by rw[←e];exact w2.1,h3⟩
include rk
theorem Ge{st:Int}{f:List Fct}(okf:FOk p.preds.xs f){n:Nat}{r:Rul}{x:Stp}(h:Mw p M st f n r x):factFine p.preds.xs (CP p.preds.xs f r x.vars)=true:=Et (rk r (Afk h.rule)) okf h.vs h.holds
theorem YE{st:Int}{f0:List Fct}{s:TrS}(ok0:FOk p.preds.xs f0)(g:TG p M st f0 s.1){n:Nat}{r:Rul}{x:Stp}(h:Mw p M st s.1 n r x):TG p M st f0 (Dg p.preds.xs r s x).1:=by
 have hf:=Ge rk g.fok h;unfold Dg HE;split
 ·refine⟨DW g.fok hf,DE ok0 g.fok (DW g.fok hf) g.up (Jt g.fok hf),fun y hy hl=>?_⟩;rw[g.off y hy hl];show _=lkF (SH p.preds.xs s.1 (CP p.preds.xs s.1 r x.vars)) (Ah y);rw[FY g.fok,if_neg];intro e;have:=(hy.inj (By g.fok.len hf) e).1;exact hl (by rw[this];exact h.lev)
 ·exact g
theorem Co{st:Int}{s0 s:TrS}(ok0:FOk p.preds.xs s0.1)(h:C1 p M st s0 s):TG p M st s0.1 s.1:=by
 induction h with
 |refl=>exact⟨ok0,FZ ok0,fun _ _ _=>rfl⟩
 |next _ hf ih=>exact YE rk ok0 ih hf
include hM
theorem Mx{st:Int}{f0 f:List Fct}(g:TG p M st f0 f){n:Nat}{r:Rul}{x:Stp}(h:Mw p M st f0 n r x):Mw p M st f n r x:=
 ⟨h.rule,h.lev,h.num,h.vs,h.std,Ln rk hM g.up (Wh g.off) (Afk h.rule) (Aho h.lev) h.vs h.holds⟩
theorem HG{st:Int}{n:Nat}{r:Rul}(hr:p.rules.xs[n]?=some r)(hl:lv M r.head.pred=st){s0:TrS}(ok0:FOk p.preds.xs s0.1):∀(xs:List Stp) (s:TrS),(∀x∈xs,x∈A6 s0.1 n r)→C1 p M st s0 s→C1 p M st s0 (trL p.preds.xs r xs s)
 |[],_,_,h=>h
 |x::xs,_,hx,h=>HG hr hl ok0 xs _ (fun y hy=>hx y (Ae8 _ hy)) (h.next (Mx rk hM (Co rk ok0 h) (GV hr hl (hx x Ae7))))
theorem FM{st:Int}{s0:TrS}(ok0:FOk p.preds.xs s0.1):∀k,k≤p.rules.xs.length→C1 p M st s0 (trK p (ofQ p M st) s0 k)
 |0,_=>.refl
 |k+1,hk=>by
  have ih:=FM (st:=st) ok0 k (by omega);rw[trK];split
  ·rename_i hq;have hr:p.rules.xs[k]?=some p.rules.xs[k]:=Ae4 (by omega);have hg:p.rules.xs.getD k default=p.rules.xs[k]:=by rw[Ae3,hr];rfl
   unfold EE;rw[hg];exact ih.trans (HG rk hM hr ((J9 hr).1 hq) (Co rk ok0 ih).fok _ _ (fun x hx=>hx) .refl)
  ·exact ih
theorem RC{st:Int}{s0 s:TrS}(h:RB (CL p (ofQ p M st)) s0 s):FOk p.preds.xs s0.1→C1 p M st s0 s∧Wi p M st s.1:=by
 induction h with
 |@stop s g hg h=>
  intro ok0;have hs:=FM rk hM (st:=st) ok0 _ (Afg _);rw[show trK p (ofQ p M st) s p.rules.xs.length=g from hg] at hs;refine⟨hs,?_⟩;obtain⟨e,i⟩:=QK (p:=p) (q:=ofQ p M st) (s:=s) p.rules.xs.length (by rw[show trK p (ofQ p M st) s p.rules.xs.length=g from hg];exact h);rw[show trK p (ofQ p M st) s p.rules.xs.length=g from hg] at e;subst e;intro t ht;obtain⟨n,r,hr,hq,hst,he⟩:=Dr.1 ht;have hgd:p.rules.xs.getD n default=r:=by rw[Ae3,hr];rfl
  have:=i n (Ae9.1 hr).1 hq t.1 (by rw[hgd];exact hst);rw[hgd,←he] at this;have hfine:=Bj rk ok0 t ht;have hp:t.2.pred=r.head.pred:=by rw[he];rfl
  rw[←hp] at this;have h1:=Nc ok0 hfine;rwa [show SH p.preds.xs g.1 t.2=g.1 from G7 this] at h1
 |@step s g r hg h c ih=>
  intro ok0;have hs:=FM rk hM (st:=st) ok0 _ (Afg _);rw[show trK p (ofQ p M st) s p.rules.xs.length=g from hg] at hs;obtain⟨i1,i2⟩:=ih (Co rk ok0 hs).fok;exact⟨hs.trans i1,i2⟩
end
end
section
def YF(T:TrS→TrS):Nat→TrS→Option TrS
 |0,_=>none
 |k+1,s=>if (T s).2.length=s.2.length then some (T s) else YF T k (T s)
theorem My{T:TrS→TrS}:∀{k:Nat} {s r:TrS},YF T k s=some r→RB T s r
 |0,_,_,h=>by cases h
 |k+1,s,r,h=>by
  rw[YF] at h;split at h
  ·rename_i h2;injection h with h;exact .stop h (by rw[←h];exact h2)
  ·rename_i h2;exact .step rfl h2 (My h)
theorem Um(l:List Prd)(r:Rul):Dg l r.er=Dg l r:=by
 funext s x;unfold Dg;rw[Qo]
theorem N0{p q:Prg}{n:Nat}(hp:p.preds.xs=q.preds.xs)(hr:(p.rules.xs.getD n default).er=q.rules.xs.getD n default)(s:TrS):EE p n s=EE q n s:=by
 unfold EE trL;rw[←hr,hp,Um,NT]
theorem Kd{p q:Prg}{o o':Nat→Bool}{s:TrS}:∀{k:Nat},(∀n,n<k→o n=o' n)→(∀n s,n<k→EE p n s=EE q n s)→trK p o s k=trK q o' s k
 |0,_,_=>rfl
 |k+1,h1,h2=>by
  have ih:=Kd (p:=p) (q:=q) (s:=s) (fun n hn=>h1 n (Nat.lt_succ_of_lt hn)) fun n s hn=>h2 n s (Nat.lt_succ_of_lt hn);rw[trK,trK,h1 k (Ahu k),ih,h2 k _ (Ahu k)]
def rdT0:TrS:=(YF (CL AM (ofQ AM [0,0,1] 0)) 8 ([],[])).getD ([],[])
def rdT:TrS:=(YF (CL AM (ofQ AM [0,0,1] 1)) 8 rdT0).getD ([],[])
theorem Wj:YF (CL AM (ofQ AM [0,0,1] 0)) 8 ([],[])=some rdT0:=by kernel_rfl
theorem YG:YF (CL AM (ofQ AM [0,0,1] 1)) 8 rdT0=some rdT:=by kernel_rfl
def bad2:List Stp:=[⟨0,⟨0,0,0⟩⟩,⟨5,⟨0,0,0⟩⟩]
section
variable {p:Prg}{h:Ae}(hp:Cl p h)
include hp
theorem Un(st:Int)(s:TrS):CL p (ofQ p [0,0,1] st) s=CL AM (ofQ AM [0,0,1] st) s:=by
 unfold CL;rw[Qq hp];exact Kd (fun n hn=>Ud hp st n hn) fun n s _=>N0 (D4 hp) (Ug hp n) s
theorem YH:Lu p (Ak p) (Ds (Ak p)) rdT:=by
 rw[HC hp,show Ds [0,0,1]=2 by decide];have e:∀st,CL p (ofQ p [0,0,1] st)=CL AM (ofQ AM [0,0,1] st):=fun st=>funext fun s=>Un hp st s;refine⟨rdT0,⟨([],[]),rfl,?_⟩,?_⟩
 ·have:=My Wj;rw[←e] at this;exact this
 ·have:=My YG;rw[←e] at this;exact this
end
end
section
theorem YI{l:List Prd}{f:List Fct}{y:Fct}(okf:FOk l f)(hy:factFine l y=true):(Dw (Al l y.pred).kind f y).2=decide ((Dw (Al l y.pred).kind f y).1≠f):=by
 have h:=I5 (ts:=[((default:Stp),y)]) okf (by intro t ht;rw[Afl.1 ht];exact hy);have e:CV l f [((default:Stp),y)]=Kx l (f,false) y:=rfl;rw[e] at h;exact(Agy _).symm.trans h
section
variable {p:Prg}{M:List Int}(rk:∀r∈p.rules.xs,ROk p.preds.xs r)
include rk
theorem Uo{st:Int}{s:TrS}(okf:FOk p.preds.xs s.1){n:Nat}{r:Rul}{x:Stp}(h:Mw p M st s.1 n r x):(Dg p.preds.xs r s x).2.length+Ec p.preds.xs s.1≤Ec p.preds.xs (Dg p.preds.xs r s x).1+s.2.length:=by
 have hfine:=Ge rk okf h;unfold Dg HE;split
 ·rename_i hc;have hne:=of_decide_eq_true ((YI okf hfine).symm.trans hc);have:=GR okf (DW okf hfine) (Jt okf hfine) hne;rw[Ae2,Afv];dsimp only;unfold SH at this;omega
 ·omega
theorem Ic{st:Int}{s0 s:TrS}(ok0:FOk p.preds.xs s0.1)(h:C1 p M st s0 s):s.2.length+Ec p.preds.xs s0.1≤Ec p.preds.xs s.1+s0.2.length:=by
 induction h with
 |refl=>omega
 |next h hf ih=>
  have:=Uo rk (Co rk ok0 h).fok hf;omega
theorem EF{st:Int}{s0 s:TrS}(ok0:FOk p.preds.xs s0.1)(h:C1 p M st s0 s)(hl:s0.2.length≤Ec p.preds.xs s0.1):s.2.length≤Ec p.preds.xs s.1:=by
 have:=Ic rk ok0 h;omega
end
def TJ(T:TrS→TrS)(s0:TrS)(again:Bool)(s:TrS):Prop:=again=true∧Ul T s0 s∨again=false∧RB T s0 s
theorem TJ.zero{T:TrS→TrS}{s:TrS}:TJ T s true s:=.inl ⟨rfl,fun _ h=>h⟩
theorem TJ.next{T:TrS→TrS}{s0 s g:TrS}(h:TJ T s0 true s)(hg:T s=g):TJ T s0 (decide (g.2.length≠s.2.length)) g:=by
 have hb:Ul T s0 s:=by
  rcases h with ⟨_,h⟩|⟨h,_⟩
  ·exact h
  ·cases h
 by_cases hl:g.2.length=s.2.length
 ·exact .inr ⟨decide_eq_false (fun h=>h hl),hb _ (.stop hg hl)⟩
 ·exact .inl ⟨decide_eq_true hl,hb.next hg hl⟩
theorem TJ.done{T:TrS→TrS}{s0 s:TrS}(h:TJ T s0 false s):RB T s0 s:=by
 rcases h with ⟨h,_⟩|⟨_,h⟩
 ·cases h
 ·exact h
end
section
abbrev DI(n:Nat):Bs:=Lib.decDigits n
theorem YJ{n:Nat}(h:n<100):DI n=dgL n:=Xv ⟨n,h⟩
theorem EG{n:Nat}(h:n<10):DI n=[UInt8.ofNat (48+n)]:=by unfold DI;rw[Lib.decDigits,dif_pos h]
theorem I8{n:Nat}(h:¬n<10):DI n=DI (n / 10)++[UInt8.ofNat (48+n % 10)]:=by unfold DI;rw[Lib.decDigits,dif_neg h]
theorem I9{n:Nat}(h:n<18446744073709551616):(DI n).length≤20:=by
 unfold DI;rw[Lib.decDigits_length];exact Lib.nDigits_le20 n h
theorem ZY{n:Nat}(h:n<10):(UInt8.ofNat (48+n)).toNat=48+n:=XZ (by omega)
theorem QL{n:Nat}(h:n<10):Kw (UInt8.ofNat (48+n))=true:=by
 unfold Kw;rw[ZY h];simp;omega
theorem QM(n:Nat):∀c∈DI n,Kw c=true:=by
 induction n using Nat.strongRecOn with
 |_ n ih=>
  intro c hc;by_cases h:n<10
  ·rw[EG h,Afl] at hc;subst hc;exact QL h
  ·rw[I8 h] at hc;rcases Afu.1 hc with hc|hc
   ·exact ih (n / 10) (by omega) c hc
   ·rw[Afl] at hc;subst hc;exact QL (by omega)
theorem Mz(n:Nat):1≤(DI n).length:=by
 unfold DI;rw[Lib.decDigits_length];exact Lib.nDigits_pos n
def Up(s:Bs):Int:=s.foldl (fun n c=>10*n+(c.toNat:Int)-48) 0
theorem Wk(n:Nat):Up (DI n)=n:=by
 induction n using Nat.strongRecOn with
 |_ n ih=>
  by_cases h:n<10
  ·rw[EG h];unfold Up;simp only[Agk,Ah3,ZY h];omega
  ·have:=ih (n / 10) (by omega);rw[I8 h];unfold Up at this ⊢;rw[Agq,this];simp only[Agk,Ah3,ZY (show n % 10<10 by omega)];omega
theorem QN{n:Nat}(h:(DI n).length≤6):BP (DI n)=n:=by
 unfold BP;rw[if_pos ⟨Mz n,h⟩];exact Wk n
theorem Uq{c:UInt8}(h:Kw c=true):Lib.digitVal c=some (c.toNat-48):=by
 unfold Kw at h;simp only[Afn,decide_eq_true_eq] at h;unfold Lib.digitVal;rw[if_pos h]
theorem Ke:∀{l m:Bs} {a n:Nat},Lib.decFrom a l=some n→Lib.decFrom a (l++m)=Lib.decFrom n m
 |[],m,a,n,h=>by simp only[Lib.decFrom,Option.some.injEq] at h;subst h;rfl
 |c::l,m,a,n,h=>by
  simp only[AfH,Lib.decFrom] at h ⊢;split at h
  ·rename_i d hd;exact Ke h
  ·cases h
theorem O6(n:Nat):Lib.decFrom 0 (DI n)=some n:=by
 induction n using Nat.strongRecOn with
 |_ n ih=>
  by_cases h:n<10
  ·rw[EG h,Lib.decFrom,Uq (QL h),ZY h];simp[Lib.decFrom]
  ·rw[I8 h,Ke (ih (n / 10) (by omega)),Lib.decFrom,Uq (QL (by omega)),ZY (by omega)];simp only[Lib.decFrom,Option.some.injEq];omega
theorem YK{n:Nat}(h:(DI n).length≤6):Du (DI n)=some (n:Int):=by
 have hp:=Mz n;have hd:=QM n;have hf:=O6 n;unfold Du;rw[Lib.atoiAll_short _ (by omega)];cases hc:DI n with
 |nil=>rw[hc] at hp;simp at hp
 |cons c r=>
  have h1:=hd c (by rw[hc];exact Ae7);unfold Kw at h1;simp only[Afn,decide_eq_true_eq] at h1;have n45:(c == 45)=false:=by rw[beq_eq_false_iff_ne];rintro rfl;exact absurd h1.1 (by decide)
  have n43:(c == 43)=false:=by rw[beq_eq_false_iff_ne];rintro rfl;exact absurd h1.1 (by decide)
  rw[hc] at hf;unfold Lib.atoi;simp only[n45,n43,Afy,if_false];unfold Lib.decNat;rw[hf];rfl
def Lv(s:Bs):Option Nat:=if s.length≤6∧s=DI (BP s).toNat then some (BP s).toNat else none
theorem Wl{n:Nat}(h:(DI n).length≤6):Lv (DI n)=some n:=by
 unfold Lv;rw[QN h,Afs,if_pos ⟨h,rfl⟩]
theorem N1{s:Bs}{n:Nat}(h:Lv s=some n):s=DI n∧s.length≤6∧Du s=some (n:Int)∧BP s=n:=by
 unfold Lv at h;split at h
 ·rename_i hc;injection h with h;rw[h] at hc;obtain⟨h1,h2⟩:=hc;refine⟨h2,h1,?_,?_⟩
  ·rw[h2];exact YK (by rw[←h2];exact h1)
  ·rw[h2];exact QN (by rw[←h2];exact h1)
 ·cases h
section
variable {p:Prg}(h:Ac p=0)
include h
theorem EX{f:List Fct}{rs:List Int}(m:GB p (Ak p) (Ds (Ak p)) f rs):FOk p.preds.xs f:=(Ms (BA h) (BC h).sol (Ea h) m).fok
theorem YL{M:List Int}{st:Int}{f r:List Fct}{n:Nat}(c:Clo (B2 p M st) f r n):FOk p.preds.xs f→FOk p.preds.xs r∧n+Ec p.preds.xs f≤Ec p.preds.xs r:=by
 induction c with
 |stop _=>exact fun o=>⟨o,by omega⟩
 |@step f r n h2 c ih=>
  intro o;have tf:=Bj (q:=ofQ p M st) (BA h) o;have hc:=(I5 o tf).symm.trans h2;have hlt:=GR o (CW o tf) (Dx o tf) (of_decide_eq_true hc);obtain⟨o',h'⟩:=ih (CW o tf);refine⟨o',?_⟩;have e:B2 p M st f=CV p.preds.xs f (BM p.preds.xs f p.rules.xs (ofQ p M st)):=rfl;rw[e] at h';omega
theorem Gh{M:List Int}:∀{k:Nat} {f:List Fct} {rs:List Int},GB p M k f rs→FOk p.preds.xs f∧∀x∈rs,0≤x∧x≤2000
 |0,f,rs,⟨h1,h2⟩=>by
  subst h1;subst h2;exact⟨Ea h,fun x hx=>by cases hx⟩
 |k+1,f,rs,⟨f0,r0,n,a,b,c⟩=>by
  obtain⟨o,hr⟩:=Gh a;obtain⟨o2,h2⟩:=YL h b o;have:=B1 p.preds.xs f;subst c;refine⟨o2,fun x hx=>?_⟩;rcases Afu.1 hx with hx|hx
  ·exact hr x hx
  ·rw[Afl] at hx;omega
theorem N2{f:List Fct}{q:Nat→Bool}:(BM p.preds.xs f p.rules.xs q).length≤1000:=by
 obtain⟨_,h8,_⟩:=AB h;have key:∀k,(Cx p.preds.xs f p.rules.xs q k).length≤k*125:=fun k=>by
  induction k with
  |zero=>simp[Cx]
  |succ k ih=>
   rw[B0,Ae2];have:(BB p.preds.xs f p.rules.xs q k).length≤125:=by
    unfold BB;split
    ·rw[Afw];unfold A6;rw[Afw];exact AfY (AfO ..) (by decide +kernel)
    ·simp
   omega
 have h1:=key p.rules.xs.length;show(Cx p.preds.xs f p.rules.xs q p.rules.xs.length).length≤1000;omega
theorem RD{M:List Int}(hM:Sol (AX p.rules.xs) p.preds.xs.length M){st:Int}{b:Bool}{fr f r:List Fct}{n:Nat}(c:NY p M st b fr f r n):ZX p M st b fr f→FOk p.preds.xs r∧n+1000*Ec p.preds.xs f≤1000*Ec p.preds.xs r+1000:=by
 have rk:=BA h;induction c with
 |@stop b fr f g n hg hn h0=>
  intro j;have e:=NZ rk hM j;have tf:=Bj (q:=ofQ p M st) rk j.fok;have hgf:g=f:=by
   rw[hg] at e;exact Kc j.fok (by rw[e];exact CW j.fok tf) (by rw[e];exact Dx j.fok tf) h0
  have hl:n≤1000:=by
   rw[←hn];unfold CY;exact AfY (AfO ..) (N2 h)
  subst hgf;exact⟨j.fok,by omega⟩
 |@step b fr f g r n m hg hn h0 c ih=>
  intro j;have e:=NZ rk hM j;have tf:=Bj (q:=ofQ p M st) rk j.fok;rw[hg] at e;have hl:n≤1000:=by
   rw[←hn];unfold CY;exact AfY (AfO ..) (N2 h)
  have hne:g≠f:=fun hh=>h0 (by rw[hh];exact Ib j.fok);have hlt:Ec p.preds.xs f<Ec p.preds.xs g:=GR j.fok (by rw[e];exact CW j.fok tf) (by rw[e];exact Dx j.fok tf) hne;obtain⟨o,h'⟩:=ih (e▸Uk rk j);exact⟨o,by omega⟩
theorem Gj{M:List Int}(hM:Sol (AX p.rules.xs) p.preds.xs.length M):∀{k:Nat} {f:List Fct} {c:Nat},Oq p M k f c→FOk p.preds.xs f∧c≤k*2001000
 |0,f,c,⟨h1,h2⟩=>by subst h1;subst h2;exact⟨Ea h,by omega⟩
 |k+1,f,c,⟨f0,c0,c1,a,b,e⟩=>by
  obtain⟨o,hc⟩:=Gj hM a;obtain⟨o2,h2⟩:=RD h hM b ⟨o,fun h=>by cases h⟩;have:=B1 p.preds.xs f;exact⟨o2,by omega⟩
theorem QO{M:List Int}(hM:Sol (AX p.rules.xs) p.preds.xs.length M):∀{k:Nat} {s:TrS},Lu p M k s→FOk p.preds.xs s.1∧s.2.length≤Ec p.preds.xs s.1
 |0,s,e=>by
  have e:s=([],[]):=e;subst e;exact⟨Ea h,Afa _⟩
 |k+1,s,⟨s0,a,b⟩=>by
  obtain⟨o,l⟩:=QO hM a;obtain⟨ts,_⟩:=RC (BA h) hM b o;exact⟨(Co (BA h) o ts).fok,EF (BA h) o ts l⟩
theorem Lw{s:TrS}(t:Lu p (Ak p) (Ds (Ak p)) s):s.2.length≤2000:=AfY (QO h (BC h).sol t).2 (B1 _ _)
end
theorem QP{p q:Prg}(he:p.er=q.er):p.rules.xs.map Rul.er=q.rules.xs.map Rul.er:=by have:=congrArg (fun z:Prg=>z.rules.xs) he;exact this
theorem QQ{p q:Prg}(he:p.er=q.er):p.preds.xs=q.preds.xs:=by have:=congrArg (fun z:Prg=>z.preds.xs) he;exact this
theorem ZZ{p q:Prg}(he:p.er=q.er):p.rules.xs.length=q.rules.xs.length:=by have:=congrArg List.length (QP he);simpa using this
theorem MA{p q:Prg}(he:p.er=q.er){f g:List Fct}{rs ss:List Int}(h1:GB p (Ak p) (Ds (Ak p)) f rs)(h2:GB q (Ak q) (Ds (Ak q)) g ss):f=g∧rs=ss:=by
 rw[←Ga he] at h2;have:∀st,B2 q (Ak p) st=B2 p (Ak p) st:=fun st=>by rw[←QE q,←he,QE]
 have:=(Lr this h2).uniq h1;exact⟨this.1,this.2⟩
theorem RE(p:Prg)(n:Nat)(s:TrS):EE p n s=EE p.er n s:=N0 (p:=p) (q:=p.er) (n:=n) rfl (by
 show(p.rules.xs.getD n default).er=(p.rules.xs.map Rul.er).getD n default;rw[Ae3,Ae3,AfI];cases p.rules.xs[n]?<;>rfl) s
theorem Ur{p:Prg}{M:List Int}{st:Int}{n:Nat}(hn:n<p.rules.xs.length):ofQ p M st n=ofQ p.er M st n:=by
 unfold ofQ;rw[show p.er.rules.xs=p.rules.xs.map Rul.er from rfl,Ae3,Ae3,AfI,Ae4 hn];rfl
theorem Lx(p:Prg)(M:List Int)(st:Int):CL p (ofQ p M st)=CL p.er (ofQ p.er M st):=by
 funext s;unfold CL;rw[show p.er.rules.xs.length=p.rules.xs.length from Afw ..];exact Kd (fun n hn=>Ur hn) fun n s _=>RE p n s
theorem Ly{p q:Prg}{M:List Int}(h:∀st,CL p (ofQ p M st)=CL q (ofQ q M st)):∀{k:Nat} {s:TrS},Lu p M k s→Lu q M k s
 |0,_,hm=>hm
 |k+1,_,⟨s0,a,b⟩=>⟨s0,Ly h a,by rw[←h];exact b⟩
theorem Wm{p q:Prg}(he:p.er=q.er){s t:TrS}(h1:Lu p (Ak p) (Ds (Ak p)) s)(h2:Lu q (Ak q) (Ds (Ak q)) t):s=t:=by
 rw[←Ga he] at h2;exact(Ly (fun st=>by rw[Lx q,←he,←Lx p]) h2).uniq h1
theorem Wn(p:Prg)(M:List Int)(st:Int)(fr:List Fct)(s:Stp):MQ p M st fr s=MQ p.er M st fr s:=by
 unfold MQ;rw[show p.er.rules.xs=p.rules.xs.map Rul.er from rfl,Ae3,Ae3,AfI];cases p.rules.xs[s.rule.toNat]? with
 |none=>rfl
 |some r=>
  show r.body.xs.any _=(r.body.xs.map Ltl.er).any _;rw[Ah7];rfl
theorem Wo(p:Prg)(M:List Int)(st:Int)(f:List Fct):BM p.preds.xs f p.rules.xs (ofQ p M st)=BM p.er.preds.xs f p.er.rules.xs (ofQ p.er M st):=by
 rw[show p.er.rules.xs=p.rules.xs.map Rul.er from rfl,show p.er.preds.xs=p.preds.xs from rfl,Mr];exact GS fun n hn=>Ur hn
theorem FN(p:Prg)(M:List Int)(st:Int)(b:Bool)(fr f:List Fct):CY p M st b fr f=CY p.er M st b fr f:=by
 unfold CY;rw[Wo];congr 1;funext t;unfold DP;rw[Wn]
theorem HH(p:Prg)(M:List Int)(st:Int)(b:Bool)(fr f:List Fct):EW p M st b fr f=EW p.er M st b fr f:=by
 unfold EW;rw[FN];rfl
theorem Wp{p q:Prg}(he:p.er=q.er){M:List Int}{st:Int}{b:Bool}{fr f r:List Fct}{n:Nat}(c:NY p M st b fr f r n):NY q M st b fr f r n:=by
 induction c with
 |stop hg hn h=>exact .stop (by rw[HH,←he,←HH];exact hg) (by rw[FN,←he,←FN];exact hn) h
 |step hg hn h _ ih=>exact .step (by rw[HH,←he,←HH];exact hg) (by rw[FN,←he,←FN];exact hn) h ih
theorem QR{p q:Prg}(he:p.er=q.er){M:List Int}:∀{k:Nat} {f:List Fct} {c:Nat},Oq p M k f c→Oq q M k f c
 |0,_,_,hm=>hm
 |_+1,_,_,⟨f0,c0,c1,a,b,e⟩=>⟨f0,c0,c1,QR he a,Wp he b,e⟩
theorem Wq{p q:Prg}(he:p.er=q.er){f g:List Fct}{c d:Nat}(h1:Oq p (Ak p) (Ds (Ak p)) f c)(h2:Oq q (Ak q) (Ds (Ak q)) g d):c=d:=by
 rw[←Ga he] at h2;exact((QR he.symm h2).uniq h1).2
end
section
def IC(l:List Prd)(s:Bs):Option Atm:=
 match Ev l s with
 |none=>none
 |some a=>if checkAtom l a=0∧A0 l a=s then some a else none
theorem EI(l:List Prd)(a:Atm):A0 l a.er=A0 l a:=rfl
theorem YM{l:List Prd}(nk:NOk l)(hp:∀p∈l,AE p=true){s:Bs}{a:Atm}(he:a.er=H0 l s):IC l s=if checkAtom l a=0∧A0 l a=s then some a.er else none:=by
 split
 ·rename_i hc;have ao:=Bc hp hc.1;unfold IC;rw[←hc.2,Hc nk ao];simp only;rw[BQ,EI,if_pos ⟨hc.1,rfl⟩]
 ·rename_i hc;unfold IC;cases hr:Ev l s with
  |none=>rfl
  |some b=>
   simp only;split
   ·rename_i hb;exfalso;have bo:=Bc hp hb.1;have e2:a.er=b.er:=by rw[he,←hb.2,He nk bo]
    exact hc ⟨by rw[←BQ,e2,BQ,hb.1],by rw[←EI,e2,EI,hb.2]⟩
   ·rfl
theorem N3{l:List Prd}{s:Bs}{a:Atm}(h:IC l s=some a):Ev l s=some a∧checkAtom l a=0∧A0 l a=s:=by
 unfold IC at h;split at h
 ·cases h
 ·rename_i b hb;split at h
  ·rename_i hc;injection h with h;subst h;exact⟨hb,hc⟩
  ·cases h
def Dt(l:List Int):Bs:=joinT [32] (l.map fun x=>DI x.toNat)
def EY(e:Nat):Bs:=[101,114,114,111,114,32]++DI e
def N4:Bs:=[109,111,100,101,108]
def Kf:Bs:=[115,116,114,97,116,97]
def Kg:Bs:=[114,111,117,110,100,115]
def N5:Bs:=[115,116,101,112,115]
def wAsk:Bs:=[97,115,107]
def wDrop:Bs:=[100,114,111,112]
def FO(l:List Prd)(fs:List Fct):Bs:=if fs=[] then [110,111,110,101] else joinT [59,32] (fs.map (CF l))
def Ot(P:Prg)(s o:Bs):Prop:=
 match IC P.preds.xs s with
 |none=>o=EY 1
 |some a=>∃f rs,GB P (Ak P) (Ds (Ak P)) f rs∧o=FO P.preds.xs (f.filter (Ia a))
def HI(P:Prg)(s o:Bs)(Q:Prg):Prop:=
 match Lv s with
 |none=>o=EY 1∧Q.er=P.er
 |some n=>if n<P.rules.xs.length then o=[111,107]∧Q.er=mkP P.preds.xs ((P.rules.xs.map Rul.er).eraseIdx n) else o=EY 7∧Q.er=P.er
def opR(P:Prg)(op rest o:Bs)(Q:Prg):Prop:=
 if op=wAsk then Ot P rest o∧Q.er=P.er else if op=wDrop then HI P rest o Q else o=EY 1∧Q.er=P.er
def CR(P:Prg)(s o:Bs)(Q:Prg):Prop:=
 if s=N4 then Q.er=P.er∧∃f rs,GB P (Ak P) (Ds (Ak P)) f rs∧o=Dt [(f.length:Int)]
 else if s=Kf then Q.er=P.er∧o=Dt (Ak P)
 else if s=Kg then Q.er=P.er∧∃f rs,GB P (Ak P) (Ds (Ak P)) f rs∧o=Dt rs
 else if s=N5 then Q.er=P.er∧∃f l g,∃c:Nat,Lu P (Ak P) (Ds (Ak P)) (f,l)∧Oq P (Ak P) (Ds (Ak P)) g c∧o=Dt [(l.length:Int),(c:Int)]
 else if (Lib.cut s [32]).2.2=true then opR P (Lib.cut s [32]).1 (Lib.cut s [32]).2.1 o Q
 else o=EY 1∧Q.er=P.er
theorem Us{P P':Prg}(he:P.er=P'.er){s o o':Bs}(h:Ot P s o)(h':Ot P' s o'):o=o':=by
 unfold Ot at h h';rw[←QQ he] at h';cases hc:IC P.preds.xs s with
 |none=>rw[hc] at h h';exact h.trans h'.symm
 |some a=>
  rw[hc] at h h';obtain⟨f,rs,m,rfl⟩:=h;obtain⟨f',rs',m',rfl⟩:=h';rw[(MA he m m').1]
theorem RF{P P' Q Q':Prg}(he:P.er=P'.er){s o o':Bs}(h:HI P s o Q)(h':HI P' s o' Q'):o=o'∧Q.er=Q'.er:=by
 unfold HI at h h';cases hc:Lv s with
 |none=>rw[hc] at h h';exact⟨h.1.trans h'.1.symm,by rw[h.2,h'.2,he]⟩
 |some n=>
  rw[hc] at h h';simp only at h h';rw[←ZZ he,←QP he,←QQ he] at h';split at h
  ·rename_i hn;rw[if_pos hn] at h';exact⟨h.1.trans h'.1.symm,h.2.trans h'.2.symm⟩
  ·rename_i hn;rw[if_neg hn] at h';exact⟨h.1.trans h'.1.symm,by rw[h.2,h'.2,he]⟩
theorem Ws{P P' Q Q':Prg}(he:P.er=P'.er){a s o o':Bs}(h:opR P a s o Q)(h':opR P' a s o' Q'):o=o'∧Q.er=Q'.er:=by
 unfold opR at h h';split at h
 ·rename_i h1;rw[if_pos h1] at h';exact⟨Us he h.1 h'.1,by rw[h.2,h'.2,he]⟩
 ·rename_i h1;rw[if_neg h1] at h';split at h
  ·rename_i h2;rw[if_pos h2] at h';exact RF he h h'
  ·rename_i h2;rw[if_neg h2] at h';exact⟨h.1.trans h'.1.symm,by rw[h.2,h'.2,he]⟩
theorem N6{P P' Q Q':Prg}(he:P.er=P'.er){s o o':Bs}(h:CR P s o Q)(h':CR P' s o' Q'):o=o'∧Q.er=Q'.er:=by
 unfold CR at h h';split at h
 ·rename_i h1;rw[if_pos h1] at h';obtain⟨e,f,rs,m,rfl⟩:=h;obtain⟨e',f',rs',m',rfl⟩:=h';rw[(MA he m m').1];exact⟨rfl,by rw[e,e',he]⟩
 rename_i h1;rw[if_neg h1] at h';split at h
 ·rename_i h1;rw[if_pos h1] at h';exact⟨by rw[h.2,h'.2,Ga he],by rw[h.1,h'.1,he]⟩
 rename_i h1;rw[if_neg h1] at h';split at h
 ·rename_i h1;rw[if_pos h1] at h';obtain⟨e,f,rs,m,rfl⟩:=h;obtain⟨e',f',rs',m',rfl⟩:=h';rw[(MA he m m').2];exact⟨rfl,by rw[e,e',he]⟩
 rename_i h1;rw[if_neg h1] at h';split at h
 ·rename_i h1;rw[if_pos h1] at h';obtain⟨e,f,l,g,c,t,m,rfl⟩:=h;obtain⟨e',f',l',g',c',t',m',rfl⟩:=h';have h2:=Wm he t t';simp only[Prod.mk.injEq] at h2;rw[h2.2,Wq he m m'];exact⟨rfl,by rw[e,e',he]⟩
 rename_i h1;rw[if_neg h1] at h';split at h
 ·rename_i h1;rw[if_pos h1] at h';exact Ws he h h'
 ·rename_i h1;rw[if_neg h1] at h';exact⟨h.1.trans h'.1.symm,by rw[h.2,h'.2,he]⟩
theorem HJ{sep:Bs}{m:Nat}:∀{l:List Bs},(∀x∈l,x.length≤m)→(joinT sep l).length≤l.length*(m+sep.length)
 |[],_=>by simp[joinT]
 |[x],h=>by have:=h x (by simp);simp only[joinT,Ae6,Afc];omega
 |x::y::r,h=>by
  have h1:=h x (by simp);have h2:=HJ (sep:=sep) (l:=y::r) fun z hz=>h z (Ae8 _ hz);rw[joinT];simp only[Ae2,Ae6] at h2 ⊢;rw[AfP _ 1,Ahi];omega
theorem EJ{l:List Int}(h:∀x∈l,x<18446744073709551616):(Dt l).length≤l.length*21:=by
 unfold Dt;have:=HJ (sep:=[32]) (m:=20) (l:=l.map fun x=>DI x.toNat) fun x hx=>by
  obtain⟨y,hy,rfl⟩:=AfE.1 hx;exact I9 (by have:=h y hy;omega)
 simpa using this
theorem HK{e:Nat}(h:e<10):(EY e).length=7:=by unfold EY;rw[EG h];rfl
section
variable {P:Prg}(hc:Ac P=0)
include hc
theorem Lz{fs:List Fct}(ok:FOk P.preds.xs fs):(FO P.preds.xs fs).length≤4096:=by
 unfold FO;split
 ·simp
 ·have:=HJ (sep:=[59,32]) (m:=21) (l:=fs.map (CF P.preds.xs)) fun x hx=>by
   obtain⟨y,hy,rfl⟩:=AfE.1 hx;exact J3 hc (ZL ok hy)
  have h1:=ok.aa6;simp only[Afw,Ae6,Afc] at this;omega
theorem Ie:Ds (Ak P)≤6∧(Ak P).length≤5∧∀x∈Ak P,0≤x∧x≤5:=by
 have hL:=BC hc;have hb:=CH hc hL;have h1:=CG hb;obtain⟨n5,_⟩:=AB hc;exact⟨by unfold Ds;omega,by rw[hL.sol.len];omega,hb⟩
theorem QS{Q:Prg}{s o:Bs}(h:CR P s o Q):o.length≤4096:=by
 obtain⟨n6,s5,hb⟩:=Ie hc;unfold CR at h;split at h
 ·obtain⟨_,f,rs,m,rfl⟩:=h;have:=(EX hc m).aa6;have:=EJ (l:=[(f.length:Int)]) fun x hx=>by rw[Afl] at hx;omega
  simp only[Ae6,Afc] at this;omega
 split at h
 ·rw[h.2];have:=EJ (l:=Ak P) fun x hx=>by have:=hb x hx;omega
  omega
 split at h
 ·obtain⟨_,f,rs,m,rfl⟩:=h;have hl:=m.len;have:=EJ (l:=rs) fun x hx=>by have:=(Gh hc m).2 x hx;omega
  omega
 split at h
 ·obtain⟨_,f,l,g,c,t,m,rfl⟩:=h;have hm:=(Gj hc (BC hc).sol m).2;by_cases hl:l.length<18446744073709551616
  ·have:=EJ (l:=[(l.length:Int),(c:Int)]) fun x hx=>by
    simp only[Afq,Af8,or_false] at hx;omega
   simp only[Ae6,Afc] at this;omega
  ·exfalso;have:l.length≤2000:=Lw hc t;omega
 split at h
 ·unfold opR at h;split at h
  ·unfold Ot at h;obtain⟨h,_⟩:=h;split at h
   ·rw[h,HK (by decide)];omega
   ·obtain⟨f,rs,m,rfl⟩:=h;exact Lz hc (FL (EX hc m) _).1
  ·split at h
   ·unfold HI at h;split at h
    ·rw[h.1,HK (by decide)];omega
    ·split at h
     ·rw[h.1];simp
     ·rw[h.1,HK (by decide)];omega
   ·rw[h.1,HK (by decide)];omega
 ·rw[h.1,HK (by decide)];omega
end
def O7(P0:Prg)(L:List Bs):Nat→Bs→Prg→Prop
 |0,o,P=>o=[]∧P.er=P0.er
 |k+1,o,Q=>∃o0 P o1,O7 P0 L k o0 P∧CR P (L.getD k []) o1 Q∧o=o0++(o1++[10])
theorem O7.uniq{P0 P1:Prg}(he:P0.er=P1.er){L:List Bs}:∀{k:Nat} {o o':Bs} {P P':Prg},O7 P0 L k o P→O7 P1 L k o' P'→o=o'∧P.er=P'.er
 |0,_,_,_,_,⟨h1,h2⟩,⟨h3,h4⟩=>⟨h1.trans h3.symm,by rw[h2,h4,he]⟩
 |k+1,_,_,_,_,⟨o0,P,o1,a,b,c⟩,⟨o0',P',o1',a',b',c'⟩=>by
  obtain⟨e1,e2⟩:=O7.uniq he a a';obtain⟨e3,e4⟩:=N6 e2 b b';exact⟨by rw[c,c',e1,e3],e4⟩
end
section
def HL(n:Nat):ByteArray:=if n<10 then chT (48+(n % 10:Nat)) else chT (48+(n / 10 % 10:Nat))++chT (48+(n % 10:Nat))
theorem Cp(n:Nat):(HL n).size≤2:=by
 unfold HL;split
 ·rw[IF];omega
 ·rw[Afb,IF,IF];omega
theorem Ut(n:Nat):(n:Int).tmod 10=(n % 10:Nat):=by
 rw[Int.tmod_eq_emod_of_nonneg (by omega)];omega
theorem XE(n:Nat):(n:Int).tdiv 10=(n / 10:Nat):=by
 rw[Int.tdiv_eq_ediv_of_nonneg (by omega)];omega
theorem N7(B:Aq)(hB:B.ok)(n:Nat)(hn:n<10):Fn prog 45 [.int .i64 n] B (fun v _=>v=.string (HL n)):=by
 have e10:=Ut n;obtain⟨c,hc⟩:∃c:UInt8,c=UInt8.ofNat (48+((n % 10:Nat):Int)).toNat:=⟨_,rfl⟩;have hb:(c.toNat:Int)=48+((n % 10:Nat):Int):=by rw[hc];exact LL (by omega) (by omega)
 have hd:HL n=⟨#[c]⟩:=by unfold HL chT;rw[if_pos hn,hc]
 refine Fo hB func45 rfl ntmps45 fun e I=>Sr<|At0 Ag<|Abh<|Sr<|Ai Mv<|Ai (AdR rfl rfl (by omega))<|Ai (Dd rfl rfl)<|AbB (v:=.int .u8 (c.toNat:Int)) ((AcV (by rw[Ait];rfl) AiC (Jg (by omega) (by omega)) rfl).is (by rw[hb,e10]))<|Abj (AbY (xs:=[c]) (enc:=Xg) I AiA sizeOf5 zeroValue5 rfl (Nb rfl) rfl rfl (by decide) (fun _=>rfl) fun b8 h8 w I le8 sl8=>At0 (AdG I AiA AiC Ah9 rfl sl8)<|At0 Ag<|Abh<|Abi<|Sr<|Ai Mv<|AT (Abs (AbC rfl rfl) ((by omega)))<|Abh<|Abw rfl<|Sr<|At0 Mv<|At0 Ag<|Abh<|Wr ?_);exact Rm (v:=.string _) rfl rfl I (by rw[hd];rfl)
theorem DJ(B:Aq)(hB:B.ok)(n:Nat)(hn:n<100):Fn prog 45 [.int .i64 n] B (fun v _=>v=.string (HL n)):=by
 by_cases h10:n<10
 ·exact N7 B hB n h10
 have e10:=Ut n;have ed:=XE n;obtain⟨c,hc⟩:∃c:UInt8,c=UInt8.ofNat (48+((n % 10:Nat):Int)).toNat:=⟨_,rfl⟩;have hb:(c.toNat:Int)=48+((n % 10:Nat):Int):=by rw[hc];exact LL (by omega) (by omega)
 have hd:HL n=HL (n / 10)++⟨#[c]⟩:=by
  have:HL (n / 10)=chT (48+(n / 10 % 10:Nat)):=by unfold HL;rw[if_pos (by omega)]
  rw[this];unfold HL;rw[if_neg h10,hc];rfl
 have hs:=Cp (n / 10);refine Fo hB func45 rfl ntmps45 fun e I=>Sr<|At0 Ag<|Abh<|Sr<|Ai Mv<|Ai (AdR rfl rfl (by omega))<|Ai (Dd rfl rfl)<|AbB (v:=.int .u8 (c.toNat:Int)) ((AcV (by rw[Ait];rfl) AiC (Jg (by omega) (by omega)) rfl).is (by rw[hb,e10]))<|Abj (AbY (xs:=[c]) (enc:=Xg) I AiA sizeOf5 zeroValue5 rfl (Nb rfl) rfl rfl (by decide) (fun _=>rfl) fun b8 h8 w I le8 sl8=>At0 (AdG I AiA AiC Ah9 rfl sl8)<|At0 Ag<|Abh<|Abi<|Sr<|Ai Mv<|AF (Abt (AbC rfl rfl) ((by omega)))<|Abh<|Abq rfl<|Abk<|Sr<|Ai Mv<|Ai (Aeu rfl rfl (by decide) ⟨by omega,by omega⟩)<|Abj (Abm I call45 (ed▸N7 _ I.j6 (n / 10) (by omega)) rfl fun w I=>At0 Mv<|At0 (AbP rfl rfl (by show(HL (n / 10)).size+1≤_;omega))<|At0 Ag<|Abh<|Wr ?_));exact Rm (v:=.string _) rfl rfl I (by rw[hd];rfl)
def KL(t:Trm):ByteArray:=if t.var=true then chT (65+t.n) else HL t.n.toNat
def Fg(l:List Prd)(a:Atm):Nat→ByteArray
 |0=>(Al l a.pred).name
 |k+1=>(Fg l a k++(if k=0 then ⟨#[40]⟩ else ⟨#[44]⟩))++KL (a.args.xs.getD k default)
def HM(l:List Prd)(a:Atm):ByteArray:=if 0<a.args.xs.length then Fg l a a.args.xs.length++⟨#[41]⟩ else Fg l a a.args.xs.length
theorem RG(t:Trm):(KL t).size≤2:=by
 unfold KL;split
 ·rw[IF];omega
 ·exact Cp _
theorem Ig{l:List Prd}{a:Atm}:∀k,(Fg l a k).size≤(Al l a.pred).name.size+3*k
 |0=>Afg _
 |k+1=>by
  have ih:=Ig (l:=l) (a:=a) k;have h2:=RG (a.args.xs.getD k default);rw[Fg,Afb,Afb];split
  ·have:ByteArray.size ⟨#[40]⟩=1:=rfl;omega
  ·have:ByteArray.size ⟨#[44]⟩=1:=rfl;omega
theorem Gk{l:List Prd}{a:Atm}(h:a.args.xs.length≤2):(HM l a).size≤(Al l a.pred).name.size+7:=by
 have:=Ig (l:=l) (a:=a) a.args.xs.length;unfold HM;split
 ·rw[Afb];have:ByteArray.size ⟨#[41]⟩=1:=rfl;omega
 ·omega
theorem EZ(B:Aq)(hB:B.ok)(l:Sl Prd)(hl:HQ l B.h)(a:Atm)(ha:a.In B.h)(ao:AOk l.xs a)(hnm:(Al l.xs a.pred).name.size≤140737488355328):Fn prog 46 [l.val,a.val] B (fun v _=>v=.string (HM l.xs a)):=by
 have h2:=ao.len;have Ep:=hl.el.el (Cs ao.pred.1 ao.pred.2);refine Fo hB func46 rfl ntmps46 fun e I=>Sr<|Abj (O.box (v:=.agg #[_,_]) I rfl rfl fun b3 w I=>At0 Ag<|Abh<|Sr<|As0 Mv<|Ap (Abu AW rfl)<|Ai (Ld I An 0 0 1 rfl rfl rfl)<|Ap (AbJ Ep Aia Aim rfl rfl ao.pred.1 rfl)<|Ap (Abu Dk rfl)<|At0 (Abn HW rfl (I.rd (Ep.rd.part 0 1)) rfl rfl)<|At0 Ag<|Abh<|Abi<|Sr<|Ai Ag<|Abh<|WP.block ?_);refine Abx (σ:=Nat×Ae) (fun s=>[(0,l.val),(3,Pt b3),(5,.string (Fg l.xs a s.1)),(6,.int .i64 s.1)])
  (fun s w=>Inv B s.2 [box b3 a.enc 61] w∧s.1≤a.args.xs.length∧B.h.le s.2) (fun s=>a.args.xs.length-s.1)
  ⟨(0,B.h),⟨rfl,rfl,rfl,rfl,trivial⟩,I,Afa _,Ae.le.refl _⟩ ?_
 rintro⟨k,hh⟩ e w ⟨I,hk,gl⟩;dsimp only at I hk gl ⊢;have hks:=Ig (l:=l.xs) (a:=a) k;refine Abi<|Sr<|Ai Mv<|Ap (Abr Bb rfl)<|As0 (Ld I CN 0 1 1 rfl rfl rfl)<|Ai (AbA Aid rfl)<|Ad (AbC rfl rfl)<|Abh ?_;refine Abl rfl (fun h3=>?_) (fun h3=>?_)
 ·have hk':k<a.args.xs.length:=by omega
  have E:=Sl.Is.at (Atm.In.le ha gl) hk';obtain⟨t,ht⟩:∃t,a.args.xs[k]=t:=⟨_,rfl⟩;have htm:t∈a.args.xs:=ht▸Ae5 hk';have hgd:a.args.xs.getD k default=t:=by rw[Ae3,Ae4 hk',ht];rfl
  rw[ht] at E;obtain⟨sep,hsep⟩:∃sep:ByteArray,sep=if k=0 then ⟨#[40]⟩ else ⟨#[44]⟩:=⟨_,rfl⟩;have hss:sep.size=1:=by rw[hsep];split<;>rfl
  have hnx:Fg l.xs a (k+1)=(Fg l.xs a k++sep)++KL t:=by rw[Fg,hgd,hsep]
  refine Abk<|Abi<|WP.block<|Abi<|Sr<|Ai Mv<|Ad (AbI rfl rfl)<|Abh ?_;refine Ack (σ:=Unit) (fun _=>[(0,l.val),(3,Pt b3),(5,.string (Fg l.xs a k++sep)),(6,.int .i64 k)]) (fun _ w=>Inv B hh [box b3 a.enc 61] w) ?_ ?_
  ·refine Abl rfl (fun h5=>?_) (fun h5=>?_)
   ·have h0:k=0:=by omega
    refine Abg<|At0 Mv<|At0 (AbP rfl rfl (by show(Fg l.xs a k).size+1≤_;omega))<|At0 Ag<|Abh ?_;exact⟨(),⟨rfl,rfl,by rw[hsep,if_pos h0];rfl,rfl,trivial⟩,I⟩
   have h0:¬k=0:=by omega
   refine Abg<|At0 Mv<|At0 (AbP rfl rfl (by show(Fg l.xs a k).size+1≤_;omega))<|At0 Ag<|Abh ?_;exact⟨(),⟨rfl,rfl,by rw[hsep,if_neg h0];rfl,rfl,trivial⟩,I⟩
  rintro _ e w I;have hks2:(Fg l.xs a k++sep).size≤(Al l.xs a.pred).name.size+3*k+1:=by rw[Afb];omega
  refine Sr<|Ap (Abr Bb rfl)<|As0 (Ld I CN 0 1 1 rfl rfl rfl)<|Ai Mv<|Ap (Ix E Aid Aik rfl rfl)<|Ap (Abu AK rfl)<|Ab (Abn Br rfl (I.rd (E.rd.part 0 1)) rfl rfl)<|Abh ?_;refine AbG rfl (fun h8=>?_) (fun h8=>?_)
  ·have hv:t.var=true:=h8;obtain⟨n0,n3⟩:=ao.var htm hv;obtain⟨c,hc⟩:∃c:UInt8,c=UInt8.ofNat (65+t.n).toNat:=⟨_,rfl⟩;have hb:(c.toNat:Int)=65+t.n:=by rw[hc];exact LL (by omega) (by omega)
   have hT:KL t=⟨#[c]⟩:=by unfold KL chT;rw[if_pos hv,hc]
   refine Abg<|At0 Mv<|Ap (Abr Bb rfl)<|As0 (Ld I CN 0 1 1 rfl rfl rfl)<|Ai Mv<|Ap (Ix E Aid Aik rfl rfl)<|Ap (Abr AI rfl)<|Ai (Abn An rfl (I.rd (E.rd.part 1 1)) rfl rfl)<|Ai (Dd rfl rfl)<|AbB (v:=.int .u8 (c.toNat:Int)) ((AcV (by rw[Ait];rfl) AiC (Jg (by omega) (by omega)) rfl).is (by rw[hb]))<|Abj (AbY (xs:=[c]) (enc:=Xg) I AiA sizeOf5 zeroValue5 rfl (Nb rfl) rfl rfl (by decide) (fun _=>rfl) fun b41 h41 w I le41 sl41=>At0 (AdG I AiA AiC Ah9 rfl sl41)<|At0 (AbP rfl rfl (by show(Fg l.xs a k++sep).size+1≤_;omega))<|At0 Ag<|Abh<|Abg<|Ai Mv<|Ai (Dd rfl rfl)<|Ai Ag<|Abh ?_);exact⟨(k+1,h41),⟨⟨rfl,rfl,by rw[hnx,hT];rfl,rfl,trivial⟩,I,by dsimp only;omega,gl.trans le41⟩,by dsimp only;omega⟩
  ·have hv:t.var=false:=by simpa using h8
   have hcn:=Jr ao.err htm hv;obtain⟨n,hn⟩:∃n:Nat,t.n=n:=⟨t.n.toNat,by omega⟩;have hT:KL t=HL n:=by unfold KL;rw[if_neg (by rw[hv];decide),hn];rfl
   have hds:=Cp n;refine Abg<|At0 Mv<|Ap (Abr Bb rfl)<|As0 (Ld I CN 0 1 1 rfl rfl rfl)<|Ai Mv<|Ap (Ix E Aid Aik rfl rfl)<|Ap (Abr AI rfl)<|Ai (Abn An rfl (I.rd (E.rd.part 1 1)) rfl rfl)<|Abj (Abm I call45 (hn▸DJ _ I.j6 n (by omega)) rfl fun w I=>At0 (AbP rfl rfl (by omega))<|At0 Ag<|Abh<|Abg<|Ai Mv<|Ai (Dd rfl rfl)<|Ai Ag<|Abh ?_);exact⟨(k+1,hh),⟨⟨rfl,rfl,by rw[hnx,hT];rfl,rfl,trivial⟩,I,by dsimp only;omega,gl⟩,by dsimp only;omega⟩
 obtain rfl:k=a.args.xs.length:=by omega
 refine Abz<|Abi<|Sr<|Ap (Abr Bb rfl)<|As0 (Ld I CN 0 1 1 rfl rfl rfl)<|Ai (AbA Aid rfl)<|Ad (AbL rfl rfl)<|Abh ?_;refine Abl rfl (fun h11=>?_) (fun h11=>?_)
 ·refine Abg<|At0 Mv<|At0 (AbP rfl rfl (by show(Fg l.xs a a.args.xs.length).size+1≤_;omega))<|At0 Ag<|Abh<|Sr<|At0 Mv<|At0 Ag<|Abh<|Wr ?_;exact Rm (v:=.string _) rfl rfl I (by unfold HM;rw[if_pos (by omega)];rfl)
 ·refine Abk<|Sr<|At0 Mv<|At0 Ag<|Abh<|Wr ?_;exact Rm (v:=.string _) rfl rfl I (by unfold HM;rw[if_neg (by omega)];rfl)
end
section
def prS(s:ByteArray)(x:Prd):ByteArray:=((((((s++⟨#[112,114,101,100,32]⟩)++x.name)++⟨#[32]⟩)++HL x.arity.toNat)++⟨#[32]⟩)++HL x.kind.toNat)++⟨#[10]⟩
def prK(l:List Prd):Nat→ByteArray
 |0=>⟨#[]⟩
 |k+1=>prS (prK l k) (l.getD k default)
def bdS(l:List Prd)(k:Nat)(s:ByteArray)(x:Ltl):ByteArray:=
 (if x.neg=true then (s++(if k=0 then ⟨#[32,58,45,32]⟩ else ⟨#[44,32]⟩))++⟨#[33]⟩ else s++(if k=0 then ⟨#[32,58,45,32]⟩ else ⟨#[44,32]⟩))++HM l x.atom
def bdK(l:List Prd)(b:List Ltl)(s:ByteArray):Nat→ByteArray
 |0=>s
 |k+1=>bdS l k (bdK l b s k) (b.getD k default)
def Wt(s:ByteArray)(r:Rul):ByteArray:=if 0≤r.src then ((s++⟨#[35]⟩)++HL r.src.toNat)++⟨#[43]⟩ else s
def Wu(l:List Prd)(s:ByteArray)(r:Rul):ByteArray:=if (Al l r.head.pred).kind≠0 then Wt (s++⟨#[32,61,32]⟩) r++HL r.n.toNat else s
def ruS(l:List Prd)(s:ByteArray)(r:Rul):ByteArray:=bdK l r.body.xs (Wu l (s++HM l r.head) r) r.body.xs.length++⟨#[46,10]⟩
def ruK(l:List Prd)(rs:List Rul):Nat→ByteArray
 |0=>prK l l.length
 |k+1=>ruS l (ruK l rs k) (rs.getD k default)
def YN(p:Prg):ByteArray:=ruK p.preds.xs p.rules.xs p.rules.xs.length
theorem Wv{s:ByteArray}{x:Prd}:(prS s x).size≤s.size+x.name.size+12:=by
 have h1:=Cp x.arity.toNat;have h2:=Cp x.kind.toNat;have e1:ByteArray.size ⟨#[112,114,101,100,32]⟩=5:=rfl;have e2:ByteArray.size ⟨#[32]⟩=1:=rfl;have e3:ByteArray.size ⟨#[10]⟩=1:=rfl;unfold prS;simp only[Afb];omega
section
variable {l:List Prd}{X:Nat}(hX:∀i:Int,0≤i→i<l.length→(Al l i).name.size≤X)
include hX
theorem MB:∀{k:Nat},k≤l.length→(prK l k).size≤k*(X+12)
 |0,_=>Afa _
 |k+1,hk=>by
  have ih:=MB (k:=k) (by omega);have h1:=Wv (s:=prK l k) (x:=l.getD k default);have h2:=hX k (by omega) (by omega);have e:(Al l (k:Int))=l.getD k default:=by unfold Al;rw[Afs]
  rw[e] at h2;rw[prK,AfP,Ahi];omega
theorem Ww{k:Nat}{s:ByteArray}{x:Ltl}(ao:AOk l x.atom):(bdS l k s x).size≤s.size+X+12:=by
 have h1:=Gk (l:=l) ao.len;have h2:=hX _ ao.pred.1 ao.pred.2;have hs:ByteArray.size (if k=0 then ⟨#[32,58,45,32]⟩ else ⟨#[44,32]⟩)≤4:=by
  split
  ·exact Afg 4
  ·exact(by decide:2≤4)
 have e3:ByteArray.size ⟨#[33]⟩=1:=rfl;unfold bdS;rw[Afb];split
 ·rw[Afb,Afb];omega
 ·rw[Afb];omega
theorem MC{b:List Ltl}{s:ByteArray}(hb:∀x∈b,AOk l x.atom):∀{k:Nat},k≤b.length→(bdK l b s k).size≤s.size+k*(X+12)
 |0,_=>by rw[bdK];omega
 |k+1,hk=>by
  have ih:=MC (s:=s) hb (k:=k) (by omega);have hm:b.getD k default∈b:=by rw[Ae3,Ae4 (by omega)];exact Ae5 _
  have h1:=Ww hX (k:=k) (s:=bdK l b s k) (hb _ hm);rw[bdK,AfP,Ahi];omega
omit hX in
theorem N8{s:ByteArray}{r:Rul}:(Wt s r).size≤s.size+4:=by
 have h1:=Cp r.src.toNat;have e1:ByteArray.size ⟨#[35]⟩=1:=rfl;have e2:ByteArray.size ⟨#[43]⟩=1:=rfl;unfold Wt;split
 ·simp only[Afb];omega
 ·omega
omit hX in
theorem N9{s:ByteArray}{r:Rul}:(Wu l s r).size≤s.size+9:=by
 have h1:=Cp r.n.toNat;have h2:=N8 (s:=s++⟨#[32,61,32]⟩) (r:=r);have e1:ByteArray.size ⟨#[32,61,32]⟩=3:=rfl;rw[Afb] at h2;unfold Wu;split
 ·rw[Afb];omega
 ·omega
theorem Wx{s:ByteArray}{r:Rul}(ok:ROk l r):(ruS l s r).size≤s.size+4*(X+20):=by
 have ao:=Bc ok.preds ok.head;have h1:=Gk (l:=l) ao.len;have h2:=hX _ ao.pred.1 ao.pred.2;have h3:=N9 (l:=l) (s:=s++HM l r.head) (r:=r);have h4:=MC hX (b:=r.body.xs) (s:=Wu l (s++HM l r.head) r) (fun x hx=>Bc ok.preds (ok.body x hx)) (Afg _);have h5:=AfA (X+12) ok.len;have e1:ByteArray.size ⟨#[46,10]⟩=2:=rfl;rw[Afb] at h3;unfold ruS;rw[Afb];omega
theorem QU{rs:List Rul}(rk:∀r∈rs,ROk l r):∀{k:Nat},k≤rs.length→(ruK l rs k).size≤l.length*(X+12)+k*(4*(X+20))
 |0,_=>by rw[ruK];have:=MB hX (Afg l.length);omega
 |k+1,hk=>by
  have ih:=QU rk (k:=k) (by omega);have hm:rs.getD k default∈rs:=by rw[Ae3,Ae4 (by omega)];exact Ae5 _
  have h1:=Wx hX (s:=ruK l rs k) (rk _ hm);rw[ruK,AfP,Ahi];omega
end
theorem O8(B:Aq)(hB:B.ok)(p:Prg)(hp:p.In B.h)(hnm:p.Nm)(hpr:Ac p=0):Fn prog 17 [p.val] B (fun v _=>v=.string (YN p)):=by
 obtain⟨k1,k2,k3,_,_⟩:=AB hpr;have rk:=BA hpr;have hpf:=Cd hpr;have hin:=SV hpr;have hX:∀i:Int,0≤i→i<p.preds.xs.length→(Al p.preds.xs i).name.size≤140737488355328:=fun i h0 h1=>hnm _ (Ba ⟨h0,h1⟩);have hsp:=hp.preds.small;have hsr:=hp.rules.is.small;refine Fo hB func17 rfl ntmps17 fun e I=>Sr<|Abj (O.box (v:=.agg #[_,_]) I rfl rfl fun b1 w I=>At0 Ag<|Abh<|Sr<|At0 Ag<|Abh<|Abi<|Sr<|Ai Ag<|Abh<|WP.block ?_);refine Abx (σ:=Nat) (fun k=>[(1,Pt b1),(3,.string (prK p.preds.xs k)),(4,.int .i64 k)])
  (fun k w=>Inv B B.h [box b1 p.enc 25] w∧k≤p.preds.xs.length) (fun k=>p.preds.xs.length-k)
  ⟨0,⟨rfl,rfl,rfl,trivial⟩,I,Afa _⟩ ?_
 rintro k e w ⟨I,hk⟩;have hz:=MB hX hk;refine Abi<|Sr<|Ai Mv<|Ap (Abu At rfl)<|As0 (Ld I A7 0 0 1 rfl rfl rfl)<|Ai (AbA Aia rfl)<|Ad (AbC rfl rfl)<|Abh ?_;refine Abl rfl (fun h3=>?_) (fun h3=>?_)
 ·have hk':k<p.preds.xs.length:=by omega
  have E:=hp.preds.at hk';obtain⟨x,hx⟩:∃x,p.preds.xs[k]=x:=⟨_,rfl⟩;have hgd:p.preds.xs.getD k default=x:=by rw[Ae3,Ae4 hk',hx];rfl
  have hxm:x∈p.preds.xs:=hx▸Ae5 hk';have hf:=hpf x hxm;have hxn:=hnm x hxm;unfold AE at hf;obtain⟨a0,a2,d0,d3⟩:=of_decide_eq_true hf;obtain⟨a,ha⟩:∃a:Nat,x.arity=a:=⟨x.arity.toNat,by omega⟩;obtain⟨d,hd⟩:∃d:Nat,x.kind=d:=⟨x.kind.toNat,by omega⟩;have hda:=Cp a;have hdd:=Cp d;have hnx:prK p.preds.xs (k+1)=((((((prK p.preds.xs k++⟨#[112,114,101,100,32]⟩)++x.name)++⟨#[32]⟩)++HL a)++⟨#[32]⟩)++HL d)++⟨#[10]⟩:=by rw[prK,hgd];unfold prS;rw[ha,hd];rfl
  have z1:(prK p.preds.xs k++⟨#[112,114,101,100,32]⟩).size=(prK p.preds.xs k).size+5:=by rw[Afb];rfl
  have z2:((prK p.preds.xs k++⟨#[112,114,101,100,32]⟩)++x.name).size=(prK p.preds.xs k).size+5+x.name.size:=by rw[Afb,z1]
  have z3:(((prK p.preds.xs k++⟨#[112,114,101,100,32]⟩)++x.name)++⟨#[32]⟩).size=(prK p.preds.xs k).size+5+x.name.size+1:=by rw[Afb,z2];rfl
  have z4:((((prK p.preds.xs k++⟨#[112,114,101,100,32]⟩)++x.name)++⟨#[32]⟩)++HL a).size≤(prK p.preds.xs k).size+8+x.name.size:=by rw[Afb,z3];omega
  have z5:(((((prK p.preds.xs k++⟨#[112,114,101,100,32]⟩)++x.name)++⟨#[32]⟩)++HL a)++⟨#[32]⟩).size≤(prK p.preds.xs k).size+9+x.name.size:=by rw[Afb];show _+1≤_;omega
  have z6:((((((prK p.preds.xs k++⟨#[112,114,101,100,32]⟩)++x.name)++⟨#[32]⟩)++HL a)++⟨#[32]⟩)++HL d).size≤(prK p.preds.xs k).size+11+x.name.size:=by rw[Afb];omega
  have hk5:k*(140737488355328+12)≤5*(140737488355328+12):=AfA _ (by omega);rw[hx] at E;refine Abk<|Abi<|WP.block<|AbD AC I (by kernel_rfl)<|Qt (fun w I=>Mv)<|Qt (fun w I=>AbP rfl rfl (by show _+5≤_;omega))<|Qp (fun w I=>Abu At rfl)<|Qs (fun w I=>Ld I A7 0 0 1 rfl rfl rfl)<|Qi (fun w I=>Mv)<|Qp (fun w I=>Ix E Aia Aim rfl rfl)<|Qp (fun w I=>Abu Dk rfl)<|Qt (fun w I=>Abn HW rfl (I.rd (E.rd.part 0 1)) rfl rfl)<|Qt (fun w I=>AbP rfl rfl (by omega))<|Qt (fun w I=>AbP rfl rfl (by show _+1≤_;omega))<|Qp (fun w I=>Abu At rfl)<|Qs (fun w I=>Ld I A7 0 0 1 rfl rfl rfl)<|Qi (fun w I=>Mv)<|Qp (fun w I=>Ix E Aia Aim rfl rfl)<|Qp (fun w I=>Abr Bp rfl)<|Qi (fun w I=>Abn An rfl (I.rd (E.rd.part 1 1)) rfl rfl)<|Am.c (fun w I=>AbO I call45 (ha▸DJ _ I.j6 a (by omega)) rfl)<|Qt (fun w I=>AbP rfl rfl (by omega))<|Qt (fun w I=>AbP rfl rfl (by show _+1≤_;omega))<|Qp (fun w I=>Abu At rfl)<|Qs (fun w I=>Ld I A7 0 0 1 rfl rfl rfl)<|Qi (fun w I=>Mv)<|Qp (fun w I=>Ix E Aia Aim rfl rfl)<|Qp (fun w I=>Abr A3 rfl)<|Qi (fun w I=>Abn An rfl (I.rd (E.rd.part 2 1)) rfl rfl)<|Am.c (fun w I=>AbO I call45 (hd▸DJ _ I.j6 d (by omega)) rfl)<|Qt (fun w I=>AbP rfl rfl (by omega))<|Qt (fun w I=>AbP rfl rfl (by show _+1≤_;omega))<|Qt (fun w I=>Ag)<|AbH fun w I=>Abg<|Ai Mv<|Ai (Dd rfl rfl)<|Ai Ag<|Abh ?_;exact⟨k+1,⟨⟨rfl,by rw[hnx];rfl,rfl,trivial⟩,I,by omega⟩,by omega⟩
 obtain rfl:k=p.preds.xs.length:=by omega
 refine Abz<|Abi<|Sr<|Ai Ag<|Abh<|WP.block ?_;refine Abx (σ:=Nat) (fun n=>[(1,Pt b1),(3,.string (ruK p.preds.xs p.rules.xs n)),(5,.int .i64 n)])
  (fun n w=>Inv B B.h [box b1 p.enc 25] w∧n≤p.rules.xs.length) (fun n=>p.rules.xs.length-n)
  ⟨0,⟨rfl,rfl,rfl,trivial⟩,I,Afa _⟩ ?_
 rintro n e w ⟨I,hn⟩;have hz:=QU hX rk hn;have hk5:p.preds.xs.length*(140737488355328+12)≤5*(140737488355328+12):=AfA _ k1;have hn8:n*(4*(140737488355328+20))≤8*(4*(140737488355328+20)):=AfA _ (by omega);refine Abi<|Sr<|Ai Mv<|Ap (Abr AU rfl)<|As0 (Ld I Cc 0 1 1 rfl rfl rfl)<|Ai (AbA Aic rfl)<|Ad (AbC rfl rfl)<|Abh ?_;refine Abl rfl (fun h7=>?_) (fun h7=>?_)
 ·have hn':n<p.rules.xs.length:=by omega
  have Er:=hp.rules.is.at hn';have hrm:=Ae5 hn';have ir:=hp.rules.each _ hrm;have ok:=rk _ hrm;have hgd:p.rules.xs.getD n default=p.rules.xs[n]:=by rw[Ae3,Ae4 hn'];rfl
  obtain⟨i0,i1⟩:=hin _ hrm;have Ek:=hp.preds.el.el (Cs i0 i1);obtain⟨r,hr⟩:∃r,p.rules.xs[n]=r:=⟨_,rfl⟩;rw[hr] at Er ir ok hgd i0 i1 Ek;have ah:=Bc ok.preds ok.head;have hb:=fun x hx=>Bc ok.preds (ok.body x hx);have hlen:=ok.len;obtain⟨s0,hs0⟩:∃s,ruK p.preds.xs p.rules.xs n=s:=⟨_,rfl⟩;have hnx:ruK p.preds.xs p.rules.xs (n+1)=ruS p.preds.xs s0 r:=by rw[ruK,hgd,hs0]
  have ha7:=Gk (l:=p.preds.xs) ah.len;have hXh:=hX _ i0 i1;obtain⟨s1,hs1⟩:∃s,s0++HM p.preds.xs r.head=s:=⟨_,rfl⟩;have z1:s1.size=s0.size+(HM p.preds.xs r.head).size:=by rw[←hs1,Afb]
  have hv9:=N9 (l:=p.preds.xs) (s:=s1) (r:=r);obtain⟨s2,hs2⟩:∃s,Wu p.preds.xs s1 r=s:=⟨_,rfl⟩;rw[hs2] at hv9;rw[hs0] at hz;have hru:ruS p.preds.xs s0 r=bdK p.preds.xs r.body.xs s2 r.body.xs.length++⟨#[46,10]⟩:=by unfold ruS;rw[hs1,hs2]
  rw[hs0];refine Abk<|Abi<|WP.block<|Sr<|Ap (Abr AU rfl)<|As0 (Ld I Cc 0 1 1 rfl rfl rfl)<|Ai Mv<|Ap (Ix Er Aic Aiv rfl rfl)<|AbB (v:=.agg #[_,_,_,_,_]) (Abn C0 rfl (I.rd (Er.rd.part 0 5)) rfl rfl)<|Abj (O.alloc I Aip rfl fun b6 w I=>Abj (Ab3 (v:=.agg #[_,_,_,_,_]) I C0 0 rfl rfl rfl rfl rfl rfl (Nb rfl) rfl fun w I=>Abh<|Sr<|At0 Mv<|Ap (Abu At rfl)<|As0 (Ld I A7 1 0 1 rfl rfl rfl)<|Ap (Abu Bw rfl)<|Ax (Ld I AP 0 0 2 rfl rfl rfl)<|Abj (Abm I call46 (EZ _ I.j6 p.preds hp.preds r.head ir.head ah hXh) rfl fun w I=>At0 (AbP rfl rfl (by omega))<|At0 Ag<|Abh ?_)));rw[hs1];refine Abi<|Sr<|Ap (Abu At rfl)<|As0 (Ld I A7 1 0 1 rfl rfl rfl)<|Ap (Abu Bw rfl)<|Ap (Abu AW rfl)<|Ai (Ld I An 0 0 1 rfl rfl rfl)<|Ap (AbJ Ek Aia Aim rfl rfl i0 rfl)<|Ap (Abr A3 rfl)<|Ai (Abn An rfl (I.rd (Ek.rd.part 2 1)) rfl rfl)<|Ad (AbK rfl rfl)<|Abh ?_;refine Ack (σ:=Unit) (fun _=>[(1,Pt b1),(3,.string s2),(5,.int .i64 n),(6,Pt b6)])
   (fun _ w=>Inv B B.h [box b6 r.enc 64,box b1 p.enc 25] w) ?_ ?_
  ·refine Abl rfl (fun h11=>?_) (fun h11=>?_)
   ·obtain⟨m,hm⟩:∃m:Nat,r.n=m:=⟨r.n.toNat,by have:=ok.n;omega⟩;have hm15:=ok.n;have hdm:=Cp m;have hv:s2=Wt (s1++⟨#[32,61,32]⟩) r++HL m:=by rw[←hs2];unfold Wu;rw[if_pos h11,hm];rfl
    have z3:(s1++⟨#[32,61,32]⟩).size=s1.size+3:=by rw[Afb];rfl
    have hsz:=N8 (s:=s1++⟨#[32,61,32]⟩) (r:=r);refine Sr<|At0 Mv<|At0 (AbP rfl rfl (by show _+3≤_;omega))<|At0 Ag<|Abh<|Abi<|Sr<|Ap (Abr AV rfl)<|Ai (Ld I An 0 2 1 rfl rfl rfl)<|Ad (AbZ rfl rfl)<|Abh ?_;refine Abl rfl (fun h13=>?_) (fun h13=>?_)
    ·obtain⟨m2,hm2⟩:∃m:Nat,r.src=m:=⟨r.src.toNat,by omega⟩;have hs3:=ok.src;have hd2:=Cp m2;have hv2:Wt (s1++⟨#[32,61,32]⟩) r=(((s1++⟨#[32,61,32]⟩)++⟨#[35]⟩)++HL m2)++⟨#[43]⟩:=by unfold Wt;rw[if_pos (by omega),hm2];rfl
     have z4:((s1++⟨#[32,61,32]⟩)++⟨#[35]⟩).size=s1.size+4:=by rw[Afb,z3];rfl
     have z5:(((s1++⟨#[32,61,32]⟩)++⟨#[35]⟩)++HL m2).size≤s1.size+6:=by rw[Afb,z4];omega
     rw[hv2] at hsz;refine Abg<|At0 Mv<|At0 (AbP rfl rfl (by show _+1≤_;omega))<|Ap (Abr AV rfl)<|Ai (Ld I An 0 2 1 rfl rfl rfl)<|Abj (Abm I call45 (hm2▸DJ _ I.j6 m2 (by omega)) rfl fun w I=>At0 (AbP rfl rfl (by omega))<|At0 (AbP rfl rfl (by show _+1≤_;omega))<|At0 Ag<|Abh<|Abg<|At0 Mv<|Ap (Abr BJ rfl)<|Ai (Ld I An 0 3 1 rfl rfl rfl)<|Abj (Abm I call45 (hm▸DJ _ I.j6 m (by omega)) rfl fun w I=>At0 (AbP rfl rfl (by omega))<|At0 Ag<|Abh ?_));exact⟨(),⟨rfl,by rw[hv,hv2];rfl,rfl,rfl,trivial⟩,I⟩
    ·have hv2:Wt (s1++⟨#[32,61,32]⟩) r=s1++⟨#[32,61,32]⟩:=by unfold Wt;rw[if_neg (by omega)]
     refine Abk<|Abg<|At0 Mv<|Ap (Abr BJ rfl)<|Ai (Ld I An 0 3 1 rfl rfl rfl)<|Abj (Abm I call45 (hm▸DJ _ I.j6 m (by omega)) rfl fun w I=>At0 (AbP rfl rfl (by omega))<|At0 Ag<|Abh ?_);exact⟨(),⟨rfl,by rw[hv,hv2];rfl,rfl,rfl,trivial⟩,I⟩
   have hv:s2=s1:=by rw[←hs2];unfold Wu;rw[if_neg h11]
   refine Abk ?_;exact⟨(),⟨rfl,by rw[hv];rfl,rfl,rfl,trivial⟩,I⟩
  rintro _ e w I;refine Abi<|Sr<|Ai Ag<|Abh<|WP.block ?_;refine Abx (σ:=Nat) (fun k=>[(1,Pt b1),(3,.string (bdK p.preds.xs r.body.xs s2 k)),(5,.int .i64 n),(6,Pt b6),(7,.int .i64 k)])
   (fun k w=>Inv B B.h [box b6 r.enc 64,box b1 p.enc 25] w∧k≤r.body.xs.length) (fun k=>r.body.xs.length-k)
   ⟨0,⟨rfl,rfl,rfl,rfl,rfl,trivial⟩,I,Afa _⟩ ?_
  rintro k e w ⟨I,hk⟩;have hzb:=MC hX (s:=s2) hb hk;have hk3:k*(140737488355328+12)≤3*(140737488355328+12):=AfA _ (by omega);obtain⟨t0,ht0⟩:∃s,bdK p.preds.xs r.body.xs s2 k=s:=⟨_,rfl⟩;rw[ht0] at hzb;rw[ht0];refine Abi<|Sr<|Ai Mv<|Ap (Abr AG rfl)<|As0 (Ld I Bi 0 4 1 rfl rfl rfl)<|Ai (AbA Aib rfl)<|Ad (AbC rfl rfl)<|Abh ?_;refine Abl rfl (fun h17=>?_) (fun h17=>?_)
  ·have hk':k<r.body.xs.length:=by omega
   have E1:=ir.body.is.at hk';have ib:=ir.body.each _ (Ae5 hk');have hxm:=Ae5 hk';have hgx:r.body.xs.getD k default=r.body.xs[k]:=by rw[Ae3,Ae4 hk'];rfl
   obtain⟨x,hx⟩:∃x,r.body.xs[k]=x:=⟨_,rfl⟩;rw[hx] at E1 ib hxm hgx;have ab:=hb x hxm;have haa:=Gk (l:=p.preds.xs) ab.len;have hXa:=hX _ ab.pred.1 ab.pred.2;obtain⟨sep,hsep⟩:∃sep:ByteArray,sep=if k=0 then ⟨#[32,58,45,32]⟩ else ⟨#[44,32]⟩:=⟨_,rfl⟩;have hss:sep.size≤4:=by
    rw[hsep];split
    ·exact Afg 4
    ·exact(by decide:2≤4)
   have hnk:bdK p.preds.xs r.body.xs s2 (k+1)=(if x.neg=true then (t0++sep)++⟨#[33]⟩ else t0++sep)++HM p.preds.xs x.atom:=by rw[bdK,hgx,ht0];unfold bdS;rw[←hsep]
   have y1:(t0++sep).size≤t0.size+4:=by rw[Afb];omega
   have y2:((t0++sep)++⟨#[33]⟩).size≤t0.size+5:=by rw[Afb];exact Nat.add_le_add_right y1 1
   refine Abk<|Abi<|WP.block<|Abi<|Sr<|Ai Mv<|Ad (AbI rfl rfl)<|Abh ?_;refine Ack (σ:=Unit) (fun _=>[(1,Pt b1),(3,.string (t0++sep)),(5,.int .i64 n),(6,Pt b6),(7,.int .i64 k)])
    (fun _ w=>Inv B B.h [box b6 r.enc 64,box b1 p.enc 25] w) ?_ ?_
   ·refine Abl rfl (fun h19=>?_) (fun h19=>?_)
    ·have h0:k=0:=by omega
     refine Abg<|At0 Mv<|At0 (AbP rfl rfl (by show _+4≤_;omega))<|At0 Ag<|Abh ?_;exact⟨(),⟨rfl,by rw[hsep,if_pos h0];rfl,rfl,rfl,rfl,trivial⟩,I⟩
    have h0:¬k=0:=by omega
    refine Abg<|At0 Mv<|At0 (AbP rfl rfl (by show _+2≤_;omega))<|At0 Ag<|Abh ?_;exact⟨(),⟨rfl,by rw[hsep,if_neg h0];rfl,rfl,rfl,rfl,trivial⟩,I⟩
   rintro _ e w I;refine Abi<|Sr<|Ap (Abr AG rfl)<|As0 (Ld I Bi 0 4 1 rfl rfl rfl)<|Ai Mv<|Ap (Ix E1 Aib Ail rfl rfl)<|Ap (Abu BK rfl)<|Ab (Abn Br rfl (I.rd (E1.rd.part 0 1)) rfl rfl)<|Abh ?_;refine AbG rfl (fun h22=>?_) (fun h22=>?_)
   ·have h22:x.neg=true:=h22;rw[if_pos h22] at hnk;refine Abg<|At0 Mv<|At0 (AbP rfl rfl (by show _+1≤_;omega))<|At0 Ag<|Abh<|AbD AC I (by kernel_rfl)<|Qt (fun w I=>Mv)<|Qp (fun w I=>Abu At rfl)<|Qs (fun w I=>Ld I A7 1 0 1 rfl rfl rfl)<|Qp (fun w I=>Abr AG rfl)<|Qs (fun w I=>Ld I Bi 0 4 1 rfl rfl rfl)<|Qi (fun w I=>Mv)<|Qp (fun w I=>Ix E1 Aib Ail rfl rfl)<|Qp (fun w I=>Abr Bk rfl)<|Qx (fun w I=>Abn AP rfl (I.rd (E1.rd.part 1 2)) rfl rfl)<|Am.c (fun w I=>AbO I call46 (EZ _ I.j6 p.preds hp.preds x.atom ib ab hXa) rfl)<|Qt (fun w I=>AbP rfl rfl (by omega))<|Qt (fun w I=>Ag)<|AbH fun w I=>Abg<|Ai Mv<|Ai (Dd rfl rfl)<|Ai Ag<|Abh ?_;exact⟨k+1,⟨⟨rfl,by rw[hnk];rfl,rfl,rfl,rfl,trivial⟩,I,by omega⟩,by omega⟩
   ·have h22:x.neg=false:=by simpa using h22
    rw[if_neg (by rw[h22];decide)] at hnk;refine Abk<|AbD AC I (by kernel_rfl)<|Qt (fun w I=>Mv)<|Qp (fun w I=>Abu At rfl)<|Qs (fun w I=>Ld I A7 1 0 1 rfl rfl rfl)<|Qp (fun w I=>Abr AG rfl)<|Qs (fun w I=>Ld I Bi 0 4 1 rfl rfl rfl)<|Qi (fun w I=>Mv)<|Qp (fun w I=>Ix E1 Aib Ail rfl rfl)<|Qp (fun w I=>Abr Bk rfl)<|Qx (fun w I=>Abn AP rfl (I.rd (E1.rd.part 1 2)) rfl rfl)<|Am.c (fun w I=>AbO I call46 (EZ _ I.j6 p.preds hp.preds x.atom ib ab hXa) rfl)<|Qt (fun w I=>AbP rfl rfl (by omega))<|Qt (fun w I=>Ag)<|AbH fun w I=>Abg<|Ai Mv<|Ai (Dd rfl rfl)<|Ai Ag<|Abh ?_;exact⟨k+1,⟨⟨rfl,by rw[hnk];rfl,rfl,rfl,rfl,trivial⟩,I,by omega⟩,by omega⟩
  obtain rfl:k=r.body.xs.length:=by omega
  refine Abz<|Abg<|At0 Mv<|At0 (AbP rfl rfl (by show _+2≤_;omega))<|At0 Ag<|Abh<|Abg<|Ai Mv<|Ai (Dd rfl rfl)<|Ai Ag<|Abh ?_;exact⟨n+1,⟨⟨rfl,by rw[hnx,hru,ht0];rfl,rfl,trivial⟩,I.drop,by omega⟩,by omega⟩
 obtain rfl:n=p.rules.xs.length:=by omega
 refine Abz<|Sr<|At0 Mv<|At0 Ag<|Abh<|Wr ?_;exact Rm (v:=.string _) rfl rfl I (rfl)
end
section
structure AlS where
 h:Ae
 o7:Option Nat
structure JAl(B:Aq)(M:List SA)(T:TypeId)(z:List Value)(i7:Nat)(D:Nat→Bool)(s:AlS)(w:World):Prop where
 h7:s.o7.isSome=D i7
 inv:Inv B s.h (pcs s.o7 false z z T++M) w
structure RAl(s s':AlS):Prop where
 h:s.h.le s'.h
 h7:∀b,s.o7=some b→s'.o7=some b
theorem RAl.pre:Pre RAl:=⟨fun _=>⟨Ae.le.refl _,fun _ h=>h⟩,fun _ _ _ h k=>⟨h.h.trans k.h,fun b e=>k.h7 b (h.h7 b e)⟩⟩
def Aao(u:Value)(s:AlS):Prop:=∃b,u=(Pt b)∧s.o7=some b
theorem Aao.mono:Cj RAl Aao:=fun _ _ _ r ⟨b,h1,h2⟩=>⟨b,h1,r.h7 b h2⟩
def Wy(Φ:Sp)(u:Value)(s:AlS):Prop:=Φ u s.h
theorem Wy.mono{Φ:Sp}(hm:Bt Φ):Cj RAl (Wy Φ):=fun _ _ _ r h=>hm _ _ _ r.h h
section
variable {P:Program}{o:Oper}{e:Env}{B:Aq}{M:List SA}{T:TypeId}{z:List Value}{i7 i k:Nat}{D:Nat→Bool}{s:AlS}{w:World}
theorem JAl.base(j:JAl B M T z i7 D s w):Inv B s.h M w:=j.inv.weak (AfJ _ _)
theorem JAl.set(h:i7≠k):∀D s w,JAl B M T z i7 D s w→JAl B M T z i7 (AZ D k) s w:=fun D s w j=>⟨by rw[show AZ D k i7=D i7 by simp[AZ,h]];exact j.h7,j.inv⟩
theorem JAl.know{Φ:Sp}(j:JAl B M T z i7 D s w)(h:i7≠i)(hop:∀N,Inv B s.h N w→Op1 P o e w fun u w'=>∃h',s.h.le h'∧Inv B h' N w'∧Φ u h') :
  Op1 P o e w fun u w'=>∃s',RAl s s'∧JAl B M T z i7 (AZ D i) s' w'∧Wy Φ u s':=
 (hop _ j.inv).mono fun u w' ⟨h',hl,I,hu⟩=>⟨⟨h',s.o7⟩,⟨hl,fun _ e=>e⟩,⟨by rw[show AZ D i i7=D i7 by simp[AZ,h]];exact j.h7,I⟩,hu⟩
end
section
variable {P:Program}{full:Array Oper}{B:Aq}{M:List SA}{T:TypeId}{z:List Value}{i7:Nat}{h0:AlS}{L:List (Nat×Sq AlS)}{rest:List Oper}{e:Env}{K:List (Nat×Sq AlS)→Env→Prop}
variable {t:TypeId}{pos:String}{af:Array Edge}
theorem Ad4{d:Nat}{zv:Value}(hz:Pj P T zv)(hc:zv.cells=z.toArray)(h:AD P full (JAl B M T z i7) RAl h0 (i7+1) ((d,Aao)::L) rest e K) :
  AD P full (JAl B M T z i7) RAl h0 i7 L (⟨some d,.alloc T,t,pos,af,none⟩::rest) e K:=by
 refine AbT Aao.mono (fun _=>Aa _) (fun D s w hDk hl hj=>FR.all fun us=>?_) h;have h7:s.o7=none:=by
  have:=hj.h7;rw[hDk] at this;cases h:s.o7<;>simp_all
 have I:=hj.inv;rw[h7] at I;exact O.alloc I hz hc fun b w' I'=>⟨⟨s.h,some b⟩,⟨Ae.le.refl _,fun b' e=>(by rw[h7] at e;cases e)⟩,⟨by simp[AZ],I'⟩,b,rfl,rfl⟩
end
end
section
set_option linter.unusedSimpArgs false
theorem LA{n:Nat}(h:n<100):tx (HL n)=dgL n:=by
 have:∀i:Fin 100,tx (HL i.val)=dgL i.val:=by decide
 exact this ⟨n,h⟩
theorem O9{t:Trm}(h:termOk t=true):tx (KL t)=C3 t:=by
 unfold KL C3;split
 ·rfl
 ·rename_i hv;refine LA ?_;unfold termOk at h;rw[if_neg hv] at h;have:=of_decide_eq_true h;omega
theorem Pa{l:List Prd}{a:Atm}(ao:AOk l a):tx (HM l a)=A0 l a:=by
 have h2:=ao.len;have hok:∀t∈a.args.xs,termOk t=true:=fun t ht=>ao.termOk ht;obtain⟨xs,hx⟩:∃xs,a.args.xs=xs:=⟨_,rfl⟩;unfold HM A0 L5;rw[hx] at h2 hok ⊢;match xs,h2,hok with
 |[],_,_=>simp[Fg]
 |[t],_,hok=>
  have:=O9 (hok t (by simp));simp[Fg,BD,joinT,hx,this]
 |[t,u],_,hok=>
  have h1:=O9 (hok t (by simp));have h2:=O9 (hok u (by simp));simp[Fg,BD,joinT,hx,h1,h2]
theorem GW(B:Aq)(hB:B.ok)(l:Sl Prd)(hl:HQ l B.h)(a:Atm)(ha:a.In B.h)(ao:AOk l.xs a)(hnm:(Al l.xs a.pred).name.size≤140737488355328):Fn prog 46 [l.val,a.val] B (fun v _=>v=.string (mk (A0 l.xs a))):=
 (EZ B hB l hl a ha ao hnm).mono fun v h' _ hv=>by rw[hv];exact congrArg Value.string (Cb.1 (Pa ao))
theorem Uu(B:Aq)(hB:B.ok)(n:Nat)(hn:n<100):Fn prog 45 [.int .i64 n] B (fun v _=>v=.string (mk (dgL n))):=
 (DJ B hB n hn).mono fun v h' _ hv=>by rw[hv];exact congrArg Value.string (Cb.1 (LA hn))
theorem Kh(B:Aq)(hB:B.ok)(l:Sl Prd)(hL:HQ l B.h)(x:Fct)(r:Ze l.xs x)(hnm:(Al l.xs x.pred).name.size≤8):Fn prog 53 [l.val,x.val] B (fun v _=>v=.string (mk (CF l.xs x))):=by
 have Ep:=hL.el.el (Cs r.pred.1 r.pred.2);have ao:=r.aok;have hal:=JO ao;have hnm2:(Al l.xs (IA l.xs x).pred).name.size≤8:=hnm;obtain⟨A,hA⟩:∃A,A0 l.xs (IA l.xs x)=A:=⟨_,rfl⟩;have hfi:=r.fine;obtain⟨⟨nm,ar,kd⟩,hP⟩:∃y,Al l.xs x.pred=y:=⟨_,rfl⟩;have hF:CF l.xs x=A++(if kd≠0 then [32,61,32]++dgL x.v.toNat else []):=by unfold CF;rw[hA,hP]
 rw[hP] at Ep hfi hnm;unfold AE at hfi;obtain⟨a0,a2,d0,d3⟩:=of_decide_eq_true hfi;dsimp only at a0 a2 d0 d3 hnm;obtain⟨na,rfl⟩:∃n:Nat,ar=n:=⟨ar.toNat,by omega⟩;have hE:(IA l.xs x).er=⟨x.pred,⟨none,0,[⟨false,x.a⟩,⟨false,x.b⟩].take na⟩⟩:=by unfold IA Atm.er;rw[hP];rfl
 rw[hA] at hal;obtain⟨nv,hnv⟩:∃n:Nat,x.v=n:=⟨x.v.toNat,by have:=r.v;omega⟩;have dl:=FE (n:=nv) (by have:=r.v;omega);refine Fo hB func53 rfl ntmps53 fun e I=>Sr<|Abj (O.box (v:=.agg #[_,_,_,_]) I rfl rfl fun b3 w I=>At0 Ag<|Abh<|Abi<|Ab9 AC RAl.pre ⟨B.h,none⟩ (J:=JAl B [box b3 x.enc 83] 61 [.int .i64 0,.slice none 0 0] 17) ⟨rfl,I.drew⟩ 18 (by kernel_rfl)<|Aby (v:=.pointer (some ⟨_,_,none⟩)) (fun _=>Aa _) RAl.pre (JAl.set (by decide)) (fun _ s w us hl hj=>have I:=hj.base;have hl:=hl.h;Abu Bu rfl)<|Aby (v:=.int .i64 _) (fun _=>Aa _) RAl.pre (JAl.set (by decide)) (fun _ s w us hl hj=>have I:=hj.base;have hl:=hl.h;Ld I An 0 0 1 rfl rfl rfl)<|Aby (v:=.pointer (some ⟨_,_,none⟩)) (fun _=>Aa _) RAl.pre (JAl.set (by decide)) (fun _ s w us hl hj=>have I:=hj.base;have hl:=hl.h;Abr BG rfl)<|Aby (v:=.int .i64 _) (fun _=>Aa _) RAl.pre (JAl.set (by decide)) (fun _ s w us hl hj=>have I:=hj.base;have hl:=hl.h;Ld I An 0 1 1 rfl rfl rfl)<|Aby (v:=.agg #[.bool _,.int .i64 _]) (fun _=>Aa _) RAl.pre (JAl.set (by decide)) (fun _ s w us hl hj=>have I:=hj.base;have hl:=hl.h;Y.build Fm Aig rfl rfl)<|Aby (v:=.pointer (some ⟨_,_,none⟩)) (fun _=>Aa _) RAl.pre (JAl.set (by decide)) (fun _ s w us hl hj=>have I:=hj.base;have hl:=hl.h;Abr B8 rfl)<|Aby (v:=.int .i64 _) (fun _=>Aa _) RAl.pre (JAl.set (by decide)) (fun _ s w us hl hj=>have I:=hj.base;have hl:=hl.h;Ld I An 0 2 1 rfl rfl rfl)<|Aby (v:=.agg #[.bool _,.int .i64 _]) (fun _=>Aa _) RAl.pre (JAl.set (by decide)) (fun _ s w us hl hj=>have I:=hj.base;have hl:=hl.h;Y.build Fm Aig rfl rfl) ?_);refine AbT (Φ:=Wy (Xz 2 Trm.enc [⟨false,x.a⟩,⟨false,x.b⟩])) (Wy.mono Xz.mono) (fun _=>Aa _) (fun D' z w hDk hl hj=>?_) ?_
 ·refine FR.all fun us=>hj.know (by decide) fun N I=>?_;have hl:=hl.h;exact AbY (xs:=[⟨false,x.a⟩,⟨false,x.b⟩]) (enc:=Trm.enc) I Aid Aik Aig rfl (Nb rfl) rfl rfl (by decide) (fun _=>rfl) (fun b h w I le sl=>⟨h,le,I,⟨⟨some ⟨b,0,none⟩,_,[⟨false,x.a⟩,⟨false,x.b⟩]⟩,rfl,rfl,⟨sl,by simp⟩,rfl,Afg _⟩⟩)
 refine Aby (v:=.slice _ _ _) (fun _=>Aa _) RAl.pre (JAl.set (by decide)) (fun _ s w us hl hj=>have I:=hj.base;have hl:=hl.h;Mv)<|Aby (v:=.pointer (some ⟨_,_,none⟩)) (fun _=>Aa _) RAl.pre (JAl.set (by decide)) (fun _ s w us hl hj=>have I:=hj.base;have hl:=hl.h;Abu Bu rfl)<|Aby (v:=.int .i64 _) (fun _=>Aa _) RAl.pre (JAl.set (by decide)) (fun _ s w us hl hj=>have I:=hj.base;have hl:=hl.h;Ld I An 0 0 1 rfl rfl rfl)<|Aby (v:=.pointer (some ⟨_,_,none⟩)) (fun _=>Aa _) RAl.pre (JAl.set (by decide)) (fun _ s w us hl hj=>have I:=hj.base;have hl:=hl.h;AbJ Ep Aia Aim rfl rfl r.pred.1 rfl)<|Aby (v:=.pointer (some ⟨_,_,none⟩)) (fun _=>Aa _) RAl.pre (JAl.set (by decide)) (fun _ s w us hl hj=>have I:=hj.base;have hl:=hl.h;Abr Bp rfl)<|Aby (v:=.int .i64 _) (fun _=>Aa _) RAl.pre (JAl.set (by decide)) (fun _ s w us hl hj=>have I:=hj.base;have hl:=hl.h;Abn An rfl (I.rd ((Ep.rd.part 1 1).le hl)) rfl rfl) ?_;refine AbT (Φ:=Wy (SlS 2 Trm.enc ([⟨false,x.a⟩,⟨false,x.b⟩].take na))) (Wy.mono SlS.mono) (fun _=>Aa _) (fun D' z w hDk hl hj=>?_) ?_
 ·intro u15 q15;obtain⟨s,rfl,es,is,at_,cp⟩:=q15 rfl;refine hj.know (by decide) fun N I=>?_;have hl:=hl.h;exact AcJ I (Y.cut (s:=s) (l:=0) (h:=na) Aid Aik at_ cp rfl (.inl ⟨rfl,rfl⟩) (.inr ⟨_,_,rfl,rfl⟩) (Afa _) (by rw[es];simp only[Ae6,Afc];omega)) ⟨s.cut 2 0 na,rfl,by rw[←es];rfl,is.cut cp⟩
 refine AbT (Φ:=Wy (Y8 x.pred ([⟨false,x.a⟩,⟨false,x.b⟩].take na))) (Wy.mono Y8.mono) (fun _=>Aa _) (fun D' z w hDk hl hj=>?_) ?_
 ·intro u15 q15 u22 q22;obtain⟨s,rfl,es,is⟩:=q22 rfl;refine hj.know (by decide) fun N I=>?_;have hl:=hl.h;exact AcJ I (Y.build M4 Ain rfl rfl) (⟨⟨x.pred,s⟩,rfl,by show(⟨x.pred,⟨none,0,s.xs⟩⟩:Atm)=_;rw[es],is⟩)
 refine Ad4 Ain rfl<|Acl fun D z w hD hl hj u15 q15 u22 q22 u23 q23 u5 q5=>?_;obtain⟨b5,rfl,h5⟩:=q5 rfl;obtain⟨a,rfl,ea,ia⟩:=q23 rfl;have I:=hj.inv;rw[h5] at I;have hl:=hl.h;refine Abj (Sx I AP 0 rfl rfl rfl rfl fun w I=>Abh ?_);have ha:A0 l.xs a=A:=by rw[←hA];exact PY (ea.trans hE.symm)
 have hat:=GW ⟨w,z.h⟩ I.j6 l (hL.le hl) a ia (AOk.er (ea.trans hE.symm) ao) (by rw[show a.pred=x.pred by have:=congrArg Atm.pred ea;exact this,hP];dsimp only;omega);rw[ha] at hat;refine Sr<|As0 Mv<|Ax (Ld I AP 0 0 2 rfl rfl rfl)<|Abj (Abm I call46 (hat) rfl fun w I=>At0 Ag<|Abh ?_);have Ep2:=Ep.le hl;refine Abi<|Sr<|As0 Mv<|Ap (Abu Bu rfl)<|Ai (Ld I An 1 0 1 rfl rfl rfl)<|Ap (AbJ Ep2 Aia Aim rfl rfl r.pred.1 rfl)<|Ap (Abr A3 rfl)<|Ai (Abn An rfl (I.rd (Ep2.rd.part 2 1)) rfl rfl)<|Ad (AbK rfl rfl)<|Abh ?_;refine Abl rfl (fun h33=>?_) (fun h33=>?_)
 ·rw[if_pos h33,hnv] at hF;refine Abg<|At0 Mv<|At0 (AbP rfl rfl ((by simp only[Afb,bsz,Afx,Ae6,Afc,Ae2];omega)))<|Ap (Abr BL rfl)<|Ai (Ld I An 1 3 1 rfl rfl rfl)<|Abj (Abm I call45 (hnv▸Uu _ I.j6 nv (by have:=r.v;omega)) rfl fun w I=>At0 (AbP rfl rfl ((by simp only[Afb,bsz,Afx,Ae6,Afc,Ae2];omega)))<|At0 Ag<|Abh<|Sr<|At0 Mv<|At0 Ag<|Abh<|Wr ?_);exact Rm (v:=.string _) rfl rfl I (by simp only[tup];rw[hF];exact congrArg Value.string (Cb.1 (by simp only[DO,BD,txl,Afe,Afs,AfH,AfC])))
 ·rw[if_neg h33,Aft] at hF;refine Abk<|Sr<|At0 Mv<|At0 Ag<|Abh<|Wr ?_;exact Rm (v:=.string _) rfl rfl I (by simp only[tup];rw[hF])
end
section
theorem Ih(s:ByteArray)(i j:Nat):tx (s.extract i j)=((tx s).take j).drop i:=by
 have:=CJ (tx s) i j;rw[show mk (tx s)=s from M2 s] at this;rw[this]
theorem YO(B:Aq)(hB:B.ok)(s a:ByteArray)(hs:s.size≤4096)(ha:1≤a.size∧a.size≤4):Fn prog 47 [.string s,.string a] B (fun v _=>v=.tuple #[.string (mk (Lib.cut (tx s) (tx a)).1),.string (mk (Lib.cut (tx s) (tx a)).2.1),.bool (Lib.cut (tx s) (tx a)).2.2]):=by
 have hl:=BF s;have hla:=BF a;refine Fo hB func47 rfl ntmps47 fun e I=>Sr<|At0 Ag<|At0 Ag<|Ab Ag<|Abh<|Abi<|Sr<|Ai Ag<|Abh<|WP.block ?_;refine Abx (σ:=Nat) (fun k=>[(0,.string s),(1,.string a),(7,.int .i64 k)]) (fun k w=>k≤s.size∧Inv B B.h [] w∧∀j,j<k→Lib.occAt (tx s) (tx a) j=false) (fun k=>s.size-k)
  ⟨0,⟨rfl,rfl,rfl,trivial⟩,Afa _,I,fun j hj=>absurd hj (AhD _)⟩ ?_
 rintro k e w ⟨hk,I,hno⟩;refine Abi<|Sr<|Ai Mv<|At0 Mv<|Ai (AbF Ah9 rfl)<|Ai (Dd rfl rfl)<|At0 Mv<|Ai (AbF Ah9 rfl)<|Ad (AcD rfl rfl)<|Abh ?_;refine Abl rfl (fun h14=>?_) (fun h14=>?_)
 ·have h14':k+a.size≤s.size:=by omega
  have hE:tx (s.extract k (k+a.size))=((tx s).drop k).take (tx a).length:=by rw[Ih,AhK,hla,AgN]
  have hO:=Lib.occAt_iff_take (tx s) (tx a) k (by omega);rw[←hE] at hO;refine Abk<|Abi<|WP.block<|Sr<|At0 Mv<|Ai Mv<|Ai Mv<|At0 Mv<|Ai (AbF Ah9 rfl)<|Ai (Dd rfl rfl)<|At0 (Acu (l:=k) (h:=k+a.size) Ah9 rfl (.inr ⟨_,_,rfl,rfl⟩) (.inr ⟨_,_,rfl,rfl⟩) (by omega) h14')<|At0 Mv<|Ab (Ab6 rfl rfl)<|Abh ?_;refine AbG rfl (fun h25=>?_) (fun h25=>?_)
  ·have hocc:Lib.occAt (tx s) (tx a) k=true:=by rw[hO];rw[B3] at h25;simpa using h25
   have hix:=Lib.index_first (by omega) hocc hno;have hc:Lib.cut (tx s) (tx a)=((tx s).take k,(tx s).drop (k+a.size),true):=by unfold Lib.cut;rw[hix,if_pos (by omega),hla];rfl
   have e1:s.extract 0 k=mk ((tx s).take k):=Cb.1 (by rw[Ih];rfl);have e2:s.extract (k+a.size) s.size=mk ((tx s).drop (k+a.size)):=Cb.1 (by rw[Ih,AfW (by omega)]);refine Abi<|AbM AC I 12 (by kernel_rfl)<|Ft (fun _ w us hl I=>Mv)<|Fi (fun _ w us hl I=>Mv)<|Ft (fun _ w us hl I=>Acu (l:=0) (h:=k) Ah9 rfl (.inl ⟨rfl,rfl⟩) (.inr ⟨_,_,rfl,rfl⟩) (Afa _) hk)<|Ft (fun _ w us hl I=>Mv)<|Fi (fun _ w us hl I=>Mv)<|Ft (fun _ w us hl I=>Mv)<|Fi (fun _ w us hl I=>AbF Ah9 rfl)<|Fi (fun _ w us hl I=>Dd rfl rfl)<|Ft (fun _ w us hl I=>Acu (l:=k+a.size) (h:=s.size) Ah9 rfl (.inr ⟨_,_,rfl,rfl⟩) (.inl ⟨rfl,rfl⟩) h14' (Afg _))<|Ft (fun _ w us hl I=>Ag)<|Ft (fun _ w us hl I=>Ag)<|Fb (fun _ w us hl I=>Ag)<|AbX fun _ w hl I=>?_;try unfold CT
   refine Abh<|Wr ?_;exact BH.mk (vs:=[.string _,.string _,.bool _]) rfl ⟨rfl,rfl,rfl,trivial⟩ I.j5 (by simp only[tup];rw[hc,e1,e2])
  ·have hocc:Lib.occAt (tx s) (tx a) k=false:=by rw[hO];rw[B3] at h25;simpa using h25
   refine Abk<|Abg<|Ai Mv<|Ai (Dd rfl rfl)<|Ai Ag<|Abh ?_;exact⟨k+1,⟨⟨rfl,rfl,rfl,trivial⟩,by omega,I,fun j hj=>(by rcases Afd.1 hj with h|rfl<;>first|exact hno _ h|exact hocc)⟩,by omega⟩
 have hix:Lib.index (tx s) (tx a)=-1:=Lib.index_none fun j hj=>by
  rcases Af4 j k with h|h
  ·exact hno j h
  ·cases ho:Lib.occAt (tx s) (tx a) j with
   |false=>rfl
   |true=>
    rcases Lib.occAt_room ho with h1|h1
    ·omega
    ·rw[h1] at hla;simp at hla;omega
 have hc:Lib.cut (tx s) (tx a)=(tx s,[],false):=by unfold Lib.cut;rw[hix];rfl
 refine Abz<|Sr<|At0 Mv<|At0 Ag<|At0 Ag<|Ab Ag<|Abh<|Wr ?_;exact BH.mk (vs:=[.string _,.string _,.bool _]) rfl ⟨rfl,rfl,rfl,trivial⟩ I.j5 (by simp only[tup];rw[hc])
def Oa(l:Bs):Int:=l.foldl (fun n c=>10*n+(c.toNat:Int)-48) 0
def MD:Nat→Int
 |0=>0
 |k+1=>10*MD k+300
theorem LB(l:Bs)(c:UInt8):Oa (l++[c])=10*Oa l+(c.toNat:Int)-48:=by unfold Oa;rw[Agq];rfl
theorem QV{k:Nat}(h:k≤6):0≤MD k∧MD k≤40000000:=by
 have:∀i:Fin 7,0≤MD i.val∧MD i.val≤40000000:=by decide
 exact this ⟨k,by omega⟩
theorem ME{l:Bs}:∀{k:Nat},k≤l.length→-(MD k)≤Oa (l.take k)∧Oa (l.take k)≤MD k
 |0,_=>by simp[Oa,MD]
 |k+1,h=>by
  have ih:=ME (l:=l) (k:=k) (by omega);have hc:l.take (k+1)=l.take k++[l[k]]:=by rw[AfS,Ae4 (by omega)];rfl
  have:=(l[k]).toNat_lt;rw[hc,LB,MD];omega
theorem DK(B:Aq)(hB:B.ok)(s:ByteArray)(hs:s.size≤4096):Fn prog 48 [.string s] B (fun v _=>v=.int .i64 (BP (tx s))):=by
 have hl:=BF s;refine Fo hB func48 rfl ntmps48 fun e I=>Sr<|Ai Ag<|Abh<|Abi<|Sr<|At0 Mv<|Ai (AbF Ah9 rfl)<|Abj (Abm I call42 (A2 _ I.j6 s.size 1 6) rfl fun w I=>Ab (Y.not rfl)<|Abh ?_);refine AbG rfl (fun h8=>?_) (fun h8=>?_)
 ·have h:¬(1≤(tx s).length∧(tx s).length≤6):=by
   have h8':¬within (s.size:Int) 1 6:=by simpa using h8
   unfold within at h8';omega
  refine Sr<|Ai Ag<|Abh<|Wr ?_;exact Rm (v:=.int .i64 _) rfl rfl I (by simp only[tup];unfold BP;rw[if_neg h])
 have h:1≤(tx s).length∧(tx s).length≤6:=by
  have h8':within (s.size:Int) 1 6:=by simpa using h8
  unfold within at h8';omega
 refine Abk<|Sr<|Ai Ag<|Abh<|Abi<|Sr<|Ai Ag<|Abh<|WP.block<|Abx (σ:=Nat) (fun k=>[(0,.string s),(3,.int .i64 (Oa ((tx s).take k))),(4,.int .i64 k)]) (fun k w=>k≤s.size∧Inv B B.h [] w) (fun k=>s.size-k) ⟨0,⟨rfl,rfl,rfl,trivial⟩,Afa _,I⟩ ?_;rintro k e w ⟨hk,I⟩;refine Abi<|Sr<|Ai Mv<|At0 Mv<|Ai (AbF Ah9 rfl)<|Ad (AbC rfl rfl)<|Abh ?_;refine Abl rfl (fun h12=>?_) (fun h12=>?_)
 ·have hk':k<(tx s).length:=by omega
  have bd:=ME (l:=tx s) (k:=k) (by omega);have b2:=QV (k:=k) (by omega);have hnx:(tx s).take (k+1)=(tx s).take k++[(tx s)[k]]:=by rw[AfS,Ae4 hk'];rfl
  obtain⟨c,hc⟩:∃c,(tx s)[k]=c:=⟨_,rfl⟩;have hb:=c.toNat_lt;have hget:s[k]?=some c:=by
   rw[←hc];have hk2:k<s.size:=by omega
   rw[getElem?_pos s k hk2];rfl
  refine Abk<|Abi<|WP.block<|Abg<|Ai Mv<|Ai (AdQ rfl rfl ⟨by omega,by omega⟩)<|At0 Mv<|Ai Mv<|Aw (Aci Ah9 rfl rfl (AfR _) hget)<|Ai (AcV (by rw[AiC];rfl) Ait (EL ⟨by omega,by omega⟩) rfl)<|Ai (Dd rfl rfl)<|Ai (AcA rfl rfl ⟨by omega,by omega⟩)<|Ai Ag<|Abh<|Abg<|Ai Mv<|Ai (Dd rfl rfl)<|Ai Ag<|Abh ?_;refine⟨k+1,⟨⟨rfl,?_,rfl,trivial⟩,by omega,I⟩,by omega⟩;rw[hnx,hc,LB];rfl
 obtain rfl:k=s.size:=by omega
 refine Abz<|Sr<|Ai Mv<|Ai Ag<|Abh<|Wr ?_;exact Rm (v:=.int .i64 _) rfl rfl I (by simp only[tup];unfold BP;rw[if_pos h,AfW (by omega)];rfl)
theorem Pb(B:Aq)(hB:B.ok)(s:ByteArray)(hs:s.size≤4096):Fn prog 154 [.string s] B (fun v _=>v=(Fe (tx s)).val):=by
 have hl:=BF s;by_cases h1:s.size=1
 ·obtain⟨c,hc⟩:∃c,tx s=[c]:=List.length_eq_one_iff.1 (by omega);obtain rfl:s=⟨#[c]⟩:=Cb.1 hc;have hb:=c.toNat_lt;have hg:(⟨#[c]⟩:ByteArray)[0]?=some c:=rfl;by_cases h65:65≤c.toNat
  ·have hT:Fe [c]=⟨true,(c.toNat:Int)-65⟩:=by unfold Fe;rw[if_pos ⟨rfl,h65⟩];rfl
   refine Fo hB func154 rfl ntmps154 fun e I=>Sr<|Abj (O.alloc I Aig rfl fun b2 w I=>Abh<|Abi<|Sr<|At0 Mv<|Ai (AbF Ah9 rfl)<|AT (Abs (AbI rfl rfl) (rfl))<|Ab Mv<|Gt Mv<|Gw (Aci Ah9 rfl rfl (by decide) hg)<|GT (Abs (AbZ rfl rfl) ((by omega)))<|Ab (Abo rfl rfl)<|Abh<|Abw rfl<|Sr<|At0 Mv<|Aw (Aci Ah9 rfl rfl (by decide) hg)<|Ai (AcV (by rw[AiC];rfl) Ait (EL ⟨by omega,by omega⟩) rfl)<|Ai (AcA rfl rfl ⟨by omega,by omega⟩)<|AbB (v:=.agg #[.bool _,.int .i64 _]) (Y.build Fm Aig rfl rfl)<|Abj (Sx I BZ 0 rfl rfl rfl rfl fun w I=>Abh<|Wr ?_));exact BH.mk (vs:=[.agg #[_,_]]) rfl ⟨⟨_,_,_,_,_,rfl,BZ,I.l5 0 rfl 0 2,rfl,rfl⟩,trivial⟩ I.j5 (by simp only[tup];rw[show tx ⟨#[c]⟩=[c] from rfl,hT])
  ·have hT:Fe [c]=⟨false,BP [c]⟩:=by unfold Fe;rw[if_neg (fun h=>h65 h.2)]
   refine Fo hB func154 rfl ntmps154 fun e I=>Sr<|Abj (O.alloc I Aig rfl fun b2 w I=>Abh<|Abi<|Sr<|At0 Mv<|Ai (AbF Ah9 rfl)<|AT (Abs (AbI rfl rfl) (rfl))<|Ab Mv<|Gt Mv<|Gw (Aci Ah9 rfl rfl (by decide) hg)<|GF (Abt (AbZ rfl rfl) ((by omega)))<|Ab (Abo rfl rfl)<|Abh<|Abq rfl<|Abk<|Sr<|At0 Mv<|Abj (Abm I call48 (DK _ I.j6 _ hs) rfl fun w I=>AbB (v:=.agg #[.bool _,.int .i64 _]) (Y.build Fm Aig rfl rfl)<|Abj (Sx I BZ 0 rfl rfl rfl rfl fun w I=>Abh<|Wr ?_)));exact BH.mk (vs:=[.agg #[_,_]]) rfl ⟨⟨_,_,_,_,_,rfl,BZ,I.l5 0 rfl 0 2,rfl,rfl⟩,trivial⟩ I.j5 (by simp only[tup];rw[show tx ⟨#[c]⟩=[c] from rfl,hT])
 ·have hT:Fe (tx s)=⟨false,BP (tx s)⟩:=by unfold Fe;rw[if_neg (fun h=>h1 (by omega))]
  refine Fo hB func154 rfl ntmps154 fun e I=>Sr<|Abj (O.alloc I Aig rfl fun b2 w I=>Abh<|Abi<|Sr<|At0 Mv<|Ai (AbF Ah9 rfl)<|AF (Abt (AbI rfl rfl) ((by omega)))<|Ab Mv<|Gg<|Gg<|Gg<|Ab (Abp rfl rfl)<|Abh<|Abq rfl<|Abk<|Sr<|At0 Mv<|Abj (Abm I call48 (DK _ I.j6 s hs) rfl fun w I=>AbB (v:=.agg #[.bool _,.int .i64 _]) (Y.build Fm Aig rfl rfl)<|Abj (Sx I BZ 0 rfl rfl rfl rfl fun w I=>Abh<|Wr ?_)));exact BH.mk (vs:=[.agg #[_,_]]) rfl ⟨⟨_,_,_,_,_,rfl,BZ,I.l5 0 rfl 0 2,rfl,rfl⟩,trivial⟩ I.j5 (by simp only[tup];rw[hT])
end
section
theorem DL(B:Aq)(hB:B.ok)(s:ByteArray)(a:Bs)(hs:s.size≤4096)(ha:1≤a.length∧a.length≤4){x y:Bs}{b:Bool}(h:Lib.cut (tx s) a=(x,y,b)):Fn prog 47 [.string s,.string (mk a)] B (fun v _=>v=.tuple #[.string (mk x),.string (mk y),.bool b]):=
 (YO B hB s (mk a) hs (by rw[Ar];exact ha)).mono fun v h' _ hv=>by
  rw[hv,show tx (mk a)=a from rfl,h]
def Zg(l:List Prd)(n:Bs)(k:Nat):Int:=(List.range k).foldl (fun m i=>if tx (l.getD i default).name=n then (i:Int) else m) (-1)
theorem Uv(l:List Prd)(n:Bs)(k:Nat):Zg l n (k+1)=if tx (l.getD k default).name=n then (k:Int) else Zg l n k:=by
 unfold Zg;rw[AgW,Agq];rfl
theorem E4{s a x y:Bs}(h:Lib.cut s a=(x,y,true))(ha:1≤a.length):y.length+1≤s.length:=by
 unfold Lib.cut at h;split at h
 ·rename_i hi;injection h with h1 h2;injection h2 with h2 _;subst h2;have hne:s≠[]:=by
   rintro rfl;have:Lib.index [] a=-1:=Lib.index_none fun j hj=>by
    cases ho:Lib.occAt [] a j with
    |false=>rfl
    |true=>
     rcases Lib.occAt_room ho with h1|h1
     ·simp only[Afc] at h1;omega
     ·rw[h1] at ha;simp at ha
   omega
  have:=Af7.2 hne;rw[AfD];omega
 ·injection h with _ h2;injection h2 with _ h3;cases h3
theorem GX(B:Aq)(hB:B.ok)(l:Sl Prd)(hl:HQ l B.h)(s:ByteArray)(hs:s.size≤4096):Fn prog 108 [l.val,.string s] B (fun v h=>∃a:Atm,v=a.val∧Di 109 2 a.args Trm.enc B.h h∧a.args.xs.length≤4098∧a.er=H0 l.xs (tx s)):=by
 have hl0:=BF s;have hsm:=hl.small;obtain⟨ct,hct⟩:∃z,Lib.cut (tx s) [40]=z:=⟨_,rfl⟩;obtain⟨n0,r0,b0⟩:=ct;have hlen:=Cw (tx s) [40];rw[hct] at hlen;dsimp only at hlen;obtain⟨tot,htot⟩:∃z,(if b0=true then Nl ((tx s).length+1) r0 else [])=z:=⟨_,rfl⟩;have hF:H0 l.xs (tx s)=⟨Zg l.xs n0 l.xs.length,⟨none,0,tot⟩⟩:=by unfold H0;rw[hct,←htot];rfl
 refine Fo hB func108 rfl ntmps108 fun e I=>Sr<|Abj (O.alloc I Ain rfl fun b4 w I=>Abh<|Sr<|At0 Mv<|Abj (Abm I call47 (DL _ I.j6 s [40] hs (by decide) hct) rfl fun w I=>Av Mv<|At0 (Y.extract rfl rfl)<|At0 (Y.extract rfl rfl)<|Ab (Y.extract rfl rfl)<|At0 Ag<|At0 Ag<|Ab Ag<|Abh<|Sr<|AbB (v:=.agg #[.int .i64 _,.slice _ _ _]) (Y.build M4 Ain rfl rfl)<|Abj (O.alloc I Ain rfl fun b8 w I=>Abj (Sx I AP 0 rfl rfl rfl rfl fun w I=>Abh<|Abi<|Sr<|Ai Ag<|Abh<|WP.block ?_))));refine Abx (σ:=Nat) (fun k=>[(0,l.val),(4,Pt b4),(5,.string (mk n0)),(6,.string (mk r0)),(7,.bool b0),(8,Pt b8),(9,.int .i64 k)])
  (fun k w=>k≤l.xs.length∧Inv B B.h [box b8 [.int .i64 (Zg l.xs n0 k),.slice none 0 0] 61,box b4 [.int .i64 0,.slice none 0 0] 61] w) (fun k=>l.xs.length-k)
  ⟨0,⟨rfl,rfl,rfl,rfl,rfl,rfl,rfl,trivial⟩,Afa _,I⟩ ?_
 clear I;rintro k e w ⟨hk,I⟩;refine Abi<|Sr<|Ai Mv<|As0 Mv<|Ai (AbA Aia rfl)<|Ad (AbC rfl rfl)<|Abh ?_;refine Abl rfl (fun h21=>?_) (fun h21=>?_)
 ·have hk':k<l.xs.length:=by omega
  have E:=hl.at hk';have hg:l.xs.getD k default=l.xs[k]:=by rw[Ae3,Ae4 hk'];rfl
  have hp:=Uv l.xs n0 k;rw[hg] at hp;obtain⟨x,hx⟩:∃x,l.xs[k]=x:=⟨_,rfl⟩;rw[hx] at E hp;refine Abk<|Abi<|WP.block<|Sr<|As0 Mv<|Ai Mv<|Ap (Ix E Aia Aim rfl rfl)<|Ap (Abu Dk rfl)<|At0 (Abn HW rfl (I.rd (E.rd.part 0 1)) rfl rfl)<|At0 Mv<|Ab (Ab6 rfl rfl)<|Abh ?_;refine AbG rfl (fun h30=>?_) (fun h30=>?_)
  ·have hn:tx x.name=n0:=by rw[B3] at h30;exact of_decide_eq_true h30
   rw[if_pos hn] at hp;refine Abg<|Ai Mv<|Ap (Abu AW rfl)<|Abj (Si I An 0 rfl rfl rfl rfl fun w I=>Abh<|Abg<|Ai Mv<|Ai (Dd rfl rfl)<|Ai Ag<|Abh ?_);refine⟨k+1,⟨⟨rfl,rfl,rfl,rfl,rfl,rfl,rfl,trivial⟩,by omega,?_⟩,by omega⟩;rw[hp];exact I
  ·have hn:¬tx x.name=n0:=by rw[B3] at h30;exact of_decide_eq_false h30
   rw[if_neg hn] at hp;refine Abk<|Abg<|Ai Mv<|Ai (Dd rfl rfl)<|Ai Ag<|Abh ?_;refine⟨k+1,⟨⟨rfl,rfl,rfl,rfl,rfl,rfl,rfl,trivial⟩,by omega,?_⟩,by omega⟩;rw[hp];exact I
 obtain rfl:k=l.xs.length:=by omega
 generalize Zg l.xs n0 l.xs.length=P at I hF;clear h21;refine Abz<|Abi<|WP.block ?_;refine Abx (σ:=Bs×Bool×List Trm×Option Addr×Nat×Ae) (fun z=>[(0,l.val),(4,Pt b4),(6,.string (mk z.1)),(7,.bool z.2.1),(8,Pt b8)])
  (fun z w=>Inv B z.2.2.2.2.2 [Ao 109 2 (.slice z.2.2.2.1 z.2.2.1.length z.2.2.2.2.1) z.2.2.1.length (z.2.2.1.flatMap Trm.enc),box b8 [.int .i64 P,.slice z.2.2.2.1 z.2.2.1.length z.2.2.2.2.1] 61,box b4 [.int .i64 0,.slice none 0 0] 61] w∧B.h.le z.2.2.2.2.2∧
   (∃f,z.2.2.1++(if z.2.1=true then Nl f z.1 else [])=tot∧(z.2.1=true→z.1.length<f))∧z.1.length≤4096∧z.2.2.1.length+(if z.2.1=true then z.1.length+1 else 0)≤4098) (fun z=>if z.2.1=true then z.1.length+1 else 0)
  ⟨(r0,b0,[],none,0,B.h),⟨rfl,rfl,rfl,rfl,rfl,trivial⟩,I.l9 109 2,Ae.le.refl _,⟨(tx s).length+1,by rw[←htot];rfl,fun _=>by dsimp only;omega⟩,by dsimp only;omega,by show 0+(if b0=true then r0.length+1 else 0)≤4098;split<;>omega⟩ ?_
 clear I;rintro⟨r,b,acc,q,c,hh⟩ e w ⟨I,gl,⟨f,hf,hrf⟩,hr,hacc⟩;dsimp only at I gl hf hrf hr hacc ⊢;refine Abi<|Sr<|Ab Mv<|Abh ?_;refine AbG rfl (fun h33=>?_) (fun h33=>?_)
 ·have hb:b=true:=h33;subst hb;rw[if_pos rfl] at hf hacc;have hrf:=hrf rfl;obtain⟨f,rfl⟩:∃g,f=g+1:=⟨f-1,by omega⟩;obtain⟨c2,hc2⟩:∃z,Lib.cut r [44]=z:=⟨_,rfl⟩;obtain⟨x,y,b2⟩:=c2;have hlen2:=Cw r [44];rw[hc2] at hlen2;dsimp only at hlen2;rw[Nl,hc2] at hf;dsimp only at hf;obtain⟨wd,hwd⟩:∃z,(if b2=true then x else x.take (x.length-1))=z:=⟨_,rfl⟩;have hwl:wd.length≤4096:=by rw[←hwd];split<;>first|omega|(rw[Afj];omega)
  refine Abk<|WP.block<|Sr<|At0 Ag<|Abh<|Sr<|At0 Mv<|Abj (Abm I call47 (DL _ I.j6 (mk r) [44] (by rw[Ar];omega) (by decide) hc2) rfl fun w I=>Av Mv<|At0 (Y.extract rfl rfl)<|At0 (Y.extract rfl rfl)<|Ab (Y.extract rfl rfl)<|At0 Ag<|At0 Ag<|Ab Ag<|Abh<|Abi ?_);refine Acc (σ:=Unit) (fun _=>[(0,l.val),(4,Pt b4),(6,.string (mk y)),(7,.bool b2),(8,Pt b8),(10,.string (mk wd))])
   (fun _ w=>Inv B hh [Ao 109 2 (.slice q acc.length c) acc.length (acc.flatMap Trm.enc),box b8 [.int .i64 P,.slice q acc.length c] 61,box b4 [.int .i64 0,.slice none 0 0] 61] w) ?_ ?_
  ·cases b2 with
   |true=>
    rw[if_pos rfl] at hwd;subst hwd;exact Sr<|Ab Mv<|AF (Y.b (Y.not rfl) (rfl))<|Ab Mv<|Gg<|Gg<|Gg<|Ab (Abp rfl rfl)<|Abh<|Abq rfl<|Abk<|⟨(),⟨rfl,rfl,rfl,rfl,rfl,rfl,trivial⟩,I⟩
   |false=>
    rw[if_neg (by decide)] at hwd;by_cases hx0:x=[]
    ·subst hx0;subst hwd;exact Sr<|Ab Mv<|AT (Y.b (Y.not rfl) (rfl))<|Ab Mv<|Gt Mv<|Gi (AbF Ah9 rfl)<|GF (Abt (AbL rfl rfl) ((by show ¬((0:Nat):Int)>0;omega)))<|Ab (Abo rfl rfl)<|Abh<|Abq rfl<|Abk<|⟨(),⟨rfl,rfl,rfl,rfl,rfl,rfl,trivial⟩,I⟩
    ·have hxp:=Af7.2 hx0;have hsub:(((mk x).size:Nat):Int)-1=((x.length-1:Nat):Int):=by rw[Ar];omega
     subst hwd;exact Sr<|Ab Mv<|AT (Y.b (Y.not rfl) (rfl))<|Ab Mv<|Gt Mv<|Gi (AbF Ah9 rfl)<|GT (Abs (AbL rfl rfl) ((by rw[Ar];omega)))<|Ab (Abo rfl rfl)<|Abh<|Abw rfl<|Abg<|At0 Mv<|At0 Mv<|Ai (AbF Ah9 rfl)<|Ai (AcA rfl rfl ⟨by rw[Ar];omega,by rw[Ar];omega⟩)<|At0 (Acu (l:=0) (h:=x.length-1) Ah9 rfl (.inl ⟨rfl,rfl⟩) (.inr ⟨_,_,rfl,congrArg (Value.int .i64) hsub⟩) (Afa _) (by rw[Ar];omega))<|At0 Ag<|Abh<|⟨(),⟨rfl,rfl,rfl,rfl,rfl,congrArg Value.string (CJ x 0 (x.length-1)),trivial⟩,I⟩
  rintro _ e w I;refine Ab9 AC RAp.pre ⟨hh,none⟩ (J:=JAp B [box b8 [.int .i64 P,.slice q acc.length c] 61,box b4 [.int .i64 0,.slice none 0 0] 61] 109 2 acc.length 1 (.slice q acc.length c) (acc.flatMap Trm.enc) (Fe wd).enc 5) ⟨rfl,I.drew⟩ 6 (by kernel_rfl)<|Aby (v:=.pointer (some ⟨_,_,none⟩)) (fun _=>Aa _) RAp.pre (JAp.set (by decide)) (fun _ s w us hl hj=>have I:=hj.base;have hl:=hl.h;Abr Bb rfl)<|Aby (v:=.slice _ _ _) (fun _=>Aa _) RAp.pre (JAp.set (by decide)) (fun _ s w us hl hj=>have I:=hj.base;have hl:=hl.h;Ld I CN 0 1 1 rfl rfl rfl)<|Aby (v:=.string _) (fun _=>Aa _) RAp.pre (JAp.set (by decide)) (fun _ s w us hl hj=>have I:=hj.base;have hl:=hl.h;Mv) ?_;refine AbT (Φ:=K7 (EqV ((Fe wd).val))) (K7.mono EqV.mono) (fun _=>Aa _) (fun D' z w hDk hl hj=>?_) ?_
  ·refine FR.all fun us=>hj.know (by decide) fun N I=>?_;have hl:=hl.h;refine AbE I call154 (Pb _ I.j6 (mk wd) (by rw[Ar];omega)) rfl ?_;rintro _ h2 w I hl' rfl;exact⟨_,hl',I,rfl⟩
  refine AbT (Φ:=KnA (LK 109 (Fe wd).enc 1)) (KnA.mono LK.mono) (fun _=>Aa _) (fun D' z w hDk hl hj=>?_) ?_
  ·intro u55 q55;obtain rfl:u55=(Fe wd).val:=q55 rfl;exact hj.know (by decide) fun N I=>AcM (cs:=(Fe wd).enc) I Aid Aik Aig (by decide) (by decide) rfl rfl (fun v h w I le sl=>⟨h,le,I,sl⟩)
  refine AbT (Φ:=ON (acc.length+1)) ON.mono (fun _=>Aa _) (fun D' z w hDk hl hj=>?_) ?_
  ·intro u55 q55 u56 q56;obtain⟨bl,rfl,hbl⟩:=q56 rfl;refine hj.app hDk fun I=>?_;have kb:Ci z.h bl (Fe wd).enc:=⟨fun j v hv=>by simp[Ae.cell,hbl,hv]⟩;exact Ab0 I Aid Se 0 rfl rfl rfl (I.rd kb.rd) rfl rfl (by decide) (by omega) (by omega) fun g c w I=>⟨g,c,rfl,I⟩
  refine Acl fun D z w hD hl hj u55 q55 u56 q56 u57 q57=>?_;obtain⟨g,c4,rfl,h7'⟩:=q57 rfl;have I:=hj.inv;rw[h7'] at I;refine Ap (Abr Bb rfl)<|Abj (Ss0 I CN 1 rfl rfl rfl rfl fun w I=>Abh ?_);refine⟨(y,b2,acc++[Fe wd],some ⟨g,0,none⟩,c4,z.h),⟨⟨rfl,rfl,rfl,rfl,rfl,trivial⟩,?_,gl.trans hl.h,⟨f,?_,fun hb2=>?_⟩,by dsimp only;omega,?_⟩,?_⟩
  ·simp only[Ae2,Afv,Afm,AfT];exact I
  ·dsimp only;rw[←hf,←hwd];cases b2<;>simp
  ·dsimp only at hb2 ⊢;subst hb2;have:=E4 hc2 (by decide);omega
  ·dsimp only;rw[Ae2,Afv];cases b2 with
   |true=>have:=E4 hc2 (by decide);rw[if_pos rfl];omega
   |false=>rw[if_neg (by decide)];omega
  ·dsimp only;cases b2 with
   |true=>have:=E4 hc2 (by decide);rw[if_pos rfl,if_pos rfl];omega
   |false=>rw[if_neg (by decide),if_pos rfl];omega
 have hb:b=false:=by simpa using h33
 subst hb;rw[if_neg (by decide),Aft] at hf;rw[if_neg (by decide)] at hacc;obtain⟨h9,sl,le9,hv,hx,os,I⟩:=I.y5 rfl;rw[←hv] at I;refine Abz<|Sr<|Ax (Ld I AP 0 0 2 rfl rfl rfl)<|Abj (Sx I AP 1 rfl rfl rfl rfl fun w I=>Abh<|Wr ?_);exact BH.mk (vs:=[.agg #[_,_]]) rfl ⟨⟨_,_,_,_,_,rfl,AP,I.l5 1 rfl 0 2,rfl,rfl⟩,trivial⟩ I.j5 (⟨⟨P,sl⟩,rfl,os.older gl,by show sl.xs.length≤_;rw[hx];omega,by rw[hF,←hf,←hx];rfl⟩)
end
section
theorem Gl{sep x:Bs}:∀{L:List Bs},L≠[]→joinT sep (L++[x])=joinT sep L++(sep++x)
 |[],h=>absurd rfl h
 |[y],_=>rfl
 |y::z::r,_=>by
  have ih:=Gl (sep:=sep) (x:=x) (L:=z::r) (by simp);show y++(sep++joinT sep ((z::r)++[x]))=(y++(sep++joinT sep (z::r)))++(sep++x);rw[ih];simp only[Afe]
section
variable {p:Prg}(h:Ac p=0)
include h
theorem Z0{x:Prd}(hx:x∈p.preds.xs)(s:ByteArray):tx (prS s x)=tx s++(Eu x++[10]):=by
 have hf:=Cd h x hx;unfold AE at hf;have hf:=of_decide_eq_true hf;unfold prS Eu predW;simp only[BD,LA (n:=x.arity.toNat) (by omega),LA (n:=x.kind.toNat) (by omega),txl,Afe]
theorem XF:∀{k:Nat},k≤p.preds.xs.length→tx (prK p.preds.xs k)=((p.preds.xs.take k).map Eu).flatMap (·++[10])
 |0,_=>rfl
 |k+1,hk=>by
  have hx:p.preds.xs.getD k default=p.preds.xs[k]:=by rw[Ae3,Ae4 (by omega)];rfl
  rw[prK,hx,Z0 h (Ae5 _),XF (by omega),AfS,Ae4 (by omega),Ahb,AfM,Afm];simp
omit h in
theorem Z1{x:Ltl}(ao:AOk p.preds.xs x.atom)(k:Nat)(s:ByteArray):tx (bdS p.preds.xs k s x)=tx s++((if k=0 then [32,58,45,32] else [44,32])++Gn p.preds.xs x):=by
 unfold bdS Gn;rw[BD,Pa ao];by_cases hn:x.neg=true
 ·rw[if_pos hn,if_pos hn];split<;>simp only[BD,txl,Afe]
 ·rw[if_neg hn,if_neg hn];split<;>simp only[BD,txl,Afe,AfC]
omit h in
theorem XG{b:List Ltl}(hb:∀x∈b,AOk p.preds.xs x.atom)(s:ByteArray):∀{k:Nat},k≤b.length→tx (bdK p.preds.xs b s k)=tx s++(if k=0 then [] else [32,58,45,32]++joinT [44,32] ((b.take k).map (Gn p.preds.xs)))
 |0,_=>by simp[bdK]
 |k+1,hk=>by
  have hx:b.getD k default=b[k]:=by rw[Ae3,Ae4 (by omega)];rfl
  have ht:b.take (k+1)=b.take k++[b[k]]:=by rw[AfS,Ae4 (by omega)];rfl
  rw[bdK,hx,Z1 (hb _ (Ae5 _)),XG hb s (by omega),if_neg (Nat.succ_ne_zero k),ht,AfM];by_cases h0:k=0
  ·subst h0;simp[joinT]
  ·rw[if_neg h0,if_neg h0,AgQ,Gl (by
    intro e;have:=congrArg List.length e;rw[Afw,Afj] at this;simp only[Afc] at this;omega)]
   simp only[Afe]
theorem YP{r:Rul}(hr:r∈p.rules.xs)(s:ByteArray):tx (Wu p.preds.xs s r)=tx s++E9 p.preds.xs r:=by
 have ro:=BA h r hr;unfold Wu E9;split
 ·rw[BD,LA (by have:=ro.n;omega)];unfold Wt Nk;split
  ·simp only[BD,txl,LA (n:=r.src.toNat) (by have:=ro.src;have:=ro.len;omega),Afe]
  ·simp only[BD,txl,Afe,AfC]
 ·simp
theorem Z2{r:Rul}(hr:r∈p.rules.xs)(s:ByteArray):tx (ruS p.preds.xs s r)=tx s++(Dn p.preds.xs r++[10]):=by
 have ro:=BA h r hr;unfold ruS Dn Dq;rw[BD,XG (fun x hx=>Bc ro.preds (ro.body x hx)) _ (Afg _),YP h hr,BD,Pa (Bc ro.preds ro.head),Afo];by_cases h0:r.body.xs=[]
 ·rw[if_pos (by rw[h0];rfl),if_pos h0];simp only[Afe,AfC,txl];rfl
 ·rw[if_neg (fun e=>h0 (Agh.1 e)),if_neg h0];simp only[Afe,txl];rfl
theorem XH:∀{k:Nat},k≤p.rules.xs.length→tx (ruK p.preds.xs p.rules.xs k)=(p.preds.xs.map Eu++(p.rules.xs.take k).map (Dn p.preds.xs)).flatMap (·++[10])
 |0,_=>by
  rw[ruK,XF h (Afg _),Afo];simp
 |k+1,hk=>by
  have hx:p.rules.xs.getD k default=p.rules.xs[k]:=by rw[Ae3,Ae4 (by omega)];rfl
  rw[ruK,hx,Z2 h (Ae5 _),XH (by omega),AfS,Ae4 (by omega),Ahb,AfM];simp[Afm]
theorem Wz:tx (YN p)=Cz p:=by
 unfold YN Cz BI;rw[XH h (Afg _),Afo]
end
theorem Ki(B:Aq)(hB:B.ok)(p:Prg)(hp:p.In B.h)(hnm:p.Nm)(hpr:Ac p=0):Fn prog 17 [p.val] B (fun v _=>v=.string (mk (Cz p))):=
 (O8 B hB p hp hnm hpr).mono fun v h' _ hv=>by rw[hv];exact congrArg Value.string (Cb.1 (Wz hpr))
end
section
theorem Uw{s:ByteArray}{t:Bs}(h:tx s≠t):(s.toList == (mk t).toList)=false:=by rw[B3];exact decide_eq_false h
theorem QW{s:ByteArray}{t:Bs}(h:tx s=t):(s.toList == (mk t).toList)=true:=by rw[B3];exact decide_eq_true h
theorem B7{s:ByteArray}{t:Bs}(h:tx s≠t):Value.bool (s.toList == (mk t).toList)=.bool false:=congrArg _ (Uw h)
theorem C7{s:ByteArray}{t:Bs}(h:tx s=t):Value.bool (s.toList == (mk t).toList)=.bool true:=congrArg _ (QW h)
theorem Ux{s:ByteArray}{t:Bs}(h:t=tx s):((mk t).toList == s.toList)=true:=by rw[B3];exact decide_eq_true h
theorem Uy{s:ByteArray}{t:Bs}(h:t≠tx s):((mk t).toList == s.toList)=false:=by rw[B3];exact decide_eq_false h
theorem WA(b2 b3:Nat)(w:World):CallsDIn Fence.wide 0 prog 186 #[Pt b2,Pt b3] .returning w fun ed u w'=>(∃v,ed=.returned v)∧u=.returning∧w'=w:=by
 refine callsDIn_of_wpSIn func186 rfl trivial fun c₀ cs hu=>?_;apply wpSIn_seq;apply wpSIn_region;simp[wpOpsSIn,go_sem,recoverD,hu,ntmps186,Exit.thenS];refine wpSIn_cond (t:=false) (by simp[Act.eval,Array.replicate]) ?_;simp only[Afy,if_false];refine wpSIn_of_wpIn rfl (wpIn_skip ?_);cases c₀;simp_all [bodyPostS,results,results186]
theorem WB{B:Aq}{h:Ae}{M:List SA}{w:World}(b2 b3:Nat){x y z:Value}(I:Inv B h (box b2 [x,y] 61::box b3 [z] 4::M) w) :
  CallsDIn Fence.wide 0 prog 186 #[Pt b2,Pt b3] (.panicking brk) w fun ed u w'=>(∃v,ed=.returned v)∧u=.panicking AaU∧Inv B h (box b2 [.int .i64 0,.slice none 0 0] 61::box b3 [.bool false] 4::M) w':=by
 refine callsDIn_of_wpSIn func186 rfl trivial fun c₀ cs hu=>?_;apply wpSIn_seq;apply wpSIn_region;simp[wpOpsSIn,go_sem,recoverD,hu,ntmps186,Exit.thenS];refine wpSIn_cond (t:=true) (by simp[Act.eval,Array.replicate]) ?_;simp only[if_true];refine JT (N:=5) (kv:=[(0,Pt b2),(1,Pt b3)]) (Q':=fun x _ w'=>x=.normal∧Inv B h (box b2 [.int .i64 0,.slice none 0 0] 61::box b3 [.bool false] 4::M) w') ⟨rfl,rfl,trivial⟩ ?_ rfl (by simp) rfl ?_
 ·intro e;exact Abg<|AbB (v:=.agg #[.int .i64 _,.slice _ _ _]) (Y.build M4 Ain rfl rfl)<|Abj (Sx I AP 0 rfl rfl rfl rfl fun w I=>Abj (Sb I Br 1 rfl rfl rfl rfl fun w I=>Abh<|⟨rfl,I⟩))
 ·rintro x a' w' hd ⟨rfl,I⟩;refine⟨hd,_,rfl,?_⟩;simp[results,results186,I]
def dfrO(b2 b3:Nat):Deferred:={target:=.fn (.func 186) #[Pt b2,Pt b3],args:=#[]}
section
variable {B:Aq}{h:Ae}{M:List SA}{w:World}{fn:Func}{tmps:Array Value}{R:Ending→World→Prop}{b2 b3:Nat}
theorem LC(w:World):(invoke (dfrO b2 b3).target (dfrO b2 b3).args).run prog w=.ok (.enter 186 #[Pt b2,Pt b3]) w:=by
 simp[invoke,dfrO,go_sem]
theorem WC(k:∃v,(results fn tmps).run prog w=.ok v w∧R (.returned v) w):LeavesInM Fence.wide 0 prog fn tmps R [dfrO b2 b3] .returning w:=by
 refine⟨by simp,.inr ⟨(fun hd=>by cases hd),.func 186,_,_,_,rfl,LC _,fun _ _=>trivial,?_⟩⟩;refine(WA b2 b3 _).mono ?_;rintro ed u w' ⟨⟨v,rfl⟩,rfl,rfl⟩;exact k
theorem WD{x y z:Value}(I:Inv B h (box b2 [x,y] 61::box b3 [z] 4::M) w)
  (k:∀w',Inv B h (box b2 [.int .i64 0,.slice none 0 0] 61::box b3 [.bool false] 4::M) w'→∃v,(results fn tmps).run prog w'=.ok v w'∧R (.returned v) w'):LeavesInM Fence.wide 0 prog fn tmps R [dfrO b2 b3] (.panicking brk) w:=by
 refine⟨by simp,.inr ⟨(fun hd=>by cases hd),.func 186,_,_,_,rfl,LC _,fun _ _=>trivial,?_⟩⟩;refine(WB b2 b3 I).mono ?_;rintro ed u w' ⟨⟨v,rfl⟩,rfl,I⟩;exact k _ I
end
def Uz(l:List Prd)(s:Bs)(v:Value)(h:Ae):Prop:=
 match IC l s with
 |none=>v=.tuple #[.agg #[.int .i64 0,.slice none 0 0],.bool false]
 |some c=>∃a:Atm,v=.tuple #[a.val,.bool true]∧a.In h∧a.er=c
theorem Kj{l:List Prd}{s:Bs}{v:Value}{h:Ae}(hn:IC l s=none)(hv:v=.tuple #[.agg #[.int .i64 0,.slice none 0 0],.bool false]):Uz l s v h:=by unfold Uz;rw[hn];exact hv
def onX(B:Aq)(l:List Prd)(s:Bs)(b2 b3:Nat):PX:=fun ch W=>ch=brk∧IC l s=none∧∃hg x y z,Inv B hg [box b2 [x,y] 61,box b3 [z] 4] W
theorem XI(B:Aq)(hB:B.ok)(V:Iq B.h)(l:Sl Prd)(hl:HQ l B.h)(hp:∀p∈l.xs,AE p=true)(hnm:∀p∈l.xs,p.name.size≤140737488355328)(s:ByteArray)(hs:s.size≤4096):Fn prog 142 [l.val,.string s] B (Uz l.xs (tx s)):=by
 show Calls _ _ ([l.val,.string s]:List Value).toArray B.w _;refine Adv (args:=[l.val,.string s]) func142 rfl ntmps142 (by kernel_rfl) (by simp) fun e=>?_;have I:=Ab2 hB;refine AbQ<|AbS<|Abj (O.alloc I Ain rfl fun b4 w I=>Abj (O.alloc I zeroValue4 rfl fun b5 w I=>Abh<|AbQ<|AdI (v:=.func (.func 186) #[] #[Pt b4,Pt b5]) (dd:=dfrO b4 b5) (Acq rfl rfl) (by simp[execOp,resolve,ev,upd,Deferred.ofValue,dfrO]) ?_));have hpan:∀(e:Env) (ch:List PanicEntry) (W:World),e 4=(Pt b4)→e 5=(Pt b5)→onX B l.xs (tx s) b4 b5 ch W→Aaz prog f142 (fun x w'=>∃v h',x=.returned v∧Ext B w' h'∧Uz l.xs (tx s) v h') (.panic ch) e W [dfrO b4 b5]:=by
  rintro e ch W e4 e5 ⟨rfl,hn,hg,x,y,z,I⟩ tmps he;refine WD I fun w' I=>?_;exact⟨_,A9 (a:={tmps:=tmps,defers:=[]}) rfl (vs:=[.agg #[.int .i64 0,.slice none 0 0],.bool false]) (by rw[he];exact⟨⟨_,_,_,_,_,e4,AP,I.l5 0 rfl 0 2,rfl,rfl⟩,⟨_,_,_,_,_,e5,Br,I.l5 1 rfl 0 1,rfl,rfl⟩,trivial⟩),_,_,rfl,I.j5,Kj hn rfl⟩
 refine AbQ<|Acz _ (fun _ _ _ h=>h)<|Acg (v:=.slice _ _ _) Mv<|Acg (v:=.string _) Mv<|Bo.p (Acb I call74 (OO _ I.j6 V l hl s hs) rfl (fun w' g p=>hpan _ _ _ rfl rfl ⟨rfl,by unfold IC;rw[p],_,_,_,_,(I.grow g).front 1 rfl⟩) ?_);rintro _ h1 w I gl1 ⟨a,rfl,oa,la,ra⟩;refine Adr (Sx I AP 1 rfl rfl rfl rfl fun w I=>AcS ?_);have ai:a.In h1:=F3 oa la;have hl1:=hl.le gl1;by_cases hc:checkAtom l.xs a=0
 ·have ao:=Bc hp hc;have hsz:=hnm _ (Ba ao.pred);by_cases ht:A0 l.xs a=tx s
  ·have hO:IC l.xs (tx s)=some a.er:=by
    unfold IC;rw[ra];simp only;rw[BQ,EI,if_pos ⟨hc,ht⟩]
   refine AbQ<|Acz _ (fun _ _ _ h=>h)<|Acg (v:=.slice _ _ _) Mv<|Acg (v:=.agg #[_,_]) (Ld I AP 1 0 2 rfl rfl rfl)<|Adr (Abm I call117 (hc▸H6 _ I.j6 l hl1 a ai) rfl fun w I=>Acg (v:=.bool true) (Abs (AbI rfl rfl) (rfl))<|Acg (v:=.bool _) Mv<|Acs rfl (v:=.slice _ _ _) Mv<|Acs rfl (v:=.agg #[_,_]) (Ld I AP 1 0 2 rfl rfl rfl)<|AdW rfl (Abm I call25 (ht▸Hj _ I.j6 l hl1 a ai ao hsz) rfl fun w I=>Acs rfl (v:=.string _) Mv<|Acs rfl (v:=.bool true) (Y.is (Ab6 rfl rfl) ((by rw[B3];simp)))<|Acg (v:=.bool _) (Abo rfl rfl)<|Bo.p (Acb I call32 (Cf _ I.j6 true) rfl (fun w' g p=>by cases p) ?_)));rintro _ h5 w I hle ⟨_,rfl⟩;refine AcS<|AbQ<|AbS<|Ax (Ld I AP 1 0 2 rfl rfl rfl)<|Abj (Sx I AP 1 rfl rfl rfl rfl fun w I=>Abj (Sb I Br 0 rfl rfl rfl rfl fun w I=>Abh<|AcO ?_));repeat (first|refine BO ?_|refine Bq ?_)
   intro tmps he;refine WC ⟨_,A9 (a:={tmps:=tmps,defers:=[]}) rfl (vs:=[a.val,.bool true]) (by rw[he];exact⟨⟨_,_,_,_,_,rfl,AP,I.l5 1 rfl 0 2,rfl,rfl⟩,⟨_,_,_,_,_,rfl,Br,I.l5 0 rfl 0 1,rfl,rfl⟩,trivial⟩),_,_,rfl,I.j5,?_⟩;unfold Uz;rw[hO];exact⟨a,rfl,ai.le hle,rfl⟩
  ·have hO:IC l.xs (tx s)=none:=by
    unfold IC;rw[ra];simp only;rw[BQ,EI,if_neg fun h=>ht h.2]
   have hne:mk (A0 l.xs a)≠s:=fun e=>ht (by rw[←e]);refine AbQ<|Acz _ (fun _ _ _ h=>h)<|Acg (v:=.slice _ _ _) Mv<|Acg (v:=.agg #[_,_]) (Ld I AP 1 0 2 rfl rfl rfl)<|Adr (Abm I call117 (hc▸H6 _ I.j6 l hl1 a ai) rfl fun w I=>Acg (v:=.bool true) (Abs (AbI rfl rfl) (rfl))<|Acg (v:=.bool _) Mv<|Acs rfl (v:=.slice _ _ _) Mv<|Acs rfl (v:=.agg #[_,_]) (Ld I AP 1 0 2 rfl rfl rfl)<|AdW rfl (Abm I call25 (Hj _ I.j6 l hl1 a ai ao hsz) rfl fun w I=>Acs rfl (v:=.string _) Mv<|Acs rfl (v:=.bool false) (Y.is (Ab6 rfl rfl) ((by rw[B3,decide_eq_false (fun e=>hne (Cb.1 e))])))<|Acg (v:=.bool _) (Abo rfl rfl)<|Bo.p (Acb I call32 (Cf _ I.j6 false) rfl (fun w' g p=>hpan _ _ _ rfl rfl ⟨rfl,hO,_,_,_,_,(I.grow g).front 1 rfl⟩) ?_)));rintro _ h5 w I hle ⟨h,_⟩;refine AcS ?_;cases h
 ·have hO:IC l.xs (tx s)=none:=by
   unfold IC;rw[ra];simp only;rw[BQ,EI,if_neg fun h=>hc h.1]
  refine AbQ<|Acz _ (fun _ _ _ h=>h)<|Acg (v:=.slice _ _ _) Mv<|Acg (v:=.agg #[_,_]) (Ld I AP 1 0 2 rfl rfl rfl)<|Adr (Abm I call117 (H6 _ I.j6 l hl1 a ai) rfl fun w I=>Acg (v:=.bool false) (Abt (AbI rfl rfl) (hc))<|Acg (v:=.bool _) Mv<|AcU rfl<|AcU rfl<|AcU rfl<|AcU rfl<|AcU rfl<|Acg (v:=.bool _) (Abp rfl rfl)<|Bo.p (Acb I call32 (Cf _ I.j6 false) rfl (fun w' g p=>hpan _ _ _ rfl rfl ⟨rfl,hO,_,_,_,_,(I.grow g).front 1 rfl⟩) ?_));rintro _ h5 w I hle ⟨h,_⟩;refine AcS ?_;cases h
end
section
theorem EK(n:Nat):n<9223372036854775808→∀(B:Aq) (_:B.ok),Fn prog 45 [.int .i64 n] B (fun v _=>v=.string (mk (DI n))):=by
 induction n using Nat.strongRecOn with
 |_ n ih=>
  intro hn B hB;have e10:=Ut n;have ed:=XE n;obtain⟨c,hc⟩:∃c:UInt8,c=UInt8.ofNat (48+((n % 10:Nat):Int)).toNat:=⟨_,rfl⟩;have hb:(c.toNat:Int)=48+((n % 10:Nat):Int):=by rw[hc];exact LL (by omega) (by omega)
  have hce:c=UInt8.ofNat (48+n % 10):=by rw[hc];congr 1<;>omega
  by_cases h10:n<10
  ·have hd:mk (DI n)=⟨#[c]⟩:=by rw[EG h10,hce,Nat.mod_eq_of_lt h10]
   refine Fo hB func45 rfl ntmps45 fun e I=>Sr<|At0 Ag<|Abh<|Sr<|Ai Mv<|Ai (AdR rfl rfl (by omega))<|Ai (Dd rfl rfl)<|AbB (v:=.int .u8 (c.toNat:Int)) ((AcV (by rw[Ait];rfl) AiC (Jg (by omega) (by omega)) rfl).is (by rw[hb,e10]))<|Abj (AbY (xs:=[c]) (enc:=Xg) I AiA sizeOf5 zeroValue5 rfl (Nb rfl) rfl rfl (by decide) (fun _=>rfl) fun b8 h8 w I le8 sl8=>At0 (AdG I AiA AiC Ah9 rfl sl8)<|At0 Ag<|Abh<|Abi<|Sr<|Ai Mv<|AT (Abs (AbC rfl rfl) ((by omega)))<|Abh<|Abw rfl<|Sr<|At0 Mv<|At0 Ag<|Abh<|Wr ?_);exact Rm (v:=.string _) rfl rfl I (by rw[hd];rfl)
  ·have hd:mk (DI n)=mk (DI (n / 10))++⟨#[c]⟩:=Cb.1 (by rw[BD,I8 h10,hce]<;>rfl);have hs:=I9 (n:=n / 10) (by omega);refine Fo hB func45 rfl ntmps45 fun e I=>Sr<|At0 Ag<|Abh<|Sr<|Ai Mv<|Ai (AdR rfl rfl (by omega))<|Ai (Dd rfl rfl)<|AbB (v:=.int .u8 (c.toNat:Int)) ((AcV (by rw[Ait];rfl) AiC (Jg (by omega) (by omega)) rfl).is (by rw[hb,e10]))<|Abj (AbY (xs:=[c]) (enc:=Xg) I AiA sizeOf5 zeroValue5 rfl (Nb rfl) rfl rfl (by decide) (fun _=>rfl) fun b8 h8 w I le8 sl8=>At0 (AdG I AiA AiC Ah9 rfl sl8)<|At0 Ag<|Abh<|Abi<|Sr<|Ai Mv<|AF (Abt (AbC rfl rfl) ((by omega)))<|Abh<|Abq rfl<|Abk<|Sr<|Ai Mv<|Ai (Aeu rfl rfl (by decide) ⟨by omega,by omega⟩)<|Abj (Abm I call45 (ed▸ih (n / 10) (by omega) (by omega) _ I.j6) rfl fun w I=>At0 Mv<|At0 (AbP rfl rfl (by rw[Ar];show _+1≤_;omega))<|At0 Ag<|Abh<|Wr ?_));exact Rm (v:=.string _) rfl rfl I (by rw[hd];rfl)
theorem RH{l:List Int}{x:Int}:Dt (l++[x])=(if l=[] then [] else Dt l++[32])++DI x.toNat:=by
 unfold Dt;rw[AfM];split
 ·rename_i h;subst h;rfl
 ·rename_i h;rw[AgQ,Gl (by simpa using h),Afe]
theorem Ii(B:Aq)(hB:B.ok)(s:Sl Int)(hs:s.Is 1 KG B.h)(hb:∀x∈s.xs,0≤x∧x≤9223372036854775807)(hn:s.xs.length≤4096):Fn prog 96 [s.val] B (fun v _=>v=.string (mk (Dt s.xs))):=by
 refine Fo hB func96 rfl ntmps96 fun e I=>Sr<|At0 Ag<|Abh<|Sr<|At0 Ag<|Abh<|Abi<|Sr<|Ai Ag<|Abh<|WP.block<|Abx (σ:=Nat) (fun k=>[(0,s.val),(3,.string (mk (Dt (s.xs.take k)))),(4,.int .i64 k)]) (fun k w=>k≤s.xs.length∧Inv B B.h [] w) (fun k=>s.xs.length-k) ⟨0,⟨rfl,rfl,rfl,trivial⟩,Afa _,I⟩ ?_;rintro k e w ⟨hk,I⟩;refine Abi<|Sr<|Ai Mv<|As0 Mv<|Ai (AbA Aie rfl)<|Ad (AbC rfl rfl)<|Abh ?_;refine Abl rfl (fun h8=>?_) (fun h8=>?_)
 ·have hk':k<s.xs.length:=by omega
  have E:=Sl.Is.at hs hk';have hx:=hb _ (Ae5 hk');obtain⟨x,hxe⟩:∃x,s.xs[k]=x:=⟨_,rfl⟩;have hnx:s.xs.take (k+1)=s.xs.take k++[x]:=by rw[AfS,Ae4 hk',hxe];rfl
  have hln:=EJ (l:=s.xs.take k) fun y hy=>by have:=hb y (AfX hy);omega
  have hlt:(s.xs.take k).length≤4096:=by rw[Afj];omega
  rw[hxe] at E hx;obtain⟨n,rfl⟩:∃n:Nat,x=n:=⟨x.toNat,by omega⟩;have hd:=I9 (n:=n) (by omega);obtain⟨pre,hpre⟩:∃z,(if s.xs.take k=[] then [] else Dt (s.xs.take k)++[32])=z:=⟨_,rfl⟩;have hpl:pre.length≤86017:=by
   rw[←hpre];split
   ·simp
   ·rw[Ae2,Afv];omega
  have hso:Dt (s.xs.take (k+1))=pre++DI n:=by rw[hnx,RH,hpre,Afs]
  refine Abk<|Abi<|WP.block<|Abi<|Sr<|Ai Mv<|Ad (AbL rfl rfl)<|Abh ?_;refine Acc (σ:=Unit) (fun _=>[(0,s.val),(3,.string (mk pre)),(4,.int .i64 k)]) (fun _ w=>Inv B B.h [] w) ?_ ?_
  ·refine Abl rfl (fun h12=>?_) (fun h12=>?_)
   ·have hne:s.xs.take k≠[]:=fun e=>by have h2:=congrArg List.length e;rw[Afj,Afc] at h2;omega
    rw[if_neg hne] at hpre;refine Abg<|At0 Mv<|At0 (AbP rfl rfl (by rw[Ar];show _+1≤_;omega))<|At0 Ag<|Abh ?_;exact⟨(),⟨rfl,congrArg Value.string (Cb.1 (by rw[BD,DO,DO,←hpre]<;>rfl)),rfl,trivial⟩,I⟩
   ·have h0:k=0:=by omega
    subst h0;rw[if_pos (by rfl)] at hpre;refine Abk ?_;exact⟨(),⟨rfl,by rw[←hpre];rfl,rfl,trivial⟩,I⟩
  rintro _ e w I;refine Abg<|At0 Mv<|As0 Mv<|Ai Mv<|Ap (Ix E Aie Aij rfl rfl)<|Ai (Abn An rfl (I.rd (E.rd.part 0 1)) rfl rfl)<|Abj (Abm I call45 (EK n (by omega) _ I.j6) rfl fun w I=>At0 (AbP rfl rfl (by rw[Ar,Ar];omega))<|At0 Ag<|Abh<|Abg<|Ai Mv<|Ai (Dd rfl rfl)<|Ai Ag<|Abh ?_);refine⟨k+1,⟨⟨rfl,congrArg Value.string (Cb.1 (by rw[BD,DO,DO,DO,hso])),rfl,trivial⟩,by omega,I⟩,by omega⟩
 obtain rfl:k=s.xs.length:=by omega
 refine Abz<|Sr<|At0 Mv<|At0 Ag<|Abh<|Wr ?_;exact Rm (v:=.string _) rfl rfl I (by simp only[tup];rw[Afo])
theorem QX:∀{s:Bs} {a:Int},0≤a→(∀c∈s,Kw c=true)→0≤s.foldl (fun n c=>10*n+(c.toNat:Int)-48) a
 |[],_,h,_=>h
 |c::r,a,h,hd=>by
  have hc:=hd c (by simp);unfold Kw at hc;simp only[Afn,decide_eq_true_eq] at hc;rw[Agk];exact QX (by omega) fun x hx=>hd x (Ae8 _ hx)
theorem WE{s:Bs}{k:Nat}(h:Lv s=some k):(∀c∈s,Kw c=true)∧1≤s.length∧s.length≤6:=by
 obtain⟨h1,h2,_⟩:=N1 h;have hp:=Mz k;have hd:=QM k;rw[←h1] at hp hd;exact⟨hd,hp,h2⟩
def U5(s:Bs):Int:=match Lv s with|some k=>k|none=>-1
theorem Kk{s:Bs}(h:Lv s=none):U5 s=-1:=by unfold U5;rw[h]
theorem UA(B:Aq)(hB:B.ok)(s:ByteArray)(hs:s.size≤4096):Fn prog 103 [.string s] B (fun v _=>v=.int .i64 (U5 (tx s))):=by
 have hl:=BF s;have hno:(¬((∀c∈tx s,Kw c=true)∧1≤(tx s).length∧(tx s).length≤6))→U5 (tx s)=-1:=fun h=>Kk (by
  cases hd:Lv (tx s) with
  |none=>rfl
  |some k=>exact absurd (WE hd) h)
 refine Fo hB func103 rfl ntmps103 fun e I=>Sr<|Ai Ag<|Abh<|Abi<|Sr<|At0 Mv<|Ai (AbF Ah9 rfl)<|Abj (Abm I call42 (A2 _ I.j6 s.size 1 6) rfl fun w I=>Ab (Y.not rfl)<|Abh ?_);refine AbG rfl (fun h7=>?_) (fun h7=>?_)
 ·have h7':¬within (s.size:Int) 1 6:=by simpa using h7
  refine Sr<|Ai Ag<|Abh<|Wr ?_;exact Rm (v:=.int .i64 _) rfl rfl I (by simp only[tup];rw[hno fun h=>h7' (by unfold within;omega)])
 have h7':within (s.size:Int) 1 6:=by simpa using h7
 unfold within at h7';refine Abk<|Abi<|Sr<|Ai Ag<|Abh<|WP.block<|Abx (σ:=Nat) (fun k=>[(0,.string s),(3,.int .i64 k)]) (fun k w=>k≤s.size∧(∀c∈(tx s).take k,Kw c=true)∧Inv B B.h [] w) (fun k=>s.size-k) ⟨0,⟨rfl,rfl,trivial⟩,Afa _,(fun c hc=>by simp at hc),I⟩ ?_;rintro k e w ⟨hk,hdg,I⟩;refine Abi<|Sr<|Ai Mv<|At0 Mv<|Ai (AbF Ah9 rfl)<|Ad (AbC rfl rfl)<|Abh ?_;refine Abl rfl (fun h11=>?_) (fun h11=>?_)
 ·have hk':k<(tx s).length:=by omega
  have hnx:(tx s).take (k+1)=(tx s).take k++[(tx s)[k]]:=by rw[AfS,Ae4 hk'];rfl
  have hmem:=Ae5 hk';obtain⟨c,hc⟩:∃c,(tx s)[k]=c:=⟨_,rfl⟩;rw[hc] at hnx hmem;have hb:=c.toNat_lt;have hget:s[k]?=some c:=by
   rw[←hc];have hk2:k<s.size:=by omega
   rw[getElem?_pos s k hk2];rfl
  have hbad:Kw c=false→U5 (tx s)=-1:=fun h=>hno fun hh=>by rw[hh.1 c hmem] at h;cases h
  by_cases h1:(c.toNat:Int)<48
  ·refine Abk<|Abi<|WP.block<|Sr<|At0 Mv<|Ai Mv<|Aw (Aci Ah9 rfl rfl (AfR _) hget)<|AT (Abs (AbC rfl rfl) (h1))<|Ab Mv<|Gg<|Gg<|Gg<|Gg<|Ab (Abo rfl rfl)<|Abh<|Abw rfl<|Sr<|Ai Ag<|Abh<|Wr ?_;exact Rm (v:=.int .i64 _) rfl rfl I (by simp only[tup];rw[hbad (by unfold Kw;simp;omega)])
  by_cases h2:(c.toNat:Int)>57
  ·refine Abk<|Abi<|WP.block<|Sr<|At0 Mv<|Ai Mv<|Aw (Aci Ah9 rfl rfl (AfR _) hget)<|AF (Abt (AbC rfl rfl) (h1))<|Ab Mv<|Gt Mv<|Gi Mv<|Gw (Aci Ah9 rfl rfl (AfR _) hget)<|GT (Abs (AbL rfl rfl) (h2))<|Ab (Abp rfl rfl)<|Abh<|Abw rfl<|Sr<|Ai Ag<|Abh<|Wr ?_;exact Rm (v:=.int .i64 _) rfl rfl I (by simp only[tup];rw[hbad (by unfold Kw;simp;omega)])
  refine Abk<|Abi<|WP.block<|Sr<|At0 Mv<|Ai Mv<|Aw (Aci Ah9 rfl rfl (AfR _) hget)<|AF (Abt (AbC rfl rfl) (h1))<|Ab Mv<|Gt Mv<|Gi Mv<|Gw (Aci Ah9 rfl rfl (AfR _) hget)<|GF (Abt (AbL rfl rfl) (h2))<|Ab (Abp rfl rfl)<|Abh<|Abq rfl<|Abk<|Abg<|Ai Mv<|Ai (Dd rfl rfl)<|Ai Ag<|Abh ?_;refine⟨k+1,⟨⟨rfl,rfl,trivial⟩,by omega,fun x hx=>?_,I⟩,by omega⟩;rw[hnx] at hx;rcases Afu.1 hx with hx|hx
  ·exact hdg x hx
  ·rw[Afl] at hx;subst hx;unfold Kw;simp;omega
 obtain rfl:k=s.size:=by omega
 rw[AfW (by omega)] at hdg;have hsa:BP (tx s)=Up (tx s):=by unfold BP;rw[if_pos ⟨by omega,by omega⟩];rfl
 have hpos:0≤BP (tx s):=by rw[hsa];exact QX (Ahh 0) hdg
 have hle:BP (tx s)≤40000000:=by
  have bd:=(ME (l:=tx s) (k:=(tx s).length) (Afg _)).2;have b2:=(QV (k:=(tx s).length) (by omega)).2;rw[Afo] at bd;have:Oa (tx s)=Up (tx s):=rfl;omega
 obtain⟨n,hN⟩:∃n:Nat,BP (tx s)=n:=⟨(BP (tx s)).toNat,by omega⟩;by_cases hd:DI n=tx s
 ·have hv:U5 (tx s)=n:=by unfold U5 Lv;rw[hN,Afs,if_pos ⟨by omega,hd.symm⟩]
  refine Abz<|Abi<|Sr<|At0 Mv<|Abj (Abm I call48 (hN▸DK _ I.j6 s hs) rfl fun w I=>Abj (Abm I call45 (EK n (by omega) _ I.j6) rfl fun w I=>At0 Mv<|AF (Y.is (Ac4 rfl rfl) ((by rw[Ux hd];rfl)))<|Abh<|Abq rfl<|Abk<|Sr<|At0 Mv<|Abj (Abm I call48 (hN▸DK _ I.j6 s hs) rfl fun w I=>Ai Ag<|Abh<|Wr ?_)));exact Rm (v:=.int .i64 _) rfl rfl I (by simp only[tup];rw[hv])
 ·have hv:U5 (tx s)=-1:=Kk (by unfold Lv;rw[hN,Afs,if_neg fun h=>hd h.2.symm]);refine Abz<|Abi<|Sr<|At0 Mv<|Abj (Abm I call48 (hN▸DK _ I.j6 s hs) rfl fun w I=>Abj (Abm I call45 (EK n (by omega) _ I.j6) rfl fun w I=>At0 Mv<|AT (Y.is (Ac4 rfl rfl) ((by rw[Uy hd];rfl)))<|Abh<|Abw rfl<|Sr<|Ai Ag<|Abh<|Wr ?_));exact Rm (v:=.int .i64 _) rfl rfl I (by simp only[tup];rw[hv])
theorem Kl(B:Aq)(hB:B.ok)(l:Sl Prd)(hl:HQ l B.h)(nk:NOk l.xs)(hp:∀p∈l.xs,AE p=true)(hnm:∀p∈l.xs,p.name.size≤140737488355328)(s:ByteArray)(hs:s.size≤4096):Fn prog 101 [l.val,.string s] B (Uz l.xs (tx s)):=by
 refine Fo hB func101 rfl ntmps101 fun e I=>Sr<|Abj (O.alloc I Ain rfl fun b4 w I=>Ab Ag<|Abh<|Sr<|As0 Mv<|At0 Mv<|Abj (AbE I call108 (GX _ I.j6 l hl s hs) rfl ?_));rintro _ h1 w I gl1 ⟨a,rfl,oa,la,ra⟩;refine Abj (O.alloc I Ain rfl fun b6 w I=>Abj (Sx I AP 0 rfl rfl rfl rfl fun w I=>Abh ?_));have ai:a.In h1:=F3 oa la;have hl1:=hl.le gl1;have hO:=YM nk hp ra;by_cases hc:checkAtom l.xs a=0
 ·have ao:=Bc hp hc;have hsz:=hnm _ (Ba ao.pred);by_cases ht:A0 l.xs a=tx s
  ·rw[if_pos ⟨hc,ht⟩] at hO;refine Abi<|Sr<|As0 Mv<|Ax (Ld I AP 0 0 2 rfl rfl rfl)<|Abj (Abm I call105 (hc▸CK _ I.j6 l hl1 a ai) rfl fun w I=>AF (Abt (AbK rfl rfl) ((fun h=>h rfl)))<|Ab Mv<|Gs Mv<|Gx (Ld I AP 0 0 2 rfl rfl rfl)<|Ab8 rfl (Abm I call46 (ht▸GW _ I.j6 l hl1 a ai ao hsz) rfl fun w I=>Gt Mv<|GF (Y.is (Ac4 rfl rfl) ((by rw[B3];simp)))<|Ab (Abp rfl rfl)<|Abh<|Abq rfl<|Abk<|Sr<|Ax (Ld I AP 0 0 2 rfl rfl rfl)<|Abj (Sx I AP 1 rfl rfl rfl rfl fun w I=>Ab Ag<|Abh<|Wr ?_)));exact BH.mk (vs:=[.agg #[_,_],.bool _]) rfl ⟨⟨_,_,_,_,_,rfl,AP,I.l5 1 rfl 0 2,rfl,rfl⟩,rfl,trivial⟩ I.j5 (by unfold Uz;rw[hO];exact⟨a,rfl,ai,rfl⟩)
  ·rw[if_neg fun h=>ht h.2] at hO;have hne:mk (A0 l.xs a)≠s:=fun e=>ht (by rw[←e]);refine Abi<|Sr<|As0 Mv<|Ax (Ld I AP 0 0 2 rfl rfl rfl)<|Abj (Abm I call105 (hc▸CK _ I.j6 l hl1 a ai) rfl fun w I=>AF (Abt (AbK rfl rfl) ((fun h=>h rfl)))<|Ab Mv<|Gs Mv<|Gx (Ld I AP 0 0 2 rfl rfl rfl)<|Ab8 rfl (Abm I call46 (GW _ I.j6 l hl1 a ai ao hsz) rfl fun w I=>Gt Mv<|GT (Y.is (Ac4 rfl rfl) ((by rw[B3,decide_eq_false (fun e=>hne (Cb.1 e))];rfl)))<|Ab (Abp rfl rfl)<|Abh<|Abw rfl<|Sr<|AbB (v:=.agg #[.int .i64 _,.slice _ _ _]) (Y.build M4 Ain rfl rfl)<|Abj (Sx I AP 1 rfl rfl rfl rfl fun w I=>Ab Ag<|Abh<|Wr ?_)));exact BH.mk (vs:=[.agg #[_,_],.bool _]) rfl ⟨⟨_,_,_,_,_,rfl,AP,I.l5 1 rfl 0 2,rfl,rfl⟩,rfl,trivial⟩ I.j5 (Kj hO rfl)
 ·rw[if_neg fun h=>hc h.1] at hO;refine Abi<|Sr<|As0 Mv<|Ax (Ld I AP 0 0 2 rfl rfl rfl)<|Abj (Abm I call105 (CK _ I.j6 l hl1 a ai) rfl fun w I=>AT (Abs (AbK rfl rfl) (hc))<|Ab Mv<|Gg<|Gg<|Gg<|Gg<|Gg<|Ab (Abo rfl rfl)<|Abh<|Abw rfl<|Sr<|AbB (v:=.agg #[.int .i64 _,.slice _ _ _]) (Y.build M4 Ain rfl rfl)<|Abj (Sx I AP 1 rfl rfl rfl rfl fun w I=>Ab Ag<|Abh<|Wr ?_));exact BH.mk (vs:=[.agg #[_,_],.bool _]) rfl ⟨⟨_,_,_,_,_,rfl,AP,I.l5 1 rfl 0 2,rfl,rfl⟩,rfl,trivial⟩ I.j5 (Kj hO rfl)
section
variable (B:Aq)(hB:B.ok)(l:Sl Prd)(hl:HQ l B.h)(nk:NOk l.xs)(hp:∀p∈l.xs,AE p=true)(hnm:∀p∈l.xs,p.name.size≤140737488355328)(s:ByteArray)(hs:s.size≤4096)
include hB hl nk hp hnm hs
theorem UB(hn:IC l.xs (tx s)=none):Fn prog 101 [l.val,.string s] B (fun v _=>v=.tuple #[.agg #[.int .i64 0,.slice none 0 0],.bool false]):=
 (Kl B hB l hl nk hp hnm s hs).mono fun v h' _ hv=>by unfold Uz at hv;rw[hn] at hv;exact hv
theorem UC{c:Atm}(hn:IC l.xs (tx s)=some c):Fn prog 101 [l.val,.string s] B (fun v h=>∃a:Atm,v=.tuple #[a.val,.bool true]∧a.In h∧a.er=c):=
 (Kl B hB l hl nk hp hnm s hs).mono fun v h' _ hv=>by unfold Uz at hv;rw[hn] at hv;exact hv
end
end
section
open Go Go.RowKit Go.Proofs Go.Proofs.Tryz Go.Shelf
theorem Aek(w:World)(os:Array Obj):CZ w (Go.Sort.grow w os):=⟨rfl,rfl,rfl,by simp[Go.Sort.grow],fun j hj=>by simp[Go.Sort.grow,Age,hj]⟩
section
variable (B:Aq)(hB:B.ok)
include hB
theorem MF(V:Iq B.h)(x:Int)(h0:0≤x)(h1:x≤9223372036854775807):Fn prog 24 [.int .i64 x] B (fun v _=>v=.string (mk (DI x.toNat))):=by
 obtain⟨T,f,ht⟩:=V.tab;have htab:∀s,prog.globalNamed s=some 1→Lib.TabIs prog B.w s .u64 Lib.pow10Tab:=by
  intro s hs;have:=hB _ _ ht;unfold Lib.TabIs World.var?;rw[hs];simp only[AhP];rw[this]
 refine(Any.strconv_Itoa laysM171 x (by omega) h1 B.w (htab _ (by kernel_rfl))).mono ?_;rintro e w ⟨rfl,k,os,rfl⟩;have hi:Lib.itoa x=DI x.toNat:=by unfold Lib.itoa;rw[if_neg (by omega)]
 exact⟨_,_,rfl,Ext.of hB (CZ.trans (CZ.drewN _ k) (Aek _ _)),by rw[hi]⟩
end
theorem HN(B:Aq)(hB:B.ok)(V:Iq B.h)(s:Sl Int)(hs:s.Is 1 KG B.h)(hb:∀x∈s.xs,0≤x∧x≤9223372036854775807)(hn:s.xs.length≤4096):Fn prog 88 [s.val] B (fun v _=>v=.string (mk (Dt s.xs))):=by
 refine Fo hB func88 rfl ntmps88 fun e I=>Sr<|At0 Ag<|Abh<|Sr<|As0 Ag<|Abh<|Abi<|Sr<|As0 Mv<|Ai (AbA Aie rfl)<|Ai Mv<|Abh<|WP.block ?_;refine Abx (σ:=Nat×Option Addr×Nat×Ae) (fun z=>[(3,.slice z.2.1 z.1 z.2.2.1),(6,s.val),(7,.int .i64 s.xs.length),(8,.int .i64 z.1)])
  (fun z w=>Inv B z.2.2.2 [Ao 9 1 (.slice z.2.1 z.1 z.2.2.1) z.1 (((s.xs.take z.1).map fun x=>mk (DI x.toNat)).flatMap sEn)] w∧z.1≤s.xs.length∧B.h.le z.2.2.2) (fun z=>s.xs.length-z.1)
  ⟨(0,none,0,B.h),⟨rfl,rfl,rfl,rfl,trivial⟩,I.l9 9 1,Afa _,Ae.le.refl _⟩ ?_
 rintro⟨k,q,c,hh⟩ e w ⟨I,hk,gl⟩;dsimp only at I hk gl ⊢;refine Sr<|Ad (AbC rfl rfl)<|Abh<|Abi ?_;refine Abl rfl (fun h9=>?_) (fun h9=>?_)
 ·have hk':k<s.xs.length:=by omega
  have E:=Sl.Is.at (hs.le gl) hk';have hx:=hb _ (Ae5 hk');obtain⟨x,hxe⟩:∃x,s.xs[k]=x:=⟨_,rfl⟩;have hnx:s.xs.take (k+1)=s.xs.take k++[x]:=by rw[AfS,Ae4 hk',hxe];rfl
  rw[hxe] at E hx;refine Abk<|Abi<|WP.block<|Sr<|Ap (Ix E Aie Aij rfl rfl)<|Ai (Abn An rfl (I.rd (E.rd.part 0 1)) rfl rfl)<|Ai Ag<|Abh<|Abg<|As0 Mv<|Ai Mv<|Abj (Abm I call24 (MF _ I.j6 (V.le gl) x hx.1 hx.2) rfl fun w I=>Abj (AbY (xs:=[mk (DI x.toNat)]) (enc:=sEn) I Ais AiJ zeroValue9 rfl (Nb rfl) rfl rfl (by decide) (fun _=>rfl) fun b15 h15 w I le15 sl15=>Abj (Ab0 I Ais Aah 0 rfl rfl rfl (I.rd (sl15 0 _ rfl).2) rfl rfl (by decide) (by omega) (by omega) fun b16 c16 w I=>As0 Ag<|Abh<|Abg<|Ai (Dd rfl rfl)<|Ai Mv<|Abh ?_)));refine⟨(k+1,some ⟨b16,0,none⟩,c16,h15),⟨⟨rfl,rfl,rfl,rfl,trivial⟩,?_,by dsimp only;omega,gl.trans le15⟩,by dsimp only;omega⟩;dsimp only;rw[hnx,AfM,Afm];exact I
 obtain rfl:k=s.xs.length:=by omega
 rw[Afo] at I;have hcap:=FC (I.at 0 rfl);obtain⟨h10,s1,le10,hv,hx,is,J⟩:=I.p8 (fun _=>rfl) (by simp);clear I;obtain⟨sa,sc,sx⟩:=s1;dsimp only at hx;subst hx;have hv':=hv;unfold Sl.val at hv';dsimp only at hv';injection hv' with e1 e2 e3;subst e1;subst e3;have I:=J;have hlen:(s.xs.map fun x=>mk (DI x.toNat)).map tx=s.xs.map fun x=>DI x.toNat:=by rw[AgJ];rfl
 have hj:=EJ (l:=s.xs) fun x hx=>by have:=hb x hx;omega
 have hjo:=IU ⟨w,h10⟩ I.j6 ⟨sa,sc,s.xs.map fun x=>mk (DI x.toNat)⟩ ⟨is,by simp;omega⟩ (by simpa using hcap) ⟨#[32]⟩ (by rw[hlen];show(Dt s.xs).length≤_;omega);rw[hlen] at hjo;unfold Sl.val at hjo;simp only[Afw] at hjo;refine Abz<|Sr<|As0 Mv<|Abj (Abm I call26 (hjo) rfl fun w I=>At0 Ag<|Abh<|Wr ?_);exact Rm (v:=.string _) rfl rfl I (rfl)
theorem CM(B:Aq)(hB:B.ok)(n:Nat)(hn:n<10):Fn prog 93 [.int .i64 n] B (fun v _=>v=.string (mk (EY n))):=by
 have hl:(dgL n).length≤2:=by unfold dgL;split<;>simp
 refine Fo hB func93 rfl ntmps93 fun e I=>Sr<|At0 Ag<|Abh<|Sr<|Ai Mv<|Abj (Abm I call24 (GL _ I.j6 n (by omega)) rfl fun w I=>At0 (AbP rfl rfl (by have:=Ar (dgL n);show 6+(mk (dgL n)).size≤_;omega))<|At0 Ag<|Abh<|Wr ?_);exact Rm (v:=.string _) rfl rfl I (by simp only[tup];unfold EY;rw[YJ (by omega)];exact congrArg Value.string (Cb.1 (by simp only[DO,BD,txl,Afe,Afs,AfH,AfC])))
end
end Go.TF
