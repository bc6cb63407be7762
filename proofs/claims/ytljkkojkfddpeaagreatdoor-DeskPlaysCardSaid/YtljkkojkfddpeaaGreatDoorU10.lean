/- Texts Semi4 Tra2 Tra3 Tra5 Base23 Dsr2 Dsk5 Base33 Dsk6 SpDesk3 Base32 Txr4 Txr5. -/
import Derived.Test.YtljkkojkfddpeaaGreatDoorU9
import Derived.OrdersIn
import Derived.Shelf.Strings.BuilderK
set_option maxRecDepth 20000
set_option maxHeartbeats 16000000
set_option linter.unusedVariables false
set_option linter.unusedSimpArgs false
namespace Go.TF
open Go Go.RowKit Go.Proofs Go.Proofs.Tryz
section
theorem WQ(B:Aq)(hB:B.ok)(p:Prg)(hp:p.In B.h)(hpr:Ac p=0)(x:Stp)(r:Rul)(h0:0≤x.rule)(hr:p.rules.xs[x.rule.toNat]?=some r)(hx:KE x.vars)(st:Int)(fr:Sl Fct)(hf:Cv fr B.h)(okf:FOk p.preds.xs fr.xs) :
  Fn prog 148 [p.val,x.val,.int .i64 st,fr.val] B (fun v _=>v=.bool (MQ p (Ak p) st fr.xs x)):=by
 have rk:=BA hpr;have hrm:=Afk hr;have ok:=rk r hrm;have hgd:p.rules.xs.getD x.rule.toNat default=r:=by rw[Ae3,hr];rfl
 refine Fo hB func148 rfl ntmps148 fun e I=>Sr<|Abj (O.box (v:=.agg #[_,_]) I rfl rfl fun b4 w I=>Abj (O.box (v:=.agg #[_,_,_,_]) I rfl rfl fun b5 w I=>Ab Ag<|Abh<|Sr<|Ax (Ld I As 1 0 2 rfl rfl rfl)<|Abj (AbE I call97 (C6 _ I.j6 p hp hpr) rfl ?_)));rintro _ h1 w I le1 ⟨s,hS,hI,rfl⟩;refine As0 Ag<|Abh ?_;have eM:=Bl hS;have hsl:s.xs.length=p.preds.xs.length:=hS.sol.len;have hp1:=hp.le le1;have Er:=hp1.rules.is.el.el hr;have ir:=hp1.rules.each r hrm;have hsb:=ir.body.is.small;refine Sr<|Ap (Abr AU rfl)<|As0 (Ld I Cc 1 1 1 rfl rfl rfl)<|Ap (Abu FV rfl)<|Ai (Ld I An 0 0 1 rfl rfl rfl)<|Ap (AbJ Er Aic Aiv rfl rfl h0 rfl)<|AbB (v:=.agg #[_,_,_,_,_]) (Abn C0 rfl (I.rd (Er.rd.part 0 5)) rfl rfl)<|Abj (O.alloc I Aip rfl fun b10 w I=>Abj (Ab3 (v:=.agg #[_,_,_,_,_]) I C0 0 rfl rfl rfl rfl rfl rfl (Nb rfl) rfl fun w I=>Abh<|Abi<|Sr<|Ai Ag<|Abh<|WP.block ?_));refine Abx (σ:=Nat) (fun k=>[(2,.int .i64 st),(3,fr.val),(4,Pt b4),(5,Pt b5),(9,s.val),(10,Pt b10),(11,.int .i64 k)])
  (fun k w=>Inv B h1 [box b10 r.enc 64,box b5 x.enc 169,box b4 p.enc 25] w∧k≤r.body.xs.length∧((r.body.xs.take k).any fun t=>!t.neg && decide (lv s.xs t.atom.pred=st) && isF fr.xs (groundF t.atom x.vars))=false) (fun k=>r.body.xs.length-k)
  ⟨0,⟨rfl,rfl,rfl,rfl,rfl,rfl,rfl,trivial⟩,I,Afa _,rfl⟩ ?_
 rintro k e w ⟨I,hk,hn⟩;refine Abi<|Sr<|Ai Mv<|Ap (Abr AG rfl)<|As0 (Ld I Bi 0 4 1 rfl rfl rfl)<|Ai (AbA Aib rfl)<|Ad (AbC rfl rfl)<|Abh ?_;refine Abl rfl (fun h4=>?_) (fun h4=>?_)
 ·have hk':k<r.body.xs.length:=by omega
  have E1:=ir.body.is.at hk';have ib:=ir.body.each _ (Ae5 hk');have ab:=Bc ok.preds (ok.body _ (Ae5 hk'));have pb:=ab.pf ok.five hx 0;have El1:=hI.el.el (DG hsl ab.pred.1 ab.pred.2);have hnx:=Qr (fun t:Ltl=>!t.neg && decide (lv s.xs t.atom.pred=st) && isF fr.xs (groundF t.atom x.vars)) hk';rw[hn,Agy] at hnx;cases hg:r.body.xs[k].neg
  ·by_cases hlv:lv s.xs r.body.xs[k].atom.pred=st
   ·refine Abk<|Abi<|WP.block<|Abi<|Sr<|Ap (Abr AG rfl)<|As0 (Ld I Bi 0 4 1 rfl rfl rfl)<|Ai Mv<|Ap (Ix E1 Aib Ail rfl rfl)<|Ap (Abu BK rfl)<|AF (Y.b (Abn Br rfl (I.rd (E1.rd.part 0 1)) rfl rfl) (hg))<|Ab Mv<|Gs Mv<|Gp (Abr AG rfl)<|Gs (Ld I Bi 0 4 1 rfl rfl rfl)<|Gi Mv<|Gp (Ix E1 Aib Ail rfl rfl)<|Gp (Abr Bk rfl)<|Gp (Abu AW rfl)<|Gi (Abn An rfl (I.rd (E1.rd.part 1 1)) rfl rfl)<|Gp (AbJ El1 Aie Aij rfl rfl ab.pred.1 rfl)<|Gi (Abn An rfl (I.rd (El1.rd.part 0 1)) rfl rfl)<|Gi Mv<|GF (Abt (AbK rfl rfl) ((fun h=>h hlv)))<|Ab (Abp rfl rfl)<|Abh<|Abq rfl<|Abk<|Abi<|AbD AC I (by kernel_rfl)<|Qs (fun w I=>Mv)<|Qp (fun w I=>Abr AG rfl)<|Qs (fun w I=>Ld I Bi 0 4 1 rfl rfl rfl)<|Qi (fun w I=>Mv)<|Qp (fun w I=>Ix E1 Aib Ail rfl rfl)<|Qp (fun w I=>Abr Bk rfl)<|Qx (fun w I=>Abn AP rfl (I.rd (E1.rd.part 1 2)) rfl rfl)<|Qp (fun w I=>Abr BV rfl)<|Qy (fun w I=>Ld I CI 1 1 3 rfl rfl rfl)<|Am.c (fun w I=>AbO I call194 (JY _ I.j6 r.body.xs[k].atom ib x.vars ab.len ab.err) rfl)<|Am.c (fun w I=>AbO I call151 (Mi _ I.j6 fr (hf.le le1) okf.pf _ pb) rfl)<|Qu (fun w I=>Mv)<|Qi (fun w I=>Y.extract rfl rfl)<|Qb (fun w I=>Y.extract rfl rfl)<|Qi (fun w I=>Ag)<|Qb (fun w I=>Ag)<|AbH fun w I=>Sr<|Ab Mv<|Abh ?_;refine AbG rfl (fun h8=>?_) (fun h8=>?_)
    ·have h8:isF fr.xs (groundF r.body.xs[k].atom x.vars)=true:=h8;have hnew:MQ p (Ak p) st fr.xs x=true:=by
      unfold MQ;rw[hgd,eM];exact AfG.2 ⟨_,Ae5 hk',by rw[hg,decide_eq_true hlv,h8];rfl⟩
     refine Sr<|Ab Ag<|Abh<|Wr ?_;exact Rm (v:=.bool _) rfl rfl I (by rw[hnew];rfl)
    have h8:isF fr.xs (groundF r.body.xs[k].atom x.vars)=false:=h8;refine Abk<|Abg<|Ai Mv<|Ai (Dd rfl rfl)<|Ai Ag<|Abh ?_;exact⟨k+1,⟨⟨rfl,rfl,rfl,rfl,rfl,rfl,rfl,trivial⟩,I,by omega,by rw[hnx,h8,Agz]⟩,by omega⟩
   ·refine Abk<|Abi<|WP.block<|Abi<|Sr<|Ap (Abr AG rfl)<|As0 (Ld I Bi 0 4 1 rfl rfl rfl)<|Ai Mv<|Ap (Ix E1 Aib Ail rfl rfl)<|Ap (Abu BK rfl)<|AF (Y.b (Abn Br rfl (I.rd (E1.rd.part 0 1)) rfl rfl) (hg))<|Ab Mv<|Gs Mv<|Gp (Abr AG rfl)<|Gs (Ld I Bi 0 4 1 rfl rfl rfl)<|Gi Mv<|Gp (Ix E1 Aib Ail rfl rfl)<|Gp (Abr Bk rfl)<|Gp (Abu AW rfl)<|Gi (Abn An rfl (I.rd (E1.rd.part 1 1)) rfl rfl)<|Gp (AbJ El1 Aie Aij rfl rfl ab.pred.1 rfl)<|Gi (Abn An rfl (I.rd (El1.rd.part 0 1)) rfl rfl)<|Gi Mv<|GT (Abs (AbK rfl rfl) (hlv))<|Ab (Abp rfl rfl)<|Abh<|Abw rfl<|Abz<|Abg<|Ai Mv<|Ai (Dd rfl rfl)<|Ai Ag<|Abh ?_;exact⟨k+1,⟨⟨rfl,rfl,rfl,rfl,rfl,rfl,rfl,trivial⟩,I,by omega,by rw[hnx,decide_eq_false hlv,Agz,AgO]⟩,by omega⟩
  ·refine Abk<|Abi<|WP.block<|Abi<|Sr<|Ap (Abr AG rfl)<|As0 (Ld I Bi 0 4 1 rfl rfl rfl)<|Ai Mv<|Ap (Ix E1 Aib Ail rfl rfl)<|Ap (Abu BK rfl)<|AT (Y.b (Abn Br rfl (I.rd (E1.rd.part 0 1)) rfl rfl) (hg))<|Ab Mv<|Gg<|Gg<|Gg<|Gg<|Gg<|Gg<|Gg<|Gg<|Gg<|Gg<|Gg<|Gg<|Ab (Abo rfl rfl)<|Abh<|Abw rfl<|Abz<|Abg<|Ai Mv<|Ai (Dd rfl rfl)<|Ai Ag<|Abh ?_;exact⟨k+1,⟨⟨rfl,rfl,rfl,rfl,rfl,rfl,rfl,trivial⟩,I,by omega,by rw[hnx,hg];rfl⟩,by omega⟩
 obtain rfl:k=r.body.xs.length:=by omega
 rw[Afo] at hn;have hnew:MQ p (Ak p) st fr.xs x=false:=by
  unfold MQ;rw[hgd,eM];exact hn
 refine Abz<|Sr<|Ab Ag<|Abh<|Wr ?_;exact Rm (v:=.bool _) rfl rfl I (by rw[hnew];rfl)
theorem QY(B:Aq)(hB:B.ok)(p:Prg)(hp:p.In B.h)(hpr:Ac p=0)(x:Stp)(r:Rul)(h0:0≤x.rule)(hr:p.rules.xs[x.rule.toNat]?=some r)(hx:KE x.vars)(st:Int)(fr:Sl Fct)(hf:Cv fr B.h)(okf:FOk p.preds.xs fr.xs)(M:List Int)(eM:Ak p=M)(b:Bool)(h:MQ p M st fr.xs x=b) :
  Fn prog 148 [p.val,x.val,.int .i64 st,fr.val] B (fun v _=>v=.bool b):=by
 subst eM;subst h;exact WQ B hB p hp hpr x r h0 hr hx st fr hf okf
theorem Oh{l:List Prd}{f:List Fct}{rs:List Rul}{q:Nat→Bool}:∀k,(Cx l f rs q k).length≤k*125
 |0=>by simp[Cx]
 |k+1=>by
  rw[B0,Ae2];have ih:=Oh (l:=l) (f:=f) (rs:=rs) (q:=q) k;have:(BB l f rs q k).length≤125:=by
   unfold BB;split
   ·rw[Afw];unfold A6;rw[Afw];exact AfY (AfO ..) (by decide +kernel)
   ·simp
  omega
def MM(p:Prg)(M:List Int)(st:Int)(b:Bool)(fr f:List Fct)(n k:Nat):List (Stp×Fct):=(Cx p.preds.xs f p.rules.xs (ofQ p M st) n++(BB p.preds.xs f p.rules.xs (ofQ p M st) n).take k).filter (DP p M st b fr)
section
variable {p:Prg}{M:List Int}{st:Int}{b:Bool}{fr f:List Fct}{n k:Nat}
theorem WR(hn:n<8):(MM p M st b fr f n k).length≤1000:=by
 unfold MM;refine AfY (AfO ..) ?_;have h1:=Oh (l:=p.preds.xs) (f:=f) (rs:=p.rules.xs) (q:=ofQ p M st) (n+1);rw[B0,Ae2] at h1;rw[Ae2,Afj];omega
theorem Oi:MM p M st b fr f 0 0=[]:=by simp[MM,Cx]
theorem Oj:MM p M st b fr f n (BB p.preds.xs f p.rules.xs (ofQ p M st) n).length=MM p M st b fr f (n+1) 0:=by
 unfold MM;rw[Afo,Ahj,Aft,B0]
theorem UP(h:BB p.preds.xs f p.rules.xs (ofQ p M st) n=[]):MM p M st b fr f (n+1) 0=MM p M st b fr f n 0:=by
 rw[←Oj,h];rfl
theorem UQ(hk:k<(BB p.preds.xs f p.rules.xs (ofQ p M st) n).length):MM p M st b fr f n (k+1)=MM p M st b fr f n k++if DP p M st b fr (BB p.preds.xs f p.rules.xs (ofQ p M st) n)[k]=true then [(BB p.preds.xs f p.rules.xs (ofQ p M st) n)[k]] else []:=by
 unfold MM;rw[Afi hk,←Afe,AgD];congr 1;by_cases h:DP p M st b fr (BB p.preds.xs f p.rules.xs (ofQ p M st) n)[k]=true
 ·rw[if_pos h,Agv,if_pos h];rfl
 ·rw[if_neg h,Agv,if_neg h];rfl
theorem WS:MM p M st b fr f p.rules.xs.length 0=CY p M st b fr f:=by
 unfold MM CY;rw[Ahj,Aft]
theorem UR(hpr:Ac p=0)(okf:FOk p.preds.xs f)(hn:n≤p.rules.xs.length)(hk:n<p.rules.xs.length∨k=0):∀t∈MM p M st b fr f n k,factFine p.preds.xs t.2=true:=fun t ht=>by
 refine Bj (q:=ofQ p M st) (ED hpr okf) okf t ?_;have ht:=(AfN.1 ht).1;rcases Afu.1 ht with ht|ht
 ·unfold Cx at ht;obtain⟨m,hm,ht⟩:=Af1.1 ht;exact Af1.2 ⟨m,Af0.2 (by have:=Af0.1 hm;omega),ht⟩
 ·rcases hk with hk|rfl
  ·exact Af1.2 ⟨n,Af0.2 hk,AfX ht⟩
  ·rw[Ahj] at ht;cases ht
end
theorem RP{f g:List Fct}{k:Nat}(hk:k<g.length):BR f (g.take (k+1))=BR f (g.take k)++if lkF f (Ah g[k])≠some g[k].v then [g[k]] else []:=by
 unfold BR;rw[Kp _ hk];congr 1;by_cases h:lkF f (Ah g[k])≠some g[k].v
 ·rw[if_pos h,if_pos (decide_eq_true h)]
 ·rw[if_neg h,if_neg (by rw[decide_eq_false h];decide)]
def Abd(p:Prg)(v:Value)(h:Ae):Prop:=∃(s:Sl Fct) (c:Nat),v=.tuple #[s.val,.int .i64 c]∧Cv s h∧Oq p (Ak p) (Ds (Ak p)) s.xs c
structure SoS where
 first:Bool
 fr:Sl Fct
 f:Sl Fct
 c:Nat
 h:Ae
theorem US(B:Aq)(hB:B.ok)(p:Prg)(hp:p.In B.h)(hpr:Ac p=0):Fn prog 99 [p.val] B (Abd p):=by
 obtain⟨k1,k2,k3,_,_⟩:=AB hpr;have rk:=BA hpr;have ok0:=Ea hpr;have hin:=F7 k3;refine Fo hB func99 rfl ntmps99 fun e I=>Sr<|Abj (O.box (v:=.agg #[_,_]) I rfl rfl fun b1 w I=>As0 Ag<|Ai Ag<|Abh<|Sr<|Ax (Ld I As 0 0 2 rfl rfl rfl)<|Abj (AbE I call97 (C6 _ I.j6 p hp hpr) rfl ?_));rintro _ h1 w I le1 ⟨s,hS,hI,rfl⟩;refine As0 Ag<|Abh ?_;have eM:=Bl hS;have hsl:s.xs.length=p.preds.xs.length:=hS.sol.len;have hb5:=CH hpr hS;have hN5:=CG hb5;have hNe:=GU s.xs;obtain⟨N,hN⟩:∃N,Ds s.xs=N:=⟨_,rfl⟩;refine Sr<|As0 Ag<|Abh<|Sr<|Ai Ag<|Abh<|Abi<|Sr<|Ai Ag<|Abh<|WP.block ?_;refine Abx (σ:=Sl Fct×Nat×Nat×Ae) (fun s'=>[(1,Pt b1),(4,s.val),(5,s'.1.val),(6,.int .i64 s'.2.1),(7,.int .i64 s'.2.2.1)])
  (fun s' w=>Inv B s'.2.2.2 [box b1 p.enc 25] w∧s'.2.2.1≤N∧h1.le s'.2.2.2∧FOk p.preds.xs s'.1.xs∧Oq p s.xs s'.2.2.1 s'.1.xs s'.2.1∧Cv s'.1 s'.2.2.2∧s'.2.1≤1000*(Ec p.preds.xs s'.1.xs+s'.2.2.1)) (fun s'=>N-s'.2.2.1)
  ⟨(⟨none,0,[]⟩,0,0,h1),⟨rfl,rfl,rfl,rfl,rfl,trivial⟩,I,Afa _,Ae.le.refl _,ok0,⟨rfl,rfl⟩,fnil,Afa _⟩ ?_
 rintro⟨f0,c0,k,hh⟩ e w ⟨I,hk,gl,okf0,hm,hf0,hc0⟩;dsimp only at I hk gl okf0 hm hf0 hc0 ⊢;refine Abi<|Sr<|Ai Mv<|As0 Mv<|Abj (Abm I call146 (O4 _ I.j6 s (hI.le gl)) rfl fun w I=>Ad (AcD rfl rfl)<|Abh ?_);refine Abl rfl (fun h5=>?_) (fun h5=>?_)
 ·have h5:(k:Int)≤EV s.xs:=h5;have hk':k<N:=by omega
  refine Abk<|Abi<|WP.block<|Sr<|As0 Ag<|Abh<|Sr<|Ab Ag<|Abh<|WP.block ?_;refine Abx (σ:=SoS) (fun s'=>[(1,Pt b1),(4,s.val),(5,s'.f.val),(6,.int .i64 s'.c),(7,.int .i64 k),(8,s'.fr.val),(9,.bool s'.first)])
   (fun s' w=>Inv B s'.h [box b1 p.enc 25] w∧hh.le s'.h∧FOk p.preds.xs s'.f.xs∧FOk p.preds.xs s'.fr.xs∧SJ p s.xs k f0.xs (s'.c-c0) s'.first s'.fr.xs s'.f.xs∧c0≤s'.c∧Cv s'.f s'.h∧Cv s'.fr s'.h∧s'.c≤1000*(Ec p.preds.xs s'.f.xs+k+if s'.first=true∨s'.fr.xs≠[] then 0 else 1))
   (fun s'=>2*(2001-Ec p.preds.xs s'.f.xs)+if s'.first=true∨s'.fr.xs≠[] then 1 else 0)
   ⟨⟨true,⟨none,0,[]⟩,f0,c0,hh⟩,⟨rfl,rfl,rfl,rfl,rfl,rfl,rfl,trivial⟩,I,Ae.le.refl _,okf0,ok0,by rw[AhZ];exact .inl ⟨.inl rfl,IB.zero⟩,Afg _,hf0,fnil,by rw[if_pos (.inl rfl)];exact hc0⟩ ?_
  rintro⟨first,fr,f,c,h2⟩ e w ⟨I,gl2,okf,okfr,sj,hcc,hf,hfr,hcb⟩;dsimp only at I gl2 okf okfr sj hcc hf hfr hcb ⊢;have glA:=gl.trans gl2;have hpl:=B1 p.preds.xs f.xs;refine Abi<|Abi ?_;refine Acc (σ:=Unit) (fun _=>[(1,Pt b1),(4,s.val),(5,f.val),(6,.int .i64 c),(7,.int .i64 k),(8,fr.val),(9,.bool first),(32,.bool (decide (first=true∨fr.xs≠[])))])
   (fun _ w=>Inv B h2 [box b1 p.enc 25] w) ?_ ?_
  ·cases hfi:first
   ·by_cases hfe:fr.xs=[]
    ·refine Abg<|AF (Y.b Mv (rfl))<|Ab Mv<|Gs Mv<|Gi (AbA Ah8 rfl)<|GF (Abt (AbL rfl rfl) ((by rw[hfe];decide)))<|Ab (Abp rfl rfl)<|Abh ?_;exact⟨(),⟨rfl,rfl,rfl,rfl,rfl,rfl,rfl,congrArg Value.bool (decide_eq_false (by rw[hfe];simp)).symm,trivial⟩,I⟩
    ·have:(fr.xs.length:Int)>0:=by have:=Af7.2 hfe;omega
     exact Abg<|AF (Y.b Mv (rfl))<|Ab Mv<|Gs Mv<|Gi (AbA Ah8 rfl)<|GT (Abs (AbL rfl rfl) (this))<|Ab (Abp rfl rfl)<|Abh<|⟨(),⟨rfl,rfl,rfl,rfl,rfl,rfl,rfl,congrArg Value.bool (decide_eq_true (.inr hfe)).symm,trivial⟩,I⟩
   ·exact Abg<|AT (Y.b Mv (rfl))<|Ab Mv<|Gg<|Gg<|Gg<|Ab (Abo rfl rfl)<|Abh<|⟨(),⟨rfl,rfl,rfl,rfl,rfl,rfl,rfl,congrArg Value.bool (decide_eq_true (.inl rfl)).symm,trivial⟩,I⟩
  rintro _ e w I;refine Abl rfl (fun h9=>?_) (fun h9=>?_)
  ·rw[if_pos h9] at hcb;have hscb:IB p s.xs k f0.xs (c-c0) first fr.xs f.xs:=by
    rcases sj with ⟨_,h⟩|⟨a1,a2,_⟩
    ·exact h
    ·rcases h9 with h|h
     ·rw[a1] at h;cases h
     ·exact absurd a2 h
   obtain⟨q,hqd⟩:∃q,ofQ p s.xs k=q:=⟨_,rfl⟩;refine Abk<|Abi<|WP.block<|Sr<|As0 Mv<|As0 Ag<|Abh<|Abi<|Sr<|Ai Ag<|Abh<|WP.block ?_;refine Abx (σ:=Sl Fct×Nat×Nat×Ae) (fun s'=>[(1,Pt b1),(4,s.val),(5,f.val),(6,.int .i64 s'.2.1),(7,.int .i64 k),(8,fr.val),(9,.bool first),(10,s'.1.val),(11,.int .i64 s'.2.2.1)])
    (fun s' w=>Inv B s'.2.2.2 [box b1 p.enc 25] w∧s'.2.2.1≤p.rules.xs.length∧h2.le s'.2.2.2∧s'.1.xs=(CV p.preds.xs f.xs (MM p s.xs k first fr.xs f.xs s'.2.2.1 0)).1∧Cv s'.1 s'.2.2.2∧s'.2.1=c+(MM p s.xs k first fr.xs f.xs s'.2.2.1 0).length) (fun s'=>p.rules.xs.length-s'.2.2.1)
    ⟨(f,c,0,h2),⟨rfl,rfl,rfl,rfl,rfl,rfl,rfl,rfl,rfl,trivial⟩,I,Afa _,Ae.le.refl _,by dsimp only;rw[Oi];rfl,hf,by dsimp only;rw[Oi];rfl⟩ ?_
   rintro⟨u,ch,n,g2⟩ e w ⟨I,hn,gl3,hu,iu,hch⟩;dsimp only at I hn gl3 hu iu hch ⊢;have glB:=glA.trans gl3;have hp2:=hp.le (le1.trans glB);have hI2:=hI.le glB;have hf2:=hf.le gl3;have hfr2:=hfr.le gl3;have hsr:=hp2.rules.is.small;refine Abi<|Sr<|Ai Mv<|Ap (Abr AU rfl)<|As0 (Ld I Cc 0 1 1 rfl rfl rfl)<|Ai (AbA Aic rfl)<|Ad (AbC rfl rfl)<|Abh ?_;refine Abl rfl (fun h13=>?_) (fun h13=>?_)
   ·have hn':n<p.rules.xs.length:=by omega
    have hr:p.rules.xs[n]?=some p.rules.xs[n]:=Ae4 hn';have hr':p.rules.xs[(n:Int).toNat]?=some p.rules.xs[n]:=by rw[Afs];exact hr
    have okr:=rk _ (Ae5 hn');have hgd:p.rules.xs.getD n default=p.rules.xs[n]:=by rw[Ae3,hr];rfl
    have Er:=hp2.rules.is.at hn';obtain⟨i0,i1⟩:=hin _ (Ae5 hn');have El1:=hI2.el.el (DG hsl i0 i1);have hqn:q n=decide (lv s.xs p.rules.xs[n].head.pred=k):=by rw[←hqd];unfold ofQ;rw[hgd]
    refine Abk<|Abi<|WP.block<|Abi<|Sr<|As0 Mv<|Ap (Abr AU rfl)<|As0 (Ld I Cc 0 1 1 rfl rfl rfl)<|Ai Mv<|Ap (Ix Er Aic Aiv rfl rfl)<|Ap (Abu Bw rfl)<|Ap (Abu AW rfl)<|Ai (Abn An rfl (I.rd (Er.rd.part 0 1)) rfl rfl)<|Ap (AbJ El1 Aie Aij rfl rfl i0 rfl)<|Ai (Abn An rfl (I.rd (El1.rd.part 0 1)) rfl rfl)<|Ai Mv<|Ad (AbK rfl rfl)<|Abh ?_;refine Abl rfl (fun h15=>?_) (fun h15=>?_)
    ·have hNn:BB p.preds.xs f.xs p.rules.xs (ofQ p s.xs k) n=[]:=by unfold BB;rw[hqd,hqn,decide_eq_false h15];rfl
     have hse:=UP (M:=s.xs) (b:=first) (fr:=fr.xs) hNn;refine Abz<|Abg<|Ai Mv<|Ai (Dd rfl rfl)<|Ai Ag<|Abh ?_;exact⟨(u,ch,n+1,g2),⟨⟨rfl,rfl,rfl,rfl,rfl,rfl,rfl,rfl,rfl,trivial⟩,I,by dsimp only;omega,gl3,by dsimp only;rw[hse];exact hu,iu,by dsimp only;rw[hse];exact hch⟩,by dsimp only;omega⟩
    have hlv:lv s.xs p.rules.xs[n].head.pred=k:=Afh.1 h15;have hNn:BB p.preds.xs f.xs p.rules.xs (ofQ p s.xs k) n=(A6 f.xs n p.rules.xs[n]).map fun s=>(s,CP p.preds.xs f.xs p.rules.xs[n] s.vars):=by unfold BB;rw[hqd,hqn,decide_eq_true hlv,if_pos rfl,hgd]
    refine Abk<|Sr<|Ax (Ld I As 0 0 2 rfl rfl rfl)<|As0 Mv<|Ai Mv<|Abj (AbE I call147 (Mq _ I.j6 p hp2 f hf2 n p.rules.xs[n] (by omega) hr' okr okf) rfl ?_);rintro _ h8 w I le8 ⟨sl,rfl,hss,isl⟩;refine As0 Ag<|Abh ?_;have hNl:(BB p.preds.xs f.xs p.rules.xs (ofQ p s.xs k) n).length=sl.xs.length:=by rw[hNn,Afw,hss]
    have hsm:=isl.small;refine Sr<|Ai Ag<|Abh<|WP.block ?_;refine Abx (σ:=Sl Fct×Nat×Nat×Ae) (fun s'=>[(1,Pt b1),(4,s.val),(5,f.val),(6,.int .i64 s'.2.1),(7,.int .i64 k),(8,fr.val),(9,.bool first),(10,s'.1.val),(11,.int .i64 n),(12,sl.val),(13,.int .i64 s'.2.2.1)])
     (fun s' w=>Inv B s'.2.2.2 [box b1 p.enc 25] w∧s'.2.2.1≤sl.xs.length∧h8.le s'.2.2.2∧s'.1.xs=(CV p.preds.xs f.xs (MM p s.xs k first fr.xs f.xs n s'.2.2.1)).1∧Cv s'.1 s'.2.2.2∧s'.2.1=c+(MM p s.xs k first fr.xs f.xs n s'.2.2.1).length) (fun s'=>sl.xs.length-s'.2.2.1)
     ⟨(u,ch,0,h8),⟨rfl,rfl,rfl,rfl,rfl,rfl,rfl,rfl,rfl,rfl,rfl,trivial⟩,I,Afa _,Ae.le.refl _,hu,iu.le le8,hch⟩ ?_
    rintro⟨u,ch,j,g3⟩ e w ⟨I,hj,gl4,hu,iu,hch⟩;dsimp only at I hj gl4 hu iu hch ⊢;have glC:=le8.trans gl4;have hp3:=hp2.le glC;have hf3:=hf2.le glC;have hfr3:=hfr2.le glC;have hlen:=WR (p:=p) (M:=s.xs) (st:=k) (b:=first) (fr:=fr.xs) (f:=f.xs) (k:=j) (show n<8 by omega);have oku:FOk p.preds.xs u.xs:=by rw[hu];exact CW okf (UR hpr okf hn (.inl hn'))
    refine Abi<|Sr<|Ai Mv<|As0 Mv<|Ai (AbA Aif rfl)<|Ad (AbC rfl rfl)<|Abh ?_;refine Abl rfl (fun h18=>?_) (fun h18=>?_)
    ·have hjj:j<sl.xs.length:=by omega
     have E:=(isl.le gl4).at hjj;have hmem:sl.xs[j]∈A6 f.xs n p.rules.xs[n]:=hss▸Ae5 hjj;obtain⟨e1,hvs,hhf⟩:=Cn hmem;obtain⟨y,hy⟩:∃y,CP p.preds.xs f.xs p.rules.xs[n] sl.xs[j].vars=y:=⟨_,rfl⟩;have hyF:Cm p.preds.xs f.xs p.rules.xs[n] sl.xs[j].vars=(true,y):=by unfold Cm;rw[if_pos hhf,hy]
     have hfine:factFine p.preds.xs y=true:=hy▸Et okr okf hvs hhf;have hjN:j<(BB p.preds.xs f.xs p.rules.xs (ofQ p s.xs k) n).length:=by omega
     have hget:(BB p.preds.xs f.xs p.rules.xs (ofQ p s.xs k) n)[j]=(sl.xs[j],y):=by
      have h1:(BB p.preds.xs f.xs p.rules.xs (ofQ p s.xs k) n)[j]?=some (sl.xs[j],y):=by rw[hNn,AfI,←hss,Ae4 hjj,←hy];rfl
      exact(Ae9.1 h1).2
     have hsome:=UQ (b:=first) (fr:=fr.xs) hjN;rw[hget] at hsome;refine Abk<|Abi<|WP.block<|Abi<|Abi ?_;refine Acc (σ:=Unit) (fun _=>[(1,Pt b1),(4,s.val),(5,f.val),(6,.int .i64 ch),(7,.int .i64 k),(8,fr.val),(9,.bool first),(10,u.val),(11,.int .i64 n),(12,sl.val),(13,.int .i64 j),(75,.bool (!DP p s.xs k first fr.xs (sl.xs[j],y)))])
      (fun _ w=>Inv B g3 [box b1 p.enc 25] w) ?_ ?_
     ·cases hfi:first
      ·cases hq:MQ p s.xs k fr.xs sl.xs[j]
       ·refine AbD AC I (by kernel_rfl)<|QF (fun w I=>Y.b Mv (rfl))<|QT (fun w I=>Y.not (b:=false) rfl)<|Qb (fun w I=>Mv)<|Hx (fun w I=>Ld I As 0 0 2 rfl rfl rfl)<|Hs (fun w I=>Mv)<|Hi (fun w I=>Mv)<|Hp (fun w I=>Ix E Aif Aiw rfl rfl)<|Hz (fun w I=>Abn Cy rfl (I.rd (E.rd.part 0 4)) rfl rfl)<|Hi (fun w I=>Mv)<|Hs (fun w I=>Mv)<|Acj rfl (fun w I=>AbO I call148 (QY _ I.j6 p hp3 hpr sl.xs[j] p.rules.xs[n] (by omega) (by rw[e1,Afs];exact hr) hvs k fr hfr3 okfr s.xs eM false hq) rfl)<|HT (fun w I=>Y.b (Y.not rfl) (rfl))<|Qb (fun w I=>Abo rfl rfl)<|AbH fun w I=>?_;exact⟨(),⟨rfl,rfl,rfl,rfl,rfl,rfl,rfl,rfl,rfl,rfl,rfl,congrArg Value.bool (by unfold DP;rw[hq];rfl),trivial⟩,I⟩
       ·refine AbD AC I (by kernel_rfl)<|QF (fun w I=>Y.b Mv (rfl))<|QT (fun w I=>Y.not (b:=false) rfl)<|Qb (fun w I=>Mv)<|Hx (fun w I=>Ld I As 0 0 2 rfl rfl rfl)<|Hs (fun w I=>Mv)<|Hi (fun w I=>Mv)<|Hp (fun w I=>Ix E Aif Aiw rfl rfl)<|Hz (fun w I=>Abn Cy rfl (I.rd (E.rd.part 0 4)) rfl rfl)<|Hi (fun w I=>Mv)<|Hs (fun w I=>Mv)<|Acj rfl (fun w I=>AbO I call148 (QY _ I.j6 p hp3 hpr sl.xs[j] p.rules.xs[n] (by omega) (by rw[e1,Afs];exact hr) hvs k fr hfr3 okfr s.xs eM true hq) rfl)<|HF (fun w I=>Y.b (Y.not rfl) (rfl))<|Qb (fun w I=>Abo rfl rfl)<|AbH fun w I=>?_;exact⟨(),⟨rfl,rfl,rfl,rfl,rfl,rfl,rfl,rfl,rfl,rfl,rfl,congrArg Value.bool (by unfold DP;rw[hq];rfl),trivial⟩,I⟩
      ·refine AbD AC I (by kernel_rfl)<|QT (fun w I=>Y.b Mv (rfl))<|QF (fun w I=>Y.not (b:=true) rfl)<|Qb (fun w I=>Mv)<|Abv rfl<|Abv rfl<|Abv rfl<|Abv rfl<|Abv rfl<|Abv rfl<|Abv rfl<|Abv rfl<|Abv rfl<|Qb (fun w I=>Abp rfl rfl)<|AbH fun w I=>?_;exact⟨(),⟨rfl,rfl,rfl,rfl,rfl,rfl,rfl,rfl,rfl,rfl,rfl,congrArg Value.bool (by unfold DP;rfl),trivial⟩,I⟩
     rintro _ e w I;refine AbG rfl (fun h20=>?_) (fun h20=>?_)
     ·have h20:DP p s.xs k first fr.xs (sl.xs[j],y)=false:=by simpa using h20
      rw[h20,if_neg (by decide),Aft] at hsome;refine Abz<|Abg<|Ai Mv<|Ai (Dd rfl rfl)<|Ai Ag<|Abh ?_;exact⟨(u,ch,j+1,g3),⟨⟨rfl,rfl,rfl,rfl,rfl,rfl,rfl,rfl,rfl,rfl,rfl,trivial⟩,I,by dsimp only;omega,gl4,by dsimp only;rw[hsome];exact hu,iu,by dsimp only;rw[hsome];exact hch⟩,by dsimp only;omega⟩
     have h20:DP p s.xs k first fr.xs (sl.xs[j],y)=true:=by simpa using h20
     rw[h20,if_pos rfl] at hsome;refine Abk<|Sr<|Ai Mv<|Ai (Dd rfl rfl)<|Ai Ag<|Abh<|Abi<|Ab9 AC RBx.pre ⟨g3,none,none⟩ (J:=JBx B [box b1 p.enc 25] 83 [.int .i64 0,.int .i64 0,.int .i64 0,.int .i64 0] y.enc 12 99 14) ⟨rfl,rfl,fun h=>(by cases h),I.drew⟩ 15 (by kernel_rfl)<|Aby (v:=.agg #[_,_]) (fun _=>Aa _) RBx.pre (JBx.set (by decide)) (fun _ s w us hl hj=>have I:=hj.base;have hl:=hl.h;Ld I As 0 0 2 rfl rfl rfl)<|Aby (v:=.slice _ _ _) (fun _=>Aa _) RBx.pre (JBx.set (by decide)) (fun _ s w us hl hj=>have I:=hj.base;have hl:=hl.h;Mv)<|Aby (v:=.int .i64 _) (fun _=>Aa _) RBx.pre (JBx.set (by decide)) (fun _ s w us hl hj=>have I:=hj.base;have hl:=hl.h;Mv)<|Aby (v:=.slice _ _ _) (fun _=>Aa _) RBx.pre (JBx.set (by decide)) (fun _ s w us hl hj=>have I:=hj.base;have hl:=hl.h;Mv)<|Aby (v:=.int .i64 _) (fun _=>Aa _) RBx.pre (JBx.set (by decide)) (fun _ s w us hl hj=>have I:=hj.base;have hl:=hl.h;Mv)<|Aby (v:=.pointer (some ⟨_,_,none⟩)) (fun _=>Aa _) RBx.pre (JBx.set (by decide)) (fun _ s w us hl hj=>have I:=hj.base;have hl:=hl.h;Ix E Aif Aiw rfl rfl)<|Aby (v:=.pointer (some ⟨_,_,none⟩)) (fun _=>Aa _) RBx.pre (JBx.set (by decide)) (fun _ s w us hl hj=>have I:=hj.base;have hl:=hl.h;Abr BV rfl)<|Aby (v:=.agg #[_,_,_]) (fun _=>Aa _) RBx.pre (JBx.set (by decide)) (fun _ s w us hl hj=>have I:=hj.base;have hl:=hl.h;Abn CI rfl (I.rd ((E.rd.part 1 3).le hl)) rfl rfl)<|Adn (by decide) (fun _ s w us hl hj=>have I:=hj.inv;have hl:=hl.h;Abm I call149 (hyF▸FJ _ I.j6 p (hp3.le hl) f (hf3.le hl) n p.rules.xs[n] (by omega) hr' okr okf sl.xs[j].vars hvs) rfl (fun w' I'=>⟨rfl,⟨hj.h7,hj.h8,hj.ord,I'⟩⟩))<|Aby (v:=.tuple #[_,_]) (fun _=>Aa _) RBx.pre (JBx.set (by decide)) (fun _ s w us hl hj=>have I:=hj.base;have hl:=hl.h;Mv)<|Aby (v:=.bool _) (fun _=>Aa _) RBx.pre (JBx.set (by decide)) (fun _ s w us hl hj=>have I:=hj.base;have hl:=hl.h;Y.extract rfl rfl)<|Aby (v:=.agg #[_,_,_,_]) (fun _=>Aa _) RBx.pre (JBx.set (by decide)) (fun _ s w us hl hj=>have I:=hj.base;have hl:=hl.h;Y.extract rfl rfl)<|AcR Aii rfl (by decide) (by decide)<|Aby (v:=.bool _) (fun _=>Aa _) RBx.pre (JBx.set (by decide)) (fun _ s w us hl hj=>have I:=hj.base;have hl:=hl.h;Ag)<|AcI AH rfl rfl (fun s=>by intro u15 q15;exact⟨q15 rfl,rfl⟩) rfl rfl (by decide) (by decide)<|Acl fun D s' w hD hl hj' u15 q15=>Abh ?_;obtain⟨b15,rfl,h15⟩:=q15 rfl;have I:=hj'.inv;rw[h15,hD 14 (by omega)] at I;have hl:=hl.h;generalize s'.o8=o8 at I;generalize s'.h=h12 at I hl;have I:Inv B h12 [box b15 y.enc 83,box b1 p.enc 25] w:=by
      cases o8 with
      |none=>exact I
      |some b8=>exact I.weak (List.Sublist.cons_cons _ (Af3 _ _))
     refine Abg<|Ap (Abu At rfl)<|As0 (Ld I A7 1 0 1 rfl rfl rfl)<|As0 Mv<|Az (Ld I AH 0 0 4 rfl rfl rfl)<|Abj (AbE I call150 (OW _ I.j6 p.preds (hp3.le hl).preds u (iu.le hl) oku y hfine) rfl ?_);rintro _ h5' w I le5 ⟨u2,rfl,hu2,iu2⟩;refine Au Mv<|As0 (Y.extract rfl rfl)<|Ab (Y.extract rfl rfl)<|As0 Ag<|Abh<|Abg<|Ai Mv<|Ai (Dd rfl rfl)<|Ai Ag<|Abh ?_;exact⟨(u2,ch+1,j+1,h5'),⟨⟨rfl,rfl,rfl,rfl,rfl,rfl,rfl,rfl,rfl,rfl,rfl,trivial⟩,I.drop,by dsimp only;omega,(gl4.trans hl).trans le5,by dsimp only;rw[hsome,F8,hu2,hu];rfl,iu2,by dsimp only;rw[hsome,Ae2,Afv];omega⟩,by dsimp only;omega⟩
    obtain rfl:j=sl.xs.length:=by omega
    rw[←hNl,Oj] at hu hch;refine Abz<|Abg<|Ai Mv<|Ai (Dd rfl rfl)<|Ai Ag<|Abh ?_;exact⟨(u,ch,n+1,g3),⟨⟨rfl,rfl,rfl,rfl,rfl,rfl,rfl,rfl,rfl,trivial⟩,I,by dsimp only;omega,gl3.trans glC,hu,iu,hch⟩,by dsimp only;omega⟩
   obtain rfl:n=p.rules.xs.length:=by omega
   rw[WS] at hu hch;have tf:=Bj (q:=ofQ p s.xs k) rk okf;have sf:∀t∈CY p s.xs k first fr.xs f.xs,factFine p.preds.xs t.2=true:=fun t ht=>tf t (AfN.1 ht).1;have hjT:EW p s.xs k first fr.xs f.xs=u.xs:=hu.symm;have hsl2:(CY p s.xs k first fr.xs f.xs).length≤1000:=AfY (AfO ..) (ML k2);have ru:=Ho (CY p s.xs k first fr.xs f.xs) (f.xs,false) okf sf;have oku:FOk p.preds.xs u.xs:=by rw[hu];exact ru.fok
   have hup:A8 p.preds.xs f.xs u.xs=true:=by rw[hu];exact ru.up
   have hu125:=oku.aa6;refine Abz<|Sr<|As0 Ag<|Abh<|Abi<|Sr<|Ai Ag<|Abh<|WP.block ?_;refine Abx (σ:=Nat×Value×Ae) (fun s'=>[(1,Pt b1),(4,s.val),(5,f.val),(6,.int .i64 ch),(7,.int .i64 k),(8,s'.2.1),(9,.bool first),(10,u.val),(16,.int .i64 s'.1)])
    (fun s' w=>Inv B s'.2.2 [Ao 83 4 s'.2.1 (BR f.xs (u.xs.take s'.1)).length ((BR f.xs (u.xs.take s'.1)).flatMap Fct.enc),box b1 p.enc 25] w∧s'.1≤u.xs.length∧g2.le s'.2.2) (fun s'=>u.xs.length-s'.1)
    ⟨(0,.slice none 0 0,g2),⟨rfl,rfl,rfl,rfl,rfl,rfl,rfl,rfl,rfl,trivial⟩,I.l9 83 4,Afa _,Ae.le.refl _⟩ ?_
   rintro⟨j,v,g4⟩ e w ⟨I,hj,gl5⟩;dsimp only at I hj gl5 ⊢;have hfl:(BR f.xs (u.xs.take j)).length≤j:=AfY (AfO ..) (by rw[Afj];omega);refine Abi<|Sr<|Ai Mv<|As0 Mv<|Ai (AbA Ah8 rfl)<|Ad (AbC rfl rfl)<|Abh ?_;refine Abl rfl (fun h26=>?_) (fun h26=>?_)
   ·have hjj:j<u.xs.length:=by omega
    have E:=(iu.le gl5).at hjj;have hfi:=oku.fine _ (Ae5 hjj);have hn:=RP (f:=f.xs) hjj;refine Abk<|Abi<|WP.block<|Sr<|As0 Mv<|As0 Mv<|Ai Mv<|Ap (Ix E Ah8 Aih rfl rfl)<|Az (Abn AH rfl (I.rd (E.rd.part 0 4)) rfl rfl)<|Abj (Abm I call151 (Mi _ I.j6 f ((hf2.le gl5)) okf.pf u.xs[j] (By oku.len hfi)) rfl fun w I=>Au Mv<|Ai (Y.extract rfl rfl)<|Ab (Y.extract rfl rfl)<|Ai Ag<|Ab Ag<|Abh<|Abi ?_);refine Acc (σ:=Unit) (fun _=>[(1,Pt b1),(4,s.val),(5,f.val),(6,.int .i64 ch),(7,.int .i64 k),(8,v),(9,.bool first),(10,u.val),(16,.int .i64 j),(123,.bool (decide (lkF f.xs (Ah u.xs[j])≠some u.xs[j].v)))])
     (fun _ w=>Inv B g4 [Ao 83 4 v (BR f.xs (u.xs.take j)).length ((BR f.xs (u.xs.take j)).flatMap Fct.enc),box b1 p.enc 25] w) ?_ ?_
    ·cases hlk:lkF f.xs (Ah u.xs[j]) with
     |none=>
      refine Abg<|Ab Mv<|AT (Y.b (Y.not rfl) ((by unfold findF;rw[hlk];rfl)))<|Ab Mv<|Gg<|Gg<|Gg<|Gg<|Gg<|Gg<|Gg<|Ab (Abo rfl rfl)<|Abh ?_;exact⟨(),⟨rfl,rfl,rfl,rfl,rfl,rfl,rfl,rfl,rfl,congrArg Value.bool (decide_eq_true (by intro h;cases h)).symm,trivial⟩,I⟩
     |some v0=>
      by_cases hv0:v0=u.xs[j].v
      ·refine Abg<|Ab Mv<|AF (Y.b (Y.not rfl) ((by unfold findF;rw[hlk];rfl)))<|Ab Mv<|Gi Mv<|Gs Mv<|Gi Mv<|Gp (Ix E Ah8 Aih rfl rfl)<|Gp (Abr BL rfl)<|Gi (Abn An rfl (I.rd (E.rd.part 3 1)) rfl rfl)<|GF (Abt (AbK rfl rfl) ((by unfold findF;rw[hlk];exact fun h=>h hv0)))<|Ab (Abp rfl rfl)<|Abh ?_;exact⟨(),⟨rfl,rfl,rfl,rfl,rfl,rfl,rfl,rfl,rfl,congrArg Value.bool (decide_eq_false (by rw[hv0];exact fun h=>h rfl)).symm,trivial⟩,I⟩
      ·exact Abg<|Ab Mv<|AF (Y.b (Y.not rfl) ((by unfold findF;rw[hlk];rfl)))<|Ab Mv<|Gi Mv<|Gs Mv<|Gi Mv<|Gp (Ix E Ah8 Aih rfl rfl)<|Gp (Abr BL rfl)<|Gi (Abn An rfl (I.rd (E.rd.part 3 1)) rfl rfl)<|GT (Abs (AbK rfl rfl) ((by unfold findF;rw[hlk];exact hv0)))<|Ab (Abp rfl rfl)<|Abh<|⟨(),⟨rfl,rfl,rfl,rfl,rfl,rfl,rfl,rfl,rfl,congrArg Value.bool (decide_eq_true (show some v0≠some u.xs[j].v from fun h=>hv0 (Option.some.inj h))).symm,trivial⟩,I⟩
    rintro _ e w I;refine Abl rfl (fun h29=>?_) (fun h29=>?_)
    ·rw[if_pos h29] at hn;refine Abg<|AbB (v:=v) Mv<|As0 Mv<|Ai Mv<|Ap (Ix E Ah8 Aih rfl rfl)<|Az (Abn AH rfl (I.rd (E.rd.part 0 4)) rfl rfl)<|Abj (AbY (xs:=[u.xs[j]]) (enc:=Fct.enc) I Ah8 Aih Aii rfl (Nb rfl) rfl rfl (by decide) (fun _=>rfl) fun b129 h129 w I le129 sl129=>Abj (Ab0 I Ah8 D6 0 rfl rfl rfl (I.rd (sl129 0 _ rfl).2) rfl rfl (by decide) ((by omega)) (by omega) fun b130 c130 w I=>As0 Ag<|Abh<|Abg<|Ai Mv<|Ai (Dd rfl rfl)<|Ai Ag<|Abh ?_));refine⟨(j+1,.slice (some ⟨b130,0,none⟩) ((BR f.xs (u.xs.take j)).length+1) c130,h129),⟨⟨rfl,rfl,rfl,rfl,rfl,rfl,rfl,rfl,rfl,trivial⟩,?_,by dsimp only;omega,gl5.trans le129⟩,by dsimp only;omega⟩;dsimp only;rw[hn,Ae2,Afv,Afm,AfT];exact I
    ·rw[if_neg h29,Aft] at hn;refine Abk<|Abg<|Ai Mv<|Ai (Dd rfl rfl)<|Ai Ag<|Abh ?_;exact⟨(j+1,v,g4),⟨⟨rfl,rfl,rfl,rfl,rfl,rfl,rfl,rfl,rfl,trivial⟩,by dsimp only;rw[hn];exact I,by dsimp only;omega,gl5⟩,by dsimp only;omega⟩
   obtain rfl:j=u.xs.length:=by omega
   rw[Afo] at I hfl;obtain⟨h10,fs,le10,rfl,efr,infs,I⟩:=I.p8 Do rfl;have hfl:fs.xs.length≤u.xs.length:=by rw[efr];exact hfl
   have okfs:FOk p.preds.xs fs.xs:=by rw[efr];exact⟨oku.len,oku.preds,fun x hx=>oku.fine x (AfN.1 hx).1,oku.srt.sublist AhE⟩
   have hcc':ch-c0=(c-c0)+(CY p s.xs k first fr.xs f.xs).length:=by omega
   have hpu:=B1 p.preds.xs u.xs;have gl10:=gl5.trans le10;refine Abz<|Abg<|As0 Mv<|As0 Ag<|Abh<|Abg<|Ab Ag<|Abh ?_;have hend:SJ p s.xs k f0.xs (ch-c0) false fs.xs u.xs∧(ch≤1000*(Ec p.preds.xs u.xs+k+if False∨fs.xs≠[] then 0 else 1))∧2*(2001-Ec p.preds.xs u.xs)+(if False∨fs.xs≠[] then 1 else 0)<2*(2001-Ec p.preds.xs f.xs)+1:=by
    by_cases hfe:BR f.xs u.xs=[]
    ·have huf:u.xs=f.xs:=Kc okf oku hup hfe;have hno:¬(False∨fs.xs≠[]):=by rw[efr,hfe];simp
     refine⟨.inr ⟨rfl,by rw[efr,hfe],by rw[hcc'];exact hscb.done hjT rfl hfe⟩,?_,?_⟩
     ·rw[if_neg hno,huf];omega
     ·rw[if_neg hno,huf];omega
    ·have hne:u.xs≠f.xs:=fun e=>hfe (by rw[e];exact Ib okf);have hlt:=GR okf oku hup hne;have hyes:False∨fs.xs≠[]:=.inr (by rw[efr];exact hfe);refine⟨.inl ⟨.inr (by rw[efr];exact hfe),by rw[hcc',efr];exact hscb.next hjT rfl hfe⟩,?_,?_⟩
     ·rw[if_pos hyes];omega
     ·rw[if_pos hyes];omega
   obtain⟨he1,he2,he3⟩:=hend;refine⟨⟨false,fs,u,ch,h10⟩,⟨⟨rfl,rfl,rfl,rfl,rfl,rfl,rfl,trivial⟩,I,gl2.trans (gl3.trans gl10),oku,okfs,he1,by dsimp only;omega,iu.le gl10,⟨infs,by dsimp only;omega⟩,?_⟩,?_⟩
   ·dsimp only;simp only[Afy];exact he2
   ·dsimp only;rw[if_pos h9];simp only[Afy];exact he3
  ·have h12:first=false∧fr.xs=[]:=by
    rw[not_or,Ag3,Afh] at h9;exact h9
   rw[if_neg h9] at hcb;have hcl:NY p s.xs k true [] f0.xs f.xs (c-c0):=by
    rcases sj with ⟨h,_⟩|⟨_,_,h⟩
    ·exact absurd h h9
    ·exact h
   refine Abz<|Abg<|Ai Mv<|Ai (Dd rfl rfl)<|Ai Ag<|Abh ?_;exact⟨(f,c,k+1,h2),⟨⟨rfl,rfl,rfl,rfl,rfl,trivial⟩,I,by dsimp only;omega,glA,okf,⟨f0.xs,c0,c-c0,hm,hcl,by dsimp only;omega⟩,hf,by dsimp only;omega⟩,by dsimp only;omega⟩
 have h5:¬(k:Int)≤EV s.xs:=h5;obtain rfl:k=N:=by omega
 refine Abz<|Sr<|As0 Mv<|Ai Mv<|As0 Ag<|Ai Ag<|Abh<|Wr ?_;exact BH.mk (vs:=[.slice _ _ _,.int .i64 _]) rfl ⟨rfl,rfl,trivial⟩ I.j5 (⟨f0,c0,rfl,hf0,by rw[eM,hN];exact hm⟩)
end
section
theorem Ru.mono{xs:List Stp}:Bt (Ru xs):=fun _ _ _ hl ⟨s,a,b,c⟩=>⟨s,a,b,c.le hl⟩
structure TrW where
 f:Sl Fct
 a:Option Addr
 c:Nat
 xs:List Stp
 h:Ae
theorem Ok{B:Aq}{h:Ae}{M:List SA}{w:World}{bc:Nat}{p:Prg}{L:List Int}{st:Int}{f:Sl Fct}{a:Option Addr}{c m:Nat}{xs:List Stp}(I:Inv B h (box bc [p.preds.val,p.rules.val,f.val,.slice a m c] 175::Ao 169 4 (.slice a m c) m (xs.flatMap Stp.enc)::M) w)(hm:m=xs.length)
  (hp:p.In h) (hf:Cv f h) (rk:∀r∈p.rules.xs,ROk p.preds.xs r) (hM:Sol (AX p.rules.xs) p.preds.xs.length L) (n:Nat) (r:Rul) (hr:p.rules.xs[n]?=some r) (hlv:lv L r.head.pred=st) (okf:FOk p.preds.xs f.xs) (hlen:xs.length≤Ec p.preds.xs f.xs) :
  Calls prog 136 [Pt bc,.int .i64 n].toArray w
   (fun ed w'=>∃(f':Sl Fct) (a':Option Addr) (c':Nat) (xs':List Stp) (h':Ae),ed=.returned (.bool (decide ((xs'.length:Int)>xs.length)))∧h.le h'∧(f'.xs,xs')=EE p n (f.xs,xs)∧Cv f' h'∧
    Inv B h' (box bc [p.preds.val,p.rules.val,f'.val,.slice a' xs'.length c'] 175::Ao 169 4 (.slice a' xs'.length c') xs'.length (xs'.flatMap Stp.enc)::M) w'):=by
 subst hm;have ok:=rk r (Afk hr);have hr':p.rules.xs[(n:Int).toNat]?=some r:=by rw[Afs];exact hr
 have hgd:p.rules.xs.getD n default=r:=by rw[Ae3,hr];rfl
 have hpl:=B1 p.preds.xs f.xs;refine AbV (args:=[Pt bc,.int .i64 n]) func136 rfl ntmps136 (by kernel_rfl) (by simp) fun e=>Sr<|Ab Ag<|Abh<|Sr<|Ap Mv<|Ap (Ab4 rfl)<|Ap (Abr G5 rfl)<|As0 (Ld I G4 0 3 1 rfl rfl rfl)<|Ai (AbA Aif rfl)<|Ai Ag<|Abh<|Abi<|Abi<|AbM AC I 12 (by kernel_rfl)<|Fp (fun _ w us hl I=>Mv)<|Fp (fun _ w us hl I=>Ab4 rfl)<|Fp (fun _ w us hl I=>Abu LR rfl)<|Fx (fun _ w us hl I=>Ld I As 0 0 2 rfl rfl rfl)<|Fp (fun _ w us hl I=>Mv)<|Fp (fun _ w us hl I=>Ab4 rfl)<|Fp (fun _ w us hl I=>Abr IG rfl)<|Fs (fun _ w us hl I=>Ld I CD 0 2 1 rfl rfl rfl)<|Fi (fun _ w us hl I=>Mv) ?_;refine AbR (Φ:=Ru (A6 f.xs n r)) Ru.mono (fun _=>Aj _) ?_ ?_
 ·intro _ w hl I;try unfold CT
  refine AbE I call174 (Qn _ I.j6 p (hp.le hl) f (hf.le hl) n r (by omega) hr' ok okf) rfl ?_;rintro _ h9 w I hl' hx;exact⟨_,hl',I,hx⟩
 refine AcE (v:=.int .i64 (A6 f.xs n r).length) (fun _=>Aj _) ?_ ?_
 ·intro _ w hl I u26 q26;obtain⟨s9,rfl,e9,i9⟩:=q26 rfl;exact AeD I (AbA Aif rfl) (by rw[e9])
 refine Fi (fun _ w us hl I=>Mv)<|AbX fun _ w hl I u26 q26=>Abh ?_;obtain⟨ss,rfl,hss,iss⟩:=q26 rfl;obtain⟨SS,hSS⟩:∃t,A6 f.xs n r=t:=⟨_,rfl⟩;rw[hSS] at hss;rw[hSS];subst hss;rename_i h2;have hsm:=iss.small;refine WP.block ?_;refine Abx (σ:=Nat×TrW) (fun s=>[(0,Pt bc),(1,.int .i64 n),(5,.int .i64 xs.length),(26,ss.val),(27,.int .i64 ss.xs.length),(28,.int .i64 s.1)])
  (fun s w=>Inv B s.2.h (box bc [p.preds.val,p.rules.val,s.2.f.val,.slice s.2.a s.2.xs.length s.2.c] 175::Ao 169 4 (.slice s.2.a s.2.xs.length s.2.c) s.2.xs.length (s.2.xs.flatMap Stp.enc)::M) w∧s.1≤ss.xs.length∧h2.le s.2.h∧(s.2.f.xs,s.2.xs)=trL p.preds.xs r (ss.xs.take s.1) (f.xs,xs)∧Cv s.2.f s.2.h) (fun s=>ss.xs.length-s.1)
  ⟨(0,⟨f,a,c,xs,h2⟩),⟨rfl,rfl,rfl,rfl,rfl,rfl,trivial⟩,I,Afa _,Ae.le.refl _,rfl,hf.le hl⟩ ?_
 rintro⟨j,f1,a1,c1,xs1,g3⟩ e w ⟨I,hj,gl,hs,hf1⟩;dsimp only at I hj gl hs hf1 ⊢;have hst:∀x∈ss.xs,x∈A6 f.xs n r:=fun x hx=>hSS▸hx;have hts:C1 p L st (f.xs,xs) (f1.xs,xs1):=by
  rw[hs];exact HG rk hM hr hlv okf _ _ (fun x hx=>hst x (AfX hx)) .refl
 have okf1:FOk p.preds.xs f1.xs:=(Co rk okf hts).fok;have hpl1:=B1 p.preds.xs f1.xs;have hlen1:xs1.length≤Ec p.preds.xs f1.xs:=EF rk okf hts hlen;have gl2:=hl.trans gl;refine Sr<|Ad (AbC rfl rfl)<|Abh<|Abi ?_;refine Abl rfl (fun h3=>?_) (fun h3=>?_)
 ·have hjj:j<ss.xs.length:=by omega
  have E:=(iss.le gl).at hjj;have hfi:Mw p L st f1.xs n r ss.xs[j]:=Mx rk hM (Co rk okf hts) (GV hr hlv (hst _ (Ae5 hjj)));obtain⟨y,hy⟩:∃y,CP p.preds.xs f1.xs r ss.xs[j].vars=y:=⟨_,rfl⟩;have hyF:Cm p.preds.xs f1.xs r ss.xs[j].vars=(true,y):=by unfold Cm;rw[if_pos hfi.holds,hy]
  have hfine:factFine p.preds.xs y=true:=hy▸Ge rk okf1 hfi;have hnx:HE p.preds.xs (f1.xs,xs1) ss.xs[j] y=trL p.preds.xs r (ss.xs.take (j+1)) (f.xs,xs):=by
   rw[QI hjj,←hs,←hy];rfl
  refine Abk<|Abi<|WP.block<|Sr<|Ap (Ix E Aif Aiw rfl rfl)<|Az (Abn Cy rfl (I.rd (E.rd.part 0 4)) rfl rfl)<|Abj (O.alloc I AiE rfl fun b7 w I=>Abj (Sz I Cy 0 rfl rfl rfl rfl fun w I=>Abh<|Abi<|Ab9 AC RBx.pre ⟨g3,none,none⟩ (J:=JBx B ([box b7 ss.xs[j].enc 169,box bc [p.preds.val,p.rules.val,f1.val,.slice a1 xs1.length c1] 175,Ao 169 4 (.slice a1 xs1.length c1) xs1.length (xs1.flatMap Stp.enc)]++M) 83 [.int .i64 0,.int .i64 0,.int .i64 0,.int .i64 0] y.enc 15 99 17) ⟨rfl,rfl,fun h=>(by cases h),I.drew⟩ 18 (by kernel_rfl)<|Aby (v:=.pointer (some ⟨_,_,none⟩)) (fun _=>Aa _) RBx.pre (JBx.set (by decide)) (fun _ s w us hl hj=>have I:=hj.base;have hl:=hl.h;Mv)<|Aby (v:=.pointer (some ⟨_,_,none⟩)) (fun _=>Aa _) RBx.pre (JBx.set (by decide)) (fun _ s w us hl hj=>have I:=hj.base;have hl:=hl.h;Ab4 rfl)<|Aby (v:=.pointer (some ⟨_,_,none⟩)) (fun _=>Aa _) RBx.pre (JBx.set (by decide)) (fun _ s w us hl hj=>have I:=hj.base;have hl:=hl.h;Abu LR rfl)<|Aby (v:=.agg #[_,_]) (fun _=>Aa _) RBx.pre (JBx.set (by decide)) (fun _ s w us hl hj=>have I:=hj.base;have hl:=hl.h;Ld I As 1 0 2 rfl rfl rfl)<|Aby (v:=.pointer (some ⟨_,_,none⟩)) (fun _=>Aa _) RBx.pre (JBx.set (by decide)) (fun _ s w us hl hj=>have I:=hj.base;have hl:=hl.h;Mv)<|Aby (v:=.pointer (some ⟨_,_,none⟩)) (fun _=>Aa _) RBx.pre (JBx.set (by decide)) (fun _ s w us hl hj=>have I:=hj.base;have hl:=hl.h;Ab4 rfl)<|Aby (v:=.pointer (some ⟨_,_,none⟩)) (fun _=>Aa _) RBx.pre (JBx.set (by decide)) (fun _ s w us hl hj=>have I:=hj.base;have hl:=hl.h;Abr IG rfl)<|Aby (v:=.slice _ _ _) (fun _=>Aa _) RBx.pre (JBx.set (by decide)) (fun _ s w us hl hj=>have I:=hj.base;have hl:=hl.h;Ld I CD 1 2 1 rfl rfl rfl)<|Aby (v:=.int .i64 _) (fun _=>Aa _) RBx.pre (JBx.set (by decide)) (fun _ s w us hl hj=>have I:=hj.base;have hl:=hl.h;Mv)<|Aby (v:=.pointer (some ⟨_,_,none⟩)) (fun _=>Aa _) RBx.pre (JBx.set (by decide)) (fun _ s w us hl hj=>have I:=hj.base;have hl:=hl.h;Abr BV rfl)<|Aby (v:=.agg #[_,_,_]) (fun _=>Aa _) RBx.pre (JBx.set (by decide)) (fun _ s w us hl hj=>have I:=hj.base;have hl:=hl.h;Ld I CI 0 1 3 rfl rfl rfl)<|Adn (by decide) (fun _ s w us hl hj=>have I:=hj.inv;have hl:=hl.h;Abm I call175 (Qg _ I.j6 p ((hp.le gl2).le hl) f1 (hf1.le hl) n r (by omega) hr' ok okf1 ss.xs[j].vars hfi.vs (true,y) hyF) rfl (fun w' I'=>⟨rfl,⟨hj.h7,hj.h8,hj.ord,I'⟩⟩))<|Aby (v:=.tuple #[_,_]) (fun _=>Aa _) RBx.pre (JBx.set (by decide)) (fun _ s w us hl hj=>have I:=hj.base;have hl:=hl.h;Mv)<|Aby (v:=.bool _) (fun _=>Aa _) RBx.pre (JBx.set (by decide)) (fun _ s w us hl hj=>have I:=hj.base;have hl:=hl.h;Y.extract rfl rfl)<|Aby (v:=.agg #[_,_,_,_]) (fun _=>Aa _) RBx.pre (JBx.set (by decide)) (fun _ s w us hl hj=>have I:=hj.base;have hl:=hl.h;Y.extract rfl rfl)<|AcR Aii rfl (by decide) (by decide)<|Aby (v:=.bool _) (fun _=>Aa _) RBx.pre (JBx.set (by decide)) (fun _ s w us hl hj=>have I:=hj.base;have hl:=hl.h;Ag)<|AcI AH rfl rfl (fun s=>by intro u9 q9;exact⟨q9 rfl,rfl⟩) rfl rfl (by decide) (by decide)<|Acl fun D s' w hD hl hj' u9 q9=>Abh ?_));obtain⟨b9,rfl,h9⟩:=q9 rfl;have I:=hj'.inv;rw[h9,hD 17 (by omega)] at I;have hl:=hl.h;generalize s'.o8=o8 at I;generalize s'.h=h12 at I hl;have I:Inv B h12 ([box b9 y.enc 83,box b7 ss.xs[j].enc 169,box bc [p.preds.val,p.rules.val,f1.val,.slice a1 xs1.length c1] 175,Ao 169 4 (.slice a1 xs1.length c1) xs1.length (xs1.flatMap Stp.enc)]++M) w:=by
   cases o8 with
   |none=>exact I
   |some b8=>exact I.weak (List.Sublist.cons_cons _ (Af3 _ _))
  have gl3:=gl2.trans hl;obtain⟨tr,htr⟩:∃t,Dw (Al p.preds.xs y.pred).kind f1.xs y=t:=⟨_,rfl⟩;have hput:HE p.preds.xs (f1.xs,xs1) ss.xs[j] y=if tr.2=true then (tr.1,xs1++[ss.xs[j]]) else (f1.xs,xs1):=by unfold HE;rw[htr]
  refine Abi<|AbM AC I 16 (by kernel_rfl)<|Fp (fun _ w us hl I=>Mv)<|Fp (fun _ w us hl I=>Ab4 rfl)<|Fp (fun _ w us hl I=>Abu LR rfl)<|Fp (fun _ w us hl I=>Abu At rfl)<|Fs (fun _ w us hl I=>Ld I A7 2 0 1 rfl rfl rfl)<|Fp (fun _ w us hl I=>Mv)<|Fp (fun _ w us hl I=>Ab4 rfl)<|Fp (fun _ w us hl I=>Abr IG rfl)<|Fs (fun _ w us hl I=>Ld I CD 2 2 1 rfl rfl rfl)<|Fz (fun _ w us hl I=>Ld I AH 0 0 4 rfl rfl rfl) ?_;refine AbR (Φ:=U2 tr) U2.mono (fun _=>Aj _) ?_ ?_
  ·intro _ w hl I;try unfold CT
   refine AbE I call132 (htr▸TI _ I.j6 p.preds (hp.preds.le (gl3.trans hl)) f1 (hf1.le (‹g3.le h12›.trans hl)) okf1 y hfine) rfl ?_;rintro _ h6 w I hl' hx;exact⟨_,hl',I,hx⟩
  refine AbR (Φ:=U2 tr) U2.mono (fun _=>Aj _) ?_ ?_
  ·intro _ w hl I u58 q58;exact AcJ I Mv (q58 rfl)
  refine AbR (Φ:=SlS 4 Fct.enc tr.1) SlS.mono (fun _=>Aj _) ?_ ?_
  ·intro _ w hl I u58 q58 u47 q47;obtain⟨s6,rfl,e6,i6⟩:=q47 rfl;exact AcJ I (Y.extract rfl rfl) (⟨s6,rfl,e6,i6⟩)
  refine AcE (v:=.bool tr.2) (fun _=>Aj _) ?_ ?_
  ·intro _ w hl I u58 q58 u47 q47 u59 q59;obtain⟨s6,rfl,e6,i6⟩:=q47 rfl;exact AeD I (Y.extract rfl rfl) (rfl)
  refine AbR (Φ:=SlS 4 Fct.enc tr.1) SlS.mono (fun _=>Aj _) ?_ ?_
  ·intro _ w hl I u58 q58 u47 q47 u59 q59;exact AcJ I Ag (q59 rfl)
  refine Fb (fun _ w us hl I=>Ag)<|AbX fun _ w hl I u58 q58 u47 q47 u59 q59 u10 q10=>Abh ?_;obtain⟨s6,rfl,hs6,is6⟩:=q10 rfl;refine Sr<|Ab Mv<|Abh ?_;refine AbG rfl (fun h7=>?_) (fun h7=>?_)
  ·have h7:tr.2=true:=h7;rw[if_pos h7] at hput;refine Sr<|Ap Mv<|As0 Mv<|Ap (Ab4 rfl)<|Ap (Abr IG rfl)<|Abj (Ss0 I CD 2 rfl rfl rfl rfl fun w I=>Abh<|Ab9 AC RAp.pre ⟨_,none⟩ (J:=JAp B ([box b9 y.enc 83,box b7 ss.xs[j].enc 169,box bc [p.preds.val,p.rules.val,s6.val,.slice a1 xs1.length c1] 175]++M) 169 4 xs1.length 1 (.slice a1 xs1.length c1) (xs1.flatMap Stp.enc) ss.xs[j].enc 7) ⟨rfl,(I.front 3 rfl).drew⟩ 8 (by kernel_rfl)<|Aby (v:=.pointer (some ⟨_,_,none⟩)) (fun _=>Aa _) RAp.pre (JAp.set (by decide)) (fun _ s w us hl hj=>have I:=hj.base;have hl:=hl.h;Mv)<|Aby (v:=.pointer (some ⟨_,_,none⟩)) (fun _=>Aa _) RAp.pre (JAp.set (by decide)) (fun _ s w us hl hj=>have I:=hj.base;have hl:=hl.h;Mv)<|Aby (v:=.pointer (some ⟨_,_,none⟩)) (fun _=>Aa _) RAp.pre (JAp.set (by decide)) (fun _ s w us hl hj=>have I:=hj.base;have hl:=hl.h;Ab4 rfl)<|Aby (v:=.pointer (some ⟨_,_,none⟩)) (fun _=>Aa _) RAp.pre (JAp.set (by decide)) (fun _ s w us hl hj=>have I:=hj.base;have hl:=hl.h;Abr G5 rfl)<|Aby (v:=.slice _ _ _) (fun _=>Aa _) RAp.pre (JAp.set (by decide)) (fun _ s w us hl hj=>have I:=hj.base;have hl:=hl.h;Ld I G4 2 3 1 rfl rfl rfl)<|Aby (v:=.agg #[_,_,_,_]) (fun _=>Aa _) RAp.pre (JAp.set (by decide)) (fun _ s w us hl hj=>have I:=hj.base;have hl:=hl.h;Ld I Cy 1 0 4 rfl rfl rfl) ?_);refine AbT (Φ:=KnA (LK 169 ss.xs[j].enc 1)) (KnA.mono LK.mono) (fun _=>Aa _) (fun D' z w hDk hl hj=>FR.all fun us=>?_) ?_
   ·exact hj.know (by decide) fun N I=>AcM (cs:=ss.xs[j].enc) I Aif Aiw AiE (by decide) (by decide) rfl rfl (fun v h w I le sl=>⟨h,le,I,sl⟩)
   refine AbT (Φ:=ON (xs1.length+1)) ON.mono (fun _=>Aa _) (fun D' z w hDk hl hj=>?_) ?_
   ·intro u72 q72;obtain⟨bl,rfl,hbl⟩:=q72 rfl;refine hj.app hDk fun I=>?_;have kb:Ci z.h bl ss.xs[j].enc:=⟨fun j v hv=>by simp[Ae.cell,hbl,hv]⟩;exact Ab0 I Aif KU 0 rfl rfl rfl (I.rd kb.rd) rfl rfl (by decide) (by omega) (by omega) fun g c w I=>⟨g,c,rfl,I⟩
   refine Acl fun D z w hD hl hj u72 q72 u73 q73=>?_;obtain⟨g,c2,rfl,h7⟩:=q73 rfl;have I:=hj.inv;rw[h7] at I;have I:=I.perm (Agi (l₁:=[_,_,_]));refine Ap (Ab4 rfl)<|Ap (Abr G5 rfl)<|Abj (Ss0 I G4 2 rfl rfl rfl rfl fun w I=>Abh<|Abg<|Ai (Dd rfl rfl)<|Ai Mv<|Abh ?_);have e1:(xs1++[ss.xs[j]]).length=xs1.length+1:=by simp
   have I:=I.weak (M':=box bc [p.preds.val,p.rules.val,s6.val,.slice (some ⟨g,0,none⟩) (xs1++[ss.xs[j]]).length c2] 175::Ao 169 4 (.slice (some ⟨g,0,none⟩) (xs1++[ss.xs[j]]).length c2) (xs1++[ss.xs[j]]).length ((xs1++[ss.xs[j]]).flatMap Stp.enc)::M) (by rw[e1,Afm,AfT];exact .cons _ (.cons _ (List.Sublist.refl _)));exact⟨(j+1,⟨s6,some ⟨g,0,none⟩,c2,xs1++[ss.xs[j]],_⟩),⟨⟨rfl,rfl,rfl,rfl,rfl,rfl,trivial⟩,I,by dsimp only;omega,((gl.trans ‹g3.le h12›).trans ‹h12.le _›).trans hl.h,by dsimp only;rw[←hnx,hput,hs6],is6.le hl.h⟩,by dsimp only;omega⟩
  ·have h7:tr.2=false:=by simpa using h7
   rw[h7,if_neg (by decide)] at hput;refine Abk<|Abg<|Ai (Dd rfl rfl)<|Ai Mv<|Abh ?_;exact⟨(j+1,⟨f1,a1,c1,xs1,_⟩),⟨⟨rfl,rfl,rfl,rfl,rfl,rfl,trivial⟩,I.weak (.cons _ (.cons _ (List.Sublist.refl _))),by dsimp only;omega,(gl.trans ‹g3.le h12›).trans hl,by dsimp only;rw[←hnx,hput],(hf1.le ‹g3.le h12›).le hl⟩,by dsimp only;omega⟩
 ·obtain rfl:j=ss.xs.length:=by omega
  rw[Afo] at hs;refine Abz<|Sr<|Ap Mv<|Ap (Ab4 rfl)<|Ap (Abr G5 rfl)<|As0 (Ld I G4 0 3 1 rfl rfl rfl)<|Ai (AbA Aif rfl)<|Ai Mv<|Ad (AbL rfl rfl)<|Ab Ag<|Abh<|Wr ?_;exact⟨.inl rfl,[.bool (decide ((xs1.length:Int)>xs.length))],⟨rfl,trivial⟩,f1,a1,c1,xs1,g3,rfl,gl2,by rw[hs];unfold EE;rw[hgd,hSS],hf1,I⟩
end
section
def Sl.Fl{α:Type}(s:Sl α):Prop:=s=⟨none,0,[]⟩∨∃g,s.at_=some ⟨g,0,none⟩∧s.xs.length≤s.cap
theorem Di.fl{α:Type}{el k:Nat}{s:Sl α}{enc:α→List Value}{h0 h:Ae}(o:Di el k s enc h0 h):s.Fl:=by
 rcases o with o|⟨g,cur,h1,_,_,h4,_⟩
 ·exact .inl o
 ·exact .inr ⟨g,h1,h4⟩
def Abe(p:Prg)(v:Value)(h:Ae):Prop:=(Ac p≠0∧v=.tuple #[.slice none 0 0,.int .i64 (Ac p)])∨(Ac p=0∧∃(s:Sl Stp) (f:List Fct),v=.tuple #[s.val,.int .i64 0]∧Aaw s h∧s.Fl∧s.xs.length≤2000∧Lu p (Ak p) (Ds (Ak p)) (f,s.xs))
@[reducible] def trM(p:Prg)(b1 bc:Nat)(s:TrW):List SA:=[box bc [p.preds.val,p.rules.val,s.f.val,.slice s.a s.xs.length s.c] 175,Ao 169 4 (.slice s.a s.xs.length s.c) s.xs.length (s.xs.flatMap Stp.enc),box b1 p.enc 25]
structure TrJ(p:Prg)(s:TrW)(h0:Ae):Prop where
 le:h0.le s.h
 fok:FOk p.preds.xs s.f.xs
 fin:Cv s.f s.h
 len:s.xs.length≤Ec p.preds.xs s.f.xs
theorem WT(B:Aq)(hB:B.ok)(p:Prg)(hp:p.In B.h)(hnm:p.Nm):Fn prog 89 [p.val] B (Abe p):=by
 refine Fo hB func89 rfl ntmps89 fun e I=>Sr<|Abj (O.box (v:=.agg #[_,_]) I rfl rfl fun b1 w I=>As0 Ag<|Ai Ag<|Abh ?_);by_cases hpr:Ac p≠0
 ·refine Sr<|Ax (Ld I As 0 0 2 rfl rfl rfl)<|Abj (AbE I call135 (Hn _ I.j6 p hp hnm) rfl ?_);rintro v h1 w I le1 hS;rcases hS with ⟨_,rfl⟩|⟨h0,_⟩;rotate_left;exact absurd h0 hpr;refine Au Mv<|As0 (Y.extract rfl rfl)<|Ai (Y.extract rfl rfl)<|As0 Ag<|Ai Ag<|Abh<|Abi<|Sr<|Ai Mv<|Ad (AbK rfl rfl)<|Abh<|Aco rfl (hpr)<|Sr<|Ai Mv<|As0 Ag<|Ai Ag<|Abh<|Wr ?_;exact BH.mk (vs:=[.slice _ _ _,.int .i64 _]) rfl ⟨rfl,rfl,trivial⟩ I.j5 (.inl ⟨hpr,rfl⟩)
 have hpr:=Afh.1 hpr;obtain⟨k1,k2,k3,_,_⟩:=AB hpr;have rk:=BA hpr;have ok0:=Ea hpr;refine Sr<|Ax (Ld I As 0 0 2 rfl rfl rfl)<|Abj (AbE I call135 (Hn _ I.j6 p hp hnm) rfl ?_);rintro v h1 w I le1 hS;rcases hS with ⟨h0,_⟩|⟨_,s,hS,hI,rfl⟩;exact absurd hpr h0;refine Au Mv<|As0 (Y.extract rfl rfl)<|Ai (Y.extract rfl rfl)<|As0 Ag<|Ai Ag<|Abh ?_;have eM:=Bl hS;have hsl:s.xs.length=p.preds.xs.length:=hS.sol.len;have hb5:=CH hpr hS;have hN5:=CG hb5;have hNe:=GU s.xs;obtain⟨N,hN⟩:∃N,Ds s.xs=N:=⟨_,rfl⟩;have hsr:=hp.rules.is.small;refine Abi<|Sr<|Ai Mv<|Ad (AbK rfl rfl)<|Abh<|Ach rfl ((fun h=>h rfl))<|Abk<|Sr<|Ax (Ld I As 0 0 2 rfl rfl rfl)<|AbB (v:=.agg #[.slice _ _ _,.slice _ _ _,.slice _ _ _,.slice _ _ _]) (Y.build Zx zeroValue175 rfl rfl)<|Abj (O.box (v:=.agg #[_,_,_,_]) I rfl rfl fun b21 w I=>Ap Ag<|Abh<|Abi<|Sr<|As0 Mv<|Abj (Abm I call76 (hN▸H9 _ I.j6 s hI hb5) rfl fun w I=>Ai Mv<|Abh ?_));have I:=I.l9 169 4;refine WP.block ?_;refine Abx (σ:=Nat×TrW) (fun s'=>[(1,Pt b1),(4,s.val),(6,Pt b21),(23,.int .i64 N),(24,.int .i64 s'.1)])
  (fun s' w=>Inv B s'.2.h (trM p b1 b21 s'.2) w∧s'.1≤N∧TrJ p s'.2 h1∧Lu p s.xs s'.1 (s'.2.f.xs,s'.2.xs)) (fun s'=>N-s'.1)
  ⟨(0,⟨⟨none,0,[]⟩,none,0,[],h1⟩),⟨rfl,rfl,rfl,rfl,rfl,trivial⟩,I.perm (List.Perm.swap ..),Afa _,⟨Ae.le.refl _,ok0,fnil,Afa _⟩,rfl⟩ ?_
 rintro⟨k,f0,a0,c0,xs0,g0⟩ e w ⟨I,hk,j0,hm⟩;dsimp only at I hk j0 hm ⊢;refine Sr<|Ad (AbC rfl rfl)<|Abh<|Abi ?_;refine Abl rfl (fun h6=>?_) (fun h6=>?_)
 ·have hk':k<N:=by omega
  have hp0:=hp.le (le1.trans j0.le);have hI0:=hI.le j0.le;refine Abk<|Abi<|WP.block<|Sr<|Ai Mv<|Ai Ag<|Abh<|Sr<|Ax (Ld I As 2 0 2 rfl rfl rfl)<|As0 Mv<|Ai Mv<|Abj (AbE I call78 (T4 _ I.j6 p s k) rfl ?_);rintro _ h8 w I le8 ⟨b4,b3,b5,rfl,k4,k3',k5⟩;refine Af Ag<|Abh ?_;have hoc:=O1 p s k b4 b3 b5 k4 k3' k5 (hp0.le le8) (hI0.le le8) hS.sol.len (F7 k3);obtain⟨cs,hcs⟩:∃cs,cs=[Pt b4,Pt b3,Pt b5]:=⟨_,rfl⟩;rw[←hcs] at hoc;refine Sr<|Ab Ag<|Abh<|WP.block ?_;refine Abx (σ:=Bool×TrW) (fun s'=>[(1,Pt b1),(4,s.val),(6,Pt b21),(23,.int .i64 N),(24,.int .i64 k),(7,.int .i64 k),(8,.func (.func 133) #[] cs.toArray),(9,.bool s'.1)])
   (fun s' w=>Inv B s'.2.h (trM p b1 b21 s'.2) w∧TrJ p s'.2 h8∧TJ (CL p (ofQ p s.xs k)) (f0.xs,xs0) s'.1 (s'.2.f.xs,s'.2.xs)) (fun s'=>2*(2001-Ec p.preds.xs s'.2.f.xs)+if s'.1=true then 1 else 0)
   ⟨(true,⟨f0,a0,c0,xs0,h8⟩),⟨rfl,rfl,rfl,rfl,rfl,rfl,by rw[hcs];rfl,rfl,trivial⟩,I,⟨Ae.le.refl _,j0.fok,j0.fin.le le8,j0.len⟩,TJ.zero⟩ ?_
  rintro⟨ag,f1,a1,c1,xs1,g1⟩ e w ⟨I,j1,tj⟩;dsimp only at I j1 tj ⊢;have hpl1:=B1 p.preds.xs f1.xs;refine Abi<|Sr<|Ab Mv<|Abh ?_;refine AbG rfl (fun h10=>?_) (fun h10=>?_)
  ·obtain rfl:ag=true:=h10;refine Abk<|WP.block<|Sr<|Ab Ag<|Abh<|Sr<|Ap (Abr AU rfl)<|As0 (Ld I Cc 2 1 1 rfl rfl rfl)<|Ai (AbA Aic rfl)<|Ai Mv<|Abh<|WP.block ?_;obtain⟨q,hq⟩:∃q,ofQ p s.xs k=q:=⟨_,rfl⟩;have hsteps:∀n,n≤p.rules.xs.length→C1 p s.xs k (f1.xs,xs1) (trK p q (f1.xs,xs1) n):=fun n hn=>by rw[←hq];exact FM rk hS.sol (s0:=(f1.xs,xs1)) j1.fok n hn
   refine Abx (σ:=Nat×TrW) (fun s'=>[(1,Pt b1),(4,s.val),(6,Pt b21),(23,.int .i64 N),(24,.int .i64 k),(7,.int .i64 k),(8,.func (.func 133) #[] cs.toArray),(9,.bool (decide (s'.2.xs.length≠xs1.length))),(34,.int .i64 p.rules.xs.length),(35,.int .i64 s'.1)])
    (fun s' w=>Inv B s'.2.h (trM p b1 b21 s'.2) w∧s'.1≤p.rules.xs.length∧g1.le s'.2.h∧Cv s'.2.f s'.2.h∧(s'.2.f.xs,s'.2.xs)=trK p q (f1.xs,xs1) s'.1) (fun s'=>p.rules.xs.length-s'.1)
    ⟨(0,⟨f1,a1,c1,xs1,g1⟩),⟨rfl,rfl,rfl,rfl,rfl,rfl,rfl,congrArg Value.bool (by simp),rfl,rfl,trivial⟩,I,Afa _,Ae.le.refl _,j1.fin,rfl⟩ ?_
   rintro⟨n,f2,a2,c2,xs2,g2⟩ e w ⟨I,hn,gl2,hf2,hs2⟩;dsimp only at I hn gl2 hf2 hs2 ⊢;have hts:=hsteps n hn;rw[←hs2] at hts;have okf2:FOk p.preds.xs f2.xs:=(Co rk (s0:=(f1.xs,xs1)) j1.fok hts).fok;have hl1:=j1.len;dsimp only at hl1;have hl2:xs2.length≤Ec p.preds.xs f2.xs:=EF rk (s0:=(f1.xs,xs1)) j1.fok hts hl1;have hmono:xs1.length≤xs2.length:=by have:=I7 (p:=p) (q:=q) (s:=(f1.xs,xs1)) n;rw[←hs2] at this;exact this
   have hpl2:=B1 p.preds.xs f2.xs;refine Sr<|Ad (AbC rfl rfl)<|Abh<|Abi ?_;refine Abl rfl (fun h13=>?_) (fun h13=>?_)
   ·have hn':n<p.rules.xs.length:=by omega
    have hr:p.rules.xs[n]?=some p.rules.xs[n]:=Ae4 hn';refine Abk<|Abi<|WP.block<|Sr<|Ai Mv<|Ai Ag<|Abh ?_;cases hqn:q n
    ·have hk2:trK p q (f1.xs,xs1) (n+1)=(f2.xs,xs2):=by rw[trK,hqn,if_neg (by decide),←hs2]
     refine Sr<|Af Mv<|Ai Mv<|Abj (Acd I hoc.1 (fs:=[]) (cs:=cs) rfl (hoc.2 _ I.j6 (j1.le.trans gl2) n hn') rfl fun w I=>AF (Y.b Mv ((by rw[hq];exact hqn)))<|Gg<|Gg<|Gg<|Ab (Abp rfl rfl)<|Abh<|Abq rfl<|Abk<|Abg<|Ai (Dd rfl rfl)<|Ai Mv<|Abh ?_);exact⟨(n+1,⟨f2,a2,c2,xs2,g2⟩),⟨⟨rfl,rfl,rfl,rfl,rfl,rfl,rfl,rfl,rfl,rfl,trivial⟩,I,by dsimp only;omega,gl2,hf2,hk2.symm⟩,by dsimp only;omega⟩
    ·have hlv:lv s.xs p.rules.xs[n].head.pred=k:=(J9 hr).1 (by rw[hq];exact hqn);refine Sr<|Af Mv<|Ai Mv<|Abj (Acd I hoc.1 (fs:=[]) (cs:=cs) rfl (hoc.2 _ I.j6 (j1.le.trans gl2) n hn') rfl fun w I=>AT (Y.b Mv ((by rw[hq];exact hqn)))<|Gp Mv<|Gi Mv<|Ab8 rfl (Ace call136 (Ok I rfl (hp0.le (le8.trans (j1.le.trans gl2))) hf2 rk hS.sol n _ hr hlv okf2 hl2) rfl ?_));rintro ed w ⟨f3,a3,c3,xs3,g3,rfl,le3,htr,hf3,I⟩;refine⟨_,rfl,?_⟩;refine Ab (Abo rfl rfl)<|Abh ?_;have hk2:trK p q (f1.xs,xs1) (n+1)=(f3.xs,xs3):=by rw[trK,hqn,if_pos rfl,←hs2,htr]
     have hmono2:xs2.length≤xs3.length:=by have:=Gc (l:=p.preds.xs) (r:=p.rules.xs.getD n default) (A6 f2.xs n (p.rules.xs.getD n default)) (f2.xs,xs2);rw[show trL _ _ _ _=(f3.xs,xs3) from htr.symm] at this;exact this
     refine Abl rfl (fun h15=>?_) (fun h15=>?_)
     ·dsimp only at h15;refine Abg<|Ab Ag<|Abh<|Abg<|Ai (Dd rfl rfl)<|Ai Mv<|Abh ?_;exact⟨(n+1,⟨f3,a3,c3,xs3,g3⟩),⟨⟨rfl,rfl,rfl,rfl,rfl,rfl,rfl,congrArg Value.bool (decide_eq_true (by dsimp only;omega)).symm,rfl,rfl,trivial⟩,I,by dsimp only;omega,gl2.trans le3,hf3,hk2.symm⟩,by dsimp only;omega⟩
     ·dsimp only at h15;have he:xs3.length=xs2.length:=by omega
      refine Abk<|Abg<|Ai (Dd rfl rfl)<|Ai Mv<|Abh ?_;exact⟨(n+1,⟨f3,a3,c3,xs3,g3⟩),⟨⟨rfl,rfl,rfl,rfl,rfl,rfl,rfl,congrArg Value.bool (by rw[he]),rfl,rfl,trivial⟩,I,by dsimp only;omega,gl2.trans le3,hf3,hk2.symm⟩,by dsimp only;omega⟩
   ·obtain rfl:n=p.rules.xs.length:=by omega
    have hpot:=Ic rk (s0:=(f1.xs,xs1)) j1.fok hts;dsimp only at hpot;have hT:CL p (ofQ p s.xs k) (f1.xs,xs1)=(f2.xs,xs2):=by rw[hq];exact hs2.symm
    refine Abz ?_;refine⟨(decide (xs2.length≠xs1.length),⟨f2,a2,c2,xs2,g2⟩),⟨⟨rfl,rfl,rfl,rfl,rfl,rfl,rfl,rfl,trivial⟩,I,⟨j1.le.trans gl2,okf2,hf2,hl2⟩,TJ.next tj hT⟩,?_⟩;dsimp only;by_cases he:xs2.length=xs1.length
    ·rw[decide_eq_false (fun h=>h he)];simp;omega
    ·rw[decide_eq_true he];simp;omega
  ·obtain rfl:ag=false:=by simpa using h10
   refine Abz<|Abg<|Ai (Dd rfl rfl)<|Ai Mv<|Abh ?_;exact⟨(k+1,⟨f1,a1,c1,xs1,g1⟩),⟨⟨rfl,rfl,rfl,rfl,rfl,trivial⟩,I,by dsimp only;omega,⟨j0.le.trans (le8.trans j1.le),j1.fok,j1.fin,j1.len⟩,(f0.xs,xs0),hm,tj.done⟩,by dsimp only;omega⟩
 ·obtain rfl:k=N:=by omega
  have hpl0:=B1 p.preds.xs f0.xs;have hl0:=j0.len;dsimp only at hl0;refine Abz<|Sr<|Ap Mv<|Ap (Ab4 rfl)<|Ap (Abr G5 rfl)<|As0 (Ld I G4 0 3 1 rfl rfl rfl)<|As0 Ag<|Ai Ag<|Abh ?_;obtain⟨h5,ss,le5,hv5,hx5,ow5,I⟩:=(I.front 1 rfl).y5 rfl;have in5:=ow5.in CX;have hl5:ss.xs.length=xs0.length:=by rw[hx5]
  refine Wr ?_;exact BH.mk (vs:=[.slice _ _ _,.int .i64 _]) rfl ⟨rfl,rfl,trivial⟩ I.j5 (.inr ⟨hpr,ss,f0.xs,by rw[hv5];rfl,⟨in5,by omega⟩,ow5.fl,by omega,by rw[eM,hN,hx5];exact hm⟩)
end
section
structure TrV where
 f:Sl Fct
 v:Value
 xs:List Stp
 h:Ae
structure TvJ(p:Prg)(s:TrV)(h0:Ae):Prop where
 le:h0.le s.h
 fok:FOk p.preds.xs s.f.xs
 fin:Cv s.f s.h
 len:s.xs.length≤Ec p.preds.xs s.f.xs
@[reducible] def tvM(p:Prg)(b1:Nat)(s:TrV):List SA:=[Ao 169 4 s.v s.xs.length (s.xs.flatMap Stp.enc),box b1 p.enc 25]
def Aaa(p:Prg)(v:Value)(h:Ae):Prop:=∃(s:Sl Stp) (f:List Fct),v=s.val∧Aaw s h∧Lu p (Ak p) (Ds (Ak p)) (f,s.xs)
theorem RQ(B:Aq)(hB:B.ok)(p:Prg)(hp:p.In B.h)(hpr:Ac p=0):Fn prog 100 [p.val] B (Aaa p):=by
 obtain⟨k1,k2,k3,_,_⟩:=AB hpr;have rk:=BA hpr;have ok0:=Ea hpr;have hin:=F7 k3;have hsr:=hp.rules.is.small;refine Fo hB func100 rfl ntmps100 fun e I=>Sr<|Abj (O.box (v:=.agg #[_,_]) I rfl rfl fun b1 w I=>As0 Ag<|Abh<|Sr<|Ax (Ld I As 0 0 2 rfl rfl rfl)<|Abj (AbE I call97 (C6 _ I.j6 p hp hpr) rfl ?_));rintro _ h1 w I le1 ⟨s,hS,hI,rfl⟩;refine As0 Ag<|Abh ?_;have eM:=Bl hS;have hsl:s.xs.length=p.preds.xs.length:=hS.sol.len;have hb5:=CH hpr hS;have hN5:=CG hb5;have hNe:=GU s.xs;obtain⟨N,hN⟩:∃N,Ds s.xs=N:=⟨_,rfl⟩;refine Sr<|As0 Ag<|Abh<|Sr<|As0 Ag<|Abh<|Abi<|Sr<|Ai Ag<|Abh ?_;have I:=I.l9 169 4;refine WP.block ?_;refine Abx (σ:=Nat×TrV) (fun s'=>[(1,Pt b1),(3,s.val),(4,s'.2.f.val),(5,s'.2.v),(6,.int .i64 s'.1)])
  (fun s' w=>Inv B s'.2.h (tvM p b1 s'.2) w∧s'.1≤N∧TvJ p s'.2 h1∧Lu p s.xs s'.1 (s'.2.f.xs,s'.2.xs)) (fun s'=>N-s'.1)
  ⟨(0,⟨⟨none,0,[]⟩,.slice none 0 0,[],h1⟩),⟨rfl,rfl,rfl,rfl,rfl,trivial⟩,I,Afa _,⟨Ae.le.refl _,ok0,fnil,Afa _⟩,rfl⟩ ?_
 rintro⟨k,f0,v0,xs0,g0⟩ e w ⟨I,hk,j0,hm⟩;dsimp only at I hk j0 hm ⊢;have hp0:=hp.le (le1.trans j0.le);have hI0:=hI.le j0.le;refine Abi<|Sr<|Ai Mv<|As0 Mv<|Abj (Abm I call146 (O4 _ I.j6 s hI0) rfl fun w I=>Ad (AcD rfl rfl)<|Abh ?_);refine Abl rfl (fun h5=>?_) (fun h5=>?_)
 ·have h5:(k:Int)≤EV s.xs:=h5;have hk':k<N:=by omega
  refine Abk<|Abi<|WP.block<|Sr<|Ab Ag<|Abh<|WP.block ?_;refine Abx (σ:=Bool×TrV) (fun s'=>[(1,Pt b1),(3,s.val),(4,s'.2.f.val),(5,s'.2.v),(6,.int .i64 k),(7,.bool s'.1)])
   (fun s' w=>Inv B s'.2.h (tvM p b1 s'.2) w∧TvJ p s'.2 g0∧TJ (CL p (ofQ p s.xs k)) (f0.xs,xs0) s'.1 (s'.2.f.xs,s'.2.xs)) (fun s'=>2*(2001-Ec p.preds.xs s'.2.f.xs)+if s'.1=true then 1 else 0)
   ⟨(true,⟨f0,v0,xs0,g0⟩),⟨rfl,rfl,rfl,rfl,rfl,rfl,trivial⟩,I,⟨Ae.le.refl _,j0.fok,j0.fin,j0.len⟩,TJ.zero⟩ ?_
  rintro⟨ag,f1,v1,xs1,g1⟩ e w ⟨I,j1,tj⟩;dsimp only at I j1 tj ⊢;have hpl1:=B1 p.preds.xs f1.xs;refine Abi<|Sr<|Ab Mv<|Abh ?_;refine AbG rfl (fun h8=>?_) (fun h8=>?_)
  ·obtain rfl:ag=true:=h8;refine Abk<|WP.block<|Sr<|Ab Ag<|Abh<|Sr<|Ai Ag<|Abh<|WP.block ?_;obtain⟨q,hq⟩:∃q,ofQ p s.xs k=q:=⟨_,rfl⟩;have hsteps:∀n,n≤p.rules.xs.length→C1 p s.xs k (f1.xs,xs1) (trK p q (f1.xs,xs1) n):=fun n hn=>by rw[←hq];exact FM rk hS.sol (s0:=(f1.xs,xs1)) j1.fok n hn
   refine Abx (σ:=Nat×TrV) (fun s'=>[(1,Pt b1),(3,s.val),(4,s'.2.f.val),(5,s'.2.v),(6,.int .i64 k),(7,.bool (decide (s'.2.xs.length≠xs1.length))),(8,.int .i64 s'.1)])
    (fun s' w=>Inv B s'.2.h (tvM p b1 s'.2) w∧s'.1≤p.rules.xs.length∧g1.le s'.2.h∧Cv s'.2.f s'.2.h∧(s'.2.f.xs,s'.2.xs)=trK p q (f1.xs,xs1) s'.1) (fun s'=>p.rules.xs.length-s'.1)
    ⟨(0,⟨f1,v1,xs1,g1⟩),⟨rfl,rfl,rfl,rfl,rfl,congrArg Value.bool (by simp),rfl,trivial⟩,I,Afa _,Ae.le.refl _,j1.fin,rfl⟩ ?_
   rintro⟨n,f2,v2,xs2,g2⟩ e w ⟨I,hn,gl2,hf2,hs2⟩;dsimp only at I hn gl2 hf2 hs2 ⊢;have hts:=hsteps n hn;rw[←hs2] at hts;have okf2:FOk p.preds.xs f2.xs:=(Co rk (s0:=(f1.xs,xs1)) j1.fok hts).fok;have hl1:=j1.len;dsimp only at hl1;have hl2:xs2.length≤Ec p.preds.xs f2.xs:=EF rk (s0:=(f1.xs,xs1)) j1.fok hts hl1;have hmono:xs1.length≤xs2.length:=by have:=I7 (p:=p) (q:=q) (s:=(f1.xs,xs1)) n;rw[←hs2] at this;exact this
   have hpl2:=B1 p.preds.xs f2.xs;have hp2:=hp0.le (j1.le.trans gl2);have hI2:=hI0.le (j1.le.trans gl2);refine Abi<|Sr<|Ai Mv<|Ap (Abr AU rfl)<|As0 (Ld I Cc 1 1 1 rfl rfl rfl)<|Ai (AbA Aic rfl)<|Ad (AbC rfl rfl)<|Abh ?_;refine Abl rfl (fun h11=>?_) (fun h11=>?_)
   ·have hn':n<p.rules.xs.length:=by omega
    have hr:p.rules.xs[n]?=some p.rules.xs[n]:=Ae4 hn';have hr':p.rules.xs[(n:Int).toNat]?=some p.rules.xs[n]:=by rw[Afs];exact hr
    have okr:=rk _ (Ae5 hn');have hgd:p.rules.xs.getD n default=p.rules.xs[n]:=by rw[Ae3,hr];rfl
    have Er:=hp2.rules.is.at hn';obtain⟨i0,i1⟩:=hin _ (Ae5 hn');have El1:=hI2.el.el (DG hsl i0 i1);have hqn:q n=decide (lv s.xs p.rules.xs[n].head.pred=k):=by rw[←hq];unfold ofQ;rw[hgd]
    refine Abk<|Abi<|WP.block<|Abi<|Sr<|As0 Mv<|Ap (Abr AU rfl)<|As0 (Ld I Cc 1 1 1 rfl rfl rfl)<|Ai Mv<|Ap (Ix Er Aic Aiv rfl rfl)<|Ap (Abu Bw rfl)<|Ap (Abu AW rfl)<|Ai (Abn An rfl (I.rd (Er.rd.part 0 1)) rfl rfl)<|Ap (AbJ El1 Aie Aij rfl rfl i0 rfl)<|Ai (Abn An rfl (I.rd (El1.rd.part 0 1)) rfl rfl)<|Ai Mv<|Ad (AbK rfl rfl)<|Abh ?_;refine Abl rfl (fun h13=>?_) (fun h13=>?_)
    ·have hk2:trK p q (f1.xs,xs1) (n+1)=(f2.xs,xs2):=by rw[trK,hqn,decide_eq_false h13,if_neg (by decide),←hs2]
     refine Abz<|Abg<|Ai Mv<|Ai (Dd rfl rfl)<|Ai Ag<|Abh ?_;exact⟨(n+1,⟨f2,v2,xs2,g2⟩),⟨⟨rfl,rfl,rfl,rfl,rfl,rfl,rfl,trivial⟩,I,by dsimp only;omega,gl2,hf2,hk2.symm⟩,by dsimp only;omega⟩
    have hlv:lv s.xs p.rules.xs[n].head.pred=k:=Afh.1 h13;have hk2:trK p q (f1.xs,xs1) (n+1)=trL p.preds.xs p.rules.xs[n] (A6 f2.xs n p.rules.xs[n]) (f2.xs,xs2):=by rw[trK,hqn,decide_eq_true hlv,if_pos rfl,←hs2];unfold EE;rw[hgd]
    refine Abk<|Sr<|Ax (Ld I As 1 0 2 rfl rfl rfl)<|As0 Mv<|Ai Mv<|Abj (AbE I call147 (Mq _ I.j6 p hp2 f2 hf2 n p.rules.xs[n] (by omega) hr' okr okf2) rfl ?_);rintro _ h8 w I le8 ⟨sl,rfl,hss,isl⟩;refine As0 Ag<|Abh ?_;rw[←hss] at hk2;have hsm:=isl.small;refine Sr<|Ai Ag<|Abh<|WP.block ?_;refine Abx (σ:=Nat×TrV) (fun s'=>[(1,Pt b1),(3,s.val),(4,s'.2.f.val),(5,s'.2.v),(6,.int .i64 k),(7,.bool (decide (s'.2.xs.length≠xs1.length))),(8,.int .i64 n),(9,sl.val),(10,.int .i64 s'.1)])
     (fun s' w=>Inv B s'.2.h (tvM p b1 s'.2) w∧s'.1≤sl.xs.length∧h8.le s'.2.h∧Cv s'.2.f s'.2.h∧(s'.2.f.xs,s'.2.xs)=trL p.preds.xs p.rules.xs[n] (sl.xs.take s'.1) (f2.xs,xs2)) (fun s'=>sl.xs.length-s'.1)
     ⟨(0,⟨f2,v2,xs2,h8⟩),⟨rfl,rfl,rfl,rfl,rfl,rfl,rfl,rfl,rfl,trivial⟩,I,Afa _,Ae.le.refl _,hf2.le le8,rfl⟩ ?_
    rintro⟨j,f3,v3,xs3,g3⟩ e w ⟨I,hj,gl3,hf3,hs3⟩;dsimp only at I hj gl3 hf3 hs3 ⊢;have hst:∀x∈sl.xs,x∈A6 f2.xs n p.rules.xs[n]:=fun x hx=>hss▸hx;have ht3:C1 p s.xs k (f2.xs,xs2) (f3.xs,xs3):=by rw[hs3];exact HG rk hS.sol (s0:=(f2.xs,xs2)) hr hlv okf2 _ _ (fun x hx=>hst x (AfX hx)) .refl
    have okf3:FOk p.preds.xs f3.xs:=(Co rk (s0:=(f2.xs,xs2)) okf2 ht3).fok;have hpl3:=B1 p.preds.xs f3.xs;have hl3:xs3.length≤Ec p.preds.xs f3.xs:=EF rk (s0:=(f2.xs,xs2)) okf2 ht3 hl2;have hm3:xs2.length≤xs3.length:=by have:=Gc (l:=p.preds.xs) (r:=p.rules.xs[n]) (sl.xs.take j) (f2.xs,xs2);rw[←hs3] at this;exact this
    have hp3:=hp2.le (le8.trans gl3);refine Abi<|Sr<|Ai Mv<|As0 Mv<|Ai (AbA Aif rfl)<|Ad (AbC rfl rfl)<|Abh ?_;refine Abl rfl (fun h16=>?_) (fun h16=>?_)
    ·have hjj:j<sl.xs.length:=by omega
     have E:=(isl.le gl3).at hjj;have hfi:Mw p s.xs k f3.xs n p.rules.xs[n] sl.xs[j]:=Mx rk hS.sol (Co rk (s0:=(f2.xs,xs2)) okf2 ht3) (GV hr hlv (hst _ (Ae5 hjj)));obtain⟨y,hy⟩:∃y,CP p.preds.xs f3.xs p.rules.xs[n] sl.xs[j].vars=y:=⟨_,rfl⟩;have hyF:Cm p.preds.xs f3.xs p.rules.xs[n] sl.xs[j].vars=(true,y):=by unfold Cm;rw[if_pos hfi.holds,hy]
     have hfine:factFine p.preds.xs y=true:=hy▸Ge rk okf3 hfi;have hnx:HE p.preds.xs (f3.xs,xs3) sl.xs[j] y=trL p.preds.xs p.rules.xs[n] (sl.xs.take (j+1)) (f2.xs,xs2):=by
      rw[QI hjj,←hs3,←hy];rfl
     refine Abk<|Abi<|WP.block<|Abi<|Ab9 AC RBx.pre ⟨g3,none,none⟩ (J:=JBx B [Ao 169 4 v3 xs3.length (xs3.flatMap Stp.enc),box b1 p.enc 25] 83 [.int .i64 0,.int .i64 0,.int .i64 0,.int .i64 0] y.enc 12 99 14) ⟨rfl,rfl,fun h=>(by cases h),I.drew⟩ 15 (by kernel_rfl)<|Aby (v:=.agg #[_,_]) (fun _=>Aa _) RBx.pre (JBx.set (by decide)) (fun _ s w us hl hj=>have I:=hj.base;have hl:=hl.h;Ld I As 1 0 2 rfl rfl rfl)<|Aby (v:=.slice _ _ _) (fun _=>Aa _) RBx.pre (JBx.set (by decide)) (fun _ s w us hl hj=>have I:=hj.base;have hl:=hl.h;Mv)<|Aby (v:=.int .i64 _) (fun _=>Aa _) RBx.pre (JBx.set (by decide)) (fun _ s w us hl hj=>have I:=hj.base;have hl:=hl.h;Mv)<|Aby (v:=.slice _ _ _) (fun _=>Aa _) RBx.pre (JBx.set (by decide)) (fun _ s w us hl hj=>have I:=hj.base;have hl:=hl.h;Mv)<|Aby (v:=.int .i64 _) (fun _=>Aa _) RBx.pre (JBx.set (by decide)) (fun _ s w us hl hj=>have I:=hj.base;have hl:=hl.h;Mv)<|Aby (v:=.pointer (some ⟨_,_,none⟩)) (fun _=>Aa _) RBx.pre (JBx.set (by decide)) (fun _ s w us hl hj=>have I:=hj.base;have hl:=hl.h;Ix E Aif Aiw rfl rfl)<|Aby (v:=.pointer (some ⟨_,_,none⟩)) (fun _=>Aa _) RBx.pre (JBx.set (by decide)) (fun _ s w us hl hj=>have I:=hj.base;have hl:=hl.h;Abr BV rfl)<|Aby (v:=.agg #[_,_,_]) (fun _=>Aa _) RBx.pre (JBx.set (by decide)) (fun _ s w us hl hj=>have I:=hj.base;have hl:=hl.h;Abn CI rfl (I.rd ((E.rd.part 1 3).le hl)) rfl rfl)<|Adn (by decide) (fun _ s w us hl hj=>have I:=hj.inv;have hl:=hl.h;Abm I call149 (hyF▸FJ _ I.j6 p (hp3.le hl) f3 (hf3.le hl) n p.rules.xs[n] (by omega) hr' okr okf3 sl.xs[j].vars hfi.vs) rfl (fun w' I'=>⟨rfl,⟨hj.h7,hj.h8,hj.ord,I'⟩⟩))<|Aby (v:=.tuple #[_,_]) (fun _=>Aa _) RBx.pre (JBx.set (by decide)) (fun _ s w us hl hj=>have I:=hj.base;have hl:=hl.h;Mv)<|Aby (v:=.bool _) (fun _=>Aa _) RBx.pre (JBx.set (by decide)) (fun _ s w us hl hj=>have I:=hj.base;have hl:=hl.h;Y.extract rfl rfl)<|Aby (v:=.agg #[_,_,_,_]) (fun _=>Aa _) RBx.pre (JBx.set (by decide)) (fun _ s w us hl hj=>have I:=hj.base;have hl:=hl.h;Y.extract rfl rfl)<|AcR Aii rfl (by decide) (by decide)<|Aby (v:=.bool _) (fun _=>Aa _) RBx.pre (JBx.set (by decide)) (fun _ s w us hl hj=>have I:=hj.base;have hl:=hl.h;Ag)<|AcI AH rfl rfl (fun s=>by intro u15 q15;exact⟨q15 rfl,rfl⟩) rfl rfl (by decide) (by decide)<|Acl fun D s' w hD hl hj' u12 q12=>Abh ?_;obtain⟨b12,rfl,h12⟩:=q12 rfl;have I:=hj'.inv;rw[h12,hD 14 (by omega)] at I;have hl:=hl.h;generalize s'.o8=o8 at I;generalize s'.h=h13 at I hl;have I:Inv B h13 [box b12 y.enc 83,Ao 169 4 v3 xs3.length (xs3.flatMap Stp.enc),box b1 p.enc 25] w:=by
      cases o8 with
      |none=>exact I
      |some b8=>exact I.weak (List.Sublist.cons_cons _ (Af3 _ _))
     have hp3:=hp3.le hl;have hf3:=hf3.le hl;have E:=E.le hl;obtain⟨tr,htr⟩:∃t,Dw (Al p.preds.xs y.pred).kind f3.xs y=t:=⟨_,rfl⟩;have hput:HE p.preds.xs (f3.xs,xs3) sl.xs[j] y=if tr.2=true then (tr.1,xs3++[sl.xs[j]]) else (f3.xs,xs3):=by unfold HE;rw[htr]
     refine Sr<|Ap (Abu At rfl)<|As0 (Ld I A7 2 0 1 rfl rfl rfl)<|As0 Mv<|Az (Ld I AH 0 0 4 rfl rfl rfl)<|Abj (AbE I call150 (htr▸OW _ I.j6 p.preds hp3.preds f3 hf3 okf3 y hfine) rfl ?_);rintro _ h5 w I le5 ⟨s6,rfl,e6,i6⟩;refine Au Mv<|As0 (Y.extract rfl rfl)<|Ab (Y.extract rfl rfl)<|As0 Ag<|Ab Ag<|Abh ?_;have E:=E.le le5;refine Sr<|Ab Mv<|Abh ?_;refine AbG rfl (fun h20=>?_) (fun h20=>?_)
     ·have h20:tr.2=true:=h20;rw[if_pos h20] at hput;refine Sr<|As0 Mv<|As0 Ag<|Abh<|Sr<|AbB (v:=v3) Mv<|As0 Mv<|Ai Mv<|Ap (Ix E Aif Aiw rfl rfl)<|Az (Abn Cy rfl (I.rd (E.rd.part 0 4)) rfl rfl)<|Abj (AbY (xs:=[sl.xs[j]]) (enc:=Stp.enc) I Aif Aiw AiE rfl (Nb rfl) rfl rfl (by decide) (fun _=>rfl) fun b80 h80 w I le80 sl80=>Abj (Ab0 I Aif KU 1 rfl rfl rfl (I.rd (sl80 0 _ rfl).2) rfl rfl (by decide) ((by omega)) (by omega) fun b81 c81 w I=>As0 Ag<|Abh<|Abg<|Ab Ag<|Abh<|Abg<|Ai Mv<|Ai (Dd rfl rfl)<|Ai Ag<|Abh ?_));have I:=I.drop;have e1:(xs3++[sl.xs[j]]).length=xs3.length+1:=by simp
      refine⟨(j+1,⟨s6,.slice (some ⟨b81,0,none⟩) (xs3++[sl.xs[j]]).length c81,xs3++[sl.xs[j]],h80⟩),⟨⟨rfl,rfl,rfl,by dsimp only;rw[e1];rfl,rfl,congrArg Value.bool (decide_eq_true (by dsimp only;omega)).symm,rfl,rfl,rfl,trivial⟩,?_,by dsimp only;omega,gl3.trans (hl.trans (le5.trans le80)),i6.le le80,by dsimp only;rw[←hnx,hput,e6]⟩,by dsimp only;omega⟩;dsimp only[tvM];rw[e1,Afm,AfT];exact I
     ·have h20:tr.2=false:=by simpa using h20
      rw[h20,if_neg (by decide)] at hput;refine Abk<|Abg<|Ai Mv<|Ai (Dd rfl rfl)<|Ai Ag<|Abh ?_;exact⟨(j+1,⟨f3,v3,xs3,h5⟩),⟨⟨rfl,rfl,rfl,rfl,rfl,rfl,rfl,rfl,rfl,trivial⟩,I.drop,by dsimp only;omega,gl3.trans (hl.trans le5),hf3.le le5,by dsimp only;rw[←hnx,hput]⟩,by dsimp only;omega⟩
    ·obtain rfl:j=sl.xs.length:=by omega
     rw[Afo] at hs3;refine Abz<|Abg<|Ai Mv<|Ai (Dd rfl rfl)<|Ai Ag<|Abh ?_;exact⟨(n+1,⟨f3,v3,xs3,g3⟩),⟨⟨rfl,rfl,rfl,rfl,rfl,rfl,rfl,trivial⟩,I,by dsimp only;omega,gl2.trans (le8.trans gl3),hf3,by dsimp only;rw[hk2,hs3]⟩,by dsimp only;omega⟩
   ·obtain rfl:n=p.rules.xs.length:=by omega
    have hpot:=Ic rk (s0:=(f1.xs,xs1)) j1.fok hts;dsimp only at hpot;have hT:CL p (ofQ p s.xs k) (f1.xs,xs1)=(f2.xs,xs2):=by rw[hq];exact hs2.symm
    refine Abz ?_;refine⟨(decide (xs2.length≠xs1.length),⟨f2,v2,xs2,g2⟩),⟨⟨rfl,rfl,rfl,rfl,rfl,rfl,trivial⟩,I,⟨j1.le.trans gl2,okf2,hf2,hl2⟩,TJ.next tj hT⟩,?_⟩;dsimp only;by_cases he:xs2.length=xs1.length
    ·rw[decide_eq_false (fun h=>h he)];simp;omega
    ·rw[decide_eq_true he];simp;omega
  ·obtain rfl:ag=false:=by simpa using h8
   refine Abz<|Abg<|Ai Mv<|Ai (Dd rfl rfl)<|Ai Ag<|Abh ?_;exact⟨(k+1,⟨f1,v1,xs1,g1⟩),⟨⟨rfl,rfl,rfl,rfl,rfl,trivial⟩,I,by dsimp only;omega,⟨j0.le.trans j1.le,j1.fok,j1.fin,j1.len⟩,(f0.xs,xs0),hm,tj.done⟩,by dsimp only;omega⟩
 ·have h5:¬(k:Int)≤EV s.xs:=h5;obtain rfl:k=N:=by omega
  have hpl0:=B1 p.preds.xs f0.xs;have hl0:=j0.len;dsimp only at hl0;obtain⟨h5',ss,le5,rfl,hx5,in5,I⟩:=I.p8 CX rfl;have hl5:ss.xs.length=xs0.length:=by rw[hx5]
  refine Abz<|Sr<|As0 Mv<|As0 Ag<|Abh<|Wr ?_;exact Rm (v:=.slice _ _ _) rfl rfl I (⟨ss,f0.xs,rfl,⟨in5,by omega⟩,by rw[eM,hN,hx5];exact hm⟩)
end
section
structure StS where
 h:Ae
 o7:Option Nat
 c:Option (List Value)
structure JSt(B:Aq)(M:List SA)(Tb:TypeId)(z:List Value)(Ψ:List Value→Ae→Prop)(i7 i9:Nat)(D:Nat→Bool)(s:StS)(w:World):Prop where
 h7:s.o7.isSome=D i7
 hc:s.c.isSome=D i9
 ord:D i9=true→D i7=true
 ok:∀cs,s.c=some cs→Ψ cs s.h
 inv:Inv B s.h (pcB s.o7 (s.c.getD z) Tb++M) w
structure RSt(s s':StS):Prop where
 h:s.h.le s'.h
 h7:∀v,s.o7=some v→s'.o7=some v
theorem RSt.pre:Pre RSt:=⟨fun _=>⟨Ae.le.refl _,fun _ h=>h⟩,fun _ _ _ h k=>⟨h.h.trans k.h,fun b e=>k.h7 b (h.h7 b e)⟩⟩
def Zk(u:Value)(s:StS):Prop:=∃b,u=(Pt b)∧s.o7=some b
def RR(Φ:Sp)(u:Value)(s:StS):Prop:=Φ u s.h
theorem Zk.mono:Cj RSt Zk:=fun _ _ _ r ⟨b,h1,h2⟩=>⟨b,h1,r.h7 b h2⟩
theorem RR.mono{Φ:Sp}(hm:Bt Φ):Cj RSt (RR Φ):=fun _ _ _ r h=>hm _ _ _ r.h h
def WU(Ψ:List Value→Ae→Prop):Prop:=∀cs h h',h.le h'→Ψ cs h→Ψ cs h'
section
variable {P:Program}{o:Oper}{e:Env}{B:Aq}{M:List SA}{Tb:TypeId}{z:List Value}{Ψ:List Value→Ae→Prop}{i7 i9 i:Nat}{D:Nat→Bool}{s:StS}{w:World}
theorem JSt.base(j:JSt B M Tb z Ψ i7 i9 D s w):Inv B s.h M w:=j.inv.weak (AfJ _ _)
theorem JSt.set(h:i7≠i∧i9≠i):∀D s w,JSt B M Tb z Ψ i7 i9 D s w→JSt B M Tb z Ψ i7 i9 (AZ D i) s w:=fun D s w j=>by
 have e:∀x,x≠i→AZ D i x=D x:=fun x hx=>by simp[AZ,hx]
 exact⟨by rw[e _ h.1];exact j.h7,by rw[e _ h.2];exact j.hc,by rw[e _ h.1,e _ h.2];exact j.ord,j.ok,j.inv⟩
theorem JSt.aa9{Φ:Sp}(hm:WU Ψ)(j:JSt B M Tb z Ψ i7 i9 D s w)(h:i7≠i∧i9≠i)(hop:∀N,Inv B s.h N w→Op1 P o e w fun u w'=>∃h',s.h.le h'∧Inv B h' N w'∧Φ u h') :
  Op1 P o e w fun u w'=>∃s',RSt s s'∧JSt B M Tb z Ψ i7 i9 (AZ D i) s' w'∧RR Φ u s':=
 (hop _ j.inv).mono fun u w' ⟨h',hl,I,hu⟩=>by
  have q:=JSt.set (B:=B) (M:=M) (Tb:=Tb) (z:=z) (Ψ:=Ψ) h D s w j;exact⟨⟨h',s.o7,s.c⟩,⟨hl,fun _ e=>e⟩,⟨q.h7,q.hc,q.ord,fun cs hcs=>hm cs _ _ hl (j.ok cs hcs),I⟩,hu⟩
theorem JSt.make{d:Option Nat}{t:TypeId}{pos:String}{af:Array Edge}{zv:Value}(j:JSt B M Tb z Ψ i7 i9 D s w)(hz:Pj P Tb zv)(hc:zv.cells=z.toArray)(hD:D i7=false)(h:i9≠i7) :
  Op1 P ⟨d,.alloc Tb,t,pos,af,none⟩ e w fun u w'=>∃s',RSt s s'∧JSt B M Tb z Ψ i7 i9 (AZ D i7) s' w'∧Zk u s':=by
 have e:∀x,x≠i7→AZ D i7 x=D x:=fun x hx=>by simp[AZ,hx]
 have h7:s.o7=none:=by have:=j.h7;rw[hD] at this;cases h:s.o7<;>simp_all
 have hD9:D i9=false:=by
  cases h:D i9
  ·rfl
  ·rw[j.ord h] at hD;cases hD
 have hc9:s.c=none:=by have:=j.hc;rw[hD9] at this;cases h:s.c<;>simp_all
 have I:=j.inv;rw[h7] at I;refine O.alloc I hz hc fun b w' I'=>⟨⟨s.h,some b,none⟩,⟨Ae.le.refl _,fun v hv=>(by rw[h7] at hv;cases hv)⟩,⟨?_,?_,?_,fun cs hcs=>(by cases hcs),I'⟩,b,rfl,rfl⟩
 ·simp[AZ]
 ·rw[e _ h,hD9];rfl
 ·rw[e _ h,hD9];exact fun h=>by cases h
theorem JSt.put{t:TypeId}{pos:String}{af:Array Edge}{a x:Operand}{n:Nat}{ag:Bool}{v:Value}{c:List Value}(j:JSt B M Tb z Ψ i7 i9 D s w)(hT:Ty P Tb n ag)(hz:z.length=n)(hcl:c.length=n)(hD:D i9=false)(h:i7≠i9){u:Value}(hu:Zk u s)(ha:ev e a=u)(hx:ev e x=v)(hv:v.cells=c.toArray)(h1:AJ c=true)(hΨ:Ψ c s.h) :
  Op1 P ⟨none,.store Tb a x,t,pos,af,none⟩ e w fun u w'=>∃s',RSt s s'∧JSt B M Tb z Ψ i7 i9 (AZ D i9) s' w'∧u=undef:=by
 have e':∀x,x≠i9→AZ D i9 x=D x:=fun x hx=>by simp[AZ,hx]
 obtain⟨b,rfl,hb⟩:=hu;have hc9:s.c=none:=by have:=j.hc;rw[hD] at this;cases h:s.c<;>simp_all
 have hD7:D i7=true:=by rw[←j.h7,hb];rfl
 have I:=j.inv;rw[hb,hc9] at I;refine Ab3 (cs':=c) I hT 0 rfl ha hx hv hcl h1 (by show 0+c.length≤z.length;omega) ?_ fun w' I'=>⟨⟨s.h,some b,some c⟩,⟨Ae.le.refl _,fun v hv=>(by rw[hb] at hv;exact hv)⟩,⟨?_,?_,fun _=>?_,fun cs hcs=>?_,I'⟩,rfl⟩
 ·show CB z 0 c=c;rw[Dp _ _ _ (Afa _)];simp[hcl,hz]
 ·rw[e' _ h,hD7];rfl
 ·simp[AZ]
 ·rw[e' _ h];exact hD7
 ·injection hcs with hcs;subst hcs;exact hΨ
theorem JSt.fin(j:JSt B M Tb z Ψ i7 i9 D s w)(hD:D i9=true){b:Nat}(h7:s.o7=some b):∃cs,Ψ cs s.h∧Inv B s.h (box b cs Tb::M) w:=by
 have hc:=j.hc;rw[hD] at hc;obtain⟨cs,hcs⟩:=Agt.1 hc;have I:=j.inv;rw[h7,hcs] at I;exact⟨cs,j.ok cs hcs,I⟩
end
end
section
def GoS(R:Bs→Prop):Sp:=fun v _=>∃o,v=.string (mk o)∧R o
theorem GoS.mono{R:Bs→Prop}:Bt (GoS R):=fun _ _ _ _ h=>h
theorem Aaa.mono{p:Prg}:Bt (Aaa p):=fun _ _ _ hl ⟨s,f,a,b,c⟩=>⟨s,f,a,b.le hl,c⟩
def LnM(p:Prg):Sp:=fun v _=>∃f rs,v=.int .i64 (f.length:Nat)∧f.length≤125∧GB p (Ak p) (Ds (Ak p)) f rs
theorem LnM.mono{p:Prg}:Bt (LnM p):=fun _ _ _ _ h=>h
def LnT(p:Prg):Sp:=fun v _=>∃f l,v=.int .i64 ((l:List Stp).length:Nat)∧l.length≤2000∧Lu p (Ak p) (Ds (Ak p)) (f,l)
theorem LnT.mono{p:Prg}:Bt (LnT p):=fun _ _ _ _ h=>h
def WV(p:Prg)(c:Int):Sp:=fun v h=>∃s:Sl Int,v=s.val∧s.Is 1 KG h∧∃f l,s.xs=[((l:List Stp).length:Int),c]∧l.length≤2000∧Lu p (Ak p) (Ds (Ak p)) (f,l)
theorem WV.mono{p:Prg}{c:Int}:Bt (WV p c):=fun _ _ _ hl ⟨s,a,b,d⟩=>⟨s,a,b.le hl,d⟩
def MtF(p:Prg)(c:Atm):Sp:=fun v h=>∃f rs,GB p (Ak p) (Ds (Ak p)) f rs∧U6 (f.filter (Ia c),0) v h
theorem MtF.mono{p:Prg}{c:Atm}:Bt (MtF p c):=fun _ _ _ hl ⟨f,rs,a,b⟩=>⟨f,rs,a,U6.mono _ _ _ hl b⟩
def FsF(p:Prg)(c:Atm):Sp:=fun v h=>∃f rs,GB p (Ak p) (Ds (Ak p)) f rs∧SlS 4 Fct.enc (f.filter (Ia c)) v h
theorem FsF.mono{p:Prg}{c:Atm}:Bt (FsF p c):=fun _ _ _ hl ⟨f,rs,a,b⟩=>⟨f,rs,a,SlS.mono _ _ _ hl b⟩
theorem Di.cap{α:Type}{el k:Nat}{s:Sl α}{enc:α→List Value}{h0 h:Ae}(o:Di el k s enc h0 h):s.xs.length≤s.cap:=by
 rcases o with rfl|⟨g,cur,h1,_,_,h4,_⟩
 ·exact Afg 0
 ·exact h4
def WoQ(r:List Prd×List Rul)(q:Prg)(h:Ae):Prop:=q.preds.xs=r.1∧q.rules.xs=r.2∧q.In h∧q.Nm∧q.rules.xs.length≤q.rules.cap
theorem WoQ.le{r:List Prd×List Rul}{q:Prg}{h h':Ae}(x:WoQ r q h)(hl:h.le h'):WoQ r q h':=⟨x.1,x.2.1,x.2.2.1.le hl,x.2.2.2⟩
def WoV(r:(List Prd×List Rul)×Int):Sp:=fun v h=>∃q:Prg,v=.tuple #[q.val,.int .i64 r.2]∧WoQ r.1 q h
theorem WoV.mono{r:(List Prd×List Rul)×Int}:Bt (WoV r):=fun _ _ _ hl ⟨q,a,b⟩=>⟨q,a,b.le hl⟩
def WoP(r:List Prd×List Rul):Sp:=fun v h=>∃q:Prg,v=q.val∧WoQ r q h
theorem WoP.mono{r:List Prd×List Rul}:Bt (WoP r):=fun _ _ _ hl ⟨q,a,b⟩=>⟨q,a,b.le hl⟩
def WoC(r:List Prd×List Rul)(cs:List Value)(h:Ae):Prop:=∃q:Prg,cs=q.enc∧WoQ r q h
theorem Pg(B:Aq)(hB:B.ok)(p:Prg)(hp:p.In B.h)(hnm:p.Nm)(hcap:p.rules.xs.length≤p.rules.cap)(n:Int):Fn prog 104 [p.val,.int .i64 n] B (WoV (AQ p n)):=
 (MH B hB p hp hnm hcap n).mono fun _ _ hl x=>by
  obtain⟨a,rfl,e1,e2,o1,o2⟩:=x;exact⟨a,rfl,e1,e2,UG hl o1 o2 (by rw[e1];exact BS.1) (by rw[e2];exact BS.2.1) (by rw[e2];exact fun y hy=>hp.rules.each y (BS.2.2.2 y hy)),by unfold Prg.Nm;rw[e1];exact fun y hy=>hnm y (BS.2.2.1 y hy),o2.cap⟩
theorem DM(B:Aq)(hB:B.ok)(n:Nat)(hn:n<10):Fn prog 94 [.int .i64 n] B (fun v _=>v=.string (mk (EY n))):=by
 have hl:=I9 (n:=n) (by omega);refine Fo hB func94 rfl ntmps94 fun e I=>Sr<|At0 Ag<|Abh<|Sr<|Ai Mv<|Abj (Abm I call45 (EK n (by omega) _ I.j6) rfl fun w I=>At0 (AbP rfl rfl (by have:=Ar (DI n);show 6+(mk (DI n)).size≤_;omega))<|At0 Ag<|Abh<|Wr ?_);exact Rm (v:=.string _) rfl rfl I (by simp only[tup];unfold EY;exact congrArg Value.string (Cb.1 (by simp only[DO,BD,txl,Afe,Afs,AfH,AfC])))
def GvP(p:Prg)(s:Bs):Sp:=fun v h=>∃o q,v=.tuple #[q.val,.string (mk o)]∧q.In h∧q.Nm∧Ac q=0∧q.rules.xs.length≤q.rules.cap∧CR p s o q
theorem GvP.mono{p:Prg}{s:Bs}:Bt (GvP p s):=fun _ _ _ hl ⟨o,q,a,b,c⟩=>⟨o,q,a,b.le hl,c⟩
theorem WW(B:Aq)(hB:B.ok)(p:Prg)(hp:p.In B.h)(hnm:p.Nm)(hc:Ac p=0)(hcap:p.rules.xs.length≤p.rules.cap)(s:ByteArray)(hs:s.size≤4096):Fn prog 40 [p.val,.string s] B (GvP p (tx s)):=by
 have htl:=BF s;have hpf:=Cd hc;have⟨n6,s5,hsb⟩:=Ie hc;refine Fo hB func40 rfl ntmps40 fun e I=>Sr<|Abj (O.box (v:=.agg #[_,_]) I rfl rfl fun b2 w I=>Abj (O.alloc I Aio rfl fun b4 w I=>At0 Ag<|Abh<|Sr<|Af Ag<|Abh<|Abi<|Sr<|At0 Mv<|Abh ?_));by_cases w1:tx s=N4
 ·have hG:∀o,(∃f rs,GB p (Ak p) (Ds (Ak p)) f rs∧o=Dt [(f.length:Int)])→CR p (tx s) o p:=fun o h=>by unfold CR;rw[if_pos w1];exact⟨rfl,h⟩
  refine WP.block<|Sr<|AT (Y.is (Ab6 rfl rfl) ((C7 w1)))<|Ab Ag<|Abh<|Abw rfl<|Abi<|AbM AC I 5 (by kernel_rfl)<|Fx (fun _ w us hl I=>Ld I As 1 0 2 rfl rfl rfl)<|Fx (fun _ w us hl I=>Ld I As 1 0 2 rfl rfl rfl) ?_;refine AbR (Φ:=YC p) YC.mono (fun _=>Aj _) ?_ ?_
  ·intro _ w hl I;try unfold CT
   refine AbE I call95 (Lq _ I.j6 p (hp.le hl) hc) rfl ?_;rintro _ h6 w I hl' hx;exact⟨_,hl',I,hx⟩
  refine AbR (Φ:=LnM p) (LnM.mono) (fun _=>Aj _) ?_ ?_
  ·intro _ w hl I u25 q25;obtain⟨f,rs,rfl,hf,hm⟩:=q25 rfl;exact AcJ I (AbA Ah8 rfl) ⟨f.xs,rs,rfl,(EX hc hm).aa6,hm⟩
  refine AbR (Φ:=GoS (CR p (tx s) · p)) GoS.mono (fun _=>Aj _) ?_ ?_
  ·intro _ w hl I u25 q25 u26 q26;obtain⟨f,rs,rfl,hn,hm⟩:=q26 rfl;try unfold CT
   refine AbE I call45 (EK f.length (by omega) _ I.j6) rfl ?_;rintro _ h6 w I hl' rfl;exact⟨_,hl',I,⟨_,rfl,hG _ ⟨f,rs,hm,by rw[show Dt [(f.length:Int)]=DI (f.length:Int).toNat from rfl,Afs]⟩⟩⟩
  refine AbX fun _ w hl I u25 q25 u26 q26 u27 q27=>?_;obtain⟨o,rfl,hGo⟩:=q27 rfl;refine Abj (Sx I As 0 rfl rfl rfl rfl fun w I=>At0 Ag<|Abh<|Wr ?_);exact BH.mk (vs:=[.agg #[_,_],.string _]) rfl ⟨⟨_,_,_,_,_,rfl,As,I.l5 0 rfl 0 2,rfl,rfl⟩,rfl,trivial⟩ I.j5 (⟨o,p,rfl,hp.le hl,hnm,hc,hcap,hGo⟩)
 by_cases w2:tx s=Kf
 ·have hG:CR p (tx s) (Dt (Ak p)) p:=by unfold CR;rw[if_neg w1,if_pos w2];exact⟨rfl,rfl⟩
  refine WP.block<|Sr<|AF (Y.is (Ab6 rfl rfl) ((B7 w1)))<|Ab Ag<|Abh<|Abq rfl<|Sr<|AT (Y.is (Ab6 rfl rfl) ((C7 w2)))<|Ab Ag<|Abh<|Abw rfl<|Abi<|AbM AC I 4 (by kernel_rfl)<|Fx (fun _ w us hl I=>Ld I As 1 0 2 rfl rfl rfl)<|Fx (fun _ w us hl I=>Ld I As 1 0 2 rfl rfl rfl) ?_;refine AbR (Φ:=SlS 1 KG (Ak p)) SlS.mono (fun _=>Aj _) ?_ ?_
  ·intro _ w hl I;try unfold CT
   refine AbE I call97 (C6 _ I.j6 p (hp.le hl) hc) rfl ?_;rintro _ h6 w I hl' ⟨s2,hL,hI,rfl⟩;exact⟨_,hl',I,⟨s2,rfl,(Bl hL).symm,hI⟩⟩
  refine AbR (Φ:=GoS (CR p (tx s) · p)) GoS.mono (fun _=>Aj _) ?_ ?_
  ·intro _ w hl I u32 q32;obtain⟨s2,rfl,e2,i2⟩:=q32 rfl;try unfold CT
   refine AbE I call96 (Ii _ I.j6 s2 i2 (fun x hx=>by have:=hsb x (by rw[←e2];exact hx);omega) (by rw[e2];omega)) rfl ?_;rintro _ h6 w I hl' rfl;exact⟨_,hl',I,⟨_,rfl,by rw[e2];exact hG⟩⟩
  refine AbX fun _ w hl I u32 q32 u33 q33=>?_;obtain⟨o,rfl,hGo⟩:=q33 rfl;refine Abj (Sx I As 0 rfl rfl rfl rfl fun w I=>At0 Ag<|Abh<|Wr ?_);exact BH.mk (vs:=[.agg #[_,_],.string _]) rfl ⟨⟨_,_,_,_,_,rfl,As,I.l5 0 rfl 0 2,rfl,rfl⟩,rfl,trivial⟩ I.j5 (⟨o,p,rfl,hp.le hl,hnm,hc,hcap,hGo⟩)
 by_cases w3:tx s=Kg
 ·have hG:∀f rs,GB p (Ak p) (Ds (Ak p)) f rs→CR p (tx s) (Dt rs) p:=fun f rs h=>by unfold CR;rw[if_neg w1,if_neg w2,if_pos w3];exact⟨rfl,f,rs,h,rfl⟩
  refine WP.block<|Sr<|AF (Y.is (Ab6 rfl rfl) ((B7 w1)))<|Ab Ag<|Abh<|Abq rfl<|Sr<|AF (Y.is (Ab6 rfl rfl) ((B7 w2)))<|Ab Ag<|Abh<|Abq rfl<|Sr<|AT (Y.is (Ab6 rfl rfl) ((C7 w3)))<|Ab Ag<|Abh<|Abw rfl<|Abi<|AbM AC I 4 (by kernel_rfl)<|Fx (fun _ w us hl I=>Ld I As 1 0 2 rfl rfl rfl)<|Fx (fun _ w us hl I=>Ld I As 1 0 2 rfl rfl rfl) ?_;refine AbR (Φ:=ZW p) ZW.mono (fun _=>Aj _) ?_ ?_
  ·intro _ w hl I;try unfold CT
   refine AbE I call98 (O5 _ I.j6 p (hp.le hl) hc) rfl ?_;rintro _ h6 w I hl' hx;exact⟨_,hl',I,hx⟩
  refine AbR (Φ:=GoS (CR p (tx s) · p)) GoS.mono (fun _=>Aj _) ?_ ?_
  ·intro _ w hl I u38 q38;obtain⟨r,f,rfl,ir,hm⟩:=q38 rfl;try unfold CT
   refine AbE I call96 (Ii _ I.j6 r ir (fun x hx=>by have:=(Gh hc hm).2 x hx;omega) (by have:=hm.len;omega)) rfl ?_;rintro _ h6 w I hl' rfl;exact⟨_,hl',I,⟨_,rfl,hG _ _ hm⟩⟩
  refine AbX fun _ w hl I u38 q38 u39 q39=>?_;obtain⟨o,rfl,hGo⟩:=q39 rfl;refine Abj (Sx I As 0 rfl rfl rfl rfl fun w I=>At0 Ag<|Abh<|Wr ?_);exact BH.mk (vs:=[.agg #[_,_],.string _]) rfl ⟨⟨_,_,_,_,_,rfl,As,I.l5 0 rfl 0 2,rfl,rfl⟩,rfl,trivial⟩ I.j5 (⟨o,p,rfl,hp.le hl,hnm,hc,hcap,hGo⟩)
 by_cases w4:tx s=N5
 ·refine WP.block<|Sr<|AF (Y.is (Ab6 rfl rfl) ((B7 w1)))<|Ab Ag<|Abh<|Abq rfl<|Sr<|AF (Y.is (Ab6 rfl rfl) ((B7 w2)))<|Ab Ag<|Abh<|Abq rfl<|Sr<|AF (Y.is (Ab6 rfl rfl) ((B7 w3)))<|Ab Ag<|Abh<|Abq rfl<|Sr<|AT (Y.is (Ab6 rfl rfl) ((C7 w4)))<|Ab Ag<|Abh<|Abw rfl<|Sr<|Ax (Ld I As 1 0 2 rfl rfl rfl)<|Abj (AbE I call99 (US _ I.j6 p hp hc) rfl ?_);rintro _ h1 w I le1 ⟨sf,c,rfl,isf,hm⟩;refine Au Mv<|As0 (Y.extract rfl rfl)<|Ai (Y.extract rfl rfl)<|As0 Ag<|Ai Ag<|Abh ?_;have hcs:=(Gj hc (BC hc).sol hm).2;have hG:∀f l,Lu p (Ak p) (Ds (Ak p)) (f,l)→CR p (tx s) (Dt [(l.length:Int),(c:Int)]) p:=fun f l h=>by unfold CR;rw[if_neg w1,if_neg w2,if_neg w3,if_pos w4];exact⟨rfl,f,l,sf.xs,c,h,hm,rfl⟩
  refine Abi<|AbM AC I 7 (by kernel_rfl)<|Fx (fun _ w us hl I=>Ld I As 1 0 2 rfl rfl rfl)<|Fx (fun _ w us hl I=>Ld I As 1 0 2 rfl rfl rfl) ?_;refine AbR (Φ:=Aaa p) Aaa.mono (fun _=>Aj _) ?_ ?_
  ·intro _ w hl I;try unfold CT
   refine AbE I call100 (RQ _ I.j6 p ((hp.le le1).le hl) hc) rfl ?_;rintro _ h6 w I hl' hx;exact⟨_,hl',I,hx⟩
  refine AbR (Φ:=LnT p) (LnT.mono) (fun _=>Aj _) ?_ ?_
  ·intro _ w hl I u49 q49;obtain⟨ts,f,rfl,its,ht⟩:=q49 rfl;exact AcJ I (AbA Aif rfl) ⟨f,ts.xs,rfl,Lw hc ht,ht⟩
  refine Fi (fun _ w us hl I=>Mv) ?_;refine AbR (Φ:=WV p c) WV.mono (fun _=>Aj _) ?_ ?_
  ·intro _ w hl I u49 q49 u50 q50;obtain⟨f,l,rfl,hll,ht⟩:=q50 rfl;exact AbY (xs:=[(l.length:Int),(c:Int)]) (enc:=KG) I Aie Aij AiG rfl (Nb rfl) rfl rfl (by decide) (fun _=>rfl) (fun b h w I le sl=>⟨h,le,I,⟨⟨some ⟨b,0,none⟩,_,[(l.length:Int),(c:Int)]⟩,rfl,⟨sl,by simp⟩,f,l,rfl,hll,ht⟩⟩)
  refine AbR (Φ:=GoS (CR p (tx s) · p)) GoS.mono (fun _=>Aj _) ?_ ?_
  ·intro _ w hl I u49 q49 u50 q50 u52 q52;obtain⟨s2,rfl,i2,f,l,e2,hll,ht⟩:=q52 rfl;try unfold CT
   refine AbE I call96 (Ii _ I.j6 s2 i2 (fun x hx=>by rw[e2] at hx;simp only[Afq,Af8,or_false] at hx;omega) (by rw[e2];simp)) rfl ?_;rintro _ h6 w I hl' rfl;exact⟨_,hl',I,⟨_,rfl,by rw[e2];exact hG f l ht⟩⟩
  refine AbX fun _ w hl I u49 q49 u50 q50 u52 q52 u53 q53=>?_;obtain⟨o,rfl,hGo⟩:=q53 rfl;refine Abj (Sx I As 0 rfl rfl rfl rfl fun w I=>At0 Ag<|Abh<|Wr ?_);exact BH.mk (vs:=[.agg #[_,_],.string _]) rfl ⟨⟨_,_,_,_,_,rfl,As,I.l5 0 rfl 0 2,rfl,rfl⟩,rfl,trivial⟩ I.j5 (⟨o,p,rfl,(hp.le le1).le hl,hnm,hc,hcap,hGo⟩)
 refine WP.block<|Sr<|AF (Y.is (Ab6 rfl rfl) ((B7 w1)))<|Ab Ag<|Abh<|Abq rfl<|Sr<|AF (Y.is (Ab6 rfl rfl) ((B7 w2)))<|Ab Ag<|Abh<|Abq rfl<|Sr<|AF (Y.is (Ab6 rfl rfl) ((B7 w3)))<|Ab Ag<|Abh<|Abq rfl<|Sr<|AF (Y.is (Ab6 rfl rfl) ((B7 w4)))<|Ab Ag<|Abh<|Abq rfl<|Abk<|Abi ?_;obtain⟨ct,hct⟩:∃ct,Lib.cut (tx s) [32]=ct:=⟨_,rfl⟩;obtain⟨op,rest,is⟩:=ct;have hcl:=Cw (tx s) [32];rw[hct] at hcl;dsimp only at hcl;have hG:∀{o:Bs} {q:Prg},(is=true→opR p op rest o q)→(is=false→o=EY 1∧q.er=p.er)→CR p (tx s) o q:=fun {o q} h h'=>by
  unfold CR;rw[if_neg w1,if_neg w2,if_neg w3,if_neg w4,hct];dsimp only;cases is with
  |true=>exact h rfl
  |false=>exact h' rfl
 refine Abg<|At0 Mv<|Abj (Abm I call47 (DL _ I.j6 s [32] hs (by decide) hct) rfl fun w I=>Av Mv<|At0 (Y.extract rfl rfl)<|At0 (Y.extract rfl rfl)<|Ab (Y.extract rfl rfl)<|At0 Ag<|At0 Ag<|Ab Ag<|Abh ?_);by_cases o1:is=true∧op=wAsk
 ·obtain⟨rfl,o1⟩:=o1;have hA:∀{o:Bs},Ot p rest o→CR p (tx s) o p:=fun h=>hG (fun _=>by unfold opR;rw[if_pos o1];exact⟨h,rfl⟩) (fun h=>by cases h);refine Abi<|Sr<|Ab Mv<|Ab Mv<|Gt Mv<|GT (Y.is (Ab6 rfl rfl) ((C7 o1)))<|Ab (Abo rfl rfl)<|Abh<|Abw rfl ?_;cases hone:IC p.preds.xs rest with
  |none=>
   refine Sr<|Ap (Abu At rfl)<|As0 (Ld I A7 1 0 1 rfl rfl rfl)<|At0 Mv<|Abj (Abm I call101 (UB _ I.j6 p.preds hp.preds (JE hc) hpf hnm (mk rest) (by rw[Ar];omega) hone) rfl fun w I=>Au Mv<|Ax (Y.extract rfl rfl)<|Ab (Y.extract rfl rfl)<|Abj (O.alloc I Ain rfl fun b12 w I=>Abj (Sx I AP 0 rfl rfl rfl rfl fun w I=>Ab Ag<|Abh<|Abi<|Sr<|Ab Mv<|AT (Y.b (Y.not rfl) (rfl))<|Abh<|Abw rfl<|Abi<|AbM AC I 3 (by kernel_rfl)<|Fx (fun _ w us hl I=>Ld I As 2 0 2 rfl rfl rfl)<|Ff (fun _ w us hl I=>Mv) ?_)));refine AbR (Φ:=EqV (.string (mk (EY 1)))) (EqV.mono) (fun _=>Aj _) ?_ ?_
   ·intro _ w hl I;try unfold CT
    exact Acd I call94 (fs:=[]) (cs:=[]) rfl (DM _ I.j6 1 (by decide)) rfl (fun w' I'=>⟨_,Ae.le.refl _,I',rfl⟩)
   refine AbX fun _ w hl I u76 q76=>?_;obtain rfl:u76=.string (mk (EY 1)):=q76 rfl;refine Abj (Sx I As 1 rfl rfl rfl rfl fun w I=>At0 Ag<|Abh<|Wr ?_);exact BH.mk (vs:=[.agg #[_,_],.string _]) rfl ⟨⟨_,_,_,_,_,rfl,As,I.l5 1 rfl 0 2,rfl,rfl⟩,rfl,trivial⟩ I.j5 (⟨_,p,rfl,hp.le hl,hnm,hc,hcap,hA (by unfold Ot;rw[hone])⟩)
  |some c=>
   obtain⟨_,cc,_⟩:=N3 hone;refine Sr<|Ap (Abu At rfl)<|As0 (Ld I A7 1 0 1 rfl rfl rfl)<|At0 Mv<|Abj (AbE I call101 (UC _ I.j6 p.preds hp.preds (JE hc) hpf hnm (mk rest) (by rw[Ar];omega) hone) rfl ?_);rintro _ h1 w I le1 ⟨a,rfl,ai,ae⟩;refine Au Mv<|Ax (Y.extract rfl rfl)<|Ab (Y.extract rfl rfl)<|Abj (O.alloc I Ain rfl fun b12 w I=>Abj (Sx I AP 0 rfl rfl rfl rfl fun w I=>Ab Ag<|Abh<|Abi<|Sr<|Ab Mv<|AF (Y.b (Y.not rfl) (rfl))<|Abh<|Abq rfl<|Abk<|Abi<|AbM AC I 10 (by kernel_rfl)<|Fx (fun _ w us hl I=>Ld I As 2 0 2 rfl rfl rfl)<|Fx (fun _ w us hl I=>Ld I As 2 0 2 rfl rfl rfl) ?_));refine AbR (Φ:=YC p) YC.mono (fun _=>Aj _) ?_ ?_
   ·intro _ w hl I;try unfold CT
    refine AbE I call95 (Lq _ I.j6 p ((hp.le le1).le hl) hc) rfl ?_;rintro _ h6 w I hl' hx;exact⟨_,hl',I,hx⟩
   refine Fx (fun _ w us hl I=>Ld I AP 0 0 2 rfl rfl rfl) ?_;refine AbR (Φ:=MtF p c) MtF.mono (fun _=>Aj _) ?_ ?_
   ·intro _ w hl I u80 q80;obtain⟨f,rs,rfl,hf,hm⟩:=q80 rfl;try unfold CT
    refine AbE I call102 (Oc hc hm ae cc▸RL _ I.j6 p ((hp.le le1).le hl) hnm f hf a (ai.le hl)) rfl ?_;rintro _ h6 w I hl' hx;exact⟨_,hl',I,⟨_,_,hm,hx⟩⟩
   refine AbR (Φ:=MtF p c) MtF.mono (fun _=>Aj _) ?_ ?_
   ·intro _ w hl I u80 q80 u82 q82;exact AcJ I Mv (q82 rfl)
   refine AbR (Φ:=FsF p c) FsF.mono (fun _=>Aj _) ?_ ?_
   ·intro _ w hl I u80 q80 u82 q82 u77 q77;obtain⟨f,rs,hm,s6,rfl,e6,i6⟩:=q77 rfl;exact AcJ I (Y.extract rfl rfl) (⟨f,rs,hm,s6,rfl,e6,i6⟩)
   refine AcE (v:=.int .i64 0) (fun _=>Aj _) ?_ ?_
   ·intro _ w hl I u80 q80 u82 q82 u77 q77 u83 q83;obtain⟨f,rs,hm,s6,rfl,e6,i6⟩:=q77 rfl;exact AeD I (Y.extract rfl rfl) (rfl)
   refine AbR (Φ:=FsF p c) FsF.mono (fun _=>Aj _) ?_ ?_
   ·intro _ w hl I u80 q80 u82 q82 u77 q77 u83 q83;exact AcJ I Ag (q83 rfl)
   refine Fi (fun _ w us hl I=>Ag)<|AbX fun _ w hl I u80 q80 u82 q82 u77 q77 u83 q83 u14 q14=>Abh ?_;obtain⟨f,rs,hm,s6,rfl,hs6,is6⟩:=q14 rfl;have is6:Cv s6 _:=is6;have hok:=(FL (EX hc hm) (Ia c)).1;rw[←hs6] at hok;have hans:∀{o:Bs},o=FO p.preds.xs s6.xs→CR p (tx s) o p:=fun {o} ho=>hA (by unfold Ot;rw[hone];exact⟨f,rs,hm,by rw[←hs6];exact ho⟩);have h125:=hok.aa6;have hp1:=(hp.le le1).le hl;refine Abi<|Sr<|As0 Mv<|Ai (AbA Ah8 rfl)<|Ad (AbI rfl rfl)<|Abh ?_;refine Abl rfl (fun h87=>?_) (fun h87=>?_)
   ·refine Sr<|Ax (Ld I As 2 0 2 rfl rfl rfl)<|Abj (Sx I As 1 rfl rfl rfl rfl fun w I=>At0 Ag<|Abh<|Wr ?_);exact BH.mk (vs:=[.agg #[_,_],.string _]) rfl ⟨⟨_,_,_,_,_,rfl,As,I.l5 1 rfl 0 2,rfl,rfl⟩,rfl,trivial⟩ I.j5 (⟨_,p,rfl,hp1,hnm,hc,hcap,hans (by unfold FO;rw[if_pos (Agh.1 (by omega))])⟩)
   have hne:s6.xs≠[]:=fun e=>h87 (by rw[e];rfl);have hpos:=Af7.2 hne;have E0:=Sl.Is.at is6 hpos;have fr0:=ZL hok (Ae5 hpos);have hnl0:=D3 hc (Ba fr0.pred);obtain⟨x0,hx0⟩:∃x,s6.xs[0]=x:=⟨_,rfl⟩;rw[hx0] at E0 fr0 hnl0;have hj1:joinT [59,32] ((s6.xs.take 1).map (CF p.preds.xs))=CF p.preds.xs x0:=by
    rw[show s6.xs.take 1=[x0] by rw[Afi hpos,hx0];rfl];rfl
   refine Abk<|Abi<|AbM AC I 7 (by kernel_rfl)<|Fp (fun _ w us hl I=>Abu At rfl)<|Fs (fun _ w us hl I=>Ld I A7 2 0 1 rfl rfl rfl)<|Fs (fun _ w us hl I=>Mv)<|Fp (fun _ w us hl I=>AbJ E0 Ah8 Aih rfl rfl (by decide) rfl)<|Fz (fun _ w us hl I=>Abn AH rfl (I.rd ((E0.rd.part 0 4).le hl)) rfl rfl) ?_;refine AcE (v:=.string (mk (CF p.preds.xs x0))) (fun _=>Aj _) ?_ ?_
   ·intro _ w hl I;try unfold CT
    exact Abm I call53 (Kh _ I.j6 p.preds (hp1.preds.le hl) x0 fr0 hnl0) rfl (fun w' I'=>⟨rfl,I'⟩)
   refine Ft (fun _ w us hl I=>Ag)<|AbX fun _ w hl I=>?_;try unfold CT
   refine Abh<|Abi<|Sr<|Ai Ag<|Abh ?_;have hp2:=hp1.le hl;have is7:Cv s6 _:=Sl.Is.le is6 hl;clear is6 hl;refine WP.block ?_;refine Abx (σ:=Nat×Ae) (fun z=>[(2,Pt b2),(4,Pt b4),(14,s6.val),(16,.string (mk (joinT [59,32] ((s6.xs.take (z.1+1)).map (CF p.preds.xs))))),(17,.int .i64 ((z.1:Int)+1))])
    (fun z w=>Inv B z.2 [box b12 a.enc 61,box b4 [.slice none 0 0,.slice none 0 0] 25,box b2 p.enc 25] w∧z.1+1≤s6.xs.length∧p.In z.2∧Cv s6 z.2) (fun z=>s6.xs.length-z.1)
    ⟨(0,_),⟨rfl,rfl,rfl,congrArg (fun z=>Value.string (mk z)) hj1.symm,rfl,trivial⟩,I,hpos,hp2,is7⟩ ?_
   rintro⟨k,hh⟩ e w ⟨I,hk,pk,isk⟩;dsimp only at I hk pk isk ⊢;refine Abi<|Sr<|Ai Mv<|As0 Mv<|Ai (AbA Ah8 rfl)<|Ad (AbC rfl rfl)<|Abh ?_;refine Abl rfl (fun h98=>?_) (fun h98=>?_)
   ·have hk':k+1<s6.xs.length:=by omega
    have E:=Sl.Is.at isk hk';have fr:=ZL hok (Ae5 hk');have hnl:=D3 hc (Ba fr.pred);have hxl:=J3 hc fr;obtain⟨x,hx⟩:∃x,s6.xs[k+1]=x:=⟨_,rfl⟩;have hnx:s6.xs.take (k+1+1)=s6.xs.take (k+1)++[x]:=by rw[AfS,Ae4 hk',hx];rfl
    rw[hx] at E fr hnl hxl;have hjl:=HJ (sep:=[59,32]) (m:=21) (l:=(s6.xs.take (k+1)).map (CF p.preds.xs)) fun y hy=>by
     obtain⟨z,hz,rfl⟩:=AfE.1 hy;exact J3 hc (ZL hok (AfX hz))
    have htk:(s6.xs.take (k+1)).length≤125:=by rw[Afj];omega
    simp only[Afw,Ae6,Afc] at hjl;have hjs:joinT [59,32] ((s6.xs.take (k+1+1)).map (CF p.preds.xs))=joinT [59,32] ((s6.xs.take (k+1)).map (CF p.preds.xs))++([59,32]++CF p.preds.xs x):=by
     rw[hnx,AfM,AgQ,Gl (by simp only[ne_eq,List.map_eq_nil_iff,List.take_eq_nil_iff];rintro(h|h);exact absurd h (by omega);exact hne h)]
    have z1:=Ar (joinT [59,32] ((s6.xs.take (k+1)).map (CF p.preds.xs)));have z2:=Ar (CF p.preds.xs x);refine Abk<|Abi<|WP.block<|AbM AC I 11 (by kernel_rfl)<|Ft (fun _ w us hl I=>Mv)<|Ft (fun _ w us hl I=>AbP rfl rfl (by show(mk _).size+2≤_;omega))<|Fp (fun _ w us hl I=>Abu At rfl)<|Fs (fun _ w us hl I=>Ld I A7 2 0 1 rfl rfl rfl)<|Fs (fun _ w us hl I=>Mv)<|Fi (fun _ w us hl I=>Mv)<|Fp (fun _ w us hl I=>AbJ E Ah8 Aih rfl rfl (by omega) (by omega))<|Fz (fun _ w us hl I=>Abn AH rfl (I.rd ((E.rd.part 0 4).le hl)) rfl rfl) ?_;refine AcE (v:=.string (mk (CF p.preds.xs x))) (fun _=>Aj _) ?_ ?_
    ·intro _ w hl I;try unfold CT
     exact Abm I call53 (Kh _ I.j6 p.preds (pk.preds.le hl) x fr hnl) rfl (fun w' I'=>⟨rfl,I'⟩)
    refine Ft (fun _ w us hl I=>AbP rfl rfl (by rw[Afb];show(mk _).size+2+_≤_;omega))<|Ft (fun _ w us hl I=>Ag)<|AbX fun _ w hl I=>?_;try unfold CT
    refine Abh<|Abg<|Ai Mv<|Ai (Dd rfl rfl)<|Ai Ag<|Abh ?_;refine⟨(k+1,_),⟨⟨rfl,rfl,rfl,?_,congrArg (Value.int .i64) (by omega),trivial⟩,I,by dsimp only;omega,pk.le hl,Sl.Is.le isk hl⟩,by dsimp only;omega⟩;dsimp only;rw[hjs];exact congrArg Value.string (Cb.1 (by rw[BD,BD,DO,DO,DO,Afe]<;>rfl))
   have hkl:k+1=s6.xs.length:=by omega
   refine Abz<|Sr<|Ax (Ld I As 2 0 2 rfl rfl rfl)<|At0 Mv<|Abj (Sx I As 1 rfl rfl rfl rfl fun w I=>At0 Ag<|Abh<|Wr ?_);exact BH.mk (vs:=[.agg #[_,_],.string _]) rfl ⟨⟨_,_,_,_,_,rfl,As,I.l5 1 rfl 0 2,rfl,rfl⟩,rfl,trivial⟩ I.j5 (⟨_,p,rfl,pk,hnm,hc,hcap,hans (by unfold FO;rw[if_neg hne,hkl,Afo])⟩)
 by_cases o2:is=true∧op=wDrop
 ·obtain⟨rfl,o2⟩:=o2;have oa:op≠wAsk:=fun h=>o1 ⟨rfl,h⟩;have hA:∀{o:Bs} {q:Prg},HI p rest o q→CR p (tx s) o q:=fun h=>hG (fun _=>by unfold opR;rw[if_neg oa,if_pos o2];exact h) (fun h=>by cases h);refine Abi<|Sr<|Ab Mv<|Ab Mv<|Gt Mv<|GF (Y.is (Ab6 rfl rfl) ((B7 oa)))<|Ab (Abo rfl rfl)<|Abh<|Abq rfl ?_;cases hnd:Lv rest with
  |none=>
   refine Abk<|Abi<|Sr<|Ab Mv<|Ab Mv<|Gt Mv<|GT (Y.is (Ab6 rfl rfl) ((C7 o2)))<|Ab (Abo rfl rfl)<|Ab Mv<|Gt Mv<|Ab8 rfl (Abm I call103 (Kk hnd▸UA _ I.j6 (mk rest) (by rw[Ar];omega)) rfl fun w I=>GF (Abt (AbZ rfl rfl) ((by decide)))<|Ab (Abo rfl rfl)<|Abh<|Abq rfl<|Abk<|Abi<|AbM AC I 3 (by kernel_rfl)<|Fx (fun _ w us hl I=>Ld I As 1 0 2 rfl rfl rfl)<|Ff (fun _ w us hl I=>Mv) ?_);refine AbR (Φ:=EqV (.string (mk (EY 1)))) (EqV.mono) (fun _=>Aj _) ?_ ?_
   ·intro _ w hl I;try unfold CT
    exact Acd I call94 (fs:=[]) (cs:=[]) rfl (DM _ I.j6 1 (by decide)) rfl (fun w' I'=>⟨_,Ae.le.refl _,I',rfl⟩)
   refine AbX fun _ w hl I u139 q139=>?_;obtain rfl:u139=.string (mk (EY 1)):=q139 rfl;refine Abj (Sx I As 0 rfl rfl rfl rfl fun w I=>At0 Ag<|Abh<|Wr ?_);exact BH.mk (vs:=[.agg #[_,_],.string _]) rfl ⟨⟨_,_,_,_,_,rfl,As,I.l5 0 rfl 0 2,rfl,rfl⟩,rfl,trivial⟩ I.j5 (⟨_,p,rfl,hp.le hl,hnm,hc,hcap,hA (MI hnd rfl)⟩)
  |some n=>
   have hnv:U5 rest=n:=by unfold U5;rw[hnd]
   have hnum:∀(B:Aq) (hB:B.ok),Fn prog 103 [.string (mk rest)] B (fun v _=>v=.int .i64 (n:Int)):=fun B hB=>hnv▸UA B hB (mk rest) (by rw[Ar];omega);have hmC:∀{r:List Prd×List Rul},WU (WoC r):=fun _ _ _ hl ⟨q,a,b⟩=>⟨q,a,b.le hl⟩;obtain⟨r,hr⟩:∃r,AQ p n=r:=⟨_,rfl⟩;refine Abk<|Abi<|Sr<|Ab Mv<|Ab Mv<|Gt Mv<|GT (Y.is (Ab6 rfl rfl) ((C7 o2)))<|Ab (Abo rfl rfl)<|Ab Mv<|Gt Mv<|Ab8 rfl (Abm I call103 (hnum _ I.j6) rfl fun w I=>GT (Abs (AbZ rfl rfl) ((by omega)))<|Ab (Abo rfl rfl)<|Abh<|Abw rfl<|Abi<|Ab9 AC RSt.pre ⟨B.h,none,none⟩ (J:=JSt B [box b4 [.slice none 0 0,.slice none 0 0] 25,box b2 p.enc 25] 25 [.slice none 0 0,.slice none 0 0] (WoC r.1) 7 8) ⟨rfl,rfl,fun h=>(by cases h),fun _ h=>(by cases h),I.drew⟩ 9 (by kernel_rfl)<|Aby (v:=.agg #[_,_]) (fun _=>Aa _) RSt.pre (JSt.set (by decide)) (fun _ s w us hl hj=>have I:=hj.base;have hl:=hl.h;Ld I As 1 0 2 rfl rfl rfl)<|Aby (v:=.string _) (fun _=>Aa _) RSt.pre (JSt.set (by decide)) (fun _ s w us hl hj=>have I:=hj.base;have hl:=hl.h;Mv) ?_);refine AbT (Φ:=RR (EqV (.int .i64 (n:Int)))) (RR.mono EqV.mono) (fun _=>Aa _) (fun D' z w hDk hl hj=>?_) ?_
   ·refine FR.all fun us=>hj.aa9 hmC (by decide) fun N I=>?_;have hl:=hl.h;refine AbE I call103 (hnum _ I.j6) rfl ?_;rintro _ h3 w I hl' hx;exact⟨_,hl',I,hx⟩
   refine AbT (Φ:=RR (WoV r)) (RR.mono WoV.mono) (fun _=>Aa _) (fun D' z w hDk hl hj=>?_) ?_
   ·intro u126 q126;obtain⟨⟩:=q126 rfl;refine hj.aa9 hmC (by decide) fun N I=>?_;have hl:=hl.h;refine AbE I call104 (hr▸Pg _ I.j6 p (hp.le hl) hnm hcap n) rfl ?_;rintro _ h3 w I hl' hx;exact⟨_,hl',I,hx⟩
   refine AbT (Φ:=RR (WoV r)) (RR.mono WoV.mono) (fun _=>Aa _) (fun D' z w hDk hl hj=>?_) ?_
   ·intro u126 q126 u127 q127;refine hj.aa9 hmC (by decide) fun N I=>?_;have hl:=hl.h;exact AcJ I Mv (q127 rfl)
   refine AbT (Φ:=RR (WoP r.1)) (RR.mono WoP.mono) (fun _=>Aa _) (fun D' z w hDk hl hj=>?_) ?_
   ·intro u126 q126 u127 q127 u123 q123;obtain⟨q,rfl,hq⟩:=q123 rfl;refine hj.aa9 hmC (by decide) fun N I=>?_;have hl:=hl.h;exact AcJ I (Y.extract rfl rfl) (⟨q,rfl,hq⟩)
   refine AbT (Φ:=RR (EqV (.int .i64 r.2))) (RR.mono EqV.mono) (fun _=>Aa _) (fun D' z w hDk hl hj=>?_) ?_
   ·intro u126 q126 u127 q127 u123 q123 u128 q128;obtain⟨q,rfl,hq⟩:=q123 rfl;refine hj.aa9 hmC (by decide) fun N I=>?_;have hl:=hl.h;exact AcJ I (Y.extract rfl rfl) (rfl)
   refine AbT (Φ:=Zk) (Zk.mono) (fun _=>Aa _) (fun D' z w hDk hl hj=>?_) ?_
   ·intro u126 q126 u127 q127 u123 q123 u128 q128 u129 q129;exact hj.make Aio rfl hDk (by decide)
   refine AdV (fun _=>Aa _) (fun D' z w hDk hl hj=>?_) ?_
   ·intro u126 q126 u127 q127 u123 q123 u128 q128 u129 q129 u18 q18;obtain⟨q,rfl,hq⟩:=q128 rfl;exact hj.put (c:=q.enc) As rfl rfl hDk (by decide) (q18 rfl) rfl rfl rfl rfl ⟨q,rfl,hq⟩
   refine Acl fun D z w hD hl hj u126 q126 u127 q127 u123 q123 u128 q128 u129 q129 u18 q18=>?_;obtain rfl:u129=.int .i64 r.2:=q129 rfl;obtain⟨b18,rfl,h18⟩:=q18 rfl;obtain⟨cs,⟨q,rfl,e1,e2,qi,qn,qcap⟩,I⟩:=hj.fin (hD 8 (by omega)) h18;refine Ai Ag<|Abh ?_;have hl:=hl.h;by_cases hk:n<p.rules.xs.length
   ·rw[LE hc hk] at hr;subst hr;refine Abi<|Sr<|Ai Mv<|AF (Abt (AbK rfl rfl) ((fun h=>h rfl)))<|Abh<|Abq rfl<|Abk<|Sr<|Ax (Ld I As 0 0 2 rfl rfl rfl)<|Abj (Sx I As 1 rfl rfl rfl rfl fun w I=>At0 Ag<|Abh<|Wr ?_);exact BH.mk (vs:=[.agg #[_,_],.string _]) rfl ⟨⟨_,_,_,_,_,rfl,As,I.l5 1 rfl 0 2,rfl,rfl⟩,rfl,trivial⟩ I.j5 (⟨[111,107],q,rfl,qi,qn,(Kb hc e1 e2).1,qcap,hA (Ik hnd hk rfl (Z6 e1 e2))⟩)
   ·rw[Kr hc hk] at hr;subst hr;refine Abi<|Sr<|Ai Mv<|AT (Abs (AbK rfl rfl) ((by decide)))<|Abh<|Abw rfl<|Abi<|AbM AC I 4 (by kernel_rfl)<|Fx (fun _ w us hl I=>Ld I As 2 0 2 rfl rfl rfl)<|Ff (fun _ w us hl I=>Mv)<|Fi (fun _ w us hl I=>Mv) ?_;refine AbR (Φ:=EqV (.string (mk (EY 7)))) (EqV.mono) (fun _=>Aj _) ?_ ?_
    ·intro _ w hl I;try unfold CT
     exact Acd I call94 (fs:=[]) (cs:=[]) rfl (DM _ I.j6 7 (by decide)) rfl (fun w' I'=>⟨_,Ae.le.refl _,I',rfl⟩)
    refine AbX fun _ w hl I u135 q135=>?_;obtain rfl:u135=.string (mk (EY 7)):=q135 rfl;refine Abj (Sx I As 1 rfl rfl rfl rfl fun w I=>At0 Ag<|Abh<|Wr ?_);exact BH.mk (vs:=[.agg #[_,_],.string _]) rfl ⟨⟨_,_,_,_,_,rfl,As,I.l5 1 rfl 0 2,rfl,rfl⟩,rfl,trivial⟩ I.j5 (⟨_,p,rfl,(hp.le ‹B.h.le _›).le hl,hnm,hc,hcap,hA (Ks hnd hk rfl rfl)⟩)
 ·have hF:CR p (tx s) (EY 1) p:=hG (fun hi=>by unfold opR;rw[if_neg fun h=>o1 ⟨hi,h⟩,if_neg fun h=>o2 ⟨hi,h⟩];exact⟨rfl,rfl⟩) (fun _=>⟨rfl,rfl⟩);cases is with
  |true=>
   refine Abi<|Sr<|Ab Mv<|Ab Mv<|Gt Mv<|GF (Y.is (Ab6 rfl rfl) ((B7 fun h=>o1 ⟨rfl,h⟩)))<|Ab (Abo rfl rfl)<|Abh<|Abq rfl<|Abk<|Abi<|Sr<|Ab Mv<|Ab Mv<|Gt Mv<|GF (Y.is (Ab6 rfl rfl) ((B7 fun h=>o2 ⟨rfl,h⟩)))<|Ab (Abo rfl rfl)<|Ab Mv<|Gg<|Gg<|Gg<|Ab (Abp rfl rfl)<|Abh<|Abq rfl<|Abk<|Abi<|AbM AC I 3 (by kernel_rfl)<|Fx (fun _ w us hl I=>Ld I As 1 0 2 rfl rfl rfl)<|Ff (fun _ w us hl I=>Mv) ?_;refine AbR (Φ:=EqV (.string (mk (EY 1)))) (EqV.mono) (fun _=>Aj _) ?_ ?_
   ·intro _ w hl I;try unfold CT
    exact Acd I call94 (fs:=[]) (cs:=[]) rfl (DM _ I.j6 1 (by decide)) rfl (fun w' I'=>⟨_,Ae.le.refl _,I',rfl⟩)
   refine AbX fun _ w hl I u139 q139=>?_;obtain rfl:u139=.string (mk (EY 1)):=q139 rfl;refine Abj (Sx I As 0 rfl rfl rfl rfl fun w I=>At0 Ag<|Abh<|Wr ?_);exact BH.mk (vs:=[.agg #[_,_],.string _]) rfl ⟨⟨_,_,_,_,_,rfl,As,I.l5 0 rfl 0 2,rfl,rfl⟩,rfl,trivial⟩ I.j5 (⟨_,p,rfl,hp.le hl,hnm,hc,hcap,hF⟩)
  |false=>
   refine Abi<|Sr<|Ab Mv<|Ab Mv<|Gg<|Gg<|Ab (Abp rfl rfl)<|Abh<|Abq rfl<|Abk<|Abi<|Sr<|Ab Mv<|Ab Mv<|Gg<|Gg<|Ab (Abp rfl rfl)<|Ab Mv<|Gg<|Gg<|Gg<|Ab (Abp rfl rfl)<|Abh<|Abq rfl<|Abk<|Abi<|AbM AC I 3 (by kernel_rfl)<|Fx (fun _ w us hl I=>Ld I As 1 0 2 rfl rfl rfl)<|Ff (fun _ w us hl I=>Mv) ?_;refine AbR (Φ:=EqV (.string (mk (EY 1)))) (EqV.mono) (fun _=>Aj _) ?_ ?_
   ·intro _ w hl I;try unfold CT
    exact Acd I call94 (fs:=[]) (cs:=[]) rfl (DM _ I.j6 1 (by decide)) rfl (fun w' I'=>⟨_,Ae.le.refl _,I',rfl⟩)
   refine AbX fun _ w hl I u139 q139=>?_;obtain rfl:u139=.string (mk (EY 1)):=q139 rfl;refine Abj (Sx I As 0 rfl rfl rfl rfl fun w I=>At0 Ag<|Abh<|Wr ?_);exact BH.mk (vs:=[.agg #[_,_],.string _]) rfl ⟨⟨_,_,_,_,_,rfl,As,I.l5 0 rfl 0 2,rfl,rfl⟩,rfl,trivial⟩ I.j5 (⟨_,p,rfl,hp.le hl,hnm,hc,hcap,hF⟩)
end
section
def Abf(B:Aq)(h:Ae)(M:List SA)(bt:Nat)(p:Prg)(s:Bs)(ed:Ending)(w':World):Prop:=
 ∃o h' q,ed=.returned (.string (mk o))∧h.le h'∧Inv B h' (box bt q.enc 89::M) w'∧q.In h'∧q.Nm∧Ac q=0∧CR p s o q
theorem YX{B:Aq}{h:Ae}{M:List SA}{w:World}{bt:Nat}{p:Prg}(V:Iq h)(I:Inv B h (box bt p.enc 89::M) w)(hp:p.In h)(hnm:p.Nm)(hc:Ac p=0)(s:ByteArray)(hs:s.size≤4096) :
  Calls prog 39 [Pt bt,.string s].toArray w (Abf B h M bt p (tx s)):=by
 have htl:=BF s;obtain⟨k1,k2,k3,_,_⟩:=AB hc;refine AbV (args:=[Pt bt,.string s]) func39 rfl ntmps39 (by kernel_rfl) (by simp) fun e=>Sr<|At0 Ag<|Abh<|Sr<|Ap Mv<|Ap (Ab4 rfl)<|Ap (Abu Dl rfl)<|Ax (Ld I As 0 0 2 rfl rfl rfl)<|Abj (AbE I call33 (NU _ I.j6 p hp hc) rfl ?_);rintro _ h1 w I le1 ⟨f,r,rfl,hf,hr,hm⟩;refine Au Mv<|As0 (Y.extract rfl rfl)<|As0 (Y.extract rfl rfl)<|As0 Ag<|As0 Ag<|Abh ?_;have hsm:=Gh hc hm;have h125:=(EX hc hm).aa6;have hrl:=hm.len;have⟨n6,s5,hsb⟩:=Ie hc;have V1:=V.le le1;have hp1:=hp.le le1;refine Abi<|Sr<|At0 Mv<|Abh ?_;by_cases w1:tx s=N4
 ·refine WP.block<|Sr<|AT (Y.is (Ab6 rfl rfl) ((C7 w1)))<|Ab Ag<|Abh<|Abw rfl<|Sr<|As0 Mv<|Ai (AbA Ah8 rfl)<|Abj (AbY (xs:=[(f.xs.length:Int)]) (enc:=KG) I Aie Aij AiG rfl (Nb rfl) rfl rfl (by decide) (fun _=>rfl) fun b30 h30 w I le30 sl30=>Abj (Abm I call88 (HN _ I.j6 (V1.le le30) ⟨some ⟨b30,0,none⟩,1,[(f.xs.length:Int)]⟩ ⟨sl30,by simp⟩ (fun x hx=>by rw[Afl] at hx;omega) (by simp)) rfl fun w I=>At0 Ag<|Abh<|Acv ?_));exact⟨.inl rfl,[.string (mk (Dt [(f.xs.length:Int)]))],⟨rfl,trivial⟩,_,_,p,rfl,le1.trans le30,I,hp1.le le30,hnm,hc,by unfold CR;rw[if_pos w1];exact⟨rfl,f.xs,r.xs,hm,rfl⟩⟩
 by_cases w2:tx s=Kf
 ·refine WP.block<|Sr<|AF (Y.is (Ab6 rfl rfl) ((B7 w1)))<|Ab Ag<|Abh<|Abq rfl<|Sr<|AT (Y.is (Ab6 rfl rfl) ((C7 w2)))<|Ab Ag<|Abh<|Abw rfl<|Sr<|Ap Mv<|Ap (Ab4 rfl)<|Ap (Abu Dl rfl)<|Ax (Ld I As 0 0 2 rfl rfl rfl)<|Abj (AbE I call62 (Hk _ I.j6 p hp1 (Jw k3) k1) rfl ?_);rintro v13 h2 w I le2 hL;rcases hL with ⟨s2,hS,hI,rfl⟩|⟨hno,rfl⟩;rotate_left;exact absurd (BC hc).sol (hno _);refine Au Mv<|As0 (Y.extract rfl rfl)<|Ab (Y.extract rfl rfl)<|As0 Ag<|Ab Ag<|Abh ?_;have eM:=Bl hS;refine Sr<|As0 Mv<|Abj (Abm I call88 (HN _ I.j6 (V1.le le2) s2 hI (fun x hx=>by have:=hsb x (by rw[eM];exact hx);omega) (by rw[←eM];omega)) rfl fun w I=>At0 Ag<|Abh<|Acv ?_);exact⟨.inl rfl,[.string (mk (Dt s2.xs))],⟨rfl,trivial⟩,_,_,p,rfl,le1.trans le2,I,hp1.le le2,hnm,hc,by unfold CR;rw[if_neg w1,if_pos w2,eM];exact⟨rfl,rfl⟩⟩
 by_cases w3:tx s=Kg
 ·refine WP.block<|Sr<|AF (Y.is (Ab6 rfl rfl) ((B7 w1)))<|Ab Ag<|Abh<|Abq rfl<|Sr<|AF (Y.is (Ab6 rfl rfl) ((B7 w2)))<|Ab Ag<|Abh<|Abq rfl<|Sr<|AT (Y.is (Ab6 rfl rfl) ((C7 w3)))<|Ab Ag<|Abh<|Abw rfl<|Sr<|As0 Mv<|Abj (Abm I call88 (HN _ I.j6 V1 r hr (fun x hx=>by have:=hsm.2 x hx;omega) (by omega)) rfl fun w I=>At0 Ag<|Abh<|Acv ?_);exact⟨.inl rfl,[.string (mk (Dt r.xs))],⟨rfl,trivial⟩,_,_,p,rfl,le1,I,hp1,hnm,hc,by unfold CR;rw[if_neg w1,if_neg w2,if_pos w3];exact⟨rfl,f.xs,r.xs,hm,rfl⟩⟩
 by_cases w4:tx s=N5
 ·refine WP.block<|Sr<|AF (Y.is (Ab6 rfl rfl) ((B7 w1)))<|Ab Ag<|Abh<|Abq rfl<|Sr<|AF (Y.is (Ab6 rfl rfl) ((B7 w2)))<|Ab Ag<|Abh<|Abq rfl<|Sr<|AF (Y.is (Ab6 rfl rfl) ((B7 w3)))<|Ab Ag<|Abh<|Abq rfl<|Sr<|AT (Y.is (Ab6 rfl rfl) ((C7 w4)))<|Ab Ag<|Abh<|Abw rfl<|Sr<|Ap Mv<|Ap (Ab4 rfl)<|Ap (Abu Dl rfl)<|Ax (Ld I As 0 0 2 rfl rfl rfl)<|Abj (AbE I call89 (WT _ I.j6 p hp1 hnm) rfl ?_);rintro v13 h2 w I le2 hT;rcases hT with ⟨hn,_⟩|⟨_,ts,tf,rfl,its,_,tl,hT⟩;exact absurd hc hn;refine Au Mv<|As0 (Y.extract rfl rfl)<|Ai (Y.extract rfl rfl)<|As0 Ag<|Ai Ag<|Abh<|Sr<|Ap Mv<|Ap (Ab4 rfl)<|Ap (Abu Dl rfl)<|Ax (Ld I As 0 0 2 rfl rfl rfl)<|Abj (AbE I call90 (Og _ I.j6 p (hp1.le le2) hnm) rfl ?_);rintro v14 h3 w I le3 hT2;rcases hT2 with ⟨hn,_⟩|⟨_,sf,c,rfl,isf,hT2⟩;exact absurd hc hn;refine Av Mv<|As0 (Y.extract rfl rfl)<|Ai (Y.extract rfl rfl)<|Ai (Y.extract rfl rfl)<|As0 Ag<|Ai Ag<|Ai Ag<|Abh ?_;have hcs:=(Gj hc (BC hc).sol hT2).2;refine Sr<|As0 Mv<|Ai (AbA Aif rfl)<|Ai Mv<|Abj (AbY (xs:=[(ts.xs.length:Int),(c:Int)]) (enc:=KG) I Aie Aij AiG rfl (Nb rfl) rfl rfl (by decide) (fun _=>rfl) fun b70 h70 w I le70 sl70=>Abj (Abm I call88 (HN _ I.j6 (((V1.le le2).le le3).le le70) ⟨some ⟨b70,0,none⟩,2,[(ts.xs.length:Int),(c:Int)]⟩ ⟨sl70,by simp⟩ (fun x hx=>by simp only[Afq,Af8,or_false] at hx;omega) (by simp)) rfl fun w I=>At0 Ag<|Abh<|Acv ?_));exact⟨.inl rfl,[.string (mk (Dt [(ts.xs.length:Int),(c:Int)]))],⟨rfl,trivial⟩,_,_,p,rfl,((le1.trans le2).trans le3).trans le70,I,((hp1.le le2).le le3).le le70,hnm,hc,by unfold CR;rw[if_neg w1,if_neg w2,if_neg w3,if_pos w4];exact⟨rfl,tf,ts.xs,sf.xs,c,hT,hT2,rfl⟩⟩
 refine WP.block<|Sr<|AF (Y.is (Ab6 rfl rfl) ((B7 w1)))<|Ab Ag<|Abh<|Abq rfl<|Sr<|AF (Y.is (Ab6 rfl rfl) ((B7 w2)))<|Ab Ag<|Abh<|Abq rfl<|Sr<|AF (Y.is (Ab6 rfl rfl) ((B7 w3)))<|Ab Ag<|Abh<|Abq rfl<|Sr<|AF (Y.is (Ab6 rfl rfl) ((B7 w4)))<|Ab Ag<|Abh<|Abq rfl<|Abk<|Abi ?_;obtain⟨ct,hct⟩:∃ct,Lib.cut (tx s) [32]=ct:=⟨_,rfl⟩;obtain⟨op,rest,is⟩:=ct;have hcl:=Cw (tx s) [32];have hC:=SZ ⟨w,h1⟩ I.j6 V1 s ⟨#[32]⟩ (by omega);rw[show tx (⟨#[32]⟩:ByteArray)=[32] from rfl,hct] at hC;rw[hct] at hcl;dsimp only at hC hcl;have hG:∀o q,opR p op rest o q→is=true→CR p (tx s) o q:=fun o q h hi=>by
  unfold CR;rw[if_neg w1,if_neg w2,if_neg w3,if_neg w4,hct];dsimp only;rw[if_pos hi];exact h
 refine Abg<|At0 Mv<|Abj (Abm I call73 (hC) rfl fun w I=>Av Mv<|At0 (Y.extract rfl rfl)<|At0 (Y.extract rfl rfl)<|Ab (Y.extract rfl rfl)<|At0 Ag<|At0 Ag<|Ab Ag<|Abh ?_);cases is with
 |false=>
  refine Abi<|WP.block<|Sr<|Ab Mv<|Ab Mv<|Gg<|Gg<|Ab (Abp rfl rfl)<|Ab Ag<|Abh<|Abq rfl<|Sr<|Ab Mv<|Ab Mv<|Gg<|Gg<|Ab (Abp rfl rfl)<|Ab Ag<|Abh<|Abq rfl<|Abk<|Sr<|Abj (Abm I call93 (CM _ I.j6 1 (by decide)) rfl fun w I=>At0 Ag<|Abh<|Acv ?_);exact⟨.inl rfl,[.string (mk (EY 1))],⟨rfl,trivial⟩,_,_,p,rfl,le1,I,hp1,hnm,hc,by unfold CR;rw[if_neg w1,if_neg w2,if_neg w3,if_neg w4,hct];exact⟨rfl,rfl⟩⟩
 |true=>
  by_cases o1:op=wAsk
  ·refine Abi<|WP.block<|Sr<|Ab Mv<|Ab Mv<|Gt Mv<|GT (Y.is (Ab6 rfl rfl) ((C7 o1)))<|Ab (Abo rfl rfl)<|Ab Ag<|Abh<|Abw rfl<|Sr<|Ap Mv<|At0 Mv<|Abj (Ace call91 (AaI V1 I hp1 hnm hc (mk rest) (by rw[Ar];omega)) rfl ?_);rintro ed w ⟨o,h2,rfl,gl2,I,hA⟩;refine⟨_,rfl,?_⟩;refine At0 Ag<|Abh<|Acv ?_;exact⟨.inl rfl,[.string (mk o)],⟨rfl,trivial⟩,o,h2,p,rfl,le1.trans gl2,I,hp1.le gl2,hnm,hc,hG _ _ (by unfold opR;rw[if_pos o1];exact⟨hA,rfl⟩) rfl⟩
  by_cases o2:op=wDrop
  ·refine Abi<|WP.block<|Sr<|Ab Mv<|Ab Mv<|Gt Mv<|GF (Y.is (Ab6 rfl rfl) ((B7 o1)))<|Ab (Abo rfl rfl)<|Ab Ag<|Abh<|Abq rfl<|Sr<|Ab Mv<|Ab Mv<|Gt Mv<|GT (Y.is (Ab6 rfl rfl) ((C7 o2)))<|Ab (Abo rfl rfl)<|Ab Ag<|Abh<|Abw rfl<|Sr<|Ap Mv<|At0 Mv<|Abj (Ace call92 (Z7 V1 I hp1 hnm hc (mk rest) (by rw[Ar];omega)) rfl ?_);rintro ed w ⟨o,h2,q,rfl,gl2,I,qi,qn,qc,hA⟩;refine⟨_,rfl,?_⟩;refine At0 Ag<|Abh<|Acv ?_;exact⟨.inl rfl,[.string (mk o)],⟨rfl,trivial⟩,o,h2,q,rfl,le1.trans gl2,I,qi,qn,qc,hG _ _ (by unfold opR;rw[if_neg o1,if_pos o2];exact hA) rfl⟩
  ·refine Abi<|WP.block<|Sr<|Ab Mv<|Ab Mv<|Gt Mv<|GF (Y.is (Ab6 rfl rfl) ((B7 o1)))<|Ab (Abo rfl rfl)<|Ab Ag<|Abh<|Abq rfl<|Sr<|Ab Mv<|Ab Mv<|Gt Mv<|GF (Y.is (Ab6 rfl rfl) ((B7 o2)))<|Ab (Abo rfl rfl)<|Ab Ag<|Abh<|Abq rfl<|Abk<|Sr<|Abj (Abm I call93 (CM _ I.j6 1 (by decide)) rfl fun w I=>At0 Ag<|Abh<|Acv ?_);exact⟨.inl rfl,[.string (mk (EY 1))],⟨rfl,trivial⟩,_,_,p,rfl,le1,I,hp1,hnm,hc,hG _ _ (by unfold opR;rw[if_neg o1,if_neg o2];exact⟨rfl,rfl⟩) rfl⟩
end
section
theorem UT{P:Program}{ops:Array Oper}{Q:Exit→Act→World→Prop}(l:Nat)(hQ:¬LetsOut Q)(hnd:EM ops.toList=true){i:Nat}{K:Act→World→Prop}{a:Act}{w:World}(h:wpOp P ops Q i K a w):wpOpIn (Fence.wide.inRound l) 0 P ops Q i K a w:=by
 unfold wpOp at h;unfold wpOpIn;cases ho:ops[i]? with
 |none=>simp only[ho] at h ⊢;exact h
 |some o=>
  simp only[ho] at h ⊢;have hmem:o∈ops.toList:=by have:=Af6 ho;simpa using this
  have hno:∀c,o.op≠.defer c:=fun c e=>by have:=(Aff.1 hnd) o hmem;simp[e] at this
  split at h
  ·rename_i hw;rw[if_pos hw];rcases h with h|⟨_,h⟩
   ·refine⟨fun _ _=>trivial,?_⟩;rw[Oper.semAt_eq _ _ _ hno];unfold Oper.wp at h;generalize (execOp a.eval o).run P w=r at *;cases r with
    |ok n w'=>
     cases n<;>simp only[Oper.upon,Oper.uponIn] at h ⊢<;>first|exact h|exact h.elim|exact⟨(fun hd=>by cases hd),(Eg _ h).inRound l⟩|exact⟨(fun hd=>by cases hd),fun c cs _=>let ⟨v,w',r,s⟩:=h c cs;⟨v,w',r,stepsIn_wide.2 s⟩⟩
    |halt x w'=>cases x<;>simp only[Oper.upon,Oper.uponIn] at h ⊢<;>first|exact h|exact h.elim
   ·exact(hQ h).elim
  ·rename_i hw;rw[if_neg hw];exact⟨fun _ _=>trivial,h⟩
theorem LF{P:Program}{ops:Array Oper}{Q:Exit→Act→World→Prop}(l:Nat)(hQ:¬LetsOut Q)(hnd:EM ops.toList=true):∀(fuel:Nat) (d:Array Bool) (a:Act) (w:World),wpAny P .any ops Q fuel d a w→wpAnyIn (Fence.wide.inRound l) 0 P .any ops Q fuel d a w
 |0,_,_,_,h=>h
 |fuel+1,_,_,_,h=>⟨h.1,fun i hi=>UT l hQ hnd (wpOp_mono (fun a w=>LF l hQ hnd fuel _ a w) (h.2 i hi))⟩
theorem Ad8{P:Program}{N l:Nat}{e:Env}{w:World}{Q:Exit→Env→World→Prop}{id:Nat}{ops:Array Oper}{B:Aq}{h:Ae}{M:List SA}(hm:LH P)(I:Inv B h M w)(m:Nat)(hB:MV ops m=true)
  (k:AO P ops B M h [] (ops.toList.take m) e (fun L e'=>∀h1 w1,h.le h1→Inv B h1 M w1→CT (fun _=>true) h1 L e' fun e''=>Ops P ops (ops.toList.drop m) e'' w1 (fun e3 w3=>Q .normal e3 w3))) (hnd:EM ops.toList=true:=by kernel_rfl):WPI P N l (.region id ops true) e w Q:=by
 intro hs a h1 h2 h3;subst h3;have hF:=LJ hB;obtain⟨Ss,L,e',hlen,hrel,hls,hmo,hK⟩:=Adb (e0:=env a) hF _ [] [] (env a) _ (fun j=>by simp) (by simp[hF.le]) ⟨fun f h1 d ho=>(ho.2 (by simp)).symm,by simp⟩ (by simp) (by simp) k;refine wpIn_mono (Q:=fun x a' w'=>x=.normal∧a'.tmps.size=N∧a'.defers=[]∧Q .normal (env a') w') (wpIn_region_any hm (LF l (fun ⟨_,_,hh⟩=>by cases hh.1) hnd _ _ _ _ ?_)) (fun x a' w' ⟨hx,g1,g2,g3⟩=>by subst hx;exact⟨g1,g2,g3⟩);refine Pk (K:=fun e3 w3=>Q .normal e3 w3) (N:=N) (D:=[]) hF hs (fun a w g1 g2 g3=>⟨rfl,g1,g2,g3⟩) hlen hls hmo (fun f h1 w1 hl I1 hok=>?_) ops.size _ a _ (by simp) ⟨by simp,?_,?_,h1,h2,h,Ae.le.refl h,I.drew,fun d=>⟨?_,fun _=>rfl⟩⟩
 ·have hov:ovr e' L f=f:=by funext d;exact hrel.eq f h1 d (hlen▸hok d)
  have:=(hK h1 w1 hl I1).get f fun p hp _=>by
   obtain⟨k,k1,k2,k3⟩:=hrel.sub p hp;exact(hok p.1).1 k p.2 (hlen▸k1) k2 k3
  rwa [hov] at this
 ·intro i o _ hl;simp[Afp,AfL] at hl;split at hl<;>simp at hl
 ·intro j _ hl;simp[Afp,AfL] at hl;split at hl<;>simp at hl
 ·intro j Φ _ hl;simp[Afp,AfL] at hl;split at hl<;>simp at hl
end
section
section
variable {P:Program}{f:FuncId}{N:Nat}{D:List Deferred}{e:Env}{w:World}{Q:Exit→Env→World→List Deferred→Prop}
theorem Ac2{c:Operand}{x y:Code}(hc:ev e c=.bool true)(h:WPF P f N D x e w Q):WPF P f N D (.cond c x y) e w Q:=AdH hc (fun _=>h) (fun h=>by cases h)
theorem AdK{c:Operand}{x y:Code}(hc:ev e c=.bool false)(h:WPF P f N D y e w Q):WPF P f N D (.cond c x y) e w Q:=AdH hc (fun h=>by cases h) (fun _=>h)
end
theorem UU{B:Aq}{h:Ae}{M:List SA}{w:World}{b:Nat}(I:Inv B h M w)(hB:B.ok){p:Value}{a:Option Addr}{k c:Nat}{l:List UInt8}(n m q D:Nat)(hn:M[n]?=some (IK b p (.slice a k c)))(hm:M[m]?=some (MN b (.slice a k c) l))(hp:Xl b p)(hq:M[q]?=some (AA D)) :
  Calls prog 27 [Pt b].toArray w fun x w'=>x=.returned (.string ⟨l.toArray⟩)∧Inv B B.h [AA D] w':=by
 have hb:w.heap[b]?=some (.cells #[p,.slice a k c] 51 (0,0)):=I.at n hn;have own:=(I.own _ (Afk hn)).2 b (by simp[box]);have hD:w.heap[D]?=some (.deferred (some [])):=I.at q hq;have ownD:=(I.own _ (Afk hq)).2 D (by simp[AA]);have hr:w.ownsRowF b 5 1 (.slice a k c) l.length (Lib.byteCells l):=I.at m hm;have hne:(Value.slice a k c).ownBlock≠some b:=Lib.ownBlock_neF hr hb (by decide);have hl:(Lib.byteCells l).length=l.length:=by simp[Lib.byteCells]
 have hi:Lib.IsBuilderF 51 5 b b (Lib.byteCells l) w:=by
  rcases hp with rfl|rfl
  ·exact .inl ⟨Afg b,_,hb,by rw[hl];exact hr,hne⟩
  ·exact .inr ⟨Afg b,_,hb,by rw[hl];exact hr,hne⟩
 refine(Any.Builder_String_any_k lays169 Tryz.Builder_Extra_169 b b l w hi (AhW own.2.1)).mono ?_;rintro x w' ⟨rfl,_,hbw,hok⟩;have I0:Inv B B.h [] w:=(I.less I.ext (Ae.le.refl _)).clear;have hDb:D≠b:=fun e=>by rw[e,hb] at hD;cases hD
 have hD':w'.heap[D]?=some (.deferred (some [])):=hok D _ hD (fun e=>hDb (Option.some.inj e)) (fun c fz e=>by cases e);have hkeep:∀q o,B.h q=some o→w'.heap[q]?=some o:=fun q o hq=>by
  have hlt:q<B.w.heap.size:=(Afr.1 (hB q o hq)).1;rw[hbw.block q (by omega)];exact I0.imm q o hq
 refine⟨rfl,⟨I0.below.trans (hbw.mono own.1),Ae.le.refl _,fun _ _ e=>.inl e,hkeep,fun A hA=>?_,Ag9 _ _⟩⟩;rw[Afl] at hA;subst hA;refine⟨hD',fun x hx=>?_⟩;have hx:x=D:=by simpa[AA] using hx
 subst hx;refine⟨ownD.1,(Afr.1 hD').1,?_⟩;cases hh:B.h x with
 |none=>rfl
 |some o=>exact absurd (Afr.1 (hB x o hh)).1 (by omega)
theorem WX{B:Aq}{h:Ae}{M:List SA}{w:World}{fn:Func}{tmps:Array Value}{R:Ending→World→Prop}{m:Nat}(I:Inv B h (AA m::M) w)(k:∀w',Inv B h M w'→∃v,(results fn tmps).run prog w'=.ok v w'∧R (.returned v) w'):LeavesInM Fence.wide 0 prog fn tmps R [mark m] .returning w:=by
 have hD:w.heap[m]?=some (.deferred (some [])):=(I.own _ (Ae7 ..)).1;refine⟨by simp,.inl ⟨m,_,rfl,DT hD,?_⟩⟩;exact k _ I.shut
def FP(s t:ByteArray)(o:Bs)(e:Int):Prop:=
 if 4096<s.size then o=[]∧e=2 else
 match B4 s with
 |none=>o=[]∧e=1
 |some st=>if 4096<t.size∨40<(tx t).count 10 then o=[]∧e=2 else if tx t≠[]∧Lib.hasSuffix (tx t) [10]=false then o=[]∧e=1 else e=0∧∃Q,O7 (D9 st) (Dc t) (Dc t).length o Q
theorem Ce{s t:ByteArray}{o:Bs}{e:Int}{st:St}(hs:¬4096<s.size)(hk:B4 s=some st):FP s t o e=(if 4096<t.size∨40<(tx t).count 10 then o=[]∧e=2 else if tx t≠[]∧Lib.hasSuffix (tx t) [10]=false then o=[]∧e=1 else e=0∧∃Q,O7 (D9 st) (Dc t) (Dc t).length o Q):=by
 unfold FP;rw[if_neg hs,hk]
theorem Aab(p:Prg):p.er.er=p.er:=by
 unfold Prg.er;simp only[AgJ];refine congrArg (fun z=>(⟨p.preds.er,⟨none,0,z⟩⟩:Prg)) (AgM fun r _=>?_);show r.er.er=r.er;unfold Rul.er;simp only[AgJ];rfl
theorem O7.step{P0 P Q:Prg}{L:List Bs}{k:Nat}{o o1 x:Bs}(h:O7 P0 L k o P)(hx:L[k]?=some x)(g:CR P x o1 Q):O7 P0 L (k+1) (o++(o1++[10])) Q:=
 ⟨o,P,o1,h,by rw[Ae3,hx];exact g,rfl⟩
abbrev PlS:=Prg×Bs×Value×Option Addr×Nat×Nat
def plU(bt b9 b8 b6:Nat)(p:Prg)(z:PlS):List SA:=[box bt z.1.enc 89,MN b9 (.slice z.2.2.2.1 z.2.2.2.2.1 z.2.2.2.2.2) z.2.1,IK b9 z.2.2.1 (.slice z.2.2.2.1 z.2.2.2.2.1 z.2.2.2.2.2),box b8 [Pt bt] 87,box b6 p.enc 25]
structure PlJ(st:St)(t:ByteArray)(b9:Nat)(k:Nat)(hg:Ae)(z:PlS):Prop where
 run:O7 (D9 st) (Dc t) k z.2.1 z.1
 inn:z.1.In hg
 nm:z.1.Nm
 chk:Ac z.1=0
 bp:Xl b9 z.2.2.1
 len:z.2.1.length≤k*4097
theorem UV(B:Aq)(hB:B.ok)(V:Iq B.h)(s t:ByteArray)(ht:t.size≤140737488355328):Fn prog 13 [.string s,.string t] B (fun v _=>∃o e,v=.tuple #[.string (mk o),.int .i64 e]∧FP s t o e):=by
 show Calls _ _ ([.string s,.string t]:List Value).toArray B.w _;have htl:=BF t;refine Adv (args:=[.string s,.string t]) func13 rfl ntmps13 (by kernel_rfl) (by simp) fun e=>?_;have I:=Ab2 hB;refine AbQ<|AbS<|At0 Ag<|Ai Ag<|Abh<|AbQ<|AbS<|At0 Mv<|Abj (AbE I call8 (Yg _ I.j6 V s) rfl ?_);rintro _ h1 w I le1 ⟨p,rfl,pi,pn,pe⟩;refine Au Mv<|Ax (Y.extract rfl rfl)<|Ai (Y.extract rfl rfl)<|Abj (O.alloc I Aio rfl fun b6 w I=>Abj (Sx I As 0 rfl rfl rfl rfl fun w I=>Ai Ag<|Abh ?_));have fin:∀{e:Int} {h':Ae} {M:List SA} {w':World} {E:Env},Inv B h' M w'→FP s t [] e→E 4=.string ⟨#[]⟩→E 5=.int .i64 e→∀tmps,env {tmps:=tmps,defers:=[]}=E→∃v,(results f13 tmps).run prog w'=.ok v w'∧∃v2 h',Ending.returned v=.returned v2∧Ext B w' h'∧∃o e,v2=.tuple #[.string (mk o),.int .i64 e]∧FP s t o e:=by
  intro e h' M w' E I hr h4 h5 tmps he;exact⟨_,A9 (a:={tmps:=tmps,defers:=[]}) rfl (vs:=[.string ⟨#[]⟩,.int .i64 e]) (by rw[he];exact⟨h4,h5,trivial⟩),_,_,rfl,I.j5,[],e,rfl,hr⟩
 by_cases hs:4096<s.size
 ·have hE:Hm s=2:=by unfold Hm;rw[if_pos hs]
  refine AbQ<|AbQ<|AbS<|Ai Mv<|AT (Abs (AbK rfl rfl) ((by omega)))<|Abh<|Ac2 rfl<|AbQ<|AbS<|Ai Mv<|At0 Ag<|Ai Ag<|Abh<|AcO ?_;repeat (first|refine BO ?_|refine Bq ?_)
  exact fin I (by unfold FP;rw[if_pos hs];exact⟨rfl,rfl⟩) rfl (congrArg (Value.int .i64) hE)
 cases hk:B4 s with
 |none=>
  have hE:Hm s=1:=by unfold Hm;rw[if_neg hs,hk];rfl
  refine AbQ<|AbQ<|AbS<|Ai Mv<|AT (Abs (AbK rfl rfl) ((by omega)))<|Abh<|Ac2 rfl<|AbQ<|AbS<|Ai Mv<|At0 Ag<|Ai Ag<|Abh<|AcO ?_;repeat (first|refine BO ?_|refine Bq ?_)
  exact fin I (by unfold FP;rw[if_neg hs,hk];exact⟨rfl,rfl⟩) rfl (congrArg (Value.int .i64) hE)
 |some st=>
  obtain⟨hE,hP,hch,_⟩:=Ka hk;rw[hP] at pe;have hc:Ac p=0:=by rw[←B6,pe,hch]
  refine AbQ<|AbQ<|AbS<|Ai Mv<|AF (Abt (AbK rfl rfl) ((by omega)))<|Abh<|AdK rfl ?_;by_cases h5:4096<t.size
  ·refine AcX<|AbQ<|AbQ<|AbS<|At0 Mv<|Ai (AbF Ah9 rfl)<|AT (Abs (AbL rfl rfl) ((by omega)))<|Ab Mv<|Gg<|Gg<|Gg<|Ab (Abo rfl rfl)<|Abh<|Ac2 rfl<|AbQ<|AbS<|At0 Ag<|Ai Ag<|Abh<|AcO ?_;repeat (first|refine BO ?_|refine Bq ?_)
   exact fin I (by rw[Ce hs hk,if_pos (.inl h5)];exact⟨rfl,rfl⟩) rfl rfl
  by_cases h6:40<(tx t).count 10
  ·refine AcX<|AbQ<|AbQ<|AbS<|At0 Mv<|Ai (AbF Ah9 rfl)<|AF (Abt (AbL rfl rfl) ((by omega)))<|Ab Mv<|Gt Mv<|Ab8 rfl (Abm I call37 (Nu _ I.j6 t 10) rfl fun w I=>GT (Abs (AbL rfl rfl) ((by omega)))<|Ab (Abp rfl rfl)<|Abh<|Ac2 rfl<|AbQ<|AbS<|At0 Ag<|Ai Ag<|Abh<|AcO ?_);repeat (first|refine BO ?_|refine Bq ?_)
   exact fin I (by rw[Ce hs hk,if_pos (.inr h6)];exact⟨rfl,rfl⟩) rfl rfl
  refine AcX<|AbQ<|AbQ<|AbS<|At0 Mv<|Ai (AbF Ah9 rfl)<|AF (Abt (AbL rfl rfl) ((by omega)))<|Ab Mv<|Gt Mv<|Ab8 rfl (Abm I call37 (Nu _ I.j6 t 10) rfl fun w I=>GF (Abt (AbL rfl rfl) ((by omega)))<|Ab (Abp rfl rfl)<|Abh<|AdK rfl ?_);have hn56:¬(4096<t.size∨40<(tx t).count 10):=fun h=>h.elim h5 h6;have hans:∀o Q,O7 (D9 st) (Dc t) (Dc t).length o Q→¬(tx t≠[]∧Lib.hasSuffix (tx t) [10]=false)→FP s t o 0:=fun o Q h h7=>by rw[Ce hs hk,if_neg hn56,if_neg h7];exact⟨rfl,Q,h⟩
  refine AcX<|AbQ<|AbQ<|Adp ?_;refine Ad6 (σ:=Unit) (fun _=>[(1,.string t),(4,.string ⟨#[]⟩),(5,.int .i64 0),(6,Pt b6),(33,.bool (decide (tx t≠[]∧Lib.hasSuffix (tx t) [10]=false)))])
   (fun _ w=>Inv B h1 [box b6 p.enc 25] w) (fun _=>[]) ?_ ?_
  ·by_cases h7:tx t=[]
   ·exact AbN<|At0 Mv<|AF (Y.is (Ac4 rfl rfl) ((by rw[QW (t:=[]) h7];rfl)))<|Ab Mv<|Gg<|Gg<|Gg<|Ab (Abp rfl rfl)<|Abh<|⟨(),⟨rfl,rfl,rfl,rfl,congrArg Value.bool (decide_eq_false fun h=>h.1 h7).symm,trivial⟩,rfl,I⟩
   ·refine AbN<|At0 Mv<|AT (Y.is (Ac4 rfl rfl) ((by rw[Uw (t:=[]) h7];rfl)))<|Ab Mv<|Gt Mv<|Ab8 rfl (Abm I call38 (Nt _ I.j6 t ⟨#[10]⟩ ht) rfl fun w I=>Gb (Y.not rfl)<|Ab (Abo rfl rfl)<|Abh ?_);exact⟨(),⟨rfl,rfl,rfl,rfl,congrArg Value.bool (by show(!Lib.hasSuffix (tx t) [10])=_;cases Lib.hasSuffix (tx t) [10]<;>simp[h7]),trivial⟩,rfl,I⟩
  rintro _ e w I;refine Adq rfl (fun h7=>?_) (fun h7=>?_)
  ·refine AbQ<|AbS<|At0 Ag<|Ai Ag<|Abh<|AcO ?_;repeat (first|refine BO ?_|refine Bq ?_)
   exact fin I (by rw[Ce hs hk,if_neg hn56,if_pos h7];exact⟨rfl,rfl⟩) rfl rfl
  refine AcX<|AbQ<|AbS<|Ax (Ld I As 0 0 2 rfl rfl rfl)<|AbB (v:=.agg #[.slice _ _ _,.slice _ _ _]) (Y.build Aav zeroValue89 rfl rfl)<|Abj (O.box (v:=.agg #[_,_]) I rfl rfl fun b36 w I=>Abj (O.alloc I zeroValue87 rfl fun b8 w I=>Abj (Sp0 I Zu 0 rfl rfl rfl rfl fun w I=>Abh<|AbQ<|AbS<|Abj (O.alloc I zeroValue51 rfl fun b9 w I=>Abh ?_))));have I:=I.aa0 5 b9;refine AbQ<|AbQ<|AbS<|At0 Mv<|Abj (Ac9 I call29 (PT _ I.j6 t) rfl ?_);rintro _ h2 M1 w I gl1 ⟨bl,rfl,rfl⟩;try simp only[AfH,AfC] at I
  refine Abh ?_;have pi2:=pi.le gl1;refine WPF.block ?_;by_cases ht4:4096<t.size
  ·exact absurd ht4 h5
  have I:Inv B h2 (box bl [.string t] 9::plU b36 b9 b8 b6 p (p,[],.pointer none,none,0,0)) _:=I.perm (List.Perm.cons _ (Agi (l₁:=[_,_,_]) (l₂:=[_])).symm);refine Ada (σ:=PlS) (own:=box bl [.string t] 9) (encs:=AaA) (xs:=DZ t) ⟨_,func13⟩ (plU b36 b9 b8 b6 p) (fun k hg z=>PlJ st t b9 k hg z) (fun _ _ _=>False) (p,[],.pointer none,none,0,0) I ⟨⟨rfl,by rw[←pe,Aab]⟩,pi2,pn,hc,.inl rfl,Afa _⟩
   (fun k z hg hg' hl j=>⟨j.run,j.inn.le hl,j.nm,j.chk,j.bp,j.len⟩) rfl call67 (Ny t (by omega) bl) (fun _=>rfl) (by kernel_rfl) (by kernel_rfl) (by kernel_rfl) ?_ ?_ (fun D ch W hx=>hx.elim)
  ·rintro l D r hg k x ⟨P,o,pv,a,n,c⟩ X W hx gl I ⟨jr,ji,jn,jc,jb,jl⟩;dsimp only at jr ji jn jc jb jl;obtain⟨hz,hxs,hks⟩:=PU hx;have hxl:=Lib.trimSuffix_le (tx x) [10];rw[BF] at hxl;have V2:=V.le ((le1.trans gl1).trans gl);refine AbU (by kernel_rfl)<|At0 Ag<|Abh ?_;refine⟨hg,Ae.le.refl _,I,fun r' W2 I=>?_⟩;have J:Inv B hg ((plU b36 b9 b8 b6 p (P,o,pv,a,n,c)++[AN l r',AA D])++X) W2:=I.perm AgF;have I:Inv B hg (box b36 P.enc 89::([MN b9 (.slice a n c) o,IK b9 pv (.slice a n c),box b8 [Pt b36] 87,box b6 p.enc 25,AN l r',AA D]++X)) W2:=J;refine WPI.block<|Ad8 AC I 3 (by kernel_rfl)<|Fp (fun _ w us hl I=>Ld I Zu 3 0 1 rfl rfl rfl)<|Ft (fun _ w us hl I=>Mv) ?_;refine AcE (v:=.string (mk (Lib.trimSuffix (tx x) [10]))) (fun _=>Aj _) ?_ ?_
   ·intro _ w hl I;try unfold CT
    exact Abm I call31 (K6 _ I.j6 x ⟨#[10]⟩ (by omega)) rfl (fun w' I'=>⟨rfl,I'⟩)
   refine AbX fun _ w hl I=>?_;try unfold CT
   refine Abj (Ace call39 (YX (V2.le hl) I (ji.le hl) jn jc (mk (Lib.trimSuffix (tx x) [10])) (by rw[Ar];omega)) rfl ?_);rintro ed w ⟨o1,h',q,rfl,gl2,I,qi,qn,qc,hG⟩;refine⟨_,rfl,?_⟩;have h1l:=QS jc hG;have z1:=Ar o1;refine At0 (AbP rfl rfl (by show(mk o1).size+1≤_;omega))<|Abj (Ace call23 (JU I 2 1 (by decide) rfl rfl jb (t:=o1++[10]) (by simp only[DO,BD,txl,Afe,Afs,AfH,AfC]) (by rw[Ae2];simp only[Ae6,Afc];omega)) rfl ?_);rintro ed w ⟨rfl,a',k',c',I⟩;refine⟨_,rfl,?_⟩;refine Abh ?_;refine⟨h',(q,o++(o1++[10]),Pt b9,a',k',c'),[],hl.trans gl2,?_,⟨jr.step hz hG,qi,qn,qc,.inr rfl,by dsimp only;simp only[Ae2,Ae6,Afc];omega⟩⟩;have J:Inv B h' ((plU b36 b9 b8 b6 p (q,o++(o1++[10]),Pt b9,a',k',c')++[AN l r',AA D])++X) w:=I;show Inv B h' (X++(plU b36 b9 b8 b6 p (q,o++(o1++[10]),Pt b9,a',k',c')++[AN l r',AA D])) w;exact J.perm AgF
  ·rintro D h2 ⟨P,o,pv,a,n,c⟩ W gl I ⟨jr,ji,jn,jc,jb,jl⟩;dsimp only at jr ji jn jc jb jl;have I:Inv B h2 [box b36 P.enc 89,MN b9 (.slice a n c) o,IK b9 pv (.slice a n c),box b8 [Pt b36] 87,box b6 p.enc 25,AA D] W:=I;have hlen:(DZ t).length=(Dc t).length:=by unfold DZ Dc;rw[Afw,Afw]
   rw[hlen] at jr;have hPl:=hans o P jr h7;refine AbQ<|AbS<|Abj (Ace call27 (UU I hB 2 1 5 D rfl rfl jb rfl) rfl ?_);rintro ed w ⟨rfl,I⟩;refine⟨_,rfl,?_⟩;refine At0 Ag<|Ai Ag<|Abh<|AcO ?_;repeat (first|refine BO ?_|refine Bq ?_)
   intro tmps he;refine WX I fun w' I=>?_;exact⟨_,A9 (a:={tmps:=tmps,defers:=[]}) rfl (vs:=[.string (mk o),.int .i64 0]) (by rw[he];exact⟨rfl,rfl,trivial⟩),_,_,rfl,I.j5,o,0,rfl,hPl⟩
end
section
theorem LG{s t:ByteArray}{o o':Bs}{e e':Int}(h:FP s t o e)(h':FP s t o' e'):o=o'∧e=e':=by
 by_cases hs:4096<s.size
 ·unfold FP at h h';rw[if_pos hs] at h h';exact⟨h.1.trans h'.1.symm,h.2.trans h'.2.symm⟩
 cases hk:B4 s with
 |none=>
  unfold FP at h h';rw[if_neg hs,hk] at h h';exact⟨h.1.trans h'.1.symm,h.2.trans h'.2.symm⟩
 |some st=>
  rw[Ce hs hk] at h h';split at h
  ·rename_i h1;rw[if_pos h1] at h';exact⟨h.1.trans h'.1.symm,h.2.trans h'.2.symm⟩
  rename_i h1;rw[if_neg h1] at h';split at h
  ·rename_i h2;rw[if_pos h2] at h';exact⟨h.1.trans h'.1.symm,h.2.trans h'.2.symm⟩
  rename_i h2;rw[if_neg h2] at h';obtain⟨e1,Q,r⟩:=h;obtain⟨e2,Q',r'⟩:=h';exact⟨(r.uniq rfl r').1,e1.trans e2.symm⟩
structure LnJ(T:Bs)(k from_ i:Nat):Prop where
 fi:from_≤i
 il:i≤T.length
 no:∀j,from_≤j→j<i→T[j]?≠some 10
 kl:k≤(linesS T.length T).length
 ls:∃f,T.length-from_≤f∧linesS f (T.drop from_)=(linesS T.length T).drop k
theorem LnJ.zero(T:Bs):LnJ T 0 0 0:=⟨Afg _,Afa _,fun j h1 h2=>by omega,Afa _,T.length,by omega,rfl⟩
theorem LnJ.pass{T:Bs}{k a i:Nat}(j:LnJ T k a i)(hi:i<T.length)(h:T[i]?≠some 10):LnJ T k a (i+1):=
 ⟨by have:=j.fi;omega,hi,fun q h1 h2=>by
  by_cases hq:q=i
  ·subst hq;exact h
  ·exact j.no q h1 (by omega),j.kl,j.ls⟩
theorem LnJ.line{T:Bs}{k a i:Nat}(j:LnJ T k a i)(h:T[i]?=some 10):(linesS T.length T)[k]?=some ((T.drop a).take (i-a)++[10])∧LnJ T (k+1) (i+1) (i+1):=by
 obtain⟨hi,he⟩:=Ae9.1 h;have h1:=j.fi;obtain⟨f,hf,hls⟩:=j.ls;obtain⟨f,rfl⟩:∃g,f=g+1:=⟨f-1,by omega⟩;have e1:T.drop a=(T.drop a).take (i-a)++([10]++T.drop (i+1)):=by
  have h2:(T.drop a).drop (i-a)=T.drop i:=by rw[Ah2];congr 1;omega
  have h3:T.drop i=[10]++T.drop (i+1):=by rw[AfZ hi,he];rfl
  rw[←h3,←h2,AgG]
 have hno:(10:UInt8)∉(T.drop a).take (i-a):=fun hm=>by
  obtain⟨q,hq⟩:=AgU.1 hm;rw[AfF] at hq;split at hq
  ·rename_i hlt;rw[Af9] at hq;exact j.no (a+q) (by omega) (by omega) hq
  ·cases hq
 have hl:((T.drop a).take (i-a)).length=i-a:=by rw[Afj,AfD];omega
 have hix:Lib.index (T.drop a) [10]=((i-a:Nat):Int):=by
  have hF:=FU (a:=(T.drop a).take (i-a)) (b:=T.drop (i+1)) (sep:=[10]) (c:=10) (k:=0) rfl hno fun j hj=>by omega
  rw[hl,←e1] at hF;exact hF
 have hne:T.drop a≠[]:=fun e=>by rw[e] at e1;have:=congrArg List.length e1;simp at this
 rw[linesS,if_neg hne,hix,if_pos (by omega),Afs] at hls;have e2:(T.drop a).take (i-a+1)=(T.drop a).take (i-a)++[10]:=by
  rw[AfS,Af9,show a+(i-a)=i by omega,h];rfl
 have e3:(T.drop a).drop (i-a+1)=T.drop (i+1):=by rw[Ah2];congr 1;omega
 rw[e2,e3] at hls;obtain⟨g1,g2,g3⟩:=Nx hls;exact⟨g1,Afg _,hi,fun j h1 h2=>by omega,g3,f,by omega,g2⟩
theorem LnJ.done{T:Bs}{k a:Nat}(j:LnJ T k a T.length)(h7:¬(T≠[]∧Lib.hasSuffix T [10]=false)):k=(linesS T.length T).length:=by
 have ha:a=T.length:=by
  by_cases hT:T=[]
  ·subst hT;have:=j.fi;simp at this;omega
  ·have hs:Lib.hasSuffix T [10]=true:=by
    cases hh:Lib.hasSuffix T [10]
    ·exact absurd ⟨hT,hh⟩ h7
    ·rfl
   unfold Lib.hasSuffix at hs;rw[AgC] at hs;obtain⟨r,hr⟩:=hs;have h1:=j.fi;by_cases hlt:a<T.length
   ·exfalso;refine j.no (T.length-1) (by omega) (by omega) ?_;rw[←hr];simp
   ·omega
 obtain⟨f,_,hls⟩:=j.ls;rw[ha,Ahs] at hls;have:linesS f []=[]:=by cases f<;>simp[linesS]
 rw[this] at hls;have:=congrArg List.length hls;simp only[Afc,AfD] at this;have:=j.kl;omega
theorem AeL{t:ByteArray}{k:Nat}{x:Bs}(h:(linesS (tx t).length (tx t))[k]?=some (x++[10])):(Dc t)[k]?=some x:=by
 unfold Dc;rw[AfI,h,Agf,G3]
end
section
structure WrS where
 h:Ae
 rd:Bool
 c:Option (List Value)
structure JWr(B:Aq)(M:List SA)(b:Nat)(Tb:TypeId)(z:List Value)(Ψ:List Value→Ae→Prop)(i0 i9:Nat)(D:Nat→Bool)(s:WrS)(w:World):Prop where
 hr:s.rd=D i0
 hc:s.c.isSome=D i9
 ord:D i9=true→D i0=true
 ok:∀cs,s.c=some cs→Ψ cs s.h
 inv:Inv B s.h (box b (s.c.getD z) Tb::M) w
structure RWr(s s':WrS):Prop where
 h:s.h.le s'.h
 r:s.rd=true→s'.rd=true
theorem RWr.pre:Pre RWr:=⟨fun _=>⟨Ae.le.refl _,fun h=>h⟩,fun _ _ _ h k=>⟨h.h.trans k.h,fun e=>k.r (h.r e)⟩⟩
def QZ(Φ:Sp)(u:Value)(s:WrS):Prop:=s.rd=true∧Φ u s.h
theorem QZ.mono{Φ:Sp}(hm:Bt Φ):Cj RWr (QZ Φ):=fun _ _ _ r h=>⟨r.r h.1,hm _ _ _ r.h h.2⟩
section
variable {P:Program}{o:Oper}{e:Env}{B:Aq}{M:List SA}{b:Nat}{Tb:TypeId}{z:List Value}{Ψ:List Value→Ae→Prop}{i0 i9 i:Nat}{D:Nat→Bool}{s:WrS}{w:World}
theorem JWr.base(j:JWr B M b Tb z Ψ i0 i9 D s w):Inv B s.h M w:=j.inv.drop
theorem JWr.set(h:i0≠i∧i9≠i):∀D s w,JWr B M b Tb z Ψ i0 i9 D s w→JWr B M b Tb z Ψ i0 i9 (AZ D i) s w:=fun D s w j=>by
 have e:∀x,x≠i→AZ D i x=D x:=fun x hx=>by simp[AZ,hx]
 exact⟨by rw[e _ h.1];exact j.hr,by rw[e _ h.2];exact j.hc,by rw[e _ h.1,e _ h.2];exact j.ord,j.ok,j.inv⟩
theorem JWr.look{v:Value}(j:JWr B M b Tb z Ψ i0 i9 D s w)(hD:D i0=false)(h:i9≠i0)(hy:Inv B s.h (box b z Tb::M) w→Y P o e w v) :
  Op1 P o e w fun u w'=>∃s',RWr s s'∧JWr B M b Tb z Ψ i0 i9 (AZ D i0) s' w'∧QZ (fun u _=>u=v) u s':=by
 have e':∀x,x≠i0→AZ D i0 x=D x:=fun x hx=>by simp[AZ,hx]
 have h9:D i9=false:=by
  cases hh:D i9
  ·rfl
  ·rw[j.ord hh] at hD;cases hD
 have hc:s.c=none:=by have:=j.hc;rw[h9] at this;cases hh:s.c<;>simp_all
 have I:=j.inv;rw[hc] at I;unfold Op1;rw[hy I];refine⟨⟨s.h,true,s.c⟩,⟨Ae.le.refl _,fun _=>rfl⟩,⟨by simp[AZ],by rw[e' _ h];exact j.hc,fun _=>by simp[AZ],j.ok,j.inv⟩,rfl,rfl⟩
theorem JWr.pure{v:Value}(j:JWr B M b Tb z Ψ i0 i9 D s w)(h:i0≠i∧i9≠i)(hy:Y P o e w v){Φ:Sq WrS}(hv:Φ v s) :
  Op1 P o e w fun u w'=>∃s',RWr s s'∧JWr B M b Tb z Ψ i0 i9 (AZ D i) s' w'∧Φ u s':=by
 unfold Op1;rw[hy];exact⟨s,RWr.pre.refl s,JWr.set h _ _ _ j,hv⟩
theorem JWr.know{Φ:Sp}(hm:WU Ψ)(j:JWr B M b Tb z Ψ i0 i9 D s w)(h:i0≠i∧i9≠i)(hr:s.rd=true)(hop:∀N,Inv B s.h N w→Op1 P o e w fun u w'=>∃h',s.h.le h'∧Inv B h' N w'∧Φ u h') :
  Op1 P o e w fun u w'=>∃s',RWr s s'∧JWr B M b Tb z Ψ i0 i9 (AZ D i) s' w'∧QZ Φ u s':=
 (hop _ j.inv).mono fun u w' ⟨h',hl,I,hu⟩=>by
  have q:=JWr.set (B:=B) (M:=M) (b:=b) (Tb:=Tb) (z:=z) (Ψ:=Ψ) h D s w j;exact⟨⟨h',s.rd,s.c⟩,⟨hl,fun h=>h⟩,⟨q.hr,q.hc,q.ord,fun cs hcs=>hm cs _ _ hl (j.ok cs hcs),I⟩,hr,hu⟩
theorem JWr.put{t:TypeId}{pos:String}{af:Array Edge}{a x:Operand}{n:Nat}{ag:Bool}{v:Value}{c:List Value}(j:JWr B M b Tb z Ψ i0 i9 D s w)(hT:Ty P Tb n ag)(hz:z.length=n)(hcl:c.length=n)(hD:D i9=false)(h:i0≠i9)(hr:s.rd=true)(ha:ev e a=(Pt b))(hx:ev e x=v)(hv:v.cells=c.toArray)(h1:AJ c=true)(hΨ:Ψ c s.h) :
  Op1 P ⟨none,.store Tb a x,t,pos,af,none⟩ e w fun u w'=>∃s',RWr s s'∧JWr B M b Tb z Ψ i0 i9 (AZ D i9) s' w'∧u=undef:=by
 have e':∀x,x≠i9→AZ D i9 x=D x:=fun x hx=>by simp[AZ,hx]
 have hc9:s.c=none:=by have:=j.hc;rw[hD] at this;cases h:s.c<;>simp_all
 have hD0:D i0=true:=by rw[←j.hr];exact hr
 have I:=j.inv;rw[hc9] at I;refine Ab3 (cs':=c) I hT 0 rfl ha hx hv hcl h1 (by show 0+c.length≤z.length;omega) ?_ fun w' I'=>⟨⟨s.h,s.rd,some c⟩,⟨Ae.le.refl _,fun h=>h⟩,⟨?_,?_,fun _=>?_,fun cs hcs=>?_,I'⟩,rfl⟩
 ·show CB z 0 c=c;rw[Dp _ _ _ (Afa _)];simp[hcl,hz]
 ·rw[e' _ h];exact j.hr
 ·simp[AZ]
 ·rw[e' _ h];exact hD0
 ·injection hcs with hcs;subst hcs;exact hΨ
theorem JWr.fin(j:JWr B M b Tb z Ψ i0 i9 D s w)(hD:D i9=true):∃cs,Ψ cs s.h∧Inv B s.h (box b cs Tb::M) w:=by
 have hc:=j.hc;rw[hD] at hc;obtain⟨cs,hcs⟩:=Agt.1 hc;have I:=j.inv;rw[hcs] at I;exact⟨cs,j.ok cs hcs,I⟩
end
end
section
structure WY(l:List Prd)(s:Bs)(r:Rul)(h0 h:Ae):Prop where
 ho:Di 109 2 r.head.args Trm.enc h0 h
 hn:r.head.args.xs.length≤4098
 bo:Di 68 3 r.body Ltl.enc h0 h
 bn:r.body.xs.length≤4098
 lo:∀x∈r.body.xs,Di 109 2 x.atom.args Trm.enc h0 h∧x.atom.args.xs.length≤4098
 er:r.er=OL l s
theorem Ph(B:Aq)(hB:B.ok)(l:Sl Prd)(hl:HQ l B.h)(s:ByteArray)(hs:s.size≤4096):Fn prog 49 [l.val,.string s] B (fun v h=>∃r:Rul,v=r.val∧WY l.xs (tx s) r B.h h):=by
 have hl0:=BF s;obtain⟨ct,hct⟩:∃z,Lib.cut (tx s) [32,58,45,32]=z:=⟨_,rfl⟩;obtain⟨n0,r0,b0⟩:=ct;have hlen:=Cw (tx s) [32,58,45,32];rw[hct] at hlen;dsimp only at hlen;obtain⟨c2,hc2⟩:∃z,Lib.cut n0 [32,61,32]=z:=⟨_,rfl⟩;obtain⟨n1,r1,b1⟩:=c2;have hlen1:=Cw n0 [32,61,32];rw[hc2] at hlen1;dsimp only at hlen1;obtain⟨c3,hc3⟩:∃z,Lib.cut r1 [43]=z:=⟨_,rfl⟩;obtain⟨n2,r2,b2⟩:=c3;have hlen2:=Cw r1 [43];rw[hc3] at hlen2;dsimp only at hlen2;obtain⟨tot,htot⟩:∃z,(if b0=true then Nn l.xs ((tx s).length+1) r0 else [])=z:=⟨_,rfl⟩;obtain⟨hv,hhv⟩:∃z,hdF n0=z:=⟨_,rfl⟩;obtain⟨hd,v1,v2⟩:=hv;have hF:OL l.xs (tx s)=mkR (H0 l.xs hd) (v1,v2) tot:=by unfold OL;rw[hct];dsimp only;rw[hhv,←htot]
 have hH:(if b1=true then (n1,(if b2=true∧n2≠[] then (BP (n2.drop 1),BP r2) else (-1,BP r1))) else (n0,((-1:Int),(0:Int))))=(hd,v1,v2):=by
  rw[←hhv];unfold hdF Aai;rw[hc2];dsimp only;rw[hc3]
 refine Fo hB func49 rfl ntmps49 fun e I=>Sr<|Abj (O.alloc I Aip rfl fun b4 w I=>Abh<|Sr<|At0 Mv<|Abj (Abm I call47 (DL _ I.j6 s [32,58,45,32] hs (by decide) hct) rfl fun w I=>Av Mv<|At0 (Y.extract rfl rfl)<|At0 (Y.extract rfl rfl)<|Ab (Y.extract rfl rfl)<|At0 Ag<|At0 Ag<|Ab Ag<|Abh<|Sr<|AbB (v:=.agg #[.int .i64 _,.slice _ _ _,.int .i64 _,.int .i64 _,.slice _ _ _]) (Y.build LQ Aip rfl rfl)<|Abj (O.alloc I Aip rfl fun b8 w I=>Abj (Ab3 (v:=.agg #[_,_,_,_,_]) I C0 0 rfl rfl rfl rfl rfl rfl (Nb rfl) rfl fun w I=>Abh<|Abi<|Sr<|At0 Mv<|Abj (Abm I call47 (DL _ I.j6 (mk n0) [32,61,32] (by rw[Ar];omega) (by decide) hc2) rfl fun w I=>Av Mv<|At0 (Y.extract rfl rfl)<|At0 (Y.extract rfl rfl)<|Ab (Y.extract rfl rfl)<|At0 Ag<|At0 Ag<|Ab Ag<|Abh<|Sr<|Ab Mv<|Abh ?_)))));refine Acc (σ:=Unit) (fun _=>[(0,l.val),(4,Pt b4),(5,.string (mk hd)),(6,.string (mk r0)),(7,.bool b0),(8,Pt b8)])
  (fun _ w=>hd.length≤4096∧Inv B B.h [box b8 [.int .i64 0,.slice none 0 0,.int .i64 v1,.int .i64 v2,.slice none 0 0] 64,box b4 [.int .i64 0,.slice none 0 0,.int .i64 0,.int .i64 0,.slice none 0 0] 64] w) ?_ ?_
 ·refine AbG rfl (fun h30=>?_) (fun h30=>?_)
  ·have hb:b1=true:=h30;rw[if_pos hb] at hH;injection hH with e1 e2;subst e1;refine Sr<|At0 Mv<|At0 Ag<|Abh<|Sr<|At0 Mv<|Abj (Abm I call47 (DL _ I.j6 (mk r1) [43] (by rw[Ar];omega) (by decide) hc3) rfl fun w I=>Av Mv<|At0 (Y.extract rfl rfl)<|At0 (Y.extract rfl rfl)<|Ab (Y.extract rfl rfl)<|At0 Ag<|At0 Ag<|Ab Ag<|Abh ?_);by_cases hb2:b2=true∧n2≠[]
   ·rw[if_pos hb2] at e2;injection e2 with e2 e3;subst e2;subst e3;have hxp:=Af7.2 hb2.2;have e1:(mk n2).extract 1 (mk n2).size=mk (n2.drop 1):=by rw[CJ,Ar,Afo]
    refine Abi<|Sr<|Ab Mv<|AT (Y.b Mv ((by rw[hb2.1])))<|Gt Mv<|Gi (AbF Ah9 rfl)<|GT (Abs (AbL rfl rfl) ((by rw[Ar];omega)))<|Ab (Abo rfl rfl)<|Abh<|Abw rfl<|Sr<|At0 Mv<|At0 (Acu (l:=1) (h:=(mk n2).size) Ah9 rfl (.inr ⟨_,_,rfl,rfl⟩) (.inl ⟨rfl,rfl⟩) (by rw[Ar];omega) (Afg _))<|Abj (Abm I call48 (DK _ I.j6 ((mk n2).extract 1 (mk n2).size) (by rw[e1,Ar,AfD];omega)) rfl fun w I=>Ap (Abr AV rfl)<|Abj (Si I An 0 rfl rfl rfl rfl fun w I=>Abh<|Abg<|At0 Mv<|At0 Ag<|Abh<|Abg<|At0 Mv<|Abj (Abm I call48 (DK _ I.j6 (mk r2) (by rw[Ar];omega)) rfl fun w I=>Ap (Abr BJ rfl)<|Abj (Si I An 0 rfl rfl rfl rfl fun w I=>Abh ?_))));rw[e1] at I;exact⟨(),⟨rfl,rfl,rfl,rfl,rfl,rfl,trivial⟩,by omega,I⟩
   ·rw[if_neg hb2] at e2;injection e2 with e2 e3;subst e2;subst e3;by_cases hb3:b2=true
    ·have hn:n2=[]:=by
      cases n2 with
      |nil=>rfl
      |cons _ _=>exact absurd ⟨hb3,by simp⟩ hb2
     subst hn;refine Abi<|Sr<|Ab Mv<|AT (Y.b Mv ((by rw[hb3])))<|Gt Mv<|Gi (AbF Ah9 rfl)<|GF (Abt (AbL rfl rfl) ((by show ¬((0:Nat):Int)>0;omega)))<|Ab (Abo rfl rfl)<|Abh<|Abq rfl<|Abk<|Abg<|At0 Mv<|Abj (Abm I call48 (DK _ I.j6 (mk r1) (by rw[Ar];omega)) rfl fun w I=>Ap (Abr BJ rfl)<|Abj (Si I An 0 rfl rfl rfl rfl fun w I=>Abh ?_));exact⟨(),⟨rfl,rfl,rfl,rfl,rfl,rfl,trivial⟩,by omega,I⟩
    ·have hb3:b2=false:=by simpa using hb3
     refine Abi<|Sr<|Ab Mv<|AF (Y.b Mv ((by rw[hb3])))<|Gg<|Gg<|Gg<|Ab (Abp rfl rfl)<|Abh<|Abq rfl<|Abk<|Abg<|At0 Mv<|Abj (Abm I call48 (DK _ I.j6 (mk r1) (by rw[Ar];omega)) rfl fun w I=>Ap (Abr BJ rfl)<|Abj (Si I An 0 rfl rfl rfl rfl fun w I=>Abh ?_));exact⟨(),⟨rfl,rfl,rfl,rfl,rfl,rfl,trivial⟩,by omega,I⟩
  ·have hb:b1=false:=by simpa using h30
   rw[if_neg (by rw[hb];decide)] at hH;injection hH with e1 e2;injection e2 with e2 e3;subst e1;subst e2;subst e3;refine Abk ?_;exact⟨(),⟨rfl,rfl,rfl,rfl,rfl,rfl,trivial⟩,by omega,I⟩
 rintro _ e w ⟨hhd,I⟩;refine Sr<|As0 Mv<|At0 Mv<|Abj (AbE I call108 (GX _ I.j6 l hl (mk hd) (by rw[Ar];omega)) rfl ?_);rintro _ h1 w I gl1 ⟨a1,rfl,oa1,la1,ra1⟩;refine Ap (Abu Bw rfl)<|Abj (Sx I AP 0 rfl rfl rfl rfl fun w I=>Abh ?_);have ra1:a1.er=H0 l.xs hd:=ra1;refine Abi<|WP.block ?_;refine Abx (σ:=Bs×Bool×List Ltl×Option Addr×Nat×Ae) (fun z=>[(0,l.val),(4,Pt b4),(6,.string (mk z.1)),(7,.bool z.2.1),(8,Pt b8)])
  (fun z w=>Inv B z.2.2.2.2.2 [Ao 68 3 (.slice z.2.2.2.1 z.2.2.1.length z.2.2.2.2.1) z.2.2.1.length (z.2.2.1.flatMap Ltl.enc),box b8 [.int .i64 a1.pred,a1.args.val,.int .i64 v1,.int .i64 v2,.slice z.2.2.2.1 z.2.2.1.length z.2.2.2.2.1] 64,box b4 [.int .i64 0,.slice none 0 0,.int .i64 0,.int .i64 0,.slice none 0 0] 64] w∧h1.le z.2.2.2.2.2∧
   (∃f,z.2.2.1.map Ltl.er++(if z.2.1=true then Nn l.xs f z.1 else [])=tot∧(z.2.1=true→z.1.length<f))∧z.1.length≤4096∧z.2.2.1.length+(if z.2.1=true then z.1.length+1 else 0)≤4098∧
   (∀x∈z.2.2.1,Di 109 2 x.atom.args Trm.enc B.h z.2.2.2.2.2∧x.atom.args.xs.length≤4098)) (fun z=>if z.2.1=true then z.1.length+1 else 0)
  ⟨(r0,b0,[],none,0,h1),⟨rfl,rfl,rfl,rfl,rfl,trivial⟩,I.l9 68 3,Ae.le.refl _,⟨(tx s).length+1,by rw[←htot];rfl,fun _=>by dsimp only;omega⟩,by dsimp only;omega,by show 0+(if b0=true then r0.length+1 else 0)≤4098;split<;>omega,fun _ h=>(by cases h)⟩ ?_
 clear I;rintro⟨r,b,acc,q,c,hh⟩ e w ⟨I,gl,⟨f,hf,hrf⟩,hr,hacc,hown⟩;dsimp only at I gl hf hrf hr hacc hown ⊢;refine Abi<|Sr<|Ab Mv<|Abh ?_;refine AbG rfl (fun h56=>?_) (fun h56=>?_)
 ·have hb:b=true:=h56;subst hb;rw[if_pos rfl] at hf hacc;have hrf:=hrf rfl;obtain⟨f,rfl⟩:∃g,f=g+1:=⟨f-1,by omega⟩;obtain⟨c5,hc5⟩:∃z,Lib.cut r [44,32]=z:=⟨_,rfl⟩;obtain⟨x,y,b5⟩:=c5;have hlen5:=Cw r [44,32];rw[hc5] at hlen5;dsimp only at hlen5;rw[Nn,hc5] at hf;dsimp only at hf;obtain⟨nw,hnw⟩:∃z,(if x.head?=some 33 then (true,x.drop 1) else (false,x))=z:=⟨_,rfl⟩;obtain⟨ng,wd⟩:=nw;have hL:XX l.xs x=⟨ng,H0 l.xs wd⟩:=by
   unfold XX;split at hnw<;>rename_i hh33<;>(injection hnw with e1 e2;subst e1;subst e2)<;>simp[hh33]
  have hwl:wd.length≤4096:=by
   split at hnw<;>(injection hnw with _ e2;subst e2)<;>first|omega|(rw[AfD];omega)
  refine Abk<|WP.block<|Sr<|At0 Ag<|Abh<|Sr<|At0 Mv<|Abj (Abm I call47 (DL _ I.j6 (mk r) [44,32] (by rw[Ar];omega) (by decide) hc5) rfl fun w I=>Av Mv<|At0 (Y.extract rfl rfl)<|At0 (Y.extract rfl rfl)<|Ab (Y.extract rfl rfl)<|At0 Ag<|At0 Ag<|Ab Ag<|Abh<|Sr<|AbB (v:=.agg #[.bool _,.int .i64 _,.slice _ _ _]) (Y.build Vd Aiu rfl rfl)<|Abj (O.alloc I Aiu rfl fun b16 w I=>Abj (Sy I EQ 0 rfl rfl rfl rfl fun w I=>Abh<|Abi ?_)));refine Acc (σ:=Unit) (fun _=>[(0,l.val),(4,Pt b4),(6,.string (mk y)),(7,.bool b5),(8,Pt b8),(15,.string (mk wd)),(16,Pt b16)])
   (fun _ w=>Inv B hh [box b16 [.bool ng,.int .i64 0,.slice none 0 0] 68,Ao 68 3 (.slice q acc.length c) acc.length (acc.flatMap Ltl.enc),box b8 [.int .i64 a1.pred,a1.args.val,.int .i64 v1,.int .i64 v2,.slice q acc.length c] 64,box b4 [.int .i64 0,.slice none 0 0,.int .i64 0,.int .i64 0,.slice none 0 0] 64] w) ?_ ?_
  ·cases x with
   |nil=>
    rw[if_neg (by simp)] at hnw;injection hnw with e1 e2;subst e1;subst e2;exact Sr<|At0 Mv<|Ai (AbF Ah9 rfl)<|AF (Abt (AbL rfl rfl) ((by show ¬((0:Nat):Int)>0;omega)))<|Ab Mv<|Gg<|Gg<|Gg<|Ab (Abp rfl rfl)<|Abh<|Abq rfl<|Abk<|⟨(),⟨rfl,rfl,rfl,rfl,rfl,rfl,rfl,trivial⟩,I⟩
   |cons ch x'=>
    have hg:(mk (ch::x'))[0]?=some ch:=rfl;have hsz:(mk (ch::x')).size=x'.length+1:=Ar _;by_cases h33:ch=33
    ·subst h33;rw[if_pos (by rfl:((33:UInt8)::x').head?=some 33)] at hnw;injection hnw with e1 e2;subst e1;have e3:(mk ((33:UInt8)::x')).extract 1 (mk ((33:UInt8)::x')).size=mk wd:=by rw[CJ,Ar,Afo,e2]
     exact Sr<|At0 Mv<|Ai (AbF Ah9 rfl)<|AT (Abs (AbL rfl rfl) ((by rw[hsz];omega)))<|Ab Mv<|Gt Mv<|Gw (Aci Ah9 rfl rfl (by decide) hg)<|GT (Abs (AbI rfl rfl) (rfl))<|Ab (Abo rfl rfl)<|Abh<|Abw rfl<|Sr<|Ap (Abu BK rfl)<|Abj (Sb I Br 0 rfl rfl rfl rfl fun w I=>Abh<|Abg<|At0 Mv<|At0 (Acu (l:=1) (h:=(mk ((33:UInt8)::x')).size) Ah9 rfl (.inr ⟨_,_,rfl,rfl⟩) (.inl ⟨rfl,rfl⟩) (by rw[hsz];omega) (Afg _))<|At0 Ag<|Abh<|⟨(),⟨rfl,rfl,rfl,rfl,rfl,congrArg Value.string e3,rfl,trivial⟩,I⟩)
    ·rw[if_neg (by simpa using h33)] at hnw;injection hnw with e1 e2;subst e1;subst e2;exact Sr<|At0 Mv<|Ai (AbF Ah9 rfl)<|AT (Abs (AbL rfl rfl) ((by rw[hsz];omega)))<|Ab Mv<|Gt Mv<|Gw (Aci Ah9 rfl rfl (by decide) hg)<|GF (Abt (AbI rfl rfl) ((fun e=>h33 (AgX.1 (by have:(ch.toNat:Int)=33:=e;show ch.toNat=33;omega)))))<|Ab (Abo rfl rfl)<|Abh<|Abq rfl<|Abk<|⟨(),⟨rfl,rfl,rfl,rfl,rfl,rfl,rfl,trivial⟩,I⟩
  rintro _ e w I;refine Sr<|As0 Mv<|At0 Mv<|Abj (AbE I call108 (GX _ I.j6 l (hl.le (gl1.trans gl)) (mk wd) (by rw[Ar];omega)) rfl ?_);rintro _ h2 w I gl2 ⟨a2,rfl,oa2,la2,ra2⟩;refine Ap (Abr Bk rfl)<|Abj (Sx I AP 0 rfl rfl rfl rfl fun w I=>Abh ?_);have ra2:a2.er=H0 l.xs wd:=ra2;obtain⟨z,hz⟩:∃z:Ltl,z=⟨ng,a2⟩:=⟨_,rfl⟩;have hze:z.er=XX l.xs x:=by rw[hL,←ra2,hz];rfl
  have I:Inv B h2 [box b16 z.enc 68,Ao 68 3 (.slice q acc.length c) acc.length (acc.flatMap Ltl.enc),box b8 [.int .i64 a1.pred,a1.args.val,.int .i64 v1,.int .i64 v2,.slice q acc.length c] 64,box b4 [.int .i64 0,.slice none 0 0,.int .i64 0,.int .i64 0,.slice none 0 0] 64] w:=by subst hz;exact I
  refine Abg<|Ap (Abr AG rfl)<|As0 (Ld I Bi 2 4 1 rfl rfl rfl)<|Ay (Ld I EQ 0 0 3 rfl rfl rfl)<|Abj (AbY (xs:=[z]) (enc:=Ltl.enc) I Aib Ail Aiu rfl (Nb rfl) rfl rfl (by decide) (fun _=>rfl) fun b82 h82 w I le82 sl82=>Abj (Ab0 I Aib ZA 1 rfl rfl rfl (I.rd (sl82 0 _ rfl).2) rfl rfl (by decide) (by omega) (by omega) fun b83 c83 w I=>Ap (Abr AG rfl)<|Abj (Ss0 I Bi 2 rfl rfl rfl rfl fun w I=>Abh ?_)));refine⟨(y,b5,acc++[z],some ⟨b83,0,none⟩,c83,h82),⟨⟨rfl,rfl,rfl,rfl,rfl,trivial⟩,?_,(gl.trans gl2).trans le82,⟨f,?_,fun hb2=>?_⟩,by dsimp only;omega,?_,fun u hu=>?_⟩,?_⟩
  ·simp only[Ae2,Afv,Afm,AfT];exact I.drop
  ·dsimp only;rw[←hf,AfM,AgQ,hze];cases b5<;>simp
  ·dsimp only at hb2 ⊢;subst hb2;have:=E4 hc5 (by decide);omega
  ·dsimp only;rw[Ae2,Afv];cases b5 with
   |true=>have:=E4 hc5 (by decide);rw[if_pos rfl];omega
   |false=>rw[if_neg (by decide)];omega
  ·dsimp only at hu ⊢;rcases Afu.1 hu with hu|hu
   ·exact⟨(hown u hu).1.le (gl2.trans le82),(hown u hu).2⟩
   ·rw[Afl] at hu;subst hu;rw[hz];exact⟨(oa2.older (gl1.trans gl)).le le82,la2⟩
  ·dsimp only;cases b5 with
   |true=>have:=E4 hc5 (by decide);rw[if_pos rfl,if_pos rfl];omega
   |false=>rw[if_neg (by decide),if_pos rfl];omega
 have hb:b=false:=by simpa using h56
 subst hb;rw[if_neg (by decide),Aft] at hf;rw[if_neg (by decide)] at hacc;obtain⟨h9,sl,le9,hv,hx,os,I⟩:=I.y5 rfl;rw[←hv] at I;refine Abz<|Sr<|AbB (v:=.agg #[_,_,_,_,_]) (Ld I C0 0 0 5 rfl rfl rfl)<|Abj (Ab3 (v:=.agg #[_,_,_,_,_]) I C0 1 rfl rfl rfl rfl rfl rfl (Nb rfl) rfl fun w I=>Abh<|Wr ?_);exact BH.mk (vs:=[.agg #[_,_,_,_,_]]) rfl ⟨⟨_,_,_,_,_,rfl,C0,I.l5 1 rfl 0 5,rfl,rfl⟩,trivial⟩ I.j5 (⟨⟨a1,v1,v2,sl⟩,rfl,⟨oa1.le (gl.trans le9),la1,os.older (gl1.trans gl),by show sl.xs.length≤_;rw[hx];omega,fun u hu=>⟨(hown u (by rw[←hx];exact hu)).1.le le9,(hown u (by rw[←hx];exact hu)).2⟩,by rw[hF,←hf,←hx,←ra1];rfl⟩⟩)
end
section
theorem WZ{s:ByteArray}{st:St}(h:B4 s=some st):Ac (D9 st)=0∧Cz (D9 st)=tx s:=by
 unfold B4 at h;split at h
 ·cases h
 ·split at h
  ·cases h
  ·split at h
   ·rename_i hc;injection h with h;subst h;exact hc
   ·cases h
theorem YY{s:ByteArray}(hs:s.size≤4096){p:Prg}(he:p.er=D9 (OM (tx s))):B4 s=if Ac p=0∧Cz p=tx s then some (p.preds.xs,p.rules.xs.map Rul.er) else none:=by
 split
 ·rename_i hc;have hR:Rg (tx s)=some (p.preds.xs,p.rules.xs.map Rul.er):=by rw[←hc.2];exact PL hc.1
  have e:D9 (p.preds.xs,p.rules.xs.map Rul.er)=p.er:=rfl;unfold B4;rw[if_neg (by omega),hR];simp only;rw[e,B6,F4,if_pos hc]
 ·rename_i hc;cases hr:B4 s with
  |none=>rfl
  |some st=>
   exfalso;obtain⟨h3,h4⟩:=WZ hr;have hA:OM (tx s)=(st.1,st.2.map Rul.er):=by rw[←h4];exact VC h3
   have he2:p.er=(D9 st).er:=by rw[he,hA];rfl
   exact hc ⟨by rw[←B6,he2,B6,h3],by rw[←F4,he2,F4,h4]⟩
end
end Go.TF
